/- What some functions of the program answer at values that mean given lists, texts and numbers, each proved of the program's own code: part 8. Conditions: those that each theorem names. -/
import Derived.Test.YtplflfnfodghmaaGreatDoorH7
import Derived.Test.YtplflfnfodghmaaGreatDoorH4
import Derived.Test.YtplflfnfodghmaaGreatDoorH6
set_option linter.unusedSimpArgs false
set_option linter.unusedVariables false
set_option maxHeartbeats 8000000
set_option maxRecDepth 100000
section
namespace Go.Proofs.YtplflfnfodghmaaGreatDoor
open Go Go.V Go.Nb
def whV (l : List Int) : Int := l.foldl (fun v x => v * 1000 + x % 1000) 0
theorem whV_snoc (l : List Int) (x : Int) : whV (l ++ [x]) = whV l * 1000 + x % 1000 := by unfold whV; rw [List.foldl_append]; rfl
theorem whV_take (xs : List Int) (k : Nat) (h : k < xs.length) : whV (xs.take (k + 1)) = whV (xs.take k) * 1000 + xs.getD k 0 % 1000 := by
  rw [List.take_add_one, List.getElem?_eq_getElem h, ← whV_snoc, List.getD_eq_getElem?_getD, List.getElem?_eq_getElem h]; rfl
theorem whV_bd : ∀ (k : Nat) (xs : List Int), 0 ≤ whV (xs.take k) ∧ whV (xs.take k) < ((1000 ^ k : Nat) : Int)
  | 0, xs => by simp [whV]
  | k + 1, xs => by
    have ih := whV_bd k xs
    have hp : (1000 : Nat) ^ (k + 1) = 1000 ^ k * 1000 := Nat.pow_succ ..
    rw [hp]
    generalize (1000 : Nat) ^ k = p at *
    rcases Nat.lt_or_ge k xs.length with h | h
    · rw [whV_take xs k h]
      omega
    · have e : xs.take (k + 1) = xs.take k := by rw [List.take_of_length_le (by omega), List.take_of_length_le h]
      rw [e]
      omega
theorem raised_c (k : Nat) (hk : k ≤ 3) : Called Tryz.prog 139 [plD 10, .int .i64 k] (plD ((10 ^ k : Nat) : Int)) := by
  have h1 := integer_c 1 (by constructor <;> decide)
  have ht : ∀ i, i < k → Called Tryz.prog 132 [plD ((10 ^ i : Nat) : Int), plD 10] (plD ((10 ^ (i + 1) : Nat) : Int)) := fun i hi => by
    have := times01_c ((10 ^ i : Nat) : Int) 10 (Sm.lit (k := 5) (by
      rcases (by omega : i = 0 ∨ i = 1 ∨ i = 2) with e | e | e <;> subst e <;> decide) |>.mono (by omega)) ((Sm.lit (k := 5) (by decide)).mono (by omega))
    rw [Nat.pow_succ, Int.natCast_mul]
    exact this
  obtain ⟨v, hv⟩ : ∃ v : Nat → Int, v = fun i => ((10 ^ i : Nat) : Int) := ⟨_, rfl⟩
  have ht : ∀ i, i < k → Called Tryz.prog 132 [plD (v i), plD 10] (plD (v (i + 1))) := by rw [hv]; exact ht
  have h1 : Called Tryz.prog 96 [.int .i64 1] (plD (v 0)) := by rw [hv]; exact h1
  rw [show ((10 ^ k : Nat) : Int) = v k by rw [hv]]
  clear hv
  obtain ⟨ten, hten⟩ : ∃ z : Int, z = 10 := ⟨_, rfl⟩
  rw [← hten] at ht ⊢
  clear hten
  unfold plD at *
  refine called_of_run tbOk 6 ⟨Tryz.func139, rfl, rfl, Nat.le_of_ble_eq_true rfl⟩ ?_
  (conv => whnf)
  refine V.st ?_
  repeat ((try ((with_reducible refine .ext ?_); (conv => whnf))); (with_reducible refine call_intro (r := ?_) ?_ ?_); rotate_left; (focus (first | exact (h1))); (conv => whnf); refine V.st ?_)
  refine lp_any (0 : Nat) (fun i => i ≤ k) (fun i => k - i) (fun i => [(6, .int .i64 i)]) (fun i => [(5, .box [.bool (decide (v i < 0)), .ints .i64 (mg 10000 (v i).natAbs)])]) ?_ ?_ ?_
  · exact V.wk
  · exact Nat.zero_le _
  intro i hi
  have hic : ((i : Int) + 1) = ((i + 1 : Nat) : Int) := by omega
  have hti := ht i
  (conv => whnf)
  refine V.st ?_
  refine Cnd.split (CondB.mk (fun hq => ?_) (fun hq => ?_))
  · rw [decide_eq_true_eq] at hq
    have hti := hti (by omega)
    (conv => whnf)
    (try simp only [hic])
    repeat (first | (refine V.s1 ?_; (try simp only [hic])) | ((with_reducible refine recheck_and ?_ ?_); (focus ((conv => whnf); (try simp only [hic]); (repeat (refine V.s1 ?_; (try simp only [hic]))); exact ⟨rfl⟩)); (conv => whnf); (try simp only [hic])) | ((try ((with_reducible refine .ext ?_); (conv => whnf); (try simp only [hic]))); (with_reducible refine call_intro (r := ?_) ?_ ?_); rotate_left; (focus (first | exact (hti))); (conv => whnf); (try simp only [hic])))
    exact ⟨i + 1, by omega, by omega, V.wk⟩
  · rw [decide_eq_false_iff_not] at hq
    obtain rfl : i = k := by omega
    (conv => whnf)
    refine V.st ?_
    exact Fin.of rfl
theorem dwhole_c (b : Bool) (xs : List Int) (z : Int) (hz : 0 ≤ z ∧ z ≤ 3) : ∃ v : Int, (-10000000000000000000000000000000000000000 < v ∧ v < 10000000000000000000000000000000000000000) ∧
    Called Tryz.prog 95 [.agg [.bool b, .ints .u16 xs, .int .u16 z]] (.str (decZ v)) := by
  obtain ⟨n, rfl⟩ : ∃ n : Nat, z = n := ⟨z.toNat, by omega⟩
  have hzm : (n : Int) % 501 = (n : Int) := by omega
  have i0 := integer_c 0 (by constructor <;> decide)
  have i1 := integer_c 1000 (by constructor <;> decide)
  have i2 := integer_c 10 (by constructor <;> decide)
  have r1 := raised_c n (by omega)
  have p10 : ((10 ^ n : Nat) : Int) ≤ 1000 ∧ 1 ≤ ((10 ^ n : Nat) : Int) := by
    rcases (by omega : n = 0 ∨ n = 1 ∨ n = 2 ∨ n = 3) with e | e | e | e <;> subst e <;> decide
  generalize ((10 ^ n : Nat) : Int) = ten at *
  obtain ⟨U, hU⟩ : ∃ U : Nat → Int, U = fun k => whV (xs.take k) := ⟨_, rfl⟩
  have bd : ∀ k, k ≤ 12 → 0 ≤ U k ∧ U k < 1000000000000000000000000000000000000 := fun k hk => by
    have := whV_bd k xs
    have h2 : (1000 : Nat) ^ k ≤ 1000 ^ 12 := Nat.pow_le_pow_right (by omega) hk
    rw [hU]
    exact ⟨this.1, Int.lt_of_lt_of_le this.2 (Int.ofNat_le.2 h2)⟩
  have st : ∀ k, k < xs.length → U (k + 1) = U k * 1000 + xs.getD k 0 % 1000 := fun k hk => by rw [hU]; exact whV_take xs k hk
  have V0 : U 0 = 0 := by rw [hU]; rfl
  have Vn : ∀ k, ¬ (k < 12 ∧ k < xs.length) → k ≤ 12 → U k = U 12 := fun k h1 h2 => by
    rw [hU]
    show whV (xs.take k) = whV (xs.take 12)
    rcases (by omega : k = 12 ∨ xs.length ≤ k) with e | e
    · rw [e]
    · rw [List.take_of_length_le e, List.take_of_length_le (by omega)]
  clear hU
  have sm : ∀ a : Int, 0 ≤ a → a < 1000000000000000000000000000000000000000 → Sm 10 a := fun a h1 h2 => Sm.lit (by omega)
  have sm2 : ∀ a : Int, 0 ≤ a → a < 1000000000000000000000000000000000000000 → (mg 10000 a.natAbs).length ≤ 10 := sm
  have hb := bd 12 (by omega)
  have hfin : 0 ≤ U 12 * ten ∧ U 12 * ten < 1000000000000000000000000000000000000000 := by
    have h1 := Int.mul_nonneg hb.1 (show 0 ≤ ten by omega)
    have h2 := Int.mul_le_mul_of_nonneg_left p10.1 hb.1
    omega
  have t9 := times01_c (U 12) ten ((sm _ hb.1 (by omega)).mono (by omega)) ((sm _ (by omega) (by omega)).mono (by omega))
  obtain ⟨w, hw⟩ : ∃ w : Int, U 12 * ten = w := ⟨_, rfl⟩
  rw [hw] at t9 hfin
  have m1 := made_mg b w.natAbs (by have := sm2 w hfin.1 hfin.2; omega)
  rw [show ((w.natAbs : Nat) : Int) = w by omega] at m1
  have hv : -1000000000000000000000000000000000000000 < (if b = true then -w else w) ∧ (if b = true then -w else w) < 1000000000000000000000000000000000000000 := by split <;> omega
  refine ⟨if b = true then -w else w, by omega, ?_⟩
  generalize (if b = true then -w else w) = v at *
  have o1 := out_c v (Sm.lit (k := 10) (by omega) |>.mono (by omega))
  have hd := (pad_dec 40 v.natAbs (by omega) (by omega)).1
  rw [if_neg (by omega), if_neg (by omega)] at o1
  obtain ⟨k1000, hk1000⟩ : ∃ q : Int, q = 1000 := ⟨_, rfl⟩
  obtain ⟨k10, hk10⟩ : ∃ q : Int, q = 10 := ⟨_, rfl⟩
  have tk : ∀ k, k ≤ 12 → Called Tryz.prog 132 [plD (U k), plD k1000] (plD (U k * 1000)) := fun k hk => by
    rw [hk1000]
    exact times01_c (U k) 1000 ((sm _ (bd k hk).1 (by have := (bd k hk).2; omega)).mono (by omega)) ((sm _ (by omega) (by omega)).mono (by omega))
  have i1 : Called Tryz.prog 96 [.int .i64 1000] (plD k1000) := by rw [hk1000]; exact i1
  have i2 : Called Tryz.prog 96 [.int .i64 10] (plD k10) := by rw [hk10]; exact i2
  have r1 : Called Tryz.prog 139 [plD k10, .int .i64 n] (plD ten) := by rw [hk10]; exact r1
  have i0 : Called Tryz.prog 96 [.int .i64 0] (plD (U 0)) := by rw [V0]; exact i0
  clear hk1000 hk10 hb hfin hv hw hd V0 p10
  
  unfold plD at i0 i1 i2 r1 tk t9 m1 o1
  refine called_of_run tbOk 6 ⟨Tryz.func95, rfl, rfl, Nat.le_of_ble_eq_true rfl⟩ ?_
  (conv => whnf)
  refine V.st ?_
  repeat ((try ((with_reducible refine .ext ?_); (conv => whnf))); (with_reducible refine call_intro (r := ?_) ?_ ?_); rotate_left; (focus (first | exact (i0))); (conv => whnf); refine V.st ?_)
  refine lp_any (0 : Nat) (fun k => k ≤ 12 ∧ k ≤ xs.length) (fun k => 12 - k) (fun k => [(4, .int .i64 k)]) (fun k => [(3, .box [.bool (decide (U k < 0)), .ints .i64 (mg 10000 (U k).natAbs)])]) ?_ ?_ ?_
  · exact V.wk
  · exact ⟨by omega, by omega⟩
  intro k hk
  have hkc : ((k : Int) + 1) = ((k + 1 : Nat) : Int) := by omega
  (conv => whnf)
  refine V.st ?_
  refine Cnd.split (CondB.mk (fun hq => ?_) (fun hq => ?_))
  · simp only [Bool.and_eq_true, decide_eq_true_eq] at hq
    obtain ⟨x, hx, ex⟩ := getxn (xs := xs) (k := k) (by omega)
    have hst := st k (by omega)
    rw [ex] at hst
    have hbk := bd k (by omega)
    have hbk1 := bd (k + 1) (by omega)
    have h1 := tk k (by omega)
    have h2 := integer_c (x % 1000) (by simp only [InR, V.lo, V.hi]; omega)
    have h3 := plus_c (U k * 1000) (x % 1000) ((sm _ (by omega) (by omega)).mono (by omega)) ((sm _ (by omega) (by omega)).mono (by omega))
    rw [← hst] at h3
    unfold plD at h2 h3
    obtain ⟨r, hr⟩ : ∃ r, x % 1000 = r := ⟨_, rfl⟩
    rw [hr] at h2 h3
    (conv => whnf)
    refine V.st ?_
    refine ⟨(.take 0 (.take 3 (.take 4 (.take 5 (.take 6 (.take 7 (.take 8 (.take 9 (.ev (.cons 1 [9, 8, 7, 6, 5, 4, 3, 0] (.ev (.cons 2 [9, 8, 7, 6, 5, 4, 3] (.ev (.cons 10 [] (.ev (.cons 11 [] (.ev (.cons 12 [] (.done) (.nil))) (.nil))) (.nil))) (.nil))) (.nil))))))))))), ⟨by kernel_rfl, by kernel_rfl, by kernel_rfl⟩, .go ?_⟩
    (conv => whnf)
    (try simp only [Int.toNat_natCast, ex, hr, hkc])
    repeat (first | (refine V.s1 ?_; (try simp only [Int.toNat_natCast, ex, hr, hkc])) | ((with_reducible refine recheck_and ?_ ?_); (focus ((conv => whnf); (try simp only [Int.toNat_natCast, ex, hr, hkc]); (repeat (refine V.s1 ?_; (try simp only [Int.toNat_natCast, ex, hr, hkc]))); exact ⟨rfl⟩)); (conv => whnf); (try simp only [Int.toNat_natCast, ex, hr, hkc])) | ((try ((with_reducible refine .ext ?_); (conv => whnf); (try simp only [Int.toNat_natCast, ex, hr, hkc]))); (with_reducible refine call_intro (r := ?_) ?_ ?_); rotate_left; (focus (first | exact (i1) | exact (h1) | exact (h2) | exact (h3))); (conv => whnf); (try simp only [Int.toNat_natCast, ex, hr, hkc])))
    exact ⟨k + 1, ⟨by omega, by omega⟩, by omega, V.wk⟩
  · have hk12 : U k = U 12 := Vn k (fun h => by rw [Bool.and_eq_false_iff, decide_eq_false_iff_not, decide_eq_false_iff_not] at hq; omega) hk.1
    rw [hk12]
    (conv => whnf)
    refine V.st ?_
    refine ⟨(.take 0 (.take 2 (.take 3 (.take 4 (.take 5 (.ev (.cons 1 [5, 4, 3, 2, 0] (.ev (.cons 6 [0] (.ev (.cons 7 [] (.ev (.cons 8 [] (.done) (.nil))) (.nil))) (.nil))) (.nil)))))))), ⟨by kernel_rfl, by kernel_rfl, by kernel_rfl⟩, .go ?_⟩
    (conv => whnf)
    (try simp only [hzm])
    repeat (first | (refine V.s1 ?_; (try simp only [hzm])) | ((with_reducible refine recheck_and ?_ ?_); (focus ((conv => whnf); (try simp only [hzm]); (repeat (refine V.s1 ?_; (try simp only [hzm]))); exact ⟨rfl⟩)); (conv => whnf); (try simp only [hzm])) | ((try ((with_reducible refine .ext ?_); (conv => whnf); (try simp only [hzm]))); (with_reducible refine call_intro (r := ?_) ?_ ?_); rotate_left; (focus (first | exact (i2) | exact (r1) | exact (t9))); (conv => whnf); (try simp only [hzm])))
    (conv => whnf)
    refine V.st ?_
    repeat ((try ((with_reducible refine .ext ?_); (conv => whnf))); (with_reducible refine call_intro (r := ?_) ?_ ?_); rotate_left; (focus (first | exact (m1) | exact (o1))); (conv => whnf); refine V.st ?_)
    exact Fin.of rfl
theorem dfrac_c (b : Bool) (xs : List Int) (z : Int) (b2 : Bool) (xs2 : List Int) (z2 : Int) (hz : 0 ≤ z ∧ z ≤ 65535) (hz2 : 0 ≤ z2 ∧ z2 ≤ 65535) : ∃ q : Rat, okF q = true ∧
    Called Tryz.prog 39 [.agg [.bool b, .ints .u16 xs, .int .u16 z, .bool b2, .ints .u16 xs2, .int .u16 z2]] (frT q) := by
  obtain ⟨r, hr⟩ : ∃ r, z % 4 = r := ⟨_, rfl⟩
  obtain ⟨r2, hr2⟩ : ∃ r, z2 % 4 = r := ⟨_, rfl⟩
  obtain ⟨v, hv, w1⟩ := dwhole_c b xs r (by omega)
  obtain ⟨v2, hv2, w2⟩ := dwhole_c b2 xs2 r2 (by omega)
  obtain ⟨y, hy⟩ : ∃ y, y = if v2 = 0 then 1 else v2 := ⟨_, rfl⟩
  have hy0 : y ≠ 0 ∧ -10000000000000000000000000000000000000000 < y ∧ y < 10000000000000000000000000000000000000000 := by
    rw [hy]; split <;> omega
  have n40 := divInt_40 v y hv hy0
  have hok := okF_40 n40.1 n40.2
  have l40 : ∀ a : Int, (-10000000000000000000000000000000000000000 < a ∧ a < 10000000000000000000000000000000000000000) → Sm 10 a ∧ (dec a.natAbs).length ≤ 600 := fun a ha =>
    ⟨Sm.lit (by omega), Nat.le_trans (pad_dec 40 a.natAbs (by omega) (by omega)).1 (by omega)⟩
  have i1 := in01_c (decZ v) (okW_decZ v (l40 v hv).2)
  have i2 := in01_c (decZ v2) (okW_decZ v2 (l40 v2 hv2).2)
  rw [wval_decZ] at i1 i2
  have k1 := integer_c 1 (by constructor <;> decide)
  have lw := lowest_c v y ((l40 v hv).1.mono (by omega)) ((l40 y hy0.2).1.mono (by omega)) hy0.1
  have q4 : Q4 10 (Rat.divInt v y) := Q4.of (l40 v hv).1 (l40 y hy0.2).1 hy0.1
  have o1 := out02_c (Rat.divInt v y) (q4.1.mono (by omega)) (q4.2.mono (by omega))
  unfold frR at o1
  rw [hok] at o1
  simp only [cond_true] at o1
  refine ⟨_, hok, ?_⟩
  have hnil := mg_nil (B := 10000) (n := v2.natAbs) (by omega)
  clear q4 hok n40 l40
  generalize Rat.divInt v y = q at *
  unfold frT raD plD at *
  generalize decZ v = t1 at *
  generalize decZ v2 = t2 at *
  refine called_of_run tbOk 6 ⟨Tryz.func39, rfl, rfl, Nat.le_of_ble_eq_true rfl⟩ ?_
  (conv => whnf)
  refine V.st ?_
  refine ⟨(.take 0 (.take 1 (.take 2 (.take 3 (.ev (.cons 4 [3, 2, 1, 0] (.ev (.cons 5 [3, 2, 1, 0] (.ev (.cons 6 [3, 2] (.ev (.cons 7 [] (.done) (.nil))) (.nil))) (.nil))) (.cons 5 [3, 2, 1, 0] (.ev (.cons 4 [3, 2, 1, 0] (.ev (.cons 6 [3, 2] (.ev (.cons 7 [] (.done) (.nil))) (.nil))) (.nil))) (.nil)))))))), ⟨by kernel_rfl, by kernel_rfl, by kernel_rfl⟩, ?_⟩
  refine drw_meet [(3, .box 3 0), (4, .box 4 0)] [(3, .box [.bool b, .ints .u16 xs, .int .u16 z]), (4, .box [.bool b2, .ints .u16 xs2, .int .u16 z2])] ?_ ?_
  · (conv => whnf); (try simp only [Nat.zero_add])
    repeat' (first | exact V.wk | (refine V.s1 ?_; (try simp only [Nat.zero_add])) | ((with_reducible refine recheck_and ?_ ?_); (focus ((conv => whnf); (try simp only [Nat.zero_add]); (repeat (refine V.s1 ?_; (try simp only [Nat.zero_add]))); exact ⟨rfl⟩)); (conv => whnf); (try simp only [Nat.zero_add])) | ((try ((with_reducible refine .ext ?_); (conv => whnf); (try simp only [Nat.zero_add]))); (with_reducible refine call_intro (r := ?_) ?_ ?_); rotate_left; (focus (first | fail)); (conv => whnf); (try simp only [Nat.zero_add])) | (refine And.intro ?_ ?_ <;> (conv => whnf); (try simp only [Nat.zero_add])))
  (conv => whnf)
  refine V.st ?_
  refine ⟨(.take 0 (.take 1 (.take 2 (.take 3 (.take 4 (.take 5 (.take 6 (.ev (.cons 7 [5, 4, 3] (.take 8 (.ev (.cons 9 [] (.done) (.nil)))) (.nil)))))))))), ⟨by kernel_rfl, by kernel_rfl, by kernel_rfl⟩, ?_⟩
  refine drw_meet [] [(3, .box [.bool b, .ints .u16 xs, .int .u16 r]), (4, .box [.bool b2, .ints .u16 xs2, .int .u16 r2])] ?_ ?_
  · (conv => whnf); (try simp only [Nat.zero_add, hr, hr2])
    repeat' (first | exact V.wk | (refine V.s1 ?_; (try simp only [Nat.zero_add, hr, hr2])) | ((with_reducible refine recheck_and ?_ ?_); (focus ((conv => whnf); (try simp only [Nat.zero_add, hr, hr2]); (repeat (refine V.s1 ?_; (try simp only [Nat.zero_add, hr, hr2]))); exact ⟨rfl⟩)); (conv => whnf); (try simp only [Nat.zero_add, hr, hr2])) | ((try ((with_reducible refine .ext ?_); (conv => whnf); (try simp only [Nat.zero_add, hr, hr2]))); (with_reducible refine call_intro (r := ?_) ?_ ?_); rotate_left; (focus (first | fail)); (conv => whnf); (try simp only [Nat.zero_add, hr, hr2])) | (refine And.intro ?_ ?_ <;> (conv => whnf); (try simp only [Nat.zero_add, hr, hr2])))
  (conv => whnf)
  refine V.st ?_
  refine ⟨(.take 0 (.take 3 (.ev (.cons 1 [3] (.ev (.cons 2 [3] (.ev (.cons 4 [] (.ev (.cons 5 [] (.ev (.cons 6 [] (.ev (.cons 7 [] (.ev (.cons 8 [] (.ev (.cons 9 [] (.done) (.nil))) (.nil))) (.nil))) (.cons 7 [] (.ev (.cons 6 [] (.ev (.cons 8 [] (.ev (.cons 9 [] (.done) (.nil))) (.nil))) (.nil))) (.nil)))) (.cons 6 [] (.ev (.cons 5 [] (.ev (.cons 7 [] (.ev (.cons 8 [] (.ev (.cons 9 [] (.done) (.nil))) (.nil))) (.nil))) (.cons 7 [] (.ev (.cons 5 [] (.ev (.cons 8 [] (.ev (.cons 9 [] (.done) (.nil))) (.nil))) (.nil))) (.nil)))) (.cons 7 [] (.ev (.cons 5 [] (.ev (.cons 6 [] (.ev (.cons 8 [] (.ev (.cons 9 [] (.done) (.nil))) (.nil))) (.nil))) (.cons 6 [] (.ev (.cons 5 [] (.ev (.cons 8 [] (.ev (.cons 9 [] (.done) (.nil))) (.nil))) (.nil))) (.nil)))) (.nil))))) (.cons 6 [3] (.ev (.cons 4 [] (.ev (.cons 5 [] (.ev (.cons 7 [] (.ev (.cons 8 [] (.ev (.cons 9 [] (.done) (.nil))) (.nil))) (.nil))) (.cons 7 [] (.ev (.cons 5 [] (.ev (.cons 8 [] (.ev (.cons 9 [] (.done) (.nil))) (.nil))) (.nil))) (.nil)))) (.cons 7 [3] (.ev (.cons 4 [] (.ev (.cons 5 [] (.ev (.cons 8 [] (.ev (.cons 9 [] (.done) (.nil))) (.nil))) (.nil))) (.nil))) (.nil)))) (.cons 7 [3] (.ev (.cons 4 [] (.ev (.cons 5 [] (.ev (.cons 6 [] (.ev (.cons 8 [] (.ev (.cons 9 [] (.done) (.nil))) (.nil))) (.nil))) (.cons 6 [] (.ev (.cons 5 [] (.ev (.cons 8 [] (.ev (.cons 9 [] (.done) (.nil))) (.nil))) (.nil))) (.nil)))) (.cons 6 [3] (.ev (.cons 4 [] (.ev (.cons 5 [] (.ev (.cons 8 [] (.ev (.cons 9 [] (.done) (.nil))) (.nil))) (.nil))) (.nil))) (.nil)))) (.nil))))) (.cons 6 [3] (.ev (.cons 2 [3] (.ev (.cons 4 [] (.ev (.cons 5 [] (.ev (.cons 7 [] (.ev (.cons 8 [] (.ev (.cons 9 [] (.done) (.nil))) (.nil))) (.nil))) (.cons 7 [] (.ev (.cons 5 [] (.ev (.cons 8 [] (.ev (.cons 9 [] (.done) (.nil))) (.nil))) (.nil))) (.nil)))) (.cons 7 [3] (.ev (.cons 4 [] (.ev (.cons 5 [] (.ev (.cons 8 [] (.ev (.cons 9 [] (.done) (.nil))) (.nil))) (.nil))) (.nil))) (.nil)))) (.cons 7 [3] (.ev (.cons 2 [3] (.ev (.cons 4 [] (.ev (.cons 5 [] (.ev (.cons 8 [] (.ev (.cons 9 [] (.done) (.nil))) (.nil))) (.nil))) (.nil))) (.nil))) (.nil)))) (.cons 7 [3] (.ev (.cons 2 [3] (.ev (.cons 4 [] (.ev (.cons 5 [] (.ev (.cons 6 [] (.ev (.cons 8 [] (.ev (.cons 9 [] (.done) (.nil))) (.nil))) (.nil))) (.cons 6 [] (.ev (.cons 5 [] (.ev (.cons 8 [] (.ev (.cons 9 [] (.done) (.nil))) (.nil))) (.nil))) (.nil)))) (.cons 6 [3] (.ev (.cons 4 [] (.ev (.cons 5 [] (.ev (.cons 8 [] (.ev (.cons 9 [] (.done) (.nil))) (.nil))) (.nil))) (.nil))) (.nil)))) (.cons 6 [3] (.ev (.cons 2 [3] (.ev (.cons 4 [] (.ev (.cons 5 [] (.ev (.cons 8 [] (.ev (.cons 9 [] (.done) (.nil))) (.nil))) (.nil))) (.nil))) (.nil))) (.nil)))) (.nil))))) (.cons 6 [3, 0] (.ev (.cons 1 [3] (.ev (.cons 2 [3] (.ev (.cons 4 [] (.ev (.cons 5 [] (.ev (.cons 7 [] (.ev (.cons 8 [] (.ev (.cons 9 [] (.done) (.nil))) (.nil))) (.nil))) (.cons 7 [] (.ev (.cons 5 [] (.ev (.cons 8 [] (.ev (.cons 9 [] (.done) (.nil))) (.nil))) (.nil))) (.nil)))) (.cons 7 [3] (.ev (.cons 4 [] (.ev (.cons 5 [] (.ev (.cons 8 [] (.ev (.cons 9 [] (.done) (.nil))) (.nil))) (.nil))) (.nil))) (.nil)))) (.cons 7 [3] (.ev (.cons 2 [3] (.ev (.cons 4 [] (.ev (.cons 5 [] (.ev (.cons 8 [] (.ev (.cons 9 [] (.done) (.nil))) (.nil))) (.nil))) (.nil))) (.nil))) (.nil)))) (.cons 7 [3, 0] (.ev (.cons 1 [3] (.ev (.cons 2 [3] (.ev (.cons 4 [] (.ev (.cons 5 [] (.ev (.cons 8 [] (.ev (.cons 9 [] (.done) (.nil))) (.nil))) (.nil))) (.nil))) (.nil))) (.nil))) (.nil)))) (.cons 7 [3, 0] (.ev (.cons 1 [3] (.ev (.cons 2 [3] (.ev (.cons 4 [] (.ev (.cons 5 [] (.ev (.cons 6 [] (.ev (.cons 8 [] (.ev (.cons 9 [] (.done) (.nil))) (.nil))) (.nil))) (.cons 6 [] (.ev (.cons 5 [] (.ev (.cons 8 [] (.ev (.cons 9 [] (.done) (.nil))) (.nil))) (.nil))) (.nil)))) (.cons 6 [3] (.ev (.cons 4 [] (.ev (.cons 5 [] (.ev (.cons 8 [] (.ev (.cons 9 [] (.done) (.nil))) (.nil))) (.nil))) (.nil))) (.nil)))) (.cons 6 [3] (.ev (.cons 2 [3] (.ev (.cons 4 [] (.ev (.cons 5 [] (.ev (.cons 8 [] (.ev (.cons 9 [] (.done) (.nil))) (.nil))) (.nil))) (.nil))) (.nil))) (.nil)))) (.cons 6 [3, 0] (.ev (.cons 1 [3] (.ev (.cons 2 [3] (.ev (.cons 4 [] (.ev (.cons 5 [] (.ev (.cons 8 [] (.ev (.cons 9 [] (.done) (.nil))) (.nil))) (.nil))) (.nil))) (.nil))) (.nil))) (.nil)))) (.nil))))))), ⟨by kernel_rfl, by kernel_rfl, by kernel_rfl⟩, ?_⟩
  refine drw_meet [(5, .box 5 0), (6, .box 6 0)] [(5, .box [.bool (decide (v < 0)), .ints .i64 (mg 10000 v.natAbs)]), (6, .box [.bool (decide (v2 < 0)), .ints .i64 (mg 10000 v2.natAbs)])] ?_ ?_
  · (conv => whnf); (try simp only [Nat.zero_add])
    repeat' (first | exact V.wk | (refine V.s1 ?_; (try simp only [Nat.zero_add])) | ((with_reducible refine recheck_and ?_ ?_); (focus ((conv => whnf); (try simp only [Nat.zero_add]); (repeat (refine V.s1 ?_; (try simp only [Nat.zero_add]))); exact ⟨rfl⟩)); (conv => whnf); (try simp only [Nat.zero_add])) | ((try ((with_reducible refine .ext ?_); (conv => whnf); (try simp only [Nat.zero_add]))); (with_reducible refine call_intro (r := ?_) ?_ ?_); rotate_left; (focus (first | exact (w1) | exact (w2) | exact (i1) | exact (i2))); (conv => whnf); (try simp only [Nat.zero_add])) | (refine And.intro ?_ ?_ <;> (conv => whnf); (try simp only [Nat.zero_add])))
  (conv => whnf)
  refine V.st ?_
  refine Cnd.split (CondB.mk (fun hq => ?_) (fun hq => ?_))
  · have h0 : v2 = 0 := by
      rw [decide_eq_true_eq] at hq
      have := hnil.1 (List.length_eq_zero_iff.1 (by omega))
      omega
    rw [if_pos h0] at hy
    subst hy
    (conv => whnf)
    refine V.st ?_
    repeat ((try ((with_reducible refine .ext ?_); (conv => whnf))); (with_reducible refine call_intro (r := ?_) ?_ ?_); rotate_left; (focus (first | exact (k1) | exact (lw) | exact (o1))); (conv => whnf); refine V.st ?_)
    exact Fin.of rfl
  · have h0 : v2 ≠ 0 := fun h => by
      rw [decide_eq_false_iff_not] at hq
      exact hq (by rw [hnil.2 (by omega)]; rfl)
    rw [if_neg h0] at hy
    subst hy
    (conv => whnf)
    refine V.st ?_
    repeat ((try ((with_reducible refine .ext ?_); (conv => whnf))); (with_reducible refine call_intro (r := ?_) ?_ ?_); rotate_left; (focus (first | exact (lw) | exact (o1))); (conv => whnf); refine V.st ?_)
    exact Fin.of rfl
end Go.Proofs.YtplflfnfodghmaaGreatDoor
end
section
namespace Go.Nb
theorem parseUintM_big : ∀ (l : List UInt8) (acc : Nat), (∀ c ∈ l, isDig c = true) → acc ≤ 18446744073709551615 → 18446744073709551615 < l.foldl (fun v c => v * 10 + (c.toNat - 48)) acc →
    Go.Lib.parseUintM 18446744073709551615 acc l = .range
  | [], acc, _, h1, h2 => by simp only [List.foldl_nil] at h2; omega
  | c :: r, acc, hd, h1, hl => by
    have h2 := hd c (by simp)
    unfold isDig at h2
    rw [decide_eq_true_eq] at h2
    simp only [List.foldl_cons] at hl
    unfold Go.Lib.parseUintM
    rw [if_pos h2]
    by_cases g1 : 1844674407370955162 ≤ acc
    · rw [if_pos g1]
    · rw [if_neg g1]
      by_cases g2 : 18446744073709551615 < acc * 10 + (c.toNat - 48)
      · rw [if_pos g2]
      · rw [if_neg g2]
        exact parseUintM_big r _ (fun c hc => hd c (by simp [hc])) (by omega) hl
theorem parseUintB_big (n : Nat) (h : 18446744073709551615 < n) : Go.Lib.parseUintB 64 (dec n) = .range := by
  unfold Go.Lib.parseUintB
  have hne : dec n ≠ [] := by rw [dec_big (by omega)]; simp
  rw [if_neg hne]
  have hv : (dec n).foldl (fun v c => v * 10 + (c.toNat - 48)) 0 = n := rdv_dec n
  exact parseUintM_big (dec n) 0 (dec_dig n) (by omega) (by omega)
theorem parseInt_range (z : Int) (h : z < -9223372036854775808 ∨ 9223372036854775807 < z) : Go.Lib.parseIntB 64 (decZ z) = .range := by
  have hu : Go.Lib.parseUintB 64 (dec z.natAbs) = .range ∨ Go.Lib.parseUintB 64 (dec z.natAbs) = .ok z.natAbs := by
    rcases Nat.lt_or_ge 18446744073709551615 z.natAbs with g | g
    · exact .inl (parseUintB_big _ g)
    · exact .inr (parseUintB_dec _ g)
  unfold decZ
  by_cases hz : z < 0
  · rw [if_pos hz, Go.Lib.parseIntB_minus]
    rcases hu with hu | hu
    · rw [hu]; rfl
    · rw [hu]
      unfold Go.Lib.signedC
      simp only
      rw [if_pos (by omega)]
  · rw [if_neg hz]
    have hne : dec z.natAbs ≠ [] := by rw [dec_big (by omega)]; simp
    have hd := dec_dig z.natAbs
    revert hu hd hne
    generalize dec z.natAbs = l
    intro hu hne hd
    cases l with
    | nil => exact absurd rfl hne
    | cons c r =>
      have hc := hd c (by simp)
      unfold isDig at hc
      rw [decide_eq_true_eq] at hc
      rw [Go.Lib.parseIntB_plain 64 c r (by omega) (by omega)]
      rcases hu with hu | hu
      · rw [hu]; rfl
      · rw [hu]
        unfold Go.Lib.signlessC
        simp only
        rw [if_pos (by omega)]
end Go.Nb
namespace Go.Proofs.YtplflfnfodghmaaGreatDoor
open Go Go.V Go.Nb Go.RowKit Go.Proofs
set_option maxHeartbeats 4000000
set_option maxRecDepth 1000000
theorem wcheck_k0 (s : List UInt8) (hl : s.length ≤ 281474976710656) (ho : okW s = true) (w : World) (hg : GlW w) : Calls Tryz.prog 151 #[.string ⟨s.toArray⟩] w fun e w' => e = .returned (.int .i64 0) ∧ RowKit.Below w.heap.size w w' := by
  have hc := wcheck_c s hl
  rw [if_pos ho] at hc
  refine (called_at hc w hg (vs := [.string ⟨s.toArray⟩]) ?_).mono ?_
  · simp only [DenL, Den]; exact ⟨_, _, rfl, ⟨rfl, by omega⟩, rfl⟩
  · rintro e w' ⟨v, h', rfl, hv, hb⟩
    simp only [Den] at hv
    rw [hv.1]
    exact ⟨rfl, hb⟩
theorem int_wr (s : List UInt8) (hl : s.length ≤ 281474976710656) (ho : okW s = true) (hr : Go.Lib.parseIntB 64 s = .range) (w : World) (hg : GlW w) : Calls Tryz.prog 142 #[.string ⟨s.toArray⟩] w fun e w' => e = .returned (.tuple #[.int .i64 0, .int .i64 6]) ∧ RowKit.Below w.heap.size w w' := by
  have hc := wcheck_k0 s hl ho w hg
  have hsz : (⟨s.toArray⟩ : ByteArray).size ≤ 281474976710656 := by simp [ByteArray.size]; omega
  obtain ⟨tp, p, T, f, h2⟩ := hg.2 3 (by unfold glbE; simp)
  have hcell : ∀ w1, RowKit.Below w.heap.size w w1 → w1.cell? ⟨3, 0, none⟩ = some (.iface tp p) := fun w1 hb => by
    rw [cell_of_row w1 3 0 _ T f (by rw [hb.block _ (Array.getElem?_eq_some_iff.1 h2).1]; exact h2)]
    rfl
  have hpi := fun w1 hb => Tryz.strconv_ParseInt_10_at64_range ⟨s.toArray⟩ hsz (by simpa using hr) (.iface tp p) w1 (hcell w1 hb) (.inr ⟨tp, p, rfl⟩)
  go_enter Tryz.func142, Tryz.ntmps142
  go_wp2_with (go_at_call 151; refine hc.mono ?_; rintro e w1 ⟨rfl, hb1⟩)
  go_wp2_with (go_at_call 176; refine (hpi w1 hb1).mono ?_; rintro e w2 ⟨N, rfl, hn1, hn2, hb⟩)
  have hb2 : RowKit.Below w.heap.size w w2 := hb1.trans (hb.mono hb1.size)
  go_wp2
  go_ret2
  exact ⟨rfl, hb2⟩
theorem int_no (s : List UInt8) (hl : s.length ≤ 281474976710656) (hr : Go.Lib.parseIntB 64 s = .range) : ∃ e : Int, e ≠ 0 ∧ Called Tryz.prog 142 [.str s] (.tup [.int .i64 0, .int .i64 e]) := by
  by_cases ho : okW s = true
  · refine ⟨6, by omega, called_of_grown Tryz.func142 rfl rfl rfl fun w hp vs ha hd => ?_⟩
    simp only [DenL, Den] at hd
    obtain ⟨v, _, rfl, ⟨rfl, _⟩, rfl⟩ := hd
    refine (int_wr s hl ho hr w ha.blk).mono fun e w' ⟨he, hw⟩ => ⟨⟨_, he, fun hp => ?_⟩, hw⟩
    simp only [Den, DenL]
    exact ⟨_, rfl, _, _, rfl, ⟨rfl, by constructor <;> decide⟩, _, _, rfl, ⟨rfl, by constructor <;> decide⟩, rfl⟩
  · refine ⟨10, by omega, ?_⟩
    have hc := wcheck_c s hl
    rw [if_neg ho] at hc
    refine called_of_run tbOk 6 ⟨Tryz.func142, rfl, rfl, Nat.le_of_ble_eq_true rfl⟩ ?_
    (conv => whnf)
    refine V.st ?_
    repeat ((try ((with_reducible refine .ext ?_); (conv => whnf))); (with_reducible refine call_intro (r := ?_) ?_ ?_); rotate_left; (focus (first | exact (hc))); (conv => whnf); refine V.st ?_)
    exact Fin.of rfl
end Go.Proofs.YtplflfnfodghmaaGreatDoor
end
section
namespace Go.Proofs.YtplflfnfodghmaaGreatDoor
open Go Go.V Go.Nb
theorem fcmp_no (s t u v : List UInt8) (h : (okP s t && okP u v) = false) (hs : s.length ≤ 281474976710656) (ht : t.length ≤ 281474976710656) (hu : u.length ≤ 281474976710656) (hv : v.length ≤ 281474976710656) : Called Tryz.prog 100 [.agg [.str s, .str t], .agg [.str u, .str v]] (.tup [.int .i64 0, .int .i64 20]) := by
  have ap : Called Tryz.prog 146 [.agg [.str s, .str t], .agg [.str u, .str v], .fn 147 [] []] (.tup [.int .i64 0, .int .i64 20]) := by
    by_cases h1 : okP s t = true
    · rw [h1, Bool.true_and] at h
      have r1 := read_ok s t h1
      have r2 := read_no u v h hu hv
      refine called_of_run tbOk 6 ⟨Tryz.func146, rfl, rfl, Nat.le_of_ble_eq_true rfl⟩ ?_
      (conv => whnf)
      refine V.st ?_
      repeat ((try ((with_reducible refine .ext ?_); (conv => whnf))); (with_reducible refine call_intro (r := ?_) ?_ ?_); rotate_left; (focus (first | exact (r1) | exact (r2))); (conv => whnf); refine V.st ?_)
      exact Fin.of rfl
    · have r1 := read_no s t (by simpa using h1) hs ht
      by_cases h2 : okP u v = true
      · have r2 := read_ok u v h2
        refine called_of_run tbOk 6 ⟨Tryz.func146, rfl, rfl, Nat.le_of_ble_eq_true rfl⟩ ?_
        (conv => whnf)
        refine V.st ?_
        repeat ((try ((with_reducible refine .ext ?_); (conv => whnf))); (with_reducible refine call_intro (r := ?_) ?_ ?_); rotate_left; (focus (first | exact (r1) | exact (r2))); (conv => whnf); refine V.st ?_)
        exact Fin.of rfl
      · have r2 := read_no u v (by simpa using h2) hu hv
        refine called_of_run tbOk 6 ⟨Tryz.func146, rfl, rfl, Nat.le_of_ble_eq_true rfl⟩ ?_
        (conv => whnf)
        refine V.st ?_
        repeat ((try ((with_reducible refine .ext ?_); (conv => whnf))); (with_reducible refine call_intro (r := ?_) ?_ ?_); rotate_left; (focus (first | exact (r1) | exact (r2))); (conv => whnf); refine V.st ?_)
        exact Fin.of rfl
  refine called_of_run tbOk 6 ⟨Tryz.func100, rfl, rfl, Nat.le_of_ble_eq_true rfl⟩ ?_
  (conv => whnf)
  refine V.st ?_
  repeat ((try ((with_reducible refine .ext ?_); (conv => whnf))); (with_reducible refine call_intro (r := ?_) ?_ ?_); rotate_left; (focus (first | exact (ap))); (conv => whnf); refine V.st ?_)
  exact Fin.of rfl
theorem near_no (s t : List UInt8) (h : okP s t = false) (hs : s.length ≤ 281474976710656) (ht : t.length ≤ 281474976710656) : Called Tryz.prog 99 [.agg [.str s, .str t], .int .i64 1000000000000] (.tup [.int .i64 0, .int .i64 20]) := by
  have r1 := read_no s t h hs ht
  refine called_of_run tbOk 6 ⟨Tryz.func99, rfl, rfl, Nat.le_of_ble_eq_true rfl⟩ ?_
  (conv => whnf)
  refine V.st ?_
  repeat ((try ((with_reducible refine .ext ?_); (conv => whnf))); (with_reducible refine call_intro (r := ?_) ?_ ?_); rotate_left; (focus (first | exact (r1))); (conv => whnf); refine V.st ?_)
  exact Fin.of rfl
theorem near_big (s t : List UInt8) (h : okP s t = true) (hz : ¬ (-9223372036854775808 ≤ nearZ (qv s t) 1000000000000 ∧ nearZ (qv s t) 1000000000000 ≤ 9223372036854775807)) :
    Called Tryz.prog 99 [.agg [.str s, .str t], .int .i64 1000000000000] (.tup [.int .i64 0, .int .i64 6]) := by
  have r1 := read_ok s t h
  have q1 := qv_size h
  have f1 := fromSmall_c 1000000000000 (by omega)
  have lsc : (mg 1000000000 1000000000000).length ≤ 2 := mg_len_le (by omega) (by omega)
  have n1 := near_r (qv s t) 1000000000000 (q1.1.mono (by omega)) (Nat.le_trans q1.2 (by omega)) (by omega)
  have zs : S9 200 (nearZ (qv s t) 1000000000000) := by
    unfold nearZ
    have a1 : S9 69 ((qv s t).num * ((1000000000000 * 2 : Nat) : Int)) := q1.1.mul (l := 2) (S9.lit (by decide))
    have a2 : S9 69 ((qv s t).den : Int) := S9.nat.2 (Nat.le_trans q1.2 (by omega))
    exact ((a1.add a2).mono (by omega)).le (natAbs_ediv_le _ _)
  clear q1
  generalize nearZ (qv s t) 1000000000000 = z at *
  have x1 := ftext_c z (by unfold S9 at zs; omega)
  have hr := parseInt_range z (by omega)
  have hl : (decZ z).length ≤ 281474976710656 := by
    unfold S9 at zs
    have h1 := mg_lt_pow (B := 1000000000) (n := z.natAbs) (by omega)
    have h2 : ∀ L k : Nat, L ≤ k → 1000000000 ^ L ≤ 10 ^ (9 * k) := fun L k hk => by
      rw [show (1000000000 : Nat) = 10 ^ 9 from rfl, ← Nat.pow_mul]
      exact Nat.pow_le_pow_right (by omega) (by omega)
    have h3 : ∀ k, (mg 1000000000 z.natAbs).length ≤ k → 0 < k → (dec z.natAbs).length ≤ 9 * k := fun k hk h0 => (pad_dec (9 * k) z.natAbs (by omega) (Nat.lt_of_lt_of_le h1 (h2 _ k hk))).1
    have h3 := h3 200 zs (by omega)
    unfold decZ
    split
    · simp only [List.length_cons]; omega
    · omega
  obtain ⟨e, he, i1⟩ := int_no (decZ z) hl hr
  clear lsc
  unfold rtD at *
  refine called_of_run tbOk 6 ⟨Tryz.func99, rfl, rfl, Nat.le_of_ble_eq_true rfl⟩ ?_
  (conv => whnf)
  refine V.st ?_
  repeat ((try ((with_reducible refine .ext ?_); (conv => whnf))); (with_reducible refine call_intro (r := ?_) ?_ ?_); rotate_left; (focus (first | exact (r1))); (conv => whnf); refine V.st ?_)
  refine ⟨(.take 0 (.take 1 (.take 2 (.ev (.cons 3 [0] (.ev (.cons 4 [] (.ev (.cons 5 [] (.ev (.cons 6 [] (.take 7 (.take 8 (.take 9 (.take 10 (.take 11 (.done)))))) (.nil))) (.nil))) (.nil))) (.nil)))))), ⟨by kernel_rfl, by kernel_rfl, by kernel_rfl⟩, .go ?_⟩
  (conv => whnf)
  refine V.st ?_
  repeat ((try ((with_reducible refine .ext ?_); (conv => whnf))); (with_reducible refine call_intro (r := ?_) ?_ ?_); rotate_left; (focus (first | exact (f1) | exact (n1) | exact (x1) | exact (i1))); (conv => whnf); refine V.st ?_)
  refine Cnd.split (CondB.mk (fun g => ?_) (fun g => ?_))
  · (conv => whnf)
    refine V.st ?_
    exact Fin.of rfl
  · simp at g
    exact absurd g he
end Go.Proofs.YtplflfnfodghmaaGreatDoor
end
section
namespace Go.Proofs.YtplflfnfodghmaaGreatDoor
open Go Go.V Go.Nb
theorem q4_qv {s t : List UInt8} (h : okP s t = true) : Q4 151 (qv s t) := by
  obtain ⟨h1, h2, h3, h4⟩ := okP_of h
  obtain ⟨p1, p2⟩ := qv_parts h
  exact ⟨by rw [p1]; exact sm_wval h1, by rw [p2]; exact (sm_wval h2).le (by omega)⟩
theorem in02_c (s t : List UInt8) (h : okP s t = true) : Called Tryz.prog 102 [.agg [.str s, .str t]] (raD (qv s t)) := by
  obtain ⟨h1, h2, h3, h4⟩ := okP_of h
  obtain ⟨p1, p2⟩ := qv_parts h
  have i1 := in01_c s h1
  have i2 := in01_c t h2
  unfold raD
  rw [p1, p2]
  unfold plD at i1 i2
  rw [decide_eq_false (show ¬ wval t < 0 by omega)] at i2
  refine called_of_run tbOk 6 ⟨Tryz.func102, rfl, rfl, Nat.le_of_ble_eq_true rfl⟩ ?_
  (conv => whnf)
  refine V.st ?_
  refine ⟨(.take 0 (.take 1 (.take 3 (.take 4 (.ev (.cons 2 [4, 3] (.ev (.cons 5 [] (.take 6 (.ev (.cons 7 [] (.done) (.nil)))) (.nil))) (.nil))))))), ⟨by kernel_rfl, by kernel_rfl, by kernel_rfl⟩, .go ?_⟩
  (conv => whnf)
  refine V.st ?_
  repeat ((try ((with_reducible refine .ext ?_); (conv => whnf))); (with_reducible refine call_intro (r := ?_) ?_ ?_); rotate_left; (focus (first | exact (i1) | exact (i2))); (conv => whnf); refine V.st ?_)
  exact Fin.of rfl
theorem of_r (p q : Int) : Called Tryz.prog 35 [.int .i64 p, .int .i64 q] (bD (if vb p q = true then (p, q, 0) else (0, 0, 30))) := by
  have r1 := right03_c p q
  by_cases hv : vb p q = true
  · rw [if_pos hv]
    rw [hv] at r1
    refine called_of_run tbOk 6 ⟨Tryz.func35, rfl, rfl, Nat.le_of_ble_eq_true rfl⟩ ?_
    (conv => whnf)
    refine V.st ?_
    repeat ((try ((with_reducible refine .ext ?_); (conv => whnf))); (with_reducible refine call_intro (r := ?_) ?_ ?_); rotate_left; (focus (first | exact (r1))); (conv => whnf); refine V.st ?_)
    exact Fin.of rfl
  · rw [if_neg hv]
    rw [Bool.eq_false_iff.2 hv] at r1
    refine called_of_run tbOk 6 ⟨Tryz.func35, rfl, rfl, Nat.le_of_ble_eq_true rfl⟩ ?_
    (conv => whnf)
    refine V.st ?_
    repeat ((try ((with_reducible refine .ext ?_); (conv => whnf))); (with_reducible refine call_intro (r := ?_) ?_ ?_); rotate_left; (focus (first | exact (r1))); (conv => whnf); refine V.st ?_)
    exact Fin.of rfl
theorem point_r (p : Int) : Called Tryz.prog 33 [.int .i64 p] (bD (if vb p p = true then (p, p, 0) else (0, 0, 30))) := by
  have h := of_r p p
  generalize (if vb p p = true then (p, p, (0 : Int)) else (0, 0, 30)) = r at *
  refine called_of_run tbOk 6 ⟨Tryz.func33, rfl, rfl, Nat.le_of_ble_eq_true rfl⟩ ?_
  (conv => whnf)
  refine V.st ?_
  repeat ((try ((with_reducible refine .ext ?_); (conv => whnf))); (with_reducible refine call_intro (r := ?_) ?_ ?_); rotate_left; (focus (first | exact (h))); (conv => whnf); refine V.st ?_)
  exact Fin.of rfl
theorem check_r (p q : Int) : Called Tryz.prog 37 [bA p q] (.int .i64 (if vb p q = true then 0 else 30)) := by
  have r1 := right03_c p q
  by_cases hv : vb p q = true
  · rw [if_pos hv]
    rw [hv] at r1
    refine called_of_run tbOk 6 ⟨Tryz.func37, rfl, rfl, Nat.le_of_ble_eq_true rfl⟩ ?_
    (conv => whnf)
    refine V.st ?_
    repeat ((try ((with_reducible refine .ext ?_); (conv => whnf))); (with_reducible refine call_intro (r := ?_) ?_ ?_); rotate_left; (focus (first | exact (r1))); (conv => whnf); refine V.st ?_)
    exact Fin.of rfl
  · rw [if_neg hv]
    rw [Bool.eq_false_iff.2 hv] at r1
    refine called_of_run tbOk 6 ⟨Tryz.func37, rfl, rfl, Nat.le_of_ble_eq_true rfl⟩ ?_
    (conv => whnf)
    refine V.st ?_
    repeat ((try ((with_reducible refine .ext ?_); (conv => whnf))); (with_reducible refine call_intro (r := ?_) ?_ ?_); rotate_left; (focus (first | exact (r1))); (conv => whnf); refine V.st ?_)
    exact Fin.of rfl
def aroundA (s t : List UInt8) : Int × Int × Int := if okP s t = true then mk (loE (qv s t)) (hiE (qv s t)) else (0, 0, 20)
theorem around_r (s t : List UInt8) (hs : s.length ≤ 281474976710656) (ht : t.length ≤ 281474976710656) : Called Tryz.prog 43 [.agg [.str s, .str t]] (bD (aroundA s t)) := by
  have r1 := right02_c s t hs ht
  unfold aroundA
  by_cases h : okP s t = true
  · rw [if_pos h]
    rw [h] at r1
    have i1 := in02_c s t h
    have q1 := q4_qv h
    have t1 := tight_c (qv s t) (qv s t) (q1.mono (by omega)) (q1.mono (by omega))
    rw [tightR_eq] at t1
    generalize mk (loE (qv s t)) (hiE (qv s t)) = r at *
    generalize qv s t = x at *
    unfold raD at *
    refine called_of_run tbOk 6 ⟨Tryz.func43, rfl, rfl, Nat.le_of_ble_eq_true rfl⟩ ?_
    (conv => whnf)
    refine V.st ?_
    repeat ((try ((with_reducible refine .ext ?_); (conv => whnf))); (with_reducible refine call_intro (r := ?_) ?_ ?_); rotate_left; (focus (first | exact (r1) | exact (i1) | exact (t1))); (conv => whnf); refine V.st ?_)
    exact Fin.of rfl
  · rw [if_neg h]
    rw [Bool.eq_false_iff.2 h] at r1
    refine called_of_run tbOk 6 ⟨Tryz.func43, rfl, rfl, Nat.le_of_ble_eq_true rfl⟩ ?_
    (conv => whnf)
    refine V.st ?_
    repeat ((try ((with_reducible refine .ext ?_); (conv => whnf))); (with_reducible refine call_intro (r := ?_) ?_ ?_); rotate_left; (focus (first | exact (r1))); (conv => whnf); refine V.st ?_)
    exact Fin.of rfl
def hasA (p q : Int) (s t : List UInt8) : Bool × Int := if vb p q = true then (if okP s t = true then (hasR (qv s t) p q, 0) else (false, 20)) else (false, 30)
theorem has_r (p q : Int) (s t : List UInt8) (hs : s.length ≤ 281474976710656) (ht : t.length ≤ 281474976710656) : Called Tryz.prog 45 [bA p q, .agg [.str s, .str t]] (.tup [.bool (hasA p q s t).1, .int .i64 (hasA p q s t).2]) := by
  have r0 := right03_c p q
  have r1 := right02_c s t hs ht
  unfold hasA
  by_cases hv : vb p q = true
  · rw [if_pos hv]
    rw [hv] at r0
    have hb := vb_iff.1 hv
    by_cases h : okP s t = true
    · rw [if_pos h]
      rw [h] at r1
      have i1 := in02_c s t h
      have q1 := q4_qv h
      have v1 := value_c p (by simp only [InR, V.lo, V.hi]; omega)
      have v2 := value_c q (by simp only [InR, V.lo, V.hi]; omega)
      rw [show ∀ z, Rat.divInt z 1000000000000 = unit z from fun _ => rfl] at v1 v2
      have o1 := order02_c (unit p) (qv s t) ((unit_q4 p (by omega)).mono (by omega)) (q1.mono (by omega))
      have o2 := order02_c (qv s t) (unit q) (q1.mono (by omega)) ((unit_q4 q (by omega)).mono (by omega))
      have hr : hasR (qv s t) p q = (decide (ordQ (unit p) (qv s t) ≤ 0) && decide (ordQ (qv s t) (unit q) ≤ 0)) := by
        unfold hasR
        congr 1
        exact decide_eq_decide.2 ((ord_ge _ _).trans (ord_le _ _).symm)
      simp only [hr]
      clear hr
      generalize ordQ (unit p) (qv s t) = x1 at *
      generalize ordQ (qv s t) (unit q) = x2 at *
      generalize qv s t = x at *
      generalize unit p = y1 at *
      generalize unit q = y2 at *
      unfold raD at *
      refine called_of_run tbOk 6 ⟨Tryz.func45, rfl, rfl, Nat.le_of_ble_eq_true rfl⟩ ?_
      (conv => whnf)
      refine V.st ?_
      repeat ((try ((with_reducible refine .ext ?_); (conv => whnf))); (with_reducible refine call_intro (r := ?_) ?_ ?_); rotate_left; (focus (first | exact (r0) | exact (r1) | exact (i1))); (conv => whnf); refine V.st ?_)
      refine ⟨(.take 0 (.take 1 (.take 3 (.ev (.cons 2 [3] (.ev (.cons 4 [] (.take 5 (.take 6 (.take 7 (.take 8 (.take 9 (.ev (.cons 10 [7] (.ev (.cons 11 [] (.take 12 (.take 13 (.take 14 (.take 15 (.done))))) (.nil))) (.nil)))))))) (.nil))) (.nil)))))), ⟨by kernel_rfl, by kernel_rfl, by kernel_rfl⟩, .go ?_⟩
      (conv => whnf)
      refine V.st ?_
      repeat ((try ((with_reducible refine .ext ?_); (conv => whnf))); (with_reducible refine call_intro (r := ?_) ?_ ?_); rotate_left; (focus (first | exact (v1) | exact (v2) | exact (o1) | exact (o2))); (conv => whnf); refine V.st ?_)
      exact Fin.of rfl
    · rw [if_neg h]
      rw [Bool.eq_false_iff.2 h] at r1
      refine called_of_run tbOk 6 ⟨Tryz.func45, rfl, rfl, Nat.le_of_ble_eq_true rfl⟩ ?_
      (conv => whnf)
      refine V.st ?_
      repeat ((try ((with_reducible refine .ext ?_); (conv => whnf))); (with_reducible refine call_intro (r := ?_) ?_ ?_); rotate_left; (focus (first | exact (r0) | exact (r1))); (conv => whnf); refine V.st ?_)
      exact Fin.of rfl
  · rw [if_neg hv]
    rw [Bool.eq_false_iff.2 hv] at r0
    refine called_of_run tbOk 6 ⟨Tryz.func45, rfl, rfl, Nat.le_of_ble_eq_true rfl⟩ ?_
    (conv => whnf)
    refine V.st ?_
    repeat ((try ((with_reducible refine .ext ?_); (conv => whnf))); (with_reducible refine call_intro (r := ?_) ?_ ?_); rotate_left; (focus (first | exact (r0))); (conv => whnf); refine V.st ?_)
    exact Fin.of rfl
theorem has_a (p q : Int) (s t : List UInt8) (hs : s.length ≤ 281474976710656) (ht : t.length ≤ 281474976710656) : Called Tryz.prog 44 [bA p q, .agg [.str s, .str t]] (.tup [.bool (hasA p q s t).1, .int .i64 (hasA p q s t).2]) := by
  unfold hasA
  by_cases hv : vb p q = true
  · rw [if_pos hv]
    by_cases h : okP s t = true
    · rw [if_pos h]
      exact has_ok p q s t hv h
    · rw [if_neg h]
      have hb := vb_iff.1 hv
      have e1 := end_c p (by omega)
      have e2 := end_c q (by omega)
      have d1 : okP (decZ (unit p).num) (dec (unit p).den) = true := (okP_dec (okF_unit p (by omega))).1
      have l1 := (okW_len (okP_of d1).1).1
      have l2 := (okW_len (okP_of d1).2.1).1
      have c1 := fcmp_no s t (decZ (unit p).num) (dec (unit p).den) (by rw [Bool.eq_false_iff.2 h, Bool.false_and]) hs ht (by omega) (by omega)
      have f1 : fD (unF p) = .tup [.agg [.str (decZ (unit p).num), .str (dec (unit p).den)], .int .i64 0] := rfl
      have f2 : fD (unF q) = .tup [.agg [.str (decZ (unit q).num), .str (dec (unit q).den)], .int .i64 0] := rfl
      rw [f1] at e1
      rw [f2] at e2
      clear f1 f2 d1 l1 l2
      generalize decZ (unit p).num = a1 at *
      generalize dec (unit p).den = b1 at *
      generalize decZ (unit q).num = a2 at *
      generalize dec (unit q).den = b2 at *
      have hc : Called Tryz.prog 105 [.ref [.int .i64 p, .int .i64 q], .ref [.str s, .str t]] (.tup [.bool false, .int .i64 20]) := by
        refine called_of_run tbOk 6 ⟨Tryz.func105, rfl, rfl, Nat.le_of_ble_eq_true rfl⟩ ?_
        (conv => whnf)
        refine V.st ?_
        repeat ((try ((with_reducible refine .ext ?_); (conv => whnf))); (with_reducible refine call_intro (r := ?_) ?_ ?_); rotate_left; (focus (first | exact (e1) | exact (e2) | exact (c1))); (conv => whnf); refine V.st ?_)
        exact Fin.of rfl
      have hk := cko1_ok 105 p q s t false 20 1 (l1 p q) (fun _ => p) (fun _ => q) (l1_c p q) (by omega) (fun _ _ => hv) hc
      refine called_of_run tbOk 6 ⟨Tryz.func44, rfl, rfl, Nat.le_of_ble_eq_true rfl⟩ ?_
      (conv => whnf)
      refine V.st ?_
      repeat ((try ((with_reducible refine .ext ?_); (conv => whnf))); (with_reducible refine call_intro (r := ?_) ?_ ?_); rotate_left; (focus (first | exact (hk))); (conv => whnf); refine V.st ?_)
      exact Fin.of rfl
  · rw [if_neg hv]
    exact has_no p q s t hv
theorem flo_uniq {z d f : Int} (hd : 0 < d) (h1 : f * d ≤ z) (h2 : z < f * d + d) : flo z d = f := by
  have h3 := flo_mul (z := z) hd
  rcases Int.lt_trichotomy (flo z d) f with g | g | g
  · exfalso
    have := Int.mul_le_mul_of_nonneg_right (show flo z d + 1 ≤ f by omega) (show (0 : Int) ≤ d by omega)
    rw [Int.add_mul] at this
    omega
  · exact g
  · exfalso
    have := Int.mul_le_mul_of_nonneg_right (show f + 1 ≤ flo z d by omega) (show (0 : Int) ≤ d by omega)
    rw [Int.add_mul] at this
    omega
theorem cei_uniq {z d f : Int} (hd : 0 < d) (h1 : z ≤ f * d) (h2 : f * d < z + d) : cei z d = f := by
  have := flo_uniq (z := -z) (f := -f) hd (by rw [Int.neg_mul]; omega) (by rw [Int.neg_mul]; omega)
  unfold cei; omega
theorem aroundR_eq (x : Rat) : aroundR x = mk (loE x) (hiE x) := by
  have hp := x.den_pos
  have e1 := loE_divInt x.num x.den (by omega)
  have e2 := hiE_divInt x.num x.den (by omega)
  rw [Rat.num_divInt_den] at e1 e2
  obtain ⟨b1, b2⟩ := near_bd x
  have l1 := lt_unit (nearZ x 1000000000000) x
  have l2 := unit_lt (nearZ x 1000000000000) x
  have l3 := unit_eq (nearZ x 1000000000000) x
  unfold aroundR
  generalize nearZ x 1000000000000 = n at *
  have m1 : (n + -1) * (x.den : Int) = n * x.den - x.den := by rw [Int.add_mul]; omega
  have m2 : (n + 1) * (x.den : Int) = n * x.den + x.den := by rw [Int.add_mul]; omega
  have key : loE x = n + min (ordQ x (unit n)) 0 ∧ hiE x = n + max (ordQ x (unit n)) 0 := by
    rw [e1, e2]
    by_cases g1 : x < unit n
    · have o : ordQ x (unit n) = -1 := by unfold ordQ; rw [if_pos g1]
      rw [o, show min (-1 : Int) 0 = -1 from rfl, show max (-1 : Int) 0 = 0 from rfl, Int.add_zero]
      have := l1.1 g1
      exact ⟨flo_uniq (by omega) (by rw [m1]; omega) (by rw [m1]; omega), cei_uniq (by omega) (by omega) (by omega)⟩
    · by_cases g2 : x = unit n
      · have o : ordQ x (unit n) = 0 := by unfold ordQ; rw [if_neg g1, if_pos g2]
        rw [o, show min (0 : Int) 0 = 0 from rfl, show max (0 : Int) 0 = 0 from rfl, Int.add_zero]
        have := l3.1 g2
        exact ⟨flo_uniq (by omega) (by omega) (by omega), cei_uniq (by omega) (by omega) (by omega)⟩
      · have o : ordQ x (unit n) = 1 := by unfold ordQ; rw [if_neg g1, if_neg g2]
        rw [o, show min (1 : Int) 0 = 0 from rfl, show max (1 : Int) 0 = 1 from rfl, Int.add_zero]
        have := l2.1 (Rat.lt_of_le_of_ne (Rat.not_lt.1 g1) (Ne.symm g2))
        exact ⟨flo_uniq (by omega) (by omega) (by omega), cei_uniq (by omega) (by rw [m2]; omega) (by rw [m2]; omega)⟩
  have ho := ordQ_r x (unit n)
  rw [key.1, key.2]
  by_cases hv : vb n n = true
  · rw [if_pos hv]
  · rw [if_neg hv, mk_no (fun h => hv (vb_iff.2 (by omega)))]
theorem around_a (s t : List UInt8) (hs : s.length ≤ 281474976710656) (ht : t.length ≤ 281474976710656) : Called Tryz.prog 42 [.agg [.str s, .str t]] (bD (aroundA s t)) := by
  unfold aroundA
  by_cases h : okP s t = true
  · rw [if_pos h, ← aroundR_eq]
    by_cases hz : -9223372036854775808 ≤ nearZ (qv s t) 1000000000000 ∧ nearZ (qv s t) 1000000000000 ≤ 9223372036854775807
    · exact around_b s t h hz
    · have hv : ¬ vb (nearZ (qv s t) 1000000000000) (nearZ (qv s t) 1000000000000) = true := fun g => hz (by have := vb_iff.1 g; omega)
      have n1 := near_big s t h hz
      unfold aroundR
      rw [if_neg hv]
      refine called_of_run tbOk 6 ⟨Tryz.func42, rfl, rfl, Nat.le_of_ble_eq_true rfl⟩ ?_
      (conv => whnf)
      refine V.st ?_
      repeat ((try ((with_reducible refine .ext ?_); (conv => whnf))); (with_reducible refine call_intro (r := ?_) ?_ ?_); rotate_left; (focus (first | exact (n1))); (conv => whnf); refine V.st ?_)
      exact Fin.of rfl
  · rw [if_neg h]
    have n1 := near_no s t (Bool.eq_false_iff.2 h) hs ht
    refine called_of_run tbOk 6 ⟨Tryz.func42, rfl, rfl, Nat.le_of_ble_eq_true rfl⟩ ?_
    (conv => whnf)
    refine V.st ?_
    repeat ((try ((with_reducible refine .ext ?_); (conv => whnf))); (with_reducible refine call_intro (r := ?_) ?_ ?_); rotate_left; (focus (first | exact (n1))); (conv => whnf); refine V.st ?_)
    exact Fin.of rfl
end Go.Proofs.YtplflfnfodghmaaGreatDoor
end
section
namespace Go.Proofs.YtplflfnfodghmaaGreatDoor
open Go Go.V Go.Nb
theorem corner_lo {p q p2 q2 x y : Int} (hx : p ≤ x ∧ x ≤ q) (hy : p2 ≤ y ∧ y ≤ q2) : p * p2 ≤ x * y ∨ p * q2 ≤ x * y ∨ q * p2 ≤ x * y ∨ q * q2 ≤ x * y := by
  rcases Int.le_total 0 y with h | h
  · have h1 : p * y ≤ x * y := Int.mul_le_mul_of_nonneg_right hx.1 h
    rcases Int.le_total 0 p with g | g
    · have h2 : p * p2 ≤ p * y := Int.mul_le_mul_of_nonneg_left hy.1 g
      omega
    · have h2 : p * q2 ≤ p * y := Int.mul_le_mul_of_nonpos_left g hy.2
      omega
  · have h1 : q * y ≤ x * y := Int.mul_le_mul_of_nonpos_right hx.2 h
    rcases Int.le_total 0 q with g | g
    · have h2 : q * p2 ≤ q * y := Int.mul_le_mul_of_nonneg_left hy.1 g
      omega
    · have h2 : q * q2 ≤ q * y := Int.mul_le_mul_of_nonpos_left g hy.2
      omega
theorem corner_hi {p q p2 q2 x y : Int} (hx : p ≤ x ∧ x ≤ q) (hy : p2 ≤ y ∧ y ≤ q2) : x * y ≤ p * p2 ∨ x * y ≤ p * q2 ∨ x * y ≤ q * p2 ∨ x * y ≤ q * q2 := by
  have h := corner_lo (p := -q) (q := -p) (x := -x) (by omega) hy
  simp only [Int.neg_mul] at h
  omega
theorem mnf {d z a b c e : Int} (hd : 0 < d) (h : a ≤ z ∨ b ≤ z ∨ c ≤ z ∨ e ≤ z) : mn4 (flo a d) (flo b d) (flo c d) (flo e d) ≤ flo z d := by
  unfold mn4
  rcases h with h | h | h | h <;> (have := flo_mono hd h; omega)
theorem mxc {d z a b c e : Int} (hd : 0 < d) (h : z ≤ a ∨ z ≤ b ∨ z ≤ c ∨ z ≤ e) : cei z d ≤ mx4 (cei a d) (cei b d) (cei c d) (cei e d) := by
  unfold mx4
  rcases h with h | h | h | h <;> (have := cei_mono hd h; omega)
theorem mn4_le {m a b c d : Int} (h1 : m ≤ a) (h2 : m ≤ b) (h3 : m ≤ c) (h4 : m ≤ d) : m ≤ mn4 a b c d := by unfold mn4; omega
theorem le_mx4 {m a b c d : Int} (h1 : a ≤ m) (h2 : b ≤ m) (h3 : c ≤ m) (h4 : d ≤ m) : mx4 a b c d ≤ m := by unfold mx4; omega
theorem mn_mx {a b c d a' b' c' d' : Int} (h : a ≤ a') : mn4 a b c d ≤ mx4 a' b' c' d' := by unfold mn4 mx4; omega
def Shr (r s : Int × Int × Int) : Prop := (∃ x y x' y', r = (x, y, 0) ∧ s = (x', y', 0) ∧ x ≤ x' ∧ y' ≤ y) ∨ r = (0, 0, 6) ∨ r = (0, 0, 7)
theorem shr_mk {p q p' q' : Int} (h1 : p ≤ p') (h2 : q' ≤ q) (h3 : p' ≤ q') : Shr (mk p q) (mk p' q') := by
  by_cases hv : vb p q = true
  · have hb := vb_iff.1 hv
    exact .inl ⟨p, q, p', q', mk_ok hb, mk_ok (by omega), h1, h2⟩
  · refine .inr (.inl ?_)
    unfold mk; rw [if_neg hv]
theorem shr_mul {p q p2 q2 m n m2 n2 : Int} (h1 : p ≤ m) (h2 : m ≤ n) (h3 : n ≤ q) (g1 : p2 ≤ m2) (g2 : m2 ≤ n2) (g3 : n2 ≤ q2) : Shr (mulR p q p2 q2) (mulR m n m2 n2) := by
  unfold mulR
  have lo : ∀ x y, m ≤ x ∧ x ≤ n → m2 ≤ y ∧ y ≤ n2 → mn4 (flo (p * p2) 1000000000000) (flo (p * q2) 1000000000000) (flo (q * p2) 1000000000000) (flo (q * q2) 1000000000000) ≤ flo (x * y) 1000000000000 :=
    fun x y hx hy => mnf (by omega) (corner_lo (by omega) (by omega))
  have hi : ∀ x y, m ≤ x ∧ x ≤ n → m2 ≤ y ∧ y ≤ n2 → cei (x * y) 1000000000000 ≤ mx4 (cei (p * p2) 1000000000000) (cei (p * q2) 1000000000000) (cei (q * p2) 1000000000000) (cei (q * q2) 1000000000000) :=
    fun x y hx hy => mxc (by omega) (corner_hi (by omega) (by omega))
  exact shr_mk (mn4_le (lo _ _ (by omega) (by omega)) (lo _ _ (by omega) (by omega)) (lo _ _ (by omega) (by omega)) (lo _ _ (by omega) (by omega)))
    (le_mx4 (hi _ _ (by omega) (by omega)) (hi _ _ (by omega) (by omega)) (hi _ _ (by omega) (by omega)) (hi _ _ (by omega) (by omega))) (mn_mx (flo_le_cei _ _ (by omega)))
theorem ediv_pos_mono {a y z : Int} (ha : 0 ≤ a) (hy : 0 < y) (hz : y ≤ z) : a / z ≤ a / y := by
  refine (Int.le_ediv_iff_mul_le hy).2 ?_
  have h0 : 0 ≤ a / z := Int.ediv_nonneg ha (by omega)
  have h1 := Int.mul_le_mul_of_nonneg_left hz h0
  have h2 := Int.ediv_mul_le a (b := z) (by omega)
  omega
theorem ediv_neg_mono {a y z : Int} (ha : a ≤ 0) (hy : 0 < y) (hz : y ≤ z) : a / y ≤ a / z := by
  refine (Int.le_ediv_iff_mul_le (by omega)).2 ?_
  have h0 : a / y ≤ 0 := by
    have := Int.ediv_le_ediv hy ha
    simpa using this
  have h1 : a / y * z ≤ a / y * y := Int.mul_le_mul_of_nonpos_left h0 hz
  have h2 := Int.ediv_mul_le a (b := y) (by omega)
  omega
theorem ediv_corner {a z y p2 q2 : Int} (hp : 0 < p2) (haz : a ≤ z) (h1 : p2 ≤ y) (h2 : y ≤ q2) : a / p2 ≤ z / y ∨ a / q2 ≤ z / y := by
  have h3 := Int.ediv_le_ediv (show 0 < y by omega) haz
  rcases Int.le_total 0 a with h | h
  · have := ediv_pos_mono h (show 0 < y by omega) h2
    omega
  · have := ediv_neg_mono h hp h1
    omega
theorem div_lo {p q p2 q2 x y : Int} (hx : p ≤ x ∧ x ≤ q) (hy : p2 ≤ y ∧ y ≤ q2) (hz : 0 < p2 ∨ q2 < 0) : flo (p * 1000000000000) p2 ≤ flo (x * 1000000000000) y ∨ flo (p * 1000000000000) q2 ≤ flo (x * 1000000000000) y ∨ flo (q * 1000000000000) p2 ≤ flo (x * 1000000000000) y ∨ flo (q * 1000000000000) q2 ≤ flo (x * 1000000000000) y := by
  unfold flo
  rcases hz with hz | hz
  · rw [if_pos hz, if_pos (show 0 < y by omega), if_pos (show 0 < q2 by omega)]
    have := ediv_corner hz (show p * 1000000000000 ≤ x * 1000000000000 by omega) hy.1 hy.2
    omega
  · rw [if_neg (show ¬ 0 < p2 by omega), if_neg (show ¬ 0 < y by omega), if_neg (show ¬ 0 < q2 by omega)]
    have := ediv_corner (p2 := -q2) (q2 := -p2) (y := -y) (by omega) (show -(q * 1000000000000) ≤ -(x * 1000000000000) by omega) (by omega) (by omega)
    rw [if_neg (show ¬ 0 < p2 by omega)]
    omega
theorem div_hi {p q p2 q2 x y : Int} (hx : p ≤ x ∧ x ≤ q) (hy : p2 ≤ y ∧ y ≤ q2) (hz : 0 < p2 ∨ q2 < 0) : cei (x * 1000000000000) y ≤ cei (p * 1000000000000) p2 ∨ cei (x * 1000000000000) y ≤ cei (p * 1000000000000) q2 ∨ cei (x * 1000000000000) y ≤ cei (q * 1000000000000) p2 ∨ cei (x * 1000000000000) y ≤ cei (q * 1000000000000) q2 := by
  have h := div_lo (p := -q) (q := -p) (x := -x) (by omega) hy hz
  unfold cei
  simp only [Int.neg_mul] at h
  omega
theorem shr_div {p q p2 q2 m n m2 n2 : Int} (h1 : p ≤ m) (h2 : m ≤ n) (h3 : n ≤ q) (g1 : p2 ≤ m2) (g2 : m2 ≤ n2) (g3 : n2 ≤ q2) : Shr (if p2 ≤ 0 ∧ 0 ≤ q2 then (0, 0, 7) else divR p q p2 q2) (if m2 ≤ 0 ∧ 0 ≤ n2 then (0, 0, 7) else divR m n m2 n2) := by
  by_cases hz : p2 ≤ 0 ∧ 0 ≤ q2
  · rw [if_pos hz]; exact .inr (.inr rfl)
  · rw [if_neg hz, if_neg (by omega)]
    unfold divR
    have lo : ∀ x y, m ≤ x ∧ x ≤ n → m2 ≤ y ∧ y ≤ n2 → mn4 (flo (p * 1000000000000) p2) (flo (p * 1000000000000) q2) (flo (q * 1000000000000) p2) (flo (q * 1000000000000) q2) ≤ flo (x * 1000000000000) y :=
      fun x y hx hy => by
        have := div_lo (p := p) (q := q) (p2 := p2) (q2 := q2) (x := x) (y := y) (by omega) (by omega) (by omega)
        unfold mn4; omega
    have hi : ∀ x y, m ≤ x ∧ x ≤ n → m2 ≤ y ∧ y ≤ n2 → cei (x * 1000000000000) y ≤ mx4 (cei (p * 1000000000000) p2) (cei (p * 1000000000000) q2) (cei (q * 1000000000000) p2) (cei (q * 1000000000000) q2) :=
      fun x y hx hy => by
        have := div_hi (p := p) (q := q) (p2 := p2) (q2 := q2) (x := x) (y := y) (by omega) (by omega) (by omega)
        unfold mx4; omega
    exact shr_mk (mn4_le (lo _ _ (by omega) (by omega)) (lo _ _ (by omega) (by omega)) (lo _ _ (by omega) (by omega)) (lo _ _ (by omega) (by omega)))
      (le_mx4 (hi _ _ (by omega) (by omega)) (hi _ _ (by omega) (by omega)) (hi _ _ (by omega) (by omega)) (hi _ _ (by omega) (by omega))) (mn_mx (flo_le_cei _ _ (by omega)))
theorem min_R {p q p2 q2 : Int} (h : p ≤ q) (h2 : p2 ≤ q2) : (if p = p2 ∧ q = q2 then (p, q, (0 : Int)) else if min q q2 < min p p2 then (0, 0, 4) else (min p p2, min q q2, 0)) = (min p p2, min q q2, 0) := by
  by_cases he : p = p2 ∧ q = q2
  · rw [if_pos he, show min p p2 = p by omega, show min q q2 = q by omega]
  · rw [if_neg he, if_neg (by omega)]
theorem max_R {p q p2 q2 : Int} (h : p ≤ q) (h2 : p2 ≤ q2) : (if p = p2 ∧ q = q2 then (p, q, (0 : Int)) else if max q q2 < max p p2 then (0, 0, 4) else (max p p2, max q q2, 0)) = (max p p2, max q q2, 0) := by
  by_cases he : p = p2 ∧ q = q2
  · rw [if_pos he, show max p p2 = p by omega, show max q q2 = q by omega]
  · rw [if_neg he, if_neg (by omega)]
theorem hull_R {p q p2 q2 : Int} (h : p ≤ q) (h2 : p2 ≤ q2) : (if p = p2 ∧ q = q2 then (p, q, (0 : Int)) else if max q q2 < min p p2 then (0, 0, 4) else (min p p2, max q q2, 0)) = (min p p2, max q q2, 0) := by
  by_cases he : p = p2 ∧ q = q2
  · rw [if_pos he, show min p p2 = p by omega, show max q q2 = q by omega]
  · rw [if_neg he, if_neg (by omega)]
end Go.Proofs.YtplflfnfodghmaaGreatDoor
end
section
namespace Go.Proofs.YtplflfnfodghmaaGreatDoor
open Go Go.V Go.Nb
def prL (p q p2 q2 a w a2 w2 : Int) : List D := [.int .i64 p, .int .i64 q, .int .i64 p2, .int .i64 q2, .int .i64 (bnL a), .int .i64 (bnH a w), .int .i64 (bnL a2), .int .i64 (bnH a2 w2), .int .i64 (smL a), .int .i64 (smH a w), .int .i64 (smL a2), .int .i64 (smH a2 w2), .int .i64 (bnL a), .int .i64 (bnH a w), .int .i64 (unL a2), .int .i64 (unH a2 w2), .int .i64 (unL a), .int .i64 (unH a w), .int .i64 p2, .int .i64 q2]
def prs (p q p2 q2 a w a2 w2 : Int) : Nat → List D := fun j => List.take 4 (List.drop (0 + j * 4) (prL p q p2 q2 a w a2 w2))
theorem pairs_c (p q p2 q2 a w a2 w2 : Int) (hw : 0 ≤ w ∧ w ≤ 4294967295) (hw2 : 0 ≤ w2 ∧ w2 ≤ 4294967295) : Called Tryz.prog 9 [.agg [.int .i64 p, .int .i64 q, .int .i64 p2, .int .i64 q2, .int .i64 a, .int .u32 w, .int .i64 a2, .int .u32 w2]] (.slf 4 5 (prs p q p2 q2 a w a2 w2)) := by
  have b1 := bandD_c a w hw
  have b2 := bandD_c a2 w2 hw2
  have s1 := smallD_c a w
  have s2 := smallD_c a2 w2
  have u1 := unitD_c a w
  have u2 := unitD_c a2 w2
  unfold prs prL
  generalize bnL a = x1 at *
  generalize bnH a w = x2 at *
  generalize bnL a2 = x3 at *
  generalize bnH a2 w2 = x4 at *
  generalize smL a = x5 at *
  generalize smH a w = x6 at *
  generalize smL a2 = x7 at *
  generalize smH a2 w2 = x8 at *
  generalize unL a = x9 at *
  generalize unH a w = x10 at *
  generalize unL a2 = x11 at *
  generalize unH a2 w2 = x12 at *
  refine called_of_run tbOk 6 ⟨Tryz.func9, rfl, rfl, Nat.le_of_ble_eq_true rfl⟩ ?_
  (conv => whnf)
  refine V.st ?_
  refine ⟨(.take 0 (.take 1 (.take 2 (.take 3 (.take 4 (.take 5 (.take 6 (.take 8 (.take 9 (.take 12 (.take 13 (.take 15 (.take 16 (.take 19 (.take 20 (.take 22 (.take 23 (.take 26 (.take 27 (.take 29 (.take 30 (.ev (.cons 7 [30, 29, 27, 26, 23, 22, 20, 19, 16, 15, 13, 12, 9, 8, 4, 3, 2, 1, 0] (.ev (.cons 10 [30, 29, 27, 26, 23, 22, 20, 19, 16, 15, 13, 12, 4, 3, 2, 1, 0] (.take 11 (.ev (.cons 14 [11, 30, 29, 27, 26, 23, 22, 20, 19, 16, 15, 4, 3, 2, 1, 0] (.ev (.cons 17 [11, 30, 29, 27, 26, 23, 22, 20, 19, 4, 3, 2, 1, 0] (.take 18 (.ev (.cons 21 [18, 11, 30, 29, 27, 26, 23, 22, 4, 3, 2, 1, 0] (.ev (.cons 24 [18, 11, 30, 29, 27, 26, 4, 3, 2, 1, 0] (.take 25 (.ev (.cons 28 [25, 18, 11, 30, 29, 4, 3, 2, 1, 0] (.take 31 (.ev (.cons 32 [] (.take 33 (.done)) (.nil)))) (.nil)))) (.nil))) (.nil)))) (.nil))) (.nil)))) (.nil))) (.nil)))))))))))))))))))))))), ⟨by kernel_rfl, by kernel_rfl, by kernel_rfl⟩, .go ?_⟩
  (conv => whnf)
  refine V.st ?_
  repeat ((try ((with_reducible refine .ext ?_); (conv => whnf))); (with_reducible refine call_intro (r := ?_) ?_ ?_); rotate_left; (focus (first | exact (b1) | exact (b2) | exact (s1) | exact (s2) | exact (u1) | exact (u2))); (conv => whnf); refine V.st ?_)
  exact Fin.of rfl
theorem mulR_comm (p q p2 q2 : Int) : mulR p2 q2 p q = mulR p q p2 q2 := by
  unfold mulR mn4 mx4
  rw [Int.mul_comm p2 p, Int.mul_comm p2 q, Int.mul_comm q2 p, Int.mul_comm q2 q]
  congr 1 <;> omega
end Go.Proofs.YtplflfnfodghmaaGreatDoor
end
section
namespace Go.Proofs.YtplflfnfodghmaaGreatDoor
open Go Go.V Go.Nb
theorem cut_law (s t : List UInt8) (hs : s.length ≤ 281474976710656) (ht : t.length ≤ 281474976710656) : Called Tryz.prog 38 [.agg [.str s, .str t]] (.agg [.str (s.take 620), .str (t.take 620)]) := by
  have e1 : ((min (s.length : Int) 620).toNat) = min s.length 620 := by omega
  have e2 : ((min (t.length : Int) 620).toNat) = min t.length 620 := by omega
  have f1 : s.take (min s.length 620) = s.take 620 := by rw [Nat.min_comm, ← List.take_take, List.take_length]
  have f2 : t.take (min t.length 620) = t.take 620 := by rw [Nat.min_comm, ← List.take_take, List.take_length]
  refine called_of_run tbOk 6 ⟨Tryz.func38, rfl, rfl, Nat.le_of_ble_eq_true rfl⟩ ?_
  (conv => whnf)
  refine V.st ?_
  refine ⟨(.take 0 (.take 1 (.take 2 (.take 3 (.take 4 (.take 5 (.take 6 (.take 7 (.take 8 (.take 9 (.take 10 (.take 11 (.take 12 (.take 13 (.take 14 (.ev (.cons 15 [] (.done) (.nil)))))))))))))))))), ⟨by kernel_rfl, by kernel_rfl, by kernel_rfl⟩, .go ?_⟩
  (conv => whnf)
  (try simp only [e1, e2, f1, f2])
  repeat (first | (refine V.s1 ?_; (try simp only [e1, e2, f1, f2])) | ((with_reducible refine recheck_and ?_ ?_); (focus ((conv => whnf); (try simp only [e1, e2, f1, f2]); (repeat (refine V.s1 ?_; (try simp only [e1, e2, f1, f2]))); exact ⟨rfl⟩)); (conv => whnf); (try simp only [e1, e2, f1, f2])))
  exact Fin.of rfl
def SameX (s t : List UInt8) : Prop := ∃ r : Int × Int × Int, Called Tryz.prog 42 [.agg [.str s, .str t]] (bD r) ∧ Called Tryz.prog 43 [.agg [.str s, .str t]] (bD r) ∧
  ∀ p q : Int, ∃ (b : Bool) (e : Int), Called Tryz.prog 44 [bA p q, .agg [.str s, .str t]] (.tup [.bool b, .int .i64 e]) ∧ Called Tryz.prog 45 [bA p q, .agg [.str s, .str t]] (.tup [.bool b, .int .i64 e])
theorem sameX (s t : List UInt8) (hs : s.length ≤ 281474976710656) (ht : t.length ≤ 281474976710656) : SameX s t :=
  ⟨_, around_a s t hs ht, around_r s t hs ht, fun p q => ⟨_, _, has_a p q s t hs ht, has_r p q s t hs ht⟩⟩
theorem sameF {x : Rat} (h : okF x = true) : SameX (decZ x.num) (dec x.den) := by
  obtain ⟨h1, h2, _, _⟩ := okP_of (okP_dec h).1
  have l1 := (okW_len h1).1
  have l2 := (okW_len h2).1
  exact sameX _ _ (by omega) (by omega)
def SameO (p q : Int) : Prop := ∃ r : Int × Int × Int, Called Tryz.prog 34 [.int .i64 p, .int .i64 q] (bD r) ∧ Called Tryz.prog 35 [.int .i64 p, .int .i64 q] (bD r)
def SameC (p q : Int) : Prop := ∃ e : Int, Called Tryz.prog 36 [bA p q] (.int .i64 e) ∧ Called Tryz.prog 37 [bA p q] (.int .i64 e)
theorem sameO (p q : Int) : SameO p q := ⟨_, of_b p q, of_r p q⟩
theorem sameC (p q : Int) : SameC p q := ⟨_, check_b p q, check_r p q⟩
theorem prs_eq3 (p q p2 q2 a w a2 w2 : Int) (k : Nat) (hk : k < 5) : ∃ x y x2 y2, prs p q p2 q2 a w a2 w2 k = [.int .i64 x, .int .i64 y, .int .i64 x2, .int .i64 y2] := by
  rcases (by omega : k = 0 ∨ k = 1 ∨ k = 2 ∨ k = 3 ∨ k = 4) with e | e | e | e | e <;> subst e <;> exact ⟨_, _, _, _, rfl⟩
theorem bandMakes_c (p q p2 q2 a w a2 w2 n : Int) (s t : List UInt8) (b : Bool) (xs : List Int) (z : Int) (b2 : Bool) (xs2 : List Int) (z2 : Int) (hw : 0 ≤ w ∧ w ≤ 4294967295) (hw2 : 0 ≤ w2 ∧ w2 ≤ 4294967295)
    (hs : s.length ≤ 281474976710656) (ht : t.length ≤ 281474976710656) (hz : 0 ≤ z ∧ z ≤ 65535) (hz2 : 0 ≤ z2 ∧ z2 ≤ 65535) :
    Called Tryz.prog 5 [.agg [.int .i64 p, .int .i64 q, .int .i64 p2, .int .i64 q2, .int .i64 a, .int .u32 w, .int .i64 a2, .int .u32 w2], .int .i64 n, .agg [.str s, .str t], .agg [.bool b, .ints .u16 xs, .int .u16 z, .bool b2, .ints .u16 xs2, .int .u16 z2]] (.bool true) := by
  have c0 := works_c
  have c1 := pairs_c p q p2 q2 a w a2 w2 hw hw2
  have hf := prs_eq3 p q p2 q2 a w a2 w2
  generalize prs p q p2 q2 a w a2 w2 = f at *
  have b1 := point_b n
  have b3 := point_r n
  generalize (if vb n n = true then (n, n, (0 : Int)) else (0, 0, 30)) = pt at *
  have d1 := cut_law s t hs ht
  obtain ⟨q1, oq1, d2⟩ := dfrac_c b xs z b2 xs2 z2 hz hz2
  obtain ⟨n3, m3, hn3, hm3, d3⟩ := dshort_c b xs z b2 xs2 z2
  obtain ⟨n4, m4, hn4, hm4, d4⟩ := dunit_c b xs z b2 xs2 z2
  have x1 := sameX (s.take 620) (t.take 620) (by rw [List.length_take]; omega) (by rw [List.length_take]; omega)
  have x2 := sameF oq1
  have x3 := sameF (out_small n3 m3 (by omega) (by omega))
  have x4 := sameF (out_small n4 m4 (by omega) (by omega))
  unfold frT at d2 d3 d4
  generalize s.take 620 = s1 at *
  generalize t.take 620 = t1 at *
  generalize decZ q1.num = s2 at *
  generalize dec q1.den = t2 at *
  generalize decZ (Rat.divInt n3 m3).num = s3 at *
  generalize dec (Rat.divInt n3 m3).den = t3 at *
  generalize decZ (Rat.divInt n4 m4).num = s4 at *
  generalize dec (Rat.divInt n4 m4).den = t4 at *
  clear hn3 hm3 hn4 hm4 hs ht hz hz2 hw hw2
  obtain ⟨pa, pb, pe⟩ := pt
  unfold bD at b1 b3
  unfold SameX bD at x1 x2 x3 x4
  refine called_of_run tbOk 6 ⟨Tryz.func5, rfl, rfl, Nat.le_of_ble_eq_true rfl⟩ ?_
  (conv => whnf)
  refine V.st ?_
  repeat ((try ((with_reducible refine .ext ?_); (conv => whnf))); (with_reducible refine call_intro (r := ?_) ?_ ?_); rotate_left; (focus (first | exact (c0) | exact (b1) | exact (b3))); (conv => whnf); refine V.st ?_)
  refine Cnd.split (CondB.mk (fun g0 => ?_) (fun g0 => ?_))
  · simp at g0
  (conv => whnf)
  refine V.st ?_
  repeat ((try ((with_reducible refine .ext ?_); (conv => whnf))); (with_reducible refine call_intro (r := ?_) ?_ ?_); rotate_left; (focus (first | exact (c1))); (conv => whnf); refine V.st ?_)
  refine lp_any (0 : Nat) (fun k => k ≤ 5) (fun k => 5 - k) (fun k => [(52, .int .i64 k)]) (fun _ => []) ?_ ?_ ?_
  · exact V.wk
  · exact Nat.zero_le _
  intro k hk
  have hkc : ((k : Int) + 1) = ((k + 1 : Nat) : Int) := by omega
  clear c0 c1 b1 b3 g0
  (conv => whnf)
  refine V.st ?_
  refine Cnd.split (CondB.mk (fun hq => ?_) (fun hq => ?_))
  · rw [decide_eq_true_eq] at hq
    obtain ⟨x, y, x2', y2, hfk⟩ := hf k (by omega)
    clear hf
    obtain ⟨⟨ra, rb, re⟩, o1, o2⟩ := sameO x y2
    obtain ⟨e1, k1, k2⟩ := sameC x y
    obtain ⟨e2, k3, k4⟩ := sameC ra rb
    unfold bD at o1 o2
    (conv => whnf)
    (try simp only [Int.toNat_natCast, hfk, hkc])
    repeat (first | (refine V.s1 ?_; (try simp only [Int.toNat_natCast, hfk, hkc])) | ((with_reducible refine recheck_and ?_ ?_); (focus ((conv => whnf); (try simp only [Int.toNat_natCast, hfk, hkc]); (repeat (refine V.s1 ?_; (try simp only [Int.toNat_natCast, hfk, hkc]))); exact ⟨rfl⟩)); (conv => whnf); (try simp only [Int.toNat_natCast, hfk, hkc])))
    (conv => whnf)
    refine And.intro (fun _ => ⟨by omega, by omega⟩) ?_
    (conv => whnf)
    (try simp only [hkc])
    repeat (first | (refine V.s1 ?_; (try simp only [hkc])) | ((with_reducible refine recheck_and ?_ ?_); (focus ((conv => whnf); (try simp only [hkc]); (repeat (refine V.s1 ?_; (try simp only [hkc]))); exact ⟨rfl⟩)); (conv => whnf); (try simp only [hkc])) | ((try ((with_reducible refine .ext ?_); (conv => whnf); (try simp only [hkc]))); (with_reducible refine call_intro (r := ?_) ?_ ?_); rotate_left; (focus (first | exact (o1) | exact (o2))); (conv => whnf); (try simp only [hkc])))
    refine ⟨(.take 0 (.take 1 (.take 2 (.take 3 (.take 4 (.take 5 (.take 6 (.take 7 (.take 8 (.take 9 (.take 10 (.take 12 (.take 13 (.ev (.cons 11 [13, 12] (.ev (.cons 14 [] (.take 15 (.take 16 (.take 17 (.take 18 (.take 20 (.ev (.cons 19 [20] (.ev (.cons 21 [] (.take 22 (.take 23 (.done))) (.nil))) (.nil)))))))) (.nil))) (.nil)))))))))))))))), ⟨by kernel_rfl, by kernel_rfl, by kernel_rfl⟩, .go ?_⟩
    (conv => whnf)
    refine V.st ?_
    repeat ((try ((with_reducible refine .ext ?_); (conv => whnf))); (with_reducible refine call_intro (r := ?_) ?_ ?_); rotate_left; (focus (first | exact (k1) | exact (k2) | exact (k3) | exact (k4))); (conv => whnf); refine V.st ?_)
    refine Cnd.split (CondB.mk (fun g => ?_) (fun g => ?_))
    · simp at g
    · (conv => whnf)
      refine V.st ?_
      refine ⟨(.take 0 (.take 2 (.take 4 (.take 6 (.take 9 (.ev (.cons 1 [9, 6, 4, 2] (.ev (.cons 3 [9, 6, 4] (.ev (.cons 5 [9, 6] (.ev (.cons 7 [9] (.take 8 (.done)) (.nil))) (.nil))) (.nil))) (.nil)))))))), ⟨by kernel_rfl, by kernel_rfl, by kernel_rfl⟩, .go ?_⟩
      (conv => whnf)
      refine V.st ?_
      repeat ((try ((with_reducible refine .ext ?_); (conv => whnf))); (with_reducible refine call_intro (r := ?_) ?_ ?_); rotate_left; (focus (first | exact (d1) | exact (d2) | exact (d3) | exact (d4))); (conv => whnf); refine V.st ?_)
      clear o1 o2 k1 k2 k3 k4 d1 d2 d3 d4 hfk
      refine lp_any (0 : Nat) (fun i => i ≤ 4) (fun i => 4 - i) (fun i => [(109, .int .i64 i)]) (fun _ => []) ?_ ?_ ?_
      · exact V.wk
      · exact Nat.zero_le _
      intro i hi
      rcases (by omega : i = 0 ∨ i = 1 ∨ i = 2 ∨ i = 3 ∨ i = 4) with e | e | e | e | e
      · subst e
        (conv => whnf)
        refine V.st ?_
        obtain ⟨⟨ua, ub, ue⟩, v1, v2, hh⟩ := x1
        obtain ⟨hb, he, w1, w2⟩ := hh x y
        clear hh
        (conv => whnf)
        refine V.st ?_
        repeat ((try ((with_reducible refine .ext ?_); (conv => whnf))); (with_reducible refine call_intro (r := ?_) ?_ ?_); rotate_left; (focus (first | exact (v1) | exact (v2) | exact (w1) | exact (w2))); (conv => whnf); refine V.st ?_)
        refine Cnd.split (CondB.mk (fun g => ?_) (fun g => ?_))
        · simp at g
        · (conv => whnf)
          refine V.st ?_
          exact ⟨1, by omega, by omega, V.wk⟩
      · subst e
        (conv => whnf)
        refine V.st ?_
        obtain ⟨⟨ua, ub, ue⟩, v1, v2, hh⟩ := x2
        obtain ⟨hb, he, w1, w2⟩ := hh x y
        clear hh
        (conv => whnf)
        refine V.st ?_
        repeat ((try ((with_reducible refine .ext ?_); (conv => whnf))); (with_reducible refine call_intro (r := ?_) ?_ ?_); rotate_left; (focus (first | exact (v1) | exact (v2) | exact (w1) | exact (w2))); (conv => whnf); refine V.st ?_)
        refine Cnd.split (CondB.mk (fun g => ?_) (fun g => ?_))
        · simp at g
        · (conv => whnf)
          refine V.st ?_
          exact ⟨2, by omega, by omega, V.wk⟩
      · subst e
        (conv => whnf)
        refine V.st ?_
        obtain ⟨⟨ua, ub, ue⟩, v1, v2, hh⟩ := x3
        obtain ⟨hb, he, w1, w2⟩ := hh x y
        clear hh
        (conv => whnf)
        refine V.st ?_
        repeat ((try ((with_reducible refine .ext ?_); (conv => whnf))); (with_reducible refine call_intro (r := ?_) ?_ ?_); rotate_left; (focus (first | exact (v1) | exact (v2) | exact (w1) | exact (w2))); (conv => whnf); refine V.st ?_)
        refine Cnd.split (CondB.mk (fun g => ?_) (fun g => ?_))
        · simp at g
        · (conv => whnf)
          refine V.st ?_
          exact ⟨3, by omega, by omega, V.wk⟩
      · subst e
        (conv => whnf)
        refine V.st ?_
        obtain ⟨⟨ua, ub, ue⟩, v1, v2, hh⟩ := x4
        obtain ⟨hb, he, w1, w2⟩ := hh x y
        clear hh
        (conv => whnf)
        refine V.st ?_
        repeat ((try ((with_reducible refine .ext ?_); (conv => whnf))); (with_reducible refine call_intro (r := ?_) ?_ ?_); rotate_left; (focus (first | exact (v1) | exact (v2) | exact (w1) | exact (w2))); (conv => whnf); refine V.st ?_)
        refine Cnd.split (CondB.mk (fun g => ?_) (fun g => ?_))
        · simp at g
        · (conv => whnf)
          refine V.st ?_
          exact ⟨4, by omega, by omega, V.wk⟩
      · subst e
        (conv => whnf)
        (try simp only [hkc])
        repeat (first | (refine V.s1 ?_; (try simp only [hkc])) | ((with_reducible refine recheck_and ?_ ?_); (focus ((conv => whnf); (try simp only [hkc]); (repeat (refine V.s1 ?_; (try simp only [hkc]))); exact ⟨rfl⟩)); (conv => whnf); (try simp only [hkc])))
        exact ⟨k + 1, by omega, by omega, V.wk⟩
  · (conv => whnf)
    refine V.st ?_
    exact Fin.of rfl
end Go.Proofs.YtplflfnfodghmaaGreatDoor
end
