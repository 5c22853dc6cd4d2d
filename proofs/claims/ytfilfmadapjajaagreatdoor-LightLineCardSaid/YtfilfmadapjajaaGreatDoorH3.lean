/- What some functions of the program answer at values that mean given lists, texts and numbers, each proved of the program's own code: part 3. Conditions: those that each theorem names. -/
import Derived.Test.YtfilfmadapjajaaGreatDoorH2
import Derived.Test.YtfilfmadapjajaaGreatDoorH1
set_option linter.unusedSimpArgs false
set_option linter.unusedVariables false
set_option maxHeartbeats 8000000
set_option maxRecDepth 100000
section
namespace Go.Proofs.YtfilfmadapjajaaGreatDoor
open Go Go.V Go.Nb
theorem gcd_c (a b : Nat) (ha : (mg 1000000000 a).length ≤ 90000000) (hb : (mg 1000000000 b).length ≤ 90000000) : Called Tryz.prog 113 [.ints .u32 (mg 1000000000 a), .ints .u32 (mg 1000000000 b)] (.ints .u32 (mg 1000000000 (Nat.gcd a b))) := by
  obtain ⟨g, hg⟩ : ∃ g, g = Nat.gcd a b := ⟨_, rfl⟩
  rw [← hg]
  refine called_of_run tbOk 6 ⟨Tryz.func113, rfl, rfl, Nat.le_of_ble_eq_true rfl⟩ ?_
  (conv => whnf)
  refine V.st ?_
  refine lp_any ((a, b) : Nat × Nat) (fun s => Nat.gcd s.1 s.2 = g ∧ (mg 1000000000 s.1).length ≤ 90000000 ∧ (mg 1000000000 s.2).length ≤ 90000000) (fun s => s.2)
    (fun s => [(0, .ints .u32 (mg 1000000000 s.1)), (1, .ints .u32 (mg 1000000000 s.2))]) (fun _ => []) ?_ ?_ ?_
  · exact V.wk
  · exact ⟨hg.symm, ha, hb⟩
  rintro ⟨x, y⟩ ⟨h1, h2, h3⟩
  dsimp only at h1 h2 h3 ⊢
  have hz := zero_c y
  (conv => whnf)
  refine V.st ?_
  repeat ((try ((with_reducible refine .ext ?_); (conv => whnf))); (with_reducible refine call_intro (r := ?_) ?_ ?_); rotate_left; (focus (first | exact (hz))); (conv => whnf); refine V.st ?_)
  refine Cnd.split (CondB.mk (fun hq => ?_) (fun hq => ?_))
  · have hy : ¬ y = 0 := by simpa using hq
    (conv => whnf)
    refine V.st ?_
    refine Cnd.split (CondB.mk (fun hq2 => ?_) (fun hq2 => ?_))
    · rw [Bool.and_eq_true, decide_eq_true_eq, decide_eq_true_eq] at hq2
      have hx18 : x < 1000000000000000000 := by
        have := mg_lt_pow (B := 1000000000) (n := x) (by omega)
        have h5 : 1000000000 ^ (mg 1000000000 x).length ≤ 1000000000 ^ 2 := Nat.pow_le_pow_right (by omega) (by omega)
        omega
      have hy18 : y < 1000000000000000000 := by
        have := mg_lt_pow (B := 1000000000) (n := y) (by omega)
        have h5 : 1000000000 ^ (mg 1000000000 y).length ≤ 1000000000 ^ 2 := Nat.pow_le_pow_right (by omega) (by omega)
        omega
      have hs1 := small_c x hx18
      have hs2 := small_c y hy18
      (conv => whnf)
      refine V.st ?_
      repeat ((try ((with_reducible refine .ext ?_); (conv => whnf))); (with_reducible refine call_intro (r := ?_) ?_ ?_); rotate_left; (focus (first | exact (hs1) | exact (hs2))); (conv => whnf); refine V.st ?_)
      refine lp_any ((x, y) : Nat × Nat) (fun s => Nat.gcd s.1 s.2 = g ∧ s.1 < 1000000000000000000 ∧ s.2 < 1000000000000000000) (fun s => s.2) (fun s => [(5, .int .u64 s.1), (6, .int .u64 s.2)]) (fun _ => []) ?_ ?_ ?_
      · exact V.wk
      · exact ⟨h1, hx18, hy18⟩
      rintro ⟨p, q⟩ ⟨i1, i2, i3⟩
      dsimp only at i1 i2 i3 ⊢
      (conv => whnf)
      refine V.st ?_
      refine Cnd.split (CondB.mk (fun hq3 => ?_) (fun hq3 => ?_))
      · rw [decide_eq_true_eq] at hq3
        have hqp : 0 < q := by omega
        have em : (p : Int) % (q : Int) = ((p % q : Nat) : Int) := by rw [Int.natCast_emod]
        have hlt := Nat.mod_lt p hqp
        (conv => whnf)
        (try simp only [em])
        repeat ((first | refine V.s1 ?_); (try simp only [em]))
        refine ⟨(.take 0 (.take 1 (.take 2 (.take 3 (.ev (.cons 4 [3, 2] (.ev (.cons 5 [] (.done) (.nil))) (.nil))))))), [], ⟨by kernel_rfl, by kernel_rfl, by kernel_rfl, by kernel_rfl⟩, .go (drawD_one ?_)⟩
        (conv => whnf)
        (try simp only [em])
        repeat ((first | refine V.s1 ?_); (try simp only [em]))
        exact ⟨(q, p % q), ⟨by dsimp only; rw [Nat.gcd_comm, ← Nat.gcd_rec, Nat.gcd_comm]; exact i1, i3, by dsimp only; omega⟩, hlt, V.wk⟩
      · rw [decide_eq_false_iff_not] at hq3
        obtain rfl : q = 0 := by omega
        rw [Nat.gcd_zero_right] at i1
        have hf := fromSmall_c p (by omega)
        (conv => whnf)
        refine V.st ?_
        repeat ((try ((with_reducible refine .ext ?_); (conv => whnf))); (with_reducible refine call_intro (r := ?_) ?_ ?_); rotate_left; (focus (first | exact (hf))); (conv => whnf); refine V.st ?_)
        exact Fin.of (by rw [i1])
    · have hd := divide_c x y (by omega) h2 h3
      have hlt := Nat.mod_lt x (by omega : y > 0)
      have hr := mg_len_mono (B := 1000000000) (by omega) (Nat.le_of_lt hlt)
      (conv => whnf)
      refine V.st ?_
      repeat ((try ((with_reducible refine .ext ?_); (conv => whnf))); (with_reducible refine call_intro (r := ?_) ?_ ?_); rotate_left; (focus (first | exact (hd))); (conv => whnf); refine V.st ?_)
      exact ⟨(y, x % y), ⟨by dsimp only; rw [Nat.gcd_comm, ← Nat.gcd_rec, Nat.gcd_comm]; exact h1, h3, by dsimp only; omega⟩, hlt, V.wk⟩
  · have hy : y = 0 := by simpa using hq
    subst hy
    rw [Nat.gcd_zero_right] at h1
    (conv => whnf)
    refine V.st ?_
    exact Fin.of (by rw [h1])
theorem ftext_c (z : Int) (hz : (mg 1000000000 z.natAbs).length ≤ 90000000) : Called Tryz.prog 154 [itD z] (.str (decZ z)) := by
  have hd := digits_c z.natAbs (by omega)
  have hl : (dec z.natAbs).length ≤ 1000000000000 := by
    have h2 := mg_lt_pow (B := 1000000000) (n := z.natAbs) (by omega)
    generalize (mg 1000000000 z.natAbs).length = l at *
    have h1 : z.natAbs < 10 ^ (9 * (l + 1)) := by
      rw [Nat.pow_mul]
      exact Nat.lt_of_lt_of_le h2 (Nat.pow_le_pow_right (by omega) (by omega))
    have := (pad_dec (9 * (l + 1)) z.natAbs (by omega) h1).1
    omega
  refine called_of_run tbOk 6 ⟨Tryz.func154, rfl, rfl, Nat.le_of_ble_eq_true rfl⟩ ?_
  (conv => whnf)
  refine V.st ?_
  refine Cnd.split (CondB.mk (fun hq => ?_) (fun hq => ?_))
  · rw [decide_eq_true_eq] at hq
    (conv => whnf)
    refine V.st ?_
    repeat ((try ((with_reducible refine .ext ?_); (conv => whnf))); (with_reducible refine call_intro (r := ?_) ?_ ?_); rotate_left; (focus (first | exact (hd))); (conv => whnf); refine V.st ?_)
    exact Fin.of (by unfold decZ; rw [if_pos hq]; rfl)
  · rw [decide_eq_false_iff_not] at hq
    (conv => whnf)
    refine V.st ?_
    repeat ((try ((with_reducible refine .ext ?_); (conv => whnf))); (with_reducible refine call_intro (r := ?_) ?_ ?_); rotate_left; (focus (first | exact (hd))); (conv => whnf); refine V.st ?_)
    exact Fin.of (by unfold decZ; rw [if_neg hq])
def rtD (q : Rat) : D := .agg [.ints .u32 (mg 1000000000 q.num.natAbs), .bool (decide (q.num < 0)), .ints .u32 (mg 1000000000 q.den)]
theorem write_c (q : Rat) (hn : (mg 1000000000 q.num.natAbs).length ≤ 90000000) (hd : (mg 1000000000 q.den).length ≤ 90000000) : Called Tryz.prog 125 [rtD q] (frR q) := by
  have h1 := length_c q.num.natAbs (by omega)
  have h2 := length_c q.den (by omega)
  have h3 := ftext_c q.num hn
  have h4 := digits_c q.den (by omega)
  unfold frR okF
  refine called_of_run tbOk 6 ⟨Tryz.func125, rfl, rfl, Nat.le_of_ble_eq_true rfl⟩ ?_
  (conv => whnf)
  refine V.st ?_
  repeat ((try ((with_reducible refine .ext ?_); (conv => whnf))); (with_reducible refine call_intro (r := ?_) ?_ ?_); rotate_left; (focus (first | exact (h1) | exact (h2))); (conv => whnf); refine V.st ?_)
  refine Cnd.split (CondB.mk (fun hq => ?_) (fun hq => ?_))
  · rw [Bool.or_eq_true, decide_eq_true_eq, decide_eq_true_eq] at hq
    have e : (decide ((dec q.num.natAbs).length ≤ 600) && decide ((dec q.den).length ≤ 600)) = false := by
      rw [Bool.and_eq_false_iff, decide_eq_false_iff_not, decide_eq_false_iff_not]; omega
    rw [e]
    (conv => whnf)
    refine V.st ?_
    exact Fin.of rfl
  · rw [Bool.or_eq_false_iff, decide_eq_false_iff_not, decide_eq_false_iff_not] at hq
    have e : (decide ((dec q.num.natAbs).length ≤ 600) && decide ((dec q.den).length ≤ 600)) = true := by
      rw [Bool.and_eq_true, decide_eq_true_eq, decide_eq_true_eq]; omega
    rw [e]
    (conv => whnf)
    refine V.st ?_
    refine ⟨(.take 0 (.take 1 (.take 3 (.take 4 (.ev (.cons 2 [4, 3] (.ev (.cons 5 [] (.take 6 (.ev (.cons 7 [] (.take 8 (.done)) (.nil)))) (.nil))) (.nil))))))), [], ⟨by kernel_rfl, by kernel_rfl, by kernel_rfl, by kernel_rfl⟩, .go (drawD_one ?_)⟩
    (conv => whnf)
    refine V.st ?_
    repeat ((try ((with_reducible refine .ext ?_); (conv => whnf))); (with_reducible refine call_intro (r := ?_) ?_ ?_); rotate_left; (focus (first | exact (h3) | exact (h4))); (conv => whnf); refine V.st ?_)
    exact Fin.of rfl
end Go.Proofs.YtfilfmadapjajaaGreatDoor
end
section
namespace Go.Proofs.YtfilfmadapjajaaGreatDoor
open Go Go.V Go.Nb Go.RowKit Go.Proofs
set_option maxHeartbeats 4000000
set_option maxRecDepth 1000000
theorem wzero_c (n : Nat) : Called Tryz.prog 183 [.ints .u32 (mg 1000000000 n)] (.bool (decide (n = 0))) := by
  have hnil := mg_nil (B := 1000000000) (n := n) (by omega)
  rw [← List.length_eq_zero_iff] at hnil
  have e : decide (((mg 1000000000 n).length : Int) = 0) = decide (n = 0) := decide_eq_decide.2 (by rw [← hnil]; omega)
  refine called_of_run tbOk 6 ⟨Tryz.func183, rfl, rfl, Nat.le_of_ble_eq_true rfl⟩ ?_
  (conv => whnf)
  refine V.st ?_
  exact Fin.of (by rw [e])
theorem wsigned_c (n : Nat) (neg : Bool) : Called Tryz.prog 157 [.ints .u32 (mg 1000000000 n), .bool neg] (itD (if neg then -(n : Int) else n)) := by
  have h1 := wzero_c n
  have e : (if neg = true then -(n : Int) else (n : Int)).natAbs = n := by cases neg <;> simp
  have e2 : decide ((if neg = true then -(n : Int) else (n : Int)) < 0) = (neg && !decide (n = 0)) := by
    cases neg with
    | false => simp
    | true =>
      by_cases h : n = 0
      · simp [h]
      · rw [decide_eq_false h, if_pos rfl, decide_eq_true (by omega)]; rfl
  unfold itD
  rw [e, e2]
  generalize decide (n = 0) = z at *
  refine called_of_run tbOk 6 ⟨Tryz.func157, rfl, rfl, Nat.le_of_ble_eq_true rfl⟩ ?_
  (conv => whnf)
  refine V.st ?_
  repeat ((try ((with_reducible refine .ext ?_); (conv => whnf))); (with_reducible refine call_intro (r := ?_) ?_ ?_); rotate_left; (focus (first | exact (h1))); (conv => whnf); refine V.st ?_)
  exact Fin.of rfl
theorem wtimes_c (a b : Nat) (ha : (mg 1000000000 a).length ≤ 100000000) (hb : (mg 1000000000 b).length ≤ 100000000) : Called Tryz.prog 184 [.ints .u32 (mg 1000000000 a), .ints .u32 (mg 1000000000 b)] (.ints .u32 (mg 1000000000 (a * b))) := by
  have hdx := mg_dg (B := 1000000000) (by omega) a
  have hdy := mg_dg (B := 1000000000) (by omega) b
  have hvx := mg_val (B := 1000000000) (by omega) a
  have hvy := mg_val (B := 1000000000) (by omega) b
  generalize mg 1000000000 a = xs at *
  generalize mg 1000000000 b = ys at *
  have hmn : ((xs.length : Int) + (ys.length : Int)).toNat = xs.length + ys.length := by omega
  refine called_of_run tbOk 6 ⟨Tryz.func184, rfl, rfl, Nat.le_of_ble_eq_true rfl⟩ ?_
  (conv => whnf)
  (conv => whnf)
  (try simp only [hmn])
  repeat ((first | refine V.s1 ?_); (try simp only [hmn]))
  refine lp_any ((0, List.replicate (xs.length + ys.length) 0) : Nat × List Int) (fun s => s.1 ≤ xs.length ∧ s.2.length = xs.length + ys.length ∧ Dg 1000000000 s.2 ∧ (∀ k, s.1 + ys.length ≤ k → s.2.getD k 0 = 0) ∧ val 1000000000 s.2 = val 1000000000 (xs.take s.1) * val 1000000000 ys) (fun s => xs.length - s.1)
    (fun s => [(19, .int .i64 s.1), (5, .osl 16 0 (xs.length + ys.length))]) (fun s => [(16, .arr .u32 s.2)]) ?_ ?_ ?_
  · exact V.wk
  · exact ⟨Nat.zero_le _, by simp, dg_zeros (by omega) _, fun k _ => by simp [List.getD_eq_getElem?_getD, List.getElem?_replicate]; split <;> simp, by simp [val, val_zeros]⟩
  rintro ⟨i, out⟩ ⟨h1, h2, h3, h4, h5⟩
  dsimp only at h1 h2 h3 h4 h5 ⊢
  have vx := val_take_getD 1000000000 xs i
  have bx := dg_getD (by omega) hdx i
  generalize hx0 : xs.getD i 0 = x at *
  (conv => whnf)
  refine V.st ?_
  refine Cnd.split (CondB.mk (fun hq => ?_) (fun hq => ?_))
  · rw [decide_eq_true_eq] at hq
    (conv => whnf)
    (try simp only [Int.toNat_natCast, hx0])
    repeat ((first | refine V.s1 ?_); (try simp only [Int.toNat_natCast, hx0]))
    refine lp_any ((0, out, 0) : Nat × List Int × Int) (fun s => s.1 ≤ ys.length ∧ s.2.1.length = xs.length + ys.length ∧ Dg 1000000000 s.2.1 ∧ (∀ k, i + ys.length ≤ k → s.2.1.getD k 0 = 0) ∧ (0 ≤ s.2.2 ∧ s.2.2 < 1000000000) ∧ val 1000000000 s.2.1 + ((1000000000 : Nat) : Int) ^ (i + s.1) * s.2.2 = val 1000000000 (xs.take i) * val 1000000000 ys + ((1000000000 : Nat) : Int) ^ i * x * val 1000000000 (ys.take s.1)) (fun s => ys.length - s.1)
      (fun s => [(26, .int .i64 s.1), (8, .int .u64 s.2.2), (5, .osl 16 0 (xs.length + ys.length))]) (fun s => [(16, .arr .u32 s.2.1)]) ?_ ?_ ?_
    · exact V.wk
    · exact ⟨Nat.zero_le _, h2, h3, h4, by simp, by simp [val, h5]⟩
    rintro ⟨j, o, c⟩ ⟨g1, g2, g3, g4, g5, g6⟩
    dsimp only at g1 g2 g3 g4 g5 g6 ⊢
    have vy := val_take_getD 1000000000 ys j
    have by' := dg_getD (by omega) hdy j
    have bo := dg_getD (by omega) g3 (i + j)
    generalize hy0 : ys.getD j 0 = y at *
    generalize ho0 : o.getD (i + j) 0 = q at *
    have eij : ((i : Int) + (j : Int)).toNat = i + j := by omega
    have hxy : 0 ≤ x * y ∧ x * y ≤ 999999999 * 999999999 := ⟨Int.mul_nonneg (by omega) (by omega), Int.mul_le_mul (by omega) (by omega) (by omega) (by omega)⟩
    have hkj : ((j : Int) + 1) = ((j + 1 : Nat) : Int) := by omega
    have hki : ((i : Int) + 1) = ((i + 1 : Nat) : Int) := by omega
    have ein : ((i : Int) + (ys.length : Int)).toNat = i + ys.length := by omega
    (conv => whnf)
    refine V.st ?_
    refine Cnd.split (CondB.mk (fun hw => ?_) (fun hw => ?_))
    · rw [decide_eq_true_eq] at hw
      have hm : 0 ≤ (c + (q + x * y)) % 1000000000 ∧ (c + (q + x * y)) % 1000000000 < 1000000000 := ⟨Int.emod_nonneg _ (by omega), Int.emod_lt_of_pos _ (by omega)⟩
      have hc9 : 0 ≤ (c + (q + x * y)) / 1000000000 ∧ (c + (q + x * y)) / 1000000000 < 1000000000 := by omega
      have hst := prod_step (B := 1000000000) (x := x) (y := y) (q := q) (c := c) (d := (c + (q + x * y)) % 1000000000) (c' := (c + (q + x * y)) / 1000000000) (by omega) ho0 g6 (by have := Int.emod_add_mul_ediv (c + (q + x * y)) 1000000000; omega)
      rw [← vy] at hst
      (conv => whnf)
      (try simp only [eij, Nat.zero_add, Int.toNat_natCast, hx0, hy0, ho0, hkj])
      repeat ((first | refine V.s1 ?_); (try simp only [eij, Nat.zero_add, Int.toNat_natCast, hx0, hy0, ho0, hkj]))
      exact ⟨(j + 1, o.set (i + j) ((c + (q + x * y)) % 1000000000), (c + (q + x * y)) / 1000000000), ⟨by dsimp only; omega, by dsimp only; rw [List.length_set]; exact g2, dg_set g3 hm, fun k hk => by dsimp only; rw [getD_set_ne (by omega)]; exact g4 k hk, ⟨hc9.1, hc9.2⟩, hst⟩, by dsimp only; omega, V.wk⟩
    · rw [decide_eq_false_iff_not] at hw
      have hj : j = ys.length := by omega
      subst hj
      rw [List.take_length] at g6
      have hst := prod_end (B := 1000000000) (by omega) (g4 _ (Nat.le_refl _)) g6 hx0
      (conv => whnf)
      (try simp only [ein, Nat.zero_add, hki])
      repeat ((first | refine V.s1 ?_); (try simp only [ein, Nat.zero_add, hki]))
      exact ⟨(i + 1, o.set (i + ys.length) c), ⟨by dsimp only; omega, by dsimp only; rw [List.length_set]; exact g2, dg_set g3 ⟨g5.1, g5.2⟩, fun k hk => by dsimp only at hk ⊢; rw [getD_set_ne (by omega)]; exact g4 k (by omega), hst⟩, by dsimp only; omega, V.wk⟩
  · rw [decide_eq_false_iff_not] at hq
    rw [List.take_of_length_le (by omega), hvx, hvy, ← Int.natCast_mul] at h5
    have hc := wtrim_c out h3 (by omega)
    rw [h5, Int.toNat_natCast, ← List.take_length (l := out), h2] at hc
    (conv => whnf)
    refine V.st ?_
    repeat ((try ((with_reducible refine .ext ?_); (conv => whnf))); (with_reducible refine call_intro (r := ?_) ?_ ?_); rotate_left; (focus (first | exact (hc))); (conv => whnf); refine V.st ?_)
    exact Fin.of rfl
theorem wlength_c (n : Nat) (hn : (mg 1000000000 n).length ≤ 100000000) : Called Tryz.prog 181 [.ints .u32 (mg 1000000000 n)] (.int .i64 (dec n).length) := by
  have hz := wzero_c n
  have hdx := mg_dg (B := 1000000000) (by omega) n
  have hvx := mg_val (B := 1000000000) (by omega) n
  have hlx := mg_last (B := 1000000000) (n := n) (by omega)
  have hnil := mg_nil (B := 1000000000) (n := n) (by omega)
  generalize mg 1000000000 n = xs at *
  refine called_of_run tbOk 6 ⟨Tryz.func181, rfl, rfl, Nat.le_of_ble_eq_true rfl⟩ ?_
  (conv => whnf)
  refine V.st ?_
  repeat ((try ((with_reducible refine .ext ?_); (conv => whnf))); (with_reducible refine call_intro (r := ?_) ?_ ?_); rotate_left; (focus (first | exact (hz))); (conv => whnf); refine V.st ?_)
  refine Cnd.split (CondB.mk (fun hq => ?_) (fun hq => ?_))
  · rw [decide_eq_true_eq] at hq
    subst hq
    (conv => whnf)
    refine V.st ?_
    exact Fin.of rfl
  · rw [decide_eq_false_iff_not] at hq
    obtain ⟨j, hj⟩ : ∃ j, xs.length = j + 1 := ⟨xs.length - 1, by
      have : xs ≠ [] := fun e => hq (hnil.1 e)
      have := List.length_pos_iff.2 this
      omega⟩
    have bx := dg_getD (by omega) hdx j
    have hd := val_drop (B := 1000000000) (l := xs) (k := j) (by omega)
    have hnil2 : xs.drop (j + 1) = [] := List.drop_eq_nil_of_le (by omega)
    rw [hnil2] at hd
    have hsp := val_split 1000000000 xs j (by omega)
    have hlo := val_lt (dg_take hdx j)
    have hlo0 := val_nonneg (dg_take hdx j)
    rw [List.length_take, Nat.min_eq_left (by omega)] at hlo
    have hx1 : xs.getD j 0 ≠ 0 := by
      refine hlx _ ?_
      rw [List.getLast?_eq_getElem?, hj, List.getD_eq_getElem?_getD, show j + 1 - 1 = j by omega, List.getElem?_eq_getElem (by omega)]; rfl
    generalize hx0 : xs.getD j 0 = x at *
    obtain ⟨d, rfl⟩ : ∃ d : Nat, x = d := ⟨x.toNat, by omega⟩
    rw [hd, hvx] at hsp
    obtain ⟨w, hw⟩ : ∃ w : Nat, val 1000000000 (xs.take j) = w := ⟨(val 1000000000 (xs.take j)).toNat, by omega⟩
    have hnw : n = d * 10 ^ (9 * j) + w := by
      have e : ((10 ^ (9 * j) : Nat) : Int) = ((1000000000 : Nat) : Int) ^ j := by rw [Nat.pow_mul, Int.natCast_pow]
      simp only [val, Int.mul_zero, Int.add_zero] at hsp
      rw [hw, ← e, ← Int.natCast_mul, Nat.mul_comm] at hsp
      omega
    have hwl : w < 10 ^ (9 * j) := by
      rw [Nat.pow_mul]
      rw [hw, ← Int.natCast_pow] at hlo
      exact_mod_cast hlo
    have hdp := dec_pad (a := d) (by omega) (9 * j) w hwl
    rw [← hnw] at hdp
    have hlen : (dec n).length = (dec d).length + 9 * j := by rw [hdp, List.length_append, pad_length]
    have hi := itoa_c (d : Int)
    have hdz : decZ (d : Int) = dec d := by unfold decZ; rw [if_neg (by omega), Int.natAbs_natCast]
    rw [hdz] at hi
    have e1 : ((xs.length : Int) - 1) = (j : Int) := by omega
    have hdl := dec_len d 9 (by omega) (by omega)
    (conv => whnf)
    (try simp only [e1, Int.toNat_natCast, hx0])
    repeat ((first | refine V.s1 ?_ | ((try ((with_reducible refine .ext ?_); (conv => whnf); (try simp only [e1, Int.toNat_natCast, hx0]))); (with_reducible refine call_intro (r := ?_) ?_ ?_); rotate_left; (focus (first | exact (hi))); (conv => whnf))); (try simp only [e1, Int.toNat_natCast, hx0]))
    exact Fin.of (by rw [hlen]; congr 1; omega)
theorem wput_k (B b : Nat) (bs : List UInt8) (g : Nat) (k : Int) (w : World) (hgl : GlW w) (hlt : GlLt B) (hB : B ≤ w.heap.size) (h : Lib.IsBuilderF 203 5 B b (Lib.byteCells bs) w) (hg : g < 1000000000) (hk : 0 ≤ k ∧ k ≤ 9) (hl : bs.length ≤ 1000000000000) :
    Calls Tryz.prog 191 #[.int .u32 g, .int .i64 k, .pointer (some ⟨b, 0, none⟩)] w fun e w' => e = .returned (.tuple #[]) ∧ Lib.IsBuilderF 203 5 B b (Lib.byteCells (bs ++ List.replicate (k.toNat - (dec g).length) 48 ++ dec g)) w' ∧ RowKit.Below B w w' := by
  go_enter Tryz.func191, Tryz.ntmps191
  go_wp2_with (go_at_call 129; refine (itoa_k (g : Int) ⟨by simp only [lo]; omega, by simp only [hi]; omega⟩ _ hgl).mono ?_)
  rintro e w1 ⟨rfl, hb1⟩
  have hdz : decZ (g : Int) = dec g := by unfold decZ; rw [if_neg (by omega), Int.natAbs_natCast]
  rw [hdz]
  have hdl := dec_len g 9 (by omega) (by omega)
  have h1 := isB_below h hb1
  have hs1 := hb1.size
  have hb1' := hb1.mono hB
  have hsz : (⟨(dec g).toArray⟩ : ByteArray).size = (dec g).length := by simp [ByteArray.size]
  go_wp2
  clear hdz
  go_loopw [13] (fun i wr => ∃ n : Nat, n ≤ k.toNat - (dec g).length ∧ i = .int .i64 n ∧ Lib.IsBuilderF 203 5 B b (Lib.byteCells (bs ++ List.replicate n 48)) wr ∧ RowKit.Below B w1 wr) (fun i _ => k.toNat - (dec g).length - (intOf i).toNat)
  case atStart => exact ⟨0, Nat.zero_le _, rfl, by simpa using h1, Below.refl _ _⟩
  case round =>
    obtain ⟨n, hn, rfl, hI, hbr⟩ := hrel
    have hsr := hbr.size
    have hlen : (Lib.byteCells (bs ++ List.replicate n 48)).length ≤ 1000000000100 := by rw [Lib.byteCells_length]; simp; omega
    by_cases hlt2 : (n : Int) < k - ((dec g).length : Int)
    · go_wp2_with (go_at_call 178; refine (writeByte_k B b _ 48 _ hI (by omega) (by omega)).mono ?_)
      rintro e W1 ⟨rfl, h2, b2, _⟩
      rw [← byteCells_rep] at h2
      go_wp2
      go_roundw
      case rel => exact ⟨n + 1, by omega, by go_num, Or.inr (by assumption), hbr.trans b2⟩
      case measure => simp [intOf]; omega
    · have hne : n = k.toNat - (dec g).length := by omega
      go_wp2_with (go_at_call 179; refine (writeString_k B b _ _ _ hI (by omega) (by omega)).mono ?_)
      rintro e W1 rfl h2 b2 -
      rw [strCells_dec, ← Lib.byteCells_append] at h2
      go_wp2
      go_end0
      exact ⟨rfl, Or.inr h2, (hb1'.trans hbr).trans b2⟩
theorem wzero_k (n : Nat) (w : World) (hg : GlW w) (v : Value) (hv : Den Env.dummy (pubOf w) (.ints .u32 (mg 1000000000 n)) v) : Calls Tryz.prog 183 #[v] w fun e w' => e = .returned (.bool (decide (n = 0))) ∧ RowKit.Below w.heap.size w w' := by
  refine (called_at (wzero_c n) w hg (vs := [v]) ?_).mono ?_
  · simp only [DenL]; exact ⟨_, _, rfl, hv, rfl⟩
  · rintro e w' ⟨v, h', rfl, hv, hb⟩
    simp only [Den] at hv
    rw [hv]
    exact ⟨rfl, hb⟩
theorem wdigits_w (n : Nat) (hn : 0 < n) (hl : (mg 1000000000 n).length ≤ 100000000) (w : World) (hg : GlW w) (hlt : GlLt w.heap.size) (v : Value) (hv : Den Env.dummy (pubOf w) (.ints .u32 (mg 1000000000 n)) v) :
    Calls Tryz.prog 182 #[v] w fun e w' => e = .returned (.string ⟨(dec n).toArray⟩) ∧ RowKit.Below w.heap.size w w' := by
  have hz := wzero_k n w hg v hv
  have hdx := mg_dg (B := 1000000000) (by omega) n
  have hvx := mg_val (B := 1000000000) (by omega) n
  have hlx := mg_last (B := 1000000000) (n := n) (by omega)
  have hnil := mg_nil (B := 1000000000) (n := n) (by omega)
  generalize mg 1000000000 n = xs at *
  simp only [Den, slIntsOk] at hv
  obtain ⟨a, cap, rfl, hcap, _, _, ha⟩ := hv
  obtain ⟨j, hj⟩ : ∃ j, xs.length = j + 1 := ⟨xs.length - 1, by
    have : xs ≠ [] := fun e => by have := hnil.1 e; omega
    have := List.length_pos_iff.2 this
    omega⟩
  obtain ⟨ad, rfl⟩ : ∃ ad, a = some ad := by
    cases a with
    | none => obtain ⟨h1, _⟩ := ha; rw [h1] at hj; simp at hj
    | some ad => exact ⟨ad, rfl⟩
  obtain ⟨blk, off, spot⟩ := ad
  simp only at ha
  obtain ⟨rfl, hcell⟩ := ha
  have hne : decide (n = 0) = false := decide_eq_false (by omega)
  rw [hne] at hz
  have hc0 : ∀ i, i < xs.length → w.cell? ⟨blk, off + i, none⟩ = some (.int .u32 (xs.getD i 0)) := fun i hi => by
    have := hcell i (xs.getD i 0) (by rw [List.getD_eq_getElem?_getD, List.getElem?_eq_getElem hi]; rfl)
    exact this
  have hblk : blk < w.heap.size := by
    have := hc0 0 (by omega)
    rcases Nat.lt_or_ge blk w.heap.size with h | h
    · exact h
    · simp [World.cell?, Array.getElem?_eq_none h] at this
  clear hcell
  rw [hj] at hz ⊢
  go_enter Tryz.func182, Tryz.ntmps182
  go_wp2_with (go_at_call 183; refine hz.mono ?_)
  rintro e w1 ⟨rfl, hb1⟩
  have hs1 := hb1.size
  have hc1 : (w1.alloc (.cells #[.pointer none, .slice none 0 0] 203)).cell? ⟨blk, off + j, none⟩ = some (.int .u32 (xs.getD j 0)) := by
    have h1 := hb1.alloc (o := .cells #[.pointer none, .slice none 0 0] 203) (by omega)
    rw [h1.cell (by exact hblk)]
    exact hc0 j (by omega)
  have hI0 := Lib.IsBuilderF.of (Lib.fresh_isBuilder 203 5 w1)
  have hgl1 : GlW (w1.alloc (.cells #[.pointer none, .slice none 0 0] 203)) := glW_below hg (hb1.alloc (by omega) _) hlt
  have hlt1 : GlLt w1.heap.size := ⟨fun g vs h => by have := hlt.1 g vs h; omega, fun g h => by have := hlt.2 g h; omega⟩
  have bx := dg_getD (by omega) hdx j
  have hx1 : xs.getD j 0 ≠ 0 := by
    refine hlx _ ?_
    rw [List.getLast?_eq_getElem?, hj, List.getD_eq_getElem?_getD, show j + 1 - 1 = j by omega, List.getElem?_eq_getElem (by omega)]; rfl
  have hvj : val 1000000000 (xs.drop j) = xs.getD j 0 := by rw [val_drop', show xs.drop (j + 1) = [] from List.drop_eq_nil_of_le (by omega)]; simp [val]
  obtain ⟨g, hgx⟩ : ∃ g : Nat, xs.getD j 0 = g := ⟨(xs.getD j 0).toNat, by omega⟩
  rw [hgx] at bx hx1 hvj hc1
  have hput := wput_k w1.heap.size w1.heap.size [] g 0 (w1.alloc (.cells #[.pointer none, .slice none 0 0] 203)) hgl1 hlt1 (by simp) hI0 (by omega) (by omega) (by simp)
  have e0 : List.replicate ((0 : Int).toNat - (dec g).length) (48 : UInt8) = [] := by simp
  rw [e0, List.append_nil, List.nil_append] at hput
  clear hz hI0
  go_wp2_with (go_at_call 191; refine hput.mono ?_)
  rintro e w2 ⟨rfl, hI2, hb2⟩
  have hbw2 : RowKit.Below w.heap.size w w2 := (hb1.alloc (by omega) _).trans (hb2.mono hs1)
  have hs2 : w1.heap.size + 1 ≤ w2.heap.size := by have := hb2.size; simpa using this
  have hd0 : dec g = dec (val 1000000000 (xs.drop j)).toNat := by rw [hvj, Int.toNat_natCast]
  rw [hd0] at hI2
  clear hput hd0
  go_wp2
  go_loopw [6] (fun i wr => ∃ m : Nat, m ≤ j ∧ i = .int .i64 (cv m) ∧ Lib.IsBuilderF 203 5 w1.heap.size w1.heap.size (Lib.byteCells (dec (val 1000000000 (xs.drop m)).toNat)) wr ∧ RowKit.Below w1.heap.size w2 wr) (fun i _ => (intOf i + 1).toNat)
  case atStart => exact ⟨j, Nat.le_refl _, by rw [cv_eq], hI2, Below.refl _ _⟩
  case round =>
    obtain ⟨m, hm, rfl, hI, hbr⟩ := hrel
    have hsr := hbr.size
    have hbw : RowKit.Below w.heap.size w wr := hbw2.trans (hbr.mono hs1)
    rcases m with _ | m
    · rw [List.drop_zero, hvx, Int.toNat_natCast] at hI
      simp only [cv]
      go_wp2_with (go_at_call 180; refine (Tryz.Builder_String_any_k w1.heap.size w1.heap.size (dec n) _ hI (by omega)).mono ?_)
      intros
      rename_i e W1 h2
      obtain ⟨rfl, _, b2, _⟩ := h2
      go_wp2
      go_ret
      exact ⟨rfl, hbw.trans (b2.mono hs1)⟩
    · simp only [cv]
      have bm := dg_getD (by omega) hdx m
      have hcm : wr.cell? ⟨blk, off + m, none⟩ = some (.int .u32 (xs.getD m 0)) := by
        rw [hbw.cell (by exact hblk)]; exact hc0 m (by omega)
      obtain ⟨y, hy⟩ : ∃ y : Nat, xs.getD m 0 = y := ⟨(xs.getD m 0).toNat, by omega⟩
      have hvm := val_drop (B := 1000000000) (l := xs) (k := m) (by omega)
      have hv0 := val_nonneg (dg_drop hdx (m + 1))
      have hvp : 0 < val 1000000000 (xs.drop (m + 1)) := by
        have h1 := val_split 1000000000 (xs.drop (m + 1)) (j - (m + 1)) (by rw [List.length_drop]; omega)
        rw [List.drop_drop, show m + 1 + (j - (m + 1)) = j by omega, hvj] at h1
        have h2 := val_nonneg (dg_take (dg_drop hdx (m + 1)) (j - (m + 1)))
        have h3 : (0 : Int) < ((1000000000 : Nat) : Int) ^ (j - (m + 1)) * g := Int.mul_pos (pow_pos' (by omega) _) (by omega)
        omega
      rw [hy] at bm hcm hvm
      obtain ⟨u, hu⟩ : ∃ u : Nat, val 1000000000 (xs.drop (m + 1)) = u := ⟨(val 1000000000 (xs.drop (m + 1))).toNat, by omega⟩
      rw [hu, Int.toNat_natCast] at hI
      have hdp := dec_pad (a := u) (by omega) 9 y (by omega)
      have hpd := pad_dec 9 y (by omega) (by omega)
      have hnew : (val 1000000000 (xs.drop m)).toNat = u * 10 ^ 9 + y := by rw [hvm, hu]; omega
      rw [hpd.2, ← hnew, ← List.append_assoc] at hdp
      have hdlen : (dec u).length ≤ 1000000000000 := by
        have h1 : u < 10 ^ (9 * (j + 1)) := by
          have h2 := val_lt (dg_drop hdx (m + 1))
          rw [hu, List.length_drop, hj] at h2
          have h3 : (1000000000 : Nat) ^ (j + 1 - (m + 1)) ≤ 1000000000 ^ (j + 1) := Nat.pow_le_pow_right (by omega) (by omega)
          rw [← Int.natCast_pow] at h2
          rw [Nat.pow_mul]
          have h4 : u < 1000000000 ^ (j + 1 - (m + 1)) := by exact_mod_cast h2
          exact Nat.lt_of_lt_of_le h4 h3
        have := (pad_dec (9 * (j + 1)) u (by omega) h1).1
        omega
      have hput := wput_k w1.heap.size w1.heap.size (dec u) y 9 wr (glW_below hg hbw hlt) hlt1 (by omega) hI (by omega) (by omega) hdlen
      rw [show (9 : Int).toNat = 9 from rfl, ← hdp] at hput
      clear hdp hpd hnew hdlen hu hvm hvp hv0
      go_wp2_with (go_at_call 191; refine hput.mono ?_)
      intros
      rename_i e W1 h2
      obtain ⟨rfl, hI3, b2⟩ := h2
      go_wp2
      go_roundw
      case rel => exact ⟨m, by omega, by (have h := cv_eq m; show Value.int .i64 ((m : Int) - 1) = Value.int .i64 (cv m); rw [h]), hI3, hbr.trans b2⟩
      case measure => simp [intOf]
theorem wdigits_zero : Called Tryz.prog 182 [.ints .u32 (mg 1000000000 0)] (.str (dec 0)) := by
  have hz := wzero_c 0
  refine called_of_run tbOk 6 ⟨Tryz.func182, rfl, rfl, Nat.le_of_ble_eq_true rfl⟩ ?_
  (conv => whnf)
  refine V.st ?_
  repeat ((try ((with_reducible refine .ext ?_); (conv => whnf))); (with_reducible refine call_intro (r := ?_) ?_ ?_); rotate_left; (focus (first | exact (hz))); (conv => whnf); refine V.st ?_)
  exact Fin.of rfl
theorem wdigits_c (n : Nat) (hl : (mg 1000000000 n).length ≤ 100000000) : Called Tryz.prog 182 [.ints .u32 (mg 1000000000 n)] (.str (dec n)) := by
  rcases Nat.eq_zero_or_pos n with h0 | h0
  · subst h0; exact wdigits_zero
  refine called_of_grown Tryz.func182 rfl rfl rfl fun w hp vs ha hd => ?_
  simp only [DenL] at hd
  obtain ⟨v, _, rfl, hv, rfl⟩ := hd
  have hle : hp.Le (pubOf w) := fun b o v h => ha.cells b o v h
  refine (wdigits_w n h0 hl w ha.blk (glLt ha.blk) v (Den.mono hle hv)).mono fun e w' ⟨he, hw⟩ => ⟨⟨_, he, fun hp => ?_⟩, hw⟩
  · simp only [Den]
    refine ⟨trivial, ?_⟩
    have h2 := mg_lt_pow (B := 1000000000) (n := n) (by omega)
    generalize (mg 1000000000 n).length = l at *
    have h1 : n < 10 ^ (9 * (l + 1)) := by
      rw [Nat.pow_mul]
      exact Nat.lt_of_lt_of_le h2 (Nat.pow_le_pow_right (by omega) (by omega))
    have := (pad_dec (9 * (l + 1)) n (by omega) h1).1
    omega
end Go.Proofs.YtfilfmadapjajaaGreatDoor
end
section
namespace Go.Proofs.YtfilfmadapjajaaGreatDoor
open Go Go.V Go.Nb
structure Sg (s d : List UInt8) (j : Nat) (neg : Bool) : Prop where
  hj : j = if neg then 1 else 0
  hl : s.length = d.length + j
  hg : ∀ i, s.getD (i + j) 0 = d.getD i 0
  h0 : (0 < s.length ∧ s.getD 0 0 = 45) ↔ neg = true
theorem sg_of (s : List UInt8) : ∃ d j neg, Sg s d j neg ∧ okW s = okD d neg ∧ wval s = if neg then -(rdv d : Int) else rdv d := by
  cases s with
  | nil => exact ⟨[], 0, false, ⟨rfl, rfl, fun i => rfl, by simp⟩, rfl, rfl⟩
  | cons c r =>
    by_cases hc : c = 45
    · subst hc
      have h1 : Go.Lib.hasPrefix (45 :: r) [45] = true := by simp [Go.Lib.hasPrefix]
      have h2 : Go.Lib.trimPrefix (45 :: r) [45] = r := by unfold Go.Lib.trimPrefix; rw [h1]; rfl
      refine ⟨r, 1, true, ⟨rfl, by simp, fun i => by simp, by simp⟩, ?_, ?_⟩
      · unfold okW; rw [h1, h2]
      · unfold wval; rw [h1, h2]
    · have h1 : Go.Lib.hasPrefix (c :: r) [45] = false := by
        show List.isPrefixOf [45] (c :: r) = false
        simp only [List.isPrefixOf, Bool.and_true, beq_eq_false_iff_ne]
        exact Ne.symm hc
      have h2 : Go.Lib.trimPrefix (c :: r) [45] = c :: r := by unfold Go.Lib.trimPrefix; rw [h1]; rfl
      refine ⟨c :: r, 0, false, ⟨rfl, by simp, fun i => by simp, by simp [hc]⟩, ?_, ?_⟩
      · unfold okW; rw [h1, h2]
      · unfold wval; rw [h1, h2]
theorem u8_eq (c : UInt8) (n : Nat) (hn : n < 256) : decide (((c.toNat : Nat) : Int) = n) = decide (c = UInt8.ofNat n) := decide_eq_decide.2 ⟨fun h => UInt8.toNat_inj.1 (by rw [UInt8.toNat_ofNat_of_lt' (by simpa using hn)]; omega), fun h => by rw [h, UInt8.toNat_ofNat_of_lt' (by simpa using hn)]⟩
theorem right01_g (s d : List UInt8) (j : Nat) (neg : Bool) (S : Sg s d j neg) (hs : s.length ≤ 281474976710656) : Called Tryz.prog 145 [.str s] (.bool (okD d neg)) := by
  obtain ⟨hj, hl, hg, h0⟩ := S
  have hJ : j ≤ 1 := by rw [hj]; split <;> omega
  have e0 : (0 : Int).toNat = 0 := rfl
  have q45 : decide (((s.getD 0 0).toNat : Int) = 45) = decide (s.getD 0 0 = 45) := u8_eq _ 45 (by omega)
  have qn : (decide ((s.length : Int) > 0) && decide (s.getD 0 0 = 45)) = neg := by
    rw [Bool.eq_iff_iff, ← h0, Bool.and_eq_true, decide_eq_true_eq, decide_eq_true_eq]
    exact and_congr_left' (by omega)
  refine called_of_run tbOk 6 ⟨Tryz.func145, rfl, rfl, Nat.le_of_ble_eq_true rfl⟩ ?_
  (conv => whnf)
  (conv => whnf)
  (try simp only [e0, q45, qn])
  repeat ((first | refine V.s1 ?_); (try simp only [e0, q45, qn]))
  refine cnd_meet [(3, .int .i64 j)] [] (CondB.mk (fun hq => ?_) (fun hq => ?_)) ?_
  · subst hq
    rw [if_pos rfl] at hj
    subst hj
    (conv => whnf)
    refine V.st ?_
    exact V.wk
  · subst hq
    rw [if_neg (by simp)] at hj
    subst hj
    (conv => whnf)
    refine V.st ?_
    exact V.wk
  have hsl : (s.length : Int) - j = d.length := by omega
  clear q45 qn h0
  (conv => whnf)
  (try simp only [hsl])
  repeat ((first | refine V.s1 ?_); (try simp only [hsl]))
  refine Cnd.split (CondB.mk (fun hq => ?_) (fun hq => ?_))
  · simp only [Bool.or_eq_true, decide_eq_true_eq] at hq
    have hf : okD d neg = false := by
      unfold okD
      rcases hq with h | h
      · rw [decide_eq_true (show d.length = 0 by omega)]; rfl
      · rw [decide_eq_true (show 600 < d.length by omega), Bool.or_true]; rfl
    rw [hf]
    (conv => whnf)
    refine V.st ?_
    exact Fin.of rfl
  · simp only [Bool.or_eq_false_iff, decide_eq_false_iff_not] at hq
    (conv => whnf)
    refine V.st ?_
    refine lp_any (0 : Nat) (fun k => k ≤ d.length ∧ ∀ i, i < k → isDig (d.getD i 0) = true) (fun k => d.length - k) (fun k => [(5, .int .i64 ((k + j : Nat) : Int))]) (fun _ => []) ?_ ?_ ?_
    · rw [Nat.zero_add]
      exact V.wk
    · exact ⟨Nat.zero_le _, fun i hi => by omega⟩
    intro k hk
    have hkc : (((k + j : Nat) : Int) + 1) = ((k + 1 + j : Nat) : Int) := by omega
    have hkt : ((k + j : Nat) : Int).toNat = k + j := by omega
    (conv => whnf)
    refine V.st ?_
    refine Cnd.split (CondB.mk (fun hq2 => ?_) (fun hq2 => ?_))
    · rw [decide_eq_true_eq] at hq2
      have hdl := dig_lo (d.getD k 0)
      have hgk := hg k
      generalize hc : d.getD k 0 = c at *
      (conv => whnf)
      (try simp only [hkt, hgk, hkc])
      repeat ((first | refine V.s1 ?_); (try simp only [hkt, hgk, hkc]))
      refine Cnd.split (CondB.mk (fun hq3 => ?_) (fun hq3 => ?_))
      · rw [Bool.or_eq_true, decide_eq_true_eq, decide_eq_true_eq] at hq3
        have hf : okD d neg = false := by
          have h1 : d.all isDig = false := by
            rw [List.all_eq_false]
            refine ⟨c, ?_, fun h => by have := hdl.1 h; omega⟩
            rw [← hc, List.getD_eq_getElem?_getD, List.getElem?_eq_getElem (by omega)]
            exact List.getElem_mem _
          unfold okD
          rw [h1, Bool.and_false, Bool.false_and]
        rw [hf]
        (conv => whnf)
        refine V.st ?_
        exact Fin.of rfl
      · rw [Bool.or_eq_false_iff, decide_eq_false_iff_not, decide_eq_false_iff_not] at hq3
        (conv => whnf)
        (try simp only [hkc])
        repeat ((first | refine V.s1 ?_); (try simp only [hkc]))
        refine ⟨k + 1, ⟨by omega, fun i hi => ?_⟩, by omega, V.wk⟩
        rcases Nat.lt_or_ge i k with h | h
        · exact hk.2 i h
        · obtain rfl : i = k := by omega
          rw [hc]; exact hdl.2 (by omega)
    · rw [decide_eq_false_iff_not] at hq2
      obtain rfl : k = d.length := by omega
      have hall : ∀ c ∈ d, isDig c = true := fun c hc => by
        obtain ⟨i, hi, e⟩ := List.getElem_of_mem hc
        have := hk.2 i hi
        rw [List.getD_eq_getElem?_getD, List.getElem?_eq_getElem hi] at this
        rw [← e]; exact this
      have hok : okD d neg = !(decide (d.getD 0 0 = 48) && (neg || decide (1 < d.length))) := by
        unfold okD
        rw [List.all_eq_true.2 hall, decide_eq_false (show ¬ d.length = 0 by omega), decide_eq_false (show ¬ 600 < d.length by omega)]
        rfl
      have hu : decide ((((d.getD 0 0).toNat : Nat) : Int) = 48) = decide (d.getD 0 0 = 48) := u8_eq _ 48 (by omega)
      have hg0 := hg 0
      rw [Nat.zero_add] at hg0
      have hll : decide ((s.length : Int) = 1) = !(neg || decide (1 < d.length)) := by
        by_cases hn : neg = true
        · subst hn
          rw [if_pos rfl] at hj
          rw [decide_eq_false (by omega)]
          rfl
        · rw [if_neg hn] at hj
          rw [Bool.eq_false_iff.2 hn, Bool.false_or]
          by_cases h1 : 1 < d.length
          · rw [decide_eq_true h1, decide_eq_false (by omega)]; rfl
          · rw [decide_eq_false h1, decide_eq_true (by omega)]; rfl
      have hu2 : decide ((((d.getD 0 0).toNat : Nat) : Int) ≠ 48) = !decide (d.getD 0 0 = 48) := by rw [← hu, decide_not]
      have hne : (!decide (d.getD 0 0 = 48) || !(neg || decide (1 < d.length))) = okD d neg := by rw [hok, Bool.not_and]
      (conv => whnf)
      (try simp only [Int.toNat_natCast, hg0, hu2, hll, hne])
      repeat ((first | refine V.s1 ?_); (try simp only [Int.toNat_natCast, hg0, hu2, hll, hne]))
      exact Fin.of rfl
theorem rdv_chunk (d : List UInt8) (hd : ∀ c ∈ d, isDig c = true) (m : Nat) (hm : m ≤ d.length) : rdv (d.take m) / 10000 = rdv (d.take (m - 4)) ∧ rdv (d.take m) % 10000 = rdv ((d.take m).drop (m - 4)) := by
  have e : d.take m = d.take (m - 4) ++ (d.take m).drop (m - 4) := by
    conv => lhs; rw [← List.take_append_drop (m - 4) (d.take m), List.take_take, Nat.min_eq_left (by omega)]
  have hb := rdv_lt (s := (d.take m).drop (m - 4)) (fun c hc => hd c (List.mem_of_mem_take (List.mem_of_mem_drop hc)))
  have hl : ((d.take m).drop (m - 4)).length = m - (m - 4) := by rw [List.length_drop, List.length_take]; omega
  rw [hl] at hb
  have ev : rdv (d.take m) = rdv (d.take (m - 4)) * 10 ^ (m - (m - 4)) + rdv ((d.take m).drop (m - 4)) := by
    conv => lhs; rw [e]
    rw [rdv_append, hl]
  rw [ev]
  generalize rdv ((d.take m).drop (m - 4)) = y at *
  rcases (by omega : m < 4 ∨ 4 ≤ m) with h | h
  · have h0 : m - 4 = 0 := by omega
    have h10 : 10 ^ (m - (m - 4)) ≤ 10000 := by
      rw [h0]
      rcases (by omega : m = 0 ∨ m = 1 ∨ m = 2 ∨ m = 3) with e | e | e | e <;> subst e <;> decide
    rw [h0, List.take_zero, show rdv [] = 0 from rfl, Nat.zero_mul]
    omega
  · rw [show m - (m - 4) = 4 by omega, show (10 : Nat) ^ 4 = 10000 from rfl] at *
    omega
theorem rdv_next (d : List UInt8) (lo k : Nat) (h1 : lo ≤ k) (h2 : k < d.length) : rdv ((d.take (k + 1)).drop lo) = rdv ((d.take k).drop lo) * 10 + ((d.getD k 0).toNat - 48) := by
  have e : (d.take (k + 1)).drop lo = (d.take k).drop lo ++ [d.getD k 0] := by
    rw [List.take_add_one, List.getElem?_eq_getElem h2, List.drop_append_of_le_length (by rw [List.length_take]; omega), List.getD_eq_getElem?_getD, List.getElem?_eq_getElem h2]
    rfl
  rw [e, rdv_append, rdv_one]
  rfl
theorem in01_g (s d : List UInt8) (j : Nat) (neg : Bool) (S : Sg s d j neg) (hd : ∀ c ∈ d, isDig c = true) (hdl : d.length ≤ 600) (hs0 : 0 < s.length) :
    Called Tryz.prog 146 [.str s] (plD (if neg then -(rdv d : Int) else rdv d)) := by
  obtain ⟨hj, hl, hg, h0⟩ := S
  have hJ : j ≤ 1 := by rw [hj]; split <;> omega
  have e0 : (0 : Int).toNat = 0 := rfl
  have q45 : decide (((s.getD 0 0).toNat : Int) = 45) = neg := by
    rw [show (45 : Int) = ((45 : Nat) : Int) from rfl, u8_eq _ 45 (by omega), Bool.eq_iff_iff, ← h0, decide_eq_true_eq]
    exact ⟨fun h => ⟨hs0, h⟩, fun h => h.2⟩
  refine called_of_run tbOk 6 ⟨Tryz.func146, rfl, rfl, Nat.le_of_ble_eq_true rfl⟩ ?_
  (conv => whnf)
  (conv => whnf)
  (try simp only [e0, q45])
  repeat ((first | refine V.s1 ?_); (try simp only [e0, q45]))
  refine cnd_meet [(3, .int .i64 j)] [] (CondB.mk (fun hq => ?_) (fun hq => ?_)) ?_
  · subst hq
    rw [if_pos rfl] at hj
    subst hj
    (conv => whnf)
    refine V.st ?_
    exact V.wk
  · subst hq
    rw [if_neg (by simp)] at hj
    subst hj
    (conv => whnf)
    refine V.st ?_
    exact V.wk
  (conv => whnf)
  refine V.st ?_
  refine Lp.ghostSlot 38 4 .i64 (by decide) ?_
  (conv => whnf)
  refine lp_any (((s.length : Int), d.length, []) : Int × Nat × List Int) (fun st => st.2.1 ≤ d.length ∧ (st.1 = (st.2.1 + j : Nat) ∨ (st.2.1 = 0 ∧ st.1 < j ∧ (j : Int) - 4 ≤ st.1)) ∧ val 10000 st.2.2 + ((10000 : Nat) : Int) ^ st.2.2.length * ((rdv (d.take st.2.1) : Nat) : Int) = ((rdv d : Nat) : Int) ∧ Dg 10000 st.2.2 ∧ st.2.2.length + (st.2.1 + 3) / 4 ≤ 151) (fun st => st.2.1) (fun st => [(5, .int .i64 st.1), (4, .osl 38 0 st.2.2.length)]) (fun st => [(38, .arr .i64 st.2.2)]) ?_ ?_ ?_
  · exact V.wk
  · exact ⟨Nat.le_refl _, .inl (by dsimp only; omega), by simp [val], fun x hx => by simp at hx, by dsimp only [List.length_nil]; omega⟩
  rintro ⟨e, m, out⟩ ⟨h1, h2, h3, h4, h5⟩
  dsimp only at h1 h2 h3 h4 h5 ⊢
  (conv => whnf)
  refine V.st ?_
  refine Cnd.split (CondB.mk (fun hq => ?_) (fun hq => ?_))
  · rw [decide_eq_true_eq] at hq
    have he : e = ((m + j : Nat) : Int) := by omega
    have hm0 : 0 < m := by omega
    subst he
    obtain ⟨lo, hlo⟩ : ∃ lo, lo = m - 4 := ⟨_, rfl⟩
    have hmx : max (((m + j : Nat) : Int) - 4) (j : Int) = ((lo + j : Nat) : Int) := by omega
    have hch := rdv_chunk d hd m h1
    rw [← hlo] at hch
    have hst := dig_step (B := 10000) (by omega) h3
    rw [hch.1, hch.2] at hst
    have hbd : ∀ i, lo + i ≤ m → rdv ((d.take (lo + i)).drop lo) < 10000 := fun i hi => by
      have hl1 : ((d.take (lo + i)).drop lo).length ≤ 4 := by rw [List.length_drop, List.length_take]; omega
      have := rdv_lt (s := (d.take (lo + i)).drop lo) (fun c hc => hd c (List.mem_of_mem_take (List.mem_of_mem_drop hc)))
      have h2 : (10 : Nat) ^ ((d.take (lo + i)).drop lo).length ≤ 10 ^ 4 := Nat.pow_le_pow_right (by omega) hl1
      omega
    have hnx : ∀ i, lo + i < m → rdv ((d.take (lo + (i + 1))).drop lo) = rdv ((d.take (lo + i)).drop lo) * 10 + ((d.getD (lo + i) 0).toNat - 48) := fun i hi => by
      rw [← Nat.add_assoc]
      exact rdv_next d lo (lo + i) (by omega) (by omega)
    have hx0 : rdv ((d.take (lo + 0)).drop lo) = 0 := by
      have hnil : (d.take lo).drop lo = [] := List.drop_eq_nil_of_le (by rw [List.length_take]; omega)
      rw [Nat.add_zero, hnil]; rfl
    (conv => whnf)
    (try simp only [hmx])
    repeat ((first | refine V.s1 ?_); (try simp only [hmx]))
    refine lp_any (0 : Nat) (fun i => lo + i ≤ m) (fun i => m - (lo + i)) (fun i => [(7, .int .i64 ((lo + i + j : Nat) : Int)), (6, .int .i64 ((rdv ((d.take (lo + i)).drop lo) : Nat) : Int))]) (fun _ => []) ?_ ?_ ?_
    · rw [hx0]
      exact V.wk
    · show lo + 0 ≤ m
      omega
    intro i hi
    have hi2 := hbd i hi
    (conv => whnf)
    refine V.st ?_
    refine Cnd.split (CondB.mk (fun hq2 => ?_) (fun hq2 => ?_))
    · rw [decide_eq_true_eq] at hq2
      have hn2 := hnx i (by omega)
      have hgi := hg (lo + i)
      have hdc : isDig (d.getD (lo + i) 0) = true := hd _ (by rw [List.getD_eq_getElem?_getD, List.getElem?_eq_getElem (by omega)]; exact List.getElem_mem _)
      have hdl2 := (dig_lo _).1 hdc
      have hi3 := hbd (i + 1) (by omega)
      generalize d.getD (lo + i) 0 = c at *
      have hkt : ((lo + i + j : Nat) : Int).toNat = lo + i + j := by omega
      have hkc : (((lo + i + j : Nat) : Int) + 1) = ((lo + (i + 1) + j : Nat) : Int) := by omega
      have hsum : ((rdv ((d.take (lo + i)).drop lo) : Nat) : Int) * 10 + ((c.toNat : Int) - 48) = ((rdv ((d.take (lo + (i + 1))).drop lo) : Nat) : Int) := by
        rw [hn2]; omega
      (conv => whnf)
      (try simp only [hkt, hgi, hkc, hsum])
      repeat ((first | refine V.s1 ?_); (try simp only [hkt, hgi, hkc, hsum]))
      exact ⟨i + 1, by omega, by omega, V.wk⟩
    · rw [decide_eq_false_iff_not] at hq2
      have hmi : lo + i = m := by omega
      rw [hmi]
      have hl2 : (out ++ [((rdv ((d.take m).drop lo) : Nat) : Int)]).length = out.length + 1 := by simp
      have hl3 : out.length + (List.take 1 (List.drop 0 [((rdv ((d.take m).drop lo) : Nat) : Int)])).length = (out ++ [((rdv ((d.take m).drop lo) : Nat) : Int)]).length := by simp
      have hdg : Dg 10000 (out ++ [((rdv ((d.take m).drop lo) : Nat) : Int)]) := dg_append h4 (dg_one ⟨by omega, by have := hbd i hi; rw [hmi] at this; omega⟩)
      (conv => whnf)
      (try simp only [hl3])
      repeat ((first | refine V.s1 ?_); (try simp only [hl3]))
      try refine And.intro (fun _ => ⟨trivial, by omega⟩) ?_
      (conv => whnf)
      (try simp only [hl3])
      repeat ((first | refine V.s1 ?_); (try simp only [hl3]))
      exact ⟨(((m + j : Nat) : Int) - 4, lo, out ++ [((rdv ((d.take m).drop lo) : Nat) : Int)]), ⟨by dsimp only; omega, by dsimp only; omega, hst, hdg, by dsimp only; omega⟩, by dsimp only; omega, V.wk⟩
  · rw [decide_eq_false_iff_not] at hq
    have hm0 : m = 0 := by omega
    subst hm0
    have hv : val 10000 out = ((rdv d : Nat) : Int) := by
      rw [List.take_zero, show rdv [] = 0 from rfl] at h3
      simpa using h3
    have hmd := madeP_c neg out h4 (by omega)
    rw [hv] at hmd
    have e1 : decide ((j : Int) = 1) = neg := by
      cases neg with
      | true => rw [if_pos rfl] at hj; rw [hj]; rfl
      | false => rw [if_neg (by simp)] at hj; rw [hj]; rfl
    (conv => whnf)
    (try simp only [e1, List.take_length])
    repeat ((first | refine V.s1 ?_ | ((try ((with_reducible refine .ext ?_); (conv => whnf); (try simp only [e1, List.take_length]))); (with_reducible refine call_intro (r := ?_) ?_ ?_); rotate_left; (focus (first | exact (hmd))); (conv => whnf))); (try simp only [e1, List.take_length]))
    exact Fin.of rfl
end Go.Proofs.YtfilfmadapjajaaGreatDoor
end
section
namespace Go.Proofs.YtfilfmadapjajaaGreatDoor
open Go Go.V Go.Nb
theorem times01_c (x y : Int) (hx : Sm 40000000 x) (hy : Sm 40000000 y) : Called Tryz.prog 150 [plD x, plD y] (plD (x * y)) := by
  unfold Sm at hx hy
  have hl := mg_len_mul (B := 10000) (by omega) x.natAbs y.natAbs
  have hp := product_g (mg 10000 x.natAbs) (mg 10000 y.natAbs) (by omega) (by omega) (mg_dg (by omega) _) (fun j => by
    have := dg_getD (B := 10000) (by omega) (mg_dg (B := 10000) (by omega) y.natAbs) j
    omega)
  rw [mg_val (by omega), mg_val (by omega), ← Int.natCast_mul, Int.toNat_natCast] at hp
  have hm := made_mg (!(decide (x < 0) == decide (y < 0))) (x.natAbs * y.natAbs) (by omega)
  have e : (if (!(decide (x < 0) == decide (y < 0))) = true then -((x.natAbs * y.natAbs : Nat) : Int) else ((x.natAbs * y.natAbs : Nat) : Int)) = x * y := by
    rw [Int.natCast_mul]
    by_cases h : x < 0
    · have e1 : (x.natAbs : Int) = -x := by omega
      by_cases h2 : y < 0
      · have e2 : (y.natAbs : Int) = -y := by omega
        rw [e1, e2]; simp [h, h2, Int.neg_mul_neg]
      · have e2 : (y.natAbs : Int) = y := by omega
        rw [e1, e2]; simp [h, h2, Int.neg_mul]
    · have e1 : (x.natAbs : Int) = x := by omega
      by_cases h2 : y < 0
      · have e2 : (y.natAbs : Int) = -y := by omega
        rw [e1, e2]; simp [h, h2, Int.mul_neg]
      · have e2 : (y.natAbs : Int) = y := by omega
        rw [e1, e2]; simp [h, h2]
  rw [e] at hm
  rw [show plD x = .agg [.bool (decide (x < 0)), .ints .i64 (mg 10000 x.natAbs)] from rfl, show plD y = .agg [.bool (decide (y < 0)), .ints .i64 (mg 10000 y.natAbs)] from rfl]
  refine called_of_run tbOk 6 ⟨Tryz.func150, rfl, rfl, Nat.le_of_ble_eq_true rfl⟩ ?_
  (conv => whnf)
  refine V.st ?_
  refine ⟨(.take 0 (.take 1 (.take 2 (.take 3 (.take 4 (.take 5 (.take 6 (.take 7 (.take 8 (.ev (.cons 9 [4, 3, 2, 1, 0] (.ev (.cons 10 [] (.ev (.cons 11 [] (.done) (.nil))) (.nil))) (.nil)))))))))))), [], ⟨by kernel_rfl, by kernel_rfl, by kernel_rfl, by kernel_rfl⟩, .go (drawD_one ?_)⟩
  (conv => whnf)
  refine V.st ?_
  repeat ((try ((with_reducible refine .ext ?_); (conv => whnf))); (with_reducible refine call_intro (r := ?_) ?_ ?_); rotate_left; (focus (first | exact (hp) | exact (hm))); (conv => whnf); refine V.st ?_)
  exact Fin.of rfl
theorem order01_c (x y : Int) (hx : Sm 80000000 x) (hy : Sm 80000000 y) : Called Tryz.prog 149 [plD x, plD y] (.int .i64 (x - y).sign) := by
  have hm := minus_c x y (hx.mono (by omega)) (hy.mono (by omega))
  have hn := mg_nil (B := 10000) (n := (x - y).natAbs) (by omega)
  have hz : Sm 80000001 (x - y) := by rw [Int.sub_eq_add_neg]; exact hx.add hy.neg
  unfold Sm at hz
  rw [show plD (x - y) = .agg [.bool (decide (x - y < 0)), .ints .i64 (mg 10000 (x - y).natAbs)] from rfl] at hm
  generalize x - y = z at *
  generalize mg 10000 z.natAbs = xs at *
  refine called_of_run tbOk 6 ⟨Tryz.func149, rfl, rfl, Nat.le_of_ble_eq_true rfl⟩ ?_
  (conv => whnf)
  refine V.st ?_
  repeat ((try ((with_reducible refine .ext ?_); (conv => whnf))); (with_reducible refine call_intro (r := ?_) ?_ ?_); rotate_left; (focus (first | exact (hm))); (conv => whnf); refine V.st ?_)
  refine Cnd.split (CondB.mk (fun hq => ?_) (fun hq => ?_))
  · rw [decide_eq_true_eq] at hq
    (conv => whnf)
    refine V.st ?_
    exact Fin.of (by rw [Int.sign_eq_neg_one_of_neg hq])
  · rw [decide_eq_false_iff_not] at hq
    (conv => whnf)
    refine V.st ?_
    refine Cnd.split (CondB.mk (fun hq2 => ?_) (fun hq2 => ?_))
    · rw [decide_eq_true_eq] at hq2
      have h0 : z ≠ 0 := fun e => by
        have := hn.2 (by rw [e]; rfl)
        rw [this] at hq2; simp at hq2
      (conv => whnf)
      refine V.st ?_
      exact Fin.of (by rw [Int.sign_eq_one_of_pos (by omega)])
    · rw [decide_eq_false_iff_not] at hq2
      have h0 := hn.1 (List.length_eq_zero_iff.1 (by omega))
      (conv => whnf)
      refine V.st ?_
      exact Fin.of (by rw [show z = 0 by omega]; rfl)
theorem off1 {p : Go.Program} {f : Nat} {ys : List D} {c : Bool} (hc : c = false) : c = true → Called p f ys (.int .i64 0) := fun h => by rw [hc] at h; cases h
theorem sign_lt {a b : Int} : (a - b).sign < 0 ↔ a < b := by
  rcases Int.lt_trichotomy a b with h | h | h
  · rw [Int.sign_eq_neg_one_of_neg (by omega)]; exact ⟨fun _ => h, fun _ => by omega⟩
  · rw [h, Int.sub_self]; exact ⟨fun e => by simp at e, fun e => by omega⟩
  · rw [Int.sign_eq_one_of_pos (by omega)]; exact ⟨fun e => by omega, fun e => by omega⟩
theorem sign_gt {a b : Int} : (a - b).sign > 0 ↔ a > b := by
  rcases Int.lt_trichotomy a b with h | h | h
  · rw [Int.sign_eq_neg_one_of_neg (by omega)]; exact ⟨fun e => by omega, fun e => by omega⟩
  · rw [h, Int.sub_self]; exact ⟨fun e => by simp at e, fun e => by omega⟩
  · rw [Int.sign_eq_one_of_pos (by omega)]; exact ⟨fun _ => h, fun _ => by omega⟩
end Go.Proofs.YtfilfmadapjajaaGreatDoor
end
section
namespace Go.Proofs.YtfilfmadapjajaaGreatDoor
open Go Go.V Go.Nb
theorem order_parts (x y : Rat) : (x.num * y.den + -(y.num * x.den)).sign = (if x < y then -1 else if x = y then 0 else 1 : Int) := by
  have h1 : x < y ↔ x.num * y.den < y.num * x.den := Rat.lt_iff x y
  have h2 : x = y ↔ x.num * y.den = y.num * x.den := by
    conv => lhs; rw [← Rat.num_divInt_den x, ← Rat.num_divInt_den y]
    exact Rat.divInt_eq_divInt_iff (by have := x.den_pos; omega) (by have := y.den_pos; omega)
  by_cases a1 : x < y
  · rw [if_pos a1]; exact Int.sign_eq_neg_one_of_neg (by have := h1.1 a1; omega)
  · rw [if_neg a1]
    by_cases a2 : x = y
    · rw [if_pos a2, show x.num * y.den + -(y.num * x.den) = 0 by have := h2.1 a2; omega]; rfl
    · rw [if_neg a2]
      refine Int.sign_eq_one_of_pos ?_
      have b1 : ¬ (x.num * y.den < y.num * x.den) := fun h => a1 (h1.2 h)
      have b2 : ¬ (x.num * y.den = y.num * x.den) := fun h => a2 (h2.2 h)
      omega
def ordQ (x y : Rat) : Int := if x < y then -1 else if x = y then 0 else 1
end Go.Proofs.YtfilfmadapjajaaGreatDoor
end
section
namespace Go.Proofs.YtfilfmadapjajaaGreatDoor
open Go Go.V Go.Nb
def Q4 (k : Nat) (q : Rat) : Prop := Sm k q.num ∧ Sm k (q.den : Int)
theorem Q4.mono {k l : Nat} {q : Rat} (h : Q4 k q) (hl : k ≤ l) : Q4 l q := ⟨h.1.mono hl, h.2.mono hl⟩
theorem Q4.neg {k : Nat} {q : Rat} (h : Q4 k q) : Q4 k (-q) := ⟨by rw [Rat.neg_num]; exact h.1.neg, by rw [Rat.neg_den]; exact h.2⟩
theorem Q4.of {k : Nat} {n d : Int} (hn : Sm k n) (hd : Sm k d) (hd0 : d ≠ 0) : Q4 k (Rat.divInt n d) := by
  have h1 := low_num n d hd0
  have h2 := low_den n d hd0
  have h3 := natAbs_ediv_le (if d < 0 then -n else n) (Int.gcd (if d < 0 then -n else n) (if d < 0 then -d else d))
  have h4 := natAbs_ediv_le (if d < 0 then -d else d) (Int.gcd (if d < 0 then -n else n) (if d < 0 then -d else d))
  rw [h1] at h3
  rw [h2] at h4
  have e1 : (if d < 0 then -n else n).natAbs = n.natAbs := by split <;> simp
  have e2 : (if d < 0 then -d else d).natAbs = d.natAbs := by split <;> simp
  exact ⟨hn.le (by omega), hd.le (by omega)⟩
theorem plN (n : Nat) : plD (n : Int) = .agg [.bool false, .ints .i64 (mg 10000 n)] := by
  unfold plD
  rw [decide_eq_false (by omega), Int.natAbs_natCast]
theorem mul_divInt (x y : Rat) : x * y = Rat.divInt (x.num * y.num) ((x.den : Int) * (y.den : Int)) := by
  conv => lhs; rw [← Rat.num_divInt_den x, ← Rat.num_divInt_den y]
  rw [Rat.divInt_mul_divInt]
theorem den_ne (x : Rat) : (x.den : Int) ≠ 0 := by have := x.den_pos; omega
theorem times02_c (x y : Rat) (hx : Q4 40000000 x) (hy : Q4 40000000 y) : Called Tryz.prog 123 [raD x, raD y] (raD (x * y)) := by
  have h1 := times01_c x.num y.num hx.1 hy.1
  have h2 := times01_c x.den y.den hx.2 hy.2
  have h3 := lowest_c (x.num * y.num) ((x.den : Int) * (y.den : Int)) (hx.1.mul hy.1) (hx.2.mul hy.2) (Int.mul_ne_zero (den_ne x) (den_ne y))
  rw [← mul_divInt] at h3
  rw [plN, plN] at h2
  refine called_of_run tbOk 6 ⟨Tryz.func123, rfl, rfl, Nat.le_of_ble_eq_true rfl⟩ ?_
  (conv => whnf)
  refine V.st ?_
  refine ⟨(.take 0 (.take 1 (.take 2 (.take 3 (.take 5 (.take 6 (.take 7 (.take 8 (.ev (.cons 4 [8, 7, 6, 5] (.ev (.cons 9 [] (.ev (.cons 10 [] (.ev (.cons 11 [] (.done) (.nil))) (.nil))) (.nil))) (.nil))))))))))), [], ⟨by kernel_rfl, by kernel_rfl, by kernel_rfl, by kernel_rfl⟩, .go (drawD_one ?_)⟩
  (conv => whnf)
  refine V.st ?_
  repeat ((try ((with_reducible refine .ext ?_); (conv => whnf))); (with_reducible refine call_intro (r := ?_) ?_ ?_); rotate_left; (focus (first | exact (h1) | exact (h2) | exact (h3))); (conv => whnf); refine V.st ?_)
  exact Fin.of rfl
theorem order02_c (x y : Rat) (hx : Q4 40000000 x) (hy : Q4 40000000 y) : Called Tryz.prog 117 [raD x, raD y] (.int .i64 (ordQ x y)) := by
  have h1 := times01_c x.num y.den hx.1 hy.2
  have h2 := times01_c y.num x.den hy.1 hx.2
  have h3 := order01_c (x.num * y.den) (y.num * x.den) (hx.1.mul hy.2) (hy.1.mul hx.2)
  rw [Int.sub_eq_add_neg, order_parts] at h3
  rw [plN] at h1 h2
  refine called_of_run tbOk 6 ⟨Tryz.func117, rfl, rfl, Nat.le_of_ble_eq_true rfl⟩ ?_
  (conv => whnf)
  refine V.st ?_
  refine ⟨(.take 0 (.take 1 (.take 2 (.take 3 (.take 5 (.take 6 (.take 7 (.take 8 (.ev (.cons 4 [8, 7, 6, 5] (.ev (.cons 9 [] (.ev (.cons 10 [] (.take 11 (.done)) (.nil))) (.nil))) (.nil))))))))))), [], ⟨by kernel_rfl, by kernel_rfl, by kernel_rfl, by kernel_rfl⟩, .go (drawD_one ?_)⟩
  (conv => whnf)
  refine V.st ?_
  repeat ((try ((with_reducible refine .ext ?_); (conv => whnf))); (with_reducible refine call_intro (r := ?_) ?_ ?_); rotate_left; (focus (first | exact (h1) | exact (h2) | exact (h3))); (conv => whnf); refine V.st ?_)
  exact Fin.of rfl
theorem turn02_c (x : Rat) (hx : Q4 80000000 x) : Called Tryz.prog 151 [raD x] (raD (-x)) := by
  have h1 := turn_c x.num (by have := hx.1; unfold Sm at this; omega)
  have e : raD (-x) = .agg [.bool (decide (-x.num < 0)), .ints .i64 (mg 10000 (-x.num).natAbs), .bool false, .ints .i64 (mg 10000 x.den)] := by unfold raD; rw [Rat.neg_num, Rat.neg_den]
  rw [e]
  refine called_of_run tbOk 6 ⟨Tryz.func151, rfl, rfl, Nat.le_of_ble_eq_true rfl⟩ ?_
  (conv => whnf)
  refine V.st ?_
  refine ⟨(.take 0 (.take 1 (.take 3 (.take 4 (.ev (.cons 2 [4, 3] (.take 5 (.ev (.cons 6 [] (.done) (.nil)))) (.nil))))))), [], ⟨by kernel_rfl, by kernel_rfl, by kernel_rfl, by kernel_rfl⟩, .go (drawD_one ?_)⟩
  (conv => whnf)
  refine V.st ?_
  repeat ((try ((with_reducible refine .ext ?_); (conv => whnf))); (with_reducible refine call_intro (r := ?_) ?_ ?_); rotate_left; (focus (first | exact (h1))); (conv => whnf); refine V.st ?_)
  exact Fin.of rfl
theorem Q4.mul {k l : Nat} {x y : Rat} (h : Q4 k x) (g : Q4 l y) : Q4 (k + l) (x * y) := by
  rw [mul_divInt]
  exact Q4.of (h.1.mul g.1) (h.2.mul g.2) (Int.mul_ne_zero (den_ne x) (den_ne y))
theorem add_divInt' (x y : Rat) : x + y = Rat.divInt (x.num * y.den + y.num * x.den) ((x.den : Int) * (y.den : Int)) := by
  conv => lhs; rw [← Rat.num_divInt_den x, ← Rat.num_divInt_den y]
  rw [Rat.divInt_add_divInt _ _ (den_ne x) (den_ne y)]
theorem plus02_c (x y : Rat) (hx : Q4 30000000 x) (hy : Q4 30000000 y) : Called Tryz.prog 121 [raD x, raD y] (raD (x + y)) := by
  have h1 := times01_c x.num y.den (hx.1.mono (by omega)) (hy.2.mono (by omega))
  have h2 := times01_c y.num x.den (hy.1.mono (by omega)) (hx.2.mono (by omega))
  have z1 : Sm 60000000 (x.num * (y.den : Int)) := hx.1.mul hy.2
  have z2 : Sm 60000000 (y.num * (x.den : Int)) := hy.1.mul hx.2
  have z3 : Sm 60000000 ((x.den : Int) * (y.den : Int)) := hx.2.mul hy.2
  have h3 := plus_c _ _ (z1.mono (by omega)) (z2.mono (by omega))
  have h4 := times01_c x.den y.den (hx.2.mono (by omega)) (hy.2.mono (by omega))
  have h5 := lowest_c (x.num * y.den + y.num * x.den) ((x.den : Int) * (y.den : Int)) ((z1.add z2).mono (by omega)) (z3.mono (by omega)) (Int.mul_ne_zero (den_ne x) (den_ne y))
  rw [← add_divInt'] at h5
  rw [plN] at h1 h2
  rw [plN, plN] at h4
  generalize x.num * y.den + y.num * x.den = S at *
  clear z1 z2 z3
  refine called_of_run tbOk 6 ⟨Tryz.func121, rfl, rfl, Nat.le_of_ble_eq_true rfl⟩ ?_
  (conv => whnf)
  refine V.st ?_
  refine ⟨(.take 0 (.take 1 (.take 2 (.take 3 (.take 5 (.take 6 (.take 7 (.take 8 (.ev (.cons 4 [8, 7, 6, 5] (.ev (.cons 9 [] (.ev (.cons 10 [] (.ev (.cons 11 [] (.ev (.cons 12 [] (.done) (.nil))) (.nil))) (.cons 11 [] (.ev (.cons 10 [] (.ev (.cons 12 [] (.done) (.nil))) (.nil))) (.nil)))) (.cons 11 [8, 7, 6, 5] (.ev (.cons 9 [] (.ev (.cons 10 [] (.ev (.cons 12 [] (.done) (.nil))) (.nil))) (.nil))) (.nil)))) (.cons 11 [8, 7, 6, 5, 3, 2, 1, 0] (.ev (.cons 4 [8, 7, 6, 5] (.ev (.cons 9 [] (.ev (.cons 10 [] (.ev (.cons 12 [] (.done) (.nil))) (.nil))) (.nil))) (.nil))) (.nil)))))))))))), [], ⟨by kernel_rfl, by kernel_rfl, by kernel_rfl, by kernel_rfl⟩, ?_⟩
  refine drw_meet [(5, .box 5 0)] [(5, .box [.bool (decide (S < 0)), .ints .i64 (mg 10000 S.natAbs)])] ?_ ?_
  · (conv => whnf); (try simp only [Nat.zero_add])
    repeat' (first | exact V.wk | ((first | refine V.s1 ?_ | ((with_reducible refine recheck_and ?_ ?_); (focus ((conv => whnf); (try simp only [Nat.zero_add]); (repeat (refine V.s1 ?_; (try simp only [Nat.zero_add]))); exact ⟨rfl⟩)); (conv => whnf)) | ((try ((with_reducible refine .ext ?_); (conv => whnf); (try simp only [Nat.zero_add]))); (with_reducible refine call_intro (r := ?_) ?_ ?_); rotate_left; (focus (first | exact (h1) | exact (h2) | exact (h3))); (conv => whnf))); (try simp only [Nat.zero_add])) | (refine And.intro ?_ ?_ <;> (conv => whnf); (try simp only [Nat.zero_add])))
  (conv => whnf)
  refine V.st ?_
  refine ⟨(.take 0 (.take 1 (.take 2 (.take 3 (.take 4 (.ev (.cons 5 [0] (.ev (.cons 6 [] (.ev (.cons 7 [] (.done) (.nil))) (.nil))) (.nil)))))))), [], ⟨by kernel_rfl, by kernel_rfl, by kernel_rfl, by kernel_rfl⟩, .go (drawD_one ?_)⟩
  (conv => whnf)
  refine V.st ?_
  repeat ((try ((with_reducible refine .ext ?_); (conv => whnf))); (with_reducible refine call_intro (r := ?_) ?_ ?_); rotate_left; (focus (first | exact (h4) | exact (h5))); (conv => whnf); refine V.st ?_)
  exact Fin.of rfl
theorem over_eq (x y : Rat) (hy : y ≠ 0) : x / y = Rat.divInt (x.num * y.den) ((x.den : Int) * y.num) := by
  rw [Rat.div_def]
  conv => lhs; rw [← Rat.num_divInt_den x, ← Rat.num_divInt_den y, Rat.inv_divInt, Rat.divInt_mul_divInt]
theorem minus02_c (x y : Rat) (hx : Q4 30000000 x) (hy : Q4 30000000 y) : Called Tryz.prog 120 [raD x, raD y] (raD (x - y)) := by
  have h1 := turn02_c y (hy.mono (by omega))
  have h2 := plus02_c x (-y) hx hy.neg
  rw [show x + -y = x - y from (Rat.sub_eq_add_neg x y).symm] at h2
  unfold raD at *
  refine called_of_run tbOk 6 ⟨Tryz.func120, rfl, rfl, Nat.le_of_ble_eq_true rfl⟩ ?_
  (conv => whnf)
  refine V.st ?_
  refine ⟨(.take 0 (.take 1 (.ev (.cons 2 [0] (.ev (.cons 3 [] (.ev (.cons 4 [] (.done) (.nil))) (.nil))) (.nil))))), [], ⟨by kernel_rfl, by kernel_rfl, by kernel_rfl, by kernel_rfl⟩, .go (drawD_one ?_)⟩
  (conv => whnf)
  refine V.st ?_
  repeat ((try ((with_reducible refine .ext ?_); (conv => whnf))); (with_reducible refine call_intro (r := ?_) ?_ ?_); rotate_left; (focus (first | exact (h1) | exact (h2))); (conv => whnf); refine V.st ?_)
  exact Fin.of rfl
theorem over02_c (x y : Rat) (hx : Q4 40000000 x) (hy : Q4 40000000 y) (h0 : y.num ≠ 0) : Called Tryz.prog 122 [raD x, raD y] (raD (x / y)) := by
  have h1 := times01_c x.num y.den hx.1 hy.2
  have h2 := times01_c x.den y.num hx.2 hy.1
  have h3 := lowest_c (x.num * y.den) ((x.den : Int) * y.num) (hx.1.mul hy.2) (hx.2.mul hy.1) (Int.mul_ne_zero (den_ne x) h0)
  rw [← over_eq x y (fun e => h0 (by rw [e]; rfl))] at h3
  rw [plN] at h1 h2
  refine called_of_run tbOk 6 ⟨Tryz.func122, rfl, rfl, Nat.le_of_ble_eq_true rfl⟩ ?_
  (conv => whnf)
  refine V.st ?_
  refine ⟨(.take 0 (.take 1 (.take 2 (.take 3 (.take 5 (.take 6 (.take 7 (.take 8 (.ev (.cons 4 [8, 7, 6, 5] (.ev (.cons 9 [] (.ev (.cons 10 [] (.ev (.cons 11 [] (.done) (.nil))) (.nil))) (.nil))) (.nil))))))))))), [], ⟨by kernel_rfl, by kernel_rfl, by kernel_rfl, by kernel_rfl⟩, .go (drawD_one ?_)⟩
  (conv => whnf)
  refine V.st ?_
  repeat ((try ((with_reducible refine .ext ?_); (conv => whnf))); (with_reducible refine call_intro (r := ?_) ?_ ?_); rotate_left; (focus (first | exact (h1) | exact (h2) | exact (h3))); (conv => whnf); refine V.st ?_)
  exact Fin.of rfl
end Go.Proofs.YtfilfmadapjajaaGreatDoor
end
section
namespace Go.Proofs.YtfilfmadapjajaaGreatDoor
open Go Go.V Go.Nb
theorem plus_m (a b : Nat) (ha : (mg 1000000000 a).length ≤ 100000000) (hb : (mg 1000000000 b).length ≤ 100000000) : Called Tryz.prog 133 [.ints .u32 (mg 1000000000 a), .ints .u32 (mg 1000000000 b)] (.ints .u32 (mg 1000000000 (a + b))) := by
  have hdx := mg_dg (B := 1000000000) (by omega) a
  have hdy := mg_dg (B := 1000000000) (by omega) b
  have hvx := mg_val (B := 1000000000) (by omega) a
  have hvy := mg_val (B := 1000000000) (by omega) b
  have hpx := fun h => pow_le_mg (B := 1000000000) (n := a) (by omega) h
  have hpy := fun h => pow_le_mg (B := 1000000000) (n := b) (by omega) h
  have hex := mg_nil (B := 1000000000) (n := a) (by omega)
  have hey := mg_nil (B := 1000000000) (n := b) (by omega)
  generalize mg 1000000000 a = xs at *
  generalize mg 1000000000 b = ys at *
  refine called_of_run tbOk 6 ⟨Tryz.func133, rfl, rfl, Nat.le_of_ble_eq_true rfl⟩ ?_
  (conv => whnf)
  refine V.st ?_
  refine Cnd.split (CondB.mk (fun hl => ?_) (fun hl => ?_))
  · rw [decide_eq_true_eq] at hl
    obtain ⟨N, hN⟩ : ∃ N, N = ys.length + 1 := ⟨_, rfl⟩
    have e1 : (ys.length : Int) + 1 = (N : Int) := by omega
    rw [Nat.add_comm a b]
    (conv => whnf)
    (try simp only [e1, Int.toNat_natCast])
    repeat ((first | refine V.s1 ?_); (try simp only [e1, Int.toNat_natCast]))
    (obtain ⟨hdx, hdy⟩ := And.intro hdy hdx)
    refine lp_any ((false, 0, [], 0) : Bool × Nat × List Int × Int) (fun s => s.2.2.1.length = s.2.1 ∧ Dg 1000000000 s.2.2.1 ∧ (0 ≤ s.2.2.2 ∧ s.2.2.2 ≤ 1) ∧ val 1000000000 s.2.2.1 + s.2.2.2 * ((1000000000 : Nat) : Int) ^ s.2.1 = val 1000000000 ((ys).take s.2.1) + val 1000000000 ((xs).take s.2.1) ∧ s.2.1 ≤ (ys).length ∧ (s.1 = false → s.2.2.1 = [])) (fun s => (ys).length - s.2.1)
      (fun s => match s.1 with | false => [(22, .int .i64 s.2.1), (6, .int .u32 s.2.2.2), (5, .osl 19 0 0)] | true => [(22, .int .i64 s.2.1), (6, .int .u32 s.2.2.2), (5, .osl 47 0 s.2.2.1.length)]) (fun s => match s.1 with | false => [(19, .arr .u32 [])] | true => [(47, .arr .u32 s.2.2.1), (19, .gone)]) ?_ ?_ ?_
    · exact V.wk
    · exact ⟨rfl, fun x hx => by simp at hx, by simp, by simp [val], Nat.zero_le _, fun _ => rfl⟩
    rintro ⟨_ | _, k, out, c⟩ ⟨h1, h2, h3, h4, h5, h6⟩
    · dsimp only at h1 h2 h3 h4 h5 h6 ⊢
      have h7 := h6 rfl
      clear h6
      subst h7
      have vx := val_take_getD 1000000000 ys k
      have vy := val_take_getD 1000000000 xs k
      have bx := dg_getD (by omega) hdx k
      have by' := dg_getD (by omega) hdy k
      have gy := getD_ge (xs := xs) (k := k)
      generalize hx0 : (ys).getD k 0 = x at *
      generalize hy0 : (xs).getD k 0 = y at *
      (conv => whnf)
      (try simp only [Int.toNat_natCast])
      repeat ((first | refine V.s1 ?_); (try simp only [Int.toNat_natCast]))
      refine Cnd.split (CondB.mk (fun hq => ?_) (fun hq => ?_))
      · rw [decide_eq_true_eq] at hq
        (conv => whnf)
        (try simp only [Int.toNat_natCast, hx0])
        repeat ((first | refine V.s1 ?_); (try simp only [Int.toNat_natCast, hx0]))
        refine Cnd.split (CondB.mk (fun hy => ?_) (fun hy => ?_))
        · rw [decide_eq_true_eq] at hy
          (conv => whnf)
          (try simp only [Int.toNat_natCast, hy0])
          repeat ((first | refine V.s1 ?_); (try simp only [Int.toNat_natCast, hy0]))
          refine Cnd.split (CondB.mk (fun hz => ?_) (fun hz => ?_))
          · rw [decide_eq_true_eq] at hz
            have hst := add_step (B := 1000000000) (x := x) (y := y) (d := (x + c + y - 1000000000)) (c' := 1) h1 h4 (by omega)
            rw [← vx, ← vy] at hst
            have hdg : Dg 1000000000 (([] : List Int) ++ [(x + c + y - 1000000000)]) := dg_append h2 (dg_one (by omega))
            have hl2 : (([] : List Int) ++ [(x + c + y - 1000000000)]).length = k + 1 := by simp [h1]
            have hl3 : (([] : List Int)).length + (List.take 1 (List.drop 0 [(x + c + y - 1000000000)])).length = (([] : List Int) ++ [(x + c + y - 1000000000)]).length := by simp
            have hkc : ((k : Int) + 1) = ((k + 1 : Nat) : Int) := by omega
            (conv => whnf)
            (try simp only [hl3, hkc, Nat.zero_add])
            repeat ((first | refine V.s1 ?_); (try simp only [hl3, hkc, Nat.zero_add]))
            try refine And.intro (fun _ => ⟨trivial, by omega⟩) ?_
            (conv => whnf)
            (try simp only [hl3, hkc, Nat.zero_add])
            repeat ((first | refine V.s1 ?_); (try simp only [hl3, hkc, Nat.zero_add]))
            exact ⟨(true, k + 1, ([] : List Int) ++ [(x + c + y - 1000000000)], 1), ⟨hl2, hdg, by dsimp only; omega, hst, by dsimp only; omega, fun h => by cases h⟩, by dsimp only; omega, V.wk⟩
          · rw [decide_eq_false_iff_not] at hz
            have hst := add_step (B := 1000000000) (x := x) (y := y) (d := (x + c + y)) (c' := 0) h1 h4 (by omega)
            rw [← vx, ← vy] at hst
            have hdg : Dg 1000000000 (([] : List Int) ++ [(x + c + y)]) := dg_append h2 (dg_one (by omega))
            have hl2 : (([] : List Int) ++ [(x + c + y)]).length = k + 1 := by simp [h1]
            have hl3 : (([] : List Int)).length + (List.take 1 (List.drop 0 [(x + c + y)])).length = (([] : List Int) ++ [(x + c + y)]).length := by simp
            have hkc : ((k : Int) + 1) = ((k + 1 : Nat) : Int) := by omega
            (conv => whnf)
            (try simp only [hl3, hkc, Nat.zero_add])
            repeat ((first | refine V.s1 ?_); (try simp only [hl3, hkc, Nat.zero_add]))
            try refine And.intro (fun _ => ⟨trivial, by omega⟩) ?_
            (conv => whnf)
            (try simp only [hl3, hkc, Nat.zero_add])
            repeat ((first | refine V.s1 ?_); (try simp only [hl3, hkc, Nat.zero_add]))
            exact ⟨(true, k + 1, ([] : List Int) ++ [(x + c + y)], 0), ⟨hl2, hdg, by dsimp only; omega, hst, by dsimp only; omega, fun h => by cases h⟩, by dsimp only; omega, V.wk⟩
        · rw [decide_eq_false_iff_not] at hy
          have := gy (by omega)
          (conv => whnf)
          (try simp only [Int.toNat_natCast])
          repeat ((first | refine V.s1 ?_); (try simp only [Int.toNat_natCast]))
          refine Cnd.split (CondB.mk (fun hz => ?_) (fun hz => ?_))
          · rw [decide_eq_true_eq] at hz
            have hst := add_step (B := 1000000000) (x := x) (y := y) (d := (x + c - 1000000000)) (c' := 1) h1 h4 (by omega)
            rw [← vx, ← vy] at hst
            have hdg : Dg 1000000000 (([] : List Int) ++ [(x + c - 1000000000)]) := dg_append h2 (dg_one (by omega))
            have hl2 : (([] : List Int) ++ [(x + c - 1000000000)]).length = k + 1 := by simp [h1]
            have hl3 : (([] : List Int)).length + (List.take 1 (List.drop 0 [(x + c - 1000000000)])).length = (([] : List Int) ++ [(x + c - 1000000000)]).length := by simp
            have hkc : ((k : Int) + 1) = ((k + 1 : Nat) : Int) := by omega
            (conv => whnf)
            (try simp only [hl3, hkc, Nat.zero_add])
            repeat ((first | refine V.s1 ?_); (try simp only [hl3, hkc, Nat.zero_add]))
            try refine And.intro (fun _ => ⟨trivial, by omega⟩) ?_
            (conv => whnf)
            (try simp only [hl3, hkc, Nat.zero_add])
            repeat ((first | refine V.s1 ?_); (try simp only [hl3, hkc, Nat.zero_add]))
            exact ⟨(true, k + 1, ([] : List Int) ++ [(x + c - 1000000000)], 1), ⟨hl2, hdg, by dsimp only; omega, hst, by dsimp only; omega, fun h => by cases h⟩, by dsimp only; omega, V.wk⟩
          · rw [decide_eq_false_iff_not] at hz
            have hst := add_step (B := 1000000000) (x := x) (y := y) (d := (x + c)) (c' := 0) h1 h4 (by omega)
            rw [← vx, ← vy] at hst
            have hdg : Dg 1000000000 (([] : List Int) ++ [(x + c)]) := dg_append h2 (dg_one (by omega))
            have hl2 : (([] : List Int) ++ [(x + c)]).length = k + 1 := by simp [h1]
            have hl3 : (([] : List Int)).length + (List.take 1 (List.drop 0 [(x + c)])).length = (([] : List Int) ++ [(x + c)]).length := by simp
            have hkc : ((k : Int) + 1) = ((k + 1 : Nat) : Int) := by omega
            (conv => whnf)
            (try simp only [hl3, hkc, Nat.zero_add])
            repeat ((first | refine V.s1 ?_); (try simp only [hl3, hkc, Nat.zero_add]))
            try refine And.intro (fun _ => ⟨trivial, by omega⟩) ?_
            (conv => whnf)
            (try simp only [hl3, hkc, Nat.zero_add])
            repeat ((first | refine V.s1 ?_); (try simp only [hl3, hkc, Nat.zero_add]))
            exact ⟨(true, k + 1, ([] : List Int) ++ [(x + c)], 0), ⟨hl2, hdg, by dsimp only; omega, hst, by dsimp only; omega, fun h => by cases h⟩, by dsimp only; omega, V.wk⟩
      · rw [decide_eq_false_iff_not] at hq
        have h7 : k = 0 := by simpa using h1.symm
        have h8 : (ys).length = 0 := by omega
        have e2 := hey.mp (List.length_eq_zero_iff.mp h8)
        have e3 := hex.mp (List.length_eq_zero_iff.mp (by omega))
        have e4 : c = 0 := by
          rw [List.take_of_length_le (by omega), List.take_of_length_le (by omega), hvy, hvx, e2, e3, h7] at h4
          simpa [val] using h4
        subst e4 h7
        rw [e2, e3]
        (conv => whnf)
        refine V.st ?_
        exact Fin.of rfl
    · clear h6
      dsimp only at h1 h2 h3 h4 h5 ⊢
      have vx := val_take_getD 1000000000 ys k
      have vy := val_take_getD 1000000000 xs k
      have bx := dg_getD (by omega) hdx k
      have by' := dg_getD (by omega) hdy k
      have gy := getD_ge (xs := xs) (k := k)
      generalize hx0 : (ys).getD k 0 = x at *
      generalize hy0 : (xs).getD k 0 = y at *
      (conv => whnf)
      (try simp only [Int.toNat_natCast])
      repeat ((first | refine V.s1 ?_); (try simp only [Int.toNat_natCast]))
      refine Cnd.split (CondB.mk (fun hq => ?_) (fun hq => ?_))
      · rw [decide_eq_true_eq] at hq
        (conv => whnf)
        (try simp only [Int.toNat_natCast, hx0])
        repeat ((first | refine V.s1 ?_); (try simp only [Int.toNat_natCast, hx0]))
        refine Cnd.split (CondB.mk (fun hy => ?_) (fun hy => ?_))
        · rw [decide_eq_true_eq] at hy
          (conv => whnf)
          (try simp only [Int.toNat_natCast, hy0])
          repeat ((first | refine V.s1 ?_); (try simp only [Int.toNat_natCast, hy0]))
          refine Cnd.split (CondB.mk (fun hz => ?_) (fun hz => ?_))
          · rw [decide_eq_true_eq] at hz
            have hst := add_step (B := 1000000000) (x := x) (y := y) (d := (x + c + y - 1000000000)) (c' := 1) h1 h4 (by omega)
            rw [← vx, ← vy] at hst
            have hdg : Dg 1000000000 (out ++ [(x + c + y - 1000000000)]) := dg_append h2 (dg_one (by omega))
            have hl2 : (out ++ [(x + c + y - 1000000000)]).length = k + 1 := by simp [h1]
            have hl3 : (out).length + (List.take 1 (List.drop 0 [(x + c + y - 1000000000)])).length = (out ++ [(x + c + y - 1000000000)]).length := by simp
            have hkc : ((k : Int) + 1) = ((k + 1 : Nat) : Int) := by omega
            (conv => whnf)
            (try simp only [hl3, hkc, Nat.zero_add])
            repeat ((first | refine V.s1 ?_); (try simp only [hl3, hkc, Nat.zero_add]))
            try refine And.intro (fun _ => ⟨trivial, by omega⟩) ?_
            (conv => whnf)
            (try simp only [hl3, hkc, Nat.zero_add])
            repeat ((first | refine V.s1 ?_); (try simp only [hl3, hkc, Nat.zero_add]))
            exact ⟨(true, k + 1, out ++ [(x + c + y - 1000000000)], 1), ⟨hl2, hdg, by dsimp only; omega, hst, by dsimp only; omega, fun h => by cases h⟩, by dsimp only; omega, V.wk⟩
          · rw [decide_eq_false_iff_not] at hz
            have hst := add_step (B := 1000000000) (x := x) (y := y) (d := (x + c + y)) (c' := 0) h1 h4 (by omega)
            rw [← vx, ← vy] at hst
            have hdg : Dg 1000000000 (out ++ [(x + c + y)]) := dg_append h2 (dg_one (by omega))
            have hl2 : (out ++ [(x + c + y)]).length = k + 1 := by simp [h1]
            have hl3 : (out).length + (List.take 1 (List.drop 0 [(x + c + y)])).length = (out ++ [(x + c + y)]).length := by simp
            have hkc : ((k : Int) + 1) = ((k + 1 : Nat) : Int) := by omega
            (conv => whnf)
            (try simp only [hl3, hkc, Nat.zero_add])
            repeat ((first | refine V.s1 ?_); (try simp only [hl3, hkc, Nat.zero_add]))
            try refine And.intro (fun _ => ⟨trivial, by omega⟩) ?_
            (conv => whnf)
            (try simp only [hl3, hkc, Nat.zero_add])
            repeat ((first | refine V.s1 ?_); (try simp only [hl3, hkc, Nat.zero_add]))
            exact ⟨(true, k + 1, out ++ [(x + c + y)], 0), ⟨hl2, hdg, by dsimp only; omega, hst, by dsimp only; omega, fun h => by cases h⟩, by dsimp only; omega, V.wk⟩
        · rw [decide_eq_false_iff_not] at hy
          have := gy (by omega)
          (conv => whnf)
          (try simp only [Int.toNat_natCast])
          repeat ((first | refine V.s1 ?_); (try simp only [Int.toNat_natCast]))
          refine Cnd.split (CondB.mk (fun hz => ?_) (fun hz => ?_))
          · rw [decide_eq_true_eq] at hz
            have hst := add_step (B := 1000000000) (x := x) (y := y) (d := (x + c - 1000000000)) (c' := 1) h1 h4 (by omega)
            rw [← vx, ← vy] at hst
            have hdg : Dg 1000000000 (out ++ [(x + c - 1000000000)]) := dg_append h2 (dg_one (by omega))
            have hl2 : (out ++ [(x + c - 1000000000)]).length = k + 1 := by simp [h1]
            have hl3 : (out).length + (List.take 1 (List.drop 0 [(x + c - 1000000000)])).length = (out ++ [(x + c - 1000000000)]).length := by simp
            have hkc : ((k : Int) + 1) = ((k + 1 : Nat) : Int) := by omega
            (conv => whnf)
            (try simp only [hl3, hkc, Nat.zero_add])
            repeat ((first | refine V.s1 ?_); (try simp only [hl3, hkc, Nat.zero_add]))
            try refine And.intro (fun _ => ⟨trivial, by omega⟩) ?_
            (conv => whnf)
            (try simp only [hl3, hkc, Nat.zero_add])
            repeat ((first | refine V.s1 ?_); (try simp only [hl3, hkc, Nat.zero_add]))
            exact ⟨(true, k + 1, out ++ [(x + c - 1000000000)], 1), ⟨hl2, hdg, by dsimp only; omega, hst, by dsimp only; omega, fun h => by cases h⟩, by dsimp only; omega, V.wk⟩
          · rw [decide_eq_false_iff_not] at hz
            have hst := add_step (B := 1000000000) (x := x) (y := y) (d := (x + c)) (c' := 0) h1 h4 (by omega)
            rw [← vx, ← vy] at hst
            have hdg : Dg 1000000000 (out ++ [(x + c)]) := dg_append h2 (dg_one (by omega))
            have hl2 : (out ++ [(x + c)]).length = k + 1 := by simp [h1]
            have hl3 : (out).length + (List.take 1 (List.drop 0 [(x + c)])).length = (out ++ [(x + c)]).length := by simp
            have hkc : ((k : Int) + 1) = ((k + 1 : Nat) : Int) := by omega
            (conv => whnf)
            (try simp only [hl3, hkc, Nat.zero_add])
            repeat ((first | refine V.s1 ?_); (try simp only [hl3, hkc, Nat.zero_add]))
            try refine And.intro (fun _ => ⟨trivial, by omega⟩) ?_
            (conv => whnf)
            (try simp only [hl3, hkc, Nat.zero_add])
            repeat ((first | refine V.s1 ?_); (try simp only [hl3, hkc, Nat.zero_add]))
            exact ⟨(true, k + 1, out ++ [(x + c)], 0), ⟨hl2, hdg, by dsimp only; omega, hst, by dsimp only; omega, fun h => by cases h⟩, by dsimp only; omega, V.wk⟩
      · rw [decide_eq_false_iff_not] at hq
        have hk : k = (ys).length := by omega
        rw [List.take_of_length_le (by omega), List.take_of_length_le (by omega), hvy, hvx] at h4
        (conv => whnf)
        refine V.st ?_
        refine Cnd.split (CondB.mk (fun hc => ?_) (fun hc => ?_))
        · rw [decide_eq_true_eq] at hc
          have hc1 : c = 1 := by omega
          subst hc1
          have h8 : out ++ [1] = mg 1000000000 (b + a) := by
            have h9 : val 1000000000 (out ++ [1]) = ((b + a : Nat) : Int) := by rw [val_snoc, h1]; omega
            have h10 := mg_of_ge (B := 1000000000) (l := out ++ [1]) (by omega) (dg_append h2 (dg_one (by omega))) (by
              rw [val_snoc, List.length_append, List.length_singleton, Nat.add_sub_cancel]
              have := val_nonneg h2
              omega)
            rw [h10, h9]; rfl
          (conv => whnf)
          refine V.st ?_
          exact Fin.of (by rw [← h8]; exact congrArg _ (List.take_of_length_le (by simp)))
        · rw [decide_eq_false_iff_not] at hc
          have hc1 : c = 0 := by omega
          subst hc1
          have h8 : out = mg 1000000000 (b + a) := by
            have h9 : val 1000000000 out = ((b + a : Nat) : Int) := by omega
            rcases Nat.eq_zero_or_pos b with h0 | h0
            · have h10 : (ys).length = 0 := by rw [hey.mpr h0]; rfl
              have e3 := hex.mp (List.length_eq_zero_iff.mp (by omega))
              rw [h0, e3, List.length_eq_zero_iff.mp (by omega : out.length = 0)]; rfl
            · have h10 := mg_of_ge (B := 1000000000) (l := out) (by omega) h2 (by
                have h11 := hpy h0
                rw [h1, h9, hk]
                have h12 : ((1000000000 ^ ((ys).length - 1) : Nat) : Int) ≤ (b : Int) := by exact_mod_cast h11
                rw [Int.natCast_pow] at h12
                omega)
              rw [h10, h9]; rfl
          (conv => whnf)
          refine V.st ?_
          exact Fin.of (by rw [← h8, List.take_of_length_le (by simp)])
  · rw [decide_eq_false_iff_not] at hl
    obtain ⟨N, hN⟩ : ∃ N, N = xs.length + 1 := ⟨_, rfl⟩
    have e1 : (xs.length : Int) + 1 = (N : Int) := by omega
    (conv => whnf)
    (try simp only [e1, Int.toNat_natCast])
    repeat ((first | refine V.s1 ?_); (try simp only [e1, Int.toNat_natCast]))
    refine lp_any ((false, 0, [], 0) : Bool × Nat × List Int × Int) (fun s => s.2.2.1.length = s.2.1 ∧ Dg 1000000000 s.2.2.1 ∧ (0 ≤ s.2.2.2 ∧ s.2.2.2 ≤ 1) ∧ val 1000000000 s.2.2.1 + s.2.2.2 * ((1000000000 : Nat) : Int) ^ s.2.1 = val 1000000000 ((xs).take s.2.1) + val 1000000000 ((ys).take s.2.1) ∧ s.2.1 ≤ (xs).length ∧ (s.1 = false → s.2.2.1 = [])) (fun s => (xs).length - s.2.1)
      (fun s => match s.1 with | false => [(22, .int .i64 s.2.1), (6, .int .u32 s.2.2.2), (5, .osl 19 0 0)] | true => [(22, .int .i64 s.2.1), (6, .int .u32 s.2.2.2), (5, .osl 47 0 s.2.2.1.length)]) (fun s => match s.1 with | false => [(19, .arr .u32 [])] | true => [(47, .arr .u32 s.2.2.1), (19, .gone)]) ?_ ?_ ?_
    · exact V.wk
    · exact ⟨rfl, fun x hx => by simp at hx, by simp, by simp [val], Nat.zero_le _, fun _ => rfl⟩
    rintro ⟨_ | _, k, out, c⟩ ⟨h1, h2, h3, h4, h5, h6⟩
    · dsimp only at h1 h2 h3 h4 h5 h6 ⊢
      have h7 := h6 rfl
      clear h6
      subst h7
      have vx := val_take_getD 1000000000 xs k
      have vy := val_take_getD 1000000000 ys k
      have bx := dg_getD (by omega) hdx k
      have by' := dg_getD (by omega) hdy k
      have gy := getD_ge (xs := ys) (k := k)
      generalize hx0 : (xs).getD k 0 = x at *
      generalize hy0 : (ys).getD k 0 = y at *
      (conv => whnf)
      (try simp only [Int.toNat_natCast])
      repeat ((first | refine V.s1 ?_); (try simp only [Int.toNat_natCast]))
      refine Cnd.split (CondB.mk (fun hq => ?_) (fun hq => ?_))
      · rw [decide_eq_true_eq] at hq
        (conv => whnf)
        (try simp only [Int.toNat_natCast, hx0])
        repeat ((first | refine V.s1 ?_); (try simp only [Int.toNat_natCast, hx0]))
        refine Cnd.split (CondB.mk (fun hy => ?_) (fun hy => ?_))
        · rw [decide_eq_true_eq] at hy
          (conv => whnf)
          (try simp only [Int.toNat_natCast, hy0])
          repeat ((first | refine V.s1 ?_); (try simp only [Int.toNat_natCast, hy0]))
          refine Cnd.split (CondB.mk (fun hz => ?_) (fun hz => ?_))
          · rw [decide_eq_true_eq] at hz
            have hst := add_step (B := 1000000000) (x := x) (y := y) (d := (x + c + y - 1000000000)) (c' := 1) h1 h4 (by omega)
            rw [← vx, ← vy] at hst
            have hdg : Dg 1000000000 (([] : List Int) ++ [(x + c + y - 1000000000)]) := dg_append h2 (dg_one (by omega))
            have hl2 : (([] : List Int) ++ [(x + c + y - 1000000000)]).length = k + 1 := by simp [h1]
            have hl3 : (([] : List Int)).length + (List.take 1 (List.drop 0 [(x + c + y - 1000000000)])).length = (([] : List Int) ++ [(x + c + y - 1000000000)]).length := by simp
            have hkc : ((k : Int) + 1) = ((k + 1 : Nat) : Int) := by omega
            (conv => whnf)
            (try simp only [hl3, hkc, Nat.zero_add])
            repeat ((first | refine V.s1 ?_); (try simp only [hl3, hkc, Nat.zero_add]))
            try refine And.intro (fun _ => ⟨trivial, by omega⟩) ?_
            (conv => whnf)
            (try simp only [hl3, hkc, Nat.zero_add])
            repeat ((first | refine V.s1 ?_); (try simp only [hl3, hkc, Nat.zero_add]))
            exact ⟨(true, k + 1, ([] : List Int) ++ [(x + c + y - 1000000000)], 1), ⟨hl2, hdg, by dsimp only; omega, hst, by dsimp only; omega, fun h => by cases h⟩, by dsimp only; omega, V.wk⟩
          · rw [decide_eq_false_iff_not] at hz
            have hst := add_step (B := 1000000000) (x := x) (y := y) (d := (x + c + y)) (c' := 0) h1 h4 (by omega)
            rw [← vx, ← vy] at hst
            have hdg : Dg 1000000000 (([] : List Int) ++ [(x + c + y)]) := dg_append h2 (dg_one (by omega))
            have hl2 : (([] : List Int) ++ [(x + c + y)]).length = k + 1 := by simp [h1]
            have hl3 : (([] : List Int)).length + (List.take 1 (List.drop 0 [(x + c + y)])).length = (([] : List Int) ++ [(x + c + y)]).length := by simp
            have hkc : ((k : Int) + 1) = ((k + 1 : Nat) : Int) := by omega
            (conv => whnf)
            (try simp only [hl3, hkc, Nat.zero_add])
            repeat ((first | refine V.s1 ?_); (try simp only [hl3, hkc, Nat.zero_add]))
            try refine And.intro (fun _ => ⟨trivial, by omega⟩) ?_
            (conv => whnf)
            (try simp only [hl3, hkc, Nat.zero_add])
            repeat ((first | refine V.s1 ?_); (try simp only [hl3, hkc, Nat.zero_add]))
            exact ⟨(true, k + 1, ([] : List Int) ++ [(x + c + y)], 0), ⟨hl2, hdg, by dsimp only; omega, hst, by dsimp only; omega, fun h => by cases h⟩, by dsimp only; omega, V.wk⟩
        · rw [decide_eq_false_iff_not] at hy
          have := gy (by omega)
          (conv => whnf)
          (try simp only [Int.toNat_natCast])
          repeat ((first | refine V.s1 ?_); (try simp only [Int.toNat_natCast]))
          refine Cnd.split (CondB.mk (fun hz => ?_) (fun hz => ?_))
          · rw [decide_eq_true_eq] at hz
            have hst := add_step (B := 1000000000) (x := x) (y := y) (d := (x + c - 1000000000)) (c' := 1) h1 h4 (by omega)
            rw [← vx, ← vy] at hst
            have hdg : Dg 1000000000 (([] : List Int) ++ [(x + c - 1000000000)]) := dg_append h2 (dg_one (by omega))
            have hl2 : (([] : List Int) ++ [(x + c - 1000000000)]).length = k + 1 := by simp [h1]
            have hl3 : (([] : List Int)).length + (List.take 1 (List.drop 0 [(x + c - 1000000000)])).length = (([] : List Int) ++ [(x + c - 1000000000)]).length := by simp
            have hkc : ((k : Int) + 1) = ((k + 1 : Nat) : Int) := by omega
            (conv => whnf)
            (try simp only [hl3, hkc, Nat.zero_add])
            repeat ((first | refine V.s1 ?_); (try simp only [hl3, hkc, Nat.zero_add]))
            try refine And.intro (fun _ => ⟨trivial, by omega⟩) ?_
            (conv => whnf)
            (try simp only [hl3, hkc, Nat.zero_add])
            repeat ((first | refine V.s1 ?_); (try simp only [hl3, hkc, Nat.zero_add]))
            exact ⟨(true, k + 1, ([] : List Int) ++ [(x + c - 1000000000)], 1), ⟨hl2, hdg, by dsimp only; omega, hst, by dsimp only; omega, fun h => by cases h⟩, by dsimp only; omega, V.wk⟩
          · rw [decide_eq_false_iff_not] at hz
            have hst := add_step (B := 1000000000) (x := x) (y := y) (d := (x + c)) (c' := 0) h1 h4 (by omega)
            rw [← vx, ← vy] at hst
            have hdg : Dg 1000000000 (([] : List Int) ++ [(x + c)]) := dg_append h2 (dg_one (by omega))
            have hl2 : (([] : List Int) ++ [(x + c)]).length = k + 1 := by simp [h1]
            have hl3 : (([] : List Int)).length + (List.take 1 (List.drop 0 [(x + c)])).length = (([] : List Int) ++ [(x + c)]).length := by simp
            have hkc : ((k : Int) + 1) = ((k + 1 : Nat) : Int) := by omega
            (conv => whnf)
            (try simp only [hl3, hkc, Nat.zero_add])
            repeat ((first | refine V.s1 ?_); (try simp only [hl3, hkc, Nat.zero_add]))
            try refine And.intro (fun _ => ⟨trivial, by omega⟩) ?_
            (conv => whnf)
            (try simp only [hl3, hkc, Nat.zero_add])
            repeat ((first | refine V.s1 ?_); (try simp only [hl3, hkc, Nat.zero_add]))
            exact ⟨(true, k + 1, ([] : List Int) ++ [(x + c)], 0), ⟨hl2, hdg, by dsimp only; omega, hst, by dsimp only; omega, fun h => by cases h⟩, by dsimp only; omega, V.wk⟩
      · rw [decide_eq_false_iff_not] at hq
        have h7 : k = 0 := by simpa using h1.symm
        have h8 : (xs).length = 0 := by omega
        have e2 := hex.mp (List.length_eq_zero_iff.mp h8)
        have e3 := hey.mp (List.length_eq_zero_iff.mp (by omega))
        have e4 : c = 0 := by
          rw [List.take_of_length_le (by omega), List.take_of_length_le (by omega), hvx, hvy, e2, e3, h7] at h4
          simpa [val] using h4
        subst e4 h7
        rw [e2, e3]
        (conv => whnf)
        refine V.st ?_
        exact Fin.of rfl
    · clear h6
      dsimp only at h1 h2 h3 h4 h5 ⊢
      have vx := val_take_getD 1000000000 xs k
      have vy := val_take_getD 1000000000 ys k
      have bx := dg_getD (by omega) hdx k
      have by' := dg_getD (by omega) hdy k
      have gy := getD_ge (xs := ys) (k := k)
      generalize hx0 : (xs).getD k 0 = x at *
      generalize hy0 : (ys).getD k 0 = y at *
      (conv => whnf)
      (try simp only [Int.toNat_natCast])
      repeat ((first | refine V.s1 ?_); (try simp only [Int.toNat_natCast]))
      refine Cnd.split (CondB.mk (fun hq => ?_) (fun hq => ?_))
      · rw [decide_eq_true_eq] at hq
        (conv => whnf)
        (try simp only [Int.toNat_natCast, hx0])
        repeat ((first | refine V.s1 ?_); (try simp only [Int.toNat_natCast, hx0]))
        refine Cnd.split (CondB.mk (fun hy => ?_) (fun hy => ?_))
        · rw [decide_eq_true_eq] at hy
          (conv => whnf)
          (try simp only [Int.toNat_natCast, hy0])
          repeat ((first | refine V.s1 ?_); (try simp only [Int.toNat_natCast, hy0]))
          refine Cnd.split (CondB.mk (fun hz => ?_) (fun hz => ?_))
          · rw [decide_eq_true_eq] at hz
            have hst := add_step (B := 1000000000) (x := x) (y := y) (d := (x + c + y - 1000000000)) (c' := 1) h1 h4 (by omega)
            rw [← vx, ← vy] at hst
            have hdg : Dg 1000000000 (out ++ [(x + c + y - 1000000000)]) := dg_append h2 (dg_one (by omega))
            have hl2 : (out ++ [(x + c + y - 1000000000)]).length = k + 1 := by simp [h1]
            have hl3 : (out).length + (List.take 1 (List.drop 0 [(x + c + y - 1000000000)])).length = (out ++ [(x + c + y - 1000000000)]).length := by simp
            have hkc : ((k : Int) + 1) = ((k + 1 : Nat) : Int) := by omega
            (conv => whnf)
            (try simp only [hl3, hkc, Nat.zero_add])
            repeat ((first | refine V.s1 ?_); (try simp only [hl3, hkc, Nat.zero_add]))
            try refine And.intro (fun _ => ⟨trivial, by omega⟩) ?_
            (conv => whnf)
            (try simp only [hl3, hkc, Nat.zero_add])
            repeat ((first | refine V.s1 ?_); (try simp only [hl3, hkc, Nat.zero_add]))
            exact ⟨(true, k + 1, out ++ [(x + c + y - 1000000000)], 1), ⟨hl2, hdg, by dsimp only; omega, hst, by dsimp only; omega, fun h => by cases h⟩, by dsimp only; omega, V.wk⟩
          · rw [decide_eq_false_iff_not] at hz
            have hst := add_step (B := 1000000000) (x := x) (y := y) (d := (x + c + y)) (c' := 0) h1 h4 (by omega)
            rw [← vx, ← vy] at hst
            have hdg : Dg 1000000000 (out ++ [(x + c + y)]) := dg_append h2 (dg_one (by omega))
            have hl2 : (out ++ [(x + c + y)]).length = k + 1 := by simp [h1]
            have hl3 : (out).length + (List.take 1 (List.drop 0 [(x + c + y)])).length = (out ++ [(x + c + y)]).length := by simp
            have hkc : ((k : Int) + 1) = ((k + 1 : Nat) : Int) := by omega
            (conv => whnf)
            (try simp only [hl3, hkc, Nat.zero_add])
            repeat ((first | refine V.s1 ?_); (try simp only [hl3, hkc, Nat.zero_add]))
            try refine And.intro (fun _ => ⟨trivial, by omega⟩) ?_
            (conv => whnf)
            (try simp only [hl3, hkc, Nat.zero_add])
            repeat ((first | refine V.s1 ?_); (try simp only [hl3, hkc, Nat.zero_add]))
            exact ⟨(true, k + 1, out ++ [(x + c + y)], 0), ⟨hl2, hdg, by dsimp only; omega, hst, by dsimp only; omega, fun h => by cases h⟩, by dsimp only; omega, V.wk⟩
        · rw [decide_eq_false_iff_not] at hy
          have := gy (by omega)
          (conv => whnf)
          (try simp only [Int.toNat_natCast])
          repeat ((first | refine V.s1 ?_); (try simp only [Int.toNat_natCast]))
          refine Cnd.split (CondB.mk (fun hz => ?_) (fun hz => ?_))
          · rw [decide_eq_true_eq] at hz
            have hst := add_step (B := 1000000000) (x := x) (y := y) (d := (x + c - 1000000000)) (c' := 1) h1 h4 (by omega)
            rw [← vx, ← vy] at hst
            have hdg : Dg 1000000000 (out ++ [(x + c - 1000000000)]) := dg_append h2 (dg_one (by omega))
            have hl2 : (out ++ [(x + c - 1000000000)]).length = k + 1 := by simp [h1]
            have hl3 : (out).length + (List.take 1 (List.drop 0 [(x + c - 1000000000)])).length = (out ++ [(x + c - 1000000000)]).length := by simp
            have hkc : ((k : Int) + 1) = ((k + 1 : Nat) : Int) := by omega
            (conv => whnf)
            (try simp only [hl3, hkc, Nat.zero_add])
            repeat ((first | refine V.s1 ?_); (try simp only [hl3, hkc, Nat.zero_add]))
            try refine And.intro (fun _ => ⟨trivial, by omega⟩) ?_
            (conv => whnf)
            (try simp only [hl3, hkc, Nat.zero_add])
            repeat ((first | refine V.s1 ?_); (try simp only [hl3, hkc, Nat.zero_add]))
            exact ⟨(true, k + 1, out ++ [(x + c - 1000000000)], 1), ⟨hl2, hdg, by dsimp only; omega, hst, by dsimp only; omega, fun h => by cases h⟩, by dsimp only; omega, V.wk⟩
          · rw [decide_eq_false_iff_not] at hz
            have hst := add_step (B := 1000000000) (x := x) (y := y) (d := (x + c)) (c' := 0) h1 h4 (by omega)
            rw [← vx, ← vy] at hst
            have hdg : Dg 1000000000 (out ++ [(x + c)]) := dg_append h2 (dg_one (by omega))
            have hl2 : (out ++ [(x + c)]).length = k + 1 := by simp [h1]
            have hl3 : (out).length + (List.take 1 (List.drop 0 [(x + c)])).length = (out ++ [(x + c)]).length := by simp
            have hkc : ((k : Int) + 1) = ((k + 1 : Nat) : Int) := by omega
            (conv => whnf)
            (try simp only [hl3, hkc, Nat.zero_add])
            repeat ((first | refine V.s1 ?_); (try simp only [hl3, hkc, Nat.zero_add]))
            try refine And.intro (fun _ => ⟨trivial, by omega⟩) ?_
            (conv => whnf)
            (try simp only [hl3, hkc, Nat.zero_add])
            repeat ((first | refine V.s1 ?_); (try simp only [hl3, hkc, Nat.zero_add]))
            exact ⟨(true, k + 1, out ++ [(x + c)], 0), ⟨hl2, hdg, by dsimp only; omega, hst, by dsimp only; omega, fun h => by cases h⟩, by dsimp only; omega, V.wk⟩
      · rw [decide_eq_false_iff_not] at hq
        have hk : k = (xs).length := by omega
        rw [List.take_of_length_le (by omega), List.take_of_length_le (by omega), hvx, hvy] at h4
        (conv => whnf)
        refine V.st ?_
        refine Cnd.split (CondB.mk (fun hc => ?_) (fun hc => ?_))
        · rw [decide_eq_true_eq] at hc
          have hc1 : c = 1 := by omega
          subst hc1
          have h8 : out ++ [1] = mg 1000000000 (a + b) := by
            have h9 : val 1000000000 (out ++ [1]) = ((a + b : Nat) : Int) := by rw [val_snoc, h1]; omega
            have h10 := mg_of_ge (B := 1000000000) (l := out ++ [1]) (by omega) (dg_append h2 (dg_one (by omega))) (by
              rw [val_snoc, List.length_append, List.length_singleton, Nat.add_sub_cancel]
              have := val_nonneg h2
              omega)
            rw [h10, h9]; rfl
          (conv => whnf)
          refine V.st ?_
          exact Fin.of (by rw [← h8]; exact congrArg _ (List.take_of_length_le (by simp)))
        · rw [decide_eq_false_iff_not] at hc
          have hc1 : c = 0 := by omega
          subst hc1
          have h8 : out = mg 1000000000 (a + b) := by
            have h9 : val 1000000000 out = ((a + b : Nat) : Int) := by omega
            rcases Nat.eq_zero_or_pos a with h0 | h0
            · have h10 : (xs).length = 0 := by rw [hex.mpr h0]; rfl
              have e3 := hey.mp (List.length_eq_zero_iff.mp (by omega))
              rw [h0, e3, List.length_eq_zero_iff.mp (by omega : out.length = 0)]; rfl
            · have h10 := mg_of_ge (B := 1000000000) (l := out) (by omega) h2 (by
                have h11 := hpx h0
                rw [h1, h9, hk]
                have h12 : ((1000000000 ^ ((xs).length - 1) : Nat) : Int) ≤ (a : Int) := by exact_mod_cast h11
                rw [Int.natCast_pow] at h12
                omega)
              rw [h10, h9]; rfl
          (conv => whnf)
          refine V.st ?_
          exact Fin.of (by rw [← h8, List.take_of_length_le (by simp)])
theorem pad_set {out : List Int} {n k : Nat} {d : Int} (h : out.length = k) (hk : k < n) : (out ++ List.replicate (n - k) 0).set k d = (out ++ [d]) ++ List.replicate (n - (k + 1)) 0 := by
  subst h
  have e : n - out.length = (n - (out.length + 1)) + 1 := by omega
  rw [e, List.replicate_succ, List.set_append_right _ _ (Nat.le_refl _), Nat.sub_self, List.set_cons_zero]
  simp
theorem zM1_0 : type_of% @Int.toNat_natCast ∧ type_of% @Nat.zero_add := ⟨@Int.toNat_natCast, @Nat.zero_add⟩
theorem minus_m (a b : Nat) (hba : b ≤ a) (ha : (mg 1000000000 a).length ≤ 100000000) : Called Tryz.prog 134 [.ints .u32 (mg 1000000000 a), .ints .u32 (mg 1000000000 b)] (.ints .u32 (mg 1000000000 (a - b))) := by
  have hdx := mg_dg (B := 1000000000) (by omega) a
  have hdy := mg_dg (B := 1000000000) (by omega) b
  have hvx := mg_val (B := 1000000000) (by omega) a
  have hvy := mg_val (B := 1000000000) (by omega) b
  have hlen := mg_len_mono (B := 1000000000) (by omega) hba
  generalize mg 1000000000 a = xs at *
  generalize mg 1000000000 b = ys at *
  refine called_of_run tbOk 6 ⟨Tryz.func134, rfl, rfl, Nat.le_of_ble_eq_true rfl⟩ ?_
  (conv => whnf)
  (conv => whnf)
  (try simp only [Int.toNat_natCast])
  repeat ((first | refine V.s1 ?_); (try simp only [Int.toNat_natCast]))
  refine lp_any ((0, [], 0) : Nat × List Int × Int) (fun s => s.2.1.length = s.1 ∧ Dg 1000000000 s.2.1 ∧ (0 ≤ s.2.2 ∧ s.2.2 ≤ 1) ∧ val 1000000000 s.2.1 - s.2.2 * ((1000000000 : Nat) : Int) ^ s.1 = val 1000000000 (xs.take s.1) - val 1000000000 (ys.take s.1) ∧ s.1 ≤ xs.length) (fun s => xs.length - s.1)
    (fun s => [(15, .int .i64 s.1), (6, .int .u32 s.2.2), (5, .osl 12 0 xs.length)]) (fun s => [(12, .arr .u32 (s.2.1 ++ List.replicate (xs.length - s.1) 0))]) ?_ ?_ ?_
  · exact V.wk
  · exact ⟨rfl, fun x hx => by simp at hx, by simp, by simp [val], Nat.zero_le _⟩
  rintro ⟨k, out, c⟩ ⟨h1, h2, h3, h4, h5⟩
  dsimp only at h1 h2 h3 h4 h5 ⊢
  have vx := val_take_getD 1000000000 xs k
  have vy := val_take_getD 1000000000 ys k
  have bx := dg_getD (by omega) hdx k
  have by' := dg_getD (by omega) hdy k
  have gy := getD_ge (xs := ys) (k := k)
  generalize hx0 : xs.getD k 0 = x at *
  generalize hy0 : ys.getD k 0 = y at *
  (conv => whnf)
  (try simp only [Int.toNat_natCast])
  repeat ((first | refine V.s1 ?_); (try simp only [Int.toNat_natCast]))
  refine Cnd.split (CondB.mk (fun hq => ?_) (fun hq => ?_))
  · rw [decide_eq_true_eq] at hq
    (conv => whnf)
    (try simp only [Int.toNat_natCast, hx0])
    repeat ((first | refine V.s1 ?_); (try simp only [Int.toNat_natCast, hx0]))
    refine Cnd.split (CondB.mk (fun hy => ?_) (fun hy => ?_))
    · rw [decide_eq_true_eq] at hy
      (conv => whnf)
      (try simp only [Int.toNat_natCast, hy0])
      repeat ((first | refine V.s1 ?_); (try simp only [Int.toNat_natCast, hy0]))
      refine Cnd.split (CondB.mk (fun hz => ?_) (fun hz => ?_))
      · rw [decide_eq_true_eq] at hz
        have hst := sub_step (B := 1000000000) (x := x) (y := y) (d := (x + 1000000000 - (c + y))) (b' := 1) h1 h4 (by omega)
        rw [← vx, ← vy] at hst
        have hdg : Dg 1000000000 (out ++ [(x + 1000000000 - (c + y))]) := dg_append h2 (dg_one (by omega))
        have hps := pad_set (d := (x + 1000000000 - (c + y))) (n := xs.length) h1 (by omega)
        have hkc : ((k : Int) + 1) = ((k + 1 : Nat) : Int) := by omega
        (conv => whnf)
        (try simp only [zM1_0, hps, hkc])
        repeat ((first | refine V.s1 ?_); (try simp only [zM1_0, hps, hkc]))
        (conv => whnf)
        (try simp only [zM1_0, hps, hkc])
        repeat ((first | refine V.s1 ?_); (try simp only [zM1_0, hps, hkc]))
        exact ⟨(k + 1, out ++ [(x + 1000000000 - (c + y))], 1), ⟨by dsimp only; simp [h1], hdg, by dsimp only; omega, hst, by dsimp only; omega⟩, by dsimp only; omega, V.wk⟩
      · rw [decide_eq_false_iff_not] at hz
        have hst := sub_step (B := 1000000000) (x := x) (y := y) (d := (x - (c + y))) (b' := 0) h1 h4 (by omega)
        rw [← vx, ← vy] at hst
        have hdg : Dg 1000000000 (out ++ [(x - (c + y))]) := dg_append h2 (dg_one (by omega))
        have hps := pad_set (d := (x - (c + y))) (n := xs.length) h1 (by omega)
        have hkc : ((k : Int) + 1) = ((k + 1 : Nat) : Int) := by omega
        (conv => whnf)
        (try simp only [zM1_0, hps, hkc])
        repeat ((first | refine V.s1 ?_); (try simp only [zM1_0, hps, hkc]))
        (conv => whnf)
        (try simp only [zM1_0, hps, hkc])
        repeat ((first | refine V.s1 ?_); (try simp only [zM1_0, hps, hkc]))
        exact ⟨(k + 1, out ++ [(x - (c + y))], 0), ⟨by dsimp only; simp [h1], hdg, by dsimp only; omega, hst, by dsimp only; omega⟩, by dsimp only; omega, V.wk⟩
    · rw [decide_eq_false_iff_not] at hy
      have := gy (by omega)
      (conv => whnf)
      (try simp only [Int.toNat_natCast])
      repeat ((first | refine V.s1 ?_); (try simp only [Int.toNat_natCast]))
      refine Cnd.split (CondB.mk (fun hz => ?_) (fun hz => ?_))
      · rw [decide_eq_true_eq] at hz
        have hst := sub_step (B := 1000000000) (x := x) (y := y) (d := (x + 1000000000 - c)) (b' := 1) h1 h4 (by omega)
        rw [← vx, ← vy] at hst
        have hdg : Dg 1000000000 (out ++ [(x + 1000000000 - c)]) := dg_append h2 (dg_one (by omega))
        have hps := pad_set (d := (x + 1000000000 - c)) (n := xs.length) h1 (by omega)
        have hkc : ((k : Int) + 1) = ((k + 1 : Nat) : Int) := by omega
        (conv => whnf)
        (try simp only [zM1_0, hps, hkc])
        repeat ((first | refine V.s1 ?_); (try simp only [zM1_0, hps, hkc]))
        (conv => whnf)
        (try simp only [zM1_0, hps, hkc])
        repeat ((first | refine V.s1 ?_); (try simp only [zM1_0, hps, hkc]))
        exact ⟨(k + 1, out ++ [(x + 1000000000 - c)], 1), ⟨by dsimp only; simp [h1], hdg, by dsimp only; omega, hst, by dsimp only; omega⟩, by dsimp only; omega, V.wk⟩
      · rw [decide_eq_false_iff_not] at hz
        have hst := sub_step (B := 1000000000) (x := x) (y := y) (d := (x - c)) (b' := 0) h1 h4 (by omega)
        rw [← vx, ← vy] at hst
        have hdg : Dg 1000000000 (out ++ [(x - c)]) := dg_append h2 (dg_one (by omega))
        have hps := pad_set (d := (x - c)) (n := xs.length) h1 (by omega)
        have hkc : ((k : Int) + 1) = ((k + 1 : Nat) : Int) := by omega
        (conv => whnf)
        (try simp only [zM1_0, hps, hkc])
        repeat ((first | refine V.s1 ?_); (try simp only [zM1_0, hps, hkc]))
        (conv => whnf)
        (try simp only [zM1_0, hps, hkc])
        repeat ((first | refine V.s1 ?_); (try simp only [zM1_0, hps, hkc]))
        exact ⟨(k + 1, out ++ [(x - c)], 0), ⟨by dsimp only; simp [h1], hdg, by dsimp only; omega, hst, by dsimp only; omega⟩, by dsimp only; omega, V.wk⟩
  · rw [decide_eq_false_iff_not] at hq
    have hk : k = xs.length := by omega
    rw [List.take_of_length_le (by omega), List.take_of_length_le (by omega), hvx, hvy] at h4
    have h0 := val_nonneg h2
    have h6 := val_lt h2
    have hc : c = 0 := by
      rw [h1] at h6
      rcases (by omega : c = 0 ∨ c = 1) with e | e
      · exact e
      · subst e; omega
    subst hc
    have htr := trim_c out h2 (by omega)
    rw [(by omega : (val 1000000000 out).toNat = a - b)] at htr
    have hrep : out ++ List.replicate (xs.length - k) 0 = out := by rw [hk, Nat.sub_self]; simp
    rw [hrep]
    rw [← List.take_length (l := out), h1, hk] at htr
    (conv => whnf)
    refine V.st ?_
    repeat ((try ((with_reducible refine .ext ?_); (conv => whnf))); (with_reducible refine call_intro (r := ?_) ?_ ?_); rotate_left; (focus (first | exact (htr))); (conv => whnf); refine V.st ?_)
    exact Fin.of rfl
end Go.Proofs.YtfilfmadapjajaaGreatDoor
end
section
namespace Go.Proofs.YtfilfmadapjajaaGreatDoor
open Go Go.V Go.Nb
theorem divInt_parts (n : Int) (d : Nat) (hd : 0 < d) : (Rat.divInt n d).num.natAbs = n.natAbs / Nat.gcd n.natAbs d ∧ decide ((Rat.divInt n d).num < 0) = decide (n < 0) ∧ (Rat.divInt n d).den = d / Nat.gcd n.natAbs d := by
  have hg : Int.gcd (d : Int) n = Nat.gcd n.natAbs d := by
    rw [Int.gcd_comm]; rfl
  have hgp : 0 < Nat.gcd n.natAbs d := Nat.gcd_pos_of_pos_right _ hd
  have hdv : ((Nat.gcd n.natAbs d : Nat) : Int) ∣ n := Int.ofNat_dvd_left.2 (Nat.gcd_dvd_left _ _)
  rw [Rat.num_divInt, Rat.den_divInt, if_neg (by omega), Int.sign_eq_one_of_pos (by omega), Int.one_mul, hg, Int.natAbs_natCast]
  generalize Nat.gcd n.natAbs d = g at *
  obtain ⟨k, rfl⟩ := hdv
  have e : (g : Int) * k / g = k := Int.mul_ediv_cancel_left _ (by omega)
  rw [e, Int.natAbs_mul, Int.natAbs_natCast, Nat.mul_div_cancel_left _ hgp]
  refine ⟨rfl, ?_, rfl⟩
  apply decide_eq_decide.2
  constructor
  · intro h; exact Int.mul_neg_of_pos_of_neg (by omega) h
  · intro h
    rcases Int.lt_or_le k 0 with h2 | h2
    · exact h2
    · have := Int.mul_nonneg (a := (g : Int)) (by omega) h2; omega
theorem reduced_c (n : Int) (d : Nat) (hd0 : 0 < d) (hn : (mg 1000000000 n.natAbs).length ≤ 90000000) (hd : (mg 1000000000 d).length ≤ 90000000) : Called Tryz.prog 127 [itD n, .ints .u32 (mg 1000000000 d)] (rtD (Rat.divInt n d)) := by
  obtain ⟨p1, p2, p3⟩ := divInt_parts n d hd0
  have hg := gcd_c n.natAbs d hn hd
  have hgp : 0 < Nat.gcd n.natAbs d := Nat.gcd_pos_of_pos_right _ hd0
  have hgl := mg_len_mono (B := 1000000000) (by omega) (Nat.le_of_dvd hd0 (Nat.gcd_dvd_right n.natAbs d))
  have h1 := divide_c n.natAbs (Nat.gcd n.natAbs d) hgp hn (by omega)
  have h2 := divide_c d (Nat.gcd n.natAbs d) hgp hd (by omega)
  have h3 := signed_c (n.natAbs / Nat.gcd n.natAbs d) (decide (n < 0))
  have e : itD (if decide (n < 0) = true then -((n.natAbs / Nat.gcd n.natAbs d : Nat) : Int) else ((n.natAbs / Nat.gcd n.natAbs d : Nat) : Int)) = itD (Rat.divInt n d).num := by
    congr 1
    rw [← p1, ← p2]
    by_cases h : (Rat.divInt n d).num < 0
    · rw [decide_eq_true h, if_pos rfl]; omega
    · rw [decide_eq_false h, if_neg (by simp)]; omega
  rw [e] at h3
  refine called_of_run tbOk 6 ⟨Tryz.func127, rfl, rfl, Nat.le_of_ble_eq_true rfl⟩ ?_
  (conv => whnf)
  refine V.st ?_
  repeat ((try ((with_reducible refine .ext ?_); (conv => whnf))); (with_reducible refine call_intro (r := ?_) ?_ ?_); rotate_left; (focus (first | exact (hg) | exact (h1) | exact (h2) | exact (h3))); (conv => whnf); refine V.st ?_)
  exact Fin.of (by unfold rtD; rw [p3])
theorem wof_c (n : Int) (h : InR .i64 n) : Called Tryz.prog 101 [.int .i64 n] (.str (decZ n)) := by
  have hi := itoa_c n
  refine called_of_run tbOk 6 ⟨Tryz.func101, rfl, rfl, Nat.le_of_ble_eq_true rfl⟩ ?_
  (conv => whnf)
  refine V.st ?_
  repeat ((try ((with_reducible refine .ext ?_); (conv => whnf))); (with_reducible refine call_intro (r := ?_) ?_ ?_); rotate_left; (focus (first | exact (hi))); (conv => whnf); refine V.st ?_)
  exact Fin.of rfl
theorem divInt_signs (n d : Int) (hd : d ≠ 0) : Rat.divInt (if (decide (n < 0) != decide (d < 0)) = true then -(n.natAbs : Int) else (n.natAbs : Int)) (d.natAbs : Nat) = Rat.divInt n d := by
  rw [Rat.divInt_eq_divInt_iff (by omega) hd]
  by_cases h1 : n < 0 <;> by_cases h2 : d < 0
  · simp only [h1, h2, decide_true, bne_self_eq_false, Bool.false_eq_true, if_false]
    rw [show (n.natAbs : Int) = -n by omega, show (d.natAbs : Int) = -d by omega, Int.neg_mul, Int.mul_neg]
  · have e : (decide (n < 0) != decide (d < 0)) = true := by simp [h1, h2]
    rw [if_pos e, show (n.natAbs : Int) = -n by omega, show (d.natAbs : Int) = d by omega, Int.neg_neg]
  · have e : (decide (n < 0) != decide (d < 0)) = true := by simp [h1, h2]
    rw [if_pos e, show (n.natAbs : Int) = n by omega, show (d.natAbs : Int) = -d by omega, Int.neg_mul, Int.mul_neg]
  · have e : ¬ (decide (n < 0) != decide (d < 0)) = true := by simp [h1, h2]
    rw [if_neg e, show (n.natAbs : Int) = n by omega, show (d.natAbs : Int) = d by omega]
theorem okW_len {s : List UInt8} (h : okW s = true) : s.length ≤ 601 ∧ (wval s).natAbs < 10 ^ 600 := by
  unfold okW okD at h
  simp only [Bool.and_eq_true, Bool.not_eq_true', Bool.or_eq_false_iff, decide_eq_false_iff_not, List.all_eq_true] at h
  obtain ⟨⟨h1, h2⟩, h3⟩ := h
  have h4 := rdv_lt h2
  have h5 : ∀ k, (Go.Lib.trimPrefix s [45]).length ≤ k → 10 ^ (Go.Lib.trimPrefix s [45]).length ≤ 10 ^ k := fun k hk => Nat.pow_le_pow_right (by omega) hk
  constructor
  · unfold Go.Lib.trimPrefix at h1
    split at h1
    · rw [List.length_drop] at h1; simp at h1; omega
    · omega
  · have : (wval s).natAbs = rdv (Go.Lib.trimPrefix s [45]) := by unfold wval; split <;> simp
    rw [this]
    exact Nat.lt_of_lt_of_le h4 (h5 600 (by omega))
theorem len9 {n : Nat} (h : n < 10 ^ 600) : (mg 1000000000 n).length ≤ 67 := mg_len_le (by omega) (Nat.lt_of_lt_of_le h (by
  have h1 : ∀ k, (1000000000 : Nat) ^ k = 10 ^ (9 * k) := fun k => by rw [Nat.pow_mul]
  have h2 : ∀ a b : Nat, a ≤ b → (10 : Nat) ^ a ≤ 10 ^ b := fun a b hab => Nat.pow_le_pow_right (by omega) hab
  obtain ⟨m, hm⟩ : ∃ m, m = 9 * 67 := ⟨_, rfl⟩
  rw [h1 67, ← hm]
  exact h2 600 m (by omega)))
theorem make_c (s t : List UInt8) (hs : okW s = true) (ht : okW t = true) (hz : wval t ≠ 0) : Called Tryz.prog 100 [.str s, .str t] (frR (Rat.divInt (wval s) (wval t))) := by
  obtain ⟨ls, vs⟩ := okW_len hs
  obtain ⟨lt, vt⟩ := okW_len ht
  have c1 := wcheck_c s (by omega)
  have c2 := wcheck_c t (by omega)
  rw [hs, if_pos rfl] at c1
  rw [ht, if_pos rfl] at c2
  have n1 := number_c s hs
  have n2 := number_c t ht
  generalize wval s = n at *
  generalize wval t = d at *
  have hz1 := zero_c d.natAbs
  have hs1 := signed_c n.natAbs (decide (n < 0) != decide (d < 0))
  have hnl := len9 vs
  have hdl := len9 vt
  have e1 : (if (decide (n < 0) != decide (d < 0)) = true then -(n.natAbs : Int) else (n.natAbs : Int)).natAbs = n.natAbs := by split <;> omega
  have hr := reduced_c (if (decide (n < 0) != decide (d < 0)) = true then -(n.natAbs : Int) else (n.natAbs : Int)) d.natAbs (by omega) (by rw [e1]; omega) (by omega)
  obtain ⟨p1, p2, p3⟩ := divInt_parts (if (decide (n < 0) != decide (d < 0)) = true then -(n.natAbs : Int) else (n.natAbs : Int)) d.natAbs (by omega)
  rw [divInt_signs n d hz] at hr p1 p2 p3
  rw [e1] at p1 p3
  have hw := write_c (Rat.divInt n d) (by
    rw [p1]
    have := mg_len_mono (B := 1000000000) (by omega) (Nat.div_le_self n.natAbs (n.natAbs.gcd d.natAbs))
    omega) (by
    rw [p3]
    have := mg_len_mono (B := 1000000000) (by omega) (Nat.div_le_self d.natAbs (n.natAbs.gcd d.natAbs))
    omega)
  refine called_of_run tbOk 6 ⟨Tryz.func100, rfl, rfl, Nat.le_of_ble_eq_true rfl⟩ ?_
  (conv => whnf)
  refine V.st ?_
  repeat ((try ((with_reducible refine .ext ?_); (conv => whnf))); (with_reducible refine call_intro (r := ?_) ?_ ?_); rotate_left; (focus (first | exact (c1) | exact (c2) | exact (n1) | exact (n2) | exact (hz1))); (conv => whnf); refine V.st ?_)
  refine Cnd.no (decide_eq_false (by omega)) ?_
  (conv => whnf)
  refine V.st ?_
  refine ⟨(.take 0 (.take 1 (.take 2 (.take 3 (.take 4 (.take 5 (.take 6 (.take 8 (.take 9 (.ev (.cons 7 [9, 8] (.ev (.cons 10 [] (.ev (.cons 11 [] (.take 12 (.take 13 (.ev (.cons 14 [] (.take 15 (.done)) (.nil))))) (.nil))) (.nil))) (.nil)))))))))))), [], ⟨by kernel_rfl, by kernel_rfl, by kernel_rfl, by kernel_rfl⟩, .go (drawD_one ?_)⟩
  (conv => whnf)
  refine V.st ?_
  repeat ((try ((with_reducible refine .ext ?_); (conv => whnf))); (with_reducible refine call_intro (r := ?_) ?_ ?_); rotate_left; (focus (first | exact (hs1) | exact (hr) | exact (hw))); (conv => whnf); refine V.st ?_)
  exact Fin.of rfl
theorem of_c (n d : Int) (hn : InR .i64 n) (hd : InR .i64 d) (hd0 : d ≠ 0) : Called Tryz.prog 72 [.int .i64 n, .int .i64 d] (frR (Rat.divInt n d)) := by
  have h1 := wof_c n hn
  have h2 := wof_c d hd
  simp only [V.InR, V.lo, V.hi] at hn hd
  have o1 := okW_decZ n (by have := dec_len n.natAbs 19 (by omega) (by omega); omega)
  have o2 := okW_decZ d (by have := dec_len d.natAbs 19 (by omega) (by omega); omega)
  have h3 := make_c (decZ n) (decZ d) o1 o2 (by rw [wval_decZ]; exact hd0)
  rw [wval_decZ, wval_decZ] at h3
  refine called_of_run tbOk 6 ⟨Tryz.func72, rfl, rfl, Nat.le_of_ble_eq_true rfl⟩ ?_
  (conv => whnf)
  refine V.st ?_
  repeat ((try ((with_reducible refine .ext ?_); (conv => whnf))); (with_reducible refine call_intro (r := ?_) ?_ ?_); rotate_left; (focus (first | exact (h1) | exact (h2) | exact (h3))); (conv => whnf); refine V.st ?_)
  exact Fin.of rfl
end Go.Proofs.YtfilfmadapjajaaGreatDoor
end
section
namespace Go.Proofs.YtfilfmadapjajaaGreatDoor
open Go Go.V Go.Nb
def S9 (k : Nat) (z : Int) : Prop := (mg 1000000000 z.natAbs).length ≤ k
theorem S9.mono {k l : Nat} {z : Int} (h : S9 k z) (hl : k ≤ l) : S9 l z := Nat.le_trans h hl
theorem S9.neg {k : Nat} {z : Int} (h : S9 k z) : S9 k (-z) := by unfold S9 at *; rw [Int.natAbs_neg]; exact h
theorem S9.le {k : Nat} {y z : Int} (h : S9 k z) (hy : y.natAbs ≤ z.natAbs) : S9 k y := Nat.le_trans (mg_len_mono (by omega) hy) h
theorem S9.mul {k l : Nat} {y z : Int} (h : S9 k y) (h2 : S9 l z) : S9 (k + l) (y * z) := by
  unfold S9 at *
  rw [Int.natAbs_mul]
  have := mg_len_mul (B := 1000000000) (by omega) y.natAbs z.natAbs
  omega
theorem S9.add {k : Nat} {y z : Int} (h : S9 k y) (h2 : S9 k z) : S9 (k + 1) (y + z) := by
  unfold S9 at *
  have h3 := mg_len_add (B := 1000000000) (by omega) y.natAbs z.natAbs
  have h4 := mg_len_mono (B := 1000000000) (by omega) (Int.natAbs_add_le y z)
  omega
theorem S9.lit {k : Nat} {z : Int} (h : z.natAbs < 1000000000 ^ k) : S9 k z := mg_len_le (by omega) h
theorem S9.nat {k : Nat} {n : Nat} : S9 k (n : Int) ↔ (mg 1000000000 n).length ≤ k := by unfold S9; rw [Int.natAbs_natCast]
theorem sum_c9 (x y : Int) (hx : S9 90000000 x) (hy : S9 90000000 y) : Called Tryz.prog 107 [itD x, itD y] (itD (x + y)) := by
  unfold S9 at hx hy
  have hl := mg_len_add (B := 1000000000) (by omega) x.natAbs y.natAbs
  have hs := plus_m x.natAbs y.natAbs (by omega) (by omega)
  have ho := compare_c x.natAbs y.natAbs (by omega) (by omega)
  rw [show itD x = .agg [.ints .u32 (mg 1000000000 x.natAbs), .bool (decide (x < 0))] from rfl, show itD y = .agg [.ints .u32 (mg 1000000000 y.natAbs), .bool (decide (y < 0))] from rfl]
  refine called_of_run tbOk 6 ⟨Tryz.func107, rfl, rfl, Nat.le_of_ble_eq_true rfl⟩ ?_
  (conv => whnf)
  refine V.st ?_
  refine Cnd.split (CondB.mk (fun hq => ?_) (fun hq => ?_))
  · rw [beq_iff_eq, decide_eq_decide] at hq
    have hm := signed_c (x.natAbs + y.natAbs) (decide (x < 0))
    have e : (if decide (x < 0) = true then -((x.natAbs + y.natAbs : Nat) : Int) else ((x.natAbs + y.natAbs : Nat) : Int)) = x + y := by
      by_cases h : x < 0
      · simp [h]; omega
      · simp [h]; omega
    rw [e] at hm
    (conv => whnf)
    refine V.st ?_
    refine ⟨(.take 0 (.take 1 (.take 2 (.take 3 (.take 5 (.take 6 (.ev (.cons 4 [6, 5] (.ev (.cons 7 [] (.ev (.cons 8 [] (.done) (.nil))) (.nil))) (.nil))))))))), [], ⟨by kernel_rfl, by kernel_rfl, by kernel_rfl, by kernel_rfl⟩, .go (drawD_one ?_)⟩
    (conv => whnf)
    refine V.st ?_
    repeat ((try ((with_reducible refine .ext ?_); (conv => whnf))); (with_reducible refine call_intro (r := ?_) ?_ ?_); rotate_left; (focus (first | exact (hs) | exact (hm))); (conv => whnf); refine V.st ?_)
    exact Fin.of rfl
  · have hq' : ¬ (x < 0 ↔ y < 0) := fun h => by rw [beq_eq_false_iff_ne] at hq; exact hq (decide_eq_decide.2 h)
    (conv => whnf)
    refine V.st ?_
    repeat ((try ((with_reducible refine .ext ?_); (conv => whnf))); (with_reducible refine call_intro (r := ?_) ?_ ?_); rotate_left; (focus (first | exact (ho))); (conv => whnf); refine V.st ?_)
    refine Cnd.split (CondB.mk (fun hq2 => ?_) (fun hq2 => ?_))
    · rw [decide_eq_true_eq] at hq2
      have hq3 := Int.neg_of_sign_eq_neg_one (a := ((x.natAbs : Int) - y.natAbs)) (by have := Int.sign_trichotomy ((x.natAbs : Int) - y.natAbs); omega)
      have hd := minus_m y.natAbs x.natAbs (by omega) (by omega)
      have hm := signed_c (y.natAbs - x.natAbs) (decide (y < 0))
      have e : (if decide (y < 0) = true then -((y.natAbs - x.natAbs : Nat) : Int) else ((y.natAbs - x.natAbs : Nat) : Int)) = x + y := by
        by_cases h : y < 0
        · simp [h]; omega
        · simp [h]; omega
      rw [e] at hm
      (conv => whnf)
      refine V.st ?_
      refine ⟨(.take 0 (.take 1 (.take 2 (.take 3 (.take 5 (.take 6 (.ev (.cons 4 [6, 5] (.ev (.cons 7 [] (.ev (.cons 8 [] (.done) (.nil))) (.nil))) (.nil))))))))), [], ⟨by kernel_rfl, by kernel_rfl, by kernel_rfl, by kernel_rfl⟩, .go (drawD_one ?_)⟩
      (conv => whnf)
      refine V.st ?_
      repeat ((try ((with_reducible refine .ext ?_); (conv => whnf))); (with_reducible refine call_intro (r := ?_) ?_ ?_); rotate_left; (focus (first | exact (hd) | exact (hm))); (conv => whnf); refine V.st ?_)
      exact Fin.of rfl
    · rw [decide_eq_false_iff_not] at hq2
      have hq3 : ¬ ((x.natAbs : Int) - y.natAbs) < 0 := fun h => hq2 (by rw [Int.sign_eq_neg_one_of_neg h]; decide)
      have hd := minus_m x.natAbs y.natAbs (by omega) (by omega)
      have hm := signed_c (x.natAbs - y.natAbs) (decide (x < 0))
      have e : (if decide (x < 0) = true then -((x.natAbs - y.natAbs : Nat) : Int) else ((x.natAbs - y.natAbs : Nat) : Int)) = x + y := by
        by_cases h : x < 0
        · simp [h]; omega
        · simp [h]; omega
      rw [e] at hm
      (conv => whnf)
      refine V.st ?_
      refine ⟨(.take 0 (.take 1 (.take 2 (.take 3 (.take 5 (.take 6 (.ev (.cons 4 [6, 5] (.ev (.cons 7 [] (.ev (.cons 8 [] (.done) (.nil))) (.nil))) (.nil))))))))), [], ⟨by kernel_rfl, by kernel_rfl, by kernel_rfl, by kernel_rfl⟩, .go (drawD_one ?_)⟩
      (conv => whnf)
      refine V.st ?_
      repeat ((try ((with_reducible refine .ext ?_); (conv => whnf))); (with_reducible refine call_intro (r := ?_) ?_ ?_); rotate_left; (focus (first | exact (hd) | exact (hm))); (conv => whnf); refine V.st ?_)
      exact Fin.of rfl
theorem scaled_c (x : Int) (d : Nat) (hx : S9 90000000 x) (hd : (mg 1000000000 d).length ≤ 90000000) : Called Tryz.prog 106 [itD x, .ints .u32 (mg 1000000000 d)] (itD (x * d)) := by
  unfold S9 at hx
  have ht := times_c x.natAbs d (by omega) (by omega)
  have hm := signed_c (x.natAbs * d) (decide (x < 0))
  have e : (if decide (x < 0) = true then -((x.natAbs * d : Nat) : Int) else ((x.natAbs * d : Nat) : Int)) = x * d := by
    rw [Int.natCast_mul]
    by_cases h : x < 0
    · have e2 : (x.natAbs : Int) = -x := by omega
      rw [e2, decide_eq_true h, if_pos rfl, Int.neg_mul, Int.neg_neg]
    · have e2 : (x.natAbs : Int) = x := by omega
      rw [e2]; simp [h]
  rw [e] at hm
  refine called_of_run tbOk 6 ⟨Tryz.func106, rfl, rfl, Nat.le_of_ble_eq_true rfl⟩ ?_
  (conv => whnf)
  refine V.st ?_
  refine ⟨(.take 0 (.take 1 (.take 2 (.take 4 (.take 5 (.ev (.cons 3 [5, 4] (.ev (.cons 6 [] (.ev (.cons 7 [] (.done) (.nil))) (.nil))) (.nil)))))))), [], ⟨by kernel_rfl, by kernel_rfl, by kernel_rfl, by kernel_rfl⟩, .go (drawD_one ?_)⟩
  (conv => whnf)
  refine V.st ?_
  repeat ((try ((with_reducible refine .ext ?_); (conv => whnf))); (with_reducible refine call_intro (r := ?_) ?_ ?_); rotate_left; (focus (first | exact (ht) | exact (hm))); (conv => whnf); refine V.st ?_)
  exact Fin.of rfl
theorem opposite_c (x : Int) : Called Tryz.prog 108 [itD x] (itD (-x)) := by
  have hm := signed_c x.natAbs (!decide (x < 0))
  have e : (if (!decide (x < 0)) = true then -(x.natAbs : Int) else (x.natAbs : Int)) = -x := by
    by_cases h : x < 0
    · simp [h]; omega
    · simp [h]; omega
  rw [e] at hm
  refine called_of_run tbOk 6 ⟨Tryz.func108, rfl, rfl, Nat.le_of_ble_eq_true rfl⟩ ?_
  (conv => whnf)
  refine V.st ?_
  repeat ((try ((with_reducible refine .ext ?_); (conv => whnf))); (with_reducible refine call_intro (r := ?_) ?_ ?_); rotate_left; (focus (first | exact (hm))); (conv => whnf); refine V.st ?_)
  exact Fin.of rfl
theorem sign_c (x : Int) : Called Tryz.prog 84 [itD x] (.int .i64 x.sign) := by
  have hz := zero_c x.natAbs
  refine called_of_run tbOk 6 ⟨Tryz.func84, rfl, rfl, Nat.le_of_ble_eq_true rfl⟩ ?_
  (conv => whnf)
  refine V.st ?_
  repeat ((try ((with_reducible refine .ext ?_); (conv => whnf))); (with_reducible refine call_intro (r := ?_) ?_ ?_); rotate_left; (focus (first | exact (hz))); (conv => whnf); refine V.st ?_)
  refine Cnd.split (CondB.mk (fun hq => ?_) (fun hq => ?_))
  · rw [decide_eq_true_eq] at hq
    (conv => whnf)
    refine V.st ?_
    exact Fin.of (by rw [show x = 0 by omega]; rfl)
  · rw [decide_eq_false_iff_not] at hq
    (conv => whnf)
    refine V.st ?_
    refine Cnd.split (CondB.mk (fun hq2 => ?_) (fun hq2 => ?_))
    · rw [decide_eq_true_eq] at hq2
      (conv => whnf)
      refine V.st ?_
      exact Fin.of (by rw [Int.sign_eq_neg_one_of_neg hq2])
    · rw [decide_eq_false_iff_not] at hq2
      (conv => whnf)
      refine V.st ?_
      exact Fin.of (by rw [Int.sign_eq_one_of_pos (by omega)])
theorem order_r (x y : Rat) (hx : S9 40000000 x.num) (hy : S9 40000000 y.num) (hxd : (mg 1000000000 x.den).length ≤ 40000000) (hyd : (mg 1000000000 y.den).length ≤ 40000000) : Called Tryz.prog 77 [rtD x, rtD y] (.int .i64 (ordQ x y)) := by
  have s1 := scaled_c x.num y.den (hx.mono (by omega)) (by omega)
  have s2 := scaled_c y.num x.den (hy.mono (by omega)) (by omega)
  have s3 := opposite_c (y.num * x.den)
  have z1 : S9 80000000 (x.num * y.den) := hx.mul (S9.nat.2 hyd)
  have z2 : S9 80000000 (y.num * x.den) := hy.mul (S9.nat.2 hxd)
  have s4 := sum_c9 (x.num * y.den) (-(y.num * x.den)) (z1.mono (by omega)) (z2.neg.mono (by omega))
  have s5 := sign_c (x.num * y.den + -(y.num * x.den))
  rw [order_parts] at s5
  refine called_of_run tbOk 6 ⟨Tryz.func77, rfl, rfl, Nat.le_of_ble_eq_true rfl⟩ ?_
  (conv => whnf)
  refine V.st ?_
  refine ⟨(.take 0 (.take 1 (.take 2 (.take 3 (.take 5 (.take 6 (.take 7 (.take 8 (.ev (.cons 4 [8, 7, 6, 5] (.ev (.cons 9 [] (.ev (.cons 10 [] (.ev (.cons 11 [] (.ev (.cons 12 [] (.take 13 (.done)) (.nil))) (.nil))) (.nil))) (.nil))) (.nil))))))))))), [], ⟨by kernel_rfl, by kernel_rfl, by kernel_rfl, by kernel_rfl⟩, .go (drawD_one ?_)⟩
  (conv => whnf)
  refine V.st ?_
  repeat ((try ((with_reducible refine .ext ?_); (conv => whnf))); (with_reducible refine call_intro (r := ?_) ?_ ?_); rotate_left; (focus (first | exact (s1) | exact (s2) | exact (s3) | exact (s4) | exact (s5))); (conv => whnf); refine V.st ?_)
  exact Fin.of rfl
theorem floor_neg (x : Int) (d : Nat) (hx : x < 0) (hd : 0 < d) : x / (d : Int) = if x.natAbs % d = 0 then -((x.natAbs / d : Nat) : Int) else -((x.natAbs / d + 1 : Nat) : Int) := by
  have h1 := Nat.div_add_mod x.natAbs d
  have h2 := Nat.mod_lt x.natAbs hd
  have e : x = -(x.natAbs : Int) := by omega
  generalize x.natAbs = n at *
  generalize hq : n / d = q at *
  generalize hr : n % d = r at *
  subst e
  have h3 : ((d * q + r : Nat) : Int) = (n : Int) := by rw [h1]
  rw [Int.natCast_add, Int.natCast_mul] at h3
  split
  · rename_i h
    subst h
    rw [← h3, Int.natCast_zero, Int.add_zero, ← Int.mul_neg, Int.mul_ediv_cancel_left _ (by omega)]
  · rw [Int.natCast_add, Int.natCast_one]
    refine (Int.ediv_eq_iff_of_pos (by omega)).2 ⟨?_, ?_⟩
    · rw [← h3, Int.neg_mul, Int.add_mul, Int.mul_comm (q : Int)]; omega
    · rw [← h3, Int.neg_mul, Int.add_mul, Int.mul_comm (q : Int)]; omega
end Go.Proofs.YtfilfmadapjajaaGreatDoor
end
section
namespace Go.Proofs.YtfilfmadapjajaaGreatDoor
open Go Go.V Go.Nb
theorem divInt_cop (n : Int) (d : Nat) (hd : 0 < d) (h : Nat.Coprime n.natAbs d) : (Rat.divInt n d).num = n ∧ (Rat.divInt n d).den = d := by
  have h1 : Int.gcd (d : Int) n = 1 := by rw [Int.gcd_comm]; exact h
  rw [Rat.num_divInt, Rat.den_divInt, if_neg (by omega), Int.sign_eq_one_of_pos (by omega), Int.one_mul, h1]
  simp
theorem cop_dvd {a b c : Nat} (h : Nat.Coprime a b) (hc : c ∣ a) : Nat.Coprime c b := Nat.Coprime.coprime_dvd_left hc h
theorem cop_dvd' {a b c : Nat} (h : Nat.Coprime a b) (hc : c ∣ b) : Nat.Coprime a c := Nat.Coprime.coprime_dvd_right hc h
theorem sum_cop {xn yn : Int} {R L xb : Nat} (hx : Nat.Coprime xn.natAbs xb) (hR : R ∣ xb) (hRL : Nat.Coprime R L) : Nat.Coprime (xn * L + yn * R).natAbs R := by
  have h1 : Nat.gcd (xn * L + yn * R).natAbs R ∣ R := Nat.gcd_dvd_right _ _
  have h2 : Nat.gcd (xn * L + yn * R).natAbs R ∣ (xn * L + yn * R).natAbs := Nat.gcd_dvd_left _ _
  obtain ⟨d, hd⟩ : ∃ d, d = Nat.gcd (xn * L + yn * R).natAbs R := ⟨_, rfl⟩
  rw [← hd] at h1 h2
  have h3 : (d : Int) ∣ xn * L + yn * R := Int.ofNat_dvd_left.2 h2
  have h4 : (d : Int) ∣ yn * R := Int.dvd_trans (Int.ofNat_dvd.2 h1) (Int.dvd_mul_left _ _)
  have h5 : (d : Int) ∣ xn * L := by
    have := Int.dvd_sub h3 h4
    rwa [Int.add_sub_cancel] at this
  have h6 : d ∣ xn.natAbs * L := by
    have := Int.ofNat_dvd_left.1 h5
    rwa [Int.natAbs_mul, Int.natAbs_natCast] at this
  have h7 : Nat.Coprime d L := cop_dvd hRL h1
  have h8 : d ∣ xn.natAbs := Nat.Coprime.dvd_of_dvd_mul_right h7 h6
  have h9 : d ∣ Nat.gcd xn.natAbs xb := Nat.dvd_gcd h8 (Nat.dvd_trans h1 hR)
  rw [hx.gcd_eq_one] at h9
  show Nat.gcd _ _ = 1
  rw [← hd]
  exact Nat.dvd_one.1 h9
theorem add_parts (x y : Rat) :
    let g := Nat.gcd x.den y.den; let L := y.den / g; let R := x.den / g; let top := x.num * L + y.num * R; let h := Nat.gcd top.natAbs g
    (x + y).num = top / h ∧ (x + y).den = R * (y.den / h) := by
  intro g L R top h
  have hg : 0 < g := Nat.gcd_pos_of_pos_left _ x.den_pos
  have ex : x.den = R * g := (Nat.div_mul_cancel (Nat.gcd_dvd_left _ _)).symm
  have ey : y.den = L * g := (Nat.div_mul_cancel (Nat.gcd_dvd_right _ _)).symm
  have hRL : Nat.Coprime R L := Nat.coprime_div_gcd_div_gcd hg
  have c1 : Nat.Coprime top.natAbs R := sum_cop x.reduced (by rw [ex]; exact Nat.dvd_mul_right _ _) hRL
  have c2 : Nat.Coprime top.natAbs L := by
    have := sum_cop (xn := y.num) (yn := x.num) (R := L) (L := R) y.reduced (by rw [ey]; exact Nat.dvd_mul_right _ _) hRL.symm
    rwa [Int.add_comm] at this
  have hh : 0 < h := Nat.gcd_pos_of_pos_right _ hg
  have hht : h ∣ top.natAbs := Nat.gcd_dvd_left _ _
  have hhg : h ∣ g := Nat.gcd_dvd_right _ _
  have hT : ((h : Nat) : Int) ∣ top := Int.ofNat_dvd_left.2 hht
  obtain ⟨t, ht⟩ := hT
  obtain ⟨q, hq⟩ := hhg
  have hyq : y.den / h = L * q := by
    rw [ey, hq, Nat.mul_comm h q, ← Nat.mul_assoc, Nat.mul_div_cancel _ hh]
  have htn : top.natAbs = h * t.natAbs := by rw [ht, Int.natAbs_mul, Int.natAbs_natCast]
  have hcq : Nat.Coprime t.natAbs q := by
    have h1 : Nat.Coprime (top.natAbs / h) (g / h) := Nat.coprime_div_gcd_div_gcd hh
    rwa [htn, hq, Nat.mul_div_cancel_left _ hh, Nat.mul_div_cancel_left _ hh] at h1
  have htd : t.natAbs ∣ top.natAbs := by rw [htn]; exact Nat.dvd_mul_left _ _
  have hcop : Nat.Coprime t.natAbs (R * (y.den / h)) := by
    rw [hyq]
    exact Nat.Coprime.mul_right (cop_dvd c1 htd) (Nat.Coprime.mul_right (cop_dvd c2 htd) hcq)
  have hqp : 0 < q := Nat.pos_of_ne_zero fun e => by rw [e] at hq; omega
  have hLp : 0 < L := Nat.pos_of_ne_zero fun e => by have := y.den_pos; rw [ey, e] at this; omega
  have hRp : 0 < R := Nat.pos_of_ne_zero fun e => by have := x.den_pos; rw [ex, e] at this; omega
  have hsum : x + y = Rat.divInt t ((R * (y.den / h) : Nat) : Int) := by
    conv => lhs; rw [← Rat.num_divInt_den x, ← Rat.num_divInt_den y]
    rw [Rat.divInt_add_divInt _ _ (by have := x.den_pos; omega) (by have := y.den_pos; omega)]
    have hyp := y.den_pos
    have hxp := x.den_pos
    rw [Rat.divInt_eq_divInt_iff (by have := Nat.mul_pos hxp hyp; rw [← Int.natCast_mul]; omega) (by have : 0 < R * (y.den / h) := by { rw [hyq]; exact Nat.mul_pos hRp (Nat.mul_pos hLp hqp) }; omega)]
    rw [hyq, ex, ey, hq]
    have e1 : x.num * ((L * (h * q) : Nat) : Int) + y.num * ((R * (h * q) : Nat) : Int) = (h * q : Nat) * top := by
      show _ = ((h * q : Nat) : Int) * (x.num * (L : Int) + y.num * (R : Int))
      simp only [Int.natCast_mul, Int.mul_add]
      congr 1 <;> ac_rfl
    rw [e1, ht]
    simp only [Int.natCast_mul]
    ac_rfl
  have hp : 0 < R * (y.den / h) := by rw [hyq]; exact Nat.mul_pos hRp (Nat.mul_pos hLp hqp)
  obtain ⟨p1, p2⟩ := divInt_cop t (R * (y.den / h)) hp hcop
  rw [hsum, p1, p2, ht, Int.mul_ediv_cancel_left _ (by omega)]
  exact ⟨rfl, rfl⟩
theorem mul_parts (x y : Rat) :
    let g := Nat.gcd x.num.natAbs y.den; let h := Nat.gcd y.num.natAbs x.den
    (x * y).num.natAbs = (x.num.natAbs / g) * (y.num.natAbs / h) ∧ (x * y).den = (x.den / h) * (y.den / g) := by
  intro g h
  have hg : 0 < g := Nat.gcd_pos_of_pos_right _ y.den_pos
  have hh : 0 < h := Nat.gcd_pos_of_pos_right _ x.den_pos
  obtain ⟨a, ha⟩ : g ∣ x.num.natAbs := Nat.gcd_dvd_left _ _
  obtain ⟨b, hb⟩ : g ∣ y.den := Nat.gcd_dvd_right _ _
  obtain ⟨c, hc⟩ : h ∣ y.num.natAbs := Nat.gcd_dvd_left _ _
  obtain ⟨d, hd⟩ : h ∣ x.den := Nat.gcd_dvd_right _ _
  have k1 : x.num.natAbs / g = a := by rw [ha, Nat.mul_div_cancel_left _ hg]
  have k2 : y.den / g = b := by rw [hb, Nat.mul_div_cancel_left _ hg]
  have k3 : y.num.natAbs / h = c := by rw [hc, Nat.mul_div_cancel_left _ hh]
  have k4 : x.den / h = d := by rw [hd, Nat.mul_div_cancel_left _ hh]
  have c1 : Nat.Coprime a b := by
    have : Nat.Coprime (x.num.natAbs / g) (y.den / g) := Nat.coprime_div_gcd_div_gcd hg
    rwa [k1, k2] at this
  have c2 : Nat.Coprime c d := by
    have : Nat.Coprime (y.num.natAbs / h) (x.den / h) := Nat.coprime_div_gcd_div_gcd hh
    rwa [k3, k4] at this
  have c3 : Nat.Coprime a d := cop_dvd (cop_dvd' x.reduced (by rw [hd]; exact Nat.dvd_mul_left _ _)) (by rw [ha]; exact Nat.dvd_mul_left _ _)
  have c4 : Nat.Coprime c b := cop_dvd (cop_dvd' y.reduced (by rw [hb]; exact Nat.dvd_mul_left _ _)) (by rw [hc]; exact Nat.dvd_mul_left _ _)
  have hcop : Nat.Coprime (a * c) (d * b) := Nat.Coprime.mul_right (Nat.Coprime.mul_left c3 c2) (Nat.Coprime.mul_left c1 c4)
  obtain ⟨u, hu⟩ : ((g : Nat) : Int) ∣ x.num := Int.ofNat_dvd_left.2 ⟨a, ha⟩
  obtain ⟨v, hv⟩ : ((h : Nat) : Int) ∣ y.num := Int.ofNat_dvd_left.2 ⟨c, hc⟩
  have hua : u.natAbs = a := by
    have := ha; rw [hu, Int.natAbs_mul, Int.natAbs_natCast] at this
    exact Nat.eq_of_mul_eq_mul_left hg this
  have hvc : v.natAbs = c := by
    have := hc; rw [hv, Int.natAbs_mul, Int.natAbs_natCast] at this
    exact Nat.eq_of_mul_eq_mul_left hh this
  have hbp : 0 < b := Nat.pos_of_ne_zero fun e => by have := y.den_pos; rw [hb, e] at this; omega
  have hdp : 0 < d := Nat.pos_of_ne_zero fun e => by have := x.den_pos; rw [hd, e] at this; omega
  have hp : 0 < d * b := Nat.mul_pos hdp hbp
  have hprod : x * y = Rat.divInt (u * v) ((d * b : Nat) : Int) := by
    conv => lhs; rw [← Rat.num_divInt_den x, ← Rat.num_divInt_den y]
    rw [Rat.divInt_mul_divInt]
    have hyp := y.den_pos
    have hxp := x.den_pos
    rw [Rat.divInt_eq_divInt_iff (by have := Nat.mul_pos hxp hyp; rw [← Int.natCast_mul]; omega) (by omega), hb, hd]
    conv => lhs; rw [hu, hv]
    simp only [Int.natCast_mul]
    ac_rfl
  obtain ⟨p1, p2⟩ := divInt_cop (u * v) (d * b) hp (by rw [Int.natAbs_mul, hua, hvc]; exact hcop)
  rw [hprod, p1, p2, Int.natAbs_mul, hua, hvc, k1, k2, k3, k4]
  exact ⟨rfl, rfl⟩
theorem mul_sign (x y : Rat) : decide ((x * y).num < 0) = ((decide (x.num < 0) != decide (y.num < 0)) && !decide ((x * y).num = 0)) := by
  have hg : 0 < Nat.gcd (x.num * y.num).natAbs (x.den * y.den) := Nat.gcd_pos_of_pos_right _ (Nat.mul_pos x.den_pos y.den_pos)
  obtain ⟨t, ht⟩ : ((Nat.gcd (x.num * y.num).natAbs (x.den * y.den) : Nat) : Int) ∣ x.num * y.num := Int.ofNat_dvd_left.2 (Nat.gcd_dvd_left _ _)
  have key : (x * y).num = t := by
    rw [Rat.mul_def, Rat.normalize_eq]
    show x.num * y.num / ((Nat.gcd (x.num * y.num).natAbs (x.den * y.den) : Nat) : Int) = t
    conv => lhs; lhs; rw [ht]
    exact Int.mul_ediv_cancel_left _ (by omega)
  rw [key]
  generalize Nat.gcd (x.num * y.num).natAbs (x.den * y.den) = g at *
  have hs : (t < 0 ↔ x.num * y.num < 0) ∧ (t = 0 ↔ x.num * y.num = 0) := by
    rw [ht]
    constructor
    · constructor
      · intro h; exact Int.mul_neg_of_pos_of_neg (by omega) h
      · intro h
        rcases Int.lt_or_le t 0 with h2 | h2
        · exact h2
        · have := Int.mul_nonneg (a := (g : Int)) (by omega) h2; omega
    · constructor
      · intro h; rw [h, Int.mul_zero]
      · intro h; rcases Int.mul_eq_zero.1 h with h2 | h2 <;> omega
  by_cases h1 : x.num < 0 <;> by_cases h2 : y.num < 0 <;> by_cases h3 : t = 0
  all_goals
    have h4 := hs.1
    have h5 := hs.2
    simp only [h1, h2, h3, decide_true, decide_false, bne_self_eq_false, Bool.false_and, Bool.not_true, Bool.and_false, Bool.not_false, Bool.and_true]
  · rfl
  · rw [decide_eq_false_iff_not, h4]
    have := Int.mul_pos_of_neg_of_neg h1 h2; omega
  · simp
  · have h6 : x.num * y.num ≠ 0 := fun e => h3 (h5.2 e)
    have h7 : x.num * y.num ≤ 0 := Int.mul_nonpos_of_nonpos_of_nonneg (by omega) (by omega)
    simp only [h4]
    simp; omega
  · simp
  · have h6 : x.num * y.num ≠ 0 := fun e => h3 (h5.2 e)
    have h7 : x.num * y.num ≤ 0 := Int.mul_nonpos_of_nonneg_of_nonpos (by omega) (by omega)
    simp only [h4]
    simp; omega
  · rfl
  · rw [decide_eq_false_iff_not, h4]
    have := Int.mul_nonneg (a := x.num) (b := y.num) (by omega) (by omega); omega
end Go.Proofs.YtfilfmadapjajaaGreatDoor
end
section
namespace Go.Proofs.YtfilfmadapjajaaGreatDoor
open Go Go.V Go.Nb
def Q9 (k : Nat) (q : Rat) : Prop := S9 k q.num ∧ (mg 1000000000 q.den).length ≤ k
theorem Q9.mono {k l : Nat} {q : Rat} (h : Q9 k q) (hl : k ≤ l) : Q9 l q := ⟨h.1.mono hl, Nat.le_trans h.2 hl⟩
theorem Q9.neg {k : Nat} {q : Rat} (h : Q9 k q) : Q9 k (-q) := ⟨by rw [Rat.neg_num]; exact h.1.neg, by rw [Rat.neg_den]; exact h.2⟩
theorem div_sign (t : Int) (h : Nat) (hd : h ∣ t.natAbs) : (if decide (t < 0) = true then -((t.natAbs / h : Nat) : Int) else ((t.natAbs / h : Nat) : Int)) = t / h := by
  have e : t = t.sign * (t.natAbs : Int) := (Int.sign_mul_natAbs t).symm
  by_cases hz : t < 0
  · rw [decide_eq_true hz, if_pos rfl]
    have e2 : t = -(t.natAbs : Int) := by omega
    conv => rhs; rw [e2]
    rw [Int.neg_ediv_of_dvd (Int.ofNat_dvd.2 hd), Int.natCast_ediv]
  · rw [decide_eq_false hz, if_neg (by simp)]
    have e2 : t = (t.natAbs : Int) := by omega
    conv => rhs; rw [e2]
    rw [Int.natCast_ediv]
theorem negated_c (q : Rat) : Called Tryz.prog 132 [rtD q] (rtD (-q)) := by
  have h1 := opposite_c q.num
  have e : rtD (-q) = .agg [.ints .u32 (mg 1000000000 (-q.num).natAbs), .bool (decide (-q.num < 0)), .ints .u32 (mg 1000000000 q.den)] := by unfold rtD; rw [Rat.neg_num, Rat.neg_den]
  rw [e]
  refine called_of_run tbOk 6 ⟨Tryz.func132, rfl, rfl, Nat.le_of_ble_eq_true rfl⟩ ?_
  (conv => whnf)
  refine V.st ?_
  refine ⟨(.take 0 (.take 1 (.take 3 (.take 4 (.ev (.cons 2 [4, 3] (.take 5 (.ev (.cons 6 [] (.done) (.nil)))) (.nil))))))), [], ⟨by kernel_rfl, by kernel_rfl, by kernel_rfl, by kernel_rfl⟩, .go (drawD_one ?_)⟩
  (conv => whnf)
  refine V.st ?_
  repeat ((try ((with_reducible refine .ext ?_); (conv => whnf))); (with_reducible refine call_intro (r := ?_) ?_ ?_); rotate_left; (focus (first | exact (h1))); (conv => whnf); refine V.st ?_)
  exact Fin.of rfl
theorem add_c (x y : Rat) (hx : Q9 20000000 x) (hy : Q9 20000000 y) : Called Tryz.prog 119 [rtD x, rtD y] (rtD (x + y)) := by
  obtain ⟨p1, p2⟩ := add_parts x y
  have g1 := gcd_c x.den y.den (by have := hx.2; omega) (by have := hy.2; omega)
  have hg : 0 < Nat.gcd x.den y.den := Nat.gcd_pos_of_pos_left _ x.den_pos
  have lg := mg_len_mono (B := 1000000000) (by omega) (Nat.gcd_le_left y.den x.den_pos)
  generalize Nat.gcd x.den y.den = g at *
  have hx1 := hx.1
  have hy1 := hy.1
  have hx2 := hx.2
  have hy2 := hy.2
  have d1 := divide_c y.den g hg (by omega) (by omega)
  have d2 := divide_c x.den g hg (by omega) (by omega)
  have lL := mg_len_mono (B := 1000000000) (by omega) (Nat.div_le_self y.den g)
  have lR := mg_len_mono (B := 1000000000) (by omega) (Nat.div_le_self x.den g)
  have s1 := scaled_c x.num (y.den / g) (hx1.mono (by omega)) (by omega)
  have s2 := scaled_c y.num (x.den / g) (hy1.mono (by omega)) (by omega)
  have z1 : S9 40000000 (x.num * ((y.den / g : Nat) : Int)) := hx1.mul (l := 20000000) (S9.nat.2 (by omega))
  have z2 : S9 40000000 (y.num * ((x.den / g : Nat) : Int)) := hy1.mul (l := 20000000) (S9.nat.2 (by omega))
  have s3 := sum_c9 _ _ (z1.mono (by omega)) (z2.mono (by omega))
  have z3 := z1.add z2
  generalize x.num * ((y.den / g : Nat) : Int) + y.num * ((x.den / g : Nat) : Int) = top at *
  unfold S9 at z3
  have g2 := gcd_c top.natAbs g (by omega) (by omega)
  have hh : 0 < Nat.gcd top.natAbs g := Nat.gcd_pos_of_pos_right _ hg
  have lh := mg_len_mono (B := 1000000000) (by omega) (Nat.gcd_le_right top.natAbs hg)
  have hdv : Nat.gcd top.natAbs g ∣ top.natAbs := Nat.gcd_dvd_left _ _
  generalize Nat.gcd top.natAbs g = h at *
  have d3 := divide_c top.natAbs h hh (by omega) (by omega)
  have d4 := divide_c y.den h hh (by omega) (by omega)
  have lT := mg_len_mono (B := 1000000000) (by omega) (Nat.div_le_self y.den h)
  have t1 := times_c (x.den / g) (y.den / h) (by omega) (by omega)
  have m1 := signed_c (top.natAbs / h) (decide (top < 0))
  rw [div_sign top h hdv, ← p1] at m1
  rw [← p2] at t1
  refine called_of_run tbOk 6 ⟨Tryz.func119, rfl, rfl, Nat.le_of_ble_eq_true rfl⟩ ?_
  (conv => whnf)
  refine V.st ?_
  repeat ((try ((with_reducible refine .ext ?_); (conv => whnf))); (with_reducible refine call_intro (r := ?_) ?_ ?_); rotate_left; (focus (first | exact (g1) | exact (d1) | exact (d2))); (conv => whnf); refine V.st ?_)
  refine ⟨(.take 0 (.take 1 (.take 2 (.take 4 (.take 5 (.take 6 (.ev (.cons 3 [6, 5, 4] (.ev (.cons 7 [] (.ev (.cons 8 [] (.ev (.cons 9 [] (.ev (.cons 10 [] (.done) (.nil))) (.nil))) (.cons 9 [] (.ev (.cons 8 [] (.ev (.cons 10 [] (.done) (.nil))) (.nil))) (.nil)))) (.cons 9 [6, 5, 4] (.ev (.cons 7 [] (.ev (.cons 8 [] (.ev (.cons 10 [] (.done) (.nil))) (.nil))) (.nil))) (.nil)))) (.cons 9 [6, 5, 4, 2, 1, 0] (.ev (.cons 3 [6, 5, 4] (.ev (.cons 7 [] (.ev (.cons 8 [] (.ev (.cons 10 [] (.done) (.nil))) (.nil))) (.nil))) (.nil))) (.nil)))))))))), [], ⟨by kernel_rfl, by kernel_rfl, by kernel_rfl, by kernel_rfl⟩, ?_⟩
  refine drw_meet [(10, .box 10 0)] [(10, .box [.ints .u32 (mg 1000000000 top.natAbs), .bool (decide (top < 0))])] ?_ ?_
  · (conv => whnf); (try simp only [Nat.zero_add])
    repeat' (first | exact V.wk | ((first | refine V.s1 ?_ | ((with_reducible refine recheck_and ?_ ?_); (focus ((conv => whnf); (try simp only [Nat.zero_add]); (repeat (refine V.s1 ?_; (try simp only [Nat.zero_add]))); exact ⟨rfl⟩)); (conv => whnf)) | ((try ((with_reducible refine .ext ?_); (conv => whnf); (try simp only [Nat.zero_add]))); (with_reducible refine call_intro (r := ?_) ?_ ?_); rotate_left; (focus (first | exact (s1) | exact (s2) | exact (s3))); (conv => whnf))); (try simp only [Nat.zero_add])) | (refine And.intro ?_ ?_ <;> (conv => whnf); (try simp only [Nat.zero_add])))
  (conv => whnf)
  refine V.st ?_
  repeat ((try ((with_reducible refine .ext ?_); (conv => whnf))); (with_reducible refine call_intro (r := ?_) ?_ ?_); rotate_left; (focus (first | exact (g2) | exact (d3) | exact (d4) | exact (m1) | exact (t1))); (conv => whnf); refine V.st ?_)
  exact Fin.of rfl
theorem sub_c (x y : Rat) (hx : Q9 20000000 x) (hy : Q9 20000000 y) : Called Tryz.prog 105 [rtD x, rtD y] (rtD (x - y)) := by
  have h1 := negated_c y
  have h2 := add_c x (-y) hx hy.neg
  rw [← Rat.sub_eq_add_neg] at h2
  refine called_of_run tbOk 6 ⟨Tryz.func105, rfl, rfl, Nat.le_of_ble_eq_true rfl⟩ ?_
  (conv => whnf)
  refine V.st ?_
  refine ⟨(.take 0 (.take 1 (.ev (.cons 2 [0] (.ev (.cons 3 [] (.ev (.cons 4 [] (.done) (.nil))) (.nil))) (.nil))))), [], ⟨by kernel_rfl, by kernel_rfl, by kernel_rfl, by kernel_rfl⟩, .go (drawD_one ?_)⟩
  (conv => whnf)
  refine V.st ?_
  repeat ((try ((with_reducible refine .ext ?_); (conv => whnf))); (with_reducible refine call_intro (r := ?_) ?_ ?_); rotate_left; (focus (first | exact (h1) | exact (h2))); (conv => whnf); refine V.st ?_)
  exact Fin.of rfl
theorem mul_num (x y : Rat) : (if (decide (x.num < 0) != decide (y.num < 0)) = true then -((x * y).num.natAbs : Int) else ((x * y).num.natAbs : Int)) = (x * y).num := by
  have h := mul_sign x y
  by_cases h0 : (x * y).num = 0
  · rw [h0]; simp
  · rw [decide_eq_false h0, Bool.not_false, Bool.and_true] at h
    rw [← h]
    by_cases h1 : (x * y).num < 0
    · rw [decide_eq_true h1, if_pos rfl]; omega
    · rw [decide_eq_false h1, if_neg (by simp)]; omega
theorem mul_c (x y : Rat) (hx : Q9 20000000 x) (hy : Q9 20000000 y) : Called Tryz.prog 104 [rtD x, rtD y] (rtD (x * y)) := by
  obtain ⟨p1, p2⟩ := mul_parts x y
  have pn := mul_num x y
  have hx1 := hx.1
  have hy1 := hy.1
  have hx2 := hx.2
  have hy2 := hy.2
  unfold S9 at hx1 hy1
  have g1 := gcd_c x.num.natAbs y.den (by omega) (by omega)
  have g2 := gcd_c y.num.natAbs x.den (by omega) (by omega)
  have hg : 0 < Nat.gcd x.num.natAbs y.den := Nat.gcd_pos_of_pos_right _ y.den_pos
  have hh : 0 < Nat.gcd y.num.natAbs x.den := Nat.gcd_pos_of_pos_right _ x.den_pos
  have lg := mg_len_mono (B := 1000000000) (by omega) (Nat.gcd_le_right x.num.natAbs y.den_pos)
  have lh := mg_len_mono (B := 1000000000) (by omega) (Nat.gcd_le_right y.num.natAbs x.den_pos)
  generalize Nat.gcd x.num.natAbs y.den = g at *
  generalize Nat.gcd y.num.natAbs x.den = h at *
  have d1 := divide_c x.num.natAbs g hg (by omega) (by omega)
  have d2 := divide_c x.den h hh (by omega) (by omega)
  have d3 := divide_c y.num.natAbs h hh (by omega) (by omega)
  have d4 := divide_c y.den g hg (by omega) (by omega)
  have l1 := mg_len_mono (B := 1000000000) (by omega) (Nat.div_le_self x.num.natAbs g)
  have l2 := mg_len_mono (B := 1000000000) (by omega) (Nat.div_le_self x.den h)
  have l3 := mg_len_mono (B := 1000000000) (by omega) (Nat.div_le_self y.num.natAbs h)
  have l4 := mg_len_mono (B := 1000000000) (by omega) (Nat.div_le_self y.den g)
  have t1 := times_c (x.num.natAbs / g) (y.num.natAbs / h) (by omega) (by omega)
  have t2 := times_c (x.den / h) (y.den / g) (by omega) (by omega)
  rw [← p1] at t1
  rw [← p2] at t2
  have m1 := signed_c (x * y).num.natAbs (decide (x.num < 0) != decide (y.num < 0))
  rw [pn] at m1
  refine called_of_run tbOk 6 ⟨Tryz.func104, rfl, rfl, Nat.le_of_ble_eq_true rfl⟩ ?_
  (conv => whnf)
  refine V.st ?_
  repeat ((try ((with_reducible refine .ext ?_); (conv => whnf))); (with_reducible refine call_intro (r := ?_) ?_ ?_); rotate_left; (focus (first | exact (g1) | exact (g2) | exact (d1) | exact (d2) | exact (d3) | exact (d4))); (conv => whnf); refine V.st ?_)
  refine ⟨(.take 0 (.take 1 (.take 3 (.take 4 (.take 5 (.take 6 (.take 7 (.take 8 (.take 9 (.take 11 (.take 12 (.ev (.cons 2 [12, 11, 9, 8, 7, 6, 5, 4, 3] (.ev (.cons 10 [12, 11] (.ev (.cons 13 [] (.take 14 (.ev (.cons 15 [] (.done) (.nil)))) (.nil))) (.nil))) (.nil)))))))))))))), [], ⟨by kernel_rfl, by kernel_rfl, by kernel_rfl, by kernel_rfl⟩, .go (drawD_one ?_)⟩
  (conv => whnf)
  refine V.st ?_
  repeat ((try ((with_reducible refine .ext ?_); (conv => whnf))); (with_reducible refine call_intro (r := ?_) ?_ ?_); rotate_left; (focus (first | exact (t1) | exact (m1) | exact (t2))); (conv => whnf); refine V.st ?_)
  exact Fin.of rfl
theorem inv_parts (q : Rat) (hq : q.num ≠ 0) : q⁻¹.num = (if decide (q.num < 0) = true then -(q.den : Int) else (q.den : Int)) ∧ q⁻¹.den = q.num.natAbs := by
  have hd := q.den_pos
  have hc : Nat.Coprime (if decide (q.num < 0) = true then -(q.den : Int) else (q.den : Int)).natAbs q.num.natAbs := by
    have e : (if decide (q.num < 0) = true then -(q.den : Int) else (q.den : Int)).natAbs = q.den := by
      split <;> simp
    rw [e]
    exact q.reduced.symm
  have e : q⁻¹ = Rat.divInt (if decide (q.num < 0) = true then -(q.den : Int) else (q.den : Int)) (q.num.natAbs : Nat) := by
    rw [Rat.inv_def, Rat.divInt_eq_divInt_iff hq (by omega)]
    by_cases h : q.num < 0
    · rw [decide_eq_true h, if_pos rfl, show (q.num.natAbs : Int) = -q.num by omega, Int.mul_neg, Int.neg_mul]
    · rw [decide_eq_false h, if_neg (by simp), show (q.num.natAbs : Int) = q.num by omega]
  obtain ⟨h1, h2⟩ := divInt_cop _ q.num.natAbs (by omega) hc
  rw [e]
  exact ⟨h1, h2⟩
theorem inverse_c (q : Rat) (hq : q.num ≠ 0) : Called Tryz.prog 124 [rtD q] (rtD q⁻¹) := by
  obtain ⟨p1, p2⟩ := inv_parts q hq
  have m1 := signed_c q.den (decide (q.num < 0))
  rw [← p1] at m1
  have e : rtD q⁻¹ = .agg [.ints .u32 (mg 1000000000 q⁻¹.num.natAbs), .bool (decide (q⁻¹.num < 0)), .ints .u32 (mg 1000000000 q.num.natAbs)] := by unfold rtD; rw [p2]
  rw [e]
  refine called_of_run tbOk 6 ⟨Tryz.func124, rfl, rfl, Nat.le_of_ble_eq_true rfl⟩ ?_
  (conv => whnf)
  refine V.st ?_
  refine ⟨(.take 0 (.take 1 (.take 2 (.take 3 (.take 4 (.take 6 (.take 7 (.take 8 (.ev (.cons 5 [8, 7, 6] (.take 9 (.ev (.cons 10 [] (.done) (.nil)))) (.nil))))))))))), [], ⟨by kernel_rfl, by kernel_rfl, by kernel_rfl, by kernel_rfl⟩, .go (drawD_one ?_)⟩
  (conv => whnf)
  refine V.st ?_
  repeat ((try ((with_reducible refine .ext ?_); (conv => whnf))); (with_reducible refine call_intro (r := ?_) ?_ ?_); rotate_left; (focus (first | exact (m1))); (conv => whnf); refine V.st ?_)
  exact Fin.of rfl
end Go.Proofs.YtfilfmadapjajaaGreatDoor
end
