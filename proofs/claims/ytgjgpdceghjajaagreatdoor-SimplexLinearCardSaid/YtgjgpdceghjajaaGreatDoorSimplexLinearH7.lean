/- What some functions of the program answer at values that mean given lists, texts and numbers, each proved of the program's own code: part 7. Conditions: those that each theorem names. -/
import Derived.Test.YtgjgpdceghjajaaGreatDoorSimplexLinearH6
import Derived.Test.YtgjgpdceghjajaaGreatDoorSimplexLinearH5
import Derived.Shelf.Strconv.ParseIntPublic10
import Derived.Test.YtgjgpdceghjajaaGreatDoorSimplexLinearH4
set_option linter.unusedSimpArgs false
set_option linter.unusedVariables false
set_option maxHeartbeats 8000000
set_option maxRecDepth 100000
section
namespace Go.Proofs.YtgjgpdceghjajaaGreatDoor
open Go Go.V Go.Nb
theorem jcx (n : Int) (d : Nat) (hd : 0 < d) : (Rat.divInt n d).num.natAbs = n.natAbs / Nat.gcd n.natAbs d ∧ decide ((Rat.divInt n d).num < 0) = decide (n < 0) ∧ (Rat.divInt n d).den = d / Nat.gcd n.natAbs d := by
 have hg : Int.gcd (d : Int) n = Nat.gcd n.natAbs d := by
  rw [Int.gcd_comm]; rfl
 have hgp : 0 < Nat.gcd n.natAbs d := Nat.gcd_pos_of_pos_right _ hd
 have hdv : ((Nat.gcd n.natAbs d : Nat) : Int) ∣ n := Int.ofNat_dvd_left.2 (Nat.gcd_dvd_left _ _)
 rw [Rat.num_divInt, Rat.den_divInt, if_neg (by omega), jih (by omega), jif, hg, jh8]
 generalize Nat.gcd n.natAbs d = g at *
 obtain ⟨k, rfl⟩ := hdv
 have e : (g : Int) * k / g = k := Int.mul_ediv_cancel_left _ (by omega)
 rw [e, Int.natAbs_mul, jh8, Nat.mul_div_cancel_left _ hgp]
 refine ⟨rfl, ?_, rfl⟩
 apply decide_eq_decide.2
 constructor
 ·intro h; exact Int.mul_neg_of_pos_of_neg (by omega) h
 ·intro h
  rcases Int.lt_or_le k 0 with h2 | h2
  ·exact h2
  ·have := jhR (a := (g : Int)) (by omega) h2; omega
theorem reduced_c (n : Int) (d : Nat) (hd0 : 0 < d) (hn : (mg 1000000000 n.natAbs).length ≤ 90000000) (hd : (mg 1000000000 d).length ≤ 90000000) : Called Tryz.prog 168 [itD n, .ints .u32 (mg 1000000000 d)] (rtD (Rat.divInt n d)) := by
 obtain ⟨p1, p2, p3⟩ := jcx n d hd0
 have hg := gcd_c n.natAbs d hn hd
 have hgp : 0 < Nat.gcd n.natAbs d := Nat.gcd_pos_of_pos_right _ hd0
 have hgl := jaf (B := 1000000000) (by omega) (Nat.le_of_dvd hd0 (Nat.gcd_dvd_right n.natAbs d))
 have h1 := ja3 n.natAbs (Nat.gcd n.natAbs d) hgp hn (by omega)
 have h2 := ja3 d (Nat.gcd n.natAbs d) hgp hd (by omega)
 have h3 := jaV (n.natAbs / Nat.gcd n.natAbs d) (decide (n < 0))
 have e : itD (if decide (n < 0) = true then -((n.natAbs / Nat.gcd n.natAbs d : Nat) : Int) else ((n.natAbs / Nat.gcd n.natAbs d : Nat) : Int)) = itD (Rat.divInt n d).num := by
  congr 1
  rw [← p1, ← p2]
  by_cases h : (Rat.divInt n d).num < 0
  ·rw [decide_eq_true h, if_pos rfl]; omega
  ·rw [decide_eq_false h, if_neg (by simp)]; omega
 rw [e] at h3
 refine jaa tbOk 6 ⟨Tryz.func168, rfl, rfl, jhO rfl⟩ ?_
 (conv => whnf)
 refine V.st ?_
 repeat ((try ((with_reducible refine .ext ?_); (conv => whnf))); (with_reducible refine jab (r := ?_) ?_ ?_); rotate_left; (focus (first | exact (hg) | exact (h1) | exact (h2) | exact (h3))); (conv => whnf); refine V.st ?_)
 exact Fin.of (by unfold rtD; rw [p3])
theorem wof_c (n : Int) (h : InR .i64 n) : Called Tryz.prog 136 [.int .i64 n] (.str (decZ n)) := by
 have hi := itoa_c n
 refine jaa tbOk 6 ⟨Tryz.func136, rfl, rfl, jhO rfl⟩ ?_
 (conv => whnf)
 refine V.st ?_
 repeat ((try ((with_reducible refine .ext ?_); (conv => whnf))); (with_reducible refine jab (r := ?_) ?_ ?_); rotate_left; (focus (first | exact (hi))); (conv => whnf); refine V.st ?_)
 exact Fin.of rfl
theorem jgw (n d : Int) (hd : d ≠ 0) : Rat.divInt (if (decide (n < 0) != decide (d < 0)) = true then -(n.natAbs : Int) else (n.natAbs : Int)) (d.natAbs : Nat) = Rat.divInt n d := by
 rw [Rat.divInt_eq_divInt_iff (by omega) hd]
 by_cases h1 : n < 0 <;> by_cases h2 : d < 0
 ·simp only [h1, h2, decide_true, bne_self_eq_false, Bool.false_eq_true, if_false]
  rw [show (n.natAbs : Int) = -n by omega, show (d.natAbs : Int) = -d by omega, Int.neg_mul, Int.mul_neg]
 ·have e : (decide (n < 0) != decide (d < 0)) = true := by simp [h1, h2]
  rw [if_pos e, show (n.natAbs : Int) = -n by omega, show (d.natAbs : Int) = d by omega, Int.neg_neg]
 ·have e : (decide (n < 0) != decide (d < 0)) = true := by simp [h1, h2]
  rw [if_pos e, show (n.natAbs : Int) = n by omega, show (d.natAbs : Int) = -d by omega, Int.neg_mul, Int.mul_neg]
 ·have e : ¬ (decide (n < 0) != decide (d < 0)) = true := by simp [h1, h2]
  rw [if_neg e, show (n.natAbs : Int) = n by omega, show (d.natAbs : Int) = d by omega]
theorem jbU {s : List UInt8} (h : okW s = true) : s.length ≤ 601 ∧ (wval s).natAbs < 10 ^ 600 := by
 unfold okW okD at h
 simp only [jhN, Bool.not_eq_true', jh2, decide_eq_false_iff_not, List.all_eq_true] at h
 obtain ⟨⟨h1, h2⟩, h3⟩ := h
 have h4 := je8 h2
 have h5 : ∀ k, (Go.Lib.trimPrefix s [45]).length ≤ k → 10 ^ (Go.Lib.trimPrefix s [45]).length ≤ 10 ^ k := fun k hk => jh9 (by omega) hk
 constructor
 ·unfold Go.Lib.trimPrefix at h1
  split at h1
  ·rw [List.length_drop] at h1; simp at h1; omega
  ·omega
 ·have : (wval s).natAbs = rdv (Go.Lib.trimPrefix s [45]) := by unfold wval; split <;> simp
  rw [this]
  exact jhZ h4 (h5 600 (by omega))
theorem len9 {n : Nat} (h : n < 10 ^ 600) : (mg 1000000000 n).length ≤ 67 := jau (by omega) (jhZ h (by
 have h1 : ∀ k, (1000000000 : Nat) ^ k = 10 ^ (9 * k) := fun k => by rw [Nat.pow_mul]
 have h2 : ∀ a b : Nat, a ≤ b → (10 : Nat) ^ a ≤ 10 ^ b := fun a b hab => jh9 (by omega) hab
 obtain ⟨m, hm⟩ : ∃ m, m = 9 * 67 := ⟨_, rfl⟩
 rw [h1 67, ← hm]
 exact h2 600 m (by omega)))
theorem make_c (s t : List UInt8) (hs : okW s = true) (ht : okW t = true) (hz : wval t ≠ 0) : Called Tryz.prog 135 [.str s, .str t] (frR (Rat.divInt (wval s) (wval t))) := by
 obtain ⟨ls, vs⟩ := jbU hs
 obtain ⟨lt, vt⟩ := jbU ht
 have c1 := jb6 s (by omega)
 have c2 := jb6 t (by omega)
 rw [hs, if_pos rfl] at c1
 rw [ht, if_pos rfl] at c2
 have n1 := jcD s hs
 have n2 := jcD t ht
 generalize wval s = n at *
 generalize wval t = d at *
 have hz1 := jcW d.natAbs
 have hs1 := jaV n.natAbs (decide (n < 0) != decide (d < 0))
 have hnl := len9 vs
 have hdl := len9 vt
 have e1 : (if (decide (n < 0) != decide (d < 0)) = true then -(n.natAbs : Int) else (n.natAbs : Int)).natAbs = n.natAbs := by split <;> omega
 have hr := reduced_c (if (decide (n < 0) != decide (d < 0)) = true then -(n.natAbs : Int) else (n.natAbs : Int)) d.natAbs (by omega) (by rw [e1]; omega) (by omega)
 obtain ⟨p1, p2, p3⟩ := jcx (if (decide (n < 0) != decide (d < 0)) = true then -(n.natAbs : Int) else (n.natAbs : Int)) d.natAbs (by omega)
 rw [jgw n d hz] at hr p1 p2 p3
 rw [e1] at p1 p3
 have hw := jdq (Rat.divInt n d) (by
  rw [p1]
  have := jaf (B := 1000000000) (by omega) (jia n.natAbs (n.natAbs.gcd d.natAbs))
  omega) (by
  rw [p3]
  have := jaf (B := 1000000000) (by omega) (jia d.natAbs (n.natAbs.gcd d.natAbs))
  omega)
 refine jaa tbOk 6 ⟨Tryz.func135, rfl, rfl, jhO rfl⟩ ?_
 (conv => whnf)
 refine V.st ?_
 repeat ((try ((with_reducible refine .ext ?_); (conv => whnf))); (with_reducible refine jab (r := ?_) ?_ ?_); rotate_left; (focus (first | exact (c1) | exact (c2) | exact (n1) | exact (n2) | exact (hz1))); (conv => whnf); refine V.st ?_)
 refine Cnd.no (decide_eq_false (by omega)) ?_
 (conv => whnf)
 refine V.st ?_
 refine ⟨(.take 0 (.take 1 (.take 2 (.take 3 (.take 4 (.take 5 (.take 6 (.take 8 (.take 9 (.ev (.cons 7 [9, 8] (.ev (.cons 10 [] (.ev (.cons 11 [] (.take 12 (.take 13 (.ev (.cons 14 [] (.take 15 (.done)) (.nil))))) (.nil))) (.nil))) (.nil)))))))))))), [], ⟨by kernel_rfl, by kernel_rfl, by kernel_rfl, by kernel_rfl⟩, .go (jae ?_)⟩
 (conv => whnf)
 refine V.st ?_
 repeat ((try ((with_reducible refine .ext ?_); (conv => whnf))); (with_reducible refine jab (r := ?_) ?_ ?_); rotate_left; (focus (first | exact (hs1) | exact (hr) | exact (hw))); (conv => whnf); refine V.st ?_)
 exact Fin.of rfl
theorem of_c (n d : Int) (hn : InR .i64 n) (hd : InR .i64 d) (hd0 : d ≠ 0) : Called Tryz.prog 97 [.int .i64 n, .int .i64 d] (frR (Rat.divInt n d)) := by
 have h1 := wof_c n hn
 have h2 := wof_c d hd
 simp only [V.InR, V.lo, V.hi] at hn hd
 have o1 := jbx n (by have := jeM n.natAbs 19 (by omega) (by omega); omega)
 have o2 := jbx d (by have := jeM d.natAbs 19 (by omega) (by omega); omega)
 have h3 := make_c (decZ n) (decZ d) o1 o2 (by rw [jbb]; exact hd0)
 rw [jbb, jbb] at h3
 refine jaa tbOk 6 ⟨Tryz.func97, rfl, rfl, jhO rfl⟩ ?_
 (conv => whnf)
 refine V.st ?_
 repeat ((try ((with_reducible refine .ext ?_); (conv => whnf))); (with_reducible refine jab (r := ?_) ?_ ?_); rotate_left; (focus (first | exact (h1) | exact (h2) | exact (h3))); (conv => whnf); refine V.st ?_)
 exact Fin.of rfl
end Go.Proofs.YtgjgpdceghjajaaGreatDoor
end
section
namespace Go.Nb
theorem fold_ge : ∀ (l : List UInt8) (acc : Nat), acc ≤ l.foldl (fun v c => v * 10 + (c.toNat - 48)) acc
 | [], _ => jhU _
 | c :: r, acc => by
  have := fold_ge r (acc * 10 + (c.toNat - 48))
  simp only [List.foldl_cons]
  omega
theorem jcr : ∀ (l : List UInt8) (acc : Nat), (∀ c ∈ l, isDig c = true) → l.foldl (fun v c => v * 10 + (c.toNat - 48)) acc ≤ 18446744073709551615 →
  Go.Lib.parseUintM 18446744073709551615 acc l = .ok (l.foldl (fun v c => v * 10 + (c.toNat - 48)) acc)
 | [], acc, _, _ => rfl
 | c :: r, acc, hd, hl => by
  have h1 := fold_ge r (acc * 10 + (c.toNat - 48))
  have h2 := hd c (by simp)
  unfold isDig at h2
  rw [decide_eq_true_eq] at h2
  simp only [List.foldl_cons] at hl ⊢
  unfold Go.Lib.parseUintM
  rw [if_pos h2, if_neg (by omega), if_neg (by omega)]
  exact jcr r _ (fun c hc => hd c (by simp [hc])) hl
theorem jeX (n : Nat) (h : n ≤ 18446744073709551615) : Go.Lib.parseUintB 64 (dec n) = .ok n := by
 unfold Go.Lib.parseUintB
 have hne : dec n ≠ [] := by
  by_cases h10 : n < 10
  ·rw [jbs h10]; simp
  ·rw [jcj (by omega)]; simp
 rw [if_neg hne]
 have hv : (dec n).foldl (fun v c => v * 10 + (c.toNat - 48)) 0 = n := rdv_dec n
 have := jcr (dec n) 0 (jf2 n) (by omega)
 rw [hv] at this
 exact this
theorem jfL (z : Int) (h1 : -9223372036854775808 ≤ z) (h2 : z ≤ 9223372036854775807) : Go.Lib.parseIntB 64 (decZ z) = .ok z := by
 have hu := jeX z.natAbs (by omega)
 unfold decZ
 by_cases hz : z < 0
 ·rw [if_pos hz, Go.Lib.parseIntB_minus, hu]
  unfold Go.Lib.signedC
  simp only
  rw [if_neg (by omega)]
  congr 1
  omega
 ·rw [if_neg hz]
  have hne : dec z.natAbs ≠ [] := by
   by_cases h10 : z.natAbs < 10
   ·rw [jbs h10]; simp
   ·rw [jcj (by omega)]; simp
  have hd := jf2 z.natAbs
  revert hu hd hne
  generalize dec z.natAbs = l
  intro hu hne hd
  cases l with
  | nil => exact absurd rfl hne
  | cons c r =>
   have hc := hd c (by simp)
   unfold isDig at hc
   rw [decide_eq_true_eq] at hc
   rw [Go.Lib.parseIntB_plain 64 c r (by omega) (by omega), hu]
   unfold Go.Lib.signlessC
   simp only
   rw [if_neg (by omega)]
   congr 1
   omega
theorem decZ_len (z : Int) (h1 : -9223372036854775808 ≤ z) (h2 : z ≤ 9223372036854775807) : (decZ z).length ≤ 20 := by
 have := (jaS 19 z.natAbs (by omega) (by omega)).1
 unfold decZ
 split
 ·simp only [List.length_cons]; omega
 ·omega
end Go.Nb
namespace Go.Proofs.YtgjgpdceghjajaaGreatDoor
open Go Go.V Go.Nb Go.RowKit Go.Proofs
set_option maxHeartbeats 4000000
set_option maxRecDepth 1000000
theorem wcheck_k (z : Int) (h1 : -9223372036854775808 ≤ z) (h2 : z ≤ 9223372036854775807) (w : World) (hg : GlW w) : Calls Tryz.prog 144 #[.string ⟨(decZ z).toArray⟩] w fun e w' => e = .returned (.int .i64 0) ∧ RowKit.Below w.heap.size w w' := by
 have hl := decZ_len z h1 h2
 have hd : (dec z.natAbs).length ≤ 600 := jh1 (jaS 19 z.natAbs (by omega) (by omega)).1 (by omega)
 have hc := jb6 (decZ z) (by omega)
 rw [if_pos (jbx z hd)] at hc
 refine (jeS hc w hg (vs := [.string ⟨(decZ z).toArray⟩]) ?_).mono ?_
 ·simp only [DenL, Den]; exact ⟨_, _, rfl, ⟨rfl, by omega⟩, rfl⟩
 ·rintro e w' ⟨v, h', rfl, hv, hb⟩
  simp only [Den] at hv
  rw [hv.1]
  exact ⟨rfl, hb⟩
theorem int_w (z : Int) (h1 : -9223372036854775808 ≤ z) (h2 : z ≤ 9223372036854775807) (w : World) (hg : GlW w) : Calls Tryz.prog 112 #[.string ⟨(decZ z).toArray⟩] w fun e w' => e = .returned (.tuple #[.int .i64 z, .int .i64 0]) ∧ RowKit.Below w.heap.size w w' := by
 have hl := decZ_len z h1 h2
 have hc := wcheck_k z h1 h2 w hg
 have hp := jfL z h1 h2
 have hsz : (⟨(decZ z).toArray⟩ : ByteArray).size ≤ 9223372036854775806 := by simp [ByteArray.size]; omega
 have hpi := fun w => Tryz.strconv_ParseInt_10_at64_ok ⟨(decZ z).toArray⟩ hsz z (by simpa using hp) w
 go_enter Tryz.func112, Tryz.ntmps112
 go_wp2_with (go_at_call 144; refine hc.mono ?_)
 rintro e w1 ⟨rfl, hb1⟩
 go_wp2_with (go_at_call 149; refine (hpi w1).mono ?_)
 rintro e w2 ⟨rfl, hw⟩
 have hb2 : RowKit.Below w.heap.size w w2 := by
  rcases hw with rfl | ⟨t, rfl⟩
  ·exact hb1
  ·exact hb1.trans ((Lib.bytesWorld_below w1 _ _).mono hb1.size)
 go_wp2
 go_ret2
 exact ⟨rfl, hb2⟩
theorem int_c (z : Int) (h1 : -9223372036854775808 ≤ z) (h2 : z ≤ 9223372036854775807) : Called Tryz.prog 112 [.str (decZ z)] (.tup [.int .i64 z, .int .i64 0]) := by
 refine jaU Tryz.func112 rfl rfl rfl fun w hp vs ha hd => ?_
 simp only [DenL, Den] at hd
 obtain ⟨v, _, rfl, ⟨rfl, _⟩, rfl⟩ := hd
 refine (int_w z h1 h2 w ha.blk).mono fun e w' ⟨he, hw⟩ => ⟨⟨_, he, fun hp => ?_⟩, hw⟩
 simp only [Den, DenL]
 exact ⟨_, rfl, _, _, rfl, ⟨rfl, by simp only [InR, V.lo, V.hi]; omega⟩, _, _, rfl, ⟨rfl, by constructor <;> decide⟩, rfl⟩
end Go.Proofs.YtgjgpdceghjajaaGreatDoor
end
section
namespace Go.Proofs.YtgjgpdceghjajaaGreatDoor
open Go Go.V Go.Nb
theorem plus_m (a b : Nat) (ha : (mg 1000000000 a).length ≤ 100000000) (hb : (mg 1000000000 b).length ≤ 100000000) : Called Tryz.prog 184 [.ints .u32 (mg 1000000000 a), .ints .u32 (mg 1000000000 b)] (.ints .u32 (mg 1000000000 (a + b))) := by
  have hdx := mg_dg (B := 1000000000) (by omega) a
  have hdy := mg_dg (B := 1000000000) (by omega) b
  have hvx := jaC (B := 1000000000) (by omega) a
  have hvy := jaC (B := 1000000000) (by omega) b
  have hpx := fun h => jcq (B := 1000000000) (n := a) (by omega) h
  have hpy := fun h => jcq (B := 1000000000) (n := b) (by omega) h
  have hex := jb2 (B := 1000000000) (n := a) (by omega)
  have hey := jb2 (B := 1000000000) (n := b) (by omega)
  generalize mg 1000000000 a = xs at *
  generalize mg 1000000000 b = ys at *
  refine jaa tbOk 6 ⟨Tryz.func184, rfl, rfl, jhO rfl⟩ ?_
  (conv => whnf)
  refine V.st ?_
  refine Cnd.split (CondB.mk (fun hl => ?_) (fun hl => ?_))
  · rw [decide_eq_true_eq] at hl
    obtain ⟨N, hN⟩ : ∃ N, N = ys.length + 1 := ⟨_, rfl⟩
    have e1 : (ys.length : Int) + 1 = (N : Int) := by omega
    rw [Nat.add_comm a b]
    refine V.r0 (V.a2 e1 @jhT) ?_
    (obtain ⟨hdx, hdy⟩ := And.intro hdy hdx)
    refine jah ((false, 0, [], 0) : Bool × Nat × List Int × Int) (fun s => s.2.2.1.length = s.2.1 ∧ Dg 1000000000 s.2.2.1 ∧ (0 ≤ s.2.2.2 ∧ s.2.2.2 ≤ 1) ∧ val 1000000000 s.2.2.1 + s.2.2.2 * ((1000000000 : Nat) : Int) ^ s.2.1 = val 1000000000 ((ys).take s.2.1) + val 1000000000 ((xs).take s.2.1) ∧ s.2.1 ≤ (ys).length ∧ (s.1 = false → s.2.2.1 = [])) (fun s => (ys).length - s.2.1)
      (fun s => match s.1 with | false => [(22, .int .i64 s.2.1), (6, .int .u32 s.2.2.2), (5, .osl 19 0 0)] | true => [(22, .int .i64 s.2.1), (6, .int .u32 s.2.2.2), (5, .osl 47 0 s.2.2.1.length)]) (fun s => match s.1 with | false => [(19, .arr .u32 [])] | true => [(47, .arr .u32 s.2.2.1), (19, .gone)]) ?_ ?_ ?_
    · exact V.wk
    · exact ⟨rfl, fun x hx => by simp at hx, by simp, by simp [val], jhP _, fun _ => rfl⟩
    rintro ⟨_ | _, k, out, c⟩ ⟨h1, h2, h3, h4, h5, h6⟩
    · dsimp only at h1 h2 h3 h4 h5 h6 ⊢
      have h7 := h6 rfl
      clear h6
      subst h7
      have vx := jaj 1000000000 ys k
      have vy := jaj 1000000000 xs k
      have bx := jam (by omega) hdx k
      have by' := jam (by omega) hdy k
      have gy := jbW (xs := xs) (k := k)
      generalize hx0 : (ys).getD k 0 = x at *
      generalize hy0 : (xs).getD k 0 = y at *
      refine V.r0 @jhT ?_
      refine Cnd.split (CondB.mk (fun hq => ?_) (fun hq => ?_))
      · rw [decide_eq_true_eq] at hq
        refine V.r0 (V.a2 @jhT hx0) ?_
        refine Cnd.split (CondB.mk (fun hy => ?_) (fun hy => ?_))
        · rw [decide_eq_true_eq] at hy
          refine V.r0 (V.a2 @jhT hy0) ?_
          refine Cnd.split (CondB.mk (fun hz => ?_) (fun hz => ?_))
          · rw [decide_eq_true_eq] at hz
            have hst := jay (B := 1000000000) (x := x) (y := y) (d := (x + c + y - 1000000000)) (c' := 1) h1 h4 (by omega)
            rw [← vx, ← vy] at hst
            have hdg : Dg 1000000000 (([] : List Int) ++ [(x + c + y - 1000000000)]) := jai h2 (jas (by omega))
            have hl2 : (([] : List Int) ++ [(x + c + y - 1000000000)]).length = k + 1 := by simp [h1]
            have hl3 : (([] : List Int)).length + (List.take 1 (List.drop 0 [(x + c + y - 1000000000)])).length = (([] : List Int) ++ [(x + c + y - 1000000000)]).length := by simp
            have hkc : ((k : Int) + 1) = ((k + 1 : Nat) : Int) := by omega
            refine V.r0 (V.a3 hl3 hkc @jhS) ?_
            try refine And.intro (fun _ => ⟨trivial, by omega⟩) ?_
            refine V.r0 (V.a3 hl3 hkc @jhS) ?_
            exact ⟨(true, k + 1, ([] : List Int) ++ [(x + c + y - 1000000000)], 1), ⟨hl2, hdg, by dsimp only; omega, hst, by dsimp only; omega, fun h => by cases h⟩, by dsimp only; omega, V.wk⟩
          · rw [decide_eq_false_iff_not] at hz
            have hst := jay (B := 1000000000) (x := x) (y := y) (d := (x + c + y)) (c' := 0) h1 h4 (by omega)
            rw [← vx, ← vy] at hst
            have hdg : Dg 1000000000 (([] : List Int) ++ [(x + c + y)]) := jai h2 (jas (by omega))
            have hl2 : (([] : List Int) ++ [(x + c + y)]).length = k + 1 := by simp [h1]
            have hl3 : (([] : List Int)).length + (List.take 1 (List.drop 0 [(x + c + y)])).length = (([] : List Int) ++ [(x + c + y)]).length := by simp
            have hkc : ((k : Int) + 1) = ((k + 1 : Nat) : Int) := by omega
            refine V.r0 (V.a3 hl3 hkc @jhS) ?_
            try refine And.intro (fun _ => ⟨trivial, by omega⟩) ?_
            refine V.r0 (V.a3 hl3 hkc @jhS) ?_
            exact ⟨(true, k + 1, ([] : List Int) ++ [(x + c + y)], 0), ⟨hl2, hdg, by dsimp only; omega, hst, by dsimp only; omega, fun h => by cases h⟩, by dsimp only; omega, V.wk⟩
        · rw [decide_eq_false_iff_not] at hy
          have := gy (by omega)
          refine V.r0 @jhT ?_
          refine Cnd.split (CondB.mk (fun hz => ?_) (fun hz => ?_))
          · rw [decide_eq_true_eq] at hz
            have hst := jay (B := 1000000000) (x := x) (y := y) (d := (x + c - 1000000000)) (c' := 1) h1 h4 (by omega)
            rw [← vx, ← vy] at hst
            have hdg : Dg 1000000000 (([] : List Int) ++ [(x + c - 1000000000)]) := jai h2 (jas (by omega))
            have hl2 : (([] : List Int) ++ [(x + c - 1000000000)]).length = k + 1 := by simp [h1]
            have hl3 : (([] : List Int)).length + (List.take 1 (List.drop 0 [(x + c - 1000000000)])).length = (([] : List Int) ++ [(x + c - 1000000000)]).length := by simp
            have hkc : ((k : Int) + 1) = ((k + 1 : Nat) : Int) := by omega
            refine V.r0 (V.a3 hl3 hkc @jhS) ?_
            try refine And.intro (fun _ => ⟨trivial, by omega⟩) ?_
            refine V.r0 (V.a3 hl3 hkc @jhS) ?_
            exact ⟨(true, k + 1, ([] : List Int) ++ [(x + c - 1000000000)], 1), ⟨hl2, hdg, by dsimp only; omega, hst, by dsimp only; omega, fun h => by cases h⟩, by dsimp only; omega, V.wk⟩
          · rw [decide_eq_false_iff_not] at hz
            have hst := jay (B := 1000000000) (x := x) (y := y) (d := (x + c)) (c' := 0) h1 h4 (by omega)
            rw [← vx, ← vy] at hst
            have hdg : Dg 1000000000 (([] : List Int) ++ [(x + c)]) := jai h2 (jas (by omega))
            have hl2 : (([] : List Int) ++ [(x + c)]).length = k + 1 := by simp [h1]
            have hl3 : (([] : List Int)).length + (List.take 1 (List.drop 0 [(x + c)])).length = (([] : List Int) ++ [(x + c)]).length := by simp
            have hkc : ((k : Int) + 1) = ((k + 1 : Nat) : Int) := by omega
            refine V.r0 (V.a3 hl3 hkc @jhS) ?_
            try refine And.intro (fun _ => ⟨trivial, by omega⟩) ?_
            refine V.r0 (V.a3 hl3 hkc @jhS) ?_
            exact ⟨(true, k + 1, ([] : List Int) ++ [(x + c)], 0), ⟨hl2, hdg, by dsimp only; omega, hst, by dsimp only; omega, fun h => by cases h⟩, by dsimp only; omega, V.wk⟩
      · rw [decide_eq_false_iff_not] at hq
        have h7 : k = 0 := by simpa using h1.symm
        have h8 : (ys).length = 0 := by omega
        have e2 := hey.mp (List.length_eq_zero_iff.mp h8)
        have e3 := hex.mp (List.length_eq_zero_iff.mp (by omega))
        have e4 : c = 0 := by
          rw [List.take_of_length_le (by omega), List.take_of_length_le (by omega), hvy, hvx, e2, e3, h7] at h4
          simpa [val] using h4
        subst e4 h7
        rw [e2, e3]
        (conv => whnf)
        refine V.st ?_
        exact Fin.of rfl
    · clear h6
      dsimp only at h1 h2 h3 h4 h5 ⊢
      have vx := jaj 1000000000 ys k
      have vy := jaj 1000000000 xs k
      have bx := jam (by omega) hdx k
      have by' := jam (by omega) hdy k
      have gy := jbW (xs := xs) (k := k)
      generalize hx0 : (ys).getD k 0 = x at *
      generalize hy0 : (xs).getD k 0 = y at *
      refine V.r0 @jhT ?_
      refine Cnd.split (CondB.mk (fun hq => ?_) (fun hq => ?_))
      · rw [decide_eq_true_eq] at hq
        refine V.r0 (V.a2 @jhT hx0) ?_
        refine Cnd.split (CondB.mk (fun hy => ?_) (fun hy => ?_))
        · rw [decide_eq_true_eq] at hy
          refine V.r0 (V.a2 @jhT hy0) ?_
          refine Cnd.split (CondB.mk (fun hz => ?_) (fun hz => ?_))
          · rw [decide_eq_true_eq] at hz
            have hst := jay (B := 1000000000) (x := x) (y := y) (d := (x + c + y - 1000000000)) (c' := 1) h1 h4 (by omega)
            rw [← vx, ← vy] at hst
            have hdg : Dg 1000000000 (out ++ [(x + c + y - 1000000000)]) := jai h2 (jas (by omega))
            have hl2 : (out ++ [(x + c + y - 1000000000)]).length = k + 1 := by simp [h1]
            have hl3 : (out).length + (List.take 1 (List.drop 0 [(x + c + y - 1000000000)])).length = (out ++ [(x + c + y - 1000000000)]).length := by simp
            have hkc : ((k : Int) + 1) = ((k + 1 : Nat) : Int) := by omega
            refine V.r0 (V.a3 hl3 hkc @jhS) ?_
            try refine And.intro (fun _ => ⟨trivial, by omega⟩) ?_
            refine V.r0 (V.a3 hl3 hkc @jhS) ?_
            exact ⟨(true, k + 1, out ++ [(x + c + y - 1000000000)], 1), ⟨hl2, hdg, by dsimp only; omega, hst, by dsimp only; omega, fun h => by cases h⟩, by dsimp only; omega, V.wk⟩
          · rw [decide_eq_false_iff_not] at hz
            have hst := jay (B := 1000000000) (x := x) (y := y) (d := (x + c + y)) (c' := 0) h1 h4 (by omega)
            rw [← vx, ← vy] at hst
            have hdg : Dg 1000000000 (out ++ [(x + c + y)]) := jai h2 (jas (by omega))
            have hl2 : (out ++ [(x + c + y)]).length = k + 1 := by simp [h1]
            have hl3 : (out).length + (List.take 1 (List.drop 0 [(x + c + y)])).length = (out ++ [(x + c + y)]).length := by simp
            have hkc : ((k : Int) + 1) = ((k + 1 : Nat) : Int) := by omega
            refine V.r0 (V.a3 hl3 hkc @jhS) ?_
            try refine And.intro (fun _ => ⟨trivial, by omega⟩) ?_
            refine V.r0 (V.a3 hl3 hkc @jhS) ?_
            exact ⟨(true, k + 1, out ++ [(x + c + y)], 0), ⟨hl2, hdg, by dsimp only; omega, hst, by dsimp only; omega, fun h => by cases h⟩, by dsimp only; omega, V.wk⟩
        · rw [decide_eq_false_iff_not] at hy
          have := gy (by omega)
          refine V.r0 @jhT ?_
          refine Cnd.split (CondB.mk (fun hz => ?_) (fun hz => ?_))
          · rw [decide_eq_true_eq] at hz
            have hst := jay (B := 1000000000) (x := x) (y := y) (d := (x + c - 1000000000)) (c' := 1) h1 h4 (by omega)
            rw [← vx, ← vy] at hst
            have hdg : Dg 1000000000 (out ++ [(x + c - 1000000000)]) := jai h2 (jas (by omega))
            have hl2 : (out ++ [(x + c - 1000000000)]).length = k + 1 := by simp [h1]
            have hl3 : (out).length + (List.take 1 (List.drop 0 [(x + c - 1000000000)])).length = (out ++ [(x + c - 1000000000)]).length := by simp
            have hkc : ((k : Int) + 1) = ((k + 1 : Nat) : Int) := by omega
            refine V.r0 (V.a3 hl3 hkc @jhS) ?_
            try refine And.intro (fun _ => ⟨trivial, by omega⟩) ?_
            refine V.r0 (V.a3 hl3 hkc @jhS) ?_
            exact ⟨(true, k + 1, out ++ [(x + c - 1000000000)], 1), ⟨hl2, hdg, by dsimp only; omega, hst, by dsimp only; omega, fun h => by cases h⟩, by dsimp only; omega, V.wk⟩
          · rw [decide_eq_false_iff_not] at hz
            have hst := jay (B := 1000000000) (x := x) (y := y) (d := (x + c)) (c' := 0) h1 h4 (by omega)
            rw [← vx, ← vy] at hst
            have hdg : Dg 1000000000 (out ++ [(x + c)]) := jai h2 (jas (by omega))
            have hl2 : (out ++ [(x + c)]).length = k + 1 := by simp [h1]
            have hl3 : (out).length + (List.take 1 (List.drop 0 [(x + c)])).length = (out ++ [(x + c)]).length := by simp
            have hkc : ((k : Int) + 1) = ((k + 1 : Nat) : Int) := by omega
            refine V.r0 (V.a3 hl3 hkc @jhS) ?_
            try refine And.intro (fun _ => ⟨trivial, by omega⟩) ?_
            refine V.r0 (V.a3 hl3 hkc @jhS) ?_
            exact ⟨(true, k + 1, out ++ [(x + c)], 0), ⟨hl2, hdg, by dsimp only; omega, hst, by dsimp only; omega, fun h => by cases h⟩, by dsimp only; omega, V.wk⟩
      · rw [decide_eq_false_iff_not] at hq
        have hk : k = (ys).length := by omega
        rw [List.take_of_length_le (by omega), List.take_of_length_le (by omega), hvy, hvx] at h4
        (conv => whnf)
        refine V.st ?_
        refine Cnd.split (CondB.mk (fun hc => ?_) (fun hc => ?_))
        · rw [decide_eq_true_eq] at hc
          have hc1 : c = 1 := by omega
          subst hc1
          have h8 : out ++ [1] = mg 1000000000 (b + a) := by
            have h9 : val 1000000000 (out ++ [1]) = ((b + a : Nat) : Int) := by rw [jaO, h1]; omega
            have h10 := jdb (B := 1000000000) (l := out ++ [1]) (by omega) (jai h2 (jas (by omega))) (by
              rw [jaO, List.length_append, List.length_singleton, Nat.add_sub_cancel]
              have := jan h2
              omega)
            rw [h10, h9]; rfl
          (conv => whnf)
          refine V.st ?_
          exact Fin.of (by rw [← h8]; exact congrArg _ (List.take_of_length_le (by simp)))
        · rw [decide_eq_false_iff_not] at hc
          have hc1 : c = 0 := by omega
          subst hc1
          have h8 : out = mg 1000000000 (b + a) := by
            have h9 : val 1000000000 out = ((b + a : Nat) : Int) := by omega
            rcases jhV b with h0 | h0
            · have h10 : (ys).length = 0 := by rw [hey.mpr h0]; rfl
              have e3 := hex.mp (List.length_eq_zero_iff.mp (by omega))
              rw [h0, e3, List.length_eq_zero_iff.mp (by omega : out.length = 0)]; rfl
            · have h10 := jdb (B := 1000000000) (l := out) (by omega) h2 (by
                have h11 := hpy h0
                rw [h1, h9, hk]
                have h12 : ((1000000000 ^ ((ys).length - 1) : Nat) : Int) ≤ (b : Int) := by exact_mod_cast h11
                rw [jid] at h12
                omega)
              rw [h10, h9]; rfl
          (conv => whnf)
          refine V.st ?_
          exact Fin.of (by rw [← h8, List.take_of_length_le (by simp)])
  · rw [decide_eq_false_iff_not] at hl
    obtain ⟨N, hN⟩ : ∃ N, N = xs.length + 1 := ⟨_, rfl⟩
    have e1 : (xs.length : Int) + 1 = (N : Int) := by omega
    refine V.r0 (V.a2 e1 @jhT) ?_
    refine jah ((false, 0, [], 0) : Bool × Nat × List Int × Int) (fun s => s.2.2.1.length = s.2.1 ∧ Dg 1000000000 s.2.2.1 ∧ (0 ≤ s.2.2.2 ∧ s.2.2.2 ≤ 1) ∧ val 1000000000 s.2.2.1 + s.2.2.2 * ((1000000000 : Nat) : Int) ^ s.2.1 = val 1000000000 ((xs).take s.2.1) + val 1000000000 ((ys).take s.2.1) ∧ s.2.1 ≤ (xs).length ∧ (s.1 = false → s.2.2.1 = [])) (fun s => (xs).length - s.2.1)
      (fun s => match s.1 with | false => [(22, .int .i64 s.2.1), (6, .int .u32 s.2.2.2), (5, .osl 19 0 0)] | true => [(22, .int .i64 s.2.1), (6, .int .u32 s.2.2.2), (5, .osl 47 0 s.2.2.1.length)]) (fun s => match s.1 with | false => [(19, .arr .u32 [])] | true => [(47, .arr .u32 s.2.2.1), (19, .gone)]) ?_ ?_ ?_
    · exact V.wk
    · exact ⟨rfl, fun x hx => by simp at hx, by simp, by simp [val], jhP _, fun _ => rfl⟩
    rintro ⟨_ | _, k, out, c⟩ ⟨h1, h2, h3, h4, h5, h6⟩
    · dsimp only at h1 h2 h3 h4 h5 h6 ⊢
      have h7 := h6 rfl
      clear h6
      subst h7
      have vx := jaj 1000000000 xs k
      have vy := jaj 1000000000 ys k
      have bx := jam (by omega) hdx k
      have by' := jam (by omega) hdy k
      have gy := jbW (xs := ys) (k := k)
      generalize hx0 : (xs).getD k 0 = x at *
      generalize hy0 : (ys).getD k 0 = y at *
      refine V.r0 @jhT ?_
      refine Cnd.split (CondB.mk (fun hq => ?_) (fun hq => ?_))
      · rw [decide_eq_true_eq] at hq
        refine V.r0 (V.a2 @jhT hx0) ?_
        refine Cnd.split (CondB.mk (fun hy => ?_) (fun hy => ?_))
        · rw [decide_eq_true_eq] at hy
          refine V.r0 (V.a2 @jhT hy0) ?_
          refine Cnd.split (CondB.mk (fun hz => ?_) (fun hz => ?_))
          · rw [decide_eq_true_eq] at hz
            have hst := jay (B := 1000000000) (x := x) (y := y) (d := (x + c + y - 1000000000)) (c' := 1) h1 h4 (by omega)
            rw [← vx, ← vy] at hst
            have hdg : Dg 1000000000 (([] : List Int) ++ [(x + c + y - 1000000000)]) := jai h2 (jas (by omega))
            have hl2 : (([] : List Int) ++ [(x + c + y - 1000000000)]).length = k + 1 := by simp [h1]
            have hl3 : (([] : List Int)).length + (List.take 1 (List.drop 0 [(x + c + y - 1000000000)])).length = (([] : List Int) ++ [(x + c + y - 1000000000)]).length := by simp
            have hkc : ((k : Int) + 1) = ((k + 1 : Nat) : Int) := by omega
            refine V.r0 (V.a3 hl3 hkc @jhS) ?_
            try refine And.intro (fun _ => ⟨trivial, by omega⟩) ?_
            refine V.r0 (V.a3 hl3 hkc @jhS) ?_
            exact ⟨(true, k + 1, ([] : List Int) ++ [(x + c + y - 1000000000)], 1), ⟨hl2, hdg, by dsimp only; omega, hst, by dsimp only; omega, fun h => by cases h⟩, by dsimp only; omega, V.wk⟩
          · rw [decide_eq_false_iff_not] at hz
            have hst := jay (B := 1000000000) (x := x) (y := y) (d := (x + c + y)) (c' := 0) h1 h4 (by omega)
            rw [← vx, ← vy] at hst
            have hdg : Dg 1000000000 (([] : List Int) ++ [(x + c + y)]) := jai h2 (jas (by omega))
            have hl2 : (([] : List Int) ++ [(x + c + y)]).length = k + 1 := by simp [h1]
            have hl3 : (([] : List Int)).length + (List.take 1 (List.drop 0 [(x + c + y)])).length = (([] : List Int) ++ [(x + c + y)]).length := by simp
            have hkc : ((k : Int) + 1) = ((k + 1 : Nat) : Int) := by omega
            refine V.r0 (V.a3 hl3 hkc @jhS) ?_
            try refine And.intro (fun _ => ⟨trivial, by omega⟩) ?_
            refine V.r0 (V.a3 hl3 hkc @jhS) ?_
            exact ⟨(true, k + 1, ([] : List Int) ++ [(x + c + y)], 0), ⟨hl2, hdg, by dsimp only; omega, hst, by dsimp only; omega, fun h => by cases h⟩, by dsimp only; omega, V.wk⟩
        · rw [decide_eq_false_iff_not] at hy
          have := gy (by omega)
          refine V.r0 @jhT ?_
          refine Cnd.split (CondB.mk (fun hz => ?_) (fun hz => ?_))
          · rw [decide_eq_true_eq] at hz
            have hst := jay (B := 1000000000) (x := x) (y := y) (d := (x + c - 1000000000)) (c' := 1) h1 h4 (by omega)
            rw [← vx, ← vy] at hst
            have hdg : Dg 1000000000 (([] : List Int) ++ [(x + c - 1000000000)]) := jai h2 (jas (by omega))
            have hl2 : (([] : List Int) ++ [(x + c - 1000000000)]).length = k + 1 := by simp [h1]
            have hl3 : (([] : List Int)).length + (List.take 1 (List.drop 0 [(x + c - 1000000000)])).length = (([] : List Int) ++ [(x + c - 1000000000)]).length := by simp
            have hkc : ((k : Int) + 1) = ((k + 1 : Nat) : Int) := by omega
            refine V.r0 (V.a3 hl3 hkc @jhS) ?_
            try refine And.intro (fun _ => ⟨trivial, by omega⟩) ?_
            refine V.r0 (V.a3 hl3 hkc @jhS) ?_
            exact ⟨(true, k + 1, ([] : List Int) ++ [(x + c - 1000000000)], 1), ⟨hl2, hdg, by dsimp only; omega, hst, by dsimp only; omega, fun h => by cases h⟩, by dsimp only; omega, V.wk⟩
          · rw [decide_eq_false_iff_not] at hz
            have hst := jay (B := 1000000000) (x := x) (y := y) (d := (x + c)) (c' := 0) h1 h4 (by omega)
            rw [← vx, ← vy] at hst
            have hdg : Dg 1000000000 (([] : List Int) ++ [(x + c)]) := jai h2 (jas (by omega))
            have hl2 : (([] : List Int) ++ [(x + c)]).length = k + 1 := by simp [h1]
            have hl3 : (([] : List Int)).length + (List.take 1 (List.drop 0 [(x + c)])).length = (([] : List Int) ++ [(x + c)]).length := by simp
            have hkc : ((k : Int) + 1) = ((k + 1 : Nat) : Int) := by omega
            refine V.r0 (V.a3 hl3 hkc @jhS) ?_
            try refine And.intro (fun _ => ⟨trivial, by omega⟩) ?_
            refine V.r0 (V.a3 hl3 hkc @jhS) ?_
            exact ⟨(true, k + 1, ([] : List Int) ++ [(x + c)], 0), ⟨hl2, hdg, by dsimp only; omega, hst, by dsimp only; omega, fun h => by cases h⟩, by dsimp only; omega, V.wk⟩
      · rw [decide_eq_false_iff_not] at hq
        have h7 : k = 0 := by simpa using h1.symm
        have h8 : (xs).length = 0 := by omega
        have e2 := hex.mp (List.length_eq_zero_iff.mp h8)
        have e3 := hey.mp (List.length_eq_zero_iff.mp (by omega))
        have e4 : c = 0 := by
          rw [List.take_of_length_le (by omega), List.take_of_length_le (by omega), hvx, hvy, e2, e3, h7] at h4
          simpa [val] using h4
        subst e4 h7
        rw [e2, e3]
        (conv => whnf)
        refine V.st ?_
        exact Fin.of rfl
    · clear h6
      dsimp only at h1 h2 h3 h4 h5 ⊢
      have vx := jaj 1000000000 xs k
      have vy := jaj 1000000000 ys k
      have bx := jam (by omega) hdx k
      have by' := jam (by omega) hdy k
      have gy := jbW (xs := ys) (k := k)
      generalize hx0 : (xs).getD k 0 = x at *
      generalize hy0 : (ys).getD k 0 = y at *
      refine V.r0 @jhT ?_
      refine Cnd.split (CondB.mk (fun hq => ?_) (fun hq => ?_))
      · rw [decide_eq_true_eq] at hq
        refine V.r0 (V.a2 @jhT hx0) ?_
        refine Cnd.split (CondB.mk (fun hy => ?_) (fun hy => ?_))
        · rw [decide_eq_true_eq] at hy
          refine V.r0 (V.a2 @jhT hy0) ?_
          refine Cnd.split (CondB.mk (fun hz => ?_) (fun hz => ?_))
          · rw [decide_eq_true_eq] at hz
            have hst := jay (B := 1000000000) (x := x) (y := y) (d := (x + c + y - 1000000000)) (c' := 1) h1 h4 (by omega)
            rw [← vx, ← vy] at hst
            have hdg : Dg 1000000000 (out ++ [(x + c + y - 1000000000)]) := jai h2 (jas (by omega))
            have hl2 : (out ++ [(x + c + y - 1000000000)]).length = k + 1 := by simp [h1]
            have hl3 : (out).length + (List.take 1 (List.drop 0 [(x + c + y - 1000000000)])).length = (out ++ [(x + c + y - 1000000000)]).length := by simp
            have hkc : ((k : Int) + 1) = ((k + 1 : Nat) : Int) := by omega
            refine V.r0 (V.a3 hl3 hkc @jhS) ?_
            try refine And.intro (fun _ => ⟨trivial, by omega⟩) ?_
            refine V.r0 (V.a3 hl3 hkc @jhS) ?_
            exact ⟨(true, k + 1, out ++ [(x + c + y - 1000000000)], 1), ⟨hl2, hdg, by dsimp only; omega, hst, by dsimp only; omega, fun h => by cases h⟩, by dsimp only; omega, V.wk⟩
          · rw [decide_eq_false_iff_not] at hz
            have hst := jay (B := 1000000000) (x := x) (y := y) (d := (x + c + y)) (c' := 0) h1 h4 (by omega)
            rw [← vx, ← vy] at hst
            have hdg : Dg 1000000000 (out ++ [(x + c + y)]) := jai h2 (jas (by omega))
            have hl2 : (out ++ [(x + c + y)]).length = k + 1 := by simp [h1]
            have hl3 : (out).length + (List.take 1 (List.drop 0 [(x + c + y)])).length = (out ++ [(x + c + y)]).length := by simp
            have hkc : ((k : Int) + 1) = ((k + 1 : Nat) : Int) := by omega
            refine V.r0 (V.a3 hl3 hkc @jhS) ?_
            try refine And.intro (fun _ => ⟨trivial, by omega⟩) ?_
            refine V.r0 (V.a3 hl3 hkc @jhS) ?_
            exact ⟨(true, k + 1, out ++ [(x + c + y)], 0), ⟨hl2, hdg, by dsimp only; omega, hst, by dsimp only; omega, fun h => by cases h⟩, by dsimp only; omega, V.wk⟩
        · rw [decide_eq_false_iff_not] at hy
          have := gy (by omega)
          refine V.r0 @jhT ?_
          refine Cnd.split (CondB.mk (fun hz => ?_) (fun hz => ?_))
          · rw [decide_eq_true_eq] at hz
            have hst := jay (B := 1000000000) (x := x) (y := y) (d := (x + c - 1000000000)) (c' := 1) h1 h4 (by omega)
            rw [← vx, ← vy] at hst
            have hdg : Dg 1000000000 (out ++ [(x + c - 1000000000)]) := jai h2 (jas (by omega))
            have hl2 : (out ++ [(x + c - 1000000000)]).length = k + 1 := by simp [h1]
            have hl3 : (out).length + (List.take 1 (List.drop 0 [(x + c - 1000000000)])).length = (out ++ [(x + c - 1000000000)]).length := by simp
            have hkc : ((k : Int) + 1) = ((k + 1 : Nat) : Int) := by omega
            refine V.r0 (V.a3 hl3 hkc @jhS) ?_
            try refine And.intro (fun _ => ⟨trivial, by omega⟩) ?_
            refine V.r0 (V.a3 hl3 hkc @jhS) ?_
            exact ⟨(true, k + 1, out ++ [(x + c - 1000000000)], 1), ⟨hl2, hdg, by dsimp only; omega, hst, by dsimp only; omega, fun h => by cases h⟩, by dsimp only; omega, V.wk⟩
          · rw [decide_eq_false_iff_not] at hz
            have hst := jay (B := 1000000000) (x := x) (y := y) (d := (x + c)) (c' := 0) h1 h4 (by omega)
            rw [← vx, ← vy] at hst
            have hdg : Dg 1000000000 (out ++ [(x + c)]) := jai h2 (jas (by omega))
            have hl2 : (out ++ [(x + c)]).length = k + 1 := by simp [h1]
            have hl3 : (out).length + (List.take 1 (List.drop 0 [(x + c)])).length = (out ++ [(x + c)]).length := by simp
            have hkc : ((k : Int) + 1) = ((k + 1 : Nat) : Int) := by omega
            refine V.r0 (V.a3 hl3 hkc @jhS) ?_
            try refine And.intro (fun _ => ⟨trivial, by omega⟩) ?_
            refine V.r0 (V.a3 hl3 hkc @jhS) ?_
            exact ⟨(true, k + 1, out ++ [(x + c)], 0), ⟨hl2, hdg, by dsimp only; omega, hst, by dsimp only; omega, fun h => by cases h⟩, by dsimp only; omega, V.wk⟩
      · rw [decide_eq_false_iff_not] at hq
        have hk : k = (xs).length := by omega
        rw [List.take_of_length_le (by omega), List.take_of_length_le (by omega), hvx, hvy] at h4
        (conv => whnf)
        refine V.st ?_
        refine Cnd.split (CondB.mk (fun hc => ?_) (fun hc => ?_))
        · rw [decide_eq_true_eq] at hc
          have hc1 : c = 1 := by omega
          subst hc1
          have h8 : out ++ [1] = mg 1000000000 (a + b) := by
            have h9 : val 1000000000 (out ++ [1]) = ((a + b : Nat) : Int) := by rw [jaO, h1]; omega
            have h10 := jdb (B := 1000000000) (l := out ++ [1]) (by omega) (jai h2 (jas (by omega))) (by
              rw [jaO, List.length_append, List.length_singleton, Nat.add_sub_cancel]
              have := jan h2
              omega)
            rw [h10, h9]; rfl
          (conv => whnf)
          refine V.st ?_
          exact Fin.of (by rw [← h8]; exact congrArg _ (List.take_of_length_le (by simp)))
        · rw [decide_eq_false_iff_not] at hc
          have hc1 : c = 0 := by omega
          subst hc1
          have h8 : out = mg 1000000000 (a + b) := by
            have h9 : val 1000000000 out = ((a + b : Nat) : Int) := by omega
            rcases jhV a with h0 | h0
            · have h10 : (xs).length = 0 := by rw [hex.mpr h0]; rfl
              have e3 := hey.mp (List.length_eq_zero_iff.mp (by omega))
              rw [h0, e3, List.length_eq_zero_iff.mp (by omega : out.length = 0)]; rfl
            · have h10 := jdb (B := 1000000000) (l := out) (by omega) h2 (by
                have h11 := hpx h0
                rw [h1, h9, hk]
                have h12 : ((1000000000 ^ ((xs).length - 1) : Nat) : Int) ≤ (a : Int) := by exact_mod_cast h11
                rw [jid] at h12
                omega)
              rw [h10, h9]; rfl
          (conv => whnf)
          refine V.st ?_
          exact Fin.of (by rw [← h8, List.take_of_length_le (by simp)])
theorem jfM {out : List Int} {n k : Nat} {d : Int} (h : out.length = k) (hk : k < n) : (out ++ List.replicate (n - k) 0).set k d = (out ++ [d]) ++ List.replicate (n - (k + 1)) 0 := by
 subst h
 have e : n - out.length = (n - (out.length + 1)) + 1 := by omega
 rw [e, List.replicate_succ, List.set_append_right _ _ (jhU _), Nat.sub_self, List.set_cons_zero]
 simp
theorem jhM : type_of% @jhT ∧ type_of% @jhS := ⟨@jhT, @jhS⟩
theorem minus_m (a b : Nat) (hba : b ≤ a) (ha : (mg 1000000000 a).length ≤ 100000000) : Called Tryz.prog 185 [.ints .u32 (mg 1000000000 a), .ints .u32 (mg 1000000000 b)] (.ints .u32 (mg 1000000000 (a - b))) := by
 have hdx := mg_dg (B := 1000000000) (by omega) a
 have hdy := mg_dg (B := 1000000000) (by omega) b
 have hvx := jaC (B := 1000000000) (by omega) a
 have hvy := jaC (B := 1000000000) (by omega) b
 have hlen := jaf (B := 1000000000) (by omega) hba
 generalize mg 1000000000 a = xs at *
 generalize mg 1000000000 b = ys at *
 refine jaa tbOk 6 ⟨Tryz.func185, rfl, rfl, jhO rfl⟩ ?_
 (conv => whnf)
 refine V.r0 @jhT ?_
 refine jah ((0, [], 0) : Nat × List Int × Int) (fun s => s.2.1.length = s.1 ∧ Dg 1000000000 s.2.1 ∧ (0 ≤ s.2.2 ∧ s.2.2 ≤ 1) ∧ val 1000000000 s.2.1 - s.2.2 * ((1000000000 : Nat) : Int) ^ s.1 = val 1000000000 (xs.take s.1) - val 1000000000 (ys.take s.1) ∧ s.1 ≤ xs.length) (fun s => xs.length - s.1)
  (fun s => [(15, .int .i64 s.1), (6, .int .u32 s.2.2), (5, .osl 12 0 xs.length)]) (fun s => [(12, .arr .u32 (s.2.1 ++ List.replicate (xs.length - s.1) 0))]) ?_ ?_ ?_
 ·exact V.wk
 ·exact ⟨rfl, fun x hx => by simp at hx, by simp, by simp [val], jhP _⟩
 rintro ⟨k, out, c⟩ ⟨h1, h2, h3, h4, h5⟩
 dsimp only at h1 h2 h3 h4 h5 ⊢
 have vx := jaj 1000000000 xs k
 have vy := jaj 1000000000 ys k
 have bx := jam (by omega) hdx k
 have by' := jam (by omega) hdy k
 have gy := jbW (xs := ys) (k := k)
 generalize hx0 : xs.getD k 0 = x at *
 generalize hy0 : ys.getD k 0 = y at *
 refine V.r0 @jhT ?_
 refine Cnd.split (CondB.mk (fun hq => ?_) (fun hq => ?_))
 ·rw [decide_eq_true_eq] at hq
  refine V.r0 (V.a2 @jhT hx0) ?_
  refine Cnd.split (CondB.mk (fun hy => ?_) (fun hy => ?_))
  ·rw [decide_eq_true_eq] at hy
   refine V.r0 (V.a2 @jhT hy0) ?_
   refine Cnd.split (CondB.mk (fun hz => ?_) (fun hz => ?_))
   ·rw [decide_eq_true_eq] at hz
    have hst := jbJ (B := 1000000000) (x := x) (y := y) (d := (x + 1000000000 - (c + y))) (b' := 1) h1 h4 (by omega)
    rw [← vx, ← vy] at hst
    have hdg : Dg 1000000000 (out ++ [(x + 1000000000 - (c + y))]) := jai h2 (jas (by omega))
    have hps := jfM (d := (x + 1000000000 - (c + y))) (n := xs.length) h1 (by omega)
    have hkc : ((k : Int) + 1) = ((k + 1 : Nat) : Int) := by omega
    refine V.r0 (V.a3 jhM hps hkc) ?_
    refine V.r0 (V.a3 jhM hps hkc) ?_
    exact ⟨(k + 1, out ++ [(x + 1000000000 - (c + y))], 1), ⟨by dsimp only; simp [h1], hdg, by dsimp only; omega, hst, by dsimp only; omega⟩, by dsimp only; omega, V.wk⟩
   ·rw [decide_eq_false_iff_not] at hz
    have hst := jbJ (B := 1000000000) (x := x) (y := y) (d := (x - (c + y))) (b' := 0) h1 h4 (by omega)
    rw [← vx, ← vy] at hst
    have hdg : Dg 1000000000 (out ++ [(x - (c + y))]) := jai h2 (jas (by omega))
    have hps := jfM (d := (x - (c + y))) (n := xs.length) h1 (by omega)
    have hkc : ((k : Int) + 1) = ((k + 1 : Nat) : Int) := by omega
    refine V.r0 (V.a3 jhM hps hkc) ?_
    refine V.r0 (V.a3 jhM hps hkc) ?_
    exact ⟨(k + 1, out ++ [(x - (c + y))], 0), ⟨by dsimp only; simp [h1], hdg, by dsimp only; omega, hst, by dsimp only; omega⟩, by dsimp only; omega, V.wk⟩
  ·rw [decide_eq_false_iff_not] at hy
   have := gy (by omega)
   refine V.r0 @jhT ?_
   refine Cnd.split (CondB.mk (fun hz => ?_) (fun hz => ?_))
   ·rw [decide_eq_true_eq] at hz
    have hst := jbJ (B := 1000000000) (x := x) (y := y) (d := (x + 1000000000 - c)) (b' := 1) h1 h4 (by omega)
    rw [← vx, ← vy] at hst
    have hdg : Dg 1000000000 (out ++ [(x + 1000000000 - c)]) := jai h2 (jas (by omega))
    have hps := jfM (d := (x + 1000000000 - c)) (n := xs.length) h1 (by omega)
    have hkc : ((k : Int) + 1) = ((k + 1 : Nat) : Int) := by omega
    refine V.r0 (V.a3 jhM hps hkc) ?_
    refine V.r0 (V.a3 jhM hps hkc) ?_
    exact ⟨(k + 1, out ++ [(x + 1000000000 - c)], 1), ⟨by dsimp only; simp [h1], hdg, by dsimp only; omega, hst, by dsimp only; omega⟩, by dsimp only; omega, V.wk⟩
   ·rw [decide_eq_false_iff_not] at hz
    have hst := jbJ (B := 1000000000) (x := x) (y := y) (d := (x - c)) (b' := 0) h1 h4 (by omega)
    rw [← vx, ← vy] at hst
    have hdg : Dg 1000000000 (out ++ [(x - c)]) := jai h2 (jas (by omega))
    have hps := jfM (d := (x - c)) (n := xs.length) h1 (by omega)
    have hkc : ((k : Int) + 1) = ((k + 1 : Nat) : Int) := by omega
    refine V.r0 (V.a3 jhM hps hkc) ?_
    refine V.r0 (V.a3 jhM hps hkc) ?_
    exact ⟨(k + 1, out ++ [(x - c)], 0), ⟨by dsimp only; simp [h1], hdg, by dsimp only; omega, hst, by dsimp only; omega⟩, by dsimp only; omega, V.wk⟩
 ·rw [decide_eq_false_iff_not] at hq
  have hk : k = xs.length := by omega
  rw [List.take_of_length_le (by omega), List.take_of_length_le (by omega), hvx, hvy] at h4
  have h0 := jan h2
  have h6 := jbX h2
  have hc : c = 0 := by
   rw [h1] at h6
   rcases (by omega : c = 0 ∨ c = 1) with e | e
   ·exact e
   ·subst e; omega
  subst hc
  have htr := je2 out h2 (by omega)
  rw [(by omega : (val 1000000000 out).toNat = a - b)] at htr
  have hrep : out ++ List.replicate (xs.length - k) 0 = out := by rw [hk, Nat.sub_self]; simp
  rw [hrep]
  rw [← List.take_length (l := out), h1, hk] at htr
  (conv => whnf)
  refine V.st ?_
  repeat ((try ((with_reducible refine .ext ?_); (conv => whnf))); (with_reducible refine jab (r := ?_) ?_ ?_); rotate_left; (focus (first | exact (htr))); (conv => whnf); refine V.st ?_)
  exact Fin.of rfl
theorem jgW (x y : Rat) : (x.num * y.den + -(y.num * x.den)).sign = (if x < y then -1 else if x = y then 0 else 1 : Int) := by
 have h1 : x < y ↔ x.num * y.den < y.num * x.den := Rat.lt_iff x y
 have h2 : x = y ↔ x.num * y.den = y.num * x.den := by
  conv => lhs; rw [← jii x, ← jii y]
  exact Rat.divInt_eq_divInt_iff (by have := x.den_pos; omega) (by have := y.den_pos; omega)
 by_cases a1 : x < y
 ·rw [if_pos a1]; exact jig (by have := h1.1 a1; omega)
 ·rw [if_neg a1]
  by_cases a2 : x = y
  ·rw [if_pos a2, show x.num * y.den + -(y.num * x.den) = 0 by have := h2.1 a2; omega]; rfl
  ·rw [if_neg a2]
   refine jih ?_
   have b1 : ¬ (x.num * y.den < y.num * x.den) := fun h => a1 (h1.2 h)
   have b2 : ¬ (x.num * y.den = y.num * x.den) := fun h => a2 (h2.2 h)
   omega
def ordQ (x y : Rat) : Int := if x < y then -1 else if x = y then 0 else 1
def S9 (k : Nat) (z : Int) : Prop := (mg 1000000000 z.natAbs).length ≤ k
theorem S9.mono {k l : Nat} {z : Int} (h : S9 k z) (hl : k ≤ l) : S9 l z := jh1 h hl
theorem S9.neg {k : Nat} {z : Int} (h : S9 k z) : S9 k (-z) := by unfold S9 at *; rw [Int.natAbs_neg]; exact h
theorem S9.le {k : Nat} {y z : Int} (h : S9 k z) (hy : y.natAbs ≤ z.natAbs) : S9 k y := jh1 (jaf (by omega) hy) h
theorem S9.mul {k l : Nat} {y z : Int} (h : S9 k y) (h2 : S9 l z) : S9 (k + l) (y * z) := by
 unfold S9 at *
 rw [Int.natAbs_mul]
 have := jbC (B := 1000000000) (by omega) y.natAbs z.natAbs
 omega
theorem S9.add {k : Nat} {y z : Int} (h : S9 k y) (h2 : S9 k z) : S9 (k + 1) (y + z) := by
 unfold S9 at *
 have h3 := jcF (B := 1000000000) (by omega) y.natAbs z.natAbs
 have h4 := jaf (B := 1000000000) (by omega) (Int.natAbs_add_le y z)
 omega
theorem S9.lit {k : Nat} {z : Int} (h : z.natAbs < 1000000000 ^ k) : S9 k z := jau (by omega) h
theorem S9.nat {k : Nat} {n : Nat} : S9 k (n : Int) ↔ (mg 1000000000 n).length ≤ k := by unfold S9; rw [jh8]
theorem sum_c9 (x y : Int) (hx : S9 90000000 x) (hy : S9 90000000 y) : Called Tryz.prog 152 [itD x, itD y] (itD (x + y)) := by
 unfold S9 at hx hy
 have hl := jcF (B := 1000000000) (by omega) x.natAbs y.natAbs
 have hs := plus_m x.natAbs y.natAbs (by omega) (by omega)
 have ho := jb5 x.natAbs y.natAbs (by omega) (by omega)
 rw [show itD x = .agg [.ints .u32 (mg 1000000000 x.natAbs), .bool (decide (x < 0))] from rfl, show itD y = .agg [.ints .u32 (mg 1000000000 y.natAbs), .bool (decide (y < 0))] from rfl]
 refine jaa tbOk 6 ⟨Tryz.func152, rfl, rfl, jhO rfl⟩ ?_
 (conv => whnf)
 refine V.st ?_
 refine Cnd.split (CondB.mk (fun hq => ?_) (fun hq => ?_))
 ·rw [beq_iff_eq, decide_eq_decide] at hq
  have hm := jaV (x.natAbs + y.natAbs) (decide (x < 0))
  have e : (if decide (x < 0) = true then -((x.natAbs + y.natAbs : Nat) : Int) else ((x.natAbs + y.natAbs : Nat) : Int)) = x + y := by
   by_cases h : x < 0
   ·simp [h]; omega
   ·simp [h]; omega
  rw [e] at hm
  (conv => whnf)
  refine V.st ?_
  refine ⟨(.take 0 (.take 1 (.take 2 (.take 3 (.take 5 (.take 6 (.ev (.cons 4 [6, 5] (.ev (.cons 7 [] (.ev (.cons 8 [] (.done) (.nil))) (.nil))) (.nil))))))))), [], ⟨by kernel_rfl, by kernel_rfl, by kernel_rfl, by kernel_rfl⟩, .go (jae ?_)⟩
  (conv => whnf)
  refine V.st ?_
  repeat ((try ((with_reducible refine .ext ?_); (conv => whnf))); (with_reducible refine jab (r := ?_) ?_ ?_); rotate_left; (focus (first | exact (hs) | exact (hm))); (conv => whnf); refine V.st ?_)
  exact Fin.of rfl
 ·have hq' : ¬ (x < 0 ↔ y < 0) := fun h => by rw [beq_eq_false_iff_ne] at hq; exact hq (decide_eq_decide.2 h)
  (conv => whnf)
  refine V.st ?_
  repeat ((try ((with_reducible refine .ext ?_); (conv => whnf))); (with_reducible refine jab (r := ?_) ?_ ?_); rotate_left; (focus (first | exact (ho))); (conv => whnf); refine V.st ?_)
  refine Cnd.split (CondB.mk (fun hq2 => ?_) (fun hq2 => ?_))
  ·rw [decide_eq_true_eq] at hq2
   have hq3 := Int.neg_of_sign_eq_neg_one (a := ((x.natAbs : Int) - y.natAbs)) (by have := Int.sign_trichotomy ((x.natAbs : Int) - y.natAbs); omega)
   have hd := minus_m y.natAbs x.natAbs (by omega) (by omega)
   have hm := jaV (y.natAbs - x.natAbs) (decide (y < 0))
   have e : (if decide (y < 0) = true then -((y.natAbs - x.natAbs : Nat) : Int) else ((y.natAbs - x.natAbs : Nat) : Int)) = x + y := by
    by_cases h : y < 0
    ·simp [h]; omega
    ·simp [h]; omega
   rw [e] at hm
   (conv => whnf)
   refine V.st ?_
   refine ⟨(.take 0 (.take 1 (.take 2 (.take 3 (.take 5 (.take 6 (.ev (.cons 4 [6, 5] (.ev (.cons 7 [] (.ev (.cons 8 [] (.done) (.nil))) (.nil))) (.nil))))))))), [], ⟨by kernel_rfl, by kernel_rfl, by kernel_rfl, by kernel_rfl⟩, .go (jae ?_)⟩
   (conv => whnf)
   refine V.st ?_
   repeat ((try ((with_reducible refine .ext ?_); (conv => whnf))); (with_reducible refine jab (r := ?_) ?_ ?_); rotate_left; (focus (first | exact (hd) | exact (hm))); (conv => whnf); refine V.st ?_)
   exact Fin.of rfl
  ·rw [decide_eq_false_iff_not] at hq2
   have hq3 : ¬ ((x.natAbs : Int) - y.natAbs) < 0 := fun h => hq2 (by rw [jig h]; decide)
   have hd := minus_m x.natAbs y.natAbs (by omega) (by omega)
   have hm := jaV (x.natAbs - y.natAbs) (decide (x < 0))
   have e : (if decide (x < 0) = true then -((x.natAbs - y.natAbs : Nat) : Int) else ((x.natAbs - y.natAbs : Nat) : Int)) = x + y := by
    by_cases h : x < 0
    ·simp [h]; omega
    ·simp [h]; omega
   rw [e] at hm
   (conv => whnf)
   refine V.st ?_
   refine ⟨(.take 0 (.take 1 (.take 2 (.take 3 (.take 5 (.take 6 (.ev (.cons 4 [6, 5] (.ev (.cons 7 [] (.ev (.cons 8 [] (.done) (.nil))) (.nil))) (.nil))))))))), [], ⟨by kernel_rfl, by kernel_rfl, by kernel_rfl, by kernel_rfl⟩, .go (jae ?_)⟩
   (conv => whnf)
   refine V.st ?_
   repeat ((try ((with_reducible refine .ext ?_); (conv => whnf))); (with_reducible refine jab (r := ?_) ?_ ?_); rotate_left; (focus (first | exact (hd) | exact (hm))); (conv => whnf); refine V.st ?_)
   exact Fin.of rfl
theorem jc2 (x : Int) (d : Nat) (hx : S9 90000000 x) (hd : (mg 1000000000 d).length ≤ 90000000) : Called Tryz.prog 150 [itD x, .ints .u32 (mg 1000000000 d)] (itD (x * d)) := by
 unfold S9 at hx
 have ht := jcm x.natAbs d (by omega) (by omega)
 have hm := jaV (x.natAbs * d) (decide (x < 0))
 have e : (if decide (x < 0) = true then -((x.natAbs * d : Nat) : Int) else ((x.natAbs * d : Nat) : Int)) = x * d := by
  rw [jh3]
  by_cases h : x < 0
  ·have e2 : (x.natAbs : Int) = -x := by omega
   rw [e2, decide_eq_true h, if_pos rfl, Int.neg_mul, Int.neg_neg]
  ·have e2 : (x.natAbs : Int) = x := by omega
   rw [e2]; simp [h]
 rw [e] at hm
 refine jaa tbOk 6 ⟨Tryz.func150, rfl, rfl, jhO rfl⟩ ?_
 (conv => whnf)
 refine V.st ?_
 refine ⟨(.take 0 (.take 1 (.take 2 (.take 4 (.take 5 (.ev (.cons 3 [5, 4] (.ev (.cons 6 [] (.ev (.cons 7 [] (.done) (.nil))) (.nil))) (.nil)))))))), [], ⟨by kernel_rfl, by kernel_rfl, by kernel_rfl, by kernel_rfl⟩, .go (jae ?_)⟩
 (conv => whnf)
 refine V.st ?_
 repeat ((try ((with_reducible refine .ext ?_); (conv => whnf))); (with_reducible refine jab (r := ?_) ?_ ?_); rotate_left; (focus (first | exact (ht) | exact (hm))); (conv => whnf); refine V.st ?_)
 exact Fin.of rfl
theorem jfd (x : Int) : Called Tryz.prog 195 [itD x] (itD (-x)) := by
 have hm := jaV x.natAbs (!decide (x < 0))
 have e : (if (!decide (x < 0)) = true then -(x.natAbs : Int) else (x.natAbs : Int)) = -x := by
  by_cases h : x < 0
  ·simp [h]; omega
  ·simp [h]; omega
 rw [e] at hm
 refine jaa tbOk 6 ⟨Tryz.func195, rfl, rfl, jhO rfl⟩ ?_
 (conv => whnf)
 refine V.st ?_
 repeat ((try ((with_reducible refine .ext ?_); (conv => whnf))); (with_reducible refine jab (r := ?_) ?_ ?_); rotate_left; (focus (first | exact (hm))); (conv => whnf); refine V.st ?_)
 exact Fin.of rfl
theorem sign_c (x : Int) : Called Tryz.prog 146 [itD x] (.int .i64 x.sign) := by
 have hz := jcW x.natAbs
 refine jaa tbOk 6 ⟨Tryz.func146, rfl, rfl, jhO rfl⟩ ?_
 (conv => whnf)
 refine V.st ?_
 repeat ((try ((with_reducible refine .ext ?_); (conv => whnf))); (with_reducible refine jab (r := ?_) ?_ ?_); rotate_left; (focus (first | exact (hz))); (conv => whnf); refine V.st ?_)
 refine Cnd.split (CondB.mk (fun hq => ?_) (fun hq => ?_))
 ·rw [decide_eq_true_eq] at hq
  (conv => whnf)
  refine V.st ?_
  exact Fin.of (by rw [show x = 0 by omega]; rfl)
 ·rw [decide_eq_false_iff_not] at hq
  (conv => whnf)
  refine V.st ?_
  refine Cnd.split (CondB.mk (fun hq2 => ?_) (fun hq2 => ?_))
  ·rw [decide_eq_true_eq] at hq2
   (conv => whnf)
   refine V.st ?_
   exact Fin.of (by rw [jig hq2])
  ·rw [decide_eq_false_iff_not] at hq2
   (conv => whnf)
   refine V.st ?_
   exact Fin.of (by rw [jih (by omega)])
theorem jfQ (x y : Rat) (hx : S9 40000000 x.num) (hy : S9 40000000 y.num) (hxd : (mg 1000000000 x.den).length ≤ 40000000) (hyd : (mg 1000000000 y.den).length ≤ 40000000) : Called Tryz.prog 165 [rtD x, rtD y] (.int .i64 (ordQ x y)) := by
 have s1 := jc2 x.num y.den (hx.mono (by omega)) (by omega)
 have s2 := jc2 y.num x.den (hy.mono (by omega)) (by omega)
 have s3 := jfd (y.num * x.den)
 have z1 : S9 80000000 (x.num * y.den) := hx.mul (S9.nat.2 hyd)
 have z2 : S9 80000000 (y.num * x.den) := hy.mul (S9.nat.2 hxd)
 have s4 := sum_c9 (x.num * y.den) (-(y.num * x.den)) (z1.mono (by omega)) (z2.neg.mono (by omega))
 have s5 := sign_c (x.num * y.den + -(y.num * x.den))
 rw [jgW] at s5
 refine jaa tbOk 6 ⟨Tryz.func165, rfl, rfl, jhO rfl⟩ ?_
 (conv => whnf)
 refine V.st ?_
 refine ⟨(.take 0 (.take 1 (.take 2 (.take 3 (.take 5 (.take 6 (.take 7 (.take 8 (.ev (.cons 4 [8, 7, 6, 5] (.ev (.cons 9 [] (.ev (.cons 10 [] (.ev (.cons 11 [] (.ev (.cons 12 [] (.take 13 (.done)) (.nil))) (.nil))) (.nil))) (.nil))) (.nil))))))))))), [], ⟨by kernel_rfl, by kernel_rfl, by kernel_rfl, by kernel_rfl⟩, .go (jae ?_)⟩
 (conv => whnf)
 refine V.st ?_
 repeat ((try ((with_reducible refine .ext ?_); (conv => whnf))); (with_reducible refine jab (r := ?_) ?_ ?_); rotate_left; (focus (first | exact (s1) | exact (s2) | exact (s3) | exact (s4) | exact (s5))); (conv => whnf); refine V.st ?_)
 exact Fin.of rfl
theorem floor_neg (x : Int) (d : Nat) (hx : x < 0) (hd : 0 < d) : x / (d : Int) = if x.natAbs % d = 0 then -((x.natAbs / d : Nat) : Int) else -((x.natAbs / d + 1 : Nat) : Int) := by
 have h1 := Nat.div_add_mod x.natAbs d
 have h2 := Nat.mod_lt x.natAbs hd
 have e : x = -(x.natAbs : Int) := by omega
 generalize x.natAbs = n at *
 generalize hq : n / d = q at *
 generalize hr : n % d = r at *
 subst e
 have h3 : ((d * q + r : Nat) : Int) = (n : Int) := by rw [h1]
 rw [Int.natCast_add, jh3] at h3
 split
 ·rename_i h
  subst h
  rw [← h3, Int.natCast_zero, jic, ← Int.mul_neg, Int.mul_ediv_cancel_left _ (by omega)]
 ·rw [Int.natCast_add, Int.natCast_one]
  refine (Int.ediv_eq_iff_of_pos (by omega)).2 ⟨?_, ?_⟩
  ·rw [← h3, Int.neg_mul, jie, jh5 (q : Int)]; omega
  ·rw [← h3, Int.neg_mul, jie, jh5 (q : Int)]; omega
theorem floor_c (x : Int) (d : Nat) (hd : 0 < d) (hx : S9 80000000 x) (hdl : (mg 1000000000 d).length ≤ 80000000) : Called Tryz.prog 154 [itD x, .ints .u32 (mg 1000000000 d)] (itD (x / d)) := by
 unfold S9 at hx
 have h1 := ja3 x.natAbs d hd (by omega) (by omega)
 have h2 := jcW (x.natAbs % d)
 have hl2 := jaf (B := 1000000000) (by omega) (jia x.natAbs d)
 have h3 := plus_m (x.natAbs / d) 1 (by omega) (by decide)
 have h4 := jaV (x.natAbs / d + 1) (decide (x < 0))
 have h5 := jaV (x.natAbs / d) (decide (x < 0))
 by_cases hx0 : x < 0
 ·rw [floor_neg x d hx0 hd]
  rw [show itD x = .agg [.ints .u32 (mg 1000000000 x.natAbs), .bool (decide (x < 0))] from rfl]
  rw [decide_eq_true hx0] at h4 h5 ⊢
  rw [if_pos rfl] at h4 h5
  refine jaa tbOk 6 ⟨Tryz.func154, rfl, rfl, jhO rfl⟩ ?_
  (conv => whnf)
  refine V.st ?_
  repeat ((try ((with_reducible refine .ext ?_); (conv => whnf))); (with_reducible refine jab (r := ?_) ?_ ?_); rotate_left; (focus (first | exact (h1) | exact (h2))); (conv => whnf); refine V.st ?_)
  refine Cnd.split (CondB.mk (fun hq => ?_) (fun hq => ?_))
  ·simp only [Bool.true_and, Bool.not_eq_true', decide_eq_false_iff_not] at hq
   rw [if_neg hq]
   (conv => whnf)
   refine V.st ?_
   repeat ((try ((with_reducible refine .ext ?_); (conv => whnf))); (with_reducible refine jab (r := ?_) ?_ ?_); rotate_left; (focus (first | exact (h3) | exact (h4))); (conv => whnf); refine V.st ?_)
   exact Fin.of rfl
  ·simp only [Bool.true_and, Bool.not_eq_false', decide_eq_true_eq] at hq
   rw [if_pos hq]
   (conv => whnf)
   refine V.st ?_
   repeat ((try ((with_reducible refine .ext ?_); (conv => whnf))); (with_reducible refine jab (r := ?_) ?_ ?_); rotate_left; (focus (first | exact (h5))); (conv => whnf); refine V.st ?_)
   exact Fin.of rfl
 ·have e : x / (d : Int) = ((x.natAbs / d : Nat) : Int) := by
   rw [Int.natCast_ediv]; congr 1; omega
  rw [e]
  rw [show itD x = .agg [.ints .u32 (mg 1000000000 x.natAbs), .bool (decide (x < 0))] from rfl]
  rw [decide_eq_false hx0] at h5 ⊢
  rw [if_neg (by simp)] at h5
  refine jaa tbOk 6 ⟨Tryz.func154, rfl, rfl, jhO rfl⟩ ?_
  (conv => whnf)
  refine V.st ?_
  repeat ((try ((with_reducible refine .ext ?_); (conv => whnf))); (with_reducible refine jab (r := ?_) ?_ ?_); rotate_left; (focus (first | exact (h1) | exact (h2))); (conv => whnf); refine V.st ?_)
  refine Cnd.split (CondB.mk (fun hq => ?_) (fun hq => ?_))
  ·simp at hq
  ·(conv => whnf)
   refine V.st ?_
   repeat ((try ((with_reducible refine .ext ?_); (conv => whnf))); (with_reducible refine jab (r := ?_) ?_ ?_); rotate_left; (focus (first | exact (h5))); (conv => whnf); refine V.st ?_)
   exact Fin.of rfl
def nearZ (q : Rat) (s : Nat) : Int := (q.num * ((s * 2 : Nat) : Int) + q.den) / ((q.den * 2 : Nat) : Int)
theorem near_r (x : Rat) (s : Nat) (hx : S9 30000000 x.num) (hxd : (mg 1000000000 x.den).length ≤ 30000000) (hs : (mg 1000000000 s).length ≤ 30000000) : Called Tryz.prog 113 [rtD x, .ints .u32 (mg 1000000000 s)] (itD (nearZ x s)) := by
 have h2 : (mg 1000000000 2).length ≤ 1 := by decide
 have t1 := jcm s 2 (by omega) (by omega)
 have l1 := jbC (B := 1000000000) (by omega) s 2
 have s1 := jc2 x.num (s * 2) (hx.mono (by omega)) (by omega)
 have s2 := jaV x.den false
 rw [if_neg (by simp)] at s2
 have z1 : S9 60000001 (x.num * ((s * 2 : Nat) : Int)) := hx.mul (l := 30000001) (S9.nat.2 (by omega))
 have z2 : S9 60000001 (x.den : Int) := S9.nat.2 (by omega)
 have s3 := sum_c9 _ _ (z1.mono (by omega)) (z2.mono (by omega))
 have t2 := jcm x.den 2 (by omega) (by omega)
 have l2 := jbC (B := 1000000000) (by omega) x.den 2
 have s4 := floor_c (x.num * ((s * 2 : Nat) : Int) + x.den) (x.den * 2) (by have := x.den_pos; omega) ((z1.add z2).mono (by omega)) (by omega)
 unfold nearZ
 clear z1 z2
 generalize x.num * ((s * 2 : Nat) : Int) + x.den = top at *
 refine jaa tbOk 6 ⟨Tryz.func113, rfl, rfl, jhO rfl⟩ ?_
 (conv => whnf)
 refine V.st ?_
 refine ⟨(.take 0 (.take 1 (.take 2 (.take 3 (.take 6 (.take 7 (.ev (.cons 4 [7, 6, 1, 0] (.ev (.cons 5 [7, 6] (.ev (.cons 8 [] (.ev (.cons 9 [] (.ev (.cons 10 [] (.ev (.cons 11 [] (.done) (.nil))) (.nil))) (.cons 10 [] (.ev (.cons 9 [] (.ev (.cons 11 [] (.done) (.nil))) (.nil))) (.nil)))) (.cons 10 [7, 6] (.ev (.cons 8 [] (.ev (.cons 9 [] (.ev (.cons 11 [] (.done) (.nil))) (.nil))) (.nil))) (.nil)))) (.cons 10 [7, 6, 1, 0] (.ev (.cons 5 [7, 6] (.ev (.cons 8 [] (.ev (.cons 9 [] (.ev (.cons 11 [] (.done) (.nil))) (.nil))) (.nil))) (.nil))) (.nil)))) (.cons 10 [7, 6, 3, 2, 1, 0] (.ev (.cons 4 [7, 6, 1, 0] (.ev (.cons 5 [7, 6] (.ev (.cons 8 [] (.ev (.cons 9 [] (.ev (.cons 11 [] (.done) (.nil))) (.nil))) (.nil))) (.nil))) (.nil))) (.nil)))))))))), [], ⟨by kernel_rfl, by kernel_rfl, by kernel_rfl, by kernel_rfl⟩, ?_⟩
 refine jac [(6, .box 6 0), (5, .ints .u32 [2]), (7, .ints .u32 [2])] [(6, .box [.ints .u32 (mg 1000000000 top.natAbs), .bool (decide (top < 0))]), (7, .gone)] ?_ ?_
 ·exact V.d4 @jhS t1 s1 s2 s3
 refine V.st ?_
 refine ⟨(.take 0 (.take 1 (.take 2 (.take 3 (.ev (.cons 4 [0] (.ev (.cons 5 [] (.ev (.cons 6 [] (.done) (.nil))) (.nil))) (.nil))))))), [], ⟨by kernel_rfl, by kernel_rfl, by kernel_rfl, by kernel_rfl⟩, .go (jae ?_)⟩
 (conv => whnf)
 refine V.st ?_
 repeat ((try ((with_reducible refine .ext ?_); (conv => whnf))); (with_reducible refine jab (r := ?_) ?_ ?_); rotate_left; (focus (first | exact (t2) | exact (s4))); (conv => whnf); refine V.st ?_)
 exact Fin.of rfl
theorem jcH (n : Int) (d : Nat) (hd : 0 < d) (h : Nat.Coprime n.natAbs d) : (Rat.divInt n d).num = n ∧ (Rat.divInt n d).den = d := by
 have h1 : Int.gcd (d : Int) n = 1 := by rw [Int.gcd_comm]; exact h
 rw [Rat.num_divInt, Rat.den_divInt, if_neg (by omega), jih (by omega), jif, h1]
 simp
theorem jeQ {a b c : Nat} (h : Nat.Coprime a b) (hc : c ∣ a) : Nat.Coprime c b := Nat.Coprime.coprime_dvd_left hc h
theorem cop_dvd' {a b c : Nat} (h : Nat.Coprime a b) (hc : c ∣ b) : Nat.Coprime a c := Nat.Coprime.coprime_dvd_right hc h
theorem sum_cop {xn yn : Int} {R L xb : Nat} (hx : Nat.Coprime xn.natAbs xb) (hR : R ∣ xb) (hRL : Nat.Coprime R L) : Nat.Coprime (xn * L + yn * R).natAbs R := by
 have h1 : Nat.gcd (xn * L + yn * R).natAbs R ∣ R := Nat.gcd_dvd_right _ _
 have h2 : Nat.gcd (xn * L + yn * R).natAbs R ∣ (xn * L + yn * R).natAbs := Nat.gcd_dvd_left _ _
 obtain ⟨d, hd⟩ : ∃ d, d = Nat.gcd (xn * L + yn * R).natAbs R := ⟨_, rfl⟩
 rw [← hd] at h1 h2
 have h3 : (d : Int) ∣ xn * L + yn * R := Int.ofNat_dvd_left.2 h2
 have h4 : (d : Int) ∣ yn * R := Int.dvd_trans (Int.ofNat_dvd.2 h1) (Int.dvd_mul_left _ _)
 have h5 : (d : Int) ∣ xn * L := by
  have := Int.dvd_sub h3 h4
  rwa [Int.add_sub_cancel] at this
 have h6 : d ∣ xn.natAbs * L := by
  have := Int.ofNat_dvd_left.1 h5
  rwa [Int.natAbs_mul, jh8] at this
 have h7 : Nat.Coprime d L := jeQ hRL h1
 have h8 : d ∣ xn.natAbs := Nat.Coprime.dvd_of_dvd_mul_right h7 h6
 have h9 : d ∣ Nat.gcd xn.natAbs xb := Nat.dvd_gcd h8 (Nat.dvd_trans h1 hR)
 rw [hx.gcd_eq_one] at h9
 show Nat.gcd _ _ = 1
 rw [← hd]
 exact Nat.dvd_one.1 h9
theorem add_parts (x y : Rat) :
  let g := Nat.gcd x.den y.den; let L := y.den / g; let R := x.den / g; let top := x.num * L + y.num * R; let h := Nat.gcd top.natAbs g
  (x + y).num = top / h ∧ (x + y).den = R * (y.den / h) := by
 intro g L R top h
 have hg : 0 < g := Nat.gcd_pos_of_pos_left _ x.den_pos
 have ex : x.den = R * g := (Nat.div_mul_cancel (Nat.gcd_dvd_left _ _)).symm
 have ey : y.den = L * g := (Nat.div_mul_cancel (Nat.gcd_dvd_right _ _)).symm
 have hRL : Nat.Coprime R L := Nat.coprime_div_gcd_div_gcd hg
 have c1 : Nat.Coprime top.natAbs R := sum_cop x.reduced (by rw [ex]; exact Nat.dvd_mul_right _ _) hRL
 have c2 : Nat.Coprime top.natAbs L := by
  have := sum_cop (xn := y.num) (yn := x.num) (R := L) (L := R) y.reduced (by rw [ey]; exact Nat.dvd_mul_right _ _) hRL.symm
  rwa [Int.add_comm] at this
 have hh : 0 < h := Nat.gcd_pos_of_pos_right _ hg
 have hht : h ∣ top.natAbs := Nat.gcd_dvd_left _ _
 have hhg : h ∣ g := Nat.gcd_dvd_right _ _
 have hT : ((h : Nat) : Int) ∣ top := Int.ofNat_dvd_left.2 hht
 obtain ⟨t, ht⟩ := hT
 obtain ⟨q, hq⟩ := hhg
 have hyq : y.den / h = L * q := by
  rw [ey, hq, jhW h q, ← Nat.mul_assoc, Nat.mul_div_cancel _ hh]
 have htn : top.natAbs = h * t.natAbs := by rw [ht, Int.natAbs_mul, jh8]
 have hcq : Nat.Coprime t.natAbs q := by
  have h1 : Nat.Coprime (top.natAbs / h) (g / h) := Nat.coprime_div_gcd_div_gcd hh
  rwa [htn, hq, Nat.mul_div_cancel_left _ hh, Nat.mul_div_cancel_left _ hh] at h1
 have htd : t.natAbs ∣ top.natAbs := by rw [htn]; exact Nat.dvd_mul_left _ _
 have hcop : Nat.Coprime t.natAbs (R * (y.den / h)) := by
  rw [hyq]
  exact Nat.Coprime.mul_right (jeQ c1 htd) (Nat.Coprime.mul_right (jeQ c2 htd) hcq)
 have hqp : 0 < q := Nat.pos_of_ne_zero fun e => by rw [e] at hq; omega
 have hLp : 0 < L := Nat.pos_of_ne_zero fun e => by have := y.den_pos; rw [ey, e] at this; omega
 have hRp : 0 < R := Nat.pos_of_ne_zero fun e => by have := x.den_pos; rw [ex, e] at this; omega
 have hsum : x + y = Rat.divInt t ((R * (y.den / h) : Nat) : Int) := by
  conv => lhs; rw [← jii x, ← jii y]
  rw [Rat.divInt_add_divInt _ _ (by have := x.den_pos; omega) (by have := y.den_pos; omega)]
  have hyp := y.den_pos
  have hxp := x.den_pos
  rw [Rat.divInt_eq_divInt_iff (by have := Nat.mul_pos hxp hyp; rw [← jh3]; omega) (by have : 0 < R * (y.den / h) := by { rw [hyq]; exact Nat.mul_pos hRp (Nat.mul_pos hLp hqp) }; omega)]
  rw [hyq, ex, ey, hq]
  have e1 : x.num * ((L * (h * q) : Nat) : Int) + y.num * ((R * (h * q) : Nat) : Int) = (h * q : Nat) * top := by
   show _ = ((h * q : Nat) : Int) * (x.num * (L : Int) + y.num * (R : Int))
   simp only [jh3, jh4]
   congr 1 <;> ac_rfl
  rw [e1, ht]
  simp only [jh3]
  ac_rfl
 have hp : 0 < R * (y.den / h) := by rw [hyq]; exact Nat.mul_pos hRp (Nat.mul_pos hLp hqp)
 obtain ⟨p1, p2⟩ := jcH t (R * (y.den / h)) hp hcop
 rw [hsum, p1, p2, ht, Int.mul_ediv_cancel_left _ (by omega)]
 exact ⟨rfl, rfl⟩
theorem mul_parts (x y : Rat) :
  let g := Nat.gcd x.num.natAbs y.den; let h := Nat.gcd y.num.natAbs x.den
  (x * y).num.natAbs = (x.num.natAbs / g) * (y.num.natAbs / h) ∧ (x * y).den = (x.den / h) * (y.den / g) := by
 intro g h
 have hg : 0 < g := Nat.gcd_pos_of_pos_right _ y.den_pos
 have hh : 0 < h := Nat.gcd_pos_of_pos_right _ x.den_pos
 obtain ⟨a, ha⟩ : g ∣ x.num.natAbs := Nat.gcd_dvd_left _ _
 obtain ⟨b, hb⟩ : g ∣ y.den := Nat.gcd_dvd_right _ _
 obtain ⟨c, hc⟩ : h ∣ y.num.natAbs := Nat.gcd_dvd_left _ _
 obtain ⟨d, hd⟩ : h ∣ x.den := Nat.gcd_dvd_right _ _
 have k1 : x.num.natAbs / g = a := by rw [ha, Nat.mul_div_cancel_left _ hg]
 have k2 : y.den / g = b := by rw [hb, Nat.mul_div_cancel_left _ hg]
 have k3 : y.num.natAbs / h = c := by rw [hc, Nat.mul_div_cancel_left _ hh]
 have k4 : x.den / h = d := by rw [hd, Nat.mul_div_cancel_left _ hh]
 have c1 : Nat.Coprime a b := by
  have : Nat.Coprime (x.num.natAbs / g) (y.den / g) := Nat.coprime_div_gcd_div_gcd hg
  rwa [k1, k2] at this
 have c2 : Nat.Coprime c d := by
  have : Nat.Coprime (y.num.natAbs / h) (x.den / h) := Nat.coprime_div_gcd_div_gcd hh
  rwa [k3, k4] at this
 have c3 : Nat.Coprime a d := jeQ (cop_dvd' x.reduced (by rw [hd]; exact Nat.dvd_mul_left _ _)) (by rw [ha]; exact Nat.dvd_mul_left _ _)
 have c4 : Nat.Coprime c b := jeQ (cop_dvd' y.reduced (by rw [hb]; exact Nat.dvd_mul_left _ _)) (by rw [hc]; exact Nat.dvd_mul_left _ _)
 have hcop : Nat.Coprime (a * c) (d * b) := Nat.Coprime.mul_right (Nat.Coprime.mul_left c3 c2) (Nat.Coprime.mul_left c1 c4)
 obtain ⟨u, hu⟩ : ((g : Nat) : Int) ∣ x.num := Int.ofNat_dvd_left.2 ⟨a, ha⟩
 obtain ⟨v, hv⟩ : ((h : Nat) : Int) ∣ y.num := Int.ofNat_dvd_left.2 ⟨c, hc⟩
 have hua : u.natAbs = a := by
  have := ha; rw [hu, Int.natAbs_mul, jh8] at this
  exact Nat.eq_of_mul_eq_mul_left hg this
 have hvc : v.natAbs = c := by
  have := hc; rw [hv, Int.natAbs_mul, jh8] at this
  exact Nat.eq_of_mul_eq_mul_left hh this
 have hbp : 0 < b := Nat.pos_of_ne_zero fun e => by have := y.den_pos; rw [hb, e] at this; omega
 have hdp : 0 < d := Nat.pos_of_ne_zero fun e => by have := x.den_pos; rw [hd, e] at this; omega
 have hp : 0 < d * b := Nat.mul_pos hdp hbp
 have hprod : x * y = Rat.divInt (u * v) ((d * b : Nat) : Int) := by
  conv => lhs; rw [← jii x, ← jii y]
  rw [Rat.divInt_mul_divInt]
  have hyp := y.den_pos
  have hxp := x.den_pos
  rw [Rat.divInt_eq_divInt_iff (by have := Nat.mul_pos hxp hyp; rw [← jh3]; omega) (by omega), hb, hd]
  conv => lhs; rw [hu, hv]
  simp only [jh3]
  ac_rfl
 obtain ⟨p1, p2⟩ := jcH (u * v) (d * b) hp (by rw [Int.natAbs_mul, hua, hvc]; exact hcop)
 rw [hprod, p1, p2, Int.natAbs_mul, hua, hvc, k1, k2, k3, k4]
 exact ⟨rfl, rfl⟩
theorem mul_sign (x y : Rat) : decide ((x * y).num < 0) = ((decide (x.num < 0) != decide (y.num < 0)) && !decide ((x * y).num = 0)) := by
 have hg : 0 < Nat.gcd (x.num * y.num).natAbs (x.den * y.den) := Nat.gcd_pos_of_pos_right _ (Nat.mul_pos x.den_pos y.den_pos)
 obtain ⟨t, ht⟩ : ((Nat.gcd (x.num * y.num).natAbs (x.den * y.den) : Nat) : Int) ∣ x.num * y.num := Int.ofNat_dvd_left.2 (Nat.gcd_dvd_left _ _)
 have key : (x * y).num = t := by
  rw [Rat.mul_def, Rat.normalize_eq]
  show x.num * y.num / ((Nat.gcd (x.num * y.num).natAbs (x.den * y.den) : Nat) : Int) = t
  conv => lhs; lhs; rw [ht]
  exact Int.mul_ediv_cancel_left _ (by omega)
 rw [key]
 generalize Nat.gcd (x.num * y.num).natAbs (x.den * y.den) = g at *
 have hs : (t < 0 ↔ x.num * y.num < 0) ∧ (t = 0 ↔ x.num * y.num = 0) := by
  rw [ht]
  constructor
  ·constructor
   ·intro h; exact Int.mul_neg_of_pos_of_neg (by omega) h
   ·intro h
    rcases Int.lt_or_le t 0 with h2 | h2
    ·exact h2
    ·have := jhR (a := (g : Int)) (by omega) h2; omega
  ·constructor
   ·intro h; rw [h, Int.mul_zero]
   ·intro h; rcases Int.mul_eq_zero.1 h with h2 | h2 <;> omega
 by_cases h1 : x.num < 0 <;> by_cases h2 : y.num < 0 <;> by_cases h3 : t = 0
 all_goals
  have h4 := hs.1
  have h5 := hs.2
  simp only [h1, h2, h3, decide_true, decide_false, bne_self_eq_false, Bool.false_and, Bool.not_true, Bool.and_false, Bool.not_false, Bool.and_true]
 ·rfl
 ·rw [decide_eq_false_iff_not, h4]
  have := Int.mul_pos_of_neg_of_neg h1 h2; omega
 ·simp
 ·have h6 : x.num * y.num ≠ 0 := fun e => h3 (h5.2 e)
  have h7 : x.num * y.num ≤ 0 := Int.mul_nonpos_of_nonpos_of_nonneg (by omega) (by omega)
  simp only [h4]
  simp; omega
 ·simp
 ·have h6 : x.num * y.num ≠ 0 := fun e => h3 (h5.2 e)
  have h7 : x.num * y.num ≤ 0 := Int.mul_nonpos_of_nonneg_of_nonpos (by omega) (by omega)
  simp only [h4]
  simp; omega
 ·rfl
 ·rw [decide_eq_false_iff_not, h4]
  have := jhR (a := x.num) (b := y.num) (by omega) (by omega); omega
def Q9 (k : Nat) (q : Rat) : Prop := S9 k q.num ∧ (mg 1000000000 q.den).length ≤ k
theorem Q9.mono {k l : Nat} {q : Rat} (h : Q9 k q) (hl : k ≤ l) : Q9 l q := ⟨h.1.mono hl, jh1 h.2 hl⟩
theorem Q9.neg {k : Nat} {q : Rat} (h : Q9 k q) : Q9 k (-q) := ⟨by rw [Rat.neg_num]; exact h.1.neg, by rw [Rat.neg_den]; exact h.2⟩
theorem div_sign (t : Int) (h : Nat) (hd : h ∣ t.natAbs) : (if decide (t < 0) = true then -((t.natAbs / h : Nat) : Int) else ((t.natAbs / h : Nat) : Int)) = t / h := by
 have e : t = t.sign * (t.natAbs : Int) := (Int.sign_mul_natAbs t).symm
 by_cases hz : t < 0
 ·rw [decide_eq_true hz, if_pos rfl]
  have e2 : t = -(t.natAbs : Int) := by omega
  conv => rhs; rw [e2]
  rw [Int.neg_ediv_of_dvd (Int.ofNat_dvd.2 hd), Int.natCast_ediv]
 ·rw [decide_eq_false hz, if_neg (by simp)]
  have e2 : t = (t.natAbs : Int) := by omega
  conv => rhs; rw [e2]
  rw [Int.natCast_ediv]
theorem negated_c (q : Rat) : Called Tryz.prog 170 [rtD q] (rtD (-q)) := by
 have h1 := jfd q.num
 have e : rtD (-q) = .agg [.ints .u32 (mg 1000000000 (-q.num).natAbs), .bool (decide (-q.num < 0)), .ints .u32 (mg 1000000000 q.den)] := by unfold rtD; rw [Rat.neg_num, Rat.neg_den]
 rw [e]
 refine jaa tbOk 6 ⟨Tryz.func170, rfl, rfl, jhO rfl⟩ ?_
 (conv => whnf)
 refine V.st ?_
 refine ⟨(.take 0 (.take 1 (.take 3 (.take 4 (.ev (.cons 2 [4, 3] (.take 5 (.ev (.cons 6 [] (.done) (.nil)))) (.nil))))))), [], ⟨by kernel_rfl, by kernel_rfl, by kernel_rfl, by kernel_rfl⟩, .go (jae ?_)⟩
 (conv => whnf)
 refine V.st ?_
 repeat ((try ((with_reducible refine .ext ?_); (conv => whnf))); (with_reducible refine jab (r := ?_) ?_ ?_); rotate_left; (focus (first | exact (h1))); (conv => whnf); refine V.st ?_)
 exact Fin.of rfl
theorem add_c (x y : Rat) (hx : Q9 20000000 x) (hy : Q9 20000000 y) : Called Tryz.prog 138 [rtD x, rtD y] (rtD (x + y)) := by
 obtain ⟨p1, p2⟩ := add_parts x y
 have g1 := gcd_c x.den y.den (by have := hx.2; omega) (by have := hy.2; omega)
 have hg : 0 < Nat.gcd x.den y.den := Nat.gcd_pos_of_pos_left _ x.den_pos
 have lg := jaf (B := 1000000000) (by omega) (Nat.gcd_le_left y.den x.den_pos)
 generalize Nat.gcd x.den y.den = g at *
 have hx1 := hx.1
 have hy1 := hy.1
 have hx2 := hx.2
 have hy2 := hy.2
 have d1 := ja3 y.den g hg (by omega) (by omega)
 have d2 := ja3 x.den g hg (by omega) (by omega)
 have lL := jaf (B := 1000000000) (by omega) (jia y.den g)
 have lR := jaf (B := 1000000000) (by omega) (jia x.den g)
 have s1 := jc2 x.num (y.den / g) (hx1.mono (by omega)) (by omega)
 have s2 := jc2 y.num (x.den / g) (hy1.mono (by omega)) (by omega)
 have z1 : S9 40000000 (x.num * ((y.den / g : Nat) : Int)) := hx1.mul (l := 20000000) (S9.nat.2 (by omega))
 have z2 : S9 40000000 (y.num * ((x.den / g : Nat) : Int)) := hy1.mul (l := 20000000) (S9.nat.2 (by omega))
 have s3 := sum_c9 _ _ (z1.mono (by omega)) (z2.mono (by omega))
 have z3 := z1.add z2
 generalize x.num * ((y.den / g : Nat) : Int) + y.num * ((x.den / g : Nat) : Int) = top at *
 unfold S9 at z3
 have g2 := gcd_c top.natAbs g (by omega) (by omega)
 have hh : 0 < Nat.gcd top.natAbs g := Nat.gcd_pos_of_pos_right _ hg
 have lh := jaf (B := 1000000000) (by omega) (Nat.gcd_le_right top.natAbs hg)
 have hdv : Nat.gcd top.natAbs g ∣ top.natAbs := Nat.gcd_dvd_left _ _
 generalize Nat.gcd top.natAbs g = h at *
 have d3 := ja3 top.natAbs h hh (by omega) (by omega)
 have d4 := ja3 y.den h hh (by omega) (by omega)
 have lT := jaf (B := 1000000000) (by omega) (jia y.den h)
 have t1 := jcm (x.den / g) (y.den / h) (by omega) (by omega)
 have m1 := jaV (top.natAbs / h) (decide (top < 0))
 rw [div_sign top h hdv, ← p1] at m1
 rw [← p2] at t1
 refine jaa tbOk 6 ⟨Tryz.func138, rfl, rfl, jhO rfl⟩ ?_
 (conv => whnf)
 refine V.st ?_
 repeat ((try ((with_reducible refine .ext ?_); (conv => whnf))); (with_reducible refine jab (r := ?_) ?_ ?_); rotate_left; (focus (first | exact (g1) | exact (d1) | exact (d2))); (conv => whnf); refine V.st ?_)
 refine ⟨(.take 0 (.take 1 (.take 2 (.take 4 (.take 5 (.take 6 (.ev (.cons 3 [6, 5, 4] (.ev (.cons 7 [] (.ev (.cons 8 [] (.ev (.cons 9 [] (.ev (.cons 10 [] (.done) (.nil))) (.nil))) (.cons 9 [] (.ev (.cons 8 [] (.ev (.cons 10 [] (.done) (.nil))) (.nil))) (.nil)))) (.cons 9 [6, 5, 4] (.ev (.cons 7 [] (.ev (.cons 8 [] (.ev (.cons 10 [] (.done) (.nil))) (.nil))) (.nil))) (.nil)))) (.cons 9 [6, 5, 4, 2, 1, 0] (.ev (.cons 3 [6, 5, 4] (.ev (.cons 7 [] (.ev (.cons 8 [] (.ev (.cons 10 [] (.done) (.nil))) (.nil))) (.nil))) (.nil))) (.nil)))))))))), [], ⟨by kernel_rfl, by kernel_rfl, by kernel_rfl, by kernel_rfl⟩, ?_⟩
 refine jac [(10, .box 10 0)] [(10, .box [.ints .u32 (mg 1000000000 top.natAbs), .bool (decide (top < 0))])] ?_ ?_
 ·exact V.d3 @jhS s1 s2 s3
 (conv => whnf)
 refine V.st ?_
 repeat ((try ((with_reducible refine .ext ?_); (conv => whnf))); (with_reducible refine jab (r := ?_) ?_ ?_); rotate_left; (focus (first | exact (g2) | exact (d3) | exact (d4) | exact (m1) | exact (t1))); (conv => whnf); refine V.st ?_)
 exact Fin.of rfl
theorem sub_c (x y : Rat) (hx : Q9 20000000 x) (hy : Q9 20000000 y) : Called Tryz.prog 137 [rtD x, rtD y] (rtD (x - y)) := by
 have h1 := negated_c y
 have h2 := add_c x (-y) hx hy.neg
 rw [← Rat.sub_eq_add_neg] at h2
 refine jaa tbOk 6 ⟨Tryz.func137, rfl, rfl, jhO rfl⟩ ?_
 (conv => whnf)
 refine V.st ?_
 refine ⟨(.take 0 (.take 1 (.ev (.cons 2 [0] (.ev (.cons 3 [] (.ev (.cons 4 [] (.done) (.nil))) (.nil))) (.nil))))), [], ⟨by kernel_rfl, by kernel_rfl, by kernel_rfl, by kernel_rfl⟩, .go (jae ?_)⟩
 (conv => whnf)
 refine V.st ?_
 repeat ((try ((with_reducible refine .ext ?_); (conv => whnf))); (with_reducible refine jab (r := ?_) ?_ ?_); rotate_left; (focus (first | exact (h1) | exact (h2))); (conv => whnf); refine V.st ?_)
 exact Fin.of rfl
theorem mul_num (x y : Rat) : (if (decide (x.num < 0) != decide (y.num < 0)) = true then -((x * y).num.natAbs : Int) else ((x * y).num.natAbs : Int)) = (x * y).num := by
 have h := mul_sign x y
 by_cases h0 : (x * y).num = 0
 ·rw [h0]; simp
 ·rw [decide_eq_false h0, Bool.not_false, Bool.and_true] at h
  rw [← h]
  by_cases h1 : (x * y).num < 0
  ·rw [decide_eq_true h1, if_pos rfl]; omega
  ·rw [decide_eq_false h1, if_neg (by simp)]; omega
theorem mul_c (x y : Rat) (hx : Q9 20000000 x) (hy : Q9 20000000 y) : Called Tryz.prog 131 [rtD x, rtD y] (rtD (x * y)) := by
 obtain ⟨p1, p2⟩ := mul_parts x y
 have pn := mul_num x y
 have hx1 := hx.1
 have hy1 := hy.1
 have hx2 := hx.2
 have hy2 := hy.2
 unfold S9 at hx1 hy1
 have g1 := gcd_c x.num.natAbs y.den (by omega) (by omega)
 have g2 := gcd_c y.num.natAbs x.den (by omega) (by omega)
 have hg : 0 < Nat.gcd x.num.natAbs y.den := Nat.gcd_pos_of_pos_right _ y.den_pos
 have hh : 0 < Nat.gcd y.num.natAbs x.den := Nat.gcd_pos_of_pos_right _ x.den_pos
 have lg := jaf (B := 1000000000) (by omega) (Nat.gcd_le_right x.num.natAbs y.den_pos)
 have lh := jaf (B := 1000000000) (by omega) (Nat.gcd_le_right y.num.natAbs x.den_pos)
 generalize Nat.gcd x.num.natAbs y.den = g at *
 generalize Nat.gcd y.num.natAbs x.den = h at *
 have d1 := ja3 x.num.natAbs g hg (by omega) (by omega)
 have d2 := ja3 x.den h hh (by omega) (by omega)
 have d3 := ja3 y.num.natAbs h hh (by omega) (by omega)
 have d4 := ja3 y.den g hg (by omega) (by omega)
 have l1 := jaf (B := 1000000000) (by omega) (jia x.num.natAbs g)
 have l2 := jaf (B := 1000000000) (by omega) (jia x.den h)
 have l3 := jaf (B := 1000000000) (by omega) (jia y.num.natAbs h)
 have l4 := jaf (B := 1000000000) (by omega) (jia y.den g)
 have t1 := jcm (x.num.natAbs / g) (y.num.natAbs / h) (by omega) (by omega)
 have t2 := jcm (x.den / h) (y.den / g) (by omega) (by omega)
 rw [← p1] at t1
 rw [← p2] at t2
 have m1 := jaV (x * y).num.natAbs (decide (x.num < 0) != decide (y.num < 0))
 rw [pn] at m1
 refine jaa tbOk 6 ⟨Tryz.func131, rfl, rfl, jhO rfl⟩ ?_
 (conv => whnf)
 refine V.st ?_
 repeat ((try ((with_reducible refine .ext ?_); (conv => whnf))); (with_reducible refine jab (r := ?_) ?_ ?_); rotate_left; (focus (first | exact (g1) | exact (g2) | exact (d1) | exact (d2) | exact (d3) | exact (d4))); (conv => whnf); refine V.st ?_)
 refine ⟨(.take 0 (.take 1 (.take 3 (.take 4 (.take 5 (.take 6 (.take 7 (.take 8 (.take 9 (.take 11 (.take 12 (.ev (.cons 2 [12, 11, 9, 8, 7, 6, 5, 4, 3] (.ev (.cons 10 [12, 11] (.ev (.cons 13 [] (.take 14 (.ev (.cons 15 [] (.done) (.nil)))) (.nil))) (.nil))) (.nil)))))))))))))), [], ⟨by kernel_rfl, by kernel_rfl, by kernel_rfl, by kernel_rfl⟩, .go (jae ?_)⟩
 (conv => whnf)
 refine V.st ?_
 repeat ((try ((with_reducible refine .ext ?_); (conv => whnf))); (with_reducible refine jab (r := ?_) ?_ ?_); rotate_left; (focus (first | exact (t1) | exact (m1) | exact (t2))); (conv => whnf); refine V.st ?_)
 exact Fin.of rfl
theorem jgp (q : Rat) (hq : q.num ≠ 0) : q⁻¹.num = (if decide (q.num < 0) = true then -(q.den : Int) else (q.den : Int)) ∧ q⁻¹.den = q.num.natAbs := by
 have hd := q.den_pos
 have hc : Nat.Coprime (if decide (q.num < 0) = true then -(q.den : Int) else (q.den : Int)).natAbs q.num.natAbs := by
  have e : (if decide (q.num < 0) = true then -(q.den : Int) else (q.den : Int)).natAbs = q.den := by
   split <;> simp
  rw [e]
  exact q.reduced.symm
 have e : q⁻¹ = Rat.divInt (if decide (q.num < 0) = true then -(q.den : Int) else (q.den : Int)) (q.num.natAbs : Nat) := by
  rw [Rat.inv_def, Rat.divInt_eq_divInt_iff hq (by omega)]
  by_cases h : q.num < 0
  ·rw [decide_eq_true h, if_pos rfl, show (q.num.natAbs : Int) = -q.num by omega, Int.mul_neg, Int.neg_mul]
  ·rw [decide_eq_false h, if_neg (by simp), show (q.num.natAbs : Int) = q.num by omega]
 obtain ⟨h1, h2⟩ := jcH _ q.num.natAbs (by omega) hc
 rw [e]
 exact ⟨h1, h2⟩
theorem inverse_c (q : Rat) (hq : q.num ≠ 0) : Called Tryz.prog 133 [rtD q] (rtD q⁻¹) := by
 obtain ⟨p1, p2⟩ := jgp q hq
 have m1 := jaV q.den (decide (q.num < 0))
 rw [← p1] at m1
 have e : rtD q⁻¹ = .agg [.ints .u32 (mg 1000000000 q⁻¹.num.natAbs), .bool (decide (q⁻¹.num < 0)), .ints .u32 (mg 1000000000 q.num.natAbs)] := by unfold rtD; rw [p2]
 rw [e]
 refine jaa tbOk 6 ⟨Tryz.func133, rfl, rfl, jhO rfl⟩ ?_
 (conv => whnf)
 refine V.st ?_
 refine ⟨(.take 0 (.take 1 (.take 2 (.take 3 (.take 4 (.take 6 (.take 7 (.take 8 (.ev (.cons 5 [8, 7, 6] (.take 9 (.ev (.cons 10 [] (.done) (.nil)))) (.nil))))))))))), [], ⟨by kernel_rfl, by kernel_rfl, by kernel_rfl, by kernel_rfl⟩, .go (jae ?_)⟩
 (conv => whnf)
 refine V.st ?_
 repeat ((try ((with_reducible refine .ext ?_); (conv => whnf))); (with_reducible refine jab (r := ?_) ?_ ?_); rotate_left; (focus (first | exact (m1))); (conv => whnf); refine V.st ?_)
 exact Fin.of rfl
theorem lesser_c (x y : Rat) (hx : Q9 20000000 x) (hy : Q9 20000000 y) : Called Tryz.prog 191 [rtD x, rtD y] (rtD (if y < x then y else x)) := by
 have h1 := jfQ x y (hx.1.mono (by omega)) (hy.1.mono (by omega)) (jh1 hx.2 (by omega)) (jh1 hy.2 (by omega))
 have e : ordQ x y > 0 ↔ y < x := by
  unfold ordQ
  by_cases a : x < y
  ·rw [if_pos a]; exact ⟨fun h => by omega, fun h => absurd h (Rat.not_lt.2 (Rat.le_of_lt a))⟩
  ·rw [if_neg a]
   by_cases b : x = y
   ·rw [if_pos b, b]; exact ⟨fun h => by omega, fun h => absurd h (Rat.lt_irrefl)⟩
   ·rw [if_neg b]; exact ⟨fun _ => Rat.lt_of_le_of_ne (Rat.not_lt.1 a) (Ne.symm b), fun _ => by omega⟩
 refine jaa tbOk 6 ⟨Tryz.func191, rfl, rfl, jhO rfl⟩ ?_
 (conv => whnf)
 refine V.st ?_
 repeat ((try ((with_reducible refine .ext ?_); (conv => whnf))); (with_reducible refine jab (r := ?_) ?_ ?_); rotate_left; (focus (first | exact (h1))); (conv => whnf); refine V.st ?_)
 refine Cnd.split (CondB.mk (fun hq => ?_) (fun hq => ?_))
 ·rw [decide_eq_true_eq] at hq
  rw [if_pos (e.1 hq)]
  (conv => whnf)
  refine V.st ?_
  exact Fin.of rfl
 ·rw [decide_eq_false_iff_not] at hq
  rw [if_neg (fun h => hq (e.2 h))]
  (conv => whnf)
  refine V.st ?_
  exact Fin.of rfl
theorem greater_c (x y : Rat) (hx : Q9 20000000 x) (hy : Q9 20000000 y) : Called Tryz.prog 190 [rtD x, rtD y] (rtD (if x < y then y else x)) := by
 have h1 := jfQ x y (hx.1.mono (by omega)) (hy.1.mono (by omega)) (jh1 hx.2 (by omega)) (jh1 hy.2 (by omega))
 have e : ordQ x y < 0 ↔ x < y := by
  unfold ordQ
  by_cases a : x < y
  ·rw [if_pos a]; exact ⟨fun _ => a, fun _ => by omega⟩
  ·rw [if_neg a]
   by_cases b : x = y
   ·rw [if_pos b]; exact ⟨fun h => by omega, fun h => absurd h a⟩
   ·rw [if_neg b]; exact ⟨fun h => by omega, fun h => absurd h a⟩
 refine jaa tbOk 6 ⟨Tryz.func190, rfl, rfl, jhO rfl⟩ ?_
 (conv => whnf)
 refine V.st ?_
 repeat ((try ((with_reducible refine .ext ?_); (conv => whnf))); (with_reducible refine jab (r := ?_) ?_ ?_); rotate_left; (focus (first | exact (h1))); (conv => whnf); refine V.st ?_)
 refine Cnd.split (CondB.mk (fun hq => ?_) (fun hq => ?_))
 ·rw [decide_eq_true_eq] at hq
  rw [if_pos (e.1 hq)]
  (conv => whnf)
  refine V.st ?_
  exact Fin.of rfl
 ·rw [decide_eq_false_iff_not] at hq
  rw [if_neg (fun h => hq (e.2 h))]
  (conv => whnf)
  refine V.st ?_
  exact Fin.of rfl
theorem off {p : Go.Program} {f : Nat} {ys : List D} {c : Bool} (hc : c = false) : c = true → Called p f ys (.int .i64 0) := fun h => by rw [hc] at h; cases h
def okP (s t : List UInt8) : Bool := okW s && okW t && decide (0 < wval t) && decide (Nat.gcd (wval s).natAbs (wval t).natAbs = 1)
def qv (s t : List UInt8) : Rat := Rat.divInt (wval s) (wval t)
theorem jfe {s t : List UInt8} (h : okP s t = true) : okW s = true ∧ okW t = true ∧ 0 < wval t ∧ Nat.gcd (wval s).natAbs (wval t).natAbs = 1 := by
 unfold okP at h
 simp only [jhN, decide_eq_true_eq] at h
 exact ⟨h.1.1.1, h.1.1.2, h.1.2, h.2⟩
theorem jdR {s t : List UInt8} (h : okP s t = true) : (qv s t).num = wval s ∧ (qv s t).den = (wval t).natAbs := by
 obtain ⟨h1, h2, h3, h4⟩ := jfe h
 have e : qv s t = Rat.divInt (wval s) ((wval t).natAbs : Nat) := by unfold qv; congr 1; omega
 rw [e]
 exact jcH _ _ (by omega) h4
theorem jfH {s t : List UInt8} (h : okP s t = true) : Q9 67 (qv s t) := by
 obtain ⟨h1, h2, h3, h4⟩ := jfe h
 obtain ⟨p1, p2⟩ := jdR h
 exact ⟨by rw [p1]; exact len9 (jbU h1).2, by rw [p2]; exact len9 (jbU h2).2⟩
theorem rtD_qv {s t : List UInt8} (h : okP s t = true) : rtD (qv s t) = .agg [.ints .u32 (mg 1000000000 (wval s).natAbs), .bool (decide (wval s < 0)), .ints .u32 (mg 1000000000 (wval t).natAbs)] := by
 obtain ⟨p1, p2⟩ := jdR h
 unfold rtD
 rw [p1, p2]
theorem jbj (s t : List UInt8) (h : okP s t = true) : Called Tryz.prog 111 [.agg [.str s, .str t]] (.tup [rtD (qv s t), .bool true]) := by
 obtain ⟨h1, h2, h3, h4⟩ := jfe h
 have l1 := jbU h1
 have l2 := jbU h2
 have k1 := len9 l1.2
 have k2 := len9 l2.2
 have c1 := jb6 s (by omega)
 have c2 := jb6 t (by omega)
 rw [h1, if_pos rfl] at c1
 rw [h2, if_pos rfl] at c2
 have n1 := jcD s h1
 have n2 := jcD t h2
 have s1 := sign_c (wval t)
 rw [jih h3] at s1
 have g1 := gcd_c (wval s).natAbs (wval t).natAbs (by omega) (by omega)
 rw [h4] at g1
 have o1 := jb5 1 1 (by decide) (by decide)
 rw [rtD_qv h]
 refine jaa tbOk 6 ⟨Tryz.func111, rfl, rfl, jhO rfl⟩ ?_
 (conv => whnf)
 refine V.st ?_
 repeat ((try ((with_reducible refine .ext ?_); (conv => whnf))); (with_reducible refine jab (r := ?_) ?_ ?_); rotate_left; (focus (first | exact (c1) | exact (c2))); (conv => whnf); refine V.st ?_)
 refine ⟨(.take 0 (.take 1 (.take 3 (.take 4 (.ev (.cons 2 [4, 3] (.ev (.cons 5 [] (.ev (.cons 6 [] (.ev (.cons 7 [] (.ev (.cons 8 [] (.ev (.cons 9 [] (.done) (.nil))) (.nil))) (.nil))) (.cons 7 [] (.ev (.cons 6 [] (.ev (.cons 8 [] (.ev (.cons 9 [] (.done) (.nil))) (.nil))) (.nil))) (.nil)))) (.cons 6 [4, 3] (.ev (.cons 5 [] (.ev (.cons 7 [] (.ev (.cons 8 [] (.ev (.cons 9 [] (.done) (.nil))) (.nil))) (.nil))) (.cons 7 [4, 3] (.ev (.cons 5 [] (.ev (.cons 8 [] (.ev (.cons 9 [] (.done) (.nil))) (.nil))) (.nil))) (.nil)))) (.cons 7 [4, 3] (.ev (.cons 5 [] (.ev (.cons 6 [] (.ev (.cons 8 [] (.ev (.cons 9 [] (.done) (.nil))) (.nil))) (.nil))) (.cons 6 [4, 3] (.ev (.cons 5 [] (.ev (.cons 8 [] (.ev (.cons 9 [] (.done) (.nil))) (.nil))) (.nil))) (.nil)))) (.nil))))) (.cons 6 [4, 3, 1, 0] (.ev (.cons 2 [4, 3] (.ev (.cons 5 [] (.ev (.cons 7 [] (.ev (.cons 8 [] (.ev (.cons 9 [] (.done) (.nil))) (.nil))) (.nil))) (.cons 7 [4, 3] (.ev (.cons 5 [] (.ev (.cons 8 [] (.ev (.cons 9 [] (.done) (.nil))) (.nil))) (.nil))) (.nil)))) (.cons 7 [4, 3, 1, 0] (.ev (.cons 2 [4, 3] (.ev (.cons 5 [] (.ev (.cons 8 [] (.ev (.cons 9 [] (.done) (.nil))) (.nil))) (.nil))) (.nil))) (.nil)))) (.cons 7 [4, 3, 1, 0] (.ev (.cons 2 [4, 3] (.ev (.cons 5 [] (.ev (.cons 6 [] (.ev (.cons 8 [] (.ev (.cons 9 [] (.done) (.nil))) (.nil))) (.nil))) (.cons 6 [4, 3] (.ev (.cons 5 [] (.ev (.cons 8 [] (.ev (.cons 9 [] (.done) (.nil))) (.nil))) (.nil))) (.nil)))) (.cons 6 [4, 3, 1, 0] (.ev (.cons 2 [4, 3] (.ev (.cons 5 [] (.ev (.cons 8 [] (.ev (.cons 9 [] (.done) (.nil))) (.nil))) (.nil))) (.nil))) (.nil)))) (.nil))))))))), [], ⟨by kernel_rfl, by kernel_rfl, by kernel_rfl, by kernel_rfl⟩, ?_⟩
 refine jac [(4, .box 4 0), (5, .box 5 0)] [(4, .box [.ints .u32 (mg 1000000000 (wval s).natAbs), .bool (decide (wval s < 0))]), (5, .box [.ints .u32 (mg 1000000000 (wval t).natAbs), .bool (decide (wval t < 0))])] ?_ ?_
 ·exact V.d2 @jhS n1 n2
 (conv => whnf)
 refine V.st ?_
 repeat ((try ((with_reducible refine .ext ?_); (conv => whnf))); (with_reducible refine jab (r := ?_) ?_ ?_); rotate_left; (focus (first | exact (s1) | exact (g1) | exact (o1))); (conv => whnf); refine V.st ?_)
 exact Fin.of rfl
theorem read_no (s t : List UInt8) (h : okP s t = false) (hs : s.length ≤ 281474976710656) (ht : t.length ≤ 281474976710656) : Called Tryz.prog 111 [.agg [.str s, .str t]] (.tup [.agg [.any, .any, .any], .bool false]) := by
 have c1 := jb6 s hs
 have c2 := jb6 t ht
 by_cases h1 : okW s = true
 ·rw [h1, if_pos rfl] at c1
  by_cases h2 : okW t = true
  ·rw [h2, if_pos rfl] at c2
   have l1 := jbU h1
   have l2 := jbU h2
   have k1 := len9 l1.2
   have k2 := len9 l2.2
   have n1 := jcD s h1
   have n2 := jcD t h2
   have s1 := sign_c (wval t)
   have g1 := gcd_c (wval s).natAbs (wval t).natAbs (by omega) (by omega)
   have gl : (mg 1000000000 (Nat.gcd (wval s).natAbs (wval t).natAbs)).length ≤ 67 := by
    rcases jhV (wval t).natAbs with e | e
    ·rw [e, Nat.gcd_zero_right]; exact k1
    ·exact jh1 (jaf (by omega) (Nat.gcd_le_right _ e)) k2
   have o1 := jb5 (Nat.gcd (wval s).natAbs (wval t).natAbs) 1 (by omega) (by decide)
   unfold okP at h
   rw [h1, h2, Bool.true_and, Bool.true_and] at h
   by_cases hp : 0 < wval t
   ·rw [decide_eq_true hp, Bool.true_and, decide_eq_false_iff_not] at h
    rw [jih hp] at s1
    refine jaa tbOk 6 ⟨Tryz.func111, rfl, rfl, jhO rfl⟩ ?_
    (conv => whnf)
    refine V.st ?_
    repeat ((try ((with_reducible refine .ext ?_); (conv => whnf))); (with_reducible refine jab (r := ?_) ?_ ?_); rotate_left; (focus (first | exact (c1) | exact (c2))); (conv => whnf); refine V.st ?_)
    refine ⟨(.take 0 (.take 1 (.take 3 (.take 4 (.ev (.cons 2 [4, 3] (.ev (.cons 5 [] (.ev (.cons 6 [] (.ev (.cons 7 [] (.ev (.cons 8 [] (.ev (.cons 9 [] (.done) (.nil))) (.nil))) (.nil))) (.cons 7 [] (.ev (.cons 6 [] (.ev (.cons 8 [] (.ev (.cons 9 [] (.done) (.nil))) (.nil))) (.nil))) (.nil)))) (.cons 6 [4, 3] (.ev (.cons 5 [] (.ev (.cons 7 [] (.ev (.cons 8 [] (.ev (.cons 9 [] (.done) (.nil))) (.nil))) (.nil))) (.cons 7 [4, 3] (.ev (.cons 5 [] (.ev (.cons 8 [] (.ev (.cons 9 [] (.done) (.nil))) (.nil))) (.nil))) (.nil)))) (.cons 7 [4, 3] (.ev (.cons 5 [] (.ev (.cons 6 [] (.ev (.cons 8 [] (.ev (.cons 9 [] (.done) (.nil))) (.nil))) (.nil))) (.cons 6 [4, 3] (.ev (.cons 5 [] (.ev (.cons 8 [] (.ev (.cons 9 [] (.done) (.nil))) (.nil))) (.nil))) (.nil)))) (.nil))))) (.cons 6 [4, 3, 1, 0] (.ev (.cons 2 [4, 3] (.ev (.cons 5 [] (.ev (.cons 7 [] (.ev (.cons 8 [] (.ev (.cons 9 [] (.done) (.nil))) (.nil))) (.nil))) (.cons 7 [4, 3] (.ev (.cons 5 [] (.ev (.cons 8 [] (.ev (.cons 9 [] (.done) (.nil))) (.nil))) (.nil))) (.nil)))) (.cons 7 [4, 3, 1, 0] (.ev (.cons 2 [4, 3] (.ev (.cons 5 [] (.ev (.cons 8 [] (.ev (.cons 9 [] (.done) (.nil))) (.nil))) (.nil))) (.nil))) (.nil)))) (.cons 7 [4, 3, 1, 0] (.ev (.cons 2 [4, 3] (.ev (.cons 5 [] (.ev (.cons 6 [] (.ev (.cons 8 [] (.ev (.cons 9 [] (.done) (.nil))) (.nil))) (.nil))) (.cons 6 [4, 3] (.ev (.cons 5 [] (.ev (.cons 8 [] (.ev (.cons 9 [] (.done) (.nil))) (.nil))) (.nil))) (.nil)))) (.cons 6 [4, 3, 1, 0] (.ev (.cons 2 [4, 3] (.ev (.cons 5 [] (.ev (.cons 8 [] (.ev (.cons 9 [] (.done) (.nil))) (.nil))) (.nil))) (.nil))) (.nil)))) (.nil))))))))), [], ⟨by kernel_rfl, by kernel_rfl, by kernel_rfl, by kernel_rfl⟩, ?_⟩
    refine jac [(4, .box 4 0), (5, .box 5 0)] [(4, .box [.ints .u32 (mg 1000000000 (wval s).natAbs), .bool (decide (wval s < 0))]), (5, .box [.ints .u32 (mg 1000000000 (wval t).natAbs), .bool (decide (wval t < 0))])] ?_ ?_
    ·exact V.d2 @jhS n1 n2
    (conv => whnf)
    refine V.st ?_
    repeat ((try ((with_reducible refine .ext ?_); (conv => whnf))); (with_reducible refine jab (r := ?_) ?_ ?_); rotate_left; (focus (first | exact (s1) | exact (g1) | exact (o1))); (conv => whnf); refine V.st ?_)
    refine Cnd.split (CondB.mk (fun hq => ?_) (fun hq => ?_))
    ·(conv => whnf)
     refine V.st ?_
     exact Fin.tup ⟨Fin.agg ⟨Fin.any' _, Fin.any' _, Fin.any' _, trivial⟩, Fin.of rfl, trivial⟩
    ·exfalso
     simp only [jh2, decide_eq_false_iff_not, Decidable.not_not] at hq
     apply h
     have h9 := Int.sign_eq_zero_iff_zero.1 hq.2
     omega
   ·have hs1 : (wval t).sign = 0 ∨ (wval t).sign = -1 := by
     rcases (by omega : wval t = 0 ∨ wval t < 0) with e | e
     ·rw [e]; exact .inl rfl
     ·exact .inr (jig e)
    rcases hs1 with e | e
    all_goals
     rw [e] at s1
     refine jaa tbOk 6 ⟨Tryz.func111, rfl, rfl, jhO rfl⟩ ?_
     (conv => whnf)
     refine V.st ?_
     repeat ((try ((with_reducible refine .ext ?_); (conv => whnf))); (with_reducible refine jab (r := ?_) ?_ ?_); rotate_left; (focus (first | exact (c1) | exact (c2))); (conv => whnf); refine V.st ?_)
     refine ⟨(.take 0 (.take 1 (.take 3 (.take 4 (.ev (.cons 2 [4, 3] (.ev (.cons 5 [] (.ev (.cons 6 [] (.ev (.cons 7 [] (.ev (.cons 8 [] (.ev (.cons 9 [] (.done) (.nil))) (.nil))) (.nil))) (.cons 7 [] (.ev (.cons 6 [] (.ev (.cons 8 [] (.ev (.cons 9 [] (.done) (.nil))) (.nil))) (.nil))) (.nil)))) (.cons 6 [4, 3] (.ev (.cons 5 [] (.ev (.cons 7 [] (.ev (.cons 8 [] (.ev (.cons 9 [] (.done) (.nil))) (.nil))) (.nil))) (.cons 7 [4, 3] (.ev (.cons 5 [] (.ev (.cons 8 [] (.ev (.cons 9 [] (.done) (.nil))) (.nil))) (.nil))) (.nil)))) (.cons 7 [4, 3] (.ev (.cons 5 [] (.ev (.cons 6 [] (.ev (.cons 8 [] (.ev (.cons 9 [] (.done) (.nil))) (.nil))) (.nil))) (.cons 6 [4, 3] (.ev (.cons 5 [] (.ev (.cons 8 [] (.ev (.cons 9 [] (.done) (.nil))) (.nil))) (.nil))) (.nil)))) (.nil))))) (.cons 6 [4, 3, 1, 0] (.ev (.cons 2 [4, 3] (.ev (.cons 5 [] (.ev (.cons 7 [] (.ev (.cons 8 [] (.ev (.cons 9 [] (.done) (.nil))) (.nil))) (.nil))) (.cons 7 [4, 3] (.ev (.cons 5 [] (.ev (.cons 8 [] (.ev (.cons 9 [] (.done) (.nil))) (.nil))) (.nil))) (.nil)))) (.cons 7 [4, 3, 1, 0] (.ev (.cons 2 [4, 3] (.ev (.cons 5 [] (.ev (.cons 8 [] (.ev (.cons 9 [] (.done) (.nil))) (.nil))) (.nil))) (.nil))) (.nil)))) (.cons 7 [4, 3, 1, 0] (.ev (.cons 2 [4, 3] (.ev (.cons 5 [] (.ev (.cons 6 [] (.ev (.cons 8 [] (.ev (.cons 9 [] (.done) (.nil))) (.nil))) (.nil))) (.cons 6 [4, 3] (.ev (.cons 5 [] (.ev (.cons 8 [] (.ev (.cons 9 [] (.done) (.nil))) (.nil))) (.nil))) (.nil)))) (.cons 6 [4, 3, 1, 0] (.ev (.cons 2 [4, 3] (.ev (.cons 5 [] (.ev (.cons 8 [] (.ev (.cons 9 [] (.done) (.nil))) (.nil))) (.nil))) (.nil))) (.nil)))) (.nil))))))))), [], ⟨by kernel_rfl, by kernel_rfl, by kernel_rfl, by kernel_rfl⟩, ?_⟩
     refine jac [(4, .box 4 0), (5, .box 5 0)] [(4, .box [.ints .u32 (mg 1000000000 (wval s).natAbs), .bool (decide (wval s < 0))]), (5, .box [.ints .u32 (mg 1000000000 (wval t).natAbs), .bool (decide (wval t < 0))])] ?_ ?_
     ·exact V.d2 @jhS n1 n2
     (conv => whnf)
     refine V.st ?_
     repeat ((try ((with_reducible refine .ext ?_); (conv => whnf))); (with_reducible refine jab (r := ?_) ?_ ?_); rotate_left; (focus (first | exact (s1) | exact (g1) | exact (o1))); (conv => whnf); refine V.st ?_)
     refine ⟨.int .i64 0, off rfl, ?_⟩
     (conv => whnf)
     refine V.st ?_
     exact Fin.tup ⟨Fin.agg ⟨Fin.any' _, Fin.any' _, Fin.any' _, trivial⟩, Fin.of rfl, trivial⟩
  ·rw [if_neg h2] at c2
   refine jaa tbOk 6 ⟨Tryz.func111, rfl, rfl, jhO rfl⟩ ?_
   (conv => whnf)
   refine V.st ?_
   repeat ((try ((with_reducible refine .ext ?_); (conv => whnf))); (with_reducible refine jab (r := ?_) ?_ ?_); rotate_left; (focus (first | exact (c1) | exact (c2))); (conv => whnf); refine V.st ?_)
   exact Fin.tup ⟨Fin.agg ⟨Fin.any' _, Fin.any' _, Fin.any' _, trivial⟩, Fin.of rfl, trivial⟩
 ·rw [if_neg h1] at c1
  refine jaa tbOk 6 ⟨Tryz.func111, rfl, rfl, jhO rfl⟩ ?_
  (conv => whnf)
  refine V.st ?_
  repeat ((try ((with_reducible refine .ext ?_); (conv => whnf))); (with_reducible refine jab (r := ?_) ?_ ?_); rotate_left; (focus (first | exact (c1) | exact (c2))); (conv => whnf); refine V.st ?_)
  refine Cnd.split (CondB.mk (fun hq => ?_) (fun hq => ?_))
  ·(conv => whnf)
   refine V.st ?_
   exact Fin.tup ⟨Fin.agg ⟨Fin.any' _, Fin.any' _, Fin.any' _, trivial⟩, Fin.of rfl, trivial⟩
  ·simp at hq
theorem fcheck_c (s t : List UInt8) (hs : s.length ≤ 281474976710656) (ht : t.length ≤ 281474976710656) : Called Tryz.prog 78 [.agg [.str s, .str t]] (.int .i64 (if okP s t then 0 else 20)) := by
 by_cases h : okP s t = true
 ·have r1 := jbj s t h
  rw [h, if_pos rfl]
  refine jaa tbOk 6 ⟨Tryz.func78, rfl, rfl, jhO rfl⟩ ?_
  (conv => whnf)
  refine V.st ?_
  repeat ((try ((with_reducible refine .ext ?_); (conv => whnf))); (with_reducible refine jab (r := ?_) ?_ ?_); rotate_left; (focus (first | exact (r1))); (conv => whnf); refine V.st ?_)
  exact Fin.of rfl
 ·have r1 := read_no s t (by simpa using h) hs ht
  rw [if_neg h]
  refine jaa tbOk 6 ⟨Tryz.func78, rfl, rfl, jhO rfl⟩ ?_
  (conv => whnf)
  refine V.st ?_
  repeat ((try ((with_reducible refine .ext ?_); (conv => whnf))); (with_reducible refine jab (r := ?_) ?_ ?_); rotate_left; (focus (first | exact (r1))); (conv => whnf); refine V.st ?_)
  exact Fin.of rfl
theorem qsize {s t : List UInt8} (h : okP s t = true) : Q9 20000000 (qv s t) := (jfH h).mono (by omega)
theorem qordS {s t : List UInt8} (h : okP s t = true) : S9 40000000 (qv s t).num ∧ (mg 1000000000 (qv s t).den).length ≤ 40000000 := ⟨(jfH h).1.mono (by omega), jh1 (jfH h).2 (by omega)⟩
theorem fcmp_ok (s t u v : List UInt8) (h : okP s t = true) (g : okP u v = true) : Called Tryz.prog 127 [.agg [.str s, .str t], .agg [.str u, .str v]] (.tup [.int .i64 (ordQ (qv s t) (qv u v)), .int .i64 0]) := by
 have r1 := jbj s t h
 have r2 := jbj u v g
 have o := jfQ (qv s t) (qv u v) (qordS h).1 (qordS g).1 (qordS h).2 (qordS g).2
 have ap : Called Tryz.prog 164 [.agg [.str s, .str t], .agg [.str u, .str v], .fn 165 [] []] (.tup [.int .i64 (ordQ (qv s t) (qv u v)), .int .i64 0]) := by
  refine jaa tbOk 6 ⟨Tryz.func164, rfl, rfl, jhO rfl⟩ ?_
  (conv => whnf)
  refine V.st ?_
  repeat ((try ((with_reducible refine .ext ?_); (conv => whnf))); (with_reducible refine jab (r := ?_) ?_ ?_); rotate_left; (focus (first | exact (r1) | exact (r2) | exact (o))); (conv => whnf); refine V.st ?_)
  exact Fin.of rfl
 refine jaa tbOk 6 ⟨Tryz.func127, rfl, rfl, jhO rfl⟩ ?_
 (conv => whnf)
 refine V.st ?_
 repeat ((try ((with_reducible refine .ext ?_); (conv => whnf))); (with_reducible refine jab (r := ?_) ?_ ?_); rotate_left; (focus (first | exact (ap))); (conv => whnf); refine V.st ?_)
 exact Fin.of rfl
def vb (lo hi : Int) : Bool := decide (-1000000000000000000 ≤ lo) && decide (lo ≤ hi) && decide (hi ≤ 1000000000000000000)
def bD (r : Int × Int × Int) : D := .tup [.agg [.int .i64 r.1, .int .i64 r.2.1], .int .i64 r.2.2]
def mk (lo hi : Int) : Int × Int × Int := if vb lo hi = true then (lo, hi, 0) else (0, 0, 6)
theorem jbt {lo hi : Int} : vb lo hi = true ↔ -1000000000000000000 ≤ lo ∧ lo ≤ hi ∧ hi ≤ 1000000000000000000 := by
 unfold vb; simp only [jhN, decide_eq_true_eq, and_assoc]
theorem jcl (lo hi : Int) : Called Tryz.prog 95 [.int .i64 lo, .int .i64 hi] (.bool (vb lo hi)) := by
 refine jaa tbOk 6 ⟨Tryz.func95, rfl, rfl, jhO rfl⟩ ?_
 (conv => whnf)
 refine V.st ?_
 exact Fin.of rfl
theorem made_b (lo hi : Int) : Called Tryz.prog 96 [.int .i64 lo, .int .i64 hi] (bD (mk lo hi)) := by
 have h := jcl lo hi
 unfold mk
 generalize vb lo hi = v at *
 refine jaa tbOk 6 ⟨Tryz.func96, rfl, rfl, jhO rfl⟩ ?_
 (conv => whnf)
 refine V.st ?_
 repeat ((try ((with_reducible refine .ext ?_); (conv => whnf))); (with_reducible refine jab (r := ?_) ?_ ?_); rotate_left; (focus (first | exact (h))); (conv => whnf); refine V.st ?_)
 refine Cnd.split (CondB.mk (fun hq => ?_) (fun hq => ?_))
 ·simp only [Bool.not_eq_true'] at hq
  subst hq
  (conv => whnf)
  refine V.st ?_
  exact Fin.of rfl
 ·simp only [Bool.not_eq_false'] at hq
  subst hq
  (conv => whnf)
  refine V.st ?_
  exact Fin.of rfl
theorem ckb3_ok (g : Nat) (p q m n0 : Int) (x y e : Int) (n : Nat) (f : Nat → List D) (a c : Nat → Int) (hf : ∀ j, j < n → f j = [.int .i64 (a j), .int .i64 (c j)]) (hn : n < 1000)
  (hv : ∀ j, j < n → vb (a j) (c j) = true) (hg : Called Tryz.prog g [.ref [.int .i64 m], .ref [.int .i64 n0], .ref [.int .i64 p, .int .i64 q]] (bD (x, y, e))) :
  Called Tryz.prog 93 [.fn g [] [.ref [.int .i64 m], .ref [.int .i64 n0], .ref [.int .i64 p, .int .i64 q]], .slf 2 n f] (bD (x, y, e)) := by
 refine jaa tbOk 6 ⟨Tryz.func93, rfl, rfl, jhO rfl⟩ ?_
 (conv => whnf)
 refine V.st ?_
 refine jah (0 : Nat) (fun k => k ≤ n) (fun k => n - k) (fun k => [(11, .int .i64 k)]) (fun _ => []) ?_ ?_ ?_
 ·exact V.wk
 ·exact jhP _
 intro k hk
 have hkc : ((k : Int) + 1) = ((k + 1 : Nat) : Int) := by omega
 have hfk := hf k
 have hvk := hv k
 have hvc := jcl (a k) (c k)
 (conv => whnf)
 refine V.st ?_
 refine Cnd.split (CondB.mk (fun hq => ?_) (fun hq => ?_))
 ·rw [decide_eq_true_eq] at hq
  rw [hvk (by omega)] at hvc
  (conv => whnf)
  (try simp only [jhT, hfk (by omega), hkc])
  repeat ((first | refine V.s1 ?_); (try simp only [jhT, hfk (by omega), hkc]))
  (conv => whnf)
  refine And.intro (fun _ => ⟨by omega, by omega⟩) ?_
  refine V.r1 hkc hvc ?_
  exact ⟨k + 1, by omega, by omega, V.wk⟩
 ·rw [decide_eq_false_iff_not] at hq
  (conv => whnf)
  refine V.st ?_
  repeat ((try ((with_reducible refine .ext ?_); (conv => whnf))); (with_reducible refine jab (r := ?_) ?_ ?_); rotate_left; (focus (first | exact (hg))); (conv => whnf); refine V.st ?_)
  exact Fin.of rfl
theorem ckb3_no (g : Nat) (p q m n0 : Int) (x y e : Int) (n : Nat) (f : Nat → List D) (a c : Nat → Int) (hf : ∀ j, j < n → f j = [.int .i64 (a j), .int .i64 (c j)]) (hn : n < 1000)
  (hv : ∃ j, j < n ∧ vb (a j) (c j) = false) :
  Called Tryz.prog 93 [.fn g [] [.ref [.int .i64 m], .ref [.int .i64 n0], .ref [.int .i64 p, .int .i64 q]], .slf 2 n f] (bD (0, 0, 30)) := by
 refine jaa tbOk 6 ⟨Tryz.func93, rfl, rfl, jhO rfl⟩ ?_
 (conv => whnf)
 refine V.st ?_
 refine jah (0 : Nat) (fun k => k ≤ n ∧ ∀ j, j < k → vb (a j) (c j) = true) (fun k => n - k) (fun k => [(11, .int .i64 k)]) (fun _ => []) ?_ ?_ ?_
 ·exact V.wk
 ·exact ⟨jhP _, fun j hj => by omega⟩
 intro k hk
 have hkc : ((k : Int) + 1) = ((k + 1 : Nat) : Int) := by omega
 have hfk := hf k
 have hvc := jcl (a k) (c k)
 (conv => whnf)
 refine V.st ?_
 refine Cnd.split (CondB.mk (fun hq => ?_) (fun hq => ?_))
 ·rw [decide_eq_true_eq] at hq
  generalize hvv : vb (a k) (c k) = v at *
  (conv => whnf)
  (try simp only [jhT, hfk (by omega), hkc])
  repeat ((first | refine V.s1 ?_); (try simp only [jhT, hfk (by omega), hkc]))
  (conv => whnf)
  refine And.intro (fun _ => ⟨by omega, by omega⟩) ?_
  refine V.r1 hkc hvc ?_
  refine Cnd.split (CondB.mk (fun hz => ?_) (fun hz => ?_))
  ·refine V.r0 hkc ?_
   exact Fin.of rfl
  ·simp only [Bool.not_eq_false'] at hz
   refine V.r0 hkc ?_
   exact ⟨k + 1, ⟨by omega, fun j hj => by
    rcases jh0 j k with h | h
    ·exact hk.2 j h
    ·rw [show j = k by omega, hvv, hz]⟩, by omega, V.wk⟩
 ·rw [decide_eq_false_iff_not] at hq
  obtain ⟨j, hj, hv⟩ := hv
  rw [hk.2 j (by omega)] at hv
  cases hv
theorem ckb4_ok (g : Nat) (p q p2 q2 m : Int) (x y e : Int) (n : Nat) (f : Nat → List D) (a c : Nat → Int) (hf : ∀ j, j < n → f j = [.int .i64 (a j), .int .i64 (c j)]) (hn : n < 1000)
  (hv : ∀ j, j < n → vb (a j) (c j) = true) (hg : Called Tryz.prog g [.ref [.int .i64 p, .int .i64 q], .ref [.int .i64 p2, .int .i64 q2], .ref [.int .i64 m]] (bD (x, y, e))) :
  Called Tryz.prog 93 [.fn g [] [.ref [.int .i64 p, .int .i64 q], .ref [.int .i64 p2, .int .i64 q2], .ref [.int .i64 m]], .slf 2 n f] (bD (x, y, e)) := by
 refine jaa tbOk 6 ⟨Tryz.func93, rfl, rfl, jhO rfl⟩ ?_
 (conv => whnf)
 refine V.st ?_
 refine jah (0 : Nat) (fun k => k ≤ n) (fun k => n - k) (fun k => [(11, .int .i64 k)]) (fun _ => []) ?_ ?_ ?_
 ·exact V.wk
 ·exact jhP _
 intro k hk
 have hkc : ((k : Int) + 1) = ((k + 1 : Nat) : Int) := by omega
 have hfk := hf k
 have hvk := hv k
 have hvc := jcl (a k) (c k)
 (conv => whnf)
 refine V.st ?_
 refine Cnd.split (CondB.mk (fun hq => ?_) (fun hq => ?_))
 ·rw [decide_eq_true_eq] at hq
  rw [hvk (by omega)] at hvc
  (conv => whnf)
  (try simp only [jhT, hfk (by omega), hkc])
  repeat ((first | refine V.s1 ?_); (try simp only [jhT, hfk (by omega), hkc]))
  (conv => whnf)
  refine And.intro (fun _ => ⟨by omega, by omega⟩) ?_
  refine V.r1 hkc hvc ?_
  exact ⟨k + 1, by omega, by omega, V.wk⟩
 ·rw [decide_eq_false_iff_not] at hq
  (conv => whnf)
  refine V.st ?_
  repeat ((try ((with_reducible refine .ext ?_); (conv => whnf))); (with_reducible refine jab (r := ?_) ?_ ?_); rotate_left; (focus (first | exact (hg))); (conv => whnf); refine V.st ?_)
  exact Fin.of rfl
theorem ckb4_no (g : Nat) (p q p2 q2 m : Int) (x y e : Int) (n : Nat) (f : Nat → List D) (a c : Nat → Int) (hf : ∀ j, j < n → f j = [.int .i64 (a j), .int .i64 (c j)]) (hn : n < 1000)
  (hv : ∃ j, j < n ∧ vb (a j) (c j) = false) :
  Called Tryz.prog 93 [.fn g [] [.ref [.int .i64 p, .int .i64 q], .ref [.int .i64 p2, .int .i64 q2], .ref [.int .i64 m]], .slf 2 n f] (bD (0, 0, 30)) := by
 refine jaa tbOk 6 ⟨Tryz.func93, rfl, rfl, jhO rfl⟩ ?_
 (conv => whnf)
 refine V.st ?_
 refine jah (0 : Nat) (fun k => k ≤ n ∧ ∀ j, j < k → vb (a j) (c j) = true) (fun k => n - k) (fun k => [(11, .int .i64 k)]) (fun _ => []) ?_ ?_ ?_
 ·exact V.wk
 ·exact ⟨jhP _, fun j hj => by omega⟩
 intro k hk
 have hkc : ((k : Int) + 1) = ((k + 1 : Nat) : Int) := by omega
 have hfk := hf k
 have hvc := jcl (a k) (c k)
 (conv => whnf)
 refine V.st ?_
 refine Cnd.split (CondB.mk (fun hq => ?_) (fun hq => ?_))
 ·rw [decide_eq_true_eq] at hq
  generalize hvv : vb (a k) (c k) = v at *
  (conv => whnf)
  (try simp only [jhT, hfk (by omega), hkc])
  repeat ((first | refine V.s1 ?_); (try simp only [jhT, hfk (by omega), hkc]))
  (conv => whnf)
  refine And.intro (fun _ => ⟨by omega, by omega⟩) ?_
  refine V.r1 hkc hvc ?_
  refine Cnd.split (CondB.mk (fun hz => ?_) (fun hz => ?_))
  ·refine V.r0 hkc ?_
   exact Fin.of rfl
  ·simp only [Bool.not_eq_false'] at hz
   refine V.r0 hkc ?_
   exact ⟨k + 1, ⟨by omega, fun j hj => by
    rcases jh0 j k with h | h
    ·exact hk.2 j h
    ·rw [show j = k by omega, hvv, hz]⟩, by omega, V.wk⟩
 ·rw [decide_eq_false_iff_not] at hq
  obtain ⟨j, hj, hv⟩ := hv
  rw [hk.2 j (by omega)] at hv
  cases hv
def bA (p q : Int) : D := .agg [.int .i64 p, .int .i64 q]
def l1 (p q : Int) : Nat → List D := fun j => List.take 2 (List.drop (0 + j * 2) [.int .i64 p, .int .i64 q])
def l2 (p q p2 q2 : Int) : Nat → List D := fun j => List.take 2 (List.drop (0 + j * 2) [.int .i64 p, .int .i64 q, .int .i64 p2, .int .i64 q2])
theorem l1_c (p q : Int) : ∀ j, j < 1 → l1 p q j = [.int .i64 ((fun _ => p) j), .int .i64 ((fun _ => q) j)] := fun j hj => by
 have h0 : j = 0 := by omega
 subst h0; rfl
def sel_o (x y : Int) : Nat → Int := fun j => if j = 0 then x else y
theorem l2_c (p q p2 q2 : Int) : ∀ j, j < 2 → l2 p q p2 q2 j = [.int .i64 (sel_o p p2 j), .int .i64 (sel_o q q2 j)] := fun j hj => by
 rcases (by omega : j = 0 ∨ j = 1) with e | e
 ·subst e; rfl
 ·subst e; rfl
theorem sel_ok {p q p2 q2 : Int} (h : vb p q = true) (h2 : vb p2 q2 = true) : ∀ j, j < 2 → vb (sel_o p p2 j) (sel_o q q2 j) = true := fun j hj => by
 rcases (by omega : j = 0 ∨ j = 1) with e | e
 ·subst e; exact h
 ·subst e; exact h2
theorem sel_no {p q p2 q2 : Int} (h : ¬ (vb p q = true ∧ vb p2 q2 = true)) : ∃ j, j < 2 ∧ vb (sel_o p p2 j) (sel_o q q2 j) = false := by
 by_cases h1 : vb p q = true
 ·have h3 : ¬ vb p2 q2 = true := fun h2 => h ⟨h1, h2⟩
  exact ⟨1, by omega, Bool.eq_false_iff.2 h3⟩
 ·exact ⟨0, by omega, Bool.eq_false_iff.2 h1⟩
theorem one_no {p q : Int} (h : ¬ vb p q = true) : ∃ j, j < 1 ∧ vb ((fun _ => p) j) ((fun _ => q) j) = false := ⟨0, by omega, Bool.eq_false_iff.2 h⟩
def mx : List Int → Int
 | [] => 0
 | x :: xs => xs.foldl max x
theorem je5 {op : Int → Int → Int} {x : Int} {xs : List Int} {k : Nat} (h : k < xs.length) : (xs.take (k + 1)).foldl op x = op ((xs.take k).foldl op x) (xs.getD k 0) := by
 rw [List.take_add_one, List.foldl_append, List.getD_eq_getElem?_getD, List.getElem?_eq_getElem h]
 rfl
theorem zC3_0 : type_of% @List.getD_cons_succ.{0} ∧ type_of% @List.length_cons.{0} := ⟨@List.getD_cons_succ.{0}, @List.length_cons.{0}⟩
theorem minS_c (x : Int) (xs : List Int) (hl : xs.length < 1000) : Called Tryz.prog 199 [.ints .i64 (x :: xs)] (.int .i64 (xs.foldl min x)) := by
 refine jaa tbOk 6 ⟨Tryz.func199, rfl, rfl, jhO rfl⟩ ?_
 (conv => whnf)
 refine V.st ?_
 refine Cnd.split (CondB.mk (fun h0 => ?_) (fun h0 => ?_))
 ·rw [decide_eq_true_eq, List.length_cons] at h0
  omega
 ·refine V.r0 @List.length_cons.{0} ?_
  refine jah (0 : Nat) (fun k => k ≤ xs.length) (fun k => xs.length - k) (fun k => [(4, .int .i64 ((k + 1 : Nat) : Int)), (3, .int .i64 ((xs.take k).foldl min x))]) (fun _ => []) ?_ ?_ ?_
  ·exact V.wk
  ·exact jhP _
  intro k hk
  have hkc : (((k + 1 : Nat) : Int) + 1) = ((k + 1 + 1 : Nat) : Int) := by omega
  have hi : ((k + 1 : Nat) : Int).toNat = k + 1 := by omega
  refine V.r0 (V.a3 zC3_0 hkc @hi) ?_
  refine Cnd.split (CondB.mk (fun hq => ?_) (fun hq => ?_))
  ·rw [decide_eq_true_eq] at hq
   have ht := je5 (op := min) (x := x) (xs := xs) (k := k) (by omega)
   refine V.r0 (V.a3 zC3_0 hkc @hi) ?_
   refine ⟨k + 1, by omega, by omega, ?_⟩
   rw [ht]
   exact V.wk
  ·rw [decide_eq_false_iff_not] at hq
   have hk2 : k = xs.length := by omega
   refine V.r0 (V.a2 hk2 @List.take_length.{0}) ?_
   exact Fin.of rfl
theorem maxS_c (x : Int) (xs : List Int) (hl : xs.length < 1000) : Called Tryz.prog 200 [.ints .i64 (x :: xs)] (.int .i64 (xs.foldl max x)) := by
 refine jaa tbOk 6 ⟨Tryz.func200, rfl, rfl, jhO rfl⟩ ?_
 (conv => whnf)
 refine V.st ?_
 refine Cnd.split (CondB.mk (fun h0 => ?_) (fun h0 => ?_))
 ·rw [decide_eq_true_eq, List.length_cons] at h0
  omega
 ·refine V.r0 @List.length_cons.{0} ?_
  refine jah (0 : Nat) (fun k => k ≤ xs.length) (fun k => xs.length - k) (fun k => [(4, .int .i64 ((k + 1 : Nat) : Int)), (3, .int .i64 ((xs.take k).foldl max x))]) (fun _ => []) ?_ ?_ ?_
  ·exact V.wk
  ·exact jhP _
  intro k hk
  have hkc : (((k + 1 : Nat) : Int) + 1) = ((k + 1 + 1 : Nat) : Int) := by omega
  have hi : ((k + 1 : Nat) : Int).toNat = k + 1 := by omega
  refine V.r0 (V.a3 zC3_0 hkc @hi) ?_
  refine Cnd.split (CondB.mk (fun hq => ?_) (fun hq => ?_))
  ·rw [decide_eq_true_eq] at hq
   have ht := je5 (op := max) (x := x) (xs := xs) (k := k) (by omega)
   refine V.r0 (V.a3 zC3_0 hkc @hi) ?_
   refine ⟨k + 1, by omega, by omega, ?_⟩
   rw [ht]
   exact V.wk
  ·rw [decide_eq_false_iff_not] at hq
   have hk2 : k = xs.length := by omega
   refine V.r0 (V.a2 hk2 @List.take_length.{0}) ?_
   exact Fin.of rfl
theorem least_c (x : Int) (xs : List Int) (hl : xs.length < 1000) : Called Tryz.prog 172 [.ints .i64 (x :: xs)] (.int .i64 (xs.foldl min x)) := by
 have h := minS_c x xs hl
 refine jaa tbOk 6 ⟨Tryz.func172, rfl, rfl, jhO rfl⟩ ?_
 (conv => whnf)
 refine V.st ?_
 repeat ((try ((with_reducible refine .ext ?_); (conv => whnf))); (with_reducible refine jab (r := ?_) ?_ ?_); rotate_left; (focus (first | exact (h))); (conv => whnf); refine V.st ?_)
 exact Fin.of rfl
theorem greatest_c (x : Int) (xs : List Int) (hl : xs.length < 1000) : Called Tryz.prog 173 [.ints .i64 (x :: xs)] (.int .i64 (xs.foldl max x)) := by
 have h := maxS_c x xs hl
 refine jaa tbOk 6 ⟨Tryz.func173, rfl, rfl, jhO rfl⟩ ?_
 (conv => whnf)
 refine V.st ?_
 repeat ((try ((with_reducible refine .ext ?_); (conv => whnf))); (with_reducible refine jab (r := ?_) ?_ ?_); rotate_left; (focus (first | exact (h))); (conv => whnf); refine V.st ?_)
 exact Fin.of rfl
theorem of_b (p q : Int) : Called Tryz.prog 104 [.int .i64 p, .int .i64 q] (bD (if vb p q = true then (p, q, 0) else (0, 0, 30))) := by
 have h := jcl p q
 generalize vb p q = v at *
 refine jaa tbOk 6 ⟨Tryz.func104, rfl, rfl, jhO rfl⟩ ?_
 (conv => whnf)
 refine V.st ?_
 repeat ((try ((with_reducible refine .ext ?_); (conv => whnf))); (with_reducible refine jab (r := ?_) ?_ ?_); rotate_left; (focus (first | exact (h))); (conv => whnf); refine V.st ?_)
 refine Cnd.split (CondB.mk (fun hq => ?_) (fun hq => ?_))
 ·simp at hq
  subst hq
  (conv => whnf)
  refine V.st ?_
  exact Fin.of rfl
 ·simp at hq
  subst hq
  (conv => whnf)
  refine V.st ?_
  exact Fin.of rfl
end Go.Proofs.YtgjgpdceghjajaaGreatDoor
end
