/- What some functions of the program answer at values that mean given lists, texts and numbers, each proved of the program's own code: part 23. Conditions: those that each theorem names. -/
import Derived.Test.YtgjgpdceghjajaaGreatDoorSimplexKnownH22
import Derived.Test.YtgjgpdceghjajaaGreatDoorSimplexKnownH21
import Derived.Test.YtgjgpdceghjajaaGreatDoorSimplexKnownH14
set_option linter.unusedSimpArgs false
set_option linter.unusedVariables false
set_option maxHeartbeats 8000000
set_option maxRecDepth 100000
section
namespace Go.Proofs.YtgjgpdceghjajaaGreatDoor
open Go Go.V Go.Nb
def S9 (k : Nat) (z : Int) : Prop := (mg 1000000000 z.natAbs).length ≤ k
theorem S9.mono {k l : Nat} {z : Int} (h : S9 k z) (hl : k ≤ l) : S9 l z := jhL h hl
theorem S9.neg {k : Nat} {z : Int} (h : S9 k z) : S9 k (-z) := by unfold S9 at *; rw [Int.natAbs_neg]; exact h
theorem S9.le {k : Nat} {y z : Int} (h : S9 k z) (hy : y.natAbs ≤ z.natAbs) : S9 k y := jhL (jae (by omega) hy) h
theorem S9.mul {k l : Nat} {y z : Int} (h : S9 k y) (h2 : S9 l z) : S9 (k + l) (y * z) := by
 unfold S9 at *
 rw [Int.natAbs_mul]
 have := jb0 (B := 1000000000) (by omega) y.natAbs z.natAbs
 omega
theorem S9.add {k : Nat} {y z : Int} (h : S9 k y) (h2 : S9 k z) : S9 (k + 1) (y + z) := by
 unfold S9 at *
 have h3 := jcD (B := 1000000000) (by omega) y.natAbs z.natAbs
 have h4 := jae (B := 1000000000) (by omega) (Int.natAbs_add_le y z)
 omega
theorem S9.lit {k : Nat} {z : Int} (h : z.natAbs < 1000000000 ^ k) : S9 k z := jax (by omega) h
theorem S9.nat {k : Nat} {n : Nat} : S9 k (n : Int) ↔ (mg 1000000000 n).length ≤ k := by unfold S9; rw [jhR]
theorem sum_c9 (x y : Int) (hx : S9 90000000 x) (hy : S9 90000000 y) : Called Tryz.prog 152 [itD x, itD y] (itD (x + y)) := by
 unfold S9 at hx hy
 have hl := jcD (B := 1000000000) (by omega) x.natAbs y.natAbs
 have hs := plus_m x.natAbs y.natAbs (by omega) (by omega)
 have ho := jb2 x.natAbs y.natAbs (by omega) (by omega)
 rw [show itD x = .agg [.ints .u32 (mg 1000000000 x.natAbs), .bool (decide (x < 0))] from rfl, show itD y = .agg [.ints .u32 (mg 1000000000 y.natAbs), .bool (decide (y < 0))] from rfl]
 refine jaa tbOk 6 ⟨Tryz.func152, rfl, rfl, jhy rfl⟩ ?_
 (conv => whnf)
 refine V.st ?_
 refine Cnd.split (CondB.mk (fun hq => ?_) (fun hq => ?_))
 ·rw [beq_iff_eq, decide_eq_decide] at hq
  have hm := jaT (x.natAbs + y.natAbs) (decide (x < 0))
  have e : (if decide (x < 0) = true then -((x.natAbs + y.natAbs : Nat) : Int) else ((x.natAbs + y.natAbs : Nat) : Int)) = x + y := by
   by_cases h : x < 0
   ·simp [h]; omega
   ·simp [h]; omega
  rw [e] at hm
  (conv => whnf)
  refine V.st ?_
  refine ⟨(.take 0 (.take 1 (.take 2 (.take 3 (.take 5 (.take 6 (.ev (.cons 4 [6, 5] (.ev (.cons 7 [] (.ev (.cons 8 [] (.done) (.nil))) (.nil))) (.nil))))))))), [], ⟨by kernel_rfl, by kernel_rfl, by kernel_rfl, by kernel_rfl⟩, .go (jag ?_)⟩
  (conv => whnf)
  refine V.st ?_
  repeat ((try ((with_reducible refine .ext ?_); (conv => whnf))); (with_reducible refine jab (r := ?_) ?_ ?_); rotate_left; (focus (first | exact (hs) | exact (hm))); (conv => whnf); refine V.st ?_)
  exact Fin.of rfl
 ·have hq' : ¬ (x < 0 ↔ y < 0) := fun h => by rw [beq_eq_false_iff_ne] at hq; exact hq (decide_eq_decide.2 h)
  (conv => whnf)
  refine V.st ?_
  repeat ((try ((with_reducible refine .ext ?_); (conv => whnf))); (with_reducible refine jab (r := ?_) ?_ ?_); rotate_left; (focus (first | exact (ho))); (conv => whnf); refine V.st ?_)
  refine Cnd.split (CondB.mk (fun hq2 => ?_) (fun hq2 => ?_))
  ·rw [decide_eq_true_eq] at hq2
   have hq3 := Int.neg_of_sign_eq_neg_one (a := ((x.natAbs : Int) - y.natAbs)) (by have := Int.sign_trichotomy ((x.natAbs : Int) - y.natAbs); omega)
   have hd := minus_m y.natAbs x.natAbs (by omega) (by omega)
   have hm := jaT (y.natAbs - x.natAbs) (decide (y < 0))
   have e : (if decide (y < 0) = true then -((y.natAbs - x.natAbs : Nat) : Int) else ((y.natAbs - x.natAbs : Nat) : Int)) = x + y := by
    by_cases h : y < 0
    ·simp [h]; omega
    ·simp [h]; omega
   rw [e] at hm
   (conv => whnf)
   refine V.st ?_
   refine ⟨(.take 0 (.take 1 (.take 2 (.take 3 (.take 5 (.take 6 (.ev (.cons 4 [6, 5] (.ev (.cons 7 [] (.ev (.cons 8 [] (.done) (.nil))) (.nil))) (.nil))))))))), [], ⟨by kernel_rfl, by kernel_rfl, by kernel_rfl, by kernel_rfl⟩, .go (jag ?_)⟩
   (conv => whnf)
   refine V.st ?_
   repeat ((try ((with_reducible refine .ext ?_); (conv => whnf))); (with_reducible refine jab (r := ?_) ?_ ?_); rotate_left; (focus (first | exact (hd) | exact (hm))); (conv => whnf); refine V.st ?_)
   exact Fin.of rfl
  ·rw [decide_eq_false_iff_not] at hq2
   have hq3 : ¬ ((x.natAbs : Int) - y.natAbs) < 0 := fun h => hq2 (by rw [jhZ h]; decide)
   have hd := minus_m x.natAbs y.natAbs (by omega) (by omega)
   have hm := jaT (x.natAbs - y.natAbs) (decide (x < 0))
   have e : (if decide (x < 0) = true then -((x.natAbs - y.natAbs : Nat) : Int) else ((x.natAbs - y.natAbs : Nat) : Int)) = x + y := by
    by_cases h : x < 0
    ·simp [h]; omega
    ·simp [h]; omega
   rw [e] at hm
   (conv => whnf)
   refine V.st ?_
   refine ⟨(.take 0 (.take 1 (.take 2 (.take 3 (.take 5 (.take 6 (.ev (.cons 4 [6, 5] (.ev (.cons 7 [] (.ev (.cons 8 [] (.done) (.nil))) (.nil))) (.nil))))))))), [], ⟨by kernel_rfl, by kernel_rfl, by kernel_rfl, by kernel_rfl⟩, .go (jag ?_)⟩
   (conv => whnf)
   refine V.st ?_
   repeat ((try ((with_reducible refine .ext ?_); (conv => whnf))); (with_reducible refine jab (r := ?_) ?_ ?_); rotate_left; (focus (first | exact (hd) | exact (hm))); (conv => whnf); refine V.st ?_)
   exact Fin.of rfl
theorem jc1 (x : Int) (d : Nat) (hx : S9 90000000 x) (hd : (mg 1000000000 d).length ≤ 90000000) : Called Tryz.prog 150 [itD x, .ints .u32 (mg 1000000000 d)] (itD (x * d)) := by
 unfold S9 at hx
 have ht := jcj x.natAbs d (by omega) (by omega)
 have hm := jaT (x.natAbs * d) (decide (x < 0))
 have e : (if decide (x < 0) = true then -((x.natAbs * d : Nat) : Int) else ((x.natAbs * d : Nat) : Int)) = x * d := by
  rw [jhM]
  by_cases h : x < 0
  ·have e2 : (x.natAbs : Int) = -x := by omega
   rw [e2, decide_eq_true h, if_pos rfl, Int.neg_mul, Int.neg_neg]
  ·have e2 : (x.natAbs : Int) = x := by omega
   rw [e2]; simp [h]
 rw [e] at hm
 refine jaa tbOk 6 ⟨Tryz.func150, rfl, rfl, jhy rfl⟩ ?_
 (conv => whnf)
 refine V.st ?_
 refine ⟨(.take 0 (.take 1 (.take 2 (.take 4 (.take 5 (.ev (.cons 3 [5, 4] (.ev (.cons 6 [] (.ev (.cons 7 [] (.done) (.nil))) (.nil))) (.nil)))))))), [], ⟨by kernel_rfl, by kernel_rfl, by kernel_rfl, by kernel_rfl⟩, .go (jag ?_)⟩
 (conv => whnf)
 refine V.st ?_
 repeat ((try ((with_reducible refine .ext ?_); (conv => whnf))); (with_reducible refine jab (r := ?_) ?_ ?_); rotate_left; (focus (first | exact (ht) | exact (hm))); (conv => whnf); refine V.st ?_)
 exact Fin.of rfl
theorem jeZ (x : Int) : Called Tryz.prog 195 [itD x] (itD (-x)) := by
 have hm := jaT x.natAbs (!decide (x < 0))
 have e : (if (!decide (x < 0)) = true then -(x.natAbs : Int) else (x.natAbs : Int)) = -x := by
  by_cases h : x < 0
  ·simp [h]; omega
  ·simp [h]; omega
 rw [e] at hm
 refine jaa tbOk 6 ⟨Tryz.func195, rfl, rfl, jhy rfl⟩ ?_
 (conv => whnf)
 refine V.st ?_
 repeat ((try ((with_reducible refine .ext ?_); (conv => whnf))); (with_reducible refine jab (r := ?_) ?_ ?_); rotate_left; (focus (first | exact (hm))); (conv => whnf); refine V.st ?_)
 exact Fin.of rfl
theorem sign_c (x : Int) : Called Tryz.prog 146 [itD x] (.int .i64 x.sign) := by
 have hz := jcW x.natAbs
 refine jaa tbOk 6 ⟨Tryz.func146, rfl, rfl, jhy rfl⟩ ?_
 (conv => whnf)
 refine V.st ?_
 repeat ((try ((with_reducible refine .ext ?_); (conv => whnf))); (with_reducible refine jab (r := ?_) ?_ ?_); rotate_left; (focus (first | exact (hz))); (conv => whnf); refine V.st ?_)
 refine Cnd.split (CondB.mk (fun hq => ?_) (fun hq => ?_))
 ·rw [decide_eq_true_eq] at hq
  (conv => whnf)
  refine V.st ?_
  exact Fin.of (by rw [show x = 0 by omega]; rfl)
 ·rw [decide_eq_false_iff_not] at hq
  (conv => whnf)
  refine V.st ?_
  refine Cnd.split (CondB.mk (fun hq2 => ?_) (fun hq2 => ?_))
  ·rw [decide_eq_true_eq] at hq2
   (conv => whnf)
   refine V.st ?_
   exact Fin.of (by rw [jhZ hq2])
  ·rw [decide_eq_false_iff_not] at hq2
   (conv => whnf)
   refine V.st ?_
   exact Fin.of (by rw [jh0 (by omega)])
theorem jfu (x y : Rat) (hx : S9 40000000 x.num) (hy : S9 40000000 y.num) (hxd : (mg 1000000000 x.den).length ≤ 40000000) (hyd : (mg 1000000000 y.den).length ≤ 40000000) : Called Tryz.prog 165 [rtD x, rtD y] (.int .i64 (ordQ x y)) := by
 have s1 := jc1 x.num y.den (hx.mono (by omega)) (by omega)
 have s2 := jc1 y.num x.den (hy.mono (by omega)) (by omega)
 have s3 := jeZ (y.num * x.den)
 have z1 : S9 80000000 (x.num * y.den) := hx.mul (S9.nat.2 hyd)
 have z2 : S9 80000000 (y.num * x.den) := hy.mul (S9.nat.2 hxd)
 have s4 := sum_c9 (x.num * y.den) (-(y.num * x.den)) (z1.mono (by omega)) (z2.neg.mono (by omega))
 have s5 := sign_c (x.num * y.den + -(y.num * x.den))
 rw [jgE] at s5
 refine jaa tbOk 6 ⟨Tryz.func165, rfl, rfl, jhy rfl⟩ ?_
 (conv => whnf)
 refine V.st ?_
 refine ⟨(.take 0 (.take 1 (.take 2 (.take 3 (.take 5 (.take 6 (.take 7 (.take 8 (.ev (.cons 4 [8, 7, 6, 5] (.ev (.cons 9 [] (.ev (.cons 10 [] (.ev (.cons 11 [] (.ev (.cons 12 [] (.take 13 (.done)) (.nil))) (.nil))) (.nil))) (.nil))) (.nil))))))))))), [], ⟨by kernel_rfl, by kernel_rfl, by kernel_rfl, by kernel_rfl⟩, .go (jag ?_)⟩
 (conv => whnf)
 refine V.st ?_
 repeat ((try ((with_reducible refine .ext ?_); (conv => whnf))); (with_reducible refine jab (r := ?_) ?_ ?_); rotate_left; (focus (first | exact (s1) | exact (s2) | exact (s3) | exact (s4) | exact (s5))); (conv => whnf); refine V.st ?_)
 exact Fin.of rfl
theorem floor_neg (x : Int) (d : Nat) (hx : x < 0) (hd : 0 < d) : x / (d : Int) = if x.natAbs % d = 0 then -((x.natAbs / d : Nat) : Int) else -((x.natAbs / d + 1 : Nat) : Int) := by
 have h1 := Nat.div_add_mod x.natAbs d
 have h2 := Nat.mod_lt x.natAbs hd
 have e : x = -(x.natAbs : Int) := by omega
 generalize x.natAbs = n at *
 generalize hq : n / d = q at *
 generalize hr : n % d = r at *
 subst e
 have h3 : ((d * q + r : Nat) : Int) = (n : Int) := by rw [h1]
 rw [Int.natCast_add, jhM] at h3
 split
 ·rename_i h
  subst h
  rw [← h3, Int.natCast_zero, jhV, ← Int.mul_neg, Int.mul_ediv_cancel_left _ (by omega)]
 ·rw [Int.natCast_add, Int.natCast_one]
  refine (Int.ediv_eq_iff_of_pos (by omega)).2 ⟨?_, ?_⟩
  ·rw [← h3, Int.neg_mul, jhX, jhO (q : Int)]; omega
  ·rw [← h3, Int.neg_mul, jhX, jhO (q : Int)]; omega
theorem floor_c (x : Int) (d : Nat) (hd : 0 < d) (hx : S9 80000000 x) (hdl : (mg 1000000000 d).length ≤ 80000000) : Called Tryz.prog 154 [itD x, .ints .u32 (mg 1000000000 d)] (itD (x / d)) := by
 unfold S9 at hx
 have h1 := ja3 x.natAbs d hd (by omega) (by omega)
 have h2 := jcW (x.natAbs % d)
 have hl2 := jae (B := 1000000000) (by omega) (jhT x.natAbs d)
 have h3 := plus_m (x.natAbs / d) 1 (by omega) (by decide)
 have h4 := jaT (x.natAbs / d + 1) (decide (x < 0))
 have h5 := jaT (x.natAbs / d) (decide (x < 0))
 by_cases hx0 : x < 0
 ·rw [floor_neg x d hx0 hd]
  rw [show itD x = .agg [.ints .u32 (mg 1000000000 x.natAbs), .bool (decide (x < 0))] from rfl]
  rw [decide_eq_true hx0] at h4 h5 ⊢
  rw [if_pos rfl] at h4 h5
  refine jaa tbOk 6 ⟨Tryz.func154, rfl, rfl, jhy rfl⟩ ?_
  (conv => whnf)
  refine V.st ?_
  repeat ((try ((with_reducible refine .ext ?_); (conv => whnf))); (with_reducible refine jab (r := ?_) ?_ ?_); rotate_left; (focus (first | exact (h1) | exact (h2))); (conv => whnf); refine V.st ?_)
  refine Cnd.split (CondB.mk (fun hq => ?_) (fun hq => ?_))
  ·simp only [Bool.true_and, Bool.not_eq_true', decide_eq_false_iff_not] at hq
   rw [if_neg hq]
   (conv => whnf)
   refine V.st ?_
   repeat ((try ((with_reducible refine .ext ?_); (conv => whnf))); (with_reducible refine jab (r := ?_) ?_ ?_); rotate_left; (focus (first | exact (h3) | exact (h4))); (conv => whnf); refine V.st ?_)
   exact Fin.of rfl
  ·simp only [Bool.true_and, Bool.not_eq_false', decide_eq_true_eq] at hq
   rw [if_pos hq]
   (conv => whnf)
   refine V.st ?_
   repeat ((try ((with_reducible refine .ext ?_); (conv => whnf))); (with_reducible refine jab (r := ?_) ?_ ?_); rotate_left; (focus (first | exact (h5))); (conv => whnf); refine V.st ?_)
   exact Fin.of rfl
 ·have e : x / (d : Int) = ((x.natAbs / d : Nat) : Int) := by
   rw [Int.natCast_ediv]; congr 1; omega
  rw [e]
  rw [show itD x = .agg [.ints .u32 (mg 1000000000 x.natAbs), .bool (decide (x < 0))] from rfl]
  rw [decide_eq_false hx0] at h5 ⊢
  rw [if_neg (by simp)] at h5
  refine jaa tbOk 6 ⟨Tryz.func154, rfl, rfl, jhy rfl⟩ ?_
  (conv => whnf)
  refine V.st ?_
  repeat ((try ((with_reducible refine .ext ?_); (conv => whnf))); (with_reducible refine jab (r := ?_) ?_ ?_); rotate_left; (focus (first | exact (h1) | exact (h2))); (conv => whnf); refine V.st ?_)
  refine Cnd.split (CondB.mk (fun hq => ?_) (fun hq => ?_))
  ·simp at hq
  ·(conv => whnf)
   refine V.st ?_
   repeat ((try ((with_reducible refine .ext ?_); (conv => whnf))); (with_reducible refine jab (r := ?_) ?_ ?_); rotate_left; (focus (first | exact (h5))); (conv => whnf); refine V.st ?_)
   exact Fin.of rfl
def nearZ (q : Rat) (s : Nat) : Int := (q.num * ((s * 2 : Nat) : Int) + q.den) / ((q.den * 2 : Nat) : Int)
theorem near_r (x : Rat) (s : Nat) (hx : S9 30000000 x.num) (hxd : (mg 1000000000 x.den).length ≤ 30000000) (hs : (mg 1000000000 s).length ≤ 30000000) : Called Tryz.prog 113 [rtD x, .ints .u32 (mg 1000000000 s)] (itD (nearZ x s)) := by
 have h2 : (mg 1000000000 2).length ≤ 1 := by decide
 have t1 := jcj s 2 (by omega) (by omega)
 have l1 := jb0 (B := 1000000000) (by omega) s 2
 have s1 := jc1 x.num (s * 2) (hx.mono (by omega)) (by omega)
 have s2 := jaT x.den false
 rw [if_neg (by simp)] at s2
 have z1 : S9 60000001 (x.num * ((s * 2 : Nat) : Int)) := hx.mul (l := 30000001) (S9.nat.2 (by omega))
 have z2 : S9 60000001 (x.den : Int) := S9.nat.2 (by omega)
 have s3 := sum_c9 _ _ (z1.mono (by omega)) (z2.mono (by omega))
 have t2 := jcj x.den 2 (by omega) (by omega)
 have l2 := jb0 (B := 1000000000) (by omega) x.den 2
 have s4 := floor_c (x.num * ((s * 2 : Nat) : Int) + x.den) (x.den * 2) (by have := x.den_pos; omega) ((z1.add z2).mono (by omega)) (by omega)
 unfold nearZ
 clear z1 z2
 generalize x.num * ((s * 2 : Nat) : Int) + x.den = top at *
 refine jaa tbOk 6 ⟨Tryz.func113, rfl, rfl, jhy rfl⟩ ?_
 (conv => whnf)
 refine V.st ?_
 refine ⟨(.take 0 (.take 1 (.take 2 (.take 3 (.take 6 (.take 7 (.ev (.cons 4 [7, 6, 1, 0] (.ev (.cons 5 [7, 6] (.ev (.cons 8 [] (.ev (.cons 9 [] (.ev (.cons 10 [] (.ev (.cons 11 [] (.done) (.nil))) (.nil))) (.cons 10 [] (.ev (.cons 9 [] (.ev (.cons 11 [] (.done) (.nil))) (.nil))) (.nil)))) (.cons 10 [7, 6] (.ev (.cons 8 [] (.ev (.cons 9 [] (.ev (.cons 11 [] (.done) (.nil))) (.nil))) (.nil))) (.nil)))) (.cons 10 [7, 6, 1, 0] (.ev (.cons 5 [7, 6] (.ev (.cons 8 [] (.ev (.cons 9 [] (.ev (.cons 11 [] (.done) (.nil))) (.nil))) (.nil))) (.nil))) (.nil)))) (.cons 10 [7, 6, 3, 2, 1, 0] (.ev (.cons 4 [7, 6, 1, 0] (.ev (.cons 5 [7, 6] (.ev (.cons 8 [] (.ev (.cons 9 [] (.ev (.cons 11 [] (.done) (.nil))) (.nil))) (.nil))) (.nil))) (.nil))) (.nil)))))))))), [], ⟨by kernel_rfl, by kernel_rfl, by kernel_rfl, by kernel_rfl⟩, ?_⟩
 refine jac [(6, .box 6 0), (5, .ints .u32 [2]), (7, .ints .u32 [2])] [(6, .box [.ints .u32 (mg 1000000000 top.natAbs), .bool (decide (top < 0))]), (7, .gone)] ?_ ?_
 ·exact V.d4 @jhC t1 s1 s2 s3
 refine V.st ?_
 refine ⟨(.take 0 (.take 1 (.take 2 (.take 3 (.ev (.cons 4 [0] (.ev (.cons 5 [] (.ev (.cons 6 [] (.done) (.nil))) (.nil))) (.nil))))))), [], ⟨by kernel_rfl, by kernel_rfl, by kernel_rfl, by kernel_rfl⟩, .go (jag ?_)⟩
 (conv => whnf)
 refine V.st ?_
 repeat ((try ((with_reducible refine .ext ?_); (conv => whnf))); (with_reducible refine jab (r := ?_) ?_ ?_); rotate_left; (focus (first | exact (t2) | exact (s4))); (conv => whnf); refine V.st ?_)
 exact Fin.of rfl
theorem jcH (n : Int) (d : Nat) (hd : 0 < d) (h : Nat.Coprime n.natAbs d) : (Rat.divInt n d).num = n ∧ (Rat.divInt n d).den = d := by
 have h1 : Int.gcd (d : Int) n = 1 := by rw [Int.gcd_comm]; exact h
 rw [Rat.num_divInt, Rat.den_divInt, if_neg (by omega), jh0 (by omega), jhY, h1]
 simp
theorem jeG {a b c : Nat} (h : Nat.Coprime a b) (hc : c ∣ a) : Nat.Coprime c b := Nat.Coprime.coprime_dvd_left hc h
theorem cop_dvd' {a b c : Nat} (h : Nat.Coprime a b) (hc : c ∣ b) : Nat.Coprime a c := Nat.Coprime.coprime_dvd_right hc h
theorem sum_cop {xn yn : Int} {R L xb : Nat} (hx : Nat.Coprime xn.natAbs xb) (hR : R ∣ xb) (hRL : Nat.Coprime R L) : Nat.Coprime (xn * L + yn * R).natAbs R := by
 have h1 : Nat.gcd (xn * L + yn * R).natAbs R ∣ R := Nat.gcd_dvd_right _ _
 have h2 : Nat.gcd (xn * L + yn * R).natAbs R ∣ (xn * L + yn * R).natAbs := Nat.gcd_dvd_left _ _
 obtain ⟨d, hd⟩ : ∃ d, d = Nat.gcd (xn * L + yn * R).natAbs R := ⟨_, rfl⟩
 rw [← hd] at h1 h2
 have h3 : (d : Int) ∣ xn * L + yn * R := Int.ofNat_dvd_left.2 h2
 have h4 : (d : Int) ∣ yn * R := Int.dvd_trans (Int.ofNat_dvd.2 h1) (Int.dvd_mul_left _ _)
 have h5 : (d : Int) ∣ xn * L := by
  have := Int.dvd_sub h3 h4
  rwa [Int.add_sub_cancel] at this
 have h6 : d ∣ xn.natAbs * L := by
  have := Int.ofNat_dvd_left.1 h5
  rwa [Int.natAbs_mul, jhR] at this
 have h7 : Nat.Coprime d L := jeG hRL h1
 have h8 : d ∣ xn.natAbs := Nat.Coprime.dvd_of_dvd_mul_right h7 h6
 have h9 : d ∣ Nat.gcd xn.natAbs xb := Nat.dvd_gcd h8 (Nat.dvd_trans h1 hR)
 rw [hx.gcd_eq_one] at h9
 show Nat.gcd _ _ = 1
 rw [← hd]
 exact Nat.dvd_one.1 h9
theorem add_parts (x y : Rat) :
  let g := Nat.gcd x.den y.den; let L := y.den / g; let R := x.den / g; let top := x.num * L + y.num * R; let h := Nat.gcd top.natAbs g
  (x + y).num = top / h ∧ (x + y).den = R * (y.den / h) := by
 intro g L R top h
 have hg : 0 < g := Nat.gcd_pos_of_pos_left _ x.den_pos
 have ex : x.den = R * g := (Nat.div_mul_cancel (Nat.gcd_dvd_left _ _)).symm
 have ey : y.den = L * g := (Nat.div_mul_cancel (Nat.gcd_dvd_right _ _)).symm
 have hRL : Nat.Coprime R L := Nat.coprime_div_gcd_div_gcd hg
 have c1 : Nat.Coprime top.natAbs R := sum_cop x.reduced (by rw [ex]; exact Nat.dvd_mul_right _ _) hRL
 have c2 : Nat.Coprime top.natAbs L := by
  have := sum_cop (xn := y.num) (yn := x.num) (R := L) (L := R) y.reduced (by rw [ey]; exact Nat.dvd_mul_right _ _) hRL.symm
  rwa [Int.add_comm] at this
 have hh : 0 < h := Nat.gcd_pos_of_pos_right _ hg
 have hht : h ∣ top.natAbs := Nat.gcd_dvd_left _ _
 have hhg : h ∣ g := Nat.gcd_dvd_right _ _
 have hT : ((h : Nat) : Int) ∣ top := Int.ofNat_dvd_left.2 hht
 obtain ⟨t, ht⟩ := hT
 obtain ⟨q, hq⟩ := hhg
 have hyq : y.den / h = L * q := by
  rw [ey, hq, jhG h q, ← Nat.mul_assoc, Nat.mul_div_cancel _ hh]
 have htn : top.natAbs = h * t.natAbs := by rw [ht, Int.natAbs_mul, jhR]
 have hcq : Nat.Coprime t.natAbs q := by
  have h1 : Nat.Coprime (top.natAbs / h) (g / h) := Nat.coprime_div_gcd_div_gcd hh
  rwa [htn, hq, Nat.mul_div_cancel_left _ hh, Nat.mul_div_cancel_left _ hh] at h1
 have htd : t.natAbs ∣ top.natAbs := by rw [htn]; exact Nat.dvd_mul_left _ _
 have hcop : Nat.Coprime t.natAbs (R * (y.den / h)) := by
  rw [hyq]
  exact Nat.Coprime.mul_right (jeG c1 htd) (Nat.Coprime.mul_right (jeG c2 htd) hcq)
 have hqp : 0 < q := Nat.pos_of_ne_zero fun e => by rw [e] at hq; omega
 have hLp : 0 < L := Nat.pos_of_ne_zero fun e => by have := y.den_pos; rw [ey, e] at this; omega
 have hRp : 0 < R := Nat.pos_of_ne_zero fun e => by have := x.den_pos; rw [ex, e] at this; omega
 have hsum : x + y = Rat.divInt t ((R * (y.den / h) : Nat) : Int) := by
  conv => lhs; rw [← jh1 x, ← jh1 y]
  rw [Rat.divInt_add_divInt _ _ (by have := x.den_pos; omega) (by have := y.den_pos; omega)]
  have hyp := y.den_pos
  have hxp := x.den_pos
  rw [Rat.divInt_eq_divInt_iff (by have := Nat.mul_pos hxp hyp; rw [← jhM]; omega) (by have : 0 < R * (y.den / h) := by { rw [hyq]; exact Nat.mul_pos hRp (Nat.mul_pos hLp hqp) }; omega)]
  rw [hyq, ex, ey, hq]
  have e1 : x.num * ((L * (h * q) : Nat) : Int) + y.num * ((R * (h * q) : Nat) : Int) = (h * q : Nat) * top := by
   show _ = ((h * q : Nat) : Int) * (x.num * (L : Int) + y.num * (R : Int))
   simp only [jhM, jhN]
   congr 1 <;> ac_rfl
  rw [e1, ht]
  simp only [jhM]
  ac_rfl
 have hp : 0 < R * (y.den / h) := by rw [hyq]; exact Nat.mul_pos hRp (Nat.mul_pos hLp hqp)
 obtain ⟨p1, p2⟩ := jcH t (R * (y.den / h)) hp hcop
 rw [hsum, p1, p2, ht, Int.mul_ediv_cancel_left _ (by omega)]
 exact ⟨rfl, rfl⟩
theorem mul_parts (x y : Rat) :
  let g := Nat.gcd x.num.natAbs y.den; let h := Nat.gcd y.num.natAbs x.den
  (x * y).num.natAbs = (x.num.natAbs / g) * (y.num.natAbs / h) ∧ (x * y).den = (x.den / h) * (y.den / g) := by
 intro g h
 have hg : 0 < g := Nat.gcd_pos_of_pos_right _ y.den_pos
 have hh : 0 < h := Nat.gcd_pos_of_pos_right _ x.den_pos
 obtain ⟨a, ha⟩ : g ∣ x.num.natAbs := Nat.gcd_dvd_left _ _
 obtain ⟨b, hb⟩ : g ∣ y.den := Nat.gcd_dvd_right _ _
 obtain ⟨c, hc⟩ : h ∣ y.num.natAbs := Nat.gcd_dvd_left _ _
 obtain ⟨d, hd⟩ : h ∣ x.den := Nat.gcd_dvd_right _ _
 have k1 : x.num.natAbs / g = a := by rw [ha, Nat.mul_div_cancel_left _ hg]
 have k2 : y.den / g = b := by rw [hb, Nat.mul_div_cancel_left _ hg]
 have k3 : y.num.natAbs / h = c := by rw [hc, Nat.mul_div_cancel_left _ hh]
 have k4 : x.den / h = d := by rw [hd, Nat.mul_div_cancel_left _ hh]
 have c1 : Nat.Coprime a b := by
  have : Nat.Coprime (x.num.natAbs / g) (y.den / g) := Nat.coprime_div_gcd_div_gcd hg
  rwa [k1, k2] at this
 have c2 : Nat.Coprime c d := by
  have : Nat.Coprime (y.num.natAbs / h) (x.den / h) := Nat.coprime_div_gcd_div_gcd hh
  rwa [k3, k4] at this
 have c3 : Nat.Coprime a d := jeG (cop_dvd' x.reduced (by rw [hd]; exact Nat.dvd_mul_left _ _)) (by rw [ha]; exact Nat.dvd_mul_left _ _)
 have c4 : Nat.Coprime c b := jeG (cop_dvd' y.reduced (by rw [hb]; exact Nat.dvd_mul_left _ _)) (by rw [hc]; exact Nat.dvd_mul_left _ _)
 have hcop : Nat.Coprime (a * c) (d * b) := Nat.Coprime.mul_right (Nat.Coprime.mul_left c3 c2) (Nat.Coprime.mul_left c1 c4)
 obtain ⟨u, hu⟩ : ((g : Nat) : Int) ∣ x.num := Int.ofNat_dvd_left.2 ⟨a, ha⟩
 obtain ⟨v, hv⟩ : ((h : Nat) : Int) ∣ y.num := Int.ofNat_dvd_left.2 ⟨c, hc⟩
 have hua : u.natAbs = a := by
  have := ha; rw [hu, Int.natAbs_mul, jhR] at this
  exact Nat.eq_of_mul_eq_mul_left hg this
 have hvc : v.natAbs = c := by
  have := hc; rw [hv, Int.natAbs_mul, jhR] at this
  exact Nat.eq_of_mul_eq_mul_left hh this
 have hbp : 0 < b := Nat.pos_of_ne_zero fun e => by have := y.den_pos; rw [hb, e] at this; omega
 have hdp : 0 < d := Nat.pos_of_ne_zero fun e => by have := x.den_pos; rw [hd, e] at this; omega
 have hp : 0 < d * b := Nat.mul_pos hdp hbp
 have hprod : x * y = Rat.divInt (u * v) ((d * b : Nat) : Int) := by
  conv => lhs; rw [← jh1 x, ← jh1 y]
  rw [Rat.divInt_mul_divInt]
  have hyp := y.den_pos
  have hxp := x.den_pos
  rw [Rat.divInt_eq_divInt_iff (by have := Nat.mul_pos hxp hyp; rw [← jhM]; omega) (by omega), hb, hd]
  conv => lhs; rw [hu, hv]
  simp only [jhM]
  ac_rfl
 obtain ⟨p1, p2⟩ := jcH (u * v) (d * b) hp (by rw [Int.natAbs_mul, hua, hvc]; exact hcop)
 rw [hprod, p1, p2, Int.natAbs_mul, hua, hvc, k1, k2, k3, k4]
 exact ⟨rfl, rfl⟩
theorem mul_sign (x y : Rat) : decide ((x * y).num < 0) = ((decide (x.num < 0) != decide (y.num < 0)) && !decide ((x * y).num = 0)) := by
 have hg : 0 < Nat.gcd (x.num * y.num).natAbs (x.den * y.den) := Nat.gcd_pos_of_pos_right _ (Nat.mul_pos x.den_pos y.den_pos)
 obtain ⟨t, ht⟩ : ((Nat.gcd (x.num * y.num).natAbs (x.den * y.den) : Nat) : Int) ∣ x.num * y.num := Int.ofNat_dvd_left.2 (Nat.gcd_dvd_left _ _)
 have key : (x * y).num = t := by
  rw [Rat.mul_def, Rat.normalize_eq]
  show x.num * y.num / ((Nat.gcd (x.num * y.num).natAbs (x.den * y.den) : Nat) : Int) = t
  conv => lhs; lhs; rw [ht]
  exact Int.mul_ediv_cancel_left _ (by omega)
 rw [key]
 generalize Nat.gcd (x.num * y.num).natAbs (x.den * y.den) = g at *
 have hs : (t < 0 ↔ x.num * y.num < 0) ∧ (t = 0 ↔ x.num * y.num = 0) := by
  rw [ht]
  constructor
  ·constructor
   ·intro h; exact Int.mul_neg_of_pos_of_neg (by omega) h
   ·intro h
    rcases Int.lt_or_le t 0 with h2 | h2
    ·exact h2
    ·have := jhB (a := (g : Int)) (by omega) h2; omega
  ·constructor
   ·intro h; rw [h, Int.mul_zero]
   ·intro h; rcases Int.mul_eq_zero.1 h with h2 | h2 <;> omega
 by_cases h1 : x.num < 0 <;> by_cases h2 : y.num < 0 <;> by_cases h3 : t = 0
 all_goals
  have h4 := hs.1
  have h5 := hs.2
  simp only [h1, h2, h3, decide_true, decide_false, bne_self_eq_false, Bool.false_and, Bool.not_true, Bool.and_false, Bool.not_false, Bool.and_true]
 ·rfl
 ·rw [decide_eq_false_iff_not, h4]
  have := Int.mul_pos_of_neg_of_neg h1 h2; omega
 ·simp
 ·have h6 : x.num * y.num ≠ 0 := fun e => h3 (h5.2 e)
  have h7 : x.num * y.num ≤ 0 := Int.mul_nonpos_of_nonpos_of_nonneg (by omega) (by omega)
  simp only [h4]
  simp; omega
 ·simp
 ·have h6 : x.num * y.num ≠ 0 := fun e => h3 (h5.2 e)
  have h7 : x.num * y.num ≤ 0 := Int.mul_nonpos_of_nonneg_of_nonpos (by omega) (by omega)
  simp only [h4]
  simp; omega
 ·rfl
 ·rw [decide_eq_false_iff_not, h4]
  have := jhB (a := x.num) (b := y.num) (by omega) (by omega); omega
def Q9 (k : Nat) (q : Rat) : Prop := S9 k q.num ∧ (mg 1000000000 q.den).length ≤ k
theorem Q9.mono {k l : Nat} {q : Rat} (h : Q9 k q) (hl : k ≤ l) : Q9 l q := ⟨h.1.mono hl, jhL h.2 hl⟩
theorem Q9.neg {k : Nat} {q : Rat} (h : Q9 k q) : Q9 k (-q) := ⟨by rw [Rat.neg_num]; exact h.1.neg, by rw [Rat.neg_den]; exact h.2⟩
theorem div_sign (t : Int) (h : Nat) (hd : h ∣ t.natAbs) : (if decide (t < 0) = true then -((t.natAbs / h : Nat) : Int) else ((t.natAbs / h : Nat) : Int)) = t / h := by
 have e : t = t.sign * (t.natAbs : Int) := (Int.sign_mul_natAbs t).symm
 by_cases hz : t < 0
 ·rw [decide_eq_true hz, if_pos rfl]
  have e2 : t = -(t.natAbs : Int) := by omega
  conv => rhs; rw [e2]
  rw [Int.neg_ediv_of_dvd (Int.ofNat_dvd.2 hd), Int.natCast_ediv]
 ·rw [decide_eq_false hz, if_neg (by simp)]
  have e2 : t = (t.natAbs : Int) := by omega
  conv => rhs; rw [e2]
  rw [Int.natCast_ediv]
theorem negated_c (q : Rat) : Called Tryz.prog 170 [rtD q] (rtD (-q)) := by
 have h1 := jeZ q.num
 have e : rtD (-q) = .agg [.ints .u32 (mg 1000000000 (-q.num).natAbs), .bool (decide (-q.num < 0)), .ints .u32 (mg 1000000000 q.den)] := by unfold rtD; rw [Rat.neg_num, Rat.neg_den]
 rw [e]
 refine jaa tbOk 6 ⟨Tryz.func170, rfl, rfl, jhy rfl⟩ ?_
 (conv => whnf)
 refine V.st ?_
 refine ⟨(.take 0 (.take 1 (.take 3 (.take 4 (.ev (.cons 2 [4, 3] (.take 5 (.ev (.cons 6 [] (.done) (.nil)))) (.nil))))))), [], ⟨by kernel_rfl, by kernel_rfl, by kernel_rfl, by kernel_rfl⟩, .go (jag ?_)⟩
 (conv => whnf)
 refine V.st ?_
 repeat ((try ((with_reducible refine .ext ?_); (conv => whnf))); (with_reducible refine jab (r := ?_) ?_ ?_); rotate_left; (focus (first | exact (h1))); (conv => whnf); refine V.st ?_)
 exact Fin.of rfl
theorem add_c (x y : Rat) (hx : Q9 20000000 x) (hy : Q9 20000000 y) : Called Tryz.prog 138 [rtD x, rtD y] (rtD (x + y)) := by
 obtain ⟨p1, p2⟩ := add_parts x y
 have g1 := gcd_c x.den y.den (by have := hx.2; omega) (by have := hy.2; omega)
 have hg : 0 < Nat.gcd x.den y.den := Nat.gcd_pos_of_pos_left _ x.den_pos
 have lg := jae (B := 1000000000) (by omega) (Nat.gcd_le_left y.den x.den_pos)
 generalize Nat.gcd x.den y.den = g at *
 have hx1 := hx.1
 have hy1 := hy.1
 have hx2 := hx.2
 have hy2 := hy.2
 have d1 := ja3 y.den g hg (by omega) (by omega)
 have d2 := ja3 x.den g hg (by omega) (by omega)
 have lL := jae (B := 1000000000) (by omega) (jhT y.den g)
 have lR := jae (B := 1000000000) (by omega) (jhT x.den g)
 have s1 := jc1 x.num (y.den / g) (hx1.mono (by omega)) (by omega)
 have s2 := jc1 y.num (x.den / g) (hy1.mono (by omega)) (by omega)
 have z1 : S9 40000000 (x.num * ((y.den / g : Nat) : Int)) := hx1.mul (l := 20000000) (S9.nat.2 (by omega))
 have z2 : S9 40000000 (y.num * ((x.den / g : Nat) : Int)) := hy1.mul (l := 20000000) (S9.nat.2 (by omega))
 have s3 := sum_c9 _ _ (z1.mono (by omega)) (z2.mono (by omega))
 have z3 := z1.add z2
 generalize x.num * ((y.den / g : Nat) : Int) + y.num * ((x.den / g : Nat) : Int) = top at *
 unfold S9 at z3
 have g2 := gcd_c top.natAbs g (by omega) (by omega)
 have hh : 0 < Nat.gcd top.natAbs g := Nat.gcd_pos_of_pos_right _ hg
 have lh := jae (B := 1000000000) (by omega) (Nat.gcd_le_right top.natAbs hg)
 have hdv : Nat.gcd top.natAbs g ∣ top.natAbs := Nat.gcd_dvd_left _ _
 generalize Nat.gcd top.natAbs g = h at *
 have d3 := ja3 top.natAbs h hh (by omega) (by omega)
 have d4 := ja3 y.den h hh (by omega) (by omega)
 have lT := jae (B := 1000000000) (by omega) (jhT y.den h)
 have t1 := jcj (x.den / g) (y.den / h) (by omega) (by omega)
 have m1 := jaT (top.natAbs / h) (decide (top < 0))
 rw [div_sign top h hdv, ← p1] at m1
 rw [← p2] at t1
 refine jaa tbOk 6 ⟨Tryz.func138, rfl, rfl, jhy rfl⟩ ?_
 (conv => whnf)
 refine V.st ?_
 repeat ((try ((with_reducible refine .ext ?_); (conv => whnf))); (with_reducible refine jab (r := ?_) ?_ ?_); rotate_left; (focus (first | exact (g1) | exact (d1) | exact (d2))); (conv => whnf); refine V.st ?_)
 refine ⟨(.take 0 (.take 1 (.take 2 (.take 4 (.take 5 (.take 6 (.ev (.cons 3 [6, 5, 4] (.ev (.cons 7 [] (.ev (.cons 8 [] (.ev (.cons 9 [] (.ev (.cons 10 [] (.done) (.nil))) (.nil))) (.cons 9 [] (.ev (.cons 8 [] (.ev (.cons 10 [] (.done) (.nil))) (.nil))) (.nil)))) (.cons 9 [6, 5, 4] (.ev (.cons 7 [] (.ev (.cons 8 [] (.ev (.cons 10 [] (.done) (.nil))) (.nil))) (.nil))) (.nil)))) (.cons 9 [6, 5, 4, 2, 1, 0] (.ev (.cons 3 [6, 5, 4] (.ev (.cons 7 [] (.ev (.cons 8 [] (.ev (.cons 10 [] (.done) (.nil))) (.nil))) (.nil))) (.nil))) (.nil)))))))))), [], ⟨by kernel_rfl, by kernel_rfl, by kernel_rfl, by kernel_rfl⟩, ?_⟩
 refine jac [(10, .box 10 0)] [(10, .box [.ints .u32 (mg 1000000000 top.natAbs), .bool (decide (top < 0))])] ?_ ?_
 ·exact V.d3 @jhC s1 s2 s3
 (conv => whnf)
 refine V.st ?_
 repeat ((try ((with_reducible refine .ext ?_); (conv => whnf))); (with_reducible refine jab (r := ?_) ?_ ?_); rotate_left; (focus (first | exact (g2) | exact (d3) | exact (d4) | exact (m1) | exact (t1))); (conv => whnf); refine V.st ?_)
 exact Fin.of rfl
theorem sub_c (x y : Rat) (hx : Q9 20000000 x) (hy : Q9 20000000 y) : Called Tryz.prog 137 [rtD x, rtD y] (rtD (x - y)) := by
 have h1 := negated_c y
 have h2 := add_c x (-y) hx hy.neg
 rw [← Rat.sub_eq_add_neg] at h2
 refine jaa tbOk 6 ⟨Tryz.func137, rfl, rfl, jhy rfl⟩ ?_
 (conv => whnf)
 refine V.st ?_
 refine ⟨(.take 0 (.take 1 (.ev (.cons 2 [0] (.ev (.cons 3 [] (.ev (.cons 4 [] (.done) (.nil))) (.nil))) (.nil))))), [], ⟨by kernel_rfl, by kernel_rfl, by kernel_rfl, by kernel_rfl⟩, .go (jag ?_)⟩
 (conv => whnf)
 refine V.st ?_
 repeat ((try ((with_reducible refine .ext ?_); (conv => whnf))); (with_reducible refine jab (r := ?_) ?_ ?_); rotate_left; (focus (first | exact (h1) | exact (h2))); (conv => whnf); refine V.st ?_)
 exact Fin.of rfl
theorem mul_num (x y : Rat) : (if (decide (x.num < 0) != decide (y.num < 0)) = true then -((x * y).num.natAbs : Int) else ((x * y).num.natAbs : Int)) = (x * y).num := by
 have h := mul_sign x y
 by_cases h0 : (x * y).num = 0
 ·rw [h0]; simp
 ·rw [decide_eq_false h0, Bool.not_false, Bool.and_true] at h
  rw [← h]
  by_cases h1 : (x * y).num < 0
  ·rw [decide_eq_true h1, if_pos rfl]; omega
  ·rw [decide_eq_false h1, if_neg (by simp)]; omega
theorem mul_c (x y : Rat) (hx : Q9 20000000 x) (hy : Q9 20000000 y) : Called Tryz.prog 131 [rtD x, rtD y] (rtD (x * y)) := by
 obtain ⟨p1, p2⟩ := mul_parts x y
 have pn := mul_num x y
 have hx1 := hx.1
 have hy1 := hy.1
 have hx2 := hx.2
 have hy2 := hy.2
 unfold S9 at hx1 hy1
 have g1 := gcd_c x.num.natAbs y.den (by omega) (by omega)
 have g2 := gcd_c y.num.natAbs x.den (by omega) (by omega)
 have hg : 0 < Nat.gcd x.num.natAbs y.den := Nat.gcd_pos_of_pos_right _ y.den_pos
 have hh : 0 < Nat.gcd y.num.natAbs x.den := Nat.gcd_pos_of_pos_right _ x.den_pos
 have lg := jae (B := 1000000000) (by omega) (Nat.gcd_le_right x.num.natAbs y.den_pos)
 have lh := jae (B := 1000000000) (by omega) (Nat.gcd_le_right y.num.natAbs x.den_pos)
 generalize Nat.gcd x.num.natAbs y.den = g at *
 generalize Nat.gcd y.num.natAbs x.den = h at *
 have d1 := ja3 x.num.natAbs g hg (by omega) (by omega)
 have d2 := ja3 x.den h hh (by omega) (by omega)
 have d3 := ja3 y.num.natAbs h hh (by omega) (by omega)
 have d4 := ja3 y.den g hg (by omega) (by omega)
 have l1 := jae (B := 1000000000) (by omega) (jhT x.num.natAbs g)
 have l2 := jae (B := 1000000000) (by omega) (jhT x.den h)
 have l3 := jae (B := 1000000000) (by omega) (jhT y.num.natAbs h)
 have l4 := jae (B := 1000000000) (by omega) (jhT y.den g)
 have t1 := jcj (x.num.natAbs / g) (y.num.natAbs / h) (by omega) (by omega)
 have t2 := jcj (x.den / h) (y.den / g) (by omega) (by omega)
 rw [← p1] at t1
 rw [← p2] at t2
 have m1 := jaT (x * y).num.natAbs (decide (x.num < 0) != decide (y.num < 0))
 rw [pn] at m1
 refine jaa tbOk 6 ⟨Tryz.func131, rfl, rfl, jhy rfl⟩ ?_
 (conv => whnf)
 refine V.st ?_
 repeat ((try ((with_reducible refine .ext ?_); (conv => whnf))); (with_reducible refine jab (r := ?_) ?_ ?_); rotate_left; (focus (first | exact (g1) | exact (g2) | exact (d1) | exact (d2) | exact (d3) | exact (d4))); (conv => whnf); refine V.st ?_)
 refine ⟨(.take 0 (.take 1 (.take 3 (.take 4 (.take 5 (.take 6 (.take 7 (.take 8 (.take 9 (.take 11 (.take 12 (.ev (.cons 2 [12, 11, 9, 8, 7, 6, 5, 4, 3] (.ev (.cons 10 [12, 11] (.ev (.cons 13 [] (.take 14 (.ev (.cons 15 [] (.done) (.nil)))) (.nil))) (.nil))) (.nil)))))))))))))), [], ⟨by kernel_rfl, by kernel_rfl, by kernel_rfl, by kernel_rfl⟩, .go (jag ?_)⟩
 (conv => whnf)
 refine V.st ?_
 repeat ((try ((with_reducible refine .ext ?_); (conv => whnf))); (with_reducible refine jab (r := ?_) ?_ ?_); rotate_left; (focus (first | exact (t1) | exact (m1) | exact (t2))); (conv => whnf); refine V.st ?_)
 exact Fin.of rfl
theorem jf4 (q : Rat) (hq : q.num ≠ 0) : q⁻¹.num = (if decide (q.num < 0) = true then -(q.den : Int) else (q.den : Int)) ∧ q⁻¹.den = q.num.natAbs := by
 have hd := q.den_pos
 have hc : Nat.Coprime (if decide (q.num < 0) = true then -(q.den : Int) else (q.den : Int)).natAbs q.num.natAbs := by
  have e : (if decide (q.num < 0) = true then -(q.den : Int) else (q.den : Int)).natAbs = q.den := by
   split <;> simp
  rw [e]
  exact q.reduced.symm
 have e : q⁻¹ = Rat.divInt (if decide (q.num < 0) = true then -(q.den : Int) else (q.den : Int)) (q.num.natAbs : Nat) := by
  rw [Rat.inv_def, Rat.divInt_eq_divInt_iff hq (by omega)]
  by_cases h : q.num < 0
  ·rw [decide_eq_true h, if_pos rfl, show (q.num.natAbs : Int) = -q.num by omega, Int.mul_neg, Int.neg_mul]
  ·rw [decide_eq_false h, if_neg (by simp), show (q.num.natAbs : Int) = q.num by omega]
 obtain ⟨h1, h2⟩ := jcH _ q.num.natAbs (by omega) hc
 rw [e]
 exact ⟨h1, h2⟩
theorem inverse_c (q : Rat) (hq : q.num ≠ 0) : Called Tryz.prog 133 [rtD q] (rtD q⁻¹) := by
 obtain ⟨p1, p2⟩ := jf4 q hq
 have m1 := jaT q.den (decide (q.num < 0))
 rw [← p1] at m1
 have e : rtD q⁻¹ = .agg [.ints .u32 (mg 1000000000 q⁻¹.num.natAbs), .bool (decide (q⁻¹.num < 0)), .ints .u32 (mg 1000000000 q.num.natAbs)] := by unfold rtD; rw [p2]
 rw [e]
 refine jaa tbOk 6 ⟨Tryz.func133, rfl, rfl, jhy rfl⟩ ?_
 (conv => whnf)
 refine V.st ?_
 refine ⟨(.take 0 (.take 1 (.take 2 (.take 3 (.take 4 (.take 6 (.take 7 (.take 8 (.ev (.cons 5 [8, 7, 6] (.take 9 (.ev (.cons 10 [] (.done) (.nil)))) (.nil))))))))))), [], ⟨by kernel_rfl, by kernel_rfl, by kernel_rfl, by kernel_rfl⟩, .go (jag ?_)⟩
 (conv => whnf)
 refine V.st ?_
 repeat ((try ((with_reducible refine .ext ?_); (conv => whnf))); (with_reducible refine jab (r := ?_) ?_ ?_); rotate_left; (focus (first | exact (m1))); (conv => whnf); refine V.st ?_)
 exact Fin.of rfl
theorem lesser_c (x y : Rat) (hx : Q9 20000000 x) (hy : Q9 20000000 y) : Called Tryz.prog 191 [rtD x, rtD y] (rtD (if y < x then y else x)) := by
 have h1 := jfu x y (hx.1.mono (by omega)) (hy.1.mono (by omega)) (jhL hx.2 (by omega)) (jhL hy.2 (by omega))
 have e : ordQ x y > 0 ↔ y < x := by
  unfold ordQ
  by_cases a : x < y
  ·rw [if_pos a]; exact ⟨fun h => by omega, fun h => absurd h (Rat.not_lt.2 (Rat.le_of_lt a))⟩
  ·rw [if_neg a]
   by_cases b : x = y
   ·rw [if_pos b, b]; exact ⟨fun h => by omega, fun h => absurd h (Rat.lt_irrefl)⟩
   ·rw [if_neg b]; exact ⟨fun _ => Rat.lt_of_le_of_ne (Rat.not_lt.1 a) (Ne.symm b), fun _ => by omega⟩
 refine jaa tbOk 6 ⟨Tryz.func191, rfl, rfl, jhy rfl⟩ ?_
 (conv => whnf)
 refine V.st ?_
 repeat ((try ((with_reducible refine .ext ?_); (conv => whnf))); (with_reducible refine jab (r := ?_) ?_ ?_); rotate_left; (focus (first | exact (h1))); (conv => whnf); refine V.st ?_)
 refine Cnd.split (CondB.mk (fun hq => ?_) (fun hq => ?_))
 ·rw [decide_eq_true_eq] at hq
  rw [if_pos (e.1 hq)]
  (conv => whnf)
  refine V.st ?_
  exact Fin.of rfl
 ·rw [decide_eq_false_iff_not] at hq
  rw [if_neg (fun h => hq (e.2 h))]
  (conv => whnf)
  refine V.st ?_
  exact Fin.of rfl
theorem greater_c (x y : Rat) (hx : Q9 20000000 x) (hy : Q9 20000000 y) : Called Tryz.prog 190 [rtD x, rtD y] (rtD (if x < y then y else x)) := by
 have h1 := jfu x y (hx.1.mono (by omega)) (hy.1.mono (by omega)) (jhL hx.2 (by omega)) (jhL hy.2 (by omega))
 have e : ordQ x y < 0 ↔ x < y := by
  unfold ordQ
  by_cases a : x < y
  ·rw [if_pos a]; exact ⟨fun _ => a, fun _ => by omega⟩
  ·rw [if_neg a]
   by_cases b : x = y
   ·rw [if_pos b]; exact ⟨fun h => by omega, fun h => absurd h a⟩
   ·rw [if_neg b]; exact ⟨fun h => by omega, fun h => absurd h a⟩
 refine jaa tbOk 6 ⟨Tryz.func190, rfl, rfl, jhy rfl⟩ ?_
 (conv => whnf)
 refine V.st ?_
 repeat ((try ((with_reducible refine .ext ?_); (conv => whnf))); (with_reducible refine jab (r := ?_) ?_ ?_); rotate_left; (focus (first | exact (h1))); (conv => whnf); refine V.st ?_)
 refine Cnd.split (CondB.mk (fun hq => ?_) (fun hq => ?_))
 ·rw [decide_eq_true_eq] at hq
  rw [if_pos (e.1 hq)]
  (conv => whnf)
  refine V.st ?_
  exact Fin.of rfl
 ·rw [decide_eq_false_iff_not] at hq
  rw [if_neg (fun h => hq (e.2 h))]
  (conv => whnf)
  refine V.st ?_
  exact Fin.of rfl
end Go.Proofs.YtgjgpdceghjajaaGreatDoor
end
