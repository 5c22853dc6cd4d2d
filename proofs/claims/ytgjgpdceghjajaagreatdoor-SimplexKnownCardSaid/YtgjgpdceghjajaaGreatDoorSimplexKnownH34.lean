/- What some functions of the program answer at values that mean given lists, texts and numbers, each proved of the program's own code: part 34. Conditions: those that each theorem names. -/
import Derived.Test.YtgjgpdceghjajaaGreatDoorSimplexKnownH33
import Derived.Test.YtgjgpdceghjajaaGreatDoorSimplexKnownH24
import Derived.Test.YtgjgpdceghjajaaGreatDoorSimplexKnownH25
import Derived.Test.YtgjgpdceghjajaaGreatDoorSimplexKnownH32
import Derived.Test.YtgjgpdceghjajaaGreatDoorSimplexKnownH13
import Derived.Test.YtgjgpdceghjajaaGreatDoorSimplexKnownH14
set_option linter.unusedSimpArgs false
set_option linter.unusedVariables false
set_option maxHeartbeats 8000000
set_option maxRecDepth 100000
section
namespace Go.Proofs.YtgjgpdceghjajaaGreatDoor
open Go Go.V Go.Nb
def gtr (m x : Rat) : Rat := if m < x then x else m
theorem ordQ_lt {x y : Rat} : ordQ x y < 0 ↔ x < y := by
 unfold ordQ
 by_cases a : x < y
 ·rw [if_pos a]; exact ⟨fun _ => a, fun _ => by omega⟩
 ·rw [if_neg a]
  by_cases b : x = y
  ·rw [if_pos b]; exact ⟨fun h => by omega, fun h => absurd h a⟩
  ·rw [if_neg b]; exact ⟨fun h => by omega, fun h => absurd h a⟩
theorem ordQ_gt {x y : Rat} : ordQ x y > 0 ↔ y < x := by
 unfold ordQ
 by_cases a : x < y
 ·rw [if_pos a]; exact ⟨fun h => by omega, fun h => absurd h (Rat.not_lt.2 (Rat.le_of_lt a))⟩
 ·rw [if_neg a]
  by_cases b : x = y
  ·rw [if_pos b, b]; exact ⟨fun h => by omega, fun h => absurd h (Rat.lt_irrefl)⟩
  ·rw [if_neg b]; exact ⟨fun _ => Rat.lt_of_le_of_ne (Rat.not_lt.1 a) (Ne.symm b), fun _ => by omega⟩
def hasR (x : Rat) (p q : Int) : Bool := decide (ordQ x (unit p) ≥ 0) && decide (ordQ x (unit q) ≤ 0)
theorem jgd (n d : Int) (hd : 0 < d) : (Rat.divInt n d).num * d = n * ((Rat.divInt n d).den : Int) := by
 have h := (Rat.divInt n d).den_pos
 rw [← Rat.divInt_eq_divInt_iff (by omega) (by omega), jh1]
theorem divInt_lt' (n d : Int) (hd : 0 < d) (x : Rat) : Rat.divInt n d < x ↔ n * x.den < x.num * d := by
 have e := jgd n d hd
 have hb : (0 : Int) < ((Rat.divInt n d).den : Int) := by have := (Rat.divInt n d).den_pos; omega
 rw [Rat.lt_iff]
 generalize (Rat.divInt n d).num = a at *
 generalize ((Rat.divInt n d).den : Int) = b at *
 have e1 : a * x.den * d = n * x.den * b := by
  rw [Int.mul_right_comm, e, Int.mul_right_comm]
 have e2 : x.num * b * d = x.num * d * b := by rw [Int.mul_right_comm]
 constructor
 ·intro h
  have := Int.mul_lt_mul_of_pos_right h hd
  rw [e1, e2] at this
  exact Int.lt_of_mul_lt_mul_right this (by omega)
 ·intro h
  have := Int.mul_lt_mul_of_pos_right h hb
  rw [← e1, ← e2] at this
  exact Int.lt_of_mul_lt_mul_right this (by omega)
theorem divInt_eq' (n d : Int) (hd : 0 < d) (x : Rat) : x = Rat.divInt n d ↔ x.num * d = n * x.den := by
 have hp := x.den_pos
 conv => lhs; rw [← jh1 x]
 exact Rat.divInt_eq_divInt_iff (by omega) (by omega)
theorem ord_ge (x y : Rat) : ordQ x y ≥ 0 ↔ ¬ x < y := by
 have := ordQ_lt (x := x) (y := y)
 constructor
 ·intro h h2; have := this.2 h2; omega
 ·intro h
  rcases Int.lt_or_le (ordQ x y) 0 with h2 | h2
  ·exact absurd (this.1 h2) h
  ·exact h2
theorem ord_le (x y : Rat) : ordQ x y ≤ 0 ↔ ¬ y < x := by
 have := ordQ_gt (x := x) (y := y)
 constructor
 ·intro h h2; have := this.2 h2; omega
 ·intro h
  rcases Int.lt_or_le 0 (ordQ x y) with h2 | h2
  ·exact absurd (this.1 h2) h
  ·exact h2
theorem jfg (m : Int) (x : Rat) : unit m < x ↔ m * x.den < x.num * 1000000000000 := divInt_lt' m _ (by decide) x
theorem jfh (m : Int) (x : Rat) : x = unit m ↔ x.num * 1000000000000 = m * x.den := divInt_eq' m _ (by decide) x
theorem jgK (m : Int) (x : Rat) : x < unit m ↔ x.num * 1000000000000 < m * x.den := by
 have h1 := jfg m x
 have h2 := jfh m x
 constructor
 ·intro h
  have a1 : ¬ unit m < x := Rat.not_lt.2 (Rat.le_of_lt h)
  have a2 : ¬ x = unit m := Rat.ne_of_lt h
  rw [h1] at a1
  rw [h2] at a2
  omega
 ·intro h
  have a1 : ¬ unit m < x := fun g => by have := h1.1 g; omega
  have a2 : ¬ x = unit m := fun g => by have := h2.1 g; omega
  exact Rat.lt_of_le_of_ne (Rat.not_lt.1 a1) a2
theorem jfC (x : Rat) (p q : Int) : hasR x p q = true ↔ p * x.den ≤ x.num * 1000000000000 ∧ x.num * 1000000000000 ≤ q * x.den := by
 unfold hasR
 rw [jhx, decide_eq_true_eq, decide_eq_true_eq, ord_ge, ord_le, jgK, jfg]
 omega
theorem jgJ (x : Rat) : 2 * (nearZ x 1000000000000 * x.den) ≤ 2 * (x.num * 1000000000000) + x.den ∧ 2 * (x.num * 1000000000000) + x.den < 2 * (nearZ x 1000000000000 * x.den) + 2 * x.den := by
 have hp := x.den_pos
 unfold nearZ
 have h1 := jhA (x.num * ((1000000000000 * 2 : Nat) : Int) + x.den) ((x.den * 2 : Nat) : Int)
 have h2 := Int.emod_nonneg (x.num * ((1000000000000 * 2 : Nat) : Int) + x.den) (show ((x.den * 2 : Nat) : Int) ≠ 0 by omega)
 have h3 := jhU (x.num * ((1000000000000 * 2 : Nat) : Int) + x.den) (show 0 < ((x.den * 2 : Nat) : Int) by omega)
 generalize (x.num * ((1000000000000 * 2 : Nat) : Int) + x.den) % ((x.den * 2 : Nat) : Int) = r at *
 generalize (x.num * ((1000000000000 * 2 : Nat) : Int) + x.den) / ((x.den * 2 : Nat) : Int) = n at *
 have e : ((x.den * 2 : Nat) : Int) * n = 2 * (n * x.den) := by
  rw [show ((x.den * 2 : Nat) : Int) = 2 * (x.den : Int) by omega, jhP, jhO (x.den : Int) n]
 rw [e] at h1
 generalize n * (x.den : Int) = y at *
 omega
theorem near_le (x : Rat) (K : Int) (h : -(K * x.den) ≤ x.num ∧ x.num ≤ K * x.den) : -(K * 1000000000000) - 1 ≤ nearZ x 1000000000000 ∧ nearZ x 1000000000000 ≤ K * 1000000000000 + 1 := by
 have hp := x.den_pos
 obtain ⟨b1, b2⟩ := jgJ x
 generalize nearZ x 1000000000000 = n at *
 have e : K * 1000000000000 * (x.den : Int) = 1000000000000 * (K * x.den) := by rw [Int.mul_right_comm, jhO]
 constructor
 ·rcases Int.lt_or_le n (-(K * 1000000000000) - 1) with g | g
  ·exfalso
   have := jhI (show n ≤ -(K * 1000000000000) - 2 by omega) (show (0 : Int) ≤ x.den by omega)
   rw [Int.sub_mul, Int.neg_mul, e] at this
   omega
  ·exact g
 ·rcases Int.lt_or_le (K * 1000000000000 + 1) n with g | g
  ·exfalso
   have := jhI (show K * 1000000000000 + 2 ≤ n by omega) (show (0 : Int) ≤ x.den by omega)
   rw [jhX, e] at this
   omega
  ·exact g
theorem around_law (x : Rat) (h : -999999999999999999 ≤ nearZ x 1000000000000 ∧ nearZ x 1000000000000 ≤ 999999999999999999) :
  ∃ p q, jcV x = (p, q, 0) ∧ vb p q = true ∧ q - p ≤ 1 ∧ hasR x p q = true ∧ (p = q ↔ unit p = x) := by
 have hp := x.den_pos
 obtain ⟨b1, b2⟩ := jgJ x
 unfold jcV
 rw [if_pos (jbq.2 (by omega))]
 generalize nearZ x 1000000000000 = n at *
 have l1 := jgK n x
 have l2 := jfg n x
 have e1 : (n + -1) * (x.den : Int) = n * x.den - x.den := by rw [jhX]; omega
 have e2 : (n + 1) * (x.den : Int) = n * x.den + x.den := by rw [jhX]; omega
 by_cases g1 : x < unit n
 ·have o : ordQ x (unit n) = -1 := by unfold ordQ; rw [if_pos g1]
  rw [o, show min (-1 : Int) 0 = -1 from rfl, show max (-1 : Int) 0 = 0 from rfl, mk_ok (by omega), jhV]
  have := l1.1 g1
  refine ⟨_, _, rfl, jbq.2 (by omega), by omega, (jfC _ _ _).2 (by rw [e1]; omega), ⟨fun h => by omega, fun h => ?_⟩⟩
  have := (jfh (n + -1) x).1 h.symm
  rw [e1] at this
  omega
 ·by_cases g2 : x = unit n
  ·have o : ordQ x (unit n) = 0 := by unfold ordQ; rw [if_neg g1, if_pos g2]
   rw [o, show min (0 : Int) 0 = 0 from rfl, show max (0 : Int) 0 = 0 from rfl, mk_ok (by omega), jhV]
   have := (jfh n x).1 g2
   exact ⟨_, _, rfl, jbq.2 (by omega), by omega, (jfC _ _ _).2 (by omega), ⟨fun _ => g2.symm, fun _ => rfl⟩⟩
  ·have o : ordQ x (unit n) = 1 := by unfold ordQ; rw [if_neg g1, if_neg g2]
   rw [o, show min (1 : Int) 0 = 0 from rfl, show max (1 : Int) 0 = 1 from rfl, mk_ok (by omega), jhV]
   have h3 : unit n < x := Rat.lt_of_le_of_ne (Rat.not_lt.1 g1) (Ne.symm g2)
   have := l2.1 h3
   exact ⟨_, _, rfl, jbq.2 (by omega), by omega, (jfC _ _ _).2 (by rw [e2]; omega), ⟨fun h => by omega, fun h => absurd h.symm g2⟩⟩
theorem near_unit (m : Int) : nearZ (unit m) 1000000000000 = m := by
 obtain ⟨b1, b2⟩ := jgJ (unit m)
 have h := (jfh m (unit m)).1 rfl
 have hp := (unit m).den_pos
 generalize nearZ (unit m) 1000000000000 = n at *
 rw [h] at b1 b2
 generalize (unit m).den = d at *
 rcases Int.lt_trichotomy n m with g | g | g
 ·exfalso
  have := jhI (show n + 1 ≤ m by omega) (show (0 : Int) ≤ d by omega)
  rw [jhX] at this
  omega
 ·exact g
 ·exfalso
  have := jhI (show m + 1 ≤ n by omega) (show (0 : Int) ≤ d by omega)
  rw [jhX] at this
  omega
theorem jeJ (m : Int) (h : vb m m = true) : jcV (unit m) = (m, m, 0) := by
 unfold jcV
 rw [near_unit, if_pos h, show ordQ (unit m) (unit m) = 0 by unfold ordQ; rw [if_neg Rat.lt_irrefl, if_pos rfl]]
 rw [show min (0 : Int) 0 = 0 from rfl, show max (0 : Int) 0 = 0 from rfl, jhV]
 unfold mk
 rw [if_pos h]
def flU (x : Rat) : Int := (x * 1000000000000).floor
def clU (x : Rat) : Int := -((-(x * 1000000000000)).floor)
theorem jfM (m : Int) : unit m = (m : Rat) / 1000000000000 := by
 unfold unit
 rw [Rat.divInt_eq_div]
 rfl
theorem jdZ {x : Rat} {m : Int} : unit m ≤ x ↔ (m : Rat) ≤ x * 1000000000000 := by
 rw [jfM]
 constructor <;> intro h <;> grind
theorem jej {x : Rat} {m : Int} : x ≤ unit m ↔ x * 1000000000000 ≤ (m : Rat) := by
 rw [jfM]
 constructor <;> intro h <;> grind
theorem je2 {x : Rat} {m : Int} : m ≤ flU x ↔ (m : Rat) ≤ x * 1000000000000 := Rat.le_floor_iff
theorem je6 {x : Rat} {m : Int} : clU x ≤ m ↔ x * 1000000000000 ≤ (m : Rat) := by
 unfold clU
 have := Rat.le_floor_iff (x := -m) (a := -(x * 1000000000000))
 rw [Rat.intCast_neg] at this
 constructor
 ·intro h
  have := this.1 (by omega)
  grind
 ·intro h
  have := this.2 (by grind)
  omega
theorem flU_mono {x y : Rat} (h : x ≤ y) : flU x ≤ flU y := je2.2 (by
 have := je2.1 (Int.le_refl (flU x))
 grind)
theorem clU_mono {x y : Rat} (h : x ≤ y) : clU x ≤ clU y := je6.2 (by
 have := je6.1 (Int.le_refl (clU y))
 grind)
theorem fl_cl {x y : Rat} (h : x ≤ y) : flU x ≤ clU y := by
 have h1 := je2.1 (Int.le_refl (flU x))
 have h2 := je6.1 (Int.le_refl (clU y))
 have h3 : ((flU x : Int) : Rat) ≤ ((clU y : Int) : Rat) := by grind
 exact Rat.intCast_le_intCast.1 h3
theorem around_fl {x : Rat} (h : -100000 ≤ x ∧ x ≤ 100000) : jcV x = (flU x, clU x, 0) ∧ (-100000000000000001 ≤ nearZ x 1000000000000 ∧ nearZ x 1000000000000 ≤ 100000000000000001) := by
 have hd := x.den_pos
 have k1 : x.num ≤ 100000 * x.den := by
  have := (Rat.le_iff (a := x) (b := 100000)).1 h.2
  rw [show (100000 : Rat).num = 100000 from rfl, show (100000 : Rat).den = 1 from rfl] at this
  omega
 have k2 : -(100000 * (x.den : Int)) ≤ x.num := by
  have := (Rat.le_iff (a := -100000) (b := x)).1 h.1
  rw [show (-100000 : Rat).num = -100000 from rfl, show (-100000 : Rat).den = 1 from rfl] at this
  omega
 have nl := near_le x 100000 ⟨k2, k1⟩
 refine ⟨?_, by omega⟩
 obtain ⟨p, q, e, hv, hq, hh, hu⟩ := around_law x (by omega)
 have hb := (jfC x p q).1 hh
 have p1 : unit p ≤ x := Rat.not_lt.1 fun g => by have := (jgK p x).1 g; omega
 have q1 : x ≤ unit q := Rat.not_lt.1 fun g => by have := (jfg q x).1 g; omega
 have vi := jbq.1 hv
 have f1 : p ≤ flU x := je2.2 (jdZ.1 p1)
 have c1 : clU x ≤ q := je6.2 (jej.1 q1)
 have f2 : flU x ≤ p := by
  have g1 := je2.1 (Int.le_refl (flU x))
  rcases Int.lt_or_le p (flU x) with g | g
  ·have e2 : flU x ≤ q := Int.le_trans (fl_cl Rat.le_refl) c1
   have e3 : flU x = q := by omega
   have e4 : unit q = x := Rat.le_antisymm (jdZ.2 (by rw [← e3]; exact g1)) q1
   have e5 := jeJ q (jbq.2 (by omega))
   rw [e4, e] at e5
   have : p = q := congrArg Prod.fst e5
   omega
  ·exact g
 have c2 : q ≤ clU x := by
  have g1 := je6.1 (Int.le_refl (clU x))
  rcases Int.lt_or_le (clU x) q with g | g
  ·have e2 : p ≤ clU x := Int.le_trans f1 (fl_cl Rat.le_refl)
   have e3 : clU x = p := by omega
   have e4 : unit p = x := Rat.le_antisymm p1 (jej.2 (by rw [← e3]; exact g1))
   have e5 := jeJ p (jbq.2 (by omega))
   rw [e4, e] at e5
   have : q = p := congrArg (fun r => r.2.1) e5
   omega
  ·exact g
 rw [e, show p = flU x from by omega, show q = clU x from by omega]
theorem jdV {n : Nat} {x : Rat} (h : Fq n x) (h0 : 0 < n ∧ n ≤ 600) (hb : -100000 ≤ x ∧ x ≤ 100000) : Called Tryz.prog 102 [frT x] (.tup [.agg [.int .i64 (flU x), .int .i64 (clU x)], .int .i64 0]) := by
 have o := ja5 (h.ok h0.1 h0.2)
 have a := around_fl hb
 have c := around_b (decZ x.num) (dec x.den) o.1 (by rw [o.2]; omega)
 rw [o.2, a.1] at c
 exact c
def preI (k : Nat) (l : List D) : List D := l.take k ++ List.replicate (l.length - k) (.int .i64 0)
theorem jhl : type_of% @jhC ∧ type_of% @tn0 ∧ type_of% @tn1 ∧ type_of% @tn2 ∧ type_of% @tn3 ∧ type_of% @xt4 := ⟨@jhC, @tn0, @tn1, @tn2, @tn3, @xt4⟩
theorem blist2a {F : Nat} {e0 n0 : Nat} {f0 : Nat → List D} (T : Nat → Int × Int) (c0 : Called Tryz.prog F (.int .i64 0 :: [.ref [.slf e0 n0 f0]]) (.tup [.agg [.int .i64 (T 0).1, .int .i64 (T 0).2], .int .i64 0])) (c1 : Called Tryz.prog F (.int .i64 1 :: [.ref [.slf e0 n0 f0]]) (.tup [.agg [.int .i64 (T 1).1, .int .i64 (T 1).2], .int .i64 0])) :
  Called Tryz.prog 55 [.int .i64 2, .fn F [] [.ref [.slf e0 n0 f0]]] (.tup [.slf 2 2 (fun j => List.take 2 (List.drop (j * 2) [.int .i64 (T 0).1, .int .i64 (T 0).2, .int .i64 (T 1).1, .int .i64 (T 1).2])), .int .i64 0]) := by
 refine jaa tbOk 6 ⟨Tryz.func55, rfl, rfl, jhy rfl⟩ ?_
 (conv => whnf)
 refine V.r0 @jhC ?_
 refine jah (0) (fun k => k ≤ 2) (fun k => 2 - k) (fun k => [(14, .int .i64 k)]) (fun k => [(11, .box (preI (2 * k) [.int .i64 (T 0).1, .int .i64 (T 0).2, .int .i64 (T 1).1, .int .i64 (T 1).2]))]) ?_ ?_ ?_
 ·exact V.wk
 ·exact jhz _
 intro k hk
 have hk4 : k = 0 ∨ k = 1 ∨ k = 2 := by omega
 rcases hk4 with e | e | e
 all_goals subst e
 ·simp only [k0]
  refine V.r1 jhl c0 ?_
  exact ⟨1, by omega, by omega, V.wk⟩
 ·simp only [k1]
  refine V.r1 jhl c1 ?_
  exact ⟨2, by omega, by omega, V.wk⟩
 ·simp only [k2]
  refine V.r0 @jhC ?_
  exact Fin.of rfl
theorem blist4b {F : Nat} {p0 p1 p2 p3 q0 q1 q2 q3 : List UInt8} (T : Nat → Int × Int) (c0 : Called Tryz.prog F (.int .i64 0 :: [.ref [.str p0, .str q0], .ref [.str p1, .str q1], .ref [.str p2, .str q2], .ref [.str p3, .str q3]]) (.tup [.agg [.int .i64 (T 0).1, .int .i64 (T 0).2], .int .i64 0])) (c1 : Called Tryz.prog F (.int .i64 1 :: [.ref [.str p0, .str q0], .ref [.str p1, .str q1], .ref [.str p2, .str q2], .ref [.str p3, .str q3]]) (.tup [.agg [.int .i64 (T 1).1, .int .i64 (T 1).2], .int .i64 0])) (c2 : Called Tryz.prog F (.int .i64 2 :: [.ref [.str p0, .str q0], .ref [.str p1, .str q1], .ref [.str p2, .str q2], .ref [.str p3, .str q3]]) (.tup [.agg [.int .i64 (T 2).1, .int .i64 (T 2).2], .int .i64 0])) (c3 : Called Tryz.prog F (.int .i64 3 :: [.ref [.str p0, .str q0], .ref [.str p1, .str q1], .ref [.str p2, .str q2], .ref [.str p3, .str q3]]) (.tup [.agg [.int .i64 (T 3).1, .int .i64 (T 3).2], .int .i64 0])) :
  Called Tryz.prog 55 [.int .i64 4, .fn F [] [.ref [.str p0, .str q0], .ref [.str p1, .str q1], .ref [.str p2, .str q2], .ref [.str p3, .str q3]]] (.tup [.slf 2 4 (fun j => List.take 2 (List.drop (j * 2) [.int .i64 (T 0).1, .int .i64 (T 0).2, .int .i64 (T 1).1, .int .i64 (T 1).2, .int .i64 (T 2).1, .int .i64 (T 2).2, .int .i64 (T 3).1, .int .i64 (T 3).2])), .int .i64 0]) := by
 refine jaa tbOk 6 ⟨Tryz.func55, rfl, rfl, jhy rfl⟩ ?_
 (conv => whnf)
 refine V.r0 @jhC ?_
 refine jah (0) (fun k => k ≤ 4) (fun k => 4 - k) (fun k => [(14, .int .i64 k)]) (fun k => [(11, .box (preI (2 * k) [.int .i64 (T 0).1, .int .i64 (T 0).2, .int .i64 (T 1).1, .int .i64 (T 1).2, .int .i64 (T 2).1, .int .i64 (T 2).2, .int .i64 (T 3).1, .int .i64 (T 3).2]))]) ?_ ?_ ?_
 ·exact V.wk
 ·exact jhz _
 intro k hk
 have hk4 : k = 0 ∨ k = 1 ∨ k = 2 ∨ k = 3 ∨ k = 4 := by omega
 rcases hk4 with e | e | e | e | e
 all_goals subst e
 ·simp only [k0]
  refine V.r1 jhl c0 ?_
  exact ⟨1, by omega, by omega, V.wk⟩
 ·simp only [k1]
  refine V.r1 jhl c1 ?_
  exact ⟨2, by omega, by omega, V.wk⟩
 ·simp only [k2]
  refine V.r1 jhl c2 ?_
  exact ⟨3, by omega, by omega, V.wk⟩
 ·simp only [k3]
  refine V.r1 jhl c3 ?_
  exact ⟨4, by omega, by omega, V.wk⟩
 ·simp only [xk4]
  refine V.r0 @jhC ?_
  exact Fin.of rfl
theorem blist1c {F : Nat} {e0 n0 e1 n1 e2 n2 : Nat} {f0 f1 f2 : Nat → List D} {g0 g1 : List Int} (T : Nat → Int × Int) (c0 : Called Tryz.prog F (.int .i64 0 :: [.ref [.slf e0 n0 f0], .ref [.slf e1 n1 f1], .ref [.slf e2 n2 f2], .ref [.ints .i64 g0], .ref [.ints .i64 g1]]) (.tup [.agg [.int .i64 (T 0).1, .int .i64 (T 0).2], .int .i64 0])) :
  Called Tryz.prog 55 [.int .i64 1, .fn F [] [.ref [.slf e0 n0 f0], .ref [.slf e1 n1 f1], .ref [.slf e2 n2 f2], .ref [.ints .i64 g0], .ref [.ints .i64 g1]]] (.tup [.slf 2 1 (fun j => List.take 2 (List.drop (j * 2) [.int .i64 (T 0).1, .int .i64 (T 0).2])), .int .i64 0]) := by
 refine jaa tbOk 6 ⟨Tryz.func55, rfl, rfl, jhy rfl⟩ ?_
 (conv => whnf)
 refine V.r0 @jhC ?_
 refine jah (0) (fun k => k ≤ 1) (fun k => 1 - k) (fun k => [(14, .int .i64 k)]) (fun k => [(11, .box (preI (2 * k) [.int .i64 (T 0).1, .int .i64 (T 0).2]))]) ?_ ?_ ?_
 ·exact V.wk
 ·exact jhz _
 intro k hk
 have hk4 : k = 0 ∨ k = 1 := by omega
 rcases hk4 with e | e
 all_goals subst e
 ·simp only [k0]
  refine V.r1 jhl c0 ?_
  exact ⟨1, by omega, by omega, V.wk⟩
 ·simp only [k1]
  refine V.r0 @jhC ?_
  exact Fin.of rfl
theorem conf1_0 (p0 p1 p2 p3 q0 q1 q2 q3 : List UInt8) (b : Int × Int) (c : Called Tryz.prog 102 [.agg [.str p0, .str q0]] (.tup [.agg [.int .i64 b.1, .int .i64 b.2], .int .i64 0])) : Called Tryz.prog 101 (.int .i64 0 :: [.ref [.str p0, .str q0], .ref [.str p1, .str q1], .ref [.str p2, .str q2], .ref [.str p3, .str q3]]) (.tup [.agg [.int .i64 b.1, .int .i64 b.2], .int .i64 0]) := by
 refine jaa tbOk 6 ⟨Tryz.func101, rfl, rfl, jhy rfl⟩ ?_
 (conv => whnf)
 refine V.r1 jhl c ?_
 exact Fin.of rfl
theorem conf1_1 (p0 p1 p2 p3 q0 q1 q2 q3 : List UInt8) (b : Int × Int) (c : Called Tryz.prog 102 [.agg [.str p1, .str q1]] (.tup [.agg [.int .i64 b.1, .int .i64 b.2], .int .i64 0])) : Called Tryz.prog 101 (.int .i64 1 :: [.ref [.str p0, .str q0], .ref [.str p1, .str q1], .ref [.str p2, .str q2], .ref [.str p3, .str q3]]) (.tup [.agg [.int .i64 b.1, .int .i64 b.2], .int .i64 0]) := by
 refine jaa tbOk 6 ⟨Tryz.func101, rfl, rfl, jhy rfl⟩ ?_
 (conv => whnf)
 refine V.r1 jhl c ?_
 exact Fin.of rfl
theorem conf1_2 (p0 p1 p2 p3 q0 q1 q2 q3 : List UInt8) (b : Int × Int) (c : Called Tryz.prog 102 [.agg [.str p2, .str q2]] (.tup [.agg [.int .i64 b.1, .int .i64 b.2], .int .i64 0])) : Called Tryz.prog 101 (.int .i64 2 :: [.ref [.str p0, .str q0], .ref [.str p1, .str q1], .ref [.str p2, .str q2], .ref [.str p3, .str q3]]) (.tup [.agg [.int .i64 b.1, .int .i64 b.2], .int .i64 0]) := by
 refine jaa tbOk 6 ⟨Tryz.func101, rfl, rfl, jhy rfl⟩ ?_
 (conv => whnf)
 refine V.r1 jhl c ?_
 exact Fin.of rfl
theorem conf1_3 (p0 p1 p2 p3 q0 q1 q2 q3 : List UInt8) (b : Int × Int) (c : Called Tryz.prog 102 [.agg [.str p3, .str q3]] (.tup [.agg [.int .i64 b.1, .int .i64 b.2], .int .i64 0])) : Called Tryz.prog 101 (.int .i64 3 :: [.ref [.str p0, .str q0], .ref [.str p1, .str q1], .ref [.str p2, .str q2], .ref [.str p3, .str q3]]) (.tup [.agg [.int .i64 b.1, .int .i64 b.2], .int .i64 0]) := by
 refine jaa tbOk 6 ⟨Tryz.func101, rfl, rfl, jhy rfl⟩ ?_
 (conv => whnf)
 refine V.r1 jhl c ?_
 exact Fin.of rfl
theorem jgh (X : Nat → Int × Int) (b : Int × Int) (c : Called Tryz.prog 57 [.agg [.int .i64 (X 0).1, .int .i64 (X 0).2], .int .i64 0, .int .i64 1000000000000] (.tup [.agg [.int .i64 b.1, .int .i64 b.2], .int .i64 0])) : Called Tryz.prog 56 (.int .i64 0 :: [.ref [.slf 2 2 (fun j => List.take 2 (List.drop (j * 2) [.int .i64 (X 0).1, .int .i64 (X 0).2, .int .i64 (X 1).1, .int .i64 (X 1).2]))]]) (.tup [.agg [.int .i64 b.1, .int .i64 b.2], .int .i64 0]) := by
 refine jaa tbOk 6 ⟨Tryz.func56, rfl, rfl, jhy rfl⟩ ?_
 (conv => whnf)
 refine V.r1 jhl c ?_
 exact Fin.of rfl
theorem bands1_21 (X : Nat → Int × Int) (b : Int × Int) (c : Called Tryz.prog 57 [.agg [.int .i64 (X 1).1, .int .i64 (X 1).2], .int .i64 0, .int .i64 1000000000000] (.tup [.agg [.int .i64 b.1, .int .i64 b.2], .int .i64 0])) : Called Tryz.prog 56 (.int .i64 1 :: [.ref [.slf 2 2 (fun j => List.take 2 (List.drop (j * 2) [.int .i64 (X 0).1, .int .i64 (X 0).2, .int .i64 (X 1).1, .int .i64 (X 1).2]))]]) (.tup [.agg [.int .i64 b.1, .int .i64 b.2], .int .i64 0]) := by
 refine jaa tbOk 6 ⟨Tryz.func56, rfl, rfl, jhy rfl⟩ ?_
 (conv => whnf)
 refine V.r1 jhl c ?_
 exact Fin.of rfl
end Go.Proofs.YtgjgpdceghjajaaGreatDoor
end
section
namespace Go.V
open Go Go.RowKit
def Env.alias (E : Env) (i j : Nat) : Env := ⟨fun x => if x = j then E.blk i else E.blk x, fun x => if x = j then E.siz i else E.siz x, fun x => if x = j then E.kn i else E.kn x, fun x => if x = j then E.real i else E.real x, fun x => if x = j then E.lpr i else E.lpr x⟩
theorem Env.off_alias (E : Env) (i j : Nat) : E.off (E.alias i j) j := fun k hk => by simp [Env.alias, hk]
section
variable {cx : Cx} {E : Env} {h : Pub} {a : Act} {w : World} {L : Sl} {H : Hp}
theorem Sat.renArr (S : Sat cx E h a w L H) {i j : Nat} {k : IntKind} {xs : List Int} (hij : i ≠ j) (hoff' : cx.off ≤ j) (hi : lookH H i = some (.arr k xs)) :
  Sat cx (E.alias i j) h a w (purge j L) ((j, .arr k xs) :: (i, .gone) :: jaC j H) := by
 have hoff := E.off_alias i j
 have ej : (E.alias i j).blk j = E.blk i ∧ (E.alias i j).siz j = E.siz i ∧ (E.alias i j).kn j = E.kn i ∧ (E.alias i j).real j = E.real i := by simp [Env.alias]
 have ne : ∀ x, x ≠ j → (E.alias i j).blk x = E.blk x ∧ (E.alias i j).real x = E.real x := fun x hx => ⟨(hoff x hx).1, (hoff x hx).2.2.2.1⟩
 have live : ∀ x c', x ≠ j → lookH ((j, .arr k xs) :: (i, .gone) :: jaC j H) x = some c' → c'.live = true → x ≠ i ∧ ∃ c0, lookH H x = some c0 ∧ c' = jbY j c0 ∧ c0.live = true := by
  intro x c' hx hc' hl
  rw [jaf, if_neg (Ne.symm hx), jaf] at hc'
  by_cases hxi : i = x
  ·rw [if_pos hxi] at hc'; cases hc'; cases hl
  ·rw [if_neg hxi] at hc'
   obtain ⟨c0, h1, h2⟩ := ja6 hc'
   exact ⟨Ne.symm hxi, c0, h1, h2, by rw [h2, ja4] at hl; exact hl⟩
 have atj : ∀ c', lookH ((j, .arr k xs) :: (i, .gone) :: jaC j H) j = some c' → c' = .arr k xs := fun c' hc' => by
  rw [jaf, if_pos rfl] at hc'; cases hc'; rfl
 refine { knows := ?_, mem := ?_, agree := S.agree, since := S.since, low := fun x hx => jei S.low hoff hoff' x hx, side := S.side }
 ·exact fun t => jby hoff (S.knows t)
 ·refine { ok := ?_, base := ?_, unpub := ?_, inj := ?_ }
  ·intro x c' hc'
   by_cases hx : x = j
   ·subst hx
    rw [atj c' hc']
    have := S.mem.ok i _ hi
    simp only [ChunkOk] at this ⊢
    rw [ej.1, ej.2.1, ej.2.2.1, ej.2.2.2]
    exact this
   ·cases hl : c'.live with
    | false => cases c' <;> first | trivial | (simp [Chunk.live] at hl)
    | true =>
     obtain ⟨_, c0, h1, rfl, hl'⟩ := live x c' hx hc' hl
     exact ChunkOk.env hoff hx (S.mem.ok x _ h1)
  ·intro x c' hc' hl hr
   by_cases hx : x = j
   ·subst hx
    rw [ej.2.2.2] at hr
    rw [ej.1]
    exact S.mem.base i _ hi rfl hr
   ·obtain ⟨_, c0, h1, rfl, hl'⟩ := live x c' hx hc' hl
    rw [(ne x hx).2] at hr
    rw [(ne x hx).1]
    exact S.mem.base x _ h1 hl' hr
  ·intro x c' hc' hl hr o
   by_cases hx : x = j
   ·subst hx
    rw [ej.2.2.2] at hr
    rw [ej.1]
    exact S.mem.unpub i _ hi rfl hr o
   ·obtain ⟨_, c0, h1, rfl, hl'⟩ := live x c' hx hc' hl
    rw [(ne x hx).2] at hr
    rw [(ne x hx).1]
    exact S.mem.unpub x _ h1 hl' hr o
  ·intro x y c1 c2 hxy h1 h2 l1 l2 r1 r2
   by_cases hx : x = j
   ·subst hx
    obtain ⟨hyi, c0', g2, rfl, l2'⟩ := live y c2 (Ne.symm hxy) h2 l2
    rw [ej.2.2.2] at r1
    rw [(ne y (Ne.symm hxy)).2] at r2
    rw [ej.1, (ne y (Ne.symm hxy)).1]
    exact S.mem.inj i y _ _ (Ne.symm hyi) hi g2 rfl l2' r1 r2
   ·obtain ⟨hxi, c0, g1, rfl, l1'⟩ := live x c1 hx h1 l1
    rw [(ne x hx).2] at r1
    rw [(ne x hx).1]
    by_cases hy : y = j
    ·subst hy
     rw [ej.2.2.2] at r2
     rw [ej.1]
     exact S.mem.inj x i _ _ hxi g1 hi l1' rfl r1 r2
    ·obtain ⟨hyi, c0', g2, rfl, l2'⟩ := live y c2 hy h2 l2
     rw [(ne y hy).2] at r2
     rw [(ne y hy).1]
     exact S.mem.inj x y _ _ hxy g1 g2 l1' l2' r1 r2
end
theorem Wk.renBox {off : Nat} {L : Sl} {H : Hp} {L2 : Sl} {H2 : Hp} (i j b p n : Nat) {k : IntKind} {xs : List Int} {ds : List D} (hij : i ≠ j) (hb : b ≠ i ∧ b ≠ j) (hoff : off ≤ j) (hi : lookH H i = some (.arr k xs)) (hj : lookH (jaC j H) b = some (.box ds)) (hp : ds[p]? = some (.osl i 0 n))
  (h : Wk off (purge j L) ((b, .box (ds.set p (.osl j 0 n))) :: (j, .arr k xs) :: (i, .gone) :: jaC j H) L2 H2) : Wk off L H L2 H2 := by
 refine ⟨fun cx E h' a w e S => ?_⟩
 subst e
 have S1 := S.renArr hij hoff hi
 have hb1 : lookH ((j, .arr k xs) :: (i, .gone) :: jaC j H) b = some (.box ds) := by
  rw [jaf, if_neg (Ne.symm hb.2), jaf, if_neg (Ne.symm hb.1)]; exact hj
 have fe : ∀ v, Den (E.alias i j) h' (.osl i 0 n) v → Den (E.alias i j) h' (.osl j 0 n) v := fun v hv => by
  simp only [Den, Env.alias, if_true, if_neg hij] at hv ⊢
  exact hv
 refine h.out cx (E.alias i j) h' a w rfl (S1.rechunk hb1 rfl ?_)
 obtain ⟨h1, vs, rest, T, h2, h3, h4⟩ := S1.mem.ok b _ hb1
 exact ⟨h1, vs, rest, T, h2, jfG h3 hp fe, h4⟩
end Go.V
end
section
namespace Go.Proofs.YtgjgpdceghjajaaGreatDoor
open Go Go.V Go.Nb
def grd (data : List Int) (s z : Int) (a : Nat) : Int := (z - 1) * max (data.getD ((a : Int) + s).toNat 0 - data.getD a 0) (data.getD a 0 - data.getD ((a : Int) + s).toNat 0)
def stp (data : List Int) (out s z : Int) (i : Nat) (w : Nat → List Int) (a : Nat) (r : Nat) : List Int :=
 if (a : Int) / s % z = z - 1 then w r else if (a : Int) % out = r then (w r).set i (max ((w r).getD i 0) (grd data s z a)) else w r
def inS (data : List Int) (out s z : Int) (i : Nat) (w : Nat → List Int) : Nat → Nat → List Int
 | 0 => w
 | a + 1 => stp data out s z i (inS data out s z i w a) a
def strd (zs : List Int) (out : Int) : Nat → Int
 | 0 => out
 | k + 1 => strd zs out k * zs.getD (zs.length - 1 - k) 0
def outS (zs data : List Int) (out : Int) : Nat → Nat → List Int
 | 0 => fun _ => List.replicate zs.length 0
 | k + 1 => inS data out (strd zs out k) (zs.getD (zs.length - 1 - k) 0) (zs.length - 1 - k) (outS zs data out k) data.length
def rowOk (n : Nat) (l : List Int) : Prop := l.length = n ∧ ∀ j, 0 ≤ l.getD j 0 ∧ l.getD j 0 ≤ 600000
theorem grd_bd {data : List Int} {s z : Int} {a : Nat} (hd : ∀ v ∈ data, 0 ≤ v ∧ v ≤ 65535) (hz : 2 ≤ z ∧ z ≤ 9) : 0 ≤ grd data s z a ∧ grd data s z a ≤ 600000 := by
 have h1 := jbO (p := fun v => 0 ≤ v ∧ v ≤ 65535) hd (by omega) a
 have h2 := jbO (p := fun v => 0 ≤ v ∧ v ≤ 65535) hd (by omega) ((a : Int) + s).toNat
 unfold grd
 generalize hx : max (data.getD ((a : Int) + s).toNat 0 - data.getD a 0) (data.getD a 0 - data.getD ((a : Int) + s).toNat 0) = x
 have hx2 : 0 ≤ x ∧ x ≤ 65535 := by omega
 constructor
 ·exact jhB (by omega) hx2.1
 ·have := Int.mul_le_mul (show z - 1 ≤ 8 by omega) hx2.2 hx2.1 (by omega)
  omega
theorem rowOk_set {n : Nat} {l : List Int} {i : Nat} {v : Int} (h : rowOk n l) (hv : 0 ≤ v ∧ v ≤ 600000) : rowOk n (l.set i v) := by
 refine ⟨by rw [List.length_set]; exact h.1, fun j => ?_⟩
 by_cases hi : i < l.length
 ·rw [jep l i j v hi]
  split
  ·exact hv
  ·exact h.2 j
 ·rw [List.set_eq_of_length_le (by omega)]
  exact h.2 j
theorem inS_ok {data : List Int} {out s z : Int} {i n : Nat} {w : Nat → List Int} (hd : ∀ v ∈ data, 0 ≤ v ∧ v ≤ 65535) (hz : 2 ≤ z ∧ z ≤ 9) (hw : ∀ r, rowOk n (w r)) : ∀ a r, rowOk n (inS data out s z i w a r)
 | 0, r => hw r
 | a + 1, r => by
  have h := inS_ok (out := out) (s := s) (z := z) (i := i) hd hz hw a r
  have g := grd_bd (s := s) (a := a) hd hz
  simp only [inS, stp]
  split
  ·exact h
  ·split
   ·refine rowOk_set h ?_
    have := h.2 i
    omega
   ·exact h
theorem jcu {l : List Int} {p : Int → Prop} (h : ∀ v ∈ l, p v) {j : Nat} (hj : j < l.length) : p (l.getD j 0) := by
 rw [List.getD_eq_getElem?_getD, List.getElem?_eq_getElem hj]
 exact h _ (List.getElem_mem hj)
theorem jgD {zs data : List Int} {out : Int} (hd : ∀ v ∈ data, 0 ≤ v ∧ v ≤ 65535) (hz : ∀ z ∈ zs, 2 ≤ z ∧ z ≤ 9) : ∀ k, k ≤ zs.length → ∀ r, rowOk zs.length (outS zs data out k r)
  | 0, _, r => ⟨by simp [outS], fun j => by
      have := jbO (l := List.replicate zs.length (0 : Int)) (p := fun v => v = 0) (fun v hv => List.eq_of_mem_replicate hv) rfl j
      show 0 ≤ (List.replicate zs.length (0 : Int)).getD j 0 ∧ (List.replicate zs.length (0 : Int)).getD j 0 ≤ 600000
      omega⟩
  | k + 1, hk, r => inS_ok hd (jcu (l := zs) (p := fun z => 2 ≤ z ∧ z ≤ 9) hz (by omega)) (jgD hd hz k (by omega)) _ r
theorem strd_pos {zs : List Int} {out : Int} (ho : 1 ≤ out ∧ out ≤ 4) (hz : ∀ z ∈ zs, 2 ≤ z ∧ z ≤ 9) : ∀ k, k ≤ zs.length → 0 < strd zs out k ∧ strd zs out k ≤ 4 * 9 ^ k
 | 0, _ => by simp only [strd]; omega
 | k + 1, hk => by
  have h := strd_pos ho hz k (by omega)
  have g := jcu (p := fun z => 2 ≤ z ∧ z ≤ 9) hz (j := zs.length - 1 - k) (by omega)
  simp only [strd]
  constructor
  ·exact Int.mul_pos h.1 (by omega)
  ·have := Int.mul_le_mul h.2 g.2 (by omega) (jhB (by decide) (Int.pow_nonneg (by decide)))
   rw [Int.pow_succ]
   omega
theorem jfO {zs : List Int} {out : Int} : ∀ k, k ≤ zs.length → prod zs * out = prod (zs.take (zs.length - k)) * strd zs out k
 | 0, _ => by simp only [strd, Nat.sub_zero, List.take_length]
 | k + 1, hk => by
  have h := jfO (zs := zs) (out := out) k (by omega)
  have e0 : zs[zs.length - (k + 1)]? = some (zs.getD (zs.length - 1 - k) 0) := by
   rw [show zs.length - 1 - k = zs.length - (k + 1) from by omega, List.getD_eq_getElem?_getD, List.getElem?_eq_getElem (show zs.length - (k + 1) < zs.length from by omega)]
   rfl
  rw [h, show zs.length - k = (zs.length - (k + 1)) + 1 from by omega, jcN e0]
  simp only [strd]
  rw [jhP, jhO (zs.getD (zs.length - 1 - k) 0)]
theorem pow9 (k : Nat) (h : k ≤ 4) : (4 : Int) * 9 ^ k ≤ 26244 := by
 have g : k = 0 ∨ k = 1 ∨ k = 2 ∨ k = 3 ∨ k = 4 := by omega
 rcases g with rfl | rfl | rfl | rfl | rfl <;> decide
theorem stp_in {s z q : Int} {a : Nat} {len : Int} (hs : 0 < s) (hz : 0 < z) (hl : len = q * (s * z)) (ha : (a : Int) < len) (h : ¬ (a : Int) / s % z = z - 1) : (a : Int) + s < len := by
 have h1 := Int.emod_nonneg ((a : Int) / s) (show z ≠ 0 by omega)
 have h2 := jhU ((a : Int) / s) hz
 have h3 : (a : Int) / s < q * z := (Int.ediv_lt_iff_lt_mul hs).2 (by rw [jhP, jhO z s, ← hl]; exact ha)
 have h4 := Int.mul_ediv_add_emod ((a : Int) / s) z
 have h5 := Int.mul_ediv_add_emod (a : Int) s
 have h6 := jhU (a : Int) hs
 have h7 : (a : Int) / s / z < q := (Int.ediv_lt_iff_lt_mul hz).2 h3
 have h8 : (a : Int) / s + 2 ≤ q * z := by
  have := jhQ (show (a : Int) / s / z + 1 ≤ q by omega) (show 0 ≤ z by omega)
  rw [jhN, Int.mul_one, jhO z q] at this
  omega
 have h9 := jhQ h8 (show 0 ≤ s by omega)
 rw [jhN] at h9
 have h10 : s * (q * z) = len := by rw [hl, Int.mul_left_comm]
 omega
def stB1 (n : Nat) : Nat → Hp
 | 0 => [(21, .box [.nil])]
 | _ => [(21, .box [.osl 200 0 n]), (200, .arr .i64 (List.replicate n 0))]
theorem jhm : type_of% @jhD ∧ type_of% @jhC ∧ type_of% @tn0 ∧ type_of% @tn1 ∧ type_of% @tn2 ∧ type_of% @tn3 ∧ type_of% @xt4 := ⟨@jhD, @jhC, @tn0, @tn1, @tn2, @tn3, @xt4⟩
theorem steep1_t (zs data : List Int) (T : Nat → List Int) (hg : jan zs 1 data = true) (hl : zs.length ≤ 4) (hT : outS zs data 1 zs.length = T) : Called Tryz.prog 32 [.agg [.ints .i64 zs, .int .i64 1, .ints .i64 data]] (.tup [.slf 1 1 (fun j => List.take 1 (List.drop (j * 1) [.ints .i64 (T 0)])), .int .i64 0]) := by
 have ck : Called Tryz.prog 37 [.agg [.ints .i64 zs, .int .i64 1, .ints .i64 data]] (.int .i64 0) := jeq hg hl
 have og := jaI hg
 refine jaa tbOk 6 ⟨Tryz.func32, rfl, rfl, jhy rfl⟩ ?_
 (conv => whnf)
 refine V.r1 jhm ck ?_
 refine jah 0 (fun k => k ≤ 1) (fun k => 1 - k) (fun k => [(24, .int .i64 k)]) (fun k => stB1 zs.length k) ?_ ?_ ?_
 ·simp only [stB1]
  exact V.wk
 ·exact jhz _
 intro k hk
 have hk4 : k = 0 ∨ k = 1 := by omega
 rcases hk4 with e | e
 all_goals subst e
 ·simp only [k0, stB1]
  refine V.r0 jhm ?_
  refine ⟨1, by omega, by omega, ?_⟩
  simp only [stB1]
  refine Wk.renBox 32 200 21 0 zs.length (by decide) (by decide) (by decide) rfl rfl rfl ?_
  exact V.wk
 ·simp only [k1, stB1]
  refine V.r0 jhm ?_
  refine jgL (β := Unit) 2 (fun _ => True) (fun _ => [(5, .slf 1 1 (fun j => List.take 1 (List.drop (j * 1) [.ints .i64 (T 0)]))), (7, .any), (8, .any), (21, .any), (22, .any)]) (fun _ => [(21, .gone), (200, .gone)]) ?_ ?_
  rotate_left
  ·intro _ _
   refine V.r0 @jhC ?_
   exact Fin.of rfl
  refine jah ((0, (zs.length : Int) - 1, 1, outS zs data 1 0) : Nat × Int × Int × (Nat → List Int)) (fun y => y.1 ≤ zs.length ∧ y.2.1 = (zs.length : Int) - 1 - y.1 ∧ y.2.2.1 = strd zs 1 y.1 ∧ y.2.2.2 = outS zs data 1 y.1) (fun y => zs.length - y.1) (fun y => [(8, .int .i64 y.2.1), (7, .int .i64 y.2.2.1)]) (fun y => [(200, .arr .i64 (y.2.2.2 0))]) ?_ ?_ ?_
  ·exact V.wk
  ·exact ⟨jhz _, (by show (zs.length : Int) - 1 = (zs.length : Int) - 1 - ((0 : Nat) : Int); omega), rfl, rfl⟩
  rintro ⟨k, x8, s, w⟩ ⟨hk, h8, hs, hw⟩
  dsimp only at hk h8 hs hw ⊢
  have wo : ∀ r, rowOk zs.length (w r) := fun r => by rw [hw]; exact jgD og.2.2.2 og.2.1 k hk r
  refine V.r0 jhm ?_
  refine Cnd.split (CondB.mk (fun h => ?_) (fun h => ?_))
  ·have hx := of_decide_eq_true h
   obtain ⟨i, rfl⟩ : ∃ i : Nat, x8 = i := ⟨x8.toNat, by omega⟩
   have hi : i = zs.length - 1 - k := by omega
   obtain ⟨z, hz⟩ : ∃ z, zs.getD i 0 = z := ⟨_, rfl⟩
   have zb : 2 ≤ z ∧ z ≤ 9 := by rw [← hz]; exact jcu og.2.1 (by omega)
   have sp := strd_pos og.1 og.2.1 k hk
   refine V.r0 (V.a2 jhm hz) ?_
   have s0 : 0 < s := by rw [hs]; exact sp.1
   have pp := jfO (zs := zs) (out := 1) (k + 1) (by omega)
   have hlen : (data.length : Int) = prod (zs.take (zs.length - (k + 1))) * (s * z) := by rw [og.2.2.1.2, pp, hs, ← hz, hi]; rfl
   have sm : s ≤ 26244 := by
    have := pow9 k (by omega)
    omega
   have io := inS_ok (out := 1) (s := s) (z := z) (i := i) og.2.2.2 zb wo
   refine jah (0 : Nat) (fun a => a ≤ data.length) (fun a => data.length - a) (fun a => [(53, .int .i64 (a : Nat))]) (fun a => [(200, .arr .i64 (inS data 1 s z i w a 0))]) ?_ ?_ ?_
   ·exact V.wk
   ·exact jhz _
   intro a ha
   have b0 := jbO (p := fun v => 0 ≤ v ∧ v ≤ 65535) og.2.2.2 (by omega) a
   have r0 := io a 0
   have q0 := r0.2 i
   have l0 := r0.1
   refine V.r0 jhm ?_
   refine Cnd.split (CondB.mk (fun c => ?_) (fun c => ?_))
   ·have hx2 := of_decide_eq_true c
    have hq : 0 ≤ (a : Int) / s := Int.ediv_nonneg (by omega) (by omega)
    refine V.r0 jhm ?_
    refine Cnd.split (CondB.mk (fun f => ?_) (fun f => ?_))
    ·have he := of_decide_eq_true f
     have e0 : inS data 1 s z i w (a + 1) 0 = inS data 1 s z i w a 0 := if_pos he
     refine V.r0 jhm ?_
     refine ⟨a + 1, by omega, by omega, ?_⟩
     simp only [e0]
     exact V.wk
    ·have he := of_decide_eq_false f
     have hin := stp_in s0 (by omega) hlen hx2 he
     have b1 := jbO (p := fun v => 0 ≤ v ∧ v ≤ 65535) og.2.2.2 (by omega) ((a : Int) + s).toNat
     have gb := grd_bd (s := s) (a := a) og.2.2.2 zb
     unfold grd at gb
     have hm : InR .i64 ((z - 1) * max (data.getD ((a : Int) + s).toNat 0 - data.getD a 0) (data.getD a 0 - data.getD ((a : Int) + s).toNat 0)) := ⟨Int.le_trans (by decide) gb.1, Int.le_trans gb.2 (by decide)⟩
     have g : (a : Int) % 1 = 0 := by omega
     ·have u0 : inS data 1 s z i w (a + 1) 0 = (inS data 1 s z i w a 0).set i (max ((inS data 1 s z i w a 0).getD i 0) (grd data s z a)) := (if_neg he).trans (if_pos (show (a : Int) % 1 = ((0 : Nat) : Int) from g))
      (conv => whnf)
      (try simp only [jhm])
      repeat ((first | refine V.s1 ?_ | ((try ((with_reducible refine .ext ?_); (conv => whnf); (try simp only [jhm]))); (with_reducible refine jab (r := ?_) ?_ ?_); rotate_left; (focus (first | fail)); (conv => whnf)) | ((simp only [g]); (conv => whnf))); (try simp only [jhm]))
      refine ⟨a + 1, by omega, by omega, ?_⟩
      simp only [u0]
      exact V.wk
   ·have hx2 := of_decide_eq_false c
    obtain rfl : a = data.length := by omega
    have hsz0 := Int.mul_le_mul sm zb.2 (by omega) (by decide)
    have hsz1 := jhB (show 0 ≤ s by omega) (show 0 ≤ z by omega)
    have hsz : InR .i64 (s * z) := ⟨Int.le_trans (by decide) hsz1, Int.le_trans hsz0 (by decide)⟩
    refine V.r0 jhm ?_
    refine ⟨(k + 1, (i : Int) - 1, s * z, inS data 1 s z i w data.length), ⟨by show k + 1 ≤ zs.length; omega, by show (i : Int) - 1 = (zs.length : Int) - 1 - ((k + 1 : Nat) : Int); omega, ?_, ?_⟩, by show zs.length - (k + 1) < zs.length - k; omega, ?_⟩
    ·show s * z = strd zs 1 k * zs.getD (zs.length - 1 - k) 0
     rw [hs, ← hz, hi]
    ·show _ = inS data 1 (strd zs 1 k) (zs.getD (zs.length - 1 - k) 0) (zs.length - 1 - k) (outS zs data 1 k) data.length
     rw [← hs, ← hw, ← hi, hz]
    ·dsimp only
     exact V.wk
  ·have hx := of_decide_eq_false h
   have hkn : k = zs.length := by omega
   have hwT : w = T := by rw [hw, hkn, hT]
   subst hwT
   refine V.r0 @jhC ?_
   refine ⟨(), trivial, ?_⟩
   have t0 : (w 0).take zs.length = w 0 := List.take_of_length_le (Nat.le_of_eq (wo 0).1)
   refine Wk.pub 200 ?_
   (conv => whnf)
   simp only [t0]
   refine Wk.pub 21 ?_
   (conv => whnf)
   simp only [jhC]
   exact V.wk
end Go.Proofs.YtgjgpdceghjajaaGreatDoor
end
