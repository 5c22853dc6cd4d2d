/- What some functions of the program answer at values that mean given lists, texts and numbers, each proved of the program's own code: part 12. Conditions: those that each theorem names. -/
import Derived.Test.YtgjgpdceghjajaaGreatDoorSimplexLinearH11
import Derived.Test.YtgjgpdceghjajaaGreatDoorSimplexLinearH8
import Derived.Test.YtgjgpdceghjajaaGreatDoorSimplexLinearH4
import Derived.Test.YtgjgpdceghjajaaGreatDoorSimplexLinearH10
set_option linter.unusedSimpArgs false
set_option linter.unusedVariables false
set_option maxHeartbeats 8000000
set_option maxRecDepth 100000
section
namespace Go.Proofs.YtgjgpdceghjajaaGreatDoor
open Go Go.V Go.Nb Go.Gr
theorem jhy : type_of% @jhS ∧ type_of% @tn0 ∧ type_of% @tn1 ∧ type_of% @tn2 ∧ type_of% @tn3 ∧ type_of% @xt4 := ⟨@jhS, @tn0, @tn1, @tn2, @tn3, @xt4⟩
theorem wakes_t (Q : Nat → Tx)
  (o0 : Called Tryz.prog 18 [.int .i64 1, .int .i64 2] (.agg [.str (Q 0).1, .str (Q 0).2]))
  (o1 : Called Tryz.prog 18 [.int .i64 1, .int .i64 4] (.agg [.str (Q 1).1, .str (Q 1).2]))
  (o2 : Called Tryz.prog 18 [.int .i64 7, .int .i64 20] (.agg [.str (Q 2).1, .str (Q 2).2]))
  (o3 : Called Tryz.prog 18 [.int .i64 3, .int .i64 10] (.agg [.str (Q 3).1, .str (Q 3).2]))
  (o4 : Called Tryz.prog 18 [.int .i64 1, .int .i64 1] (.agg [.str (Q 4).1, .str (Q 4).2]))
  (o5 : Called Tryz.prog 18 [.int .i64 2, .int .i64 1] (.agg [.str (Q 5).1, .str (Q 5).2]))
  (fo : Called Tryz.prog 31 [] (.agg [.ints .i64 [2, 2], .int .i64 1, .ints .i64 [0, 13107, 26214, 65535]]))
  (ce : Called Tryz.prog 17 [.agg [.ints .i64 [2, 2], .int .i64 1, .ints .i64 [0, 13107, 26214, 65535]], .slf 2 2 (fun j => List.take 2 (List.drop (j * 2) [.str (Q 0).1, .str (Q 0).2, .str (Q 1).1, .str (Q 1).2]))] (.tup [.ints .i64 [0, 0], .ints .i64 [0, 1], .slf 2 3 (fun j => List.take 2 (List.drop (j * 2) [.str (Q 0).1, .str (Q 0).2, .str (Q 1).1, .str (Q 1).2, .str (Q 1).1, .str (Q 1).2])), .int .i64 0]))
  (st : Called Tryz.prog 32 [.agg [.ints .i64 [2, 2], .int .i64 1, .ints .i64 [0, 13107, 26214, 65535]]] (.tup [.slf 1 1 (fun j => List.take 1 (List.drop (j * 1) [.ints .i64 [52428, 39321]])), .int .i64 0]))
  (b1 : Called Tryz.prog 29 [.agg [.ints .i64 [2, 2], .int .i64 1, .ints .i64 [0, 13107, 26214, 65535]], .slf 2 2 (fun j => List.take 2 (List.drop (j * 2) [.int .i64 500000000000, .int .i64 500000000000, .int .i64 250000000000, .int .i64 250000000000]))] (.tup [.slf 2 1 (fun j => List.take 2 (List.drop (j * 2) [.int .i64 350000000000, .int .i64 350000000000])), .int .i64 0]))
  (b2 : Called Tryz.prog 29 [.agg [.ints .i64 [2, 2], .int .i64 1, .ints .i64 [0, 13107, 26214, 65535]], .slf 2 2 (fun j => List.take 2 (List.drop (j * 2) [.int .i64 250000000000, .int .i64 750000000000, .int .i64 250000000000, .int .i64 250000000000]))] (.tup [.slf 2 1 (fun j => List.take 2 (List.drop (j * 2) [.int .i64 150000000000, .int .i64 550000000000])), .int .i64 0]))
  (re : Called Tryz.prog 33 [.agg [.ints .i64 [2, 2], .int .i64 1, .ints .i64 [0, 13107, 26214, 65535]], .ints .i64 [3, 2]] (.tup [.agg [.ints .i64 [3, 2], .int .i64 1, .ints .i64 [0, 13107, 13107, 39321, 26214, 65535]], .int .i64 0]))
  (ee : Called Tryz.prog 15 [.agg [.ints .i64 [2, 2], .int .i64 1, .ints .i64 [0, 13107, 26214, 65535]], .slf 2 1 (fun j => List.take 2 (List.drop (j * 2) [.str (Q 0).1, .str (Q 0).2]))] (.tup [.nil, .int .i64 2]))
  (v0 : Called Tryz.prog 26 [.agg [.ints .i64 [2, 2], .int .i64 1, .ints .i64 [0, 13107, 26214, 65535]], .agg [.str (Q 2).1, .str (Q 2).2], .slf 2 2 (fun j => List.take 2 (List.drop (j * 2) [.str (Q 0).1, .str (Q 0).2, .str (Q 1).1, .str (Q 1).2]))] (.bool true))
  (v1 : Called Tryz.prog 26 [.agg [.ints .i64 [2, 2], .int .i64 1, .ints .i64 [0, 13107, 26214, 65535]], .agg [.str (Q 3).1, .str (Q 3).2], .slf 2 2 (fun j => List.take 2 (List.drop (j * 2) [.str (Q 1).1, .str (Q 1).2, .str (Q 0).1, .str (Q 0).2]))] (.bool true))
  (v2 : Called Tryz.prog 26 [.agg [.ints .i64 [2, 2], .int .i64 1, .ints .i64 [0, 13107, 26214, 65535]], .agg [.str (Q 4).1, .str (Q 4).2], .slf 2 2 (fun j => List.take 2 (List.drop (j * 2) [.str (Q 5).1, .str (Q 5).2, .str (Q 4).1, .str (Q 4).2]))] (.bool true)) :
  Called Tryz.prog 10 [] (.bool true) := by
 have q0 := jfZ [0, 0] [0, 0] (by decide) (by decide)
 have q1 := jfZ [0, 1] [0, 1] (by decide) (by decide)
 have q2 := jfZ [52428, 39321] [52428, 39321] (by decide) (by decide)
 have q3 := jfZ [0, 13107, 13107, 39321, 26214, 65535] [0, 13107, 13107, 39321, 26214, 65535] (by decide) (by decide)
 have f3 := eqf3 (fun k => if k = 0 then Q 0 else Q 1)
 have g1 := eqb1 (fun _ => (350000000000, 350000000000))
 have g2 := eqb1 (fun _ => (150000000000, 550000000000))
 refine jaa tbOk 6 ⟨Tryz.func10, rfl, rfl, jhO rfl⟩ ?_
 (conv => whnf)
 (conv => whnf)
 (try simp only [jhy])
 repeat ((first | refine V.s1 ?_ | ((try ((with_reducible refine .ext ?_); (conv => whnf); (try simp only [jhy]))); (with_reducible refine jab (r := ?_) ?_ ?_); rotate_left; (focus (first | exact (o0) | exact (o1) | exact (o2) | exact (o3) | exact (o4) | exact (o5) | exact (fo) | exact (ce) | exact (st) | exact (b1) | exact (b2) | exact (re) | exact (ee) | exact (v0) | exact (v1) | exact (v2) | exact (q0) | exact (q1) | exact (q2) | exact (q3) | exact (f3) | exact (g1) | exact (g2))); (conv => whnf))); (try simp only [jhy]))
 refine ⟨(.take 0 (.ev (.cons 1 [0] (.ev (.cons 2 [0] (.ev (.cons 3 [0] (.ev (.cons 4 [] (.take 5 (.take 6 (.take 7 (.take 8 (.take 9 (.take 10 (.take 11 (.take 12 (.take 13 (.done)))))))))) (.nil))) (.nil))) (.nil))) (.nil)))), [], ⟨by kernel_rfl, by kernel_rfl, by kernel_rfl, by kernel_rfl⟩, ?_⟩
 refine jac [(2, .ints .i64 [0, 0]), (3, .ints .i64 [0, 1]), (4, .slf 2 3 (fun j => List.take 2 (List.drop (j * 2) [.str (Q 0).1, .str (Q 0).2, .str (Q 1).1, .str (Q 1).2, .str (Q 1).1, .str (Q 1).2]))), (5, .int .i64 0)] [] ?_ ?_
 ·exact V.d3 jhy o0 o1 ce
 (conv => whnf)
 (try simp only [jhy])
 repeat ((first | refine V.s1 ?_ | ((try ((with_reducible refine .ext ?_); (conv => whnf); (try simp only [jhy]))); (with_reducible refine jab (r := ?_) ?_ ?_); rotate_left; (focus (first | exact (o0) | exact (o1) | exact (o2) | exact (o3) | exact (o4) | exact (o5) | exact (fo) | exact (ce) | exact (st) | exact (b1) | exact (b2) | exact (re) | exact (ee) | exact (v0) | exact (v1) | exact (v2) | exact (q0) | exact (q1) | exact (q2) | exact (q3) | exact (f3) | exact (g1) | exact (g2))); (conv => whnf))); (try simp only [jhy]))
 refine ⟨(.take 0 (.ev (.cons 1 [0] (.ev (.cons 2 [0] (.ev (.cons 3 [] (.take 4 (.take 5 (.take 6 (.take 7 (.take 8 (.done)))))) (.nil))) (.nil))) (.nil)))), [], ⟨by kernel_rfl, by kernel_rfl, by kernel_rfl, by kernel_rfl⟩, ?_⟩
 refine jac [(17, .int .i64 2)] [] ?_ ?_
 ·exact V.d3 jhy o0 o1 ee
 (conv => whnf)
 (try simp only [jhy])
 repeat ((first | refine V.s1 ?_ | ((try ((with_reducible refine .ext ?_); (conv => whnf); (try simp only [jhy]))); (with_reducible refine jab (r := ?_) ?_ ?_); rotate_left; (focus (first | exact (o0) | exact (o1) | exact (o2) | exact (o3) | exact (o4) | exact (o5) | exact (fo) | exact (ce) | exact (st) | exact (b1) | exact (b2) | exact (re) | exact (ee) | exact (v0) | exact (v1) | exact (v2) | exact (q0) | exact (q1) | exact (q2) | exact (q3) | exact (f3) | exact (g1) | exact (g2))); (conv => whnf))); (try simp only [jhy]))
 refine ⟨(.take 0 (.ev (.cons 1 [0] (.ev (.cons 2 [] (.take 3 (.take 4 (.ev (.cons 5 [4] (.ev (.cons 6 [] (.take 7 (.take 8 (.take 9 (.ev (.cons 10 [9] (.ev (.cons 11 [9] (.ev (.cons 12 [9] (.ev (.cons 13 [9] (.ev (.cons 14 [] (.take 15 (.take 16 (.take 17 (.ev (.cons 18 [17] (.ev (.cons 19 [17] (.ev (.cons 20 [17] (.ev (.cons 21 [17] (.ev (.cons 22 [] (.take 23 (.take 24 (.take 25 (.ev (.cons 26 [25] (.ev (.cons 27 [25] (.ev (.cons 28 [25] (.ev (.cons 29 [25] (.ev (.cons 30 [] (.take 31 (.take 32 (.take 33 (.ev (.cons 34 [33] (.ev (.cons 35 [33] (.ev (.cons 36 [33] (.ev (.cons 37 [33] (.ev (.cons 38 [] (.take 39 (.take 40 (.take 41 (.take 42 (.take 43 (.ev (.cons 44 [43, 42, 41] (.ev (.cons 45 [] (.take 46 (.take 47 (.take 48 (.take 49 (.ev (.cons 50 [48] (.ev (.cons 51 [] (.take 52 (.take 53 (.take 54 (.take 55 (.ev (.cons 56 [54] (.ev (.cons 57 [] (.take 58 (.take 59 (.take 60 (.take 61 (.ev (.cons 62 [61, 60] (.ev (.cons 63 [] (.take 64 (.take 65 (.done))) (.nil))) (.nil))))))) (.nil))) (.nil))))))) (.nil))) (.nil))))))) (.nil))) (.nil)))))))) (.nil))) (.nil))) (.nil))) (.nil))) (.nil)))))) (.nil))) (.nil))) (.nil))) (.nil))) (.nil)))))) (.nil))) (.nil))) (.nil))) (.nil))) (.nil)))))) (.nil))) (.nil))) (.nil))) (.nil))) (.nil)))))) (.nil))) (.nil))))) (.nil))) (.nil)))), [], ⟨by kernel_rfl, by kernel_rfl, by kernel_rfl, by kernel_rfl⟩, ?_⟩
 refine jac [(0, .bool true)] [] ?_ ?_
 ·(conv => whnf); (try simp only [jhy])
  repeat' (first | exact V.wk | ((with_reducible refine And.intro ?_ jax); (conv => whnf); (try simp only [jhy])) | ((with_reducible first | refine jap ?_ ?_ | refine jat ?_ ?_) <;> (conv => whnf); (try simp only [jhy])) | ((first | refine V.s1 ?_ | ((with_reducible refine jal ?_ ?_); (focus ((conv => whnf); (try simp only [jhy]); (repeat ((first | refine V.s1 ?_); (try simp only [jhy]))); exact ⟨rfl⟩)); (conv => whnf)) | ((try ((with_reducible refine .ext ?_); (conv => whnf); (try simp only [jhy]))); (with_reducible refine jab (r := ?_) ?_ ?_); rotate_left; (focus (first | exact (o0) | exact (o1) | exact (o2) | exact (o3) | exact (o4) | exact (o5) | exact (fo) | exact (ce) | exact (st) | exact (b1) | exact (b2) | exact (re) | exact (ee) | exact (v0) | exact (v1) | exact (v2) | exact (q0) | exact (q1) | exact (q2) | exact (q3) | exact (f3) | exact (g1) | exact (g2))); (conv => whnf))); (try simp only [jhy])) | (refine And.intro ?_ ?_ <;> (conv => whnf); (try simp only [jhy])))
 refine V.r0 jhy ?_
 exact Fin.of rfl
end Go.Proofs.YtgjgpdceghjajaaGreatDoor
end
section
namespace Go.Proofs.YtgjgpdceghjajaaGreatDoor
open Go Go.V Go.Nb
def flU (x : Rat) : Int := (x * 1000000000000).floor
def clU (x : Rat) : Int := -((-(x * 1000000000000)).floor)
theorem jf6 (m : Int) : unit m = (m : Rat) / 1000000000000 := by
 unfold unit
 rw [Rat.divInt_eq_div]
 rfl
theorem jd7 {x : Rat} {m : Int} : unit m ≤ x ↔ (m : Rat) ≤ x * 1000000000000 := by
 rw [jf6]
 constructor <;> intro h <;> grind
theorem jer {x : Rat} {m : Int} : x ≤ unit m ↔ x * 1000000000000 ≤ (m : Rat) := by
 rw [jf6]
 constructor <;> intro h <;> grind
theorem jfj {x : Rat} {m : Int} : m ≤ flU x ↔ (m : Rat) ≤ x * 1000000000000 := Rat.le_floor_iff
theorem jfn {x : Rat} {m : Int} : clU x ≤ m ↔ x * 1000000000000 ≤ (m : Rat) := by
 unfold clU
 have := Rat.le_floor_iff (x := -m) (a := -(x * 1000000000000))
 rw [Rat.intCast_neg] at this
 constructor
 ·intro h
  have := this.1 (by omega)
  grind
 ·intro h
  have := this.2 (by grind)
  omega
theorem flU_mono {x y : Rat} (h : x ≤ y) : flU x ≤ flU y := jfj.2 (by
 have := jfj.1 (Int.le_refl (flU x))
 grind)
theorem clU_mono {x y : Rat} (h : x ≤ y) : clU x ≤ clU y := jfn.2 (by
 have := jfn.1 (Int.le_refl (clU y))
 grind)
theorem fl_cl {x y : Rat} (h : x ≤ y) : flU x ≤ clU y := by
 have h1 := jfj.1 (Int.le_refl (flU x))
 have h2 := jfn.1 (Int.le_refl (clU y))
 have h3 : ((flU x : Int) : Rat) ≤ ((clU y : Int) : Rat) := by grind
 exact Rat.intCast_le_intCast.1 h3
theorem around_fl {x : Rat} (h : -100000 ≤ x ∧ x ≤ 100000) : jcV x = (flU x, clU x, 0) ∧ (-100000000000000001 ≤ nearZ x 1000000000000 ∧ nearZ x 1000000000000 ≤ 100000000000000001) := by
 have hd := x.den_pos
 have k1 : x.num ≤ 100000 * x.den := by
  have := (Rat.le_iff (a := x) (b := 100000)).1 h.2
  rw [show (100000 : Rat).num = 100000 from rfl, show (100000 : Rat).den = 1 from rfl] at this
  omega
 have k2 : -(100000 * (x.den : Int)) ≤ x.num := by
  have := (Rat.le_iff (a := -100000) (b := x)).1 h.1
  rw [show (-100000 : Rat).num = -100000 from rfl, show (-100000 : Rat).den = 1 from rfl] at this
  omega
 have nl := near_le x 100000 ⟨k2, k1⟩
 refine ⟨?_, by omega⟩
 obtain ⟨p, q, e, hv, hq, hh, hu⟩ := around_law x (by omega)
 have hb := (jfW x p q).1 hh
 have p1 : unit p ≤ x := Rat.not_lt.1 fun g => by have := (jg2 p x).1 g; omega
 have q1 : x ≤ unit q := Rat.not_lt.1 fun g => by have := (jfw q x).1 g; omega
 have vi := jbt.1 hv
 have f1 : p ≤ flU x := jfj.2 (jd7.1 p1)
 have c1 : clU x ≤ q := jfn.2 (jer.1 q1)
 have f2 : flU x ≤ p := by
  have g1 := jfj.1 (Int.le_refl (flU x))
  rcases Int.lt_or_le p (flU x) with g | g
  ·have e2 : flU x ≤ q := Int.le_trans (fl_cl Rat.le_refl) c1
   have e3 : flU x = q := by omega
   have e4 : unit q = x := Rat.le_antisymm (jd7.2 (by rw [← e3]; exact g1)) q1
   have e5 := jeU q (jbt.2 (by omega))
   rw [e4, e] at e5
   have : p = q := congrArg Prod.fst e5
   omega
  ·exact g
 have c2 : q ≤ clU x := by
  have g1 := jfn.1 (Int.le_refl (clU x))
  rcases Int.lt_or_le (clU x) q with g | g
  ·have e2 : p ≤ clU x := Int.le_trans f1 (fl_cl Rat.le_refl)
   have e3 : clU x = p := by omega
   have e4 : unit p = x := Rat.le_antisymm p1 (jer.2 (by rw [← e3]; exact g1))
   have e5 := jeU p (jbt.2 (by omega))
   rw [e4, e] at e5
   have : q = p := congrArg (fun r => r.2.1) e5
   omega
  ·exact g
 rw [e, show p = flU x from by omega, show q = clU x from by omega]
theorem jd3 {n : Nat} {x : Rat} (h : Fq n x) (h0 : 0 < n ∧ n ≤ 600) (hb : -100000 ≤ x ∧ x ≤ 100000) : Called Tryz.prog 102 [frT x] (.tup [.agg [.int .i64 (flU x), .int .i64 (clU x)], .int .i64 0]) := by
 have o := jaL (h.ok h0.1 h0.2)
 have a := around_fl hb
 have c := around_b (decZ x.num) (dec x.den) o.1 (by rw [o.2]; omega)
 rw [o.2, a.1] at c
 exact c
def preI (k : Nat) (l : List D) : List D := l.take k ++ List.replicate (l.length - k) (.int .i64 0)
theorem jhD : type_of% @jhS ∧ type_of% @tn0 ∧ type_of% @tn1 ∧ type_of% @tn2 ∧ type_of% @tn3 ∧ type_of% @xt4 := ⟨@jhS, @tn0, @tn1, @tn2, @tn3, @xt4⟩
theorem blist2a {F : Nat} {e0 n0 : Nat} {f0 : Nat → List D} (T : Nat → Int × Int) (c0 : Called Tryz.prog F (.int .i64 0 :: [.ref [.slf e0 n0 f0]]) (.tup [.agg [.int .i64 (T 0).1, .int .i64 (T 0).2], .int .i64 0])) (c1 : Called Tryz.prog F (.int .i64 1 :: [.ref [.slf e0 n0 f0]]) (.tup [.agg [.int .i64 (T 1).1, .int .i64 (T 1).2], .int .i64 0])) :
  Called Tryz.prog 55 [.int .i64 2, .fn F [] [.ref [.slf e0 n0 f0]]] (.tup [.slf 2 2 (fun j => List.take 2 (List.drop (j * 2) [.int .i64 (T 0).1, .int .i64 (T 0).2, .int .i64 (T 1).1, .int .i64 (T 1).2])), .int .i64 0]) := by
 refine jaa tbOk 6 ⟨Tryz.func55, rfl, rfl, jhO rfl⟩ ?_
 (conv => whnf)
 refine V.r0 @jhS ?_
 refine jah (0) (fun k => k ≤ 2) (fun k => 2 - k) (fun k => [(14, .int .i64 k)]) (fun k => [(11, .box (preI (2 * k) [.int .i64 (T 0).1, .int .i64 (T 0).2, .int .i64 (T 1).1, .int .i64 (T 1).2]))]) ?_ ?_ ?_
 ·exact V.wk
 ·exact jhP _
 intro k hk
 have hk4 : k = 0 ∨ k = 1 ∨ k = 2 := by omega
 rcases hk4 with e | e | e
 all_goals subst e
 ·simp only [k0]
  refine V.r1 jhD c0 ?_
  exact ⟨1, by omega, by omega, V.wk⟩
 ·simp only [k1]
  refine V.r1 jhD c1 ?_
  exact ⟨2, by omega, by omega, V.wk⟩
 ·simp only [k2]
  refine V.r0 @jhS ?_
  exact Fin.of rfl
theorem blist4b {F : Nat} {p0 p1 p2 p3 q0 q1 q2 q3 : List UInt8} (T : Nat → Int × Int) (c0 : Called Tryz.prog F (.int .i64 0 :: [.ref [.str p0, .str q0], .ref [.str p1, .str q1], .ref [.str p2, .str q2], .ref [.str p3, .str q3]]) (.tup [.agg [.int .i64 (T 0).1, .int .i64 (T 0).2], .int .i64 0])) (c1 : Called Tryz.prog F (.int .i64 1 :: [.ref [.str p0, .str q0], .ref [.str p1, .str q1], .ref [.str p2, .str q2], .ref [.str p3, .str q3]]) (.tup [.agg [.int .i64 (T 1).1, .int .i64 (T 1).2], .int .i64 0])) (c2 : Called Tryz.prog F (.int .i64 2 :: [.ref [.str p0, .str q0], .ref [.str p1, .str q1], .ref [.str p2, .str q2], .ref [.str p3, .str q3]]) (.tup [.agg [.int .i64 (T 2).1, .int .i64 (T 2).2], .int .i64 0])) (c3 : Called Tryz.prog F (.int .i64 3 :: [.ref [.str p0, .str q0], .ref [.str p1, .str q1], .ref [.str p2, .str q2], .ref [.str p3, .str q3]]) (.tup [.agg [.int .i64 (T 3).1, .int .i64 (T 3).2], .int .i64 0])) :
  Called Tryz.prog 55 [.int .i64 4, .fn F [] [.ref [.str p0, .str q0], .ref [.str p1, .str q1], .ref [.str p2, .str q2], .ref [.str p3, .str q3]]] (.tup [.slf 2 4 (fun j => List.take 2 (List.drop (j * 2) [.int .i64 (T 0).1, .int .i64 (T 0).2, .int .i64 (T 1).1, .int .i64 (T 1).2, .int .i64 (T 2).1, .int .i64 (T 2).2, .int .i64 (T 3).1, .int .i64 (T 3).2])), .int .i64 0]) := by
 refine jaa tbOk 6 ⟨Tryz.func55, rfl, rfl, jhO rfl⟩ ?_
 (conv => whnf)
 refine V.r0 @jhS ?_
 refine jah (0) (fun k => k ≤ 4) (fun k => 4 - k) (fun k => [(14, .int .i64 k)]) (fun k => [(11, .box (preI (2 * k) [.int .i64 (T 0).1, .int .i64 (T 0).2, .int .i64 (T 1).1, .int .i64 (T 1).2, .int .i64 (T 2).1, .int .i64 (T 2).2, .int .i64 (T 3).1, .int .i64 (T 3).2]))]) ?_ ?_ ?_
 ·exact V.wk
 ·exact jhP _
 intro k hk
 have hk4 : k = 0 ∨ k = 1 ∨ k = 2 ∨ k = 3 ∨ k = 4 := by omega
 rcases hk4 with e | e | e | e | e
 all_goals subst e
 ·simp only [k0]
  refine V.r1 jhD c0 ?_
  exact ⟨1, by omega, by omega, V.wk⟩
 ·simp only [k1]
  refine V.r1 jhD c1 ?_
  exact ⟨2, by omega, by omega, V.wk⟩
 ·simp only [k2]
  refine V.r1 jhD c2 ?_
  exact ⟨3, by omega, by omega, V.wk⟩
 ·simp only [k3]
  refine V.r1 jhD c3 ?_
  exact ⟨4, by omega, by omega, V.wk⟩
 ·simp only [xk4]
  refine V.r0 @jhS ?_
  exact Fin.of rfl
theorem blist1c {F : Nat} {e0 n0 e1 n1 e2 n2 : Nat} {f0 f1 f2 : Nat → List D} {g0 g1 : List Int} (T : Nat → Int × Int) (c0 : Called Tryz.prog F (.int .i64 0 :: [.ref [.slf e0 n0 f0], .ref [.slf e1 n1 f1], .ref [.slf e2 n2 f2], .ref [.ints .i64 g0], .ref [.ints .i64 g1]]) (.tup [.agg [.int .i64 (T 0).1, .int .i64 (T 0).2], .int .i64 0])) :
  Called Tryz.prog 55 [.int .i64 1, .fn F [] [.ref [.slf e0 n0 f0], .ref [.slf e1 n1 f1], .ref [.slf e2 n2 f2], .ref [.ints .i64 g0], .ref [.ints .i64 g1]]] (.tup [.slf 2 1 (fun j => List.take 2 (List.drop (j * 2) [.int .i64 (T 0).1, .int .i64 (T 0).2])), .int .i64 0]) := by
 refine jaa tbOk 6 ⟨Tryz.func55, rfl, rfl, jhO rfl⟩ ?_
 (conv => whnf)
 refine V.r0 @jhS ?_
 refine jah (0) (fun k => k ≤ 1) (fun k => 1 - k) (fun k => [(14, .int .i64 k)]) (fun k => [(11, .box (preI (2 * k) [.int .i64 (T 0).1, .int .i64 (T 0).2]))]) ?_ ?_ ?_
 ·exact V.wk
 ·exact jhP _
 intro k hk
 have hk4 : k = 0 ∨ k = 1 := by omega
 rcases hk4 with e | e
 all_goals subst e
 ·simp only [k0]
  refine V.r1 jhD c0 ?_
  exact ⟨1, by omega, by omega, V.wk⟩
 ·simp only [k1]
  refine V.r0 @jhS ?_
  exact Fin.of rfl
theorem conf1_0 (p0 p1 p2 p3 q0 q1 q2 q3 : List UInt8) (b : Int × Int) (c : Called Tryz.prog 102 [.agg [.str p0, .str q0]] (.tup [.agg [.int .i64 b.1, .int .i64 b.2], .int .i64 0])) : Called Tryz.prog 101 (.int .i64 0 :: [.ref [.str p0, .str q0], .ref [.str p1, .str q1], .ref [.str p2, .str q2], .ref [.str p3, .str q3]]) (.tup [.agg [.int .i64 b.1, .int .i64 b.2], .int .i64 0]) := by
 refine jaa tbOk 6 ⟨Tryz.func101, rfl, rfl, jhO rfl⟩ ?_
 (conv => whnf)
 refine V.r1 jhD c ?_
 exact Fin.of rfl
theorem conf1_1 (p0 p1 p2 p3 q0 q1 q2 q3 : List UInt8) (b : Int × Int) (c : Called Tryz.prog 102 [.agg [.str p1, .str q1]] (.tup [.agg [.int .i64 b.1, .int .i64 b.2], .int .i64 0])) : Called Tryz.prog 101 (.int .i64 1 :: [.ref [.str p0, .str q0], .ref [.str p1, .str q1], .ref [.str p2, .str q2], .ref [.str p3, .str q3]]) (.tup [.agg [.int .i64 b.1, .int .i64 b.2], .int .i64 0]) := by
 refine jaa tbOk 6 ⟨Tryz.func101, rfl, rfl, jhO rfl⟩ ?_
 (conv => whnf)
 refine V.r1 jhD c ?_
 exact Fin.of rfl
theorem conf1_2 (p0 p1 p2 p3 q0 q1 q2 q3 : List UInt8) (b : Int × Int) (c : Called Tryz.prog 102 [.agg [.str p2, .str q2]] (.tup [.agg [.int .i64 b.1, .int .i64 b.2], .int .i64 0])) : Called Tryz.prog 101 (.int .i64 2 :: [.ref [.str p0, .str q0], .ref [.str p1, .str q1], .ref [.str p2, .str q2], .ref [.str p3, .str q3]]) (.tup [.agg [.int .i64 b.1, .int .i64 b.2], .int .i64 0]) := by
 refine jaa tbOk 6 ⟨Tryz.func101, rfl, rfl, jhO rfl⟩ ?_
 (conv => whnf)
 refine V.r1 jhD c ?_
 exact Fin.of rfl
theorem conf1_3 (p0 p1 p2 p3 q0 q1 q2 q3 : List UInt8) (b : Int × Int) (c : Called Tryz.prog 102 [.agg [.str p3, .str q3]] (.tup [.agg [.int .i64 b.1, .int .i64 b.2], .int .i64 0])) : Called Tryz.prog 101 (.int .i64 3 :: [.ref [.str p0, .str q0], .ref [.str p1, .str q1], .ref [.str p2, .str q2], .ref [.str p3, .str q3]]) (.tup [.agg [.int .i64 b.1, .int .i64 b.2], .int .i64 0]) := by
 refine jaa tbOk 6 ⟨Tryz.func101, rfl, rfl, jhO rfl⟩ ?_
 (conv => whnf)
 refine V.r1 jhD c ?_
 exact Fin.of rfl
theorem bands1_20 (X : Nat → Int × Int) (b : Int × Int) (c : Called Tryz.prog 57 [.agg [.int .i64 (X 0).1, .int .i64 (X 0).2], .int .i64 0, .int .i64 1000000000000] (.tup [.agg [.int .i64 b.1, .int .i64 b.2], .int .i64 0])) : Called Tryz.prog 56 (.int .i64 0 :: [.ref [.slf 2 2 (fun j => List.take 2 (List.drop (j * 2) [.int .i64 (X 0).1, .int .i64 (X 0).2, .int .i64 (X 1).1, .int .i64 (X 1).2]))]]) (.tup [.agg [.int .i64 b.1, .int .i64 b.2], .int .i64 0]) := by
 refine jaa tbOk 6 ⟨Tryz.func56, rfl, rfl, jhO rfl⟩ ?_
 (conv => whnf)
 refine V.r1 jhD c ?_
 exact Fin.of rfl
theorem bands1_21 (X : Nat → Int × Int) (b : Int × Int) (c : Called Tryz.prog 57 [.agg [.int .i64 (X 1).1, .int .i64 (X 1).2], .int .i64 0, .int .i64 1000000000000] (.tup [.agg [.int .i64 b.1, .int .i64 b.2], .int .i64 0])) : Called Tryz.prog 56 (.int .i64 1 :: [.ref [.slf 2 2 (fun j => List.take 2 (List.drop (j * 2) [.int .i64 (X 0).1, .int .i64 (X 0).2, .int .i64 (X 1).1, .int .i64 (X 1).2]))]]) (.tup [.agg [.int .i64 b.1, .int .i64 b.2], .int .i64 0]) := by
 refine jaa tbOk 6 ⟨Tryz.func56, rfl, rfl, jhO rfl⟩ ?_
 (conv => whnf)
 refine V.r1 jhD c ?_
 exact Fin.of rfl
end Go.Proofs.YtgjgpdceghjajaaGreatDoor
end
section
namespace Go.V
open Go Go.RowKit
def Env.alias (E : Env) (i j : Nat) : Env := ⟨fun x => if x = j then E.blk i else E.blk x, fun x => if x = j then E.siz i else E.siz x, fun x => if x = j then E.kn i else E.kn x, fun x => if x = j then E.real i else E.real x, fun x => if x = j then E.lpr i else E.lpr x⟩
theorem Env.off_alias (E : Env) (i j : Nat) : E.off (E.alias i j) j := fun k hk => by simp [Env.alias, hk]
section
variable {cx : Cx} {E : Env} {h : Pub} {a : Act} {w : World} {L : Sl} {H : Hp}
theorem Sat.renArr (S : Sat cx E h a w L H) {i j : Nat} {k : IntKind} {xs : List Int} (hij : i ≠ j) (hoff' : cx.off ≤ j) (hi : lookH H i = some (.arr k xs)) :
  Sat cx (E.alias i j) h a w (purge j L) ((j, .arr k xs) :: (i, .gone) :: jaD j H) := by
 have hoff := E.off_alias i j
 have ej : (E.alias i j).blk j = E.blk i ∧ (E.alias i j).siz j = E.siz i ∧ (E.alias i j).kn j = E.kn i ∧ (E.alias i j).real j = E.real i := by simp [Env.alias]
 have ne : ∀ x, x ≠ j → (E.alias i j).blk x = E.blk x ∧ (E.alias i j).real x = E.real x := fun x hx => ⟨(hoff x hx).1, (hoff x hx).2.2.2.1⟩
 have live : ∀ x c', x ≠ j → lookH ((j, .arr k xs) :: (i, .gone) :: jaD j H) x = some c' → c'.live = true → x ≠ i ∧ ∃ c0, lookH H x = some c0 ∧ c' = jb0 j c0 ∧ c0.live = true := by
  intro x c' hx hc' hl
  rw [jag, if_neg (Ne.symm hx), jag] at hc'
  by_cases hxi : i = x
  ·rw [if_pos hxi] at hc'; cases hc'; cases hl
  ·rw [if_neg hxi] at hc'
   obtain ⟨c0, h1, h2⟩ := ja5 hc'
   exact ⟨Ne.symm hxi, c0, h1, h2, by rw [h2, ja4] at hl; exact hl⟩
 have atj : ∀ c', lookH ((j, .arr k xs) :: (i, .gone) :: jaD j H) j = some c' → c' = .arr k xs := fun c' hc' => by
  rw [jag, if_pos rfl] at hc'; cases hc'; rfl
 refine { knows := ?_, mem := ?_, agree := S.agree, since := S.since, low := fun x hx => jep S.low hoff hoff' x hx, side := S.side }
 ·exact fun t => jbD hoff (S.knows t)
 ·refine { ok := ?_, base := ?_, unpub := ?_, inj := ?_ }
  ·intro x c' hc'
   by_cases hx : x = j
   ·subst hx
    rw [atj c' hc']
    have := S.mem.ok i _ hi
    simp only [ChunkOk] at this ⊢
    rw [ej.1, ej.2.1, ej.2.2.1, ej.2.2.2]
    exact this
   ·cases hl : c'.live with
    | false => cases c' <;> first | trivial | (simp [Chunk.live] at hl)
    | true =>
     obtain ⟨_, c0, h1, rfl, hl'⟩ := live x c' hx hc' hl
     exact ChunkOk.env hoff hx (S.mem.ok x _ h1)
  ·intro x c' hc' hl hr
   by_cases hx : x = j
   ·subst hx
    rw [ej.2.2.2] at hr
    rw [ej.1]
    exact S.mem.base i _ hi rfl hr
   ·obtain ⟨_, c0, h1, rfl, hl'⟩ := live x c' hx hc' hl
    rw [(ne x hx).2] at hr
    rw [(ne x hx).1]
    exact S.mem.base x _ h1 hl' hr
  ·intro x c' hc' hl hr o
   by_cases hx : x = j
   ·subst hx
    rw [ej.2.2.2] at hr
    rw [ej.1]
    exact S.mem.unpub i _ hi rfl hr o
   ·obtain ⟨_, c0, h1, rfl, hl'⟩ := live x c' hx hc' hl
    rw [(ne x hx).2] at hr
    rw [(ne x hx).1]
    exact S.mem.unpub x _ h1 hl' hr o
  ·intro x y c1 c2 hxy h1 h2 l1 l2 r1 r2
   by_cases hx : x = j
   ·subst hx
    obtain ⟨hyi, c0', g2, rfl, l2'⟩ := live y c2 (Ne.symm hxy) h2 l2
    rw [ej.2.2.2] at r1
    rw [(ne y (Ne.symm hxy)).2] at r2
    rw [ej.1, (ne y (Ne.symm hxy)).1]
    exact S.mem.inj i y _ _ (Ne.symm hyi) hi g2 rfl l2' r1 r2
   ·obtain ⟨hxi, c0, g1, rfl, l1'⟩ := live x c1 hx h1 l1
    rw [(ne x hx).2] at r1
    rw [(ne x hx).1]
    by_cases hy : y = j
    ·subst hy
     rw [ej.2.2.2] at r2
     rw [ej.1]
     exact S.mem.inj x i _ _ hxi g1 hi l1' rfl r1 r2
    ·obtain ⟨hyi, c0', g2, rfl, l2'⟩ := live y c2 hy h2 l2
     rw [(ne y hy).2] at r2
     rw [(ne y hy).1]
     exact S.mem.inj x y _ _ hxy g1 g2 l1' l2' r1 r2
end
theorem Wk.renBox {off : Nat} {L : Sl} {H : Hp} {L2 : Sl} {H2 : Hp} (i j b p n : Nat) {k : IntKind} {xs : List Int} {ds : List D} (hij : i ≠ j) (hb : b ≠ i ∧ b ≠ j) (hoff : off ≤ j) (hi : lookH H i = some (.arr k xs)) (hj : lookH (jaD j H) b = some (.box ds)) (hp : ds[p]? = some (.osl i 0 n))
  (h : Wk off (purge j L) ((b, .box (ds.set p (.osl j 0 n))) :: (j, .arr k xs) :: (i, .gone) :: jaD j H) L2 H2) : Wk off L H L2 H2 := by
 refine ⟨fun cx E h' a w e S => ?_⟩
 subst e
 have S1 := S.renArr hij hoff hi
 have hb1 : lookH ((j, .arr k xs) :: (i, .gone) :: jaD j H) b = some (.box ds) := by
  rw [jag, if_neg (Ne.symm hb.2), jag, if_neg (Ne.symm hb.1)]; exact hj
 have fe : ∀ v, Den (E.alias i j) h' (.osl i 0 n) v → Den (E.alias i j) h' (.osl j 0 n) v := fun v hv => by
  simp only [Den, Env.alias, if_true, if_neg hij] at hv ⊢
  exact hv
 refine h.out cx (E.alias i j) h' a w rfl (S1.rechunk hb1 rfl ?_)
 obtain ⟨h1, vs, rest, T, h2, h3, h4⟩ := S1.mem.ok b _ hb1
 exact ⟨h1, vs, rest, T, h2, jf1 h3 hp fe, h4⟩
end Go.V
end
section
namespace Go.Proofs.YtgjgpdceghjajaaGreatDoor
open Go Go.V Go.Nb
def grd (data : List Int) (s z : Int) (a : Nat) : Int := (z - 1) * max (data.getD ((a : Int) + s).toNat 0 - data.getD a 0) (data.getD a 0 - data.getD ((a : Int) + s).toNat 0)
def stp (data : List Int) (out s z : Int) (i : Nat) (w : Nat → List Int) (a : Nat) (r : Nat) : List Int :=
 if (a : Int) / s % z = z - 1 then w r else if (a : Int) % out = r then (w r).set i (max ((w r).getD i 0) (grd data s z a)) else w r
def inS (data : List Int) (out s z : Int) (i : Nat) (w : Nat → List Int) : Nat → Nat → List Int
 | 0 => w
 | a + 1 => stp data out s z i (inS data out s z i w a) a
def strd (zs : List Int) (out : Int) : Nat → Int
 | 0 => out
 | k + 1 => strd zs out k * zs.getD (zs.length - 1 - k) 0
def outS (zs data : List Int) (out : Int) : Nat → Nat → List Int
 | 0 => fun _ => List.replicate zs.length 0
 | k + 1 => inS data out (strd zs out k) (zs.getD (zs.length - 1 - k) 0) (zs.length - 1 - k) (outS zs data out k) data.length
def rowOk (n : Nat) (l : List Int) : Prop := l.length = n ∧ ∀ j, 0 ≤ l.getD j 0 ∧ l.getD j 0 ≤ 600000
theorem grd_bd {data : List Int} {s z : Int} {a : Nat} (hd : ∀ v ∈ data, 0 ≤ v ∧ v ≤ 65535) (hz : 2 ≤ z ∧ z ≤ 9) : 0 ≤ grd data s z a ∧ grd data s z a ≤ 600000 := by
 have h1 := jbO (p := fun v => 0 ≤ v ∧ v ≤ 65535) hd (by omega) a
 have h2 := jbO (p := fun v => 0 ≤ v ∧ v ≤ 65535) hd (by omega) ((a : Int) + s).toNat
 unfold grd
 generalize hx : max (data.getD ((a : Int) + s).toNat 0 - data.getD a 0) (data.getD a 0 - data.getD ((a : Int) + s).toNat 0) = x
 have hx2 : 0 ≤ x ∧ x ≤ 65535 := by omega
 constructor
 ·exact jhR (by omega) hx2.1
 ·have := Int.mul_le_mul (show z - 1 ≤ 8 by omega) hx2.2 hx2.1 (by omega)
  omega
theorem rowOk_set {n : Nat} {l : List Int} {i : Nat} {v : Int} (h : rowOk n l) (hv : 0 ≤ v ∧ v ≤ 600000) : rowOk n (l.set i v) := by
 refine ⟨by rw [List.length_set]; exact h.1, fun j => ?_⟩
 by_cases hi : i < l.length
 ·rw [jez l i j v hi]
  split
  ·exact hv
  ·exact h.2 j
 ·rw [List.set_eq_of_length_le (by omega)]
  exact h.2 j
theorem inS_ok {data : List Int} {out s z : Int} {i n : Nat} {w : Nat → List Int} (hd : ∀ v ∈ data, 0 ≤ v ∧ v ≤ 65535) (hz : 2 ≤ z ∧ z ≤ 9) (hw : ∀ r, rowOk n (w r)) : ∀ a r, rowOk n (inS data out s z i w a r)
 | 0, r => hw r
 | a + 1, r => by
  have h := inS_ok (out := out) (s := s) (z := z) (i := i) hd hz hw a r
  have g := grd_bd (s := s) (a := a) hd hz
  simp only [inS, stp]
  split
  ·exact h
  ·split
   ·refine rowOk_set h ?_
    have := h.2 i
    omega
   ·exact h
theorem jcw {l : List Int} {p : Int → Prop} (h : ∀ v ∈ l, p v) {j : Nat} (hj : j < l.length) : p (l.getD j 0) := by
 rw [List.getD_eq_getElem?_getD, List.getElem?_eq_getElem hj]
 exact h _ (List.getElem_mem hj)
theorem jgV {zs data : List Int} {out : Int} (hd : ∀ v ∈ data, 0 ≤ v ∧ v ≤ 65535) (hz : ∀ z ∈ zs, 2 ≤ z ∧ z ≤ 9) : ∀ k, k ≤ zs.length → ∀ r, rowOk zs.length (outS zs data out k r)
  | 0, _, r => ⟨by simp [outS], fun j => by
      have := jbO (l := List.replicate zs.length (0 : Int)) (p := fun v => v = 0) (fun v hv => List.eq_of_mem_replicate hv) rfl j
      show 0 ≤ (List.replicate zs.length (0 : Int)).getD j 0 ∧ (List.replicate zs.length (0 : Int)).getD j 0 ≤ 600000
      omega⟩
  | k + 1, hk, r => inS_ok hd (jcw (l := zs) (p := fun z => 2 ≤ z ∧ z ≤ 9) hz (by omega)) (jgV hd hz k (by omega)) _ r
theorem strd_pos {zs : List Int} {out : Int} (ho : 1 ≤ out ∧ out ≤ 4) (hz : ∀ z ∈ zs, 2 ≤ z ∧ z ≤ 9) : ∀ k, k ≤ zs.length → 0 < strd zs out k ∧ strd zs out k ≤ 4 * 9 ^ k
 | 0, _ => by simp only [strd]; omega
 | k + 1, hk => by
  have h := strd_pos ho hz k (by omega)
  have g := jcw (p := fun z => 2 ≤ z ∧ z ≤ 9) hz (j := zs.length - 1 - k) (by omega)
  simp only [strd]
  constructor
  ·exact Int.mul_pos h.1 (by omega)
  ·have := Int.mul_le_mul h.2 g.2 (by omega) (jhR (by decide) (Int.pow_nonneg (by decide)))
   rw [Int.pow_succ]
   omega
theorem jf8 {zs : List Int} {out : Int} : ∀ k, k ≤ zs.length → prod zs * out = prod (zs.take (zs.length - k)) * strd zs out k
 | 0, _ => by simp only [strd, Nat.sub_zero, List.take_length]
 | k + 1, hk => by
  have h := jf8 (zs := zs) (out := out) k (by omega)
  have e0 : zs[zs.length - (k + 1)]? = some (zs.getD (zs.length - 1 - k) 0) := by
   rw [show zs.length - 1 - k = zs.length - (k + 1) from by omega, List.getD_eq_getElem?_getD, List.getElem?_eq_getElem (show zs.length - (k + 1) < zs.length from by omega)]
   rfl
  rw [h, show zs.length - k = (zs.length - (k + 1)) + 1 from by omega, jcL e0]
  simp only [strd]
  rw [jh6, jh5 (zs.getD (zs.length - 1 - k) 0)]
theorem pow9 (k : Nat) (h : k ≤ 4) : (4 : Int) * 9 ^ k ≤ 26244 := by
 have g : k = 0 ∨ k = 1 ∨ k = 2 ∨ k = 3 ∨ k = 4 := by omega
 rcases g with rfl | rfl | rfl | rfl | rfl <;> decide
theorem stp_in {s z q : Int} {a : Nat} {len : Int} (hs : 0 < s) (hz : 0 < z) (hl : len = q * (s * z)) (ha : (a : Int) < len) (h : ¬ (a : Int) / s % z = z - 1) : (a : Int) + s < len := by
 have h1 := Int.emod_nonneg ((a : Int) / s) (show z ≠ 0 by omega)
 have h2 := jib ((a : Int) / s) hz
 have h3 : (a : Int) / s < q * z := (Int.ediv_lt_iff_lt_mul hs).2 (by rw [jh6, jh5 z s, ← hl]; exact ha)
 have h4 := Int.mul_ediv_add_emod ((a : Int) / s) z
 have h5 := Int.mul_ediv_add_emod (a : Int) s
 have h6 := jib (a : Int) hs
 have h7 : (a : Int) / s / z < q := (Int.ediv_lt_iff_lt_mul hz).2 h3
 have h8 : (a : Int) / s + 2 ≤ q * z := by
  have := jh7 (show (a : Int) / s / z + 1 ≤ q by omega) (show 0 ≤ z by omega)
  rw [jh4, Int.mul_one, jh5 z q] at this
  omega
 have h9 := jh7 h8 (show 0 ≤ s by omega)
 rw [jh4] at h9
 have h10 : s * (q * z) = len := by rw [hl, Int.mul_left_comm]
 omega
def stB1 (n : Nat) : Nat → Hp
 | 0 => [(21, .box [.nil])]
 | _ => [(21, .box [.osl 200 0 n]), (200, .arr .i64 (List.replicate n 0))]
theorem jhF : type_of% @jhT ∧ type_of% @jhS ∧ type_of% @tn0 ∧ type_of% @tn1 ∧ type_of% @tn2 ∧ type_of% @tn3 ∧ type_of% @xt4 := ⟨@jhT, @jhS, @tn0, @tn1, @tn2, @tn3, @xt4⟩
theorem steep1_t (zs data : List Int) (T : Nat → List Int) (hg : jao zs 1 data = true) (hl : zs.length ≤ 4) (hT : outS zs data 1 zs.length = T) : Called Tryz.prog 32 [.agg [.ints .i64 zs, .int .i64 1, .ints .i64 data]] (.tup [.slf 1 1 (fun j => List.take 1 (List.drop (j * 1) [.ints .i64 (T 0)])), .int .i64 0]) := by
 have ck : Called Tryz.prog 37 [.agg [.ints .i64 zs, .int .i64 1, .ints .i64 data]] (.int .i64 0) := jeA hg hl
 have og := jaY hg
 refine jaa tbOk 6 ⟨Tryz.func32, rfl, rfl, jhO rfl⟩ ?_
 (conv => whnf)
 refine V.r1 jhF ck ?_
 refine jah 0 (fun k => k ≤ 1) (fun k => 1 - k) (fun k => [(24, .int .i64 k)]) (fun k => stB1 zs.length k) ?_ ?_ ?_
 ·simp only [stB1]
  exact V.wk
 ·exact jhP _
 intro k hk
 have hk4 : k = 0 ∨ k = 1 := by omega
 rcases hk4 with e | e
 all_goals subst e
 ·simp only [k0, stB1]
  refine V.r0 jhF ?_
  refine ⟨1, by omega, by omega, ?_⟩
  simp only [stB1]
  refine Wk.renBox 32 200 21 0 zs.length (by decide) (by decide) (by decide) rfl rfl rfl ?_
  exact V.wk
 ·simp only [k1, stB1]
  refine V.r0 jhF ?_
  refine jg3 (β := Unit) 2 (fun _ => True) (fun _ => [(5, .slf 1 1 (fun j => List.take 1 (List.drop (j * 1) [.ints .i64 (T 0)]))), (7, .any), (8, .any), (21, .any), (22, .any)]) (fun _ => [(21, .gone), (200, .gone)]) ?_ ?_
  rotate_left
  ·intro _ _
   refine V.r0 @jhS ?_
   exact Fin.of rfl
  refine jah ((0, (zs.length : Int) - 1, 1, outS zs data 1 0) : Nat × Int × Int × (Nat → List Int)) (fun y => y.1 ≤ zs.length ∧ y.2.1 = (zs.length : Int) - 1 - y.1 ∧ y.2.2.1 = strd zs 1 y.1 ∧ y.2.2.2 = outS zs data 1 y.1) (fun y => zs.length - y.1) (fun y => [(8, .int .i64 y.2.1), (7, .int .i64 y.2.2.1)]) (fun y => [(200, .arr .i64 (y.2.2.2 0))]) ?_ ?_ ?_
  ·exact V.wk
  ·exact ⟨jhP _, (by show (zs.length : Int) - 1 = (zs.length : Int) - 1 - ((0 : Nat) : Int); omega), rfl, rfl⟩
  rintro ⟨k, x8, s, w⟩ ⟨hk, h8, hs, hw⟩
  dsimp only at hk h8 hs hw ⊢
  have wo : ∀ r, rowOk zs.length (w r) := fun r => by rw [hw]; exact jgV og.2.2.2 og.2.1 k hk r
  refine V.r0 jhF ?_
  refine Cnd.split (CondB.mk (fun h => ?_) (fun h => ?_))
  ·have hx := of_decide_eq_true h
   obtain ⟨i, rfl⟩ : ∃ i : Nat, x8 = i := ⟨x8.toNat, by omega⟩
   have hi : i = zs.length - 1 - k := by omega
   obtain ⟨z, hz⟩ : ∃ z, zs.getD i 0 = z := ⟨_, rfl⟩
   have zb : 2 ≤ z ∧ z ≤ 9 := by rw [← hz]; exact jcw og.2.1 (by omega)
   have sp := strd_pos og.1 og.2.1 k hk
   refine V.r0 (V.a2 jhF hz) ?_
   have s0 : 0 < s := by rw [hs]; exact sp.1
   have pp := jf8 (zs := zs) (out := 1) (k + 1) (by omega)
   have hlen : (data.length : Int) = prod (zs.take (zs.length - (k + 1))) * (s * z) := by rw [og.2.2.1.2, pp, hs, ← hz, hi]; rfl
   have sm : s ≤ 26244 := by
    have := pow9 k (by omega)
    omega
   have io := inS_ok (out := 1) (s := s) (z := z) (i := i) og.2.2.2 zb wo
   refine jah (0 : Nat) (fun a => a ≤ data.length) (fun a => data.length - a) (fun a => [(53, .int .i64 (a : Nat))]) (fun a => [(200, .arr .i64 (inS data 1 s z i w a 0))]) ?_ ?_ ?_
   ·exact V.wk
   ·exact jhP _
   intro a ha
   have b0 := jbO (p := fun v => 0 ≤ v ∧ v ≤ 65535) og.2.2.2 (by omega) a
   have r0 := io a 0
   have q0 := r0.2 i
   have l0 := r0.1
   refine V.r0 jhF ?_
   refine Cnd.split (CondB.mk (fun c => ?_) (fun c => ?_))
   ·have hx2 := of_decide_eq_true c
    have hq : 0 ≤ (a : Int) / s := Int.ediv_nonneg (by omega) (by omega)
    refine V.r0 jhF ?_
    refine Cnd.split (CondB.mk (fun f => ?_) (fun f => ?_))
    ·have he := of_decide_eq_true f
     have e0 : inS data 1 s z i w (a + 1) 0 = inS data 1 s z i w a 0 := if_pos he
     refine V.r0 jhF ?_
     refine ⟨a + 1, by omega, by omega, ?_⟩
     simp only [e0]
     exact V.wk
    ·have he := of_decide_eq_false f
     have hin := stp_in s0 (by omega) hlen hx2 he
     have b1 := jbO (p := fun v => 0 ≤ v ∧ v ≤ 65535) og.2.2.2 (by omega) ((a : Int) + s).toNat
     have gb := grd_bd (s := s) (a := a) og.2.2.2 zb
     unfold grd at gb
     have hm : InR .i64 ((z - 1) * max (data.getD ((a : Int) + s).toNat 0 - data.getD a 0) (data.getD a 0 - data.getD ((a : Int) + s).toNat 0)) := ⟨Int.le_trans (by decide) gb.1, Int.le_trans gb.2 (by decide)⟩
     have g : (a : Int) % 1 = 0 := by omega
     ·have u0 : inS data 1 s z i w (a + 1) 0 = (inS data 1 s z i w a 0).set i (max ((inS data 1 s z i w a 0).getD i 0) (grd data s z a)) := (if_neg he).trans (if_pos (show (a : Int) % 1 = ((0 : Nat) : Int) from g))
      (conv => whnf)
      (try simp only [jhF])
      repeat ((first | refine V.s1 ?_ | ((try ((with_reducible refine .ext ?_); (conv => whnf); (try simp only [jhF]))); (with_reducible refine jab (r := ?_) ?_ ?_); rotate_left; (focus (first | fail)); (conv => whnf)) | ((simp only [g]); (conv => whnf))); (try simp only [jhF]))
      refine ⟨a + 1, by omega, by omega, ?_⟩
      simp only [u0]
      exact V.wk
   ·have hx2 := of_decide_eq_false c
    obtain rfl : a = data.length := by omega
    have hsz0 := Int.mul_le_mul sm zb.2 (by omega) (by decide)
    have hsz1 := jhR (show 0 ≤ s by omega) (show 0 ≤ z by omega)
    have hsz : InR .i64 (s * z) := ⟨Int.le_trans (by decide) hsz1, Int.le_trans hsz0 (by decide)⟩
    refine V.r0 jhF ?_
    refine ⟨(k + 1, (i : Int) - 1, s * z, inS data 1 s z i w data.length), ⟨by show k + 1 ≤ zs.length; omega, by show (i : Int) - 1 = (zs.length : Int) - 1 - ((k + 1 : Nat) : Int); omega, ?_, ?_⟩, by show zs.length - (k + 1) < zs.length - k; omega, ?_⟩
    ·show s * z = strd zs 1 k * zs.getD (zs.length - 1 - k) 0
     rw [hs, ← hz, hi]
    ·show _ = inS data 1 (strd zs 1 k) (zs.getD (zs.length - 1 - k) 0) (zs.length - 1 - k) (outS zs data 1 k) data.length
     rw [← hs, ← hw, ← hi, hz]
    ·dsimp only
     exact V.wk
  ·have hx := of_decide_eq_false h
   have hkn : k = zs.length := by omega
   have hwT : w = T := by rw [hw, hkn, hT]
   subst hwT
   refine V.r0 @jhS ?_
   refine ⟨(), trivial, ?_⟩
   have t0 : (w 0).take zs.length = w 0 := List.take_of_length_le (Nat.le_of_eq (wo 0).1)
   refine Wk.pub 200 ?_
   (conv => whnf)
   simp only [t0]
   refine Wk.pub 21 ?_
   (conv => whnf)
   simp only [jhS]
   exact V.wk
theorem jhB : type_of% @jhS ∧ type_of% @tn0 ∧ type_of% @tn1 ∧ type_of% @tn2 ∧ type_of% @tn3 ∧ type_of% @xt4 := ⟨@jhS, @tn0, @tn1, @tn2, @tn3, @xt4⟩
theorem list2_i {F e1 n1 : Nat} {f1 : Nat → List D} {g0 : List Int} (T : Nat → Tx) (c0 : Called Tryz.prog F (.int .i64 0 :: [.ref [.ints .i64 g0], .ref [.slf e1 n1 f1]]) (.tup [.agg [.str (T 0).1, .str (T 0).2], .int .i64 0])) (c1 : Called Tryz.prog F (.int .i64 1 :: [.ref [.ints .i64 g0], .ref [.slf e1 n1 f1]]) (.tup [.agg [.str (T 1).1, .str (T 1).2], .int .i64 0])) :
  Called Tryz.prog 82 [.int .i64 2, .fn F [] [.ref [.ints .i64 g0], .ref [.slf e1 n1 f1]]] (.tup [.slf 2 2 (fun j => List.take 2 (List.drop (j * 2) [.str (T 0).1, .str (T 0).2, .str (T 1).1, .str (T 1).2])), .int .i64 0]) := by
 refine jaa tbOk 6 ⟨Tryz.func82, rfl, rfl, jhO rfl⟩ ?_
 (conv => whnf)
 refine V.r0 @jhS ?_
 refine jah (0) (fun k => k ≤ 2) (fun k => 2 - k) (fun k => [(14, .int .i64 k)]) (fun k => [(11, .box (preD (2 * k) [.str (T 0).1, .str (T 0).2, .str (T 1).1, .str (T 1).2]))]) ?_ ?_ ?_
 ·exact V.wk
 ·exact jhP _
 intro k hk
 have hk4 : k = 0 ∨ k = 1 ∨ k = 2 := by omega
 rcases hk4 with e | e | e
 all_goals subst e
 ·simp only [k0]
  refine V.r1 jhB c0 ?_
  exact ⟨1, by omega, by omega, V.wk⟩
 ·simp only [k1]
  refine V.r1 jhB c1 ?_
  exact ⟨2, by omega, by omega, V.wk⟩
 ·simp only [k2]
  refine V.r0 @jhS ?_
  exact Fin.of rfl
theorem spr1_20 (st : List Int) (H : Nat → Tx) (g0 g1 m0 m1 : List UInt8) (hl : st.length = 2) (ig : Called Tryz.prog 86 [.int .i64 (st.getD 0 0)] (.agg [.str g0, .str g1])) (mu : Called Tryz.prog 85 [.agg [.str g0, .str g1], .agg [.str (H 0).1, .str (H 0).2]] (.tup [.agg [.str m0, .str m1], .int .i64 0])) :
  Called Tryz.prog 98 [.int .i64 0, .ref [.ints .i64 st], .ref [.slf 2 2 (fun j => List.take 2 (List.drop (j * 2) [.str (H 0).1, .str (H 0).2, .str (H 1).1, .str (H 1).2]))]] (.tup [.agg [.str m0, .str m1], .int .i64 0]) := by
 refine jaa tbOk 6 ⟨Tryz.func98, rfl, rfl, jhO rfl⟩ ?_
 (conv => whnf)
 refine V.r0 jhB ?_
 refine ⟨(.take 0 (.take 1 (.take 2 (.take 3 (.take 5 (.take 6 (.take 7 (.take 8 (.ev (.cons 4 [8, 7, 6, 5] (.ev (.cons 9 [] (.take 10 (.take 11 (.ev (.cons 12 [] (.take 13 (.done)) (.nil))))) (.nil))) (.nil))))))))))), [], ⟨by kernel_rfl, by kernel_rfl, by kernel_rfl, by kernel_rfl⟩, ?_⟩
 refine jac [(5, .int .i64 0)] [(4, .box [.str m0, .str m1])] ?_ ?_
 ·exact V.d2 jhB ig mu
 refine V.r0 @jhS ?_
 exact Fin.of rfl
theorem spr1_21 (st : List Int) (H : Nat → Tx) (g0 g1 m0 m1 : List UInt8) (hl : st.length = 2) (ig : Called Tryz.prog 86 [.int .i64 (st.getD 1 0)] (.agg [.str g0, .str g1])) (mu : Called Tryz.prog 85 [.agg [.str g0, .str g1], .agg [.str (H 1).1, .str (H 1).2]] (.tup [.agg [.str m0, .str m1], .int .i64 0])) :
  Called Tryz.prog 98 [.int .i64 1, .ref [.ints .i64 st], .ref [.slf 2 2 (fun j => List.take 2 (List.drop (j * 2) [.str (H 0).1, .str (H 0).2, .str (H 1).1, .str (H 1).2]))]] (.tup [.agg [.str m0, .str m1], .int .i64 0]) := by
 refine jaa tbOk 6 ⟨Tryz.func98, rfl, rfl, jhO rfl⟩ ?_
 (conv => whnf)
 refine V.r0 jhB ?_
 refine ⟨(.take 0 (.take 1 (.take 2 (.take 3 (.take 5 (.take 6 (.take 7 (.take 8 (.ev (.cons 4 [8, 7, 6, 5] (.ev (.cons 9 [] (.take 10 (.take 11 (.ev (.cons 12 [] (.take 13 (.done)) (.nil))))) (.nil))) (.nil))))))))))), [], ⟨by kernel_rfl, by kernel_rfl, by kernel_rfl, by kernel_rfl⟩, ?_⟩
 refine jac [(5, .int .i64 0)] [(4, .box [.str m0, .str m1])] ?_ ?_
 ·exact V.d2 jhB ig mu
 refine V.r0 @jhS ?_
 exact Fin.of rfl
theorem spr_2 (st : List Int) (H M : Nat → Tx) (u0 u1 f0 f1 y0 y1 : List UInt8) (hl : st.length = 2) (li : Called Tryz.prog 82 [.int .i64 2, .fn 98 [] [.ref [.ints .i64 st], .ref [.slf 2 2 (fun j => List.take 2 (List.drop (j * 2) [.str (H 0).1, .str (H 0).2, .str (H 1).1, .str (H 1).2]))]]] (.tup [.slf 2 2 (fun j => List.take 2 (List.drop (j * 2) [.str (M 0).1, .str (M 0).2, .str (M 1).1, .str (M 1).2])), .int .i64 0]))
  (su : Called Tryz.prog 87 [.slf 2 2 (fun j => List.take 2 (List.drop (j * 2) [.str (M 0).1, .str (M 0).2, .str (M 1).1, .str (M 1).2]))] (.tup [.agg [.str u0, .str u1], .int .i64 0])) (fu : Called Tryz.prog 86 [.int .i64 65535] (.agg [.str f0, .str f1])) (dv : Called Tryz.prog 88 [.agg [.str u0, .str u1], .agg [.str f0, .str f1]] (.tup [.agg [.str y0, .str y1], .int .i64 0])) :
  Called Tryz.prog 60 [.ints .i64 st, .slf 2 2 (fun j => List.take 2 (List.drop (j * 2) [.str (H 0).1, .str (H 0).2, .str (H 1).1, .str (H 1).2]))] (.tup [.agg [.str y0, .str y1], .int .i64 0]) := by
 have hi : ((st.length : Nat) : Int) = 2 := by rw [hl]; rfl
 refine jaa tbOk 6 ⟨Tryz.func60, rfl, rfl, jhO rfl⟩ ?_
 (conv => whnf)
 refine V.r2 (V.a2 @jhS @hi) li su ?_
 refine ⟨(.take 0 (.ev (.cons 1 [0] (.ev (.cons 2 [] (.take 3 (.take 4 (.ev (.cons 5 [] (.take 6 (.done)) (.nil))))) (.nil))) (.nil)))), [], ⟨by kernel_rfl, by kernel_rfl, by kernel_rfl, by kernel_rfl⟩, ?_⟩
 refine jac [(5, .int .i64 0)] [(4, .box [.str y0, .str y1])] ?_ ?_
 ·exact V.d2 @jhS fu dv
 refine V.r0 @jhS ?_
 exact Fin.of rfl
theorem confined_t (p0 p1 p2 p3 q0 q1 q2 q3 s0 s1 a0 a1 : List UInt8) (T : Nat → Int × Int) (h o : Int × Int) (sb : Called Tryz.prog 99 [.agg [.str p0, .str q0], .agg [.str p1, .str q1]] (.tup [.agg [.str s0, .str s1], .int .i64 0])) (ad : Called Tryz.prog 100 [.agg [.str p0, .str q0], .agg [.str p1, .str q1]] (.tup [.agg [.str a0, .str a1], .int .i64 0]))
  (li : Called Tryz.prog 55 [.int .i64 4, .fn 101 [] [.ref [.str s0, .str s1], .ref [.str a0, .str a1], .ref [.str p2, .str q2], .ref [.str p3, .str q3]]] (.tup [.slf 2 4 (fun j => List.take 2 (List.drop (j * 2) [.int .i64 (T 0).1, .int .i64 (T 0).2, .int .i64 (T 1).1, .int .i64 (T 1).2, .int .i64 (T 2).1, .int .i64 (T 2).2, .int .i64 (T 3).1, .int .i64 (T 3).2])), .int .i64 0]))
  (hu : Called Tryz.prog 103 [.agg [.int .i64 (T 0).1, .int .i64 (T 0).2], .agg [.int .i64 (T 1).1, .int .i64 (T 1).2]] (.tup [.agg [.int .i64 h.1, .int .i64 h.2], .int .i64 0])) (ob : Called Tryz.prog 104 [.int .i64 (max h.1 (T 2).1), .int .i64 (min h.2 (T 3).2)] (.tup [.agg [.int .i64 o.1, .int .i64 o.2], .int .i64 0])) :
  Called Tryz.prog 61 [.agg [.str p0, .str q0], .agg [.str p1, .str q1], .agg [.str p2, .str q2], .agg [.str p3, .str q3]] (.tup [.agg [.int .i64 o.1, .int .i64 o.2], .int .i64 0]) := by
 refine jaa tbOk 6 ⟨Tryz.func61, rfl, rfl, jhO rfl⟩ ?_
 (conv => whnf)
 refine V.r3 jhB sb ad li ?_
 refine ⟨(.take 0 (.take 1 (.take 2 (.take 3 (.take 4 (.take 5 (.ev (.cons 6 [] (.take 7 (.take 8 (.take 9 (.ev (.cons 10 [9, 8, 7] (.ev (.cons 11 [9] (.take 12 (.done)) (.nil))) (.nil)))))) (.cons 10 [5, 4, 3, 2, 1, 0] (.ev (.cons 6 [] (.take 7 (.take 8 (.take 9 (.ev (.cons 11 [9] (.take 12 (.done)) (.nil)))))) (.nil))) (.nil)))))))))), [], ⟨by kernel_rfl, by kernel_rfl, by kernel_rfl, by kernel_rfl⟩, ?_⟩
 refine jac [(14, .box 14 0), (11, .int .i64 0)] [(14, .box [.int .i64 h.1, .int .i64 h.2])] ?_ ?_
 ·exact V.d1 jhB hu
 refine V.r0 jhB ?_
 refine ⟨(.take 0 (.take 1 (.take 2 (.take 3 (.take 4 (.take 5 (.take 6 (.take 7 (.take 8 (.take 9 (.take 10 (.take 11 (.take 12 (.take 13 (.ev (.cons 14 [] (.take 15 (.take 16 (.ev (.cons 17 [] (.take 18 (.done)) (.nil))))) (.nil))))))))))))))))), [], ⟨by kernel_rfl, by kernel_rfl, by kernel_rfl, by kernel_rfl⟩, ?_⟩
 refine jac [(9, .int .i64 0)] [(8, .box [.int .i64 o.1, .int .i64 o.2])] ?_ ?_
 ·exact V.d1 jhB ob
 refine V.r0 @jhS ?_
 exact Fin.of rfl
theorem bands2_210 (T : Nat → List Int) (H Y : Nat → Tx) (lo hi : List Int) (d0 d1 l0 l1 h0 h1 : List UInt8) (b : Int × Int) (hlo : lo.length = 1) (hhi : hi.length = 1) (sp : Called Tryz.prog 60 [.ints .i64 (T 0), .slf 2 2 (fun j => List.take 2 (List.drop (j * 2) [.str (H 0).1, .str (H 0).2, .str (H 1).1, .str (H 1).2]))] (.tup [.agg [.str d0, .str d1], .int .i64 0])) (o1 : Called Tryz.prog 58 [.int .i64 (lo.getD 0 0), .int .i64 65535] (.agg [.str l0, .str l1])) (o2 : Called Tryz.prog 58 [.int .i64 (hi.getD 0 0), .int .i64 65535] (.agg [.str h0, .str h1]))
  (cf : Called Tryz.prog 61 [.agg [.str (Y 0).1, .str (Y 0).2], .agg [.str d0, .str d1], .agg [.str l0, .str l1], .agg [.str h0, .str h1]] (.tup [.agg [.int .i64 b.1, .int .i64 b.2], .int .i64 0])) :
  Called Tryz.prog 59 (.int .i64 0 :: [.ref [.slf 1 1 (fun j => List.take 1 (List.drop (j * 1) [.ints .i64 (T 0)]))], .ref [.slf 2 2 (fun j => List.take 2 (List.drop (j * 2) [.str (H 0).1, .str (H 0).2, .str (H 1).1, .str (H 1).2]))], .ref [.slf 2 1 (fun j => List.take 2 (List.drop (j * 2) [.str (Y 0).1, .str (Y 0).2]))], .ref [.ints .i64 lo], .ref [.ints .i64 hi]]) (.tup [.agg [.int .i64 b.1, .int .i64 b.2], .int .i64 0]) := by
 refine jaa tbOk 6 ⟨Tryz.func59, rfl, rfl, jhO rfl⟩ ?_
 (conv => whnf)
 refine V.r0 jhB ?_
 refine ⟨(.take 0 (.take 1 (.take 2 (.take 3 (.take 4 (.ev (.cons 5 [] (.take 6 (.take 7 (.take 8 (.ev (.cons 9 [8, 7, 6] (.ev (.cons 10 [8] (.take 11 (.done)) (.nil))) (.nil)))))) (.cons 9 [4, 3, 2, 1, 0] (.ev (.cons 5 [] (.take 6 (.take 7 (.take 8 (.ev (.cons 10 [8] (.take 11 (.done)) (.nil)))))) (.nil))) (.nil))))))))), [], ⟨by kernel_rfl, by kernel_rfl, by kernel_rfl, by kernel_rfl⟩, ?_⟩
 refine jac [(9, .box 9 0), (10, .int .i64 0)] [(9, .box [.str d0, .str d1])] ?_ ?_
 ·exact V.d1 jhB sp
 refine V.r0 jhB ?_
 refine ⟨(.take 0 (.take 1 (.take 2 (.take 3 (.take 4 (.take 5 (.take 6 (.take 7 (.take 8 (.take 10 (.take 11 (.take 12 (.take 13 (.ev (.cons 9 [13, 12, 11, 10, 4, 3, 2, 1, 0] (.ev (.cons 14 [4, 3, 2, 1, 0] (.ev (.cons 15 [] (.take 16 (.take 17 (.ev (.cons 18 [] (.take 19 (.done)) (.nil))))) (.nil))) (.nil))) (.nil)))))))))))))))), [], ⟨by kernel_rfl, by kernel_rfl, by kernel_rfl, by kernel_rfl⟩, ?_⟩
 refine jac [(8, .int .i64 0)] [(7, .box [.int .i64 b.1, .int .i64 b.2])] ?_ ?_
 ·exact V.d3 jhB o1 o2 cf
 refine V.r0 @jhS ?_
 exact Fin.of rfl
theorem jhI : type_of% @jhS ∧ type_of% @tn0 ∧ type_of% @tn1 ∧ type_of% @tn2 ∧ type_of% @tn3 ∧ type_of% @xt4 := ⟨@jhS, @tn0, @tn1, @tn2, @tn3, @xt4⟩
theorem bands2_t (zs data lo hi : List Int) (out : Int) (X I : Nat → Int × Int) (MD HV : Nat → Tx) (o e o2 : Nat) (Y B S : Nat → List D) (hl : zs.length = 2) (hI : ∀ i, i < 2 → (0 ≤ (I i).1 ∧ (I i).1 ≤ 1000000000000) ∧ (0 ≤ (I i).2 ∧ (I i).2 ≤ 1000000000000)) (gr : Called Tryz.prog 25 [.agg [.ints .i64 zs, .int .i64 out, .ints .i64 data]] (.tup [.ints .i64 lo, .ints .i64 hi, .int .i64 0]))
  (li : Called Tryz.prog 55 [.int .i64 2, .fn 56 [] [.ref [.slf 2 2 (fun j => List.take 2 (List.drop (j * 2) [.int .i64 (X 0).1, .int .i64 (X 0).2, .int .i64 (X 1).1, .int .i64 (X 1).2]))]]] (.tup [.slf 2 2 (fun j => List.take 2 (List.drop (j * 2) [.int .i64 (I 0).1, .int .i64 (I 0).2, .int .i64 (I 1).1, .int .i64 (I 1).2])), .int .i64 0]))
  (om : ∀ i, i < 2 → Called Tryz.prog 58 [.int .i64 ((I i).1 + (I i).2), .int .i64 2000000000000] (.agg [.str (MD i).1, .str (MD i).2])) (oh : ∀ i, i < 2 → Called Tryz.prog 58 [.int .i64 ((I i).2 - (I i).1), .int .i64 2000000000000] (.agg [.str (HV i).1, .str (HV i).2]))
  (ev : Called Tryz.prog 15 [.agg [.ints .i64 zs, .int .i64 out, .ints .i64 data], .slf 2 2 (fun j => List.take 2 (List.drop (j * 2) [.str (MD 0).1, .str (MD 0).2, .str (MD 1).1, .str (MD 1).2]))] (.tup [.slf 2 o Y, .int .i64 0])) (st : Called Tryz.prog 32 [.agg [.ints .i64 zs, .int .i64 out, .ints .i64 data]] (.tup [.slf 1 o2 S, .int .i64 0]))
  (l2 : Called Tryz.prog 55 [.int .i64 out, .fn 59 [] [.ref [.slf 1 o2 S], .ref [.slf 2 2 (fun j => List.take 2 (List.drop (j * 2) [.str (HV 0).1, .str (HV 0).2, .str (HV 1).1, .str (HV 1).2]))], .ref [.slf 2 o Y], .ref [.ints .i64 lo], .ref [.ints .i64 hi]]] (.tup [.slf 2 e B, .int .i64 0])) :
  Called Tryz.prog 29 [.agg [.ints .i64 zs, .int .i64 out, .ints .i64 data], .slf 2 2 (fun j => List.take 2 (List.drop (j * 2) [.int .i64 (X 0).1, .int .i64 (X 0).2, .int .i64 (X 1).1, .int .i64 (X 1).2]))] (.tup [.slf 2 e B, .int .i64 0]) := by
 have hz : ((zs.length : Nat) : Int) = 2 := by rw [hl]; rfl
 refine jaa tbOk 6 ⟨Tryz.func29, rfl, rfl, jhO rfl⟩ ?_
 (conv => whnf)
 refine V.r1 jhI gr ?_
 refine Cnd.split (CondB.mk (fun h => absurd h (by rw [hl]; decide)) (fun _ => ?_))
 refine V.r1 jhI li ?_
 refine jg3 (β := Unit) 0 (fun _ => True) (fun _ => [(46, .any), (49, .any)]) (fun _ => [(43, .box [.str (MD 0).1, .str (MD 0).2, .str (MD 1).1, .str (MD 1).2]), (46, .gone), (11, .box [.slf 2 2 (fun j => List.take 2 (List.drop (j * 2) [.str (HV 0).1, .str (HV 0).2, .str (HV 1).1, .str (HV 1).2]))])]) ?_ ?_
 rotate_left
 ·intro _ _
  refine V.r3 jhI ev st l2 ?_
  exact Fin.of rfl
 refine jah (0) (fun k => k ≤ 2) (fun k => 2 - k) (fun k => [(49, .int .i64 k)]) (fun k => [(43, .box (preD (2 * k) [.str (MD 0).1, .str (MD 0).2, .str (MD 1).1, .str (MD 1).2])), (46, .box (preD (2 * k) [.str (HV 0).1, .str (HV 0).2, .str (HV 1).1, .str (HV 1).2]))]) ?_ ?_ ?_
 ·exact V.wk
 ·exact jhP _
 intro k hk
 have hk4 : k = 0 ∨ k = 1 ∨ k = 2 := by omega
 rcases hk4 with e1 | e1 | e1
 all_goals subst e1
 ·simp only [k0]
  have c1 := om 0 (by omega)
  have c2 := oh 0 (by omega)
  have hh := hI 0 (by omega)
  refine V.r1 jhI c1 ?_
  refine ⟨(.take 0 (.take 1 (.take 2 (.take 3 (.take 4 (.take 5 (.take 6 (.ev (.cons 7 [1, 0] (.take 8 (.ev (.cons 9 [] (.done) (.nil)))) (.nil)))))))))), [], ⟨by kernel_rfl, by kernel_rfl, by kernel_rfl, by kernel_rfl⟩, ?_⟩
  refine jac [] [(46, .box (preD (2 * 1) [.str (HV 0).1, .str (HV 0).2, .str (HV 1).1, .str (HV 1).2]))] ?_ ?_
  ·exact V.d1 jhI c2
  refine V.r0 jhI ?_
  exact ⟨1, by omega, by omega, V.wk⟩
 ·simp only [k1]
  have c1 := om 1 (by omega)
  have c2 := oh 1 (by omega)
  have hh := hI 1 (by omega)
  refine V.r1 jhI c1 ?_
  refine ⟨(.take 0 (.take 1 (.take 2 (.take 3 (.take 4 (.take 5 (.take 6 (.ev (.cons 7 [1, 0] (.take 8 (.ev (.cons 9 [] (.done) (.nil)))) (.nil)))))))))), [], ⟨by kernel_rfl, by kernel_rfl, by kernel_rfl, by kernel_rfl⟩, ?_⟩
  refine jac [] [(46, .box (preD (2 * 2) [.str (HV 0).1, .str (HV 0).2, .str (HV 1).1, .str (HV 1).2]))] ?_ ?_
  ·exact V.d1 jhI c2
  refine V.r0 jhI ?_
  exact ⟨2, by omega, by omega, V.wk⟩
 ·simp only [k2]
  refine V.r0 jhI ?_
  refine ⟨(), trivial, ?_⟩
  refine Wk.pub 46 ?_
  (conv => whnf)
  simp only [jhS]
  exact V.wk
def confB (y d l h : Rat) : Int × Int := (max (flU (y - d)) (flU l), min (clU (y + d)) (clU h))
theorem flU_bd {x : Rat} (h : -100000 ≤ x ∧ x ≤ 100000) : -100000000000000000 ≤ flU x ∧ flU x ≤ clU x ∧ clU x ≤ 100000000000000000 :=
 ⟨jfj.2 (by rw [show ((-100000000000000000 : Int) : Rat) = -100000 * 1000000000000 from by decide +kernel]; grind), fl_cl Rat.le_refl, jfn.2 (by rw [show ((100000000000000000 : Int) : Rat) = 100000 * 1000000000000 from by decide +kernel]; grind)⟩
theorem hull_q {p q p2 q2 : Int} (h1 : -100000000000000000 ≤ p ∧ p ≤ q ∧ q ≤ 100000000000000000) (h2 : -100000000000000000 ≤ p2 ∧ p2 ≤ q2 ∧ q2 ≤ 100000000000000000) : Called Tryz.prog 103 [.agg [.int .i64 p, .int .i64 q], .agg [.int .i64 p2, .int .i64 q2]] (.tup [.agg [.int .i64 (min p p2), .int .i64 (max q q2)], .int .i64 0]) := by
 have c := hull_b p q p2 q2
 have e : (if vb p q = true ∧ vb p2 q2 = true then (if p = p2 ∧ q = q2 then (p, q, (0 : Int)) else if max q q2 < min p p2 then (0, 0, 4) else (min p p2, max q q2, 0)) else (0, 0, 30)) = (min p p2, max q q2, 0) := by
  rw [if_pos ⟨jbt.2 (by omega), jbt.2 (by omega)⟩]
  split
  ·rename_i g
   rw [g.1, g.2, Int.min_self, Int.max_self]
  ·rw [if_neg (by omega)]
 rw [e] at c
 exact c
theorem conf_q {y d l h : Rat} (fy : Fq 376 y) (fd : Fq 70 d) (fl : Fq 10 l) (fh : Fq 10 h) (d0 : 0 ≤ d ∧ d ≤ 50000) (l0 : 0 ≤ l ∧ l ≤ y) (h0 : y ≤ h ∧ h ≤ 1) :
  Called Tryz.prog 61 [frT y, frT d, frT l, frT h] (.tup [.agg [.int .i64 (confB y d l h).1, .int .i64 (confB y d l h).2], .int .i64 0]) := by
 have b0 : -100000 ≤ y - d ∧ y - d ≤ 100000 := by constructor <;> grind
 have b1 : -100000 ≤ y + d ∧ y + d ≤ 100000 := by constructor <;> grind
 have b2 : -100000 ≤ l ∧ l ≤ 100000 := by constructor <;> grind
 have b3 : -100000 ≤ h ∧ h ≤ 100000 := by constructor <;> grind
 have u0 := flU_bd b0
 have u1 := flU_bd b1
 have u2 := flU_bd b2
 have u3 := flU_bd b3
 have sb := zsub fy fd (by decide) (by decide) (by decide)
 have ad := zadd fy fd (by decide) (by decide) (by decide)
 have a0 := jd3 (fy.sub fd) (by decide) b0
 have a1 := jd3 (fy.add fd) (by decide) b1
 have a2 := jd3 fl (by decide) b2
 have a3 := jd3 fh (by decide) b3
 have m1 : flU (y - d) ≤ flU (y + d) := flU_mono (by grind)
 have m2 : clU (y - d) ≤ clU (y + d) := clU_mono (by grind)
 have m3 : flU (y - d) ≤ clU h := fl_cl (by grind)
 have m4 : flU l ≤ clU (y + d) := fl_cl (by grind)
 have m5 : flU l ≤ clU h := fl_cl (by grind)
 have m6 : flU (y - d) ≤ clU (y + d) := fl_cl (by grind)
 have hu := hull_q u0 u1
 rw [show min (flU (y - d)) (flU (y + d)) = flU (y - d) from by omega, show max (clU (y - d)) (clU (y + d)) = clU (y + d) from by omega] at hu
 have ob := of_b (max (flU (y - d)) (flU l)) (min (clU (y + d)) (clU h))
 rw [if_pos (jbt.2 (by omega))] at ob
 let T : Nat → Int × Int := fun i => match i with | 0 => (flU (y - d), clU (y - d)) | 1 => (flU (y + d), clU (y + d)) | 2 => (flU l, clU l) | _ => (flU h, clU h)
 have li := blist4b (F := 101) T (conf1_0 _ _ _ _ _ _ _ _ (T 0) a0) (conf1_1 _ _ _ _ _ _ _ _ (T 1) a1) (conf1_2 _ _ _ _ _ _ _ _ (T 2) a2) (conf1_3 _ _ _ _ _ _ _ _ (T 3) a3)
 exact confined_t _ _ _ _ _ _ _ _ _ _ _ _ T (flU (y - d), clU (y + d)) (confB y d l h) sb ad li hu ob
theorem spr_q2 {st : List Int} {H : Nat → Rat} (hs : rowOk 2 st) (hf : ∀ i, i < 2 → Fq 14 (H i)) : Called Tryz.prog 60 [.ints .i64 st, slQ (fun i => txq (H i)) 2] (.tup [frT (smF (fun i => ((st.getD i 0 : Int) : Rat) * H i) 1 / 65535), .int .i64 0]) ∧ Fq 70 (smF (fun i => ((st.getD i 0 : Int) : Rat) * H i) 1 / 65535) := by
 have w0 : Fq 6 ((st.getD 0 0 : Int) : Rat) := jba (by have := hs.2 0; omega) (by decide)
 have i0 := jar (n := st.getD 0 0) (by have := hs.2 0; omega)
 have u0 := zmul w0 (hf 0 (by decide)) (by decide) (by decide) (by decide)
 have m0 := spr1_20 st (fun i => txq (H i)) _ _ _ _ hs.1 i0 u0
 have w1 : Fq 6 ((st.getD 1 0 : Int) : Rat) := jba (by have := hs.2 1; omega) (by decide)
 have i1 := jar (n := st.getD 1 0) (by have := hs.2 1; omega)
 have u1 := zmul w1 (hf 1 (by decide)) (by decide) (by decide) (by decide)
 have m1 := spr1_21 st (fun i => txq (H i)) _ _ _ _ hs.1 i1 u1
 have li := list2_i (fun i => txq (((st.getD i 0 : Int) : Rat) * H i)) m0 m1
 have s0 : Fq 20 (smF (fun i => ((st.getD i 0 : Int) : Rat) * H i) 0) := w0.mul (hf 0 (by decide))
 have s1 : Fq 41 (smF (fun i => ((st.getD i 0 : Int) : Rat) * H i) 1) := s0.add (w1.mul (hf 1 (by decide)))
 have su := sum2 (fun i => txq (((st.getD i 0 : Int) : Rat) * H i)) (fun i => txq (smF (fun i => ((st.getD i 0 : Int) : Rat) * H i) i)) rfl (zadd s0 (w1.mul (hf 1 (by decide))) (by decide) (by decide) (by decide))
 have fu := jar (n := 65535) (by omega)
 have f5 := jba (n := 5) (z := 65535) jbz (by decide)
 have dv := zdiv s1 f5 jdh (by decide) (by decide) (by decide)
 have fd := (s1.div f5 jdh).mono (show _ ≤ 70 by decide)
 rw [show ((65535 : Int) : Rat) = 65535 from rfl] at fu dv fd
 exact ⟨spr_2 st (fun i => txq (H i)) (fun i => txq (((st.getD i 0 : Int) : Rat) * H i)) _ _ _ _ _ _ hs.1 li su fu dv, fd⟩
end Go.Proofs.YtgjgpdceghjajaaGreatDoor
end
section
namespace Go.Proofs.YtgjgpdceghjajaaGreatDoor
open Go Go.V Go.Gr Go.Nb
theorem nz_ofz {zs : List Int} (h : ∀ z ∈ zs, 0 ≤ z) : nz (zs.map Int.toNat) = zs := by
 unfold nz
 rw [List.map_map]
 conv => rhs; rw [← List.map_id zs]
 exact List.map_congr_left fun z hz => Int.toNat_of_nonneg (h z hz)
def loL (out : Int) (data : List Int) : List Int := rl (fun a b => decide (a < b)) data out.toNat data.length
def hiL (out : Int) (data : List Int) : List Int := rl (fun a b => decide (a > b)) data out.toNat data.length
theorem rng_ok {zs : List Int} {out : Int} {data : List Int} (hg : jao zs out data = true) : data.length = PR (zs.map Int.toNat) * out.toNat ∧ 0 < PR (zs.map Int.toNat) ∧ (loL out data).length = out.toNat ∧ (hiL out data).length = out.toNat := by
 have og := jaY hg
 have e := nz_ofz (zs := zs) fun z hz => by have := og.2.1 z hz; omega
 have p := jfK (zs.map Int.toNat)
 rw [e] at p
 have h1 : (data.length : Int) = ((PR (zs.map Int.toNat) * out.toNat : Nat) : Int) := by
  rw [og.2.2.1.2, p, jh3, Int.toNat_of_nonneg (by omega)]
 have h2 : data.length = PR (zs.map Int.toNat) * out.toNat := by exact_mod_cast h1
 have h3 : 0 < PR (zs.map Int.toNat) := by
  have : ∀ l : List Int, (∀ z ∈ l, 2 ≤ z ∧ z ≤ 9) → 0 < prod l := fun l hl => by
   have g : ∀ (l : List Int) (a : Int), 0 < a → (∀ z ∈ l, 2 ≤ z ∧ z ≤ 9) → 0 < l.foldl (· * ·) a := by
    intro l
    induction l with
    | nil => exact fun a ha _ => ha
    | cons z l ih => exact fun a ha hz => ih (a * z) (Int.mul_pos ha (by have := hz z (List.mem_cons_self ..); omega)) fun y hy => hz y (List.mem_cons_of_mem _ hy)
   exact g l 1 (by decide) hl
  have := this zs og.2.1
  omega
 have h4 : out.toNat ≤ data.length := by
  rw [h2]
  exact Nat.le_mul_of_pos_left _ h3
 exact ⟨h2, h3, jee h4 _, jee h4 _⟩
theorem col_bd {data : List Int} (h : ∀ v ∈ data, 0 ≤ v ∧ v ≤ 65535) (w m k : Nat) : 0 ≤ col data w m k ∧ col data w m k ≤ 65535 := jcY h _ _ _
theorem jgf {zs : List Int} {out : Int} {data : List Int} (hg : jao zs out data = true) {j : Nat} (hj : j < out.toNat) :
  (0 ≤ (loL out data).getD j 0 ∧ (loL out data).getD j 0 ≤ 65535) ∧ (0 ≤ (hiL out data).getD j 0 ∧ (hiL out data).getD j 0 ≤ 65535) ∧
  ∀ xs, okIdx zs xs = true → (loL out data).getD j 0 ≤ (slot data (pz (zs.zip xs) * out) out).getD j 0 ∧ (slot data (pz (zs.zip xs) * out) out).getD j 0 ≤ (hiL out data).getD j 0 := by
 have og := jaY hg
 have r := rng_ok hg
 have s1 := mst_spec ord_lt r.1 hj (PR (zs.map Int.toNat)) (jhU _) r.2.1
 have s2 := mst_spec ord_gt r.1 hj (PR (zs.map Int.toNat)) (jhU _) r.2.1
 have e1 := rl_mst (lt := fun a b => decide (a < b)) r.1 (by omega) (PR (zs.map Int.toNat)) (jhU _)
 have e2 := rl_mst (lt := fun a b => decide (a > b)) r.1 (by omega) (PR (zs.map Int.toNat)) (jhU _)
 rw [← r.1] at e1 e2
 rw [← e1] at s1
 rw [← e2] at s2
 refine ⟨?_, ?_, fun xs hx => ?_⟩
 ·obtain ⟨_, m, _, e⟩ := s1
  show 0 ≤ (rl _ data out.toNat data.length).getD j 0 ∧ (rl _ data out.toNat data.length).getD j 0 ≤ 65535
  rw [e]
  exact col_bd og.2.2.2 _ _ _
 ·obtain ⟨_, m, _, e⟩ := s2
  show 0 ≤ (rl _ data out.toNat data.length).getD j 0 ∧ (rl _ data out.toNat data.length).getD j 0 ≤ 65535
  rw [e]
  exact col_bd og.2.2.2 _ _ _
 ·have e := nz_ofz (zs := zs) fun z hz => by have := og.2.1 z hz; omega
  have ip := ixl_pz (zs.map Int.toNat) xs (by rw [e]; exact hx)
  rw [e] at ip
  have em : pz (zs.zip xs) * out = (((pz (zs.zip xs)).toNat * out.toNat : Nat) : Int) := by
   rw [jh3, Int.toNat_of_nonneg ip.1.1, Int.toNat_of_nonneg (by omega)]
  have hm : (pz (zs.zip xs)).toNat < PR (zs.map Int.toNat) := by omega
  have a1 := s1.1 _ hm
  have a2 := s2.1 _ hm
  have ec : (slot data (pz (zs.zip xs) * out) out).getD j 0 = col data out.toNat (pz (zs.zip xs)).toNat j := by
   unfold col
   rw [em, show ((out.toNat : Nat) : Int) = out from by omega]
  rw [ec]
  simp only [decide_eq_false_iff_not] at a1 a2
  unfold loL hiL
  omega
theorem range_q {zs : List Int} {out : Int} {data : List Int} (hg : jao zs out data = true) (hl : zs.length ≤ 4) : Called Tryz.prog 25 [gridD zs out data] (.tup [.ints .i64 (loL out data), .ints .i64 (hiL out data), .int .i64 0]) := by
 have og := jaY hg
 have c := range_c zs out data (by omega) (by omega)
 rw [hg] at c
 exact c
def clI (v : Int) : Int := min (max v 0) 1000000000000
def midB (b : Int × Int) : Rat := Rat.divInt (clI b.1 + clI b.2) 2000000000000
def halB (b : Int × Int) : Rat := Rat.divInt (clI b.2 - clI b.1) 2000000000000
def bce (B : Nat → Int × Int) : Nat → List D
 | 0 => []
 | k + 1 => bce B k ++ [.int .i64 (B k).1, .int .i64 (B k).2]
def slB (B : Nat → Int × Int) (n : Nat) : D := .slf 2 n (fun j => List.take 2 (List.drop (j * 2) (bce B n)))
theorem jbR (v : Int) : 0 ≤ clI v ∧ clI v ≤ 1000000000000 := by unfold clI; omega
theorem clI_mono {a b : Int} (h : a ≤ b) : clI a ≤ clI b := by unfold clI; omega
theorem clamp_q {b : Int × Int} (h : vb b.1 b.2 = true) : Called Tryz.prog 57 [.agg [.int .i64 b.1, .int .i64 b.2], .int .i64 0, .int .i64 1000000000000] (.tup [.agg [.int .i64 (clI b.1), .int .i64 (clI b.2)], .int .i64 0]) := by
 have c := clamp_b b.1 b.2 0 1000000000000
 have v := jbt.1 h
 have b1 := jbR b.1
 have b2 := jbR b.2
 have m := clI_mono v.2.1
 rw [if_pos h, if_pos (jbt.2 (by omega))] at c
 have e : mk (min (max b.1 0) 1000000000000) (min (max b.2 0) 1000000000000) = (clI b.1, clI b.2, 0) := by
  unfold mk
  rw [if_pos (jbt.2 (by unfold clI at *; omega))]
  rfl
 rw [e] at c
 exact c
theorem divQ (a : Int) : Rat.divInt a 2000000000000 = (a : Rat) / 2000000000000 := by
 rw [Rat.divInt_eq_div]
 rfl
theorem divF (a : Int) : Rat.divInt a 65535 = (a : Rat) / 65535 := by
 rw [Rat.divInt_eq_div]
 rfl
theorem fq_mid (b : Int × Int) : Fq 14 (midB b) := by
 have b1 := jbR b.1
 have b2 := jbR b.2
 exact jaJ (n := 14) (d := 2000000000000) (by decide) (by omega) (by decide)
theorem fq_hal (b : Int × Int) : Fq 14 (halB b) := by
 have b1 := jbR b.1
 have b2 := jbR b.2
 exact jaJ (n := 14) (d := 2000000000000) (by decide) (by omega) (by decide)
theorem hal_bd {b : Int × Int} (h : vb b.1 b.2 = true) : 0 ≤ halB b ∧ halB b ≤ 1 := by
 have b1 := jbR b.1
 have b2 := jbR b.2
 have m := clI_mono (jbt.1 h).2.1
 unfold halB
 rw [divQ]
 have g1 : (0 : Rat) ≤ ((clI b.2 - clI b.1 : Int) : Rat) := by exact_mod_cast (show (0 : Int) ≤ clI b.2 - clI b.1 by omega)
 have g2 : ((clI b.2 - clI b.1 : Int) : Rat) ≤ ((1000000000000 : Int) : Rat) := Rat.intCast_le_intCast.2 (by omega)
 rw [show ((1000000000000 : Int) : Rat) = 1000000000000 from rfl] at g2
 constructor <;> grind
theorem fq_full {v : Int} (h : 0 ≤ v ∧ v ≤ 65535) : Fq 10 (Rat.divInt v 65535) := jaJ (n := 10) (d := 65535) (by decide) (by omega) (by decide)
def sprQ (zs data : List Int) (out : Int) (n : Nat) (X : Nat → Int × Int) (j : Nat) : Rat := smF (fun i => (((outS zs data out zs.length j).getD i 0 : Int) : Rat) * halB (X i)) (n - 1) / 65535
theorem spr_term {st : List Int} {n i : Nat} {b : Int × Int} (hs : rowOk n st) (h : vb b.1 b.2 = true) : 0 ≤ ((st.getD i 0 : Int) : Rat) * halB b ∧ ((st.getD i 0 : Int) : Rat) * halB b ≤ 600000 := by
 have g := hal_bd h
 have s := hs.2 i
 have s0 : (0 : Rat) ≤ ((st.getD i 0 : Int) : Rat) := by exact_mod_cast s.1
 have s1 : ((st.getD i 0 : Int) : Rat) ≤ ((600000 : Int) : Rat) := Rat.intCast_le_intCast.2 s.2
 rw [show ((600000 : Int) : Rat) = 600000 from rfl] at s1
 have m1 := Rat.mul_le_mul_of_nonneg_left g.2 s0
 have m0 := Rat.mul_le_mul_of_nonneg_left g.1 s0
 constructor <;> grind
theorem smF_bd {P : Nat → Rat} {n : Nat} (h : ∀ i, i ≤ n → 0 ≤ P i ∧ P i ≤ 600000) : ∀ k, k ≤ n → 0 ≤ smF P k ∧ smF P k ≤ 600000 * (((k + 1 : Nat) : Int) : Rat)
 | 0, hk => by
  have := h 0 hk
  simp only [smF]
  rw [show (((0 + 1 : Nat) : Int) : Rat) = 1 from rfl]
  constructor <;> grind
 | k + 1, hk => by
  have a := smF_bd h k (by omega)
  have b := h (k + 1) hk
  simp only [smF]
  rw [show (((k + 1 + 1 : Nat) : Int) : Rat) = (((k + 1 : Nat) : Int) : Rat) + 1 by rw [Int.natCast_add, Rat.intCast_add]; rfl]
  constructor <;> grind
theorem fq_ev2 {x0 x1 : Rat} {z0 z1 out : Int} {data : List Int} (hg : jao [z0, z1] out data = true) (h0 : Fq 40 x0) (h1 : Fq 40 x1) (j : Nat) : Fq 376 (evQ [z0, z1] out data x0 x1 0 j) := by
 have og := jaY hg
 have s0 := og.2.1 z0 (by simp)
 have f0 := jck h0 (by decide) s0
 have s1 := og.2.1 z1 (by simp)
 have f1 := jck h1 (by decide) s1
 have fr : ∀ k, Fq 43 (rqN (spR z0 x0) (spR z1 x1) 0 k) := fq_rq f0 f1 jhc
 rw [ev2_sm s0.1 s1.1]
 have fm : ∀ k, Fq 92 ((fun k => wqN (rqN (spR z0 x0) (spR z1 x1) 0) (ord2 (spR z0 x0) (spR z1 x1)) 2 k * (((slot data (pz ([z0, z1].zip ((atK [spB z0 x0, spB z1 x1, 0, 0] (ord2 (spR z0 x0) (spR z1 x1)) k).take 2)) * out) out).getD j 0 : Int) : Rat)) k) := fun k => (fq_wq fr _ 2 k).mul (jba (n := 5) (by have := jcY og.2.2.2 (pz ([z0, z1].zip ((atK [spB z0 x0, spB z1 x1, 0, 0] (ord2 (spR z0 x0) (spR z1 x1)) k).take 2)) * out) out j; omega) (by omega))
 have s := fq_sm fm 2
 have q := s.div (jba (n := 5) (z := 65535) jbz (by decide)) jdh
 rw [show ((65535 : Int) : Rat) = 65535 from rfl] at q
 exact q.mono (by decide)
theorem ev_in2 {x0 x1 : Rat} {z0 z1 out : Int} {data : List Int} (hg : jao [z0, z1] out data = true) {j : Nat} (hj : j < out.toNat) : Rat.divInt ((loL out data).getD j 0) 65535 ≤ evQ [z0, z1] out data x0 x1 0 j ∧ evQ [z0, z1] out data x0 x1 0 j ≤ Rat.divInt ((hiL out data).getD j 0) 65535 := by
 have og := jaY hg
 have rb := jgf hg hj
 have s0 := og.2.1 z0 (by simp)
 have s1 := og.2.1 z1 (by simp)
 have b := ev_bd (s0 := z0) (s1 := z1) (s2 := 2) (v := gvF [z0, z1] out data j) (m := (((loL out data).getD j 0 : Int) : Rat)) (M := (((hiL out data).getD j 0 : Int) : Rat)) (by omega) (fun i k l hi hk hl => by
  have g := rb.2.2 [i, k] (by simp [okIdx]; omega)
  exact ⟨Rat.intCast_le_intCast.2 g.1, Rat.intCast_le_intCast.2 g.2⟩) x0 x1 0
 rw [divF, divF]
 show _ ≤ evF z0 z1 2 (gvF [z0, z1] out data j) x0 x1 0 / 65535 ∧ evF z0 z1 2 (gvF [z0, z1] out data j) x0 x1 0 / 65535 ≤ _
 constructor <;> grind
end Go.Proofs.YtgjgpdceghjajaaGreatDoor
end
section
namespace Go.Proofs.YtgjgpdceghjajaaGreatDoor
open Go Go.V Go.Nb Go.Gr
theorem nearU_bd {x : Rat} (h0 : 0 ≤ x) (h1 : x ≤ 1) : 0 ≤ nearZ x 65535 ∧ nearZ x 65535 ≤ 65535 := by
 have hd : (0 : Int) < x.den := by have := x.den_pos; omega
 have hn : 0 ≤ x.num := Rat.num_nonneg.2 h0
 have hn1 : x.num ≤ x.den := by
  have := Rat.le_iff (a := x) (b := 1) |>.1 h1
  simpa using this
 unfold nearZ
 have e1 : ((65535 * 2 : Nat) : Int) = 131070 := rfl
 have e2 : ((x.den * 2 : Nat) : Int) = 2 * (x.den : Int) := by push_cast; omega
 rw [e1, e2]
 refine ⟨Int.ediv_nonneg (by omega) (by omega), ?_⟩
 have : (x.num * 131070 + x.den) / (2 * (x.den : Int)) < 65536 := Int.ediv_lt_of_lt_mul (by omega) (by omega)
 omega
theorem near_q {n : Nat} {x : Rat} (h : Fq n x) (h0 : 0 < n ∧ n ≤ 600) (hb : 0 ≤ x ∧ x ≤ 1) : Called Tryz.prog 68 [frT x, .int .i64 65535] (.tup [.int .i64 (nearZ x 65535), .int .i64 0]) := by
 have o := jaL (h.ok h0.1 h0.2)
 have b := nearU_bd hb.1 hb.2
 have c := near_f (decZ x.num) (dec x.den) 65535 o.1 (by omega) (by omega) (by rw [o.2]; omega)
 rw [o.2] at c
 exact c
def xR (ts : List Nat) (m i : Nat) : Rat := Rat.divInt ((pad4 (ixl ts m)).getD i 0) ((nz ts).getD i 0 - 1)
def rfW (zs : List Int) (out : Int) (data : List Int) (ts : List Nat) (m j : Nat) : Int := nearZ (evQ zs out data (xR ts m 0) (xR ts m 1) (xR ts m 2) j) 65535
def rfD (zs : List Int) (out : Int) (data : List Int) (ts : List Nat) : List Int := flat ts (fun m => (List.range out.toNat).map (rfW zs out data ts m)) (PR ts)
theorem jej (l : List Int) (i : Nat) : (pad4 l).getD i 0 = l.getD i 0 := by
 unfold pad4
 rw [List.getD_eq_getElem?_getD, List.getD_eq_getElem?_getD]
 rcases jh0 i l.length with h | h
 ·rw [List.getElem?_append_left h]
 ·rw [List.getElem?_append_right h, List.getElem?_eq_none h]
  cases e : (List.replicate (4 - l.length) (0 : Int))[i - l.length]? with
  | none => rfl
  | some v => have := List.mem_of_getElem? e; rw [List.mem_replicate] at this; rw [this.2]; rfl
theorem xR_off {ts : List Nat} {m i : Nat} (h : ts.length ≤ i) : xR ts m i = 0 := by
 unfold xR
 rw [jej, List.getD_eq_getElem?_getD, List.getElem?_eq_none (by rw [jaw]; exact h)]
 simp
theorem xR_at {ts : List Nat} {m i n : Nat} (h2 : ∀ n ∈ ts, 2 ≤ n ∧ n ≤ 9) (h : ts[i]? = some n) : ∃ a : Int, (pad4 (ixl ts m)).getD i 0 = a ∧ (ixl ts m).getD i 0 = a ∧ (0 ≤ a ∧ a ≤ (n : Int) - 1) ∧ (nz ts).getD i 0 = n ∧ xR ts m i = Rat.divInt a ((n : Int) - 1) := by
 have e := jes ts m i n h
 have b := jet (m := m) (fun n hn => by have := h2 n hn; omega) h e
 have en : (nz ts).getD i 0 = n := by simp [nz, List.getD_eq_getElem?_getD, h]
 have e1 : (ixl ts m).getD i 0 = ((m / PR (ts.drop (i + 1)) % n : Nat) : Int) := by rw [List.getD_eq_getElem?_getD, e]; rfl
 exact ⟨_, by rw [jej, e1], e1, b, en, by unfold xR; rw [jej, e1, en]⟩
theorem xR_fq {ts : List Nat} (h2 : ∀ n ∈ ts, 2 ≤ n ∧ n ≤ 9) (m i : Nat) : Fq 40 (xR ts m i) := by
 rcases jh0 i ts.length with h | h
 ·have hn := List.getElem?_eq_getElem h
  have hb := h2 _ (List.getElem_mem h)
  obtain ⟨a, _, _, ha, _, e⟩ := xR_at (m := m) h2 hn
  rw [e]
  generalize ts[i] = n at *
  obtain ⟨d, hd⟩ : ∃ d : Nat, (n : Int) - 1 = (d : Int) := ⟨n - 1, by omega⟩
  rw [hd]
  refine jaJ (by omega) ?_ ?_
  ·exact Nat.lt_of_le_of_lt (show a.natAbs ≤ 9 by omega) (by decide)
  ·exact Nat.lt_of_le_of_lt (show d ≤ 9 by omega) (by decide)
 ·rw [xR_off h]; exact ⟨by decide, by decide⟩
theorem ev_unit2 {z0 z1 out : Int} {data : List Int} (hg : jao [z0, z1] out data = true) (x0 x1 : Rat) {j : Nat} (hj : j < out.toNat) : 0 ≤ evQ [z0, z1] out data x0 x1 0 j ∧ evQ [z0, z1] out data x0 x1 0 j ≤ 1 := by
 obtain ⟨b1, b2⟩ := ev_in2 (x0 := x0) (x1 := x1) hg hj
 obtain ⟨r1, r2, _⟩ := jgf hg hj
 rw [divF] at b1
 generalize (loL out data).getD j 0 = a at *
 generalize (hiL out data).getD j 0 = b at *
 have a0 : (0 : Rat) ≤ (a : Rat) := Rat.intCast_le_intCast.2 r1.1
 have b0 : (b : Rat) ≤ 65535 := by
  have := Rat.intCast_le_intCast.2 r2.2
  rwa [show ((65535 : Int) : Rat) = 65535 from by decide +kernel] at this
 rw [divF] at b2
 constructor <;> grind
theorem rfW2 {z0 z1 out : Int} {data : List Int} {ts : List Nat} (ht : ts.length = 2) (m j : Nat) : rfW [z0, z1] out data ts m j = nearZ (evQ [z0, z1] out data (xR ts m 0) (xR ts m 1) 0 j) 65535 := by
 unfold rfW
 rw [xR_off (i := 2) (by omega)]
theorem refq2 {z0 z1 out : Int} {data : List Int} (hg : jao [z0, z1] out data = true) (ts : List Nat) (ht : ts.length = 2) (h2 : ∀ n ∈ ts, 2 ≤ n ∧ n ≤ 9) (hc : cnP out ts 2 ≤ 4096) : Called Tryz.prog 33 [gridD [z0, z1] out data, .ints .i64 (nz ts)] (.tup [gridD (nz ts) out (rfD [z0, z1] out data ts), .int .i64 0]) := by
 have ho := (jaY hg).1
 have hl := (jaY hg).2.2.1.1
 have fx := fun m i => xR_fq h2 m i
 have ck := Called.cast (jeR [z0, z1] out data (by simp) (by omega)) (by rw [hg]; first | done | rfl)
 refine refine2_t [z0, z1] data out ts (fun m i => txq (xR ts m i)) (fun m j => txq (evQ [z0, z1] out data (xR ts m 0) (xR ts m 1) 0 j)) (rfW [z0, z1] out data ts) rfl ht h2 ho hc ck (fun m i hm hi => ?_) (fun m hm => evalq2 hg (fx m 0) (fx m 1)) (fun m j hm hj => ?_)
 ·obtain ⟨n, hn⟩ : ∃ n, ts[i]? = some n := ⟨ts[i], List.getElem?_eq_getElem (by omega)⟩
  obtain ⟨a, e1, e2, ha, e3, e4⟩ := xR_at (m := m) h2 hn
  have hb := h2 n (List.mem_of_getElem? hn)
  have c := jfb (n := a) (m := (n : Int) - 1) (by omega) (by omega)
  rw [e1, e3]
  rw [← e4] at c
  exact c
 ·rw [rfW2 ht]
  exact near_q (fq_ev2 hg (fx m 0) (fx m 1) j) (by decide) (ev_unit2 hg (xR ts m 0) (xR ts m 1) hj)
theorem bandq2_1 {z0 z1 out : Int} (ho : out = 1) {data : List Int} (hg : jao [z0, z1] out data = true) (X : Nat → Int × Int) (hX : ∀ i, i < 2 → vb (X i).1 (X i).2 = true) :
  Called Tryz.prog 29 [gridD [z0, z1] out data, slB X 2] (.tup [slB (fun j => confB (evQ [z0, z1] out data (midB (X 0)) (midB (X 1)) 0 j) (sprQ [z0, z1] data out 2 X j) (Rat.divInt ((loL out data).getD j 0) 65535) (Rat.divInt ((hiL out data).getD j 0) 65535)) out.toNat, .int .i64 0]) := by
 have og := jaY hg
 have so := jgV (out := out) og.2.2.2 og.2.1 2 (jhU _)
 have rl := rng_ok hg
 have li := blist2a (F := 56) (fun i => (clI (X i).1, clI (X i).2)) (bands1_20 X (clI (X 0).1, clI (X 0).2) (clamp_q (hX 0 (by decide)))) (bands1_21 X (clI (X 1).1, clI (X 1).2) (clamp_q (hX 1 (by decide))))
 have fm0 := (fq_mid (X 0)).mono (show 14 ≤ 40 by decide)
 have fm1 := (fq_mid (X 1)).mono (show 14 ≤ 40 by decide)
 have om : ∀ i, i < 2 → Called Tryz.prog 58 [.int .i64 (clI (X i).1 + clI (X i).2), .int .i64 2000000000000] (frT (midB (X i))) := fun i _ => jfb (by have := jbR (X i).1; have := jbR (X i).2; omega) (by decide)
 have oh : ∀ i, i < 2 → Called Tryz.prog 58 [.int .i64 (clI (X i).2 - clI (X i).1), .int .i64 2000000000000] (frT (halB (X i))) := fun i _ => jfb (by have := jbR (X i).1; have := jbR (X i).2; omega) (by decide)
 have ev := evalq2 hg fm0 fm1
 have b2 : ∀ j, j < out.toNat → Called Tryz.prog 61 [frT (evQ [z0, z1] out data (midB (X 0)) (midB (X 1)) 0 j), frT (sprQ [z0, z1] data out 2 X j), frT (Rat.divInt ((loL out data).getD j 0) 65535), frT (Rat.divInt ((hiL out data).getD j 0) 65535)] (.tup [.agg [.int .i64 ((fun j => confB (evQ [z0, z1] out data (midB (X 0)) (midB (X 1)) 0 j) (sprQ [z0, z1] data out 2 X j) (Rat.divInt ((loL out data).getD j 0) 65535) (Rat.divInt ((hiL out data).getD j 0) 65535)) j).1, .int .i64 ((fun j => confB (evQ [z0, z1] out data (midB (X 0)) (midB (X 1)) 0 j) (sprQ [z0, z1] data out 2 X j) (Rat.divInt ((loL out data).getD j 0) 65535) (Rat.divInt ((hiL out data).getD j 0) 65535)) j).2], .int .i64 0]) := fun j hj => by
  have rb := jgf hg hj
  have ei := ev_in2 (x0 := midB (X 0)) (x1 := midB (X 1)) hg hj
  have sp := spr_q2 (so j) (H := fun i => halB (X i)) (fun i _ => fq_hal (X i))
  have sb := smF_bd (P := fun i => (((outS [z0, z1] data out [z0, z1].length j).getD i 0 : Int) : Rat) * halB (X i)) (n := 1) (fun i hi => spr_term (so j) (hX i (by omega))) 1 (jhU _)
  have n3 : (((1 + 1 : Nat) : Int) : Rat) ≤ 3 := by decide +kernel
  refine conf_q (fq_ev2 hg fm0 fm1 j) sp.2 (fq_full rb.1) (fq_full rb.2.1) ?_ ⟨?_, ei.1⟩ ⟨ei.2, ?_⟩
  ·show 0 ≤ smF _ _ / 65535 ∧ smF _ _ / 65535 ≤ 50000
   constructor <;> grind
  ·rw [divF]
   have : (0 : Rat) ≤ (((loL out data).getD j 0 : Int) : Rat) := by exact_mod_cast rb.1.1
   grind
  ·rw [divF]
   have : (((hiL out data).getD j 0 : Int) : Rat) ≤ ((65535 : Int) : Rat) := Rat.intCast_le_intCast.2 rb.2.1.2
   rw [show ((65535 : Int) : Rat) = 65535 from rfl] at this
   grind
 have o1 : ∀ j, j < out.toNat → Called Tryz.prog 58 [.int .i64 ((loL out data).getD j 0), .int .i64 65535] (frT (Rat.divInt ((loL out data).getD j 0) 65535)) := fun j hj => jfb (by have := jgf hg hj; omega) (by decide)
 have o2 : ∀ j, j < out.toNat → Called Tryz.prog 58 [.int .i64 ((hiL out data).getD j 0), .int .i64 65535] (frT (Rat.divInt ((hiL out data).getD j 0) 65535)) := fun j hj => jfb (by have := jgf hg hj; omega) (by decide)
 have sp : ∀ j, Called Tryz.prog 60 [.ints .i64 (outS [z0, z1] data out [z0, z1].length j), slQ (fun i => txq (halB (X i))) 2] (.tup [frT (sprQ [z0, z1] data out 2 X j), .int .i64 0]) := fun j => (spr_q2 (so j) (H := fun i => halB (X i)) (fun i _ => fq_hal (X i))).1
 subst ho
 exact bands2_t [z0, z1] data _ _ 1 X (fun i => (clI (X i).1, clI (X i).2)) (fun i => txq (midB (X i))) (fun i => txq (halB (X i))) _ _ _ _ _ _ rfl (fun i _ => ⟨jbR _, jbR _⟩) (range_q hg (by simp)) li om oh ev (steep1_t [z0, z1] data (outS [z0, z1] data 1 [z0, z1].length) hg (by simp) rfl) (blist1c (F := 59) (fun j => confB (evQ [z0, z1] 1 data (midB (X 0)) (midB (X 1)) 0 j) (sprQ [z0, z1] data 1 2 X j) (Rat.divInt ((loL 1 data).getD j 0) 65535) (Rat.divInt ((hiL 1 data).getD j 0) 65535)) (bands2_210 (outS [z0, z1] data 1 [z0, z1].length) (fun i => txq (halB (X i))) (fun j => txq (evQ [z0, z1] 1 data (midB (X 0)) (midB (X 1)) 0 j)) _ _ _ _ _ _ _ _ ((fun j => confB (evQ [z0, z1] 1 data (midB (X 0)) (midB (X 1)) 0 j) (sprQ [z0, z1] data 1 2 X j) (Rat.divInt ((loL 1 data).getD j 0) 65535) (Rat.divInt ((hiL 1 data).getD j 0) 65535)) 0) rl.2.2.1 rl.2.2.2 (sp 0) (o1 0 (by decide)) (o2 0 (by decide)) (b2 0 (by decide))))
def wkQ : Nat → Rat
 | 0 => Rat.divInt 1 2
 | 1 => Rat.divInt 1 4
 | 2 => Rat.divInt 7 20
 | 3 => Rat.divInt 3 10
 | 4 => Rat.divInt 1 1
 | _ => Rat.divInt 2 1
theorem jdC : ∀ k, Fq 40 (wkQ k)
 | 0 => ⟨by decide +kernel, by decide +kernel⟩
 | 1 => ⟨by decide +kernel, by decide +kernel⟩
 | 2 => ⟨by decide +kernel, by decide +kernel⟩
 | 3 => ⟨by decide +kernel, by decide +kernel⟩
 | 4 => ⟨by decide +kernel, by decide +kernel⟩
 | _ + 5 => by
  show Fq 40 (Rat.divInt 2 1)
  exact ⟨by decide +kernel, by decide +kernel⟩
theorem jdz : jao [2, 2] 1 [0, 13107, 26214, 65535] = true := by decide +kernel
theorem wk_ev {x0 x1 y : Rat} (h0 : Fq 40 x0) (h1 : Fq 40 x1) (e : evQ [2, 2] 1 [0, 13107, 26214, 65535] x0 x1 0 0 = y) : Called Tryz.prog 26 [gridD [2, 2] 1 [0, 13107, 26214, 65535], frT y, slQ (fun i => txq (rqN x0 x1 0 i)) 2] (.bool true) := by
 have v : Called Tryz.prog 26 [gridD [2, 2] 1 [0, 13107, 26214, 65535], frT (evQ [2, 2] 1 [0, 13107, 26214, 65535] x0 x1 0 0), slQ (fun i => txq (rqN x0 x1 0 i)) 2] (.bool true) := value_t _ _ _ 2 _ (fun j => txq (evQ [2, 2] 1 [0, 13107, 26214, 65535] x0 x1 0 j)) (evalq2 jdz h0 h1)
 rw [e] at v
 exact v
theorem wk_cell : Called Tryz.prog 17 [gridD [2, 2] 1 [0, 13107, 26214, 65535], slQ (fun i => txq (wkQ i)) 2] (.tup [.ints .i64 [0, 0], .ints .i64 [0, 1], .slf 2 3 (fun j => List.take 2 (List.drop (j * 2) [.str (txq (wkQ 0)).1, .str (txq (wkQ 0)).2, .str (txq (wkQ 1)).1, .str (txq (wkQ 1)).2, .str (txq (wkQ 1)).1, .str (txq (wkQ 1)).2])), .int .i64 0]) := by
 have c := cellq2 jdz (jdC 0) (jdC 1)
 have e0 : spB 2 (wkQ 0) = 0 := by decide +kernel
 have e1 : spB 2 (wkQ 1) = 0 := by decide +kernel
 have e2 : ord2 (spR 2 (wkQ 0)) (spR 2 (wkQ 1)) = [0, 1] := by decide +kernel
 rw [e0, e1, e2] at c
 have w0 : wqN (rqN (spR 2 (wkQ 0)) (spR 2 (wkQ 1)) 0) [0, 1] 2 0 = wkQ 0 := by decide +kernel
 have w1 : wqN (rqN (spR 2 (wkQ 0)) (spR 2 (wkQ 1)) 0) [0, 1] 2 1 = wkQ 1 := by decide +kernel
 have w2 : wqN (rqN (spR 2 (wkQ 0)) (spR 2 (wkQ 1)) 0) [0, 1] 2 2 = wkQ 1 := by decide +kernel
 have hw : wce (fun k => txq (wqN (rqN (spR 2 (wkQ 0)) (spR 2 (wkQ 1)) 0) [0, 1] 2 k)) 3 = [.str (txq (wkQ 0)).1, .str (txq (wkQ 0)).2, .str (txq (wkQ 1)).1, .str (txq (wkQ 1)).2, .str (txq (wkQ 1)).1, .str (txq (wkQ 1)).2] := by
  simp only [wce, w0, w1, w2]
  rfl
 unfold slQ at c
 rw [hw] at c
 exact c
theorem wk_steep : Called Tryz.prog 32 [gridD [2, 2] 1 [0, 13107, 26214, 65535]] (.tup [.slf 1 1 (fun j => List.take 1 (List.drop (j * 1) [.ints .i64 [52428, 39321]])), .int .i64 0]) := by
 have c := steep1_t [2, 2] [0, 13107, 26214, 65535] _ jdz (by decide) rfl
 have e : outS [2, 2] [0, 13107, 26214, 65535] 1 ([2, 2] : List Int).length 0 = [52428, 39321] := by decide +kernel
 rw [e] at c
 exact c
def wkB (a b c d : Int) (k : Nat) : Int × Int := if k = 0 then (a, b) else (c, d)
theorem slB1 {B : Nat → Int × Int} {y z : Int} (h : B 0 = (y, z)) : slB B 1 = .slf 2 1 (fun j => List.take 2 (List.drop (j * 2) [.int .i64 y, .int .i64 z])) := by
 show D.slf 2 1 (fun j => List.take 2 (List.drop (j * 2) [.int .i64 (B 0).1, .int .i64 (B 0).2])) = _
 rw [h]
theorem wk_bands {a b c d y z : Int} (h : vb a b = true ∧ vb c d = true) (e : confB (evQ [2, 2] 1 [0, 13107, 26214, 65535] (midB (a, b)) (midB (c, d)) 0 0) (sprQ [2, 2] [0, 13107, 26214, 65535] 1 2 (wkB a b c d) 0) (Rat.divInt ((loL 1 [0, 13107, 26214, 65535]).getD 0 0) 65535) (Rat.divInt ((hiL 1 [0, 13107, 26214, 65535]).getD 0 0) 65535) = (y, z)) :
  Called Tryz.prog 29 [gridD [2, 2] 1 [0, 13107, 26214, 65535], .slf 2 2 (fun j => List.take 2 (List.drop (j * 2) [.int .i64 a, .int .i64 b, .int .i64 c, .int .i64 d]))] (.tup [.slf 2 1 (fun j => List.take 2 (List.drop (j * 2) [.int .i64 y, .int .i64 z])), .int .i64 0]) := by
 have q := bandq2_1 rfl jdz (wkB a b c d) (fun i hi => by
  have : i = 0 ∨ i = 1 := by omega
  rcases this with rfl | rfl
  ·exact h.1
  ·exact h.2)
 refine Called.cast q ?_
 rw [show (1 : Int).toNat = 1 from rfl, slB1 (y := y) (z := z)]
 exact e
theorem wk_refine : Called Tryz.prog 33 [gridD [2, 2] 1 [0, 13107, 26214, 65535], .ints .i64 [3, 2]] (.tup [.agg [.ints .i64 [3, 2], .int .i64 1, .ints .i64 [0, 13107, 13107, 39321, 26214, 65535]], .int .i64 0]) := by
 have c := refq2 jdz [3, 2] rfl (by decide) (by decide)
 have e : rfD [2, 2] 1 [0, 13107, 26214, 65535] [3, 2] = [0, 13107, 13107, 39321, 26214, 65535] := by decide +kernel
 rw [e] at c
 exact c
theorem wk_len (X : Nat → List D) : Called Tryz.prog 15 [gridD [2, 2] 1 [0, 13107, 26214, 65535], .slf 2 1 X] (.tup [.nil, .int .i64 2]) := by
 have ck := Called.cast (jeR [2, 2] 1 [0, 13107, 26214, 65535] (by decide) (by decide)) (by rw [jdz]; first | done | rfl)
 exact eval_e _ _ _ 2 (by decide) 1 X (loc_len _ _ _ 1 X (by decide) ck)
theorem wakes_c : Called Tryz.prog 10 [] (.bool true) := by
 refine wakes_t (fun k => txq (wkQ k)) (lof_c (by omega) (by omega)) (lof_c (by omega) (by omega)) (lof_c (by omega) (by omega)) (lof_c (by omega) (by omega)) (lof_c (by omega) (by omega)) (lof_c (by omega) (by omega)) lfour_c wk_cell wk_steep
  (wk_bands (by decide +kernel) (by decide +kernel)) (wk_bands (by decide +kernel) (by decide +kernel)) wk_refine (wk_len _) (wk_ev (y := wkQ 2) (jdC 0) (jdC 1) (by decide +kernel)) (wk_ev (y := wkQ 3) (jdC 1) (jdC 0) (by decide +kernel)) (wk_ev (y := wkQ 4) (jdC 5) (jdC 4) (by decide +kernel))
def lnP (sl : Nat → Int) (ns : List Nat) (i : Nat) : Rat := Rat.divInt (7 * sl i * ((nz ns).getD i 0 - 1)) 65535
def lnW (c : Int) (sl : Nat → Int) (ns : List Nat) (x : Nat → Rat) : Nat → Rat
 | 0 => Rat.divInt c 65535
 | k + 1 => lnW c sl ns x k + lnP sl ns k * x k
theorem lnP_fq {sl : Nat → Int} {s0 s1 s2 : Nat} (g0 : 2 ≤ s0 ∧ s0 ≤ 4) (g1 : 2 ≤ s1 ∧ s1 ≤ 4) (g2 : 2 ≤ s2 ∧ s2 ≤ 4) {i : Nat} (hi : i < 3) (hl : 0 ≤ sl i ∧ sl i ≤ 255) : Fq 5 (lnP sl [s0, s1, s2] i) ∧ 0 ≤ 7 * sl i * ((nz [s0, s1, s2]).getD i 0 - 1) ∧ 7 * sl i * ((nz [s0, s1, s2]).getD i 0 - 1) ≤ 5355 := by
 have hb : 1 ≤ (nz [s0, s1, s2]).getD i 0 - 1 ∧ (nz [s0, s1, s2]).getD i 0 - 1 ≤ 3 := by
  have : i = 0 ∨ i = 1 ∨ i = 2 := by omega
  rcases this with rfl | rfl | rfl <;> simp [nz] <;> omega
 have hm := jeq (a := 7 * sl i) (x := (nz [s0, s1, s2]).getD i 0 - 1) (s := 4) (by omega) (by omega) (by omega)
 refine ⟨?_, hm⟩
 unfold lnP
 exact jaJ (n := 5) (d := 65535) (by decide) (by omega) (by decide)
theorem lnW_fq {c : Int} (hc : 0 ≤ c ∧ c ≤ 999) {sl : Nat → Int} {s0 s1 s2 : Nat} (g0 : 2 ≤ s0 ∧ s0 ≤ 4) (g1 : 2 ≤ s1 ∧ s1 ≤ 4) (g2 : 2 ≤ s2 ∧ s2 ≤ 4) (hl : ∀ i, i < 3 → 0 ≤ sl i ∧ sl i ≤ 255) {x : Nat → Rat} (hx : ∀ i, Fq 40 (x i)) : ∀ k, k ≤ 3 → Fq (5 + 46 * k) (lnW c sl [s0, s1, s2] x k)
 | 0, _ => by
  simp only [lnW]
  exact jaJ (n := 5) (d := 65535) (by decide) (by omega) (by decide)
 | k + 1, h => ((lnW_fq hc g0 g1 g2 hl hx k (by omega)).add ((lnP_fq g0 g1 g2 (i := k) (by omega) (hl k (by omega))).1.mul (hx k))).mono (by omega)
theorem ln_fin {c : Int} {sl : Nat → Int} {s0 s1 s2 : Nat} (h0 : 2 ≤ s0) (h1 : 2 ≤ s1) (h2 : 2 ≤ s2) {x : Nat → Rat} (hx : ∀ i, 0 ≤ x i ∧ x i ≤ 1) : lnW c sl [s0, s1, s2] x 3 = evQ (nz [s0, s1, s2]) 1 (lnD c (7 * sl 0) (7 * sl 1) (7 * sl 2) [s0, s1, s2]) (x 0) (x 1) (x 2) 0 := by
 rw [evq_lin ⟨h0, h1, h2⟩]
 simp only [lnW, lnP, divF, gp, clQ_id (hx 0).1 (hx 0).2, clQ_id (hx 1).1 (hx 1).2, clQ_id (hx 2).1 (hx 2).2]
 rw [show (nz [s0, s1, s2]).getD 0 0 = (s0 : Int) from rfl, show (nz [s0, s1, s2]).getD 1 0 = (s1 : Int) from rfl, show (nz [s0, s1, s2]).getD 2 0 = (s2 : Int) from rfl]
 push_cast
 grind
theorem linear_c {xs ys : List Int} (hxl : xs.length = 3) (hyl : ys.length = 3) (hx : ∀ v ∈ xs, 0 ≤ v ∧ v ≤ 255) (hy : ∀ v ∈ ys, 0 ≤ v ∧ v ≤ 255) {f : Int} (hf : 0 ≤ f ∧ f ≤ 65535) {at' z1 z2 : Nat → Int} (b1 b2 : Nat → Bool) (p1 p2 : Nat → List Int) (ha : ∀ i, -32768 ≤ at' i ∧ at' i ≤ 32767) (h1 : ∀ i, 0 ≤ z1 i ∧ z1 i ≤ 65535) (h2 : ∀ i, 0 ≤ z2 i ∧ z2 i ≤ 65535) :
  Called Tryz.prog 6 [.iarr .u8 xs, .iarr .u8 ys, .int .u16 f, .agg [.int .i16 (at' 0), .int .i16 (at' 1), .int .i16 (at' 2), .int .i16 (at' 3), .bool (b1 0), .ints .u16 (p1 0), .int .u16 (z1 0), .bool (b2 0), .ints .u16 (p2 0), .int .u16 (z2 0), .bool (b1 1), .ints .u16 (p1 1), .int .u16 (z1 1), .bool (b2 1), .ints .u16 (p2 1), .int .u16 (z2 1), .bool (b1 2), .ints .u16 (p1 2), .int .u16 (z1 2), .bool (b2 2), .ints .u16 (p2 2), .int .u16 (z2 2), .bool (b1 3), .ints .u16 (p1 3), .int .u16 (z1 3), .bool (b2 3), .ints .u16 (p2 3), .int .u16 (z2 3)]] (.bool true) := by
 obtain ⟨X, hX⟩ := colorq3 b1 b2 p1 p2 ha h1 h2
 obtain ⟨a0, a1, a2, rfl⟩ : ∃ a0 a1 a2 : Int, xs = [a0, a1, a2] := by
  match xs, hxl with
  | [a0, a1, a2], _ => exact ⟨a0, a1, a2, rfl⟩
 obtain ⟨l0, l1, l2, rfl⟩ : ∃ a0 a1 a2 : Int, ys = [a0, a1, a2] := by
  match ys, hyl with
  | [a0, a1, a2], _ => exact ⟨a0, a1, a2, rfl⟩
 have ba0 := hx a0 (by simp)
 have ba1 := hx a1 (by simp)
 have ba2 := hx a2 (by simp)
 have bl0 := hy l0 (by simp)
 have bl1 := hy l1 (by simp)
 have bl2 := hy l2 (by simp)
 obtain ⟨s0, e0⟩ : ∃ s : Nat, 2 + a0 % 3 = (s : Int) := ⟨(2 + a0 % 3).toNat, by omega⟩
 obtain ⟨s1, e1⟩ : ∃ s : Nat, 2 + a1 % 3 = (s : Int) := ⟨(2 + a1 % 3).toNat, by omega⟩
 obtain ⟨s2, e2⟩ : ∃ s : Nat, 2 + a2 % 3 = (s : Int) := ⟨(2 + a2 % 3).toNat, by omega⟩
 have g0 : 2 ≤ s0 ∧ s0 ≤ 4 := by omega
 have g1 : 2 ≤ s1 ∧ s1 ≤ 4 := by omega
 have g2 : 2 ≤ s2 ∧ s2 ≤ 4 := by omega
 obtain ⟨sl, hsl⟩ : ∃ sl : Nat → Int, sl = fun i => [l0, l1, l2].getD i 0 := ⟨_, rfl⟩
 obtain ⟨a, hav⟩ : ∃ a : Nat → Int, a = fun i => [a0, a1, a2].getD i 0 := ⟨_, rfl⟩
 have hL : ∀ i, i < 3 → 0 ≤ sl i ∧ sl i ≤ 255 := by
  intro i hi
  have : i = 0 ∨ i = 1 ∨ i = 2 := by omega
  rcases this with rfl | rfl | rfl <;> rw [hsl] <;> assumption
 have hA : ∀ i, i < 3 → 0 ≤ a i ∧ a i ≤ 255 := by
  intro i hi
  have : i = 0 ∨ i = 1 ∨ i = 2 := by omega
  rcases this with rfl | rfl | rfl <;> rw [hav] <;> assumption
 have hc : 0 ≤ f % 1000 ∧ f % 1000 ≤ 999 := by omega
 have q0 := hL 0 (by omega)
 have q1 := hL 1 (by omega)
 have q2 := hL 2 (by omega)
 have hg := ln_ok g0 g1 g2 hc (a0 := 7 * sl 0) (a1 := 7 * sl 1) (a2 := 7 * sl 2) (by omega) (by omega) (by omega)
 have fx := cxq_fq at'
 have ev : Called Tryz.prog 26 [gridD (nz [s0, s1, s2]) 1 (lnD (f % 1000) (7 * sl 0) (7 * sl 1) (7 * sl 2) [s0, s1, s2]), frT (evQ (nz [s0, s1, s2]) 1 (lnD (f % 1000) (7 * sl 0) (7 * sl 1) (7 * sl 2) [s0, s1, s2]) (cxq at' 0) (cxq at' 1) (cxq at' 2) 0), slQ (fun i => txq (cxq at' i)) 3] (.bool true) :=
  value_t _ _ _ 3 _ (fun j => txq (evQ (nz [s0, s1, s2]) 1 (lnD (f % 1000) (7 * sl 0) (7 * sl 1) (7 * sl 2) [s0, s1, s2]) (cxq at' 0) (cxq at' 1) (cxq at' 2) j)) (evalq3 hg (fx 0) (fx 1) (fx 2))
 rw [← ln_fin g0.1 g1.1 g2.1 (cxq_bd at')] at ev
 have r := linear_t a sl at' z1 z2 b1 b2 p1 p2 f s0 s1 s2 _ _ (fun i => txq (cxq at' i)) (fun i => txq (lnP sl [s0, s1, s2] i)) (fun i => txq (lnP sl [s0, s1, s2] i * cxq at' i)) (fun k => txq (lnW (f % 1000) sl [s0, s1, s2] (cxq at') k))
  hA hL hf (by rw [hav]; exact e0) (by rw [hav]; exact e1) (by rw [hav]; exact e2) wakes_c hX (lof_c (n := f % 1000) (m := 65535) (by omega) (by omega))
  (fun i hi => by
   have hb := (lnP_fq g0 g1 g2 hi (hL i hi)).2
   exact lof_c (n := 7 * sl i * ((nz [s0, s1, s2]).getD i 0 - 1)) (m := 65535) (by omega) (by omega))
  (fun i hi => ltimes_c (lnP_fq g0 g1 g2 hi (hL i hi)).1 (fx i) (by decide) (by decide) (by decide))
  (fun i hi => lplus_c (lnW_fq hc g0 g1 g2 hL fx i (by omega)) ((lnP_fq g0 g1 g2 hi (hL i hi)).1.mul (fx i)) (by omega) (by omega) (by omega)) ev
 rw [hav, hsl] at r
 exact r
end Go.Proofs.YtgjgpdceghjajaaGreatDoor
end
