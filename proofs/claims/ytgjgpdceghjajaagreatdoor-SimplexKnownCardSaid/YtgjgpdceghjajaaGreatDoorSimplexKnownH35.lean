/- What some functions of the program answer at values that mean given lists, texts and numbers, each proved of the program's own code: part 35. Conditions: those that each theorem names. -/
import Derived.Test.YtgjgpdceghjajaaGreatDoorSimplexKnownH34
import Derived.Test.YtgjgpdceghjajaaGreatDoorSimplexKnownH13
import Derived.Test.YtgjgpdceghjajaaGreatDoorSimplexKnownH25
import Derived.Test.YtgjgpdceghjajaaGreatDoorSimplexKnownH32
import Derived.Test.YtgjgpdceghjajaaGreatDoorSimplexKnownH14
set_option linter.unusedSimpArgs false
set_option linter.unusedVariables false
set_option maxHeartbeats 8000000
set_option maxRecDepth 100000
section
namespace Go.Proofs.YtgjgpdceghjajaaGreatDoor
open Go Go.V Go.Nb
theorem jhk : type_of% @jhC ∧ type_of% @tn0 ∧ type_of% @tn1 ∧ type_of% @tn2 ∧ type_of% @tn3 ∧ type_of% @xt4 := ⟨@jhC, @tn0, @tn1, @tn2, @tn3, @xt4⟩
theorem list2_i {F e1 n1 : Nat} {f1 : Nat → List D} {g0 : List Int} (T : Nat → Tx) (c0 : Called Tryz.prog F (.int .i64 0 :: [.ref [.ints .i64 g0], .ref [.slf e1 n1 f1]]) (.tup [.agg [.str (T 0).1, .str (T 0).2], .int .i64 0])) (c1 : Called Tryz.prog F (.int .i64 1 :: [.ref [.ints .i64 g0], .ref [.slf e1 n1 f1]]) (.tup [.agg [.str (T 1).1, .str (T 1).2], .int .i64 0])) :
  Called Tryz.prog 82 [.int .i64 2, .fn F [] [.ref [.ints .i64 g0], .ref [.slf e1 n1 f1]]] (.tup [.slf 2 2 (fun j => List.take 2 (List.drop (j * 2) [.str (T 0).1, .str (T 0).2, .str (T 1).1, .str (T 1).2])), .int .i64 0]) := by
 refine jaa tbOk 6 ⟨Tryz.func82, rfl, rfl, jhy rfl⟩ ?_
 (conv => whnf)
 refine V.r0 @jhC ?_
 refine jah (0) (fun k => k ≤ 2) (fun k => 2 - k) (fun k => [(14, .int .i64 k)]) (fun k => [(11, .box (preD (2 * k) [.str (T 0).1, .str (T 0).2, .str (T 1).1, .str (T 1).2]))]) ?_ ?_ ?_
 ·exact V.wk
 ·exact jhz _
 intro k hk
 have hk4 : k = 0 ∨ k = 1 ∨ k = 2 := by omega
 rcases hk4 with e | e | e
 all_goals subst e
 ·simp only [k0]
  refine V.r1 jhk c0 ?_
  exact ⟨1, by omega, by omega, V.wk⟩
 ·simp only [k1]
  refine V.r1 jhk c1 ?_
  exact ⟨2, by omega, by omega, V.wk⟩
 ·simp only [k2]
  refine V.r0 @jhC ?_
  exact Fin.of rfl
theorem spr1_20 (st : List Int) (H : Nat → Tx) (g0 g1 m0 m1 : List UInt8) (hl : st.length = 2) (ig : Called Tryz.prog 86 [.int .i64 (st.getD 0 0)] (.agg [.str g0, .str g1])) (mu : Called Tryz.prog 85 [.agg [.str g0, .str g1], .agg [.str (H 0).1, .str (H 0).2]] (.tup [.agg [.str m0, .str m1], .int .i64 0])) :
  Called Tryz.prog 98 [.int .i64 0, .ref [.ints .i64 st], .ref [.slf 2 2 (fun j => List.take 2 (List.drop (j * 2) [.str (H 0).1, .str (H 0).2, .str (H 1).1, .str (H 1).2]))]] (.tup [.agg [.str m0, .str m1], .int .i64 0]) := by
 refine jaa tbOk 6 ⟨Tryz.func98, rfl, rfl, jhy rfl⟩ ?_
 (conv => whnf)
 refine V.r0 jhk ?_
 refine ⟨(.take 0 (.take 1 (.take 2 (.take 3 (.take 5 (.take 6 (.take 7 (.take 8 (.ev (.cons 4 [8, 7, 6, 5] (.ev (.cons 9 [] (.take 10 (.take 11 (.ev (.cons 12 [] (.take 13 (.done)) (.nil))))) (.nil))) (.nil))))))))))), [], ⟨by kernel_rfl, by kernel_rfl, by kernel_rfl, by kernel_rfl⟩, ?_⟩
 refine jac [(5, .int .i64 0)] [(4, .box [.str m0, .str m1])] ?_ ?_
 ·exact V.d2 jhk ig mu
 refine V.r0 @jhC ?_
 exact Fin.of rfl
theorem spr1_21 (st : List Int) (H : Nat → Tx) (g0 g1 m0 m1 : List UInt8) (hl : st.length = 2) (ig : Called Tryz.prog 86 [.int .i64 (st.getD 1 0)] (.agg [.str g0, .str g1])) (mu : Called Tryz.prog 85 [.agg [.str g0, .str g1], .agg [.str (H 1).1, .str (H 1).2]] (.tup [.agg [.str m0, .str m1], .int .i64 0])) :
  Called Tryz.prog 98 [.int .i64 1, .ref [.ints .i64 st], .ref [.slf 2 2 (fun j => List.take 2 (List.drop (j * 2) [.str (H 0).1, .str (H 0).2, .str (H 1).1, .str (H 1).2]))]] (.tup [.agg [.str m0, .str m1], .int .i64 0]) := by
 refine jaa tbOk 6 ⟨Tryz.func98, rfl, rfl, jhy rfl⟩ ?_
 (conv => whnf)
 refine V.r0 jhk ?_
 refine ⟨(.take 0 (.take 1 (.take 2 (.take 3 (.take 5 (.take 6 (.take 7 (.take 8 (.ev (.cons 4 [8, 7, 6, 5] (.ev (.cons 9 [] (.take 10 (.take 11 (.ev (.cons 12 [] (.take 13 (.done)) (.nil))))) (.nil))) (.nil))))))))))), [], ⟨by kernel_rfl, by kernel_rfl, by kernel_rfl, by kernel_rfl⟩, ?_⟩
 refine jac [(5, .int .i64 0)] [(4, .box [.str m0, .str m1])] ?_ ?_
 ·exact V.d2 jhk ig mu
 refine V.r0 @jhC ?_
 exact Fin.of rfl
theorem spr_2 (st : List Int) (H M : Nat → Tx) (u0 u1 f0 f1 y0 y1 : List UInt8) (hl : st.length = 2) (li : Called Tryz.prog 82 [.int .i64 2, .fn 98 [] [.ref [.ints .i64 st], .ref [.slf 2 2 (fun j => List.take 2 (List.drop (j * 2) [.str (H 0).1, .str (H 0).2, .str (H 1).1, .str (H 1).2]))]]] (.tup [.slf 2 2 (fun j => List.take 2 (List.drop (j * 2) [.str (M 0).1, .str (M 0).2, .str (M 1).1, .str (M 1).2])), .int .i64 0]))
  (su : Called Tryz.prog 87 [.slf 2 2 (fun j => List.take 2 (List.drop (j * 2) [.str (M 0).1, .str (M 0).2, .str (M 1).1, .str (M 1).2]))] (.tup [.agg [.str u0, .str u1], .int .i64 0])) (fu : Called Tryz.prog 86 [.int .i64 65535] (.agg [.str f0, .str f1])) (dv : Called Tryz.prog 88 [.agg [.str u0, .str u1], .agg [.str f0, .str f1]] (.tup [.agg [.str y0, .str y1], .int .i64 0])) :
  Called Tryz.prog 60 [.ints .i64 st, .slf 2 2 (fun j => List.take 2 (List.drop (j * 2) [.str (H 0).1, .str (H 0).2, .str (H 1).1, .str (H 1).2]))] (.tup [.agg [.str y0, .str y1], .int .i64 0]) := by
 have hi : ((st.length : Nat) : Int) = 2 := by rw [hl]; rfl
 refine jaa tbOk 6 ⟨Tryz.func60, rfl, rfl, jhy rfl⟩ ?_
 (conv => whnf)
 refine V.r2 (V.a2 @jhC @hi) li su ?_
 refine ⟨(.take 0 (.ev (.cons 1 [0] (.ev (.cons 2 [] (.take 3 (.take 4 (.ev (.cons 5 [] (.take 6 (.done)) (.nil))))) (.nil))) (.nil)))), [], ⟨by kernel_rfl, by kernel_rfl, by kernel_rfl, by kernel_rfl⟩, ?_⟩
 refine jac [(5, .int .i64 0)] [(4, .box [.str y0, .str y1])] ?_ ?_
 ·exact V.d2 @jhC fu dv
 refine V.r0 @jhC ?_
 exact Fin.of rfl
theorem confined_t (p0 p1 p2 p3 q0 q1 q2 q3 s0 s1 a0 a1 : List UInt8) (T : Nat → Int × Int) (h o : Int × Int) (sb : Called Tryz.prog 99 [.agg [.str p0, .str q0], .agg [.str p1, .str q1]] (.tup [.agg [.str s0, .str s1], .int .i64 0])) (ad : Called Tryz.prog 100 [.agg [.str p0, .str q0], .agg [.str p1, .str q1]] (.tup [.agg [.str a0, .str a1], .int .i64 0]))
  (li : Called Tryz.prog 55 [.int .i64 4, .fn 101 [] [.ref [.str s0, .str s1], .ref [.str a0, .str a1], .ref [.str p2, .str q2], .ref [.str p3, .str q3]]] (.tup [.slf 2 4 (fun j => List.take 2 (List.drop (j * 2) [.int .i64 (T 0).1, .int .i64 (T 0).2, .int .i64 (T 1).1, .int .i64 (T 1).2, .int .i64 (T 2).1, .int .i64 (T 2).2, .int .i64 (T 3).1, .int .i64 (T 3).2])), .int .i64 0]))
  (hu : Called Tryz.prog 103 [.agg [.int .i64 (T 0).1, .int .i64 (T 0).2], .agg [.int .i64 (T 1).1, .int .i64 (T 1).2]] (.tup [.agg [.int .i64 h.1, .int .i64 h.2], .int .i64 0])) (ob : Called Tryz.prog 104 [.int .i64 (max h.1 (T 2).1), .int .i64 (min h.2 (T 3).2)] (.tup [.agg [.int .i64 o.1, .int .i64 o.2], .int .i64 0])) :
  Called Tryz.prog 61 [.agg [.str p0, .str q0], .agg [.str p1, .str q1], .agg [.str p2, .str q2], .agg [.str p3, .str q3]] (.tup [.agg [.int .i64 o.1, .int .i64 o.2], .int .i64 0]) := by
 refine jaa tbOk 6 ⟨Tryz.func61, rfl, rfl, jhy rfl⟩ ?_
 (conv => whnf)
 refine V.r3 jhk sb ad li ?_
 refine ⟨(.take 0 (.take 1 (.take 2 (.take 3 (.take 4 (.take 5 (.ev (.cons 6 [] (.take 7 (.take 8 (.take 9 (.ev (.cons 10 [9, 8, 7] (.ev (.cons 11 [9] (.take 12 (.done)) (.nil))) (.nil)))))) (.cons 10 [5, 4, 3, 2, 1, 0] (.ev (.cons 6 [] (.take 7 (.take 8 (.take 9 (.ev (.cons 11 [9] (.take 12 (.done)) (.nil)))))) (.nil))) (.nil)))))))))), [], ⟨by kernel_rfl, by kernel_rfl, by kernel_rfl, by kernel_rfl⟩, ?_⟩
 refine jac [(14, .box 14 0), (11, .int .i64 0)] [(14, .box [.int .i64 h.1, .int .i64 h.2])] ?_ ?_
 ·exact V.d1 jhk hu
 refine V.r0 jhk ?_
 refine ⟨(.take 0 (.take 1 (.take 2 (.take 3 (.take 4 (.take 5 (.take 6 (.take 7 (.take 8 (.take 9 (.take 10 (.take 11 (.take 12 (.take 13 (.ev (.cons 14 [] (.take 15 (.take 16 (.ev (.cons 17 [] (.take 18 (.done)) (.nil))))) (.nil))))))))))))))))), [], ⟨by kernel_rfl, by kernel_rfl, by kernel_rfl, by kernel_rfl⟩, ?_⟩
 refine jac [(9, .int .i64 0)] [(8, .box [.int .i64 o.1, .int .i64 o.2])] ?_ ?_
 ·exact V.d1 jhk ob
 refine V.r0 @jhC ?_
 exact Fin.of rfl
theorem bands2_210 (T : Nat → List Int) (H Y : Nat → Tx) (lo hi : List Int) (d0 d1 l0 l1 h0 h1 : List UInt8) (b : Int × Int) (hlo : lo.length = 1) (hhi : hi.length = 1) (sp : Called Tryz.prog 60 [.ints .i64 (T 0), .slf 2 2 (fun j => List.take 2 (List.drop (j * 2) [.str (H 0).1, .str (H 0).2, .str (H 1).1, .str (H 1).2]))] (.tup [.agg [.str d0, .str d1], .int .i64 0])) (o1 : Called Tryz.prog 58 [.int .i64 (lo.getD 0 0), .int .i64 65535] (.agg [.str l0, .str l1])) (o2 : Called Tryz.prog 58 [.int .i64 (hi.getD 0 0), .int .i64 65535] (.agg [.str h0, .str h1]))
  (cf : Called Tryz.prog 61 [.agg [.str (Y 0).1, .str (Y 0).2], .agg [.str d0, .str d1], .agg [.str l0, .str l1], .agg [.str h0, .str h1]] (.tup [.agg [.int .i64 b.1, .int .i64 b.2], .int .i64 0])) :
  Called Tryz.prog 59 (.int .i64 0 :: [.ref [.slf 1 1 (fun j => List.take 1 (List.drop (j * 1) [.ints .i64 (T 0)]))], .ref [.slf 2 2 (fun j => List.take 2 (List.drop (j * 2) [.str (H 0).1, .str (H 0).2, .str (H 1).1, .str (H 1).2]))], .ref [.slf 2 1 (fun j => List.take 2 (List.drop (j * 2) [.str (Y 0).1, .str (Y 0).2]))], .ref [.ints .i64 lo], .ref [.ints .i64 hi]]) (.tup [.agg [.int .i64 b.1, .int .i64 b.2], .int .i64 0]) := by
 refine jaa tbOk 6 ⟨Tryz.func59, rfl, rfl, jhy rfl⟩ ?_
 (conv => whnf)
 refine V.r0 jhk ?_
 refine ⟨(.take 0 (.take 1 (.take 2 (.take 3 (.take 4 (.ev (.cons 5 [] (.take 6 (.take 7 (.take 8 (.ev (.cons 9 [8, 7, 6] (.ev (.cons 10 [8] (.take 11 (.done)) (.nil))) (.nil)))))) (.cons 9 [4, 3, 2, 1, 0] (.ev (.cons 5 [] (.take 6 (.take 7 (.take 8 (.ev (.cons 10 [8] (.take 11 (.done)) (.nil)))))) (.nil))) (.nil))))))))), [], ⟨by kernel_rfl, by kernel_rfl, by kernel_rfl, by kernel_rfl⟩, ?_⟩
 refine jac [(9, .box 9 0), (10, .int .i64 0)] [(9, .box [.str d0, .str d1])] ?_ ?_
 ·exact V.d1 jhk sp
 refine V.r0 jhk ?_
 refine ⟨(.take 0 (.take 1 (.take 2 (.take 3 (.take 4 (.take 5 (.take 6 (.take 7 (.take 8 (.take 10 (.take 11 (.take 12 (.take 13 (.ev (.cons 9 [13, 12, 11, 10, 4, 3, 2, 1, 0] (.ev (.cons 14 [4, 3, 2, 1, 0] (.ev (.cons 15 [] (.take 16 (.take 17 (.ev (.cons 18 [] (.take 19 (.done)) (.nil))))) (.nil))) (.nil))) (.nil)))))))))))))))), [], ⟨by kernel_rfl, by kernel_rfl, by kernel_rfl, by kernel_rfl⟩, ?_⟩
 refine jac [(8, .int .i64 0)] [(7, .box [.int .i64 b.1, .int .i64 b.2])] ?_ ?_
 ·exact V.d3 jhk o1 o2 cf
 refine V.r0 @jhC ?_
 exact Fin.of rfl
theorem jhq : type_of% @jhC ∧ type_of% @tn0 ∧ type_of% @tn1 ∧ type_of% @tn2 ∧ type_of% @tn3 ∧ type_of% @xt4 := ⟨@jhC, @tn0, @tn1, @tn2, @tn3, @xt4⟩
theorem bands2_t (zs data lo hi : List Int) (out : Int) (X I : Nat → Int × Int) (MD HV : Nat → Tx) (o e o2 : Nat) (Y B S : Nat → List D) (hl : zs.length = 2) (hI : ∀ i, i < 2 → (0 ≤ (I i).1 ∧ (I i).1 ≤ 1000000000000) ∧ (0 ≤ (I i).2 ∧ (I i).2 ≤ 1000000000000)) (gr : Called Tryz.prog 25 [.agg [.ints .i64 zs, .int .i64 out, .ints .i64 data]] (.tup [.ints .i64 lo, .ints .i64 hi, .int .i64 0]))
  (li : Called Tryz.prog 55 [.int .i64 2, .fn 56 [] [.ref [.slf 2 2 (fun j => List.take 2 (List.drop (j * 2) [.int .i64 (X 0).1, .int .i64 (X 0).2, .int .i64 (X 1).1, .int .i64 (X 1).2]))]]] (.tup [.slf 2 2 (fun j => List.take 2 (List.drop (j * 2) [.int .i64 (I 0).1, .int .i64 (I 0).2, .int .i64 (I 1).1, .int .i64 (I 1).2])), .int .i64 0]))
  (om : ∀ i, i < 2 → Called Tryz.prog 58 [.int .i64 ((I i).1 + (I i).2), .int .i64 2000000000000] (.agg [.str (MD i).1, .str (MD i).2])) (oh : ∀ i, i < 2 → Called Tryz.prog 58 [.int .i64 ((I i).2 - (I i).1), .int .i64 2000000000000] (.agg [.str (HV i).1, .str (HV i).2]))
  (ev : Called Tryz.prog 15 [.agg [.ints .i64 zs, .int .i64 out, .ints .i64 data], .slf 2 2 (fun j => List.take 2 (List.drop (j * 2) [.str (MD 0).1, .str (MD 0).2, .str (MD 1).1, .str (MD 1).2]))] (.tup [.slf 2 o Y, .int .i64 0])) (st : Called Tryz.prog 32 [.agg [.ints .i64 zs, .int .i64 out, .ints .i64 data]] (.tup [.slf 1 o2 S, .int .i64 0]))
  (l2 : Called Tryz.prog 55 [.int .i64 out, .fn 59 [] [.ref [.slf 1 o2 S], .ref [.slf 2 2 (fun j => List.take 2 (List.drop (j * 2) [.str (HV 0).1, .str (HV 0).2, .str (HV 1).1, .str (HV 1).2]))], .ref [.slf 2 o Y], .ref [.ints .i64 lo], .ref [.ints .i64 hi]]] (.tup [.slf 2 e B, .int .i64 0])) :
  Called Tryz.prog 29 [.agg [.ints .i64 zs, .int .i64 out, .ints .i64 data], .slf 2 2 (fun j => List.take 2 (List.drop (j * 2) [.int .i64 (X 0).1, .int .i64 (X 0).2, .int .i64 (X 1).1, .int .i64 (X 1).2]))] (.tup [.slf 2 e B, .int .i64 0]) := by
 have hz : ((zs.length : Nat) : Int) = 2 := by rw [hl]; rfl
 refine jaa tbOk 6 ⟨Tryz.func29, rfl, rfl, jhy rfl⟩ ?_
 (conv => whnf)
 refine V.r1 jhq gr ?_
 refine Cnd.split (CondB.mk (fun h => absurd h (by rw [hl]; decide)) (fun _ => ?_))
 refine V.r1 jhq li ?_
 refine jgL (β := Unit) 0 (fun _ => True) (fun _ => [(46, .any), (49, .any)]) (fun _ => [(43, .box [.str (MD 0).1, .str (MD 0).2, .str (MD 1).1, .str (MD 1).2]), (46, .gone), (11, .box [.slf 2 2 (fun j => List.take 2 (List.drop (j * 2) [.str (HV 0).1, .str (HV 0).2, .str (HV 1).1, .str (HV 1).2]))])]) ?_ ?_
 rotate_left
 ·intro _ _
  refine V.r3 jhq ev st l2 ?_
  exact Fin.of rfl
 refine jah (0) (fun k => k ≤ 2) (fun k => 2 - k) (fun k => [(49, .int .i64 k)]) (fun k => [(43, .box (preD (2 * k) [.str (MD 0).1, .str (MD 0).2, .str (MD 1).1, .str (MD 1).2])), (46, .box (preD (2 * k) [.str (HV 0).1, .str (HV 0).2, .str (HV 1).1, .str (HV 1).2]))]) ?_ ?_ ?_
 ·exact V.wk
 ·exact jhz _
 intro k hk
 have hk4 : k = 0 ∨ k = 1 ∨ k = 2 := by omega
 rcases hk4 with e1 | e1 | e1
 all_goals subst e1
 ·simp only [k0]
  have c1 := om 0 (by omega)
  have c2 := oh 0 (by omega)
  have hh := hI 0 (by omega)
  refine V.r1 jhq c1 ?_
  refine ⟨(.take 0 (.take 1 (.take 2 (.take 3 (.take 4 (.take 5 (.take 6 (.ev (.cons 7 [1, 0] (.take 8 (.ev (.cons 9 [] (.done) (.nil)))) (.nil)))))))))), [], ⟨by kernel_rfl, by kernel_rfl, by kernel_rfl, by kernel_rfl⟩, ?_⟩
  refine jac [] [(46, .box (preD (2 * 1) [.str (HV 0).1, .str (HV 0).2, .str (HV 1).1, .str (HV 1).2]))] ?_ ?_
  ·exact V.d1 jhq c2
  refine V.r0 jhq ?_
  exact ⟨1, by omega, by omega, V.wk⟩
 ·simp only [k1]
  have c1 := om 1 (by omega)
  have c2 := oh 1 (by omega)
  have hh := hI 1 (by omega)
  refine V.r1 jhq c1 ?_
  refine ⟨(.take 0 (.take 1 (.take 2 (.take 3 (.take 4 (.take 5 (.take 6 (.ev (.cons 7 [1, 0] (.take 8 (.ev (.cons 9 [] (.done) (.nil)))) (.nil)))))))))), [], ⟨by kernel_rfl, by kernel_rfl, by kernel_rfl, by kernel_rfl⟩, ?_⟩
  refine jac [] [(46, .box (preD (2 * 2) [.str (HV 0).1, .str (HV 0).2, .str (HV 1).1, .str (HV 1).2]))] ?_ ?_
  ·exact V.d1 jhq c2
  refine V.r0 jhq ?_
  exact ⟨2, by omega, by omega, V.wk⟩
 ·simp only [k2]
  refine V.r0 jhq ?_
  refine ⟨(), trivial, ?_⟩
  refine Wk.pub 46 ?_
  (conv => whnf)
  simp only [jhC]
  exact V.wk
def confB (y d l h : Rat) : Int × Int := (max (flU (y - d)) (flU l), min (clU (y + d)) (clU h))
theorem flU_bd {x : Rat} (h : -100000 ≤ x ∧ x ≤ 100000) : -100000000000000000 ≤ flU x ∧ flU x ≤ clU x ∧ clU x ≤ 100000000000000000 :=
 ⟨je2.2 (by rw [show ((-100000000000000000 : Int) : Rat) = -100000 * 1000000000000 from by decide +kernel]; grind), fl_cl Rat.le_refl, je6.2 (by rw [show ((100000000000000000 : Int) : Rat) = 100000 * 1000000000000 from by decide +kernel]; grind)⟩
theorem hull_q {p q p2 q2 : Int} (h1 : -100000000000000000 ≤ p ∧ p ≤ q ∧ q ≤ 100000000000000000) (h2 : -100000000000000000 ≤ p2 ∧ p2 ≤ q2 ∧ q2 ≤ 100000000000000000) : Called Tryz.prog 103 [.agg [.int .i64 p, .int .i64 q], .agg [.int .i64 p2, .int .i64 q2]] (.tup [.agg [.int .i64 (min p p2), .int .i64 (max q q2)], .int .i64 0]) := by
 have c := hull_b p q p2 q2
 have e : (if vb p q = true ∧ vb p2 q2 = true then (if p = p2 ∧ q = q2 then (p, q, (0 : Int)) else if max q q2 < min p p2 then (0, 0, 4) else (min p p2, max q q2, 0)) else (0, 0, 30)) = (min p p2, max q q2, 0) := by
  rw [if_pos ⟨jbq.2 (by omega), jbq.2 (by omega)⟩]
  split
  ·rename_i g
   rw [g.1, g.2, Int.min_self, Int.max_self]
  ·rw [if_neg (by omega)]
 rw [e] at c
 exact c
theorem conf_q {y d l h : Rat} (fy : Fq 376 y) (fd : Fq 70 d) (fl : Fq 10 l) (fh : Fq 10 h) (d0 : 0 ≤ d ∧ d ≤ 50000) (l0 : 0 ≤ l ∧ l ≤ y) (h0 : y ≤ h ∧ h ≤ 1) :
  Called Tryz.prog 61 [frT y, frT d, frT l, frT h] (.tup [.agg [.int .i64 (confB y d l h).1, .int .i64 (confB y d l h).2], .int .i64 0]) := by
 have b0 : -100000 ≤ y - d ∧ y - d ≤ 100000 := by constructor <;> grind
 have b1 : -100000 ≤ y + d ∧ y + d ≤ 100000 := by constructor <;> grind
 have b2 : -100000 ≤ l ∧ l ≤ 100000 := by constructor <;> grind
 have b3 : -100000 ≤ h ∧ h ≤ 100000 := by constructor <;> grind
 have u0 := flU_bd b0
 have u1 := flU_bd b1
 have u2 := flU_bd b2
 have u3 := flU_bd b3
 have sb := zsub fy fd (by decide) (by decide) (by decide)
 have ad := zadd fy fd (by decide) (by decide) (by decide)
 have a0 := jdV (fy.sub fd) (by decide) b0
 have a1 := jdV (fy.add fd) (by decide) b1
 have a2 := jdV fl (by decide) b2
 have a3 := jdV fh (by decide) b3
 have m1 : flU (y - d) ≤ flU (y + d) := flU_mono (by grind)
 have m2 : clU (y - d) ≤ clU (y + d) := clU_mono (by grind)
 have m3 : flU (y - d) ≤ clU h := fl_cl (by grind)
 have m4 : flU l ≤ clU (y + d) := fl_cl (by grind)
 have m5 : flU l ≤ clU h := fl_cl (by grind)
 have m6 : flU (y - d) ≤ clU (y + d) := fl_cl (by grind)
 have hu := hull_q u0 u1
 rw [show min (flU (y - d)) (flU (y + d)) = flU (y - d) from by omega, show max (clU (y - d)) (clU (y + d)) = clU (y + d) from by omega] at hu
 have ob := of_b (max (flU (y - d)) (flU l)) (min (clU (y + d)) (clU h))
 rw [if_pos (jbq.2 (by omega))] at ob
 let T : Nat → Int × Int := fun i => match i with | 0 => (flU (y - d), clU (y - d)) | 1 => (flU (y + d), clU (y + d)) | 2 => (flU l, clU l) | _ => (flU h, clU h)
 have li := blist4b (F := 101) T (conf1_0 _ _ _ _ _ _ _ _ (T 0) a0) (conf1_1 _ _ _ _ _ _ _ _ (T 1) a1) (conf1_2 _ _ _ _ _ _ _ _ (T 2) a2) (conf1_3 _ _ _ _ _ _ _ _ (T 3) a3)
 exact confined_t _ _ _ _ _ _ _ _ _ _ _ _ T (flU (y - d), clU (y + d)) (confB y d l h) sb ad li hu ob
theorem spr_q2 {st : List Int} {H : Nat → Rat} (hs : rowOk 2 st) (hf : ∀ i, i < 2 → Fq 14 (H i)) : Called Tryz.prog 60 [.ints .i64 st, slQ (fun i => txq (H i)) 2] (.tup [frT (smF (fun i => ((st.getD i 0 : Int) : Rat) * H i) 1 / 65535), .int .i64 0]) ∧ Fq 70 (smF (fun i => ((st.getD i 0 : Int) : Rat) * H i) 1 / 65535) := by
 have w0 : Fq 6 ((st.getD 0 0 : Int) : Rat) := jaW (by have := hs.2 0; omega) (by decide)
 have i0 := jar (n := st.getD 0 0) (by have := hs.2 0; omega)
 have u0 := zmul w0 (hf 0 (by decide)) (by decide) (by decide) (by decide)
 have m0 := spr1_20 st (fun i => txq (H i)) _ _ _ _ hs.1 i0 u0
 have w1 : Fq 6 ((st.getD 1 0 : Int) : Rat) := jaW (by have := hs.2 1; omega) (by decide)
 have i1 := jar (n := st.getD 1 0) (by have := hs.2 1; omega)
 have u1 := zmul w1 (hf 1 (by decide)) (by decide) (by decide) (by decide)
 have m1 := spr1_21 st (fun i => txq (H i)) _ _ _ _ hs.1 i1 u1
 have li := list2_i (fun i => txq (((st.getD i 0 : Int) : Rat) * H i)) m0 m1
 have s0 : Fq 20 (smF (fun i => ((st.getD i 0 : Int) : Rat) * H i) 0) := w0.mul (hf 0 (by decide))
 have s1 : Fq 41 (smF (fun i => ((st.getD i 0 : Int) : Rat) * H i) 1) := s0.add (w1.mul (hf 1 (by decide)))
 have su := sum2 (fun i => txq (((st.getD i 0 : Int) : Rat) * H i)) (fun i => txq (smF (fun i => ((st.getD i 0 : Int) : Rat) * H i) i)) rfl (zadd s0 (w1.mul (hf 1 (by decide))) (by decide) (by decide) (by decide))
 have fu := jar (n := 65535) (by omega)
 have f5 := jaW (n := 5) (z := 65535) jbb (by decide)
 have dv := zdiv s1 f5 jcF (by decide) (by decide) (by decide)
 have fd := (s1.div f5 jcF).mono (show _ ≤ 70 by decide)
 rw [show ((65535 : Int) : Rat) = 65535 from rfl] at fu dv fd
 exact ⟨spr_2 st (fun i => txq (H i)) (fun i => txq (((st.getD i 0 : Int) : Rat) * H i)) _ _ _ _ _ _ hs.1 li su fu dv, fd⟩
end Go.Proofs.YtgjgpdceghjajaaGreatDoor
end
section
namespace Go.Proofs.YtgjgpdceghjajaaGreatDoor
open Go Go.V Go.Gr
theorem all_c (xs : List Int) : Called Tryz.prog 72 [.ints .i64 xs] (.fn 116 [] [.ref [.ints .i64 xs]]) := by
 refine jaa tbOk 6 ⟨Tryz.func72, rfl, rfl, jhy rfl⟩ ?_
 (conv => whnf)
 refine V.st ?_
 exact Fin.same _
theorem nz_of {size : List Int} (h : size.all (fun n => decide (2 ≤ n ∧ n ≤ 9)) = true) : ∃ ns : List Nat, size = nz ns ∧ size.map Int.toNat = ns ∧ ∀ n ∈ ns, 2 ≤ n ∧ n ≤ 9 := by
 rw [List.all_eq_true] at h
 refine ⟨size.map Int.toNat, ?_, rfl, fun n hn => ?_⟩
 ·unfold nz
  rw [List.map_map]
  refine List.ext_getElem (by simp) fun k h1 h2 => ?_
  have := h size[k] (List.getElem_mem h1)
  simp at this ⊢
  omega
 ·obtain ⟨x, hx, rfl⟩ := List.mem_map.1 hn
  have := h x hx
  simp at this
  omega
end Go.Proofs.YtgjgpdceghjajaaGreatDoor
end
