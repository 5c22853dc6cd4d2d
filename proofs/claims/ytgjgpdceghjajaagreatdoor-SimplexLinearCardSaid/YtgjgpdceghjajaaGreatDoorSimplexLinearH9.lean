/- What some functions of the program answer at values that mean given lists, texts and numbers, each proved of the program's own code: part 9. Conditions: those that each theorem names. -/
import Derived.Test.YtgjgpdceghjajaaGreatDoorSimplexLinearH8
import Derived.Test.YtgjgpdceghjajaaGreatDoorSimplexLinearH4
set_option linter.unusedSimpArgs false
set_option linter.unusedVariables false
set_option maxHeartbeats 8000000
set_option maxRecDepth 100000
section
namespace Go.Proofs.YtgjgpdceghjajaaGreatDoor
open Go Go.V Go.Nb
theorem xk4 : ((4 : Nat) : Int) = 4 := rfl
theorem xt4 : (4 : Int).toNat = 4 := rfl
theorem jht : type_of% @jhS ∧ type_of% @tn0 ∧ type_of% @tn1 ∧ type_of% @tn2 ∧ type_of% @tn3 ∧ type_of% @xt4 := ⟨@jhS, @tn0, @tn1, @tn2, @tn3, @xt4⟩
theorem list1_2 {F e0 n0 e1 n1 : Nat} {f0 f1 : Nat → List D} {z : Int} (T : Nat → Tx) (c0 : Called Tryz.prog F (.int .i64 0 :: [.ref [.slf e0 n0 f0], .ref [.slf e1 n1 f1]]) (.tup [.agg [.str (T 0).1, .str (T 0).2], .int .i64 0])) :
  Called Tryz.prog 82 [.int .i64 1, .fn F [] [.ref [.slf e0 n0 f0], .ref [.slf e1 n1 f1]]] (.tup [.slf 2 1 (fun j => List.take 2 (List.drop (j * 2) [.str (T 0).1, .str (T 0).2])), .int .i64 0]) := by
 refine jaa tbOk 6 ⟨Tryz.func82, rfl, rfl, jhO rfl⟩ ?_
 (conv => whnf)
 refine V.r0 @jhS ?_
 refine jah (0) (fun k => k ≤ 1) (fun k => 1 - k) (fun k => [(14, .int .i64 k)]) (fun k => [(11, .box (preD (2 * k) [.str (T 0).1, .str (T 0).2]))]) ?_ ?_ ?_
 ·exact V.wk
 ·exact jhP _
 intro k hk
 have hk4 : k = 0 ∨ k = 1 := by omega
 rcases hk4 with e | e
 all_goals subst e
 ·simp only [k0]
  refine V.r1 jht c0 ?_
  exact ⟨1, by omega, by omega, V.wk⟩
 ·simp only [k1]
  refine V.r0 @jhS ?_
  exact Fin.of rfl
theorem list2_2 {F e0 n0 e1 n1 : Nat} {f0 f1 : Nat → List D} {z : Int} (T : Nat → Tx) (c0 : Called Tryz.prog F (.int .i64 0 :: [.ref [.slf e0 n0 f0], .ref [.slf e1 n1 f1]]) (.tup [.agg [.str (T 0).1, .str (T 0).2], .int .i64 0])) (c1 : Called Tryz.prog F (.int .i64 1 :: [.ref [.slf e0 n0 f0], .ref [.slf e1 n1 f1]]) (.tup [.agg [.str (T 1).1, .str (T 1).2], .int .i64 0])) :
  Called Tryz.prog 82 [.int .i64 2, .fn F [] [.ref [.slf e0 n0 f0], .ref [.slf e1 n1 f1]]] (.tup [.slf 2 2 (fun j => List.take 2 (List.drop (j * 2) [.str (T 0).1, .str (T 0).2, .str (T 1).1, .str (T 1).2])), .int .i64 0]) := by
 refine jaa tbOk 6 ⟨Tryz.func82, rfl, rfl, jhO rfl⟩ ?_
 (conv => whnf)
 refine V.r0 @jhS ?_
 refine jah (0) (fun k => k ≤ 2) (fun k => 2 - k) (fun k => [(14, .int .i64 k)]) (fun k => [(11, .box (preD (2 * k) [.str (T 0).1, .str (T 0).2, .str (T 1).1, .str (T 1).2]))]) ?_ ?_ ?_
 ·exact V.wk
 ·exact jhP _
 intro k hk
 have hk4 : k = 0 ∨ k = 1 ∨ k = 2 := by omega
 rcases hk4 with e | e | e
 all_goals subst e
 ·simp only [k0]
  refine V.r1 jht c0 ?_
  exact ⟨1, by omega, by omega, V.wk⟩
 ·simp only [k1]
  refine V.r1 jht c1 ?_
  exact ⟨2, by omega, by omega, V.wk⟩
 ·simp only [k2]
  refine V.r0 @jhS ?_
  exact Fin.of rfl
theorem list3_2 {F e0 n0 e1 n1 : Nat} {f0 f1 : Nat → List D} {z : Int} (T : Nat → Tx) (c0 : Called Tryz.prog F (.int .i64 0 :: [.ref [.slf e0 n0 f0], .ref [.slf e1 n1 f1]]) (.tup [.agg [.str (T 0).1, .str (T 0).2], .int .i64 0])) (c1 : Called Tryz.prog F (.int .i64 1 :: [.ref [.slf e0 n0 f0], .ref [.slf e1 n1 f1]]) (.tup [.agg [.str (T 1).1, .str (T 1).2], .int .i64 0])) (c2 : Called Tryz.prog F (.int .i64 2 :: [.ref [.slf e0 n0 f0], .ref [.slf e1 n1 f1]]) (.tup [.agg [.str (T 2).1, .str (T 2).2], .int .i64 0])) :
  Called Tryz.prog 82 [.int .i64 3, .fn F [] [.ref [.slf e0 n0 f0], .ref [.slf e1 n1 f1]]] (.tup [.slf 2 3 (fun j => List.take 2 (List.drop (j * 2) [.str (T 0).1, .str (T 0).2, .str (T 1).1, .str (T 1).2, .str (T 2).1, .str (T 2).2])), .int .i64 0]) := by
 refine jaa tbOk 6 ⟨Tryz.func82, rfl, rfl, jhO rfl⟩ ?_
 (conv => whnf)
 refine V.r0 @jhS ?_
 refine jah (0) (fun k => k ≤ 3) (fun k => 3 - k) (fun k => [(14, .int .i64 k)]) (fun k => [(11, .box (preD (2 * k) [.str (T 0).1, .str (T 0).2, .str (T 1).1, .str (T 1).2, .str (T 2).1, .str (T 2).2]))]) ?_ ?_ ?_
 ·exact V.wk
 ·exact jhP _
 intro k hk
 have hk4 : k = 0 ∨ k = 1 ∨ k = 2 ∨ k = 3 := by omega
 rcases hk4 with e | e | e | e
 all_goals subst e
 ·simp only [k0]
  refine V.r1 jht c0 ?_
  exact ⟨1, by omega, by omega, V.wk⟩
 ·simp only [k1]
  refine V.r1 jht c1 ?_
  exact ⟨2, by omega, by omega, V.wk⟩
 ·simp only [k2]
  refine V.r1 jht c2 ?_
  exact ⟨3, by omega, by omega, V.wk⟩
 ·simp only [k3]
  refine V.r0 @jhS ?_
  exact Fin.of rfl
theorem list3_3 {F e0 n0 e1 n1 : Nat} {f0 f1 : Nat → List D} {z : Int} (T : Nat → Tx) (c0 : Called Tryz.prog F (.int .i64 0 :: [.ref [.slf e0 n0 f0], .ref [.slf e1 n1 f1], .ref [.int .i64 z]]) (.tup [.agg [.str (T 0).1, .str (T 0).2], .int .i64 0])) (c1 : Called Tryz.prog F (.int .i64 1 :: [.ref [.slf e0 n0 f0], .ref [.slf e1 n1 f1], .ref [.int .i64 z]]) (.tup [.agg [.str (T 1).1, .str (T 1).2], .int .i64 0])) (c2 : Called Tryz.prog F (.int .i64 2 :: [.ref [.slf e0 n0 f0], .ref [.slf e1 n1 f1], .ref [.int .i64 z]]) (.tup [.agg [.str (T 2).1, .str (T 2).2], .int .i64 0])) :
  Called Tryz.prog 82 [.int .i64 3, .fn F [] [.ref [.slf e0 n0 f0], .ref [.slf e1 n1 f1], .ref [.int .i64 z]]] (.tup [.slf 2 3 (fun j => List.take 2 (List.drop (j * 2) [.str (T 0).1, .str (T 0).2, .str (T 1).1, .str (T 1).2, .str (T 2).1, .str (T 2).2])), .int .i64 0]) := by
 refine jaa tbOk 6 ⟨Tryz.func82, rfl, rfl, jhO rfl⟩ ?_
 (conv => whnf)
 refine V.r0 @jhS ?_
 refine jah (0) (fun k => k ≤ 3) (fun k => 3 - k) (fun k => [(14, .int .i64 k)]) (fun k => [(11, .box (preD (2 * k) [.str (T 0).1, .str (T 0).2, .str (T 1).1, .str (T 1).2, .str (T 2).1, .str (T 2).2]))]) ?_ ?_ ?_
 ·exact V.wk
 ·exact jhP _
 intro k hk
 have hk4 : k = 0 ∨ k = 1 ∨ k = 2 ∨ k = 3 := by omega
 rcases hk4 with e | e | e | e
 all_goals subst e
 ·simp only [k0]
  refine V.r1 jht c0 ?_
  exact ⟨1, by omega, by omega, V.wk⟩
 ·simp only [k1]
  refine V.r1 jht c1 ?_
  exact ⟨2, by omega, by omega, V.wk⟩
 ·simp only [k2]
  refine V.r1 jht c2 ?_
  exact ⟨3, by omega, by omega, V.wk⟩
 ·simp only [k3]
  refine V.r0 @jhS ?_
  exact Fin.of rfl
theorem list4_2 {F e0 n0 e1 n1 : Nat} {f0 f1 : Nat → List D} {z : Int} (T : Nat → Tx) (c0 : Called Tryz.prog F (.int .i64 0 :: [.ref [.slf e0 n0 f0], .ref [.slf e1 n1 f1]]) (.tup [.agg [.str (T 0).1, .str (T 0).2], .int .i64 0])) (c1 : Called Tryz.prog F (.int .i64 1 :: [.ref [.slf e0 n0 f0], .ref [.slf e1 n1 f1]]) (.tup [.agg [.str (T 1).1, .str (T 1).2], .int .i64 0])) (c2 : Called Tryz.prog F (.int .i64 2 :: [.ref [.slf e0 n0 f0], .ref [.slf e1 n1 f1]]) (.tup [.agg [.str (T 2).1, .str (T 2).2], .int .i64 0])) (c3 : Called Tryz.prog F (.int .i64 3 :: [.ref [.slf e0 n0 f0], .ref [.slf e1 n1 f1]]) (.tup [.agg [.str (T 3).1, .str (T 3).2], .int .i64 0])) :
  Called Tryz.prog 82 [.int .i64 4, .fn F [] [.ref [.slf e0 n0 f0], .ref [.slf e1 n1 f1]]] (.tup [.slf 2 4 (fun j => List.take 2 (List.drop (j * 2) [.str (T 0).1, .str (T 0).2, .str (T 1).1, .str (T 1).2, .str (T 2).1, .str (T 2).2, .str (T 3).1, .str (T 3).2])), .int .i64 0]) := by
 refine jaa tbOk 6 ⟨Tryz.func82, rfl, rfl, jhO rfl⟩ ?_
 (conv => whnf)
 refine V.r0 @jhS ?_
 refine jah (0) (fun k => k ≤ 4) (fun k => 4 - k) (fun k => [(14, .int .i64 k)]) (fun k => [(11, .box (preD (2 * k) [.str (T 0).1, .str (T 0).2, .str (T 1).1, .str (T 1).2, .str (T 2).1, .str (T 2).2, .str (T 3).1, .str (T 3).2]))]) ?_ ?_ ?_
 ·exact V.wk
 ·exact jhP _
 intro k hk
 have hk4 : k = 0 ∨ k = 1 ∨ k = 2 ∨ k = 3 ∨ k = 4 := by omega
 rcases hk4 with e | e | e | e | e
 all_goals subst e
 ·simp only [k0]
  refine V.r1 jht c0 ?_
  exact ⟨1, by omega, by omega, V.wk⟩
 ·simp only [k1]
  refine V.r1 jht c1 ?_
  exact ⟨2, by omega, by omega, V.wk⟩
 ·simp only [k2]
  refine V.r1 jht c2 ?_
  exact ⟨3, by omega, by omega, V.wk⟩
 ·simp only [k3]
  refine V.r1 jht c3 ?_
  exact ⟨4, by omega, by omega, V.wk⟩
 ·simp only [xk4]
  refine V.r0 @jhS ?_
  exact Fin.of rfl
theorem list4_3 {F e0 n0 e1 n1 : Nat} {f0 f1 : Nat → List D} {z : Int} (T : Nat → Tx) (c0 : Called Tryz.prog F (.int .i64 0 :: [.ref [.slf e0 n0 f0], .ref [.slf e1 n1 f1], .ref [.int .i64 z]]) (.tup [.agg [.str (T 0).1, .str (T 0).2], .int .i64 0])) (c1 : Called Tryz.prog F (.int .i64 1 :: [.ref [.slf e0 n0 f0], .ref [.slf e1 n1 f1], .ref [.int .i64 z]]) (.tup [.agg [.str (T 1).1, .str (T 1).2], .int .i64 0])) (c2 : Called Tryz.prog F (.int .i64 2 :: [.ref [.slf e0 n0 f0], .ref [.slf e1 n1 f1], .ref [.int .i64 z]]) (.tup [.agg [.str (T 2).1, .str (T 2).2], .int .i64 0])) (c3 : Called Tryz.prog F (.int .i64 3 :: [.ref [.slf e0 n0 f0], .ref [.slf e1 n1 f1], .ref [.int .i64 z]]) (.tup [.agg [.str (T 3).1, .str (T 3).2], .int .i64 0])) :
  Called Tryz.prog 82 [.int .i64 4, .fn F [] [.ref [.slf e0 n0 f0], .ref [.slf e1 n1 f1], .ref [.int .i64 z]]] (.tup [.slf 2 4 (fun j => List.take 2 (List.drop (j * 2) [.str (T 0).1, .str (T 0).2, .str (T 1).1, .str (T 1).2, .str (T 2).1, .str (T 2).2, .str (T 3).1, .str (T 3).2])), .int .i64 0]) := by
 refine jaa tbOk 6 ⟨Tryz.func82, rfl, rfl, jhO rfl⟩ ?_
 (conv => whnf)
 refine V.r0 @jhS ?_
 refine jah (0) (fun k => k ≤ 4) (fun k => 4 - k) (fun k => [(14, .int .i64 k)]) (fun k => [(11, .box (preD (2 * k) [.str (T 0).1, .str (T 0).2, .str (T 1).1, .str (T 1).2, .str (T 2).1, .str (T 2).2, .str (T 3).1, .str (T 3).2]))]) ?_ ?_ ?_
 ·exact V.wk
 ·exact jhP _
 intro k hk
 have hk4 : k = 0 ∨ k = 1 ∨ k = 2 ∨ k = 3 ∨ k = 4 := by omega
 rcases hk4 with e | e | e | e | e
 all_goals subst e
 ·simp only [k0]
  refine V.r1 jht c0 ?_
  exact ⟨1, by omega, by omega, V.wk⟩
 ·simp only [k1]
  refine V.r1 jht c1 ?_
  exact ⟨2, by omega, by omega, V.wk⟩
 ·simp only [k2]
  refine V.r1 jht c2 ?_
  exact ⟨3, by omega, by omega, V.wk⟩
 ·simp only [k3]
  refine V.r1 jht c3 ?_
  exact ⟨4, by omega, by omega, V.wk⟩
 ·simp only [xk4]
  refine V.r0 @jhS ?_
  exact Fin.of rfl
theorem sum2 (P S : Nat → Tx) (h0 : S 0 = P 0) (c0 : Called Tryz.prog 100 [.agg [.str (S 0).1, .str (S 0).2], .agg [.str (P 1).1, .str (P 1).2]] (.tup [.agg [.str (S 1).1, .str (S 1).2], .int .i64 0])) :
  Called Tryz.prog 87 [.slf 2 2 (fun j => List.take 2 (List.drop (j * 2) [.str (P 0).1, .str (P 0).2, .str (P 1).1, .str (P 1).2]))] (.tup [.agg [.str (S 1).1, .str (S 1).2], .int .i64 0]) := by
 have h1 : (S 0).1 = (P 0).1 ∧ (S 0).2 = (P 0).2 := by rw [h0]; exact ⟨rfl, rfl⟩
 refine jaa tbOk 6 ⟨Tryz.func87, rfl, rfl, jhO rfl⟩ ?_
 (conv => whnf)
 refine V.r0 jht ?_
 refine jah (0) (fun k => k ≤ 1) (fun k => 1 - k) (fun k => [(14, .int .i64 k)]) (fun k => [(4, .box [.str (S k).1, .str (S k).2])]) ?_ ?_ ?_
 ·rw [h1.1, h1.2]
  exact V.wk
 ·exact jhP _
 intro k hk
 have hk4 : k = 0 ∨ k = 1 := by omega
 rcases hk4 with e | e
 all_goals subst e
 ·simp only [k0]
  refine V.r1 jht c0 ?_
  exact ⟨1, by omega, by omega, V.wk⟩
 ·simp only [k1]
  refine V.r0 @jhS ?_
  exact Fin.of rfl
theorem sum3 (P S : Nat → Tx) (h0 : S 0 = P 0) (c0 : Called Tryz.prog 100 [.agg [.str (S 0).1, .str (S 0).2], .agg [.str (P 1).1, .str (P 1).2]] (.tup [.agg [.str (S 1).1, .str (S 1).2], .int .i64 0])) (c1 : Called Tryz.prog 100 [.agg [.str (S 1).1, .str (S 1).2], .agg [.str (P 2).1, .str (P 2).2]] (.tup [.agg [.str (S 2).1, .str (S 2).2], .int .i64 0])) :
  Called Tryz.prog 87 [.slf 2 3 (fun j => List.take 2 (List.drop (j * 2) [.str (P 0).1, .str (P 0).2, .str (P 1).1, .str (P 1).2, .str (P 2).1, .str (P 2).2]))] (.tup [.agg [.str (S 2).1, .str (S 2).2], .int .i64 0]) := by
 have h1 : (S 0).1 = (P 0).1 ∧ (S 0).2 = (P 0).2 := by rw [h0]; exact ⟨rfl, rfl⟩
 refine jaa tbOk 6 ⟨Tryz.func87, rfl, rfl, jhO rfl⟩ ?_
 (conv => whnf)
 refine V.r0 jht ?_
 refine jah (0) (fun k => k ≤ 2) (fun k => 2 - k) (fun k => [(14, .int .i64 k)]) (fun k => [(4, .box [.str (S k).1, .str (S k).2])]) ?_ ?_ ?_
 ·rw [h1.1, h1.2]
  exact V.wk
 ·exact jhP _
 intro k hk
 have hk4 : k = 0 ∨ k = 1 ∨ k = 2 := by omega
 rcases hk4 with e | e | e
 all_goals subst e
 ·simp only [k0]
  refine V.r1 jht c0 ?_
  exact ⟨1, by omega, by omega, V.wk⟩
 ·simp only [k1]
  refine V.r1 jht c1 ?_
  exact ⟨2, by omega, by omega, V.wk⟩
 ·simp only [k2]
  refine V.r0 @jhS ?_
  exact Fin.of rfl
theorem sum4 (P S : Nat → Tx) (h0 : S 0 = P 0) (c0 : Called Tryz.prog 100 [.agg [.str (S 0).1, .str (S 0).2], .agg [.str (P 1).1, .str (P 1).2]] (.tup [.agg [.str (S 1).1, .str (S 1).2], .int .i64 0])) (c1 : Called Tryz.prog 100 [.agg [.str (S 1).1, .str (S 1).2], .agg [.str (P 2).1, .str (P 2).2]] (.tup [.agg [.str (S 2).1, .str (S 2).2], .int .i64 0])) (c2 : Called Tryz.prog 100 [.agg [.str (S 2).1, .str (S 2).2], .agg [.str (P 3).1, .str (P 3).2]] (.tup [.agg [.str (S 3).1, .str (S 3).2], .int .i64 0])) :
  Called Tryz.prog 87 [.slf 2 4 (fun j => List.take 2 (List.drop (j * 2) [.str (P 0).1, .str (P 0).2, .str (P 1).1, .str (P 1).2, .str (P 2).1, .str (P 2).2, .str (P 3).1, .str (P 3).2]))] (.tup [.agg [.str (S 3).1, .str (S 3).2], .int .i64 0]) := by
 have h1 : (S 0).1 = (P 0).1 ∧ (S 0).2 = (P 0).2 := by rw [h0]; exact ⟨rfl, rfl⟩
 refine jaa tbOk 6 ⟨Tryz.func87, rfl, rfl, jhO rfl⟩ ?_
 (conv => whnf)
 refine V.r0 jht ?_
 refine jah (0) (fun k => k ≤ 3) (fun k => 3 - k) (fun k => [(14, .int .i64 k)]) (fun k => [(4, .box [.str (S k).1, .str (S k).2])]) ?_ ?_ ?_
 ·rw [h1.1, h1.2]
  exact V.wk
 ·exact jhP _
 intro k hk
 have hk4 : k = 0 ∨ k = 1 ∨ k = 2 ∨ k = 3 := by omega
 rcases hk4 with e | e | e | e
 all_goals subst e
 ·simp only [k0]
  refine V.r1 jht c0 ?_
  exact ⟨1, by omega, by omega, V.wk⟩
 ·simp only [k1]
  refine V.r1 jht c1 ?_
  exact ⟨2, by omega, by omega, V.wk⟩
 ·simp only [k2]
  refine V.r1 jht c2 ?_
  exact ⟨3, by omega, by omega, V.wk⟩
 ·simp only [k3]
  refine V.r0 @jhS ?_
  exact Fin.of rfl
theorem jhK : type_of% @jhT ∧ type_of% @jhS ∧ type_of% @tn0 ∧ type_of% @tn1 ∧ type_of% @tn2 ∧ type_of% @tn3 ∧ type_of% @xt4 := ⟨@jhT, @jhS, @tn0, @tn1, @tn2, @tn3, @xt4⟩
theorem prod3_0 (W M : Nat → Tx) (U : Nat → List Int) (out : Nat) (g0 g1 : List UInt8) (hl : out < (U 0).length) (ig : Called Tryz.prog 86 [.int .i64 ((U 0).getD out 0)] (.agg [.str g0, .str g1]))
  (mu : Called Tryz.prog 85 [.agg [.str (W 0).1, .str (W 0).2], .agg [.str g0, .str g1]] (.tup [.agg [.str (M 0).1, .str (M 0).2], .int .i64 0])) :
  Called Tryz.prog 84 [.int .i64 0, .ref [.slf 2 3 (fun j => List.take 2 (List.drop (j * 2) [.str (W 0).1, .str (W 0).2, .str (W 1).1, .str (W 1).2, .str (W 2).1, .str (W 2).2]))], .ref [.slf 1 3 (fun j => List.take 1 (List.drop (j * 1) [.ints .i64 (U 0), .ints .i64 (U 1), .ints .i64 (U 2)]))], .ref [.int .i64 out]] (.tup [.agg [.str (M 0).1, .str (M 0).2], .int .i64 0]) := by
 have hi : (out : Int) < (U 0).length := by omega
 refine jaa tbOk 6 ⟨Tryz.func84, rfl, rfl, jhO rfl⟩ ?_
 (conv => whnf)
 refine V.r0 jht ?_
 refine ⟨(.take 0 (.take 1 (.take 2 (.take 3 (.take 4 (.take 5 (.take 6 (.take 7 (.take 8 (.take 9 (.take 10 (.ev (.cons 11 [3, 2, 1, 0] (.ev (.cons 12 [] (.take 13 (.take 14 (.ev (.cons 15 [] (.take 16 (.done)) (.nil))))) (.nil))) (.nil)))))))))))))), [], ⟨by kernel_rfl, by kernel_rfl, by kernel_rfl, by kernel_rfl⟩, ?_⟩
 refine jac [(6, .int .i64 0)] [(5, .box [.str (M 0).1, .str (M 0).2])] ?_ ?_
 ·exact V.d2 jhK ig mu
 refine V.r0 @jhS ?_
 exact Fin.of rfl
theorem prod3_1 (W M : Nat → Tx) (U : Nat → List Int) (out : Nat) (g0 g1 : List UInt8) (hl : out < (U 1).length) (ig : Called Tryz.prog 86 [.int .i64 ((U 1).getD out 0)] (.agg [.str g0, .str g1]))
  (mu : Called Tryz.prog 85 [.agg [.str (W 1).1, .str (W 1).2], .agg [.str g0, .str g1]] (.tup [.agg [.str (M 1).1, .str (M 1).2], .int .i64 0])) :
  Called Tryz.prog 84 [.int .i64 1, .ref [.slf 2 3 (fun j => List.take 2 (List.drop (j * 2) [.str (W 0).1, .str (W 0).2, .str (W 1).1, .str (W 1).2, .str (W 2).1, .str (W 2).2]))], .ref [.slf 1 3 (fun j => List.take 1 (List.drop (j * 1) [.ints .i64 (U 0), .ints .i64 (U 1), .ints .i64 (U 2)]))], .ref [.int .i64 out]] (.tup [.agg [.str (M 1).1, .str (M 1).2], .int .i64 0]) := by
 have hi : (out : Int) < (U 1).length := by omega
 refine jaa tbOk 6 ⟨Tryz.func84, rfl, rfl, jhO rfl⟩ ?_
 (conv => whnf)
 refine V.r0 jht ?_
 refine ⟨(.take 0 (.take 1 (.take 2 (.take 3 (.take 4 (.take 5 (.take 6 (.take 7 (.take 8 (.take 9 (.take 10 (.ev (.cons 11 [3, 2, 1, 0] (.ev (.cons 12 [] (.take 13 (.take 14 (.ev (.cons 15 [] (.take 16 (.done)) (.nil))))) (.nil))) (.nil)))))))))))))), [], ⟨by kernel_rfl, by kernel_rfl, by kernel_rfl, by kernel_rfl⟩, ?_⟩
 refine jac [(6, .int .i64 0)] [(5, .box [.str (M 1).1, .str (M 1).2])] ?_ ?_
 ·exact V.d2 jhK ig mu
 refine V.r0 @jhS ?_
 exact Fin.of rfl
theorem prod3_2 (W M : Nat → Tx) (U : Nat → List Int) (out : Nat) (g0 g1 : List UInt8) (hl : out < (U 2).length) (ig : Called Tryz.prog 86 [.int .i64 ((U 2).getD out 0)] (.agg [.str g0, .str g1]))
  (mu : Called Tryz.prog 85 [.agg [.str (W 2).1, .str (W 2).2], .agg [.str g0, .str g1]] (.tup [.agg [.str (M 2).1, .str (M 2).2], .int .i64 0])) :
  Called Tryz.prog 84 [.int .i64 2, .ref [.slf 2 3 (fun j => List.take 2 (List.drop (j * 2) [.str (W 0).1, .str (W 0).2, .str (W 1).1, .str (W 1).2, .str (W 2).1, .str (W 2).2]))], .ref [.slf 1 3 (fun j => List.take 1 (List.drop (j * 1) [.ints .i64 (U 0), .ints .i64 (U 1), .ints .i64 (U 2)]))], .ref [.int .i64 out]] (.tup [.agg [.str (M 2).1, .str (M 2).2], .int .i64 0]) := by
 have hi : (out : Int) < (U 2).length := by omega
 refine jaa tbOk 6 ⟨Tryz.func84, rfl, rfl, jhO rfl⟩ ?_
 (conv => whnf)
 refine V.r0 jht ?_
 refine ⟨(.take 0 (.take 1 (.take 2 (.take 3 (.take 4 (.take 5 (.take 6 (.take 7 (.take 8 (.take 9 (.take 10 (.ev (.cons 11 [3, 2, 1, 0] (.ev (.cons 12 [] (.take 13 (.take 14 (.ev (.cons 15 [] (.take 16 (.done)) (.nil))))) (.nil))) (.nil)))))))))))))), [], ⟨by kernel_rfl, by kernel_rfl, by kernel_rfl, by kernel_rfl⟩, ?_⟩
 refine jac [(6, .int .i64 0)] [(5, .box [.str (M 2).1, .str (M 2).2])] ?_ ?_
 ·exact V.d2 jhK ig mu
 refine V.r0 @jhS ?_
 exact Fin.of rfl
theorem prod4_0 (W M : Nat → Tx) (U : Nat → List Int) (out : Nat) (g0 g1 : List UInt8) (hl : out < (U 0).length) (ig : Called Tryz.prog 86 [.int .i64 ((U 0).getD out 0)] (.agg [.str g0, .str g1]))
  (mu : Called Tryz.prog 85 [.agg [.str (W 0).1, .str (W 0).2], .agg [.str g0, .str g1]] (.tup [.agg [.str (M 0).1, .str (M 0).2], .int .i64 0])) :
  Called Tryz.prog 84 [.int .i64 0, .ref [.slf 2 4 (fun j => List.take 2 (List.drop (j * 2) [.str (W 0).1, .str (W 0).2, .str (W 1).1, .str (W 1).2, .str (W 2).1, .str (W 2).2, .str (W 3).1, .str (W 3).2]))], .ref [.slf 1 4 (fun j => List.take 1 (List.drop (j * 1) [.ints .i64 (U 0), .ints .i64 (U 1), .ints .i64 (U 2), .ints .i64 (U 3)]))], .ref [.int .i64 out]] (.tup [.agg [.str (M 0).1, .str (M 0).2], .int .i64 0]) := by
 have hi : (out : Int) < (U 0).length := by omega
 refine jaa tbOk 6 ⟨Tryz.func84, rfl, rfl, jhO rfl⟩ ?_
 (conv => whnf)
 refine V.r0 jht ?_
 refine ⟨(.take 0 (.take 1 (.take 2 (.take 3 (.take 4 (.take 5 (.take 6 (.take 7 (.take 8 (.take 9 (.take 10 (.ev (.cons 11 [3, 2, 1, 0] (.ev (.cons 12 [] (.take 13 (.take 14 (.ev (.cons 15 [] (.take 16 (.done)) (.nil))))) (.nil))) (.nil)))))))))))))), [], ⟨by kernel_rfl, by kernel_rfl, by kernel_rfl, by kernel_rfl⟩, ?_⟩
 refine jac [(6, .int .i64 0)] [(5, .box [.str (M 0).1, .str (M 0).2])] ?_ ?_
 ·exact V.d2 jhK ig mu
 refine V.r0 @jhS ?_
 exact Fin.of rfl
theorem prod4_1 (W M : Nat → Tx) (U : Nat → List Int) (out : Nat) (g0 g1 : List UInt8) (hl : out < (U 1).length) (ig : Called Tryz.prog 86 [.int .i64 ((U 1).getD out 0)] (.agg [.str g0, .str g1]))
  (mu : Called Tryz.prog 85 [.agg [.str (W 1).1, .str (W 1).2], .agg [.str g0, .str g1]] (.tup [.agg [.str (M 1).1, .str (M 1).2], .int .i64 0])) :
  Called Tryz.prog 84 [.int .i64 1, .ref [.slf 2 4 (fun j => List.take 2 (List.drop (j * 2) [.str (W 0).1, .str (W 0).2, .str (W 1).1, .str (W 1).2, .str (W 2).1, .str (W 2).2, .str (W 3).1, .str (W 3).2]))], .ref [.slf 1 4 (fun j => List.take 1 (List.drop (j * 1) [.ints .i64 (U 0), .ints .i64 (U 1), .ints .i64 (U 2), .ints .i64 (U 3)]))], .ref [.int .i64 out]] (.tup [.agg [.str (M 1).1, .str (M 1).2], .int .i64 0]) := by
 have hi : (out : Int) < (U 1).length := by omega
 refine jaa tbOk 6 ⟨Tryz.func84, rfl, rfl, jhO rfl⟩ ?_
 (conv => whnf)
 refine V.r0 jht ?_
 refine ⟨(.take 0 (.take 1 (.take 2 (.take 3 (.take 4 (.take 5 (.take 6 (.take 7 (.take 8 (.take 9 (.take 10 (.ev (.cons 11 [3, 2, 1, 0] (.ev (.cons 12 [] (.take 13 (.take 14 (.ev (.cons 15 [] (.take 16 (.done)) (.nil))))) (.nil))) (.nil)))))))))))))), [], ⟨by kernel_rfl, by kernel_rfl, by kernel_rfl, by kernel_rfl⟩, ?_⟩
 refine jac [(6, .int .i64 0)] [(5, .box [.str (M 1).1, .str (M 1).2])] ?_ ?_
 ·exact V.d2 jhK ig mu
 refine V.r0 @jhS ?_
 exact Fin.of rfl
theorem prod4_2 (W M : Nat → Tx) (U : Nat → List Int) (out : Nat) (g0 g1 : List UInt8) (hl : out < (U 2).length) (ig : Called Tryz.prog 86 [.int .i64 ((U 2).getD out 0)] (.agg [.str g0, .str g1]))
  (mu : Called Tryz.prog 85 [.agg [.str (W 2).1, .str (W 2).2], .agg [.str g0, .str g1]] (.tup [.agg [.str (M 2).1, .str (M 2).2], .int .i64 0])) :
  Called Tryz.prog 84 [.int .i64 2, .ref [.slf 2 4 (fun j => List.take 2 (List.drop (j * 2) [.str (W 0).1, .str (W 0).2, .str (W 1).1, .str (W 1).2, .str (W 2).1, .str (W 2).2, .str (W 3).1, .str (W 3).2]))], .ref [.slf 1 4 (fun j => List.take 1 (List.drop (j * 1) [.ints .i64 (U 0), .ints .i64 (U 1), .ints .i64 (U 2), .ints .i64 (U 3)]))], .ref [.int .i64 out]] (.tup [.agg [.str (M 2).1, .str (M 2).2], .int .i64 0]) := by
 have hi : (out : Int) < (U 2).length := by omega
 refine jaa tbOk 6 ⟨Tryz.func84, rfl, rfl, jhO rfl⟩ ?_
 (conv => whnf)
 refine V.r0 jht ?_
 refine ⟨(.take 0 (.take 1 (.take 2 (.take 3 (.take 4 (.take 5 (.take 6 (.take 7 (.take 8 (.take 9 (.take 10 (.ev (.cons 11 [3, 2, 1, 0] (.ev (.cons 12 [] (.take 13 (.take 14 (.ev (.cons 15 [] (.take 16 (.done)) (.nil))))) (.nil))) (.nil)))))))))))))), [], ⟨by kernel_rfl, by kernel_rfl, by kernel_rfl, by kernel_rfl⟩, ?_⟩
 refine jac [(6, .int .i64 0)] [(5, .box [.str (M 2).1, .str (M 2).2])] ?_ ?_
 ·exact V.d2 jhK ig mu
 refine V.r0 @jhS ?_
 exact Fin.of rfl
theorem prod4_3 (W M : Nat → Tx) (U : Nat → List Int) (out : Nat) (g0 g1 : List UInt8) (hl : out < (U 3).length) (ig : Called Tryz.prog 86 [.int .i64 ((U 3).getD out 0)] (.agg [.str g0, .str g1]))
  (mu : Called Tryz.prog 85 [.agg [.str (W 3).1, .str (W 3).2], .agg [.str g0, .str g1]] (.tup [.agg [.str (M 3).1, .str (M 3).2], .int .i64 0])) :
  Called Tryz.prog 84 [.int .i64 3, .ref [.slf 2 4 (fun j => List.take 2 (List.drop (j * 2) [.str (W 0).1, .str (W 0).2, .str (W 1).1, .str (W 1).2, .str (W 2).1, .str (W 2).2, .str (W 3).1, .str (W 3).2]))], .ref [.slf 1 4 (fun j => List.take 1 (List.drop (j * 1) [.ints .i64 (U 0), .ints .i64 (U 1), .ints .i64 (U 2), .ints .i64 (U 3)]))], .ref [.int .i64 out]] (.tup [.agg [.str (M 3).1, .str (M 3).2], .int .i64 0]) := by
 have hi : (out : Int) < (U 3).length := by omega
 refine jaa tbOk 6 ⟨Tryz.func84, rfl, rfl, jhO rfl⟩ ?_
 (conv => whnf)
 refine V.r0 jht ?_
 refine ⟨(.take 0 (.take 1 (.take 2 (.take 3 (.take 4 (.take 5 (.take 6 (.take 7 (.take 8 (.take 9 (.take 10 (.ev (.cons 11 [3, 2, 1, 0] (.ev (.cons 12 [] (.take 13 (.take 14 (.ev (.cons 15 [] (.take 16 (.done)) (.nil))))) (.nil))) (.nil)))))))))))))), [], ⟨by kernel_rfl, by kernel_rfl, by kernel_rfl, by kernel_rfl⟩, ?_⟩
 refine jac [(6, .int .i64 0)] [(5, .box [.str (M 3).1, .str (M 3).2])] ?_ ?_
 ·exact V.d2 jhK ig mu
 refine V.r0 @jhS ?_
 exact Fin.of rfl
theorem val1_3 (W M S : Nat → Tx) (U : Nat → List Int) (out : Int) (f0 f1 y0 y1 : List UInt8) (li : Called Tryz.prog 82 [.int .i64 3, .fn 84 [] [.ref [.slf 2 3 (fun j => List.take 2 (List.drop (j * 2) [.str (W 0).1, .str (W 0).2, .str (W 1).1, .str (W 1).2, .str (W 2).1, .str (W 2).2]))], .ref [.slf 1 3 (fun j => List.take 1 (List.drop (j * 1) [.ints .i64 (U 0), .ints .i64 (U 1), .ints .i64 (U 2)]))], .ref [.int .i64 out]]] (.tup [.slf 2 3 (fun j => List.take 2 (List.drop (j * 2) [.str (M 0).1, .str (M 0).2, .str (M 1).1, .str (M 1).2, .str (M 2).1, .str (M 2).2])), .int .i64 0]))
  (su : Called Tryz.prog 87 [.slf 2 3 (fun j => List.take 2 (List.drop (j * 2) [.str (M 0).1, .str (M 0).2, .str (M 1).1, .str (M 1).2, .str (M 2).1, .str (M 2).2]))] (.tup [.agg [.str (S 2).1, .str (S 2).2], .int .i64 0])) (fu : Called Tryz.prog 86 [.int .i64 65535] (.agg [.str f0, .str f1])) (dv : Called Tryz.prog 88 [.agg [.str (S 2).1, .str (S 2).2], .agg [.str f0, .str f1]] (.tup [.agg [.str y0, .str y1], .int .i64 0])) :
  Called Tryz.prog 83 [.int .i64 out, .ref [.slf 1 3 (fun j => List.take 1 (List.drop (j * 1) [.ints .i64 (U 0), .ints .i64 (U 1), .ints .i64 (U 2)]))], .ref [.slf 2 3 (fun j => List.take 2 (List.drop (j * 2) [.str (W 0).1, .str (W 0).2, .str (W 1).1, .str (W 1).2, .str (W 2).1, .str (W 2).2]))]] (.tup [.agg [.str y0, .str y1], .int .i64 0]) := by
 refine jaa tbOk 6 ⟨Tryz.func83, rfl, rfl, jhO rfl⟩ ?_
 (conv => whnf)
 refine V.r2 @jhS li su ?_
 refine ⟨(.take 0 (.ev (.cons 1 [0] (.ev (.cons 2 [] (.take 3 (.take 4 (.ev (.cons 5 [] (.take 6 (.done)) (.nil))))) (.nil))) (.nil)))), [], ⟨by kernel_rfl, by kernel_rfl, by kernel_rfl, by kernel_rfl⟩, ?_⟩
 refine jac [(5, .int .i64 0)] [(4, .box [.str y0, .str y1])] ?_ ?_
 ·exact V.d2 @jhS fu dv
 refine V.r0 @jhS ?_
 exact Fin.of rfl
theorem val1_4 (W M S : Nat → Tx) (U : Nat → List Int) (out : Int) (f0 f1 y0 y1 : List UInt8) (li : Called Tryz.prog 82 [.int .i64 4, .fn 84 [] [.ref [.slf 2 4 (fun j => List.take 2 (List.drop (j * 2) [.str (W 0).1, .str (W 0).2, .str (W 1).1, .str (W 1).2, .str (W 2).1, .str (W 2).2, .str (W 3).1, .str (W 3).2]))], .ref [.slf 1 4 (fun j => List.take 1 (List.drop (j * 1) [.ints .i64 (U 0), .ints .i64 (U 1), .ints .i64 (U 2), .ints .i64 (U 3)]))], .ref [.int .i64 out]]] (.tup [.slf 2 4 (fun j => List.take 2 (List.drop (j * 2) [.str (M 0).1, .str (M 0).2, .str (M 1).1, .str (M 1).2, .str (M 2).1, .str (M 2).2, .str (M 3).1, .str (M 3).2])), .int .i64 0]))
  (su : Called Tryz.prog 87 [.slf 2 4 (fun j => List.take 2 (List.drop (j * 2) [.str (M 0).1, .str (M 0).2, .str (M 1).1, .str (M 1).2, .str (M 2).1, .str (M 2).2, .str (M 3).1, .str (M 3).2]))] (.tup [.agg [.str (S 3).1, .str (S 3).2], .int .i64 0])) (fu : Called Tryz.prog 86 [.int .i64 65535] (.agg [.str f0, .str f1])) (dv : Called Tryz.prog 88 [.agg [.str (S 3).1, .str (S 3).2], .agg [.str f0, .str f1]] (.tup [.agg [.str y0, .str y1], .int .i64 0])) :
  Called Tryz.prog 83 [.int .i64 out, .ref [.slf 1 4 (fun j => List.take 1 (List.drop (j * 1) [.ints .i64 (U 0), .ints .i64 (U 1), .ints .i64 (U 2), .ints .i64 (U 3)]))], .ref [.slf 2 4 (fun j => List.take 2 (List.drop (j * 2) [.str (W 0).1, .str (W 0).2, .str (W 1).1, .str (W 1).2, .str (W 2).1, .str (W 2).2, .str (W 3).1, .str (W 3).2]))]] (.tup [.agg [.str y0, .str y1], .int .i64 0]) := by
 refine jaa tbOk 6 ⟨Tryz.func83, rfl, rfl, jhO rfl⟩ ?_
 (conv => whnf)
 refine V.r2 @jhS li su ?_
 refine ⟨(.take 0 (.ev (.cons 1 [0] (.ev (.cons 2 [] (.take 3 (.take 4 (.ev (.cons 5 [] (.take 6 (.done)) (.nil))))) (.nil))) (.nil)))), [], ⟨by kernel_rfl, by kernel_rfl, by kernel_rfl, by kernel_rfl⟩, ?_⟩
 refine jac [(5, .int .i64 0)] [(4, .box [.str y0, .str y1])] ?_ ?_
 ·exact V.d2 @jhS fu dv
 refine V.r0 @jhS ?_
 exact Fin.of rfl
theorem xd1 : ((1 : Int) - 1).toNat = 0 := rfl
theorem xd2 : ((2 : Int) - 1).toNat = 1 := rfl
theorem xd3 : ((3 : Int) - 1).toNat = 2 := rfl
def atK (a : List Int) (xs : List Int) : Nat → List Int
 | 0 => a
 | k + 1 => (atK a xs k).set (xs.getD k 0).toNat ((atK a xs k).getD (xs.getD k 0).toNat 0 + 1)
theorem jbn (a xs : List Int) : ∀ k, a.length = 4 → (atK a xs k).length = 4
 | 0, h => h
 | k + 1, h => by simp only [atK]; rw [List.length_set]; exact jbn a xs k h
def atS (a xs : List Int) : Nat → List Int
 | 0 => a
 | k + 1 => atK a xs k
def wcv : Nat → D
 | 0 => .nil
 | k + 1 => .bsl 109 0 (k + 1) 2
def pcv : Nat → D
 | 0 => .nil
 | k + 1 => .bsl 113 0 (k + 1) 1
def pce (U : Nat → List Int) : Nat → List D
 | 0 => []
 | k + 1 => pce U k ++ [.ints .i64 (U k)]
def tlv (W : Nat → Tx) (U : Nat → List Int) : Nat → Hp
 | 0 => []
 | k + 1 => [(109, .box (wce W (k + 1))), (113, .box (pce U (k + 1)))]
theorem jhJ : type_of% @jhS ∧ type_of% @tn0 ∧ type_of% @tn1 ∧ type_of% @tn2 ∧ type_of% @tn3 ∧ type_of% @xd1 ∧ type_of% @xd2 ∧ type_of% @xd3 ∧ type_of% @xt4 := ⟨@jhS, @tn0, @tn1, @tn2, @tn3, @xd1, @xd2, @xd3, @xt4⟩
theorem point2_t (z0 z1 b0 b1 out : Int) (data xs at' v : List Int) (W : Nat → Tx) (hl : at'.length = 4) (ga : Called Tryz.prog 20 [.agg [.ints .i64 [z0, z1], .int .i64 out, .ints .i64 data], .ints .i64 (at'.take 2)] (.tup [.ints .i64 v, .int .i64 0])) :
  Called Tryz.prog 80 [.agg [.ints .i64 [z0, z1], .int .i64 out, .ints .i64 data, .ints .i64 [b0, b1], .ints .i64 xs, .slf 2 3 (fun j => List.take 2 (List.drop (j * 2) [.str (W 0).1, .str (W 0).2, .str (W 1).1, .str (W 1).2, .str (W 2).1, .str (W 2).2]))], .iarr .i64 at'] (.tup [.ints .i64 v, .int .i64 0]) := by
 obtain ⟨a0, a1, a2, a3, rfl⟩ : ∃ a0 a1 a2 a3 : Int, at' = [a0, a1, a2, a3] := by
  match at', hl with
  | [a0, a1, a2, a3], _ => exact ⟨a0, a1, a2, a3, rfl⟩
 refine jaa tbOk 6 ⟨Tryz.func80, rfl, rfl, jhO rfl⟩ ?_
 (conv => whnf)
 refine V.r0 @jhS ?_
 refine ⟨(.take 0 (.take 1 (.take 2 (.take 3 (.take 4 (.take 5 (.take 6 (.ev (.cons 7 [] (.take 8 (.take 9 (.take 10 (.take 11 (.done))))) (.nil)))))))))), [], ⟨by kernel_rfl, by kernel_rfl, by kernel_rfl, by kernel_rfl⟩, ?_⟩
 refine jac [(3, .any), (4, .ints .i64 v), (5, .int .i64 0)] [(3, .gone)] ?_ ?_
 ·exact V.d1 @jhS ga
 refine V.r0 @jhS ?_
 exact Fin.of rfl
theorem corners2_t (z0 z1 b0 b1 out : Int) (data xs : List Int) (W : Nat → Tx) : Called Tryz.prog 81 [.agg [.ints .i64 [z0, z1], .int .i64 out, .ints .i64 data, .ints .i64 [b0, b1], .ints .i64 xs, .slf 2 3 (fun j => List.take 2 (List.drop (j * 2) [.str (W 0).1, .str (W 0).2, .str (W 1).1, .str (W 1).2, .str (W 2).1, .str (W 2).2]))]] (.fn 128 [] [.ref [.ints .i64 [z0, z1], .int .i64 out, .ints .i64 data, .ints .i64 [b0, b1], .ints .i64 xs, .slf 2 3 (fun j => List.take 2 (List.drop (j * 2) [.str (W 0).1, .str (W 0).2, .str (W 1).1, .str (W 1).2, .str (W 2).1, .str (W 2).2]))]]) := by
 refine jaa tbOk 6 ⟨Tryz.func81, rfl, rfl, jhO rfl⟩ ?_
 (conv => whnf)
 refine V.r0 @jhS ?_
 exact Fin.of rfl
theorem value2_t (z0 z1 b0 b1 out : Int) (data xs : List Int) (W : Nat → Tx) (U : Nat → List Int) (Y : Nat → List D) (e0 : Nat) (hl : xs.length = 2) (hx : ∀ k, k < 2 → 0 ≤ xs.getD k 0 ∧ xs.getD k 0 < 4) (hi : ∀ k, k < 2 → InR .i64 ((atK [b0, b1, 0, 0] xs k).getD (xs.getD k 0).toNat 0 + 1))
  (pt : ∀ k, k < 3 → Called Tryz.prog 80 [.agg [.ints .i64 [z0, z1], .int .i64 out, .ints .i64 data, .ints .i64 [b0, b1], .ints .i64 xs, .slf 2 3 (fun j => List.take 2 (List.drop (j * 2) [.str (W 0).1, .str (W 0).2, .str (W 1).1, .str (W 1).2, .str (W 2).1, .str (W 2).2]))], .iarr .i64 (atK [b0, b1, 0, 0] xs k)] (.tup [.ints .i64 (U k), .int .i64 0]))
  (li : Called Tryz.prog 82 [.int .i64 out, .fn 83 [] [.ref [.slf 1 3 (fun j => List.take 1 (List.drop (j * 1) [.ints .i64 (U 0), .ints .i64 (U 1), .ints .i64 (U 2)]))], .ref [.slf 2 3 (fun j => List.take 2 (List.drop (j * 2) [.str (W 0).1, .str (W 0).2, .str (W 1).1, .str (W 1).2, .str (W 2).1, .str (W 2).2]))]]] (.tup [.slf 2 e0 Y, .int .i64 0])) :
  Called Tryz.prog 45 [.agg [.ints .i64 [z0, z1], .int .i64 out, .ints .i64 data, .ints .i64 [b0, b1], .ints .i64 xs, .slf 2 3 (fun j => List.take 2 (List.drop (j * 2) [.str (W 0).1, .str (W 0).2, .str (W 1).1, .str (W 1).2, .str (W 2).1, .str (W 2).2]))]] (.tup [.slf 2 e0 Y, .int .i64 0]) := by
 have co := corners2_t z0 z1 b0 b1 out data xs W
 refine jaa tbOk 6 ⟨Tryz.func45, rfl, rfl, jhO rfl⟩ ?_
 (conv => whnf)
 refine V.r1 @jhS co ?_
 refine ⟨_, _, ⟨Tryz.func128, rfl, rfl, jhO rfl⟩, ?_⟩
 (conv => whnf)
 refine V.r0 @jhS ?_
 refine ⟨(.take 0 (.take 1 (.take 2 (.ev (.cons 3 [] (.done) (.nil)))))), [], ⟨by kernel_rfl, by kernel_rfl, by kernel_rfl, by kernel_rfl⟩, ?_⟩
 refine jac [] [(47, .arr .i64 [b0, b1, 0, 0])] ?_ ?_
 ·exact V.d0 @jhS
 refine V.r0 @jhS ?_
 refine jah 0 (fun k => k ≤ 3) (fun k => 3 - k) (fun k => [(13, .int .i64 k)]) (fun k => (43, .lp none) :: (47, .arr .i64 (atS [b0, b1, 0, 0] xs k)) :: (5, .box [wcv k]) :: (6, .box [pcv k]) :: (7, .box [.int .i64 0]) :: tlv W U k) ?_ ?_ ?_
 ·exact V.wk
 ·exact jhP _
 intro k hk
 have hk4 : k = 0 ∨ k = 1 ∨ k = 2 ∨ k = 3 := by omega
 rcases hk4 with e | e | e | e
 all_goals subst e
 ·simp only [k0, atS, wcv, pcv, tlv]
  have p := pt 0 (by omega)
  simp only [atK] at p
  refine V.r1 jhJ p ?_
  exact ⟨1, by omega, by omega, V.wk⟩
 ·simp only [k1, atS, wcv, pcv, tlv]
  have p := pt 1 (by omega)
  have g := hx 0 (by omega)
  have h := hi 0 (by omega)
  have l4 := jbn [b0, b1, 0, 0] xs 0 rfl
  have l5 := jbn [b0, b1, 0, 0] xs 1 rfl
  simp only [atK] at p h l4 l5 ⊢
  refine V.r1 jhJ p ?_
  exact ⟨2, by omega, by omega, V.wk⟩
 ·simp only [k2, atS, wcv, pcv, tlv]
  have p := pt 2 (by omega)
  have g := hx 1 (by omega)
  have h := hi 1 (by omega)
  have l4 := jbn [b0, b1, 0, 0] xs 1 rfl
  have l5 := jbn [b0, b1, 0, 0] xs 2 rfl
  simp only [atK] at p h l4 l5 ⊢
  refine V.r1 jhJ p ?_
  exact ⟨3, by omega, by omega, V.wk⟩
 ·simp only [k3, atS, wcv, pcv, tlv]
  (conv => whnf)
  repeat ((fail_if_success (with_reducible refine Cnd.split ?_)); refine V.s1 ?_; (try simp only [jhS]))
  refine V.s1 ?_
  (conv => whnf)
  repeat ((fail_if_success (with_reducible refine Cnd.split ?_)); refine V.s1 ?_; (try simp only [jhS]))
  refine jbQ [(5, .ref [.slf 2 3 (fun j => List.take 2 (List.drop (j * 2) [.str (W 0).1, .str (W 0).2, .str (W 1).1, .str (W 1).2, .str (W 2).1, .str (W 2).2]))]), (6, .ref [.slf 1 3 (fun j => List.take 1 (List.drop (j * 1) [.ints .i64 (U 0), .ints .i64 (U 1), .ints .i64 (U 2)]))])] [(5, .gone), (6, .gone), (109, .gone), (113, .gone)] (CondB.mk (fun h => absurd h (by decide)) (fun _ => ?_)) ?_
  ·(conv => whnf)
   refine Wk.pub 109 ?_
   (conv => whnf)
   refine Wk.pub 113 ?_
   (conv => whnf)
   refine Wk.pub 5 ?_
   (conv => whnf)
   refine Wk.pub 6 ?_
   (conv => whnf)
   simp only [jhS]
   exact V.wk
  refine V.r1 @jhS li ?_
  exact Fin.of rfl
theorem point3_t (z0 z1 z2 b0 b1 b2 out : Int) (data xs at' v : List Int) (W : Nat → Tx) (hl : at'.length = 4) (ga : Called Tryz.prog 20 [.agg [.ints .i64 [z0, z1, z2], .int .i64 out, .ints .i64 data], .ints .i64 (at'.take 3)] (.tup [.ints .i64 v, .int .i64 0])) :
  Called Tryz.prog 80 [.agg [.ints .i64 [z0, z1, z2], .int .i64 out, .ints .i64 data, .ints .i64 [b0, b1, b2], .ints .i64 xs, .slf 2 4 (fun j => List.take 2 (List.drop (j * 2) [.str (W 0).1, .str (W 0).2, .str (W 1).1, .str (W 1).2, .str (W 2).1, .str (W 2).2, .str (W 3).1, .str (W 3).2]))], .iarr .i64 at'] (.tup [.ints .i64 v, .int .i64 0]) := by
 obtain ⟨a0, a1, a2, a3, rfl⟩ : ∃ a0 a1 a2 a3 : Int, at' = [a0, a1, a2, a3] := by
  match at', hl with
  | [a0, a1, a2, a3], _ => exact ⟨a0, a1, a2, a3, rfl⟩
 refine jaa tbOk 6 ⟨Tryz.func80, rfl, rfl, jhO rfl⟩ ?_
 (conv => whnf)
 refine V.r0 @jhS ?_
 refine ⟨(.take 0 (.take 1 (.take 2 (.take 3 (.take 4 (.take 5 (.take 6 (.ev (.cons 7 [] (.take 8 (.take 9 (.take 10 (.take 11 (.done))))) (.nil)))))))))), [], ⟨by kernel_rfl, by kernel_rfl, by kernel_rfl, by kernel_rfl⟩, ?_⟩
 refine jac [(3, .any), (4, .ints .i64 v), (5, .int .i64 0)] [(3, .gone)] ?_ ?_
 ·exact V.d1 @jhS ga
 refine V.r0 @jhS ?_
 exact Fin.of rfl
theorem corners3_t (z0 z1 z2 b0 b1 b2 out : Int) (data xs : List Int) (W : Nat → Tx) : Called Tryz.prog 81 [.agg [.ints .i64 [z0, z1, z2], .int .i64 out, .ints .i64 data, .ints .i64 [b0, b1, b2], .ints .i64 xs, .slf 2 4 (fun j => List.take 2 (List.drop (j * 2) [.str (W 0).1, .str (W 0).2, .str (W 1).1, .str (W 1).2, .str (W 2).1, .str (W 2).2, .str (W 3).1, .str (W 3).2]))]] (.fn 128 [] [.ref [.ints .i64 [z0, z1, z2], .int .i64 out, .ints .i64 data, .ints .i64 [b0, b1, b2], .ints .i64 xs, .slf 2 4 (fun j => List.take 2 (List.drop (j * 2) [.str (W 0).1, .str (W 0).2, .str (W 1).1, .str (W 1).2, .str (W 2).1, .str (W 2).2, .str (W 3).1, .str (W 3).2]))]]) := by
 refine jaa tbOk 6 ⟨Tryz.func81, rfl, rfl, jhO rfl⟩ ?_
 (conv => whnf)
 refine V.r0 @jhS ?_
 exact Fin.of rfl
theorem value3_t (z0 z1 z2 b0 b1 b2 out : Int) (data xs : List Int) (W : Nat → Tx) (U : Nat → List Int) (Y : Nat → List D) (e0 : Nat) (hl : xs.length = 3) (hx : ∀ k, k < 3 → 0 ≤ xs.getD k 0 ∧ xs.getD k 0 < 4) (hi : ∀ k, k < 3 → InR .i64 ((atK [b0, b1, b2, 0] xs k).getD (xs.getD k 0).toNat 0 + 1))
  (pt : ∀ k, k < 4 → Called Tryz.prog 80 [.agg [.ints .i64 [z0, z1, z2], .int .i64 out, .ints .i64 data, .ints .i64 [b0, b1, b2], .ints .i64 xs, .slf 2 4 (fun j => List.take 2 (List.drop (j * 2) [.str (W 0).1, .str (W 0).2, .str (W 1).1, .str (W 1).2, .str (W 2).1, .str (W 2).2, .str (W 3).1, .str (W 3).2]))], .iarr .i64 (atK [b0, b1, b2, 0] xs k)] (.tup [.ints .i64 (U k), .int .i64 0]))
  (li : Called Tryz.prog 82 [.int .i64 out, .fn 83 [] [.ref [.slf 1 4 (fun j => List.take 1 (List.drop (j * 1) [.ints .i64 (U 0), .ints .i64 (U 1), .ints .i64 (U 2), .ints .i64 (U 3)]))], .ref [.slf 2 4 (fun j => List.take 2 (List.drop (j * 2) [.str (W 0).1, .str (W 0).2, .str (W 1).1, .str (W 1).2, .str (W 2).1, .str (W 2).2, .str (W 3).1, .str (W 3).2]))]]] (.tup [.slf 2 e0 Y, .int .i64 0])) :
  Called Tryz.prog 45 [.agg [.ints .i64 [z0, z1, z2], .int .i64 out, .ints .i64 data, .ints .i64 [b0, b1, b2], .ints .i64 xs, .slf 2 4 (fun j => List.take 2 (List.drop (j * 2) [.str (W 0).1, .str (W 0).2, .str (W 1).1, .str (W 1).2, .str (W 2).1, .str (W 2).2, .str (W 3).1, .str (W 3).2]))]] (.tup [.slf 2 e0 Y, .int .i64 0]) := by
 have co := corners3_t z0 z1 z2 b0 b1 b2 out data xs W
 refine jaa tbOk 6 ⟨Tryz.func45, rfl, rfl, jhO rfl⟩ ?_
 (conv => whnf)
 refine V.r1 @jhS co ?_
 refine ⟨_, _, ⟨Tryz.func128, rfl, rfl, jhO rfl⟩, ?_⟩
 (conv => whnf)
 refine V.r0 @jhS ?_
 refine ⟨(.take 0 (.take 1 (.take 2 (.ev (.cons 3 [] (.done) (.nil)))))), [], ⟨by kernel_rfl, by kernel_rfl, by kernel_rfl, by kernel_rfl⟩, ?_⟩
 refine jac [] [(47, .arr .i64 [b0, b1, b2, 0])] ?_ ?_
 ·exact V.d0 @jhS
 refine V.r0 @jhS ?_
 refine jah 0 (fun k => k ≤ 4) (fun k => 4 - k) (fun k => [(13, .int .i64 k)]) (fun k => (43, .lp none) :: (47, .arr .i64 (atS [b0, b1, b2, 0] xs k)) :: (5, .box [wcv k]) :: (6, .box [pcv k]) :: (7, .box [.int .i64 0]) :: tlv W U k) ?_ ?_ ?_
 ·exact V.wk
 ·exact jhP _
 intro k hk
 have hk4 : k = 0 ∨ k = 1 ∨ k = 2 ∨ k = 3 ∨ k = 4 := by omega
 rcases hk4 with e | e | e | e | e
 all_goals subst e
 ·simp only [k0, atS, wcv, pcv, tlv]
  have p := pt 0 (by omega)
  simp only [atK] at p
  refine V.r1 jhJ p ?_
  exact ⟨1, by omega, by omega, V.wk⟩
 ·simp only [k1, atS, wcv, pcv, tlv]
  have p := pt 1 (by omega)
  have g := hx 0 (by omega)
  have h := hi 0 (by omega)
  have l4 := jbn [b0, b1, b2, 0] xs 0 rfl
  have l5 := jbn [b0, b1, b2, 0] xs 1 rfl
  simp only [atK] at p h l4 l5 ⊢
  refine V.r1 jhJ p ?_
  exact ⟨2, by omega, by omega, V.wk⟩
 ·simp only [k2, atS, wcv, pcv, tlv]
  have p := pt 2 (by omega)
  have g := hx 1 (by omega)
  have h := hi 1 (by omega)
  have l4 := jbn [b0, b1, b2, 0] xs 1 rfl
  have l5 := jbn [b0, b1, b2, 0] xs 2 rfl
  simp only [atK] at p h l4 l5 ⊢
  refine V.r1 jhJ p ?_
  exact ⟨3, by omega, by omega, V.wk⟩
 ·simp only [k3, atS, wcv, pcv, tlv]
  have p := pt 3 (by omega)
  have g := hx 2 (by omega)
  have h := hi 2 (by omega)
  have l4 := jbn [b0, b1, b2, 0] xs 2 rfl
  have l5 := jbn [b0, b1, b2, 0] xs 3 rfl
  simp only [atK] at p h l4 l5 ⊢
  refine V.r1 jhJ p ?_
  exact ⟨4, by omega, by omega, V.wk⟩
 ·simp only [xk4, atS, wcv, pcv, tlv]
  (conv => whnf)
  repeat ((fail_if_success (with_reducible refine Cnd.split ?_)); refine V.s1 ?_; (try simp only [jhS]))
  refine V.s1 ?_
  (conv => whnf)
  repeat ((fail_if_success (with_reducible refine Cnd.split ?_)); refine V.s1 ?_; (try simp only [jhS]))
  refine jbQ [(5, .ref [.slf 2 4 (fun j => List.take 2 (List.drop (j * 2) [.str (W 0).1, .str (W 0).2, .str (W 1).1, .str (W 1).2, .str (W 2).1, .str (W 2).2, .str (W 3).1, .str (W 3).2]))]), (6, .ref [.slf 1 4 (fun j => List.take 1 (List.drop (j * 1) [.ints .i64 (U 0), .ints .i64 (U 1), .ints .i64 (U 2), .ints .i64 (U 3)]))])] [(5, .gone), (6, .gone), (109, .gone), (113, .gone)] (CondB.mk (fun h => absurd h (by decide)) (fun _ => ?_)) ?_
  ·(conv => whnf)
   refine Wk.pub 109 ?_
   (conv => whnf)
   refine Wk.pub 113 ?_
   (conv => whnf)
   refine Wk.pub 5 ?_
   (conv => whnf)
   refine Wk.pub 6 ?_
   (conv => whnf)
   simp only [jhS]
   exact V.wk
  refine V.r1 @jhS li ?_
  exact Fin.of rfl
theorem jhz : type_of% @jhS ∧ type_of% @tn0 ∧ type_of% @tn1 ∧ type_of% @tn2 ∧ type_of% @tn3 := ⟨@jhS, @tn0, @tn1, @tn2, @tn3⟩
theorem jhH : type_of% @jhT ∧ type_of% @jhS ∧ type_of% @tns := ⟨@jhT, @jhS, @tns⟩
theorem zX13b_2 : type_of% @List.length_set.{0} ∧ type_of% @jhS := ⟨@List.length_set.{0}, @jhS⟩
theorem find2_t (z0 z1 out b0 b1 : Int) (data : List Int) (x0 y0 x1 y1 o0 o1 : List UInt8) (R Bf W : Nat → Tx)
  (sp0 : Called Tryz.prog 124 [.agg [.str x0, .str y0], .int .i64 z0] (.tup [.int .i64 b0, .agg [.str (R 0).1, .str (R 0).2], .int .i64 0]))
  (sp1 : Called Tryz.prog 124 [.agg [.str x1, .str y1], .int .i64 z1] (.tup [.int .i64 b1, .agg [.str (R 1).1, .str (R 1).2], .int .i64 0]))
  (io : Called Tryz.prog 86 [.int .i64 1] (.agg [.str o0, .str o1])) (w : Int → Int → Int) (cm : ∀ a b : Nat, a < 2 → b < 2 → Called Tryz.prog 126 [.int .i64 a, .int .i64 b, .ref [.slf 2 2 (fun j => List.take 2 (List.drop (j * 2) [.str (R 0).1, .str (R 0).2, .str (R 1).1, .str (R 1).2]))]] (.int .i64 (w a b)))
  (hBf0 : Bf 0 = (o0, o1)) (hBf : ∀ k, k < 2 → Bf (k + 1) = R ((isoK w [0, 1] (2 - 1)).getD k 0).toNat) (sb : ∀ k, k < 2 → Called Tryz.prog 99 [.agg [.str (Bf k).1, .str (Bf k).2], .agg [.str (R ((isoK w [0, 1] (2 - 1)).getD k 0).toNat).1, .str (R ((isoK w [0, 1] (2 - 1)).getD k 0).toNat).2]] (.tup [.agg [.str (W k).1, .str (W k).2], .int .i64 0])) :
  Called Tryz.prog 79 [.agg [.ints .i64 [z0, z1], .int .i64 out, .ints .i64 data], .slf 2 2 (fun j => List.take 2 (List.drop (j * 2) [.str x0, .str y0, .str x1, .str y1]))] (.tup [.agg [.ints .i64 [z0, z1], .int .i64 out, .ints .i64 data, .ints .i64 [b0, b1], .ints .i64 (isoK w [0, 1] (2 - 1)), .slf 2 3 (fun j => List.take 2 (List.drop (j * 2) [.str (W 0).1, .str (W 0).2, .str (W 1).1, .str (W 1).2, .str (Bf 2).1, .str (Bf 2).2]))], .int .i64 0]) := by
  refine jaa tbOk 6 ⟨Tryz.func79, rfl, rfl, jhO rfl⟩ ?_
  (conv => whnf)
  refine V.r0 @jhS ?_
  refine ⟨(.take 0 (.take 1 (.take 2 (.take 4 (.take 5 (.ev (.cons 3 [5, 4, 0] (.ev (.cons 6 [0] (.take 7 (.ev (.cons 8 [7, 0] (.ev (.cons 9 [] (.done) (.nil))) (.nil)))) (.cons 8 [5, 4, 0] (.ev (.cons 6 [0] (.take 7 (.ev (.cons 9 [] (.done) (.nil)))) (.nil))) (.nil)))) (.cons 6 [2, 1, 0] (.ev (.cons 3 [0] (.take 7 (.ev (.cons 8 [7, 0] (.ev (.cons 9 [] (.done) (.nil))) (.nil)))) (.cons 8 [2, 1, 0] (.ev (.cons 3 [0] (.take 7 (.ev (.cons 9 [] (.done) (.nil)))) (.nil))) (.nil)))) (.cons 8 [5, 4, 2, 1, 0] (.ev (.cons 3 [5, 4, 0] (.ev (.cons 6 [0] (.take 7 (.ev (.cons 9 [] (.done) (.nil)))) (.nil))) (.cons 6 [2, 1, 0] (.ev (.cons 3 [0] (.take 7 (.ev (.cons 9 [] (.done) (.nil)))) (.nil))) (.nil)))) (.nil)))))))))), [], ⟨by kernel_rfl, by kernel_rfl, by kernel_rfl, by kernel_rfl⟩, ?_⟩
  refine jac [(6, .box 6 0), (17, .osl 17 0 2), (20, .osl 20 0 2)] [(6, .box [.ints .i64 [z0, z1], .int .i64 out, .ints .i64 data, .osl 17 0 2, .osl 20 0 2, .nil]), (17, .arr .i64 [0, 0]), (20, .arr .i64 [0, 0])] ?_ ?_
  ·exact V.d0 @jhS
  refine V.r0 @jhS ?_
  refine .inl ?_
  (conv => whnf)
  refine ⟨0, _, _, ⟨Tryz.func82, rfl, rfl, jhO rfl⟩, ?_⟩
  (conv => whnf)
  refine V.r0 @jhS ?_
  refine jah (0) (fun k => k ≤ 2) (fun k => 2 - k) (fun k => [(14, .int .i64 k)]) (fun k => [(88, .box (preD (2 * k) [.str (R 0).1, .str (R 0).2, .str (R 1).1, .str (R 1).2])), (17, .arr .i64 (preZ k [b0, b1])), (20, .arr .i64 (preZ k [0, 1]))]) ?_ ?_ ?_
  ·exact V.wk
  ·exact jhP _
  intro k hk
  have hk4 : k = 0 ∨ k = 1 ∨ k = 2 := by omega
  rcases hk4 with e | e | e
  all_goals subst e
  ·simp only [k0]
   have q1 : (preZ 0 [b0, b1]).length = 2 := rfl
   have q2 : (preZ 0 [0, 1]).length = 2 := rfl
   refine V.r0 jhz ?_
   refine .inl ?_
   (conv => whnf)
   refine ⟨0, _, _, ⟨Tryz.func123, rfl, rfl, jhO rfl⟩, ?_⟩
   (conv => whnf)
   refine V.r0 jhz ?_
   refine ⟨(.take 0 (.take 1 (.take 2 (.take 3 (.take 4 (.take 5 (.take 6 (.take 7 (.take 8 (.ev (.cons 9 [] (.take 10 (.take 11 (.take 12 (.take 13 (.ev (.cons 14 [13, 12, 11, 10] (.take 15 (.ev (.cons 16 [13] (.take 17 (.done)) (.nil)))) (.nil))))))) (.cons 14 [8, 7, 6, 5, 4, 3, 2, 1, 0] (.ev (.cons 9 [] (.take 10 (.take 11 (.take 12 (.take 13 (.take 15 (.ev (.cons 16 [13] (.take 17 (.done)) (.nil)))))))) (.nil))) (.nil))))))))))))), [], ⟨by kernel_rfl, by kernel_rfl, by kernel_rfl, by kernel_rfl⟩, ?_⟩
   refine jac [(8, .box 118 0), (7, .int .i64 b0), (9, .int .i64 0)] [(118, .box [.str (R 0).1, .str (R 0).2])] ?_ ?_
   ·exact V.d1 jhz sp0
   refine V.r0 jhz ?_
   refine ⟨(.take 0 (.take 1 (.take 2 (.take 3 (.take 4 (.take 5 (.take 6 (.take 7 (.take 8 (.ev (.cons 9 [7, 5, 4, 3] (.take 10 (.ev (.cons 11 [] (.done) (.nil)))) (.nil)))))))))))), [], ⟨by kernel_rfl, by kernel_rfl, by kernel_rfl, by kernel_rfl⟩, ?_⟩
   refine jac [] [(17, .arr .i64 (preZ 1 [b0, b1])), (20, .arr .i64 (preZ 1 [0, 1]))] ?_ ?_
   ·exact V.d0 jhz
   refine V.r0 jhz ?_
   exact ⟨1, by omega, by omega, V.wk⟩
  ·simp only [k1]
   have q1 : (preZ 1 [b0, b1]).length = 2 := rfl
   have q2 : (preZ 1 [0, 1]).length = 2 := rfl
   refine V.r0 jhz ?_
   refine .inl ?_
   (conv => whnf)
   refine ⟨0, _, _, ⟨Tryz.func123, rfl, rfl, jhO rfl⟩, ?_⟩
   (conv => whnf)
   refine V.r0 jhz ?_
   refine ⟨(.take 0 (.take 1 (.take 2 (.take 3 (.take 4 (.take 5 (.take 6 (.take 7 (.take 8 (.ev (.cons 9 [] (.take 10 (.take 11 (.take 12 (.take 13 (.ev (.cons 14 [13, 12, 11, 10] (.take 15 (.ev (.cons 16 [13] (.take 17 (.done)) (.nil)))) (.nil))))))) (.cons 14 [8, 7, 6, 5, 4, 3, 2, 1, 0] (.ev (.cons 9 [] (.take 10 (.take 11 (.take 12 (.take 13 (.take 15 (.ev (.cons 16 [13] (.take 17 (.done)) (.nil)))))))) (.nil))) (.nil))))))))))))), [], ⟨by kernel_rfl, by kernel_rfl, by kernel_rfl, by kernel_rfl⟩, ?_⟩
   refine jac [(8, .box 118 0), (7, .int .i64 b1), (9, .int .i64 0)] [(118, .box [.str (R 1).1, .str (R 1).2])] ?_ ?_
   ·exact V.d1 jhz sp1
   refine V.r0 jhz ?_
   refine ⟨(.take 0 (.take 1 (.take 2 (.take 3 (.take 4 (.take 5 (.take 6 (.take 7 (.take 8 (.ev (.cons 9 [7, 5, 4, 3] (.take 10 (.ev (.cons 11 [] (.done) (.nil)))) (.nil)))))))))))), [], ⟨by kernel_rfl, by kernel_rfl, by kernel_rfl, by kernel_rfl⟩, ?_⟩
   refine jac [] [(17, .arr .i64 (preZ 2 [b0, b1])), (20, .arr .i64 (preZ 2 [0, 1]))] ?_ ?_
   ·exact V.d0 jhz
   refine V.r0 jhz ?_
   exact ⟨2, by omega, by omega, V.wk⟩
  ·simp only [k2]
   (conv => whnf)
   repeat ((fail_if_success (with_reducible refine Cnd.split ?_)); refine V.s1 ?_; (try simp only [jhS]))
   refine V.s1 ?_
   (conv => whnf)
   repeat ((fail_if_success (with_reducible refine Cnd.split ?_)); refine V.s1 ?_; (try simp only [jhS]))
   refine jbQ [(7, .ref [.slf 2 2 (fun j => List.take 2 (List.drop (j * 2) [.str (R 0).1, .str (R 0).2, .str (R 1).1, .str (R 1).2]))]), (22, .any), (26, .any), (27, .any)] [(7, .gone), (88, .gone)] (CondB.mk (fun h => absurd h (by decide)) (fun _ => ?_)) ?_
   ·(conv => whnf)
    refine Wk.pub 88 ?_
    (conv => whnf)
    refine Wk.pub 7 ?_
    (conv => whnf)
    simp only [jhS]
    exact V.wk
   refine V.r0 @jhS ?_
   refine .inl ?_
   (conv => whnf)
   refine ⟨0, _, _, ⟨Tryz.func125, rfl, rfl, jhO rfl⟩, ?_⟩
   (conv => whnf)
   refine V.r0 @jhS ?_
   refine .inl ?_
   (conv => whnf)
   refine ⟨0, _, _, ⟨Tryz.func163, rfl, rfl, jhO rfl⟩, ?_⟩
   (conv => whnf)
   refine V.r0 @jhS ?_
   refine jah (0) (fun k => k = 0) (fun k => k) (fun k => [(7, .int .i64 0), (8, .int .i64 20)]) (fun k => []) ?_ ?_ ?_
   ·exact V.wk
   ·rfl
   intro k hk
   refine V.r0 @jhS ?_
   refine .inl ?_
   (conv => whnf)
   refine ⟨0, _, _, ⟨Tryz.func193, rfl, rfl, jhO rfl⟩, ?_⟩
   (conv => whnf)
   refine V.r0 @jhS ?_
   refine jah (0) (fun k => k + 1 ≤ 2) (fun k => 2 - k) (fun k => [(8, .int .i64 ((k + 1 : Nat) : Int))]) (fun k => [(20, .arr .i64 (isoK w [0, 1] k))]) ?_ ?_ ?_
   ·exact V.wk
   ·omega
   clear hk
   intro k hk
   have hB := jhq w (n := 2) (xs := [0, 1]) ⟨rfl, fun i hi => by
    have : i = 0 ∨ i = 1 ∨ i = 2 := by omega
    rcases this with e | e | e <;> subst e <;> first | decide | omega⟩ k (by omega)
   refine V.r0 @jhS ?_
   refine Cnd.split (CondB.mk (fun hq => ?_) (fun hq => ?_))
   ·have hk2 : k + 1 < 2 := by simp at hq; omega
    refine V.r0 @jhS ?_
    refine jah ((k + 1, isoK w [0, 1] k) : Nat × List Int) (fun s => s.1 ≤ k + 1 ∧ Bel 2 s.2 ∧ insJ w s.1 s.2 = isoK w [0, 1] (k + 1)) (fun s => s.1) (fun s => [(9, .int .i64 s.1)]) (fun s => [(20, .arr .i64 s.2)]) ?_ ?_ ?_
    ·exact V.wk
    ·exact ⟨jhU _, hB, rfl⟩
    rintro ⟨j, xs⟩ ⟨h1, h2, h3⟩
    dsimp only at h1 h2 h3 ⊢
    have hl := h2.1
    refine V.r0 @jhS ?_
    have c1 : (decide ((j : Int) > 0) = true) → Called Tryz.prog 126 [.int .i64 (xs.getD j 0), .int .i64 (xs.getD (j - 1) 0), .ref [.slf 2 2 (fun j => List.take 2 (List.drop (j * 2) [.str (R 0).1, .str (R 0).2, .str (R 1).1, .str (R 1).2]))]] (.int .i64 (w (xs.getD j 0) (xs.getD (j - 1) 0))) := fun h => by
     have hj : (j : Int) > 0 := of_decide_eq_true h
     have g1 := h2.2 j (by omega)
     have g2 := h2.2 (j - 1) (by omega)
     have c := cm (xs.getD j 0).toNat (xs.getD (j - 1) 0).toNat (by omega) (by omega)
     rw [Int.toNat_of_nonneg g1.1, Int.toNat_of_nonneg g2.1] at c
     exact c
    refine ⟨(.take 0 (.take 1 (.take 2 (.take 3 (.take 4 (.take 5 (.take 6 (.take 7 (.take 8 (.take 9 (.take 10 (.take 11 (.take 12 (.take 13 (.ev (.cons 14 [] (.take 15 (.take 16 (.done))) (.nil))))))))))))))))), [], ⟨by kernel_rfl, by kernel_rfl, by kernel_rfl, by kernel_rfl⟩, ?_⟩
    refine jac [(34, .bool (decide ((j : Int) > 0) && decide (w (xs.getD j 0) (xs.getD (j - 1) 0) < 0)))] [] ?_ ?_
    ·(conv => whnf); (try simp only [jhH])
     repeat' (first | exact V.wk | ((with_reducible refine And.intro ?_ jax); (conv => whnf); (try simp only [jhH])) | ((with_reducible first | refine jap ?_ ?_ | refine jat ?_ ?_) <;> (conv => whnf); (try simp only [jhH])) | ((first | refine V.s1 ?_ | ((with_reducible refine jal ?_ ?_); (focus ((conv => whnf); (try simp only [jhH]); (repeat ((first | refine V.s1 ?_ | ((refine ⟨_, c1, ?_⟩); (conv => whnf))); (try simp only [jhH]))); exact ⟨rfl⟩)); (conv => whnf)) | ((try ((with_reducible refine .ext ?_); (conv => whnf); (try simp only [jhH]))); (with_reducible refine jab (r := ?_) ?_ ?_); rotate_left; (focus (first | fail)); (conv => whnf)) | ((refine ⟨_, c1, ?_⟩); (conv => whnf))); (try simp only [jhH])) | (refine And.intro ?_ ?_ <;> (conv => whnf); (try simp only [jhH])))
    refine V.r0 @jhS ?_
    refine Cnd.split (CondB.mk (fun hq2 => ?_) (fun hq2 => ?_))
    ·have hj : 0 < j ∧ w (xs.getD j 0) (xs.getD (j - 1) 0) < 0 := by
      rw [jhN, decide_eq_true_eq, decide_eq_true_eq] at hq2
      omega
     obtain ⟨i, rfl⟩ : ∃ i, j = i + 1 := ⟨j - 1, by omega⟩
     rw [show i + 1 - 1 = i by omega] at hj
     have hw := jf5 h2 (show i + 1 < 2 by omega)
     have e1 : ((i + 1 : Nat) : Int).toNat = i + 1 := by omega
     have e2 : (((i + 1 : Nat) : Int) - 1).toNat = i := by omega
     have e3 : ((i + 1 : Nat) : Int) - 1 = (i : Int) := by omega
     have e4 : (i : Int).toNat = i := by omega
     have h3' : insJ w i ((xs.set (i + 1) (xs.getD i 0)).set i (xs.getD (i + 1) 0)) = isoK w [0, 1] (k + 1) := by
      rw [← h3]
      simp only [insJ]
      rw [if_pos hj.2]
     refine V.r0 @jhS ?_
     refine ⟨(.take 0 (.take 1 (.take 2 (.take 3 (.take 4 (.take 5 (.take 6 (.take 7 (.take 8 (.take 9 (.take 10 (.take 11 (.take 12 (.take 13 (.take 14 (.ev (.cons 15 [4, 3, 2] (.take 16 (.ev (.cons 17 [] (.done) (.nil)))) (.nil)))))))))))))))))), [], ⟨by kernel_rfl, by kernel_rfl, by kernel_rfl, by kernel_rfl⟩, ?_⟩
     refine jac [] [(20, .arr .i64 ((xs.set (i + 1) (xs.getD i 0)).set i (xs.getD (i + 1) 0)))] ?_ ?_
     ·exact V.d0 (V.a5 zX13b_2 e1 e2 e3 e4)
     refine V.r0 (V.a2 @jhS e3) ?_
     exact ⟨(i, (xs.set (i + 1) (xs.getD i 0)).set i (xs.getD (i + 1) 0)), ⟨by dsimp only; omega, hw, h3'⟩, by dsimp only; omega, V.wk⟩
    ·have hx : isoK w [0, 1] (k + 1) = xs := by
      rw [← h3]
      cases j with
      | zero => rfl
      | succ i =>
       simp only [insJ]
       rw [if_neg]
       intro h
       rw [Bool.and_eq_false_iff, decide_eq_false_iff_not, decide_eq_false_iff_not, show i + 1 - 1 = i by omega] at hq2
       omega
     refine V.r0 @jhS ?_
     refine ⟨k + 1, by omega, by omega, ?_⟩
     rw [hx]
     exact V.wk
   have hk2 : k + 1 = 2 := by simp at hq; omega
   have hk3 : k = 2 - 1 := by omega
   subst hk3
   refine V.r0 @jhS ?_
   refine jah (0) (fun k => k = 0) (fun k => k) (fun k => [(6, .int .i64 20)]) (fun k => []) ?_ ?_ ?_
   ·exact V.wk
   ·rfl
   clear hk
   intro k hk
   refine V.r0 @jhS ?_
   obtain ⟨xs, hxs⟩ : ∃ xs, isoK w [0, 1] (2 - 1) = xs := ⟨_, rfl⟩
   rw [hxs] at hB ⊢
   have hl := hB.1
   refine V.r1 @jhS io ?_
   have hr : ∀ m, m < 2 → List.take 2 (List.drop (m * 2) ([.str (R 0).1, .str (R 0).2, .str (R 1).1, .str (R 1).2] : List D)) = [.str (R m).1, .str (R m).2] := fun m hm => by
    have : m = 0 ∨ m = 1 ∨ m = 2 := by omega
    rcases this with e | e | e <;> subst e <;> first | rfl | omega
   have e0 := hr (xs.getD 0 0).toNat (by have := hB.2 0 (by omega); omega)
   have g0 := hB.2 0 (by omega)
   have sb0 := sb 0 (by omega)
   have hb0 := hBf 0 (by omega)
   rw [hxs] at sb0 hb0
   have e1 := hr (xs.getD 1 0).toNat (by have := hB.2 1 (by omega); omega)
   have g1 := hB.2 1 (by omega)
   have sb1 := sb 1 (by omega)
   have hb1 := hBf 1 (by omega)
   rw [hxs] at sb1 hb1
   have hb' : (Bf 0).1 = o0 ∧ (Bf 0).2 = o1 := by rw [hBf0]; exact ⟨rfl, rfl⟩
   refine jah 0 (fun k => k ≤ 2) (fun k => 2 - k) (fun k => [(41, .int .i64 k)]) (fun k => (9, .box [.str (Bf k).1, .str (Bf k).2]) :: (6, .box [.ints .i64 [z0, z1], .int .i64 out, .ints .i64 data, .osl 17 0 2, .osl 20 0 2, wcl k]) :: wch W k) ?_ ?_ ?_
   ·rw [hb'.1, hb'.2]
    exact V.wk
   ·exact jhP _
   clear hk
   intro k hk
   have hk4 : k = 0 ∨ k = 1 ∨ k = 2 := by omega
   rcases hk4 with e | e | e
   all_goals subst e
   ·simp only [k0, wcl, wch]
    refine V.r0 jhz ?_
    refine ⟨(.take 0 (.take 1 (.take 2 (.take 3 (.take 4 (.ev (.cons 5 [] (.take 6 (.take 7 (.take 8 (.ev (.cons 9 [8, 7, 6] (.ev (.cons 10 [8] (.take 11 (.done)) (.nil))) (.nil)))))) (.cons 9 [4, 3, 2, 1, 0] (.ev (.cons 5 [] (.take 6 (.take 7 (.take 8 (.ev (.cons 10 [8] (.take 11 (.done)) (.nil)))))) (.nil))) (.nil))))))))), [], ⟨by kernel_rfl, by kernel_rfl, by kernel_rfl, by kernel_rfl⟩, ?_⟩
    refine jac [(12, .box 12 0), (13, .int .i64 0)] [(12, .box [.str (W 0).1, .str (W 0).2])] ?_ ?_
    ·(conv => whnf); (try simp only [jhS])
     repeat' (first | exact V.wk | ((with_reducible refine And.intro ?_ jax); (conv => whnf); (try simp only [jhS])) | ((with_reducible first | refine jap ?_ ?_ | refine jat ?_ ?_) <;> (conv => whnf); (try simp only [jhS])) | ((first | refine V.s1 ?_ | ((with_reducible refine jal ?_ ?_); (focus ((conv => whnf); (try simp only [jhS]); (repeat ((first | refine V.s1 ?_ | ((simp only [e0]); (conv => whnf))); (try simp only [jhS]))); exact ⟨rfl⟩)); (conv => whnf)) | ((try ((with_reducible refine .ext ?_); (conv => whnf); (try simp only [jhS]))); (with_reducible refine jab (r := ?_) ?_ ?_); rotate_left; (focus (first | exact (sb0))); (conv => whnf)) | ((simp only [e0]); (conv => whnf))); (try simp only [jhS])) | (refine And.intro ?_ ?_ <;> (conv => whnf); (try simp only [jhS])))
    (conv => whnf)
    (try simp only [jhS])
    repeat ((first | refine V.s1 ?_ | ((try ((with_reducible refine .ext ?_); (conv => whnf); (try simp only [jhS]))); (with_reducible refine jab (r := ?_) ?_ ?_); rotate_left; (focus (first | fail)); (conv => whnf)) | ((simp only [e0]); (conv => whnf))); (try simp only [jhS]))
    refine ⟨1, by omega, by omega, ?_⟩
    rw [hb0]
    exact V.wk
   ·simp only [k1, wcl, wch]
    refine V.r0 jhz ?_
    refine ⟨(.take 0 (.take 1 (.take 2 (.take 3 (.take 4 (.ev (.cons 5 [] (.take 6 (.take 7 (.take 8 (.ev (.cons 9 [8, 7, 6] (.ev (.cons 10 [8] (.take 11 (.done)) (.nil))) (.nil)))))) (.cons 9 [4, 3, 2, 1, 0] (.ev (.cons 5 [] (.take 6 (.take 7 (.take 8 (.ev (.cons 10 [8] (.take 11 (.done)) (.nil)))))) (.nil))) (.nil))))))))), [], ⟨by kernel_rfl, by kernel_rfl, by kernel_rfl, by kernel_rfl⟩, ?_⟩
    refine jac [(12, .box 12 0), (13, .int .i64 0)] [(12, .box [.str (W 1).1, .str (W 1).2])] ?_ ?_
    ·(conv => whnf); (try simp only [jhS])
     repeat' (first | exact V.wk | ((with_reducible refine And.intro ?_ jax); (conv => whnf); (try simp only [jhS])) | ((with_reducible first | refine jap ?_ ?_ | refine jat ?_ ?_) <;> (conv => whnf); (try simp only [jhS])) | ((first | refine V.s1 ?_ | ((with_reducible refine jal ?_ ?_); (focus ((conv => whnf); (try simp only [jhS]); (repeat ((first | refine V.s1 ?_ | ((simp only [e1]); (conv => whnf))); (try simp only [jhS]))); exact ⟨rfl⟩)); (conv => whnf)) | ((try ((with_reducible refine .ext ?_); (conv => whnf); (try simp only [jhS]))); (with_reducible refine jab (r := ?_) ?_ ?_); rotate_left; (focus (first | exact (sb1))); (conv => whnf)) | ((simp only [e1]); (conv => whnf))); (try simp only [jhS])) | (refine And.intro ?_ ?_ <;> (conv => whnf); (try simp only [jhS])))
    (conv => whnf)
    (try simp only [jhS])
    repeat ((first | refine V.s1 ?_ | ((try ((with_reducible refine .ext ?_); (conv => whnf); (try simp only [jhS]))); (with_reducible refine jab (r := ?_) ?_ ?_); rotate_left; (focus (first | fail)); (conv => whnf)) | ((simp only [e1]); (conv => whnf))); (try simp only [jhS]))
    refine ⟨2, by omega, by omega, ?_⟩
    rw [hb1]
    exact V.wk
   ·simp only [k2, wcl, wch]
    have ht : List.take 2 xs = xs := List.take_of_length_le (by omega)
    refine V.r0 (V.a2 @jhS ht) ?_
    rw [← hxs]
    exact Fin.of rfl
theorem jhu : type_of% @jhS ∧ type_of% @tn0 ∧ type_of% @tn1 ∧ type_of% @tn2 ∧ type_of% @tn3 := ⟨@jhS, @tn0, @tn1, @tn2, @tn3⟩
theorem jhG : type_of% @jhT ∧ type_of% @jhS ∧ type_of% @tns := ⟨@jhT, @jhS, @tns⟩
theorem zX13c_2 : type_of% @List.length_set.{0} ∧ type_of% @jhS := ⟨@List.length_set.{0}, @jhS⟩
theorem find3_t (z0 z1 z2 out b0 b1 b2 : Int) (data : List Int) (x0 y0 x1 y1 x2 y2 o0 o1 : List UInt8) (R Bf W : Nat → Tx)
  (sp0 : Called Tryz.prog 124 [.agg [.str x0, .str y0], .int .i64 z0] (.tup [.int .i64 b0, .agg [.str (R 0).1, .str (R 0).2], .int .i64 0]))
  (sp1 : Called Tryz.prog 124 [.agg [.str x1, .str y1], .int .i64 z1] (.tup [.int .i64 b1, .agg [.str (R 1).1, .str (R 1).2], .int .i64 0]))
  (sp2 : Called Tryz.prog 124 [.agg [.str x2, .str y2], .int .i64 z2] (.tup [.int .i64 b2, .agg [.str (R 2).1, .str (R 2).2], .int .i64 0]))
  (io : Called Tryz.prog 86 [.int .i64 1] (.agg [.str o0, .str o1])) (w : Int → Int → Int) (cm : ∀ a b : Nat, a < 3 → b < 3 → Called Tryz.prog 126 [.int .i64 a, .int .i64 b, .ref [.slf 2 3 (fun j => List.take 2 (List.drop (j * 2) [.str (R 0).1, .str (R 0).2, .str (R 1).1, .str (R 1).2, .str (R 2).1, .str (R 2).2]))]] (.int .i64 (w a b)))
  (hBf0 : Bf 0 = (o0, o1)) (hBf : ∀ k, k < 3 → Bf (k + 1) = R ((isoK w [0, 1, 2] (3 - 1)).getD k 0).toNat) (sb : ∀ k, k < 3 → Called Tryz.prog 99 [.agg [.str (Bf k).1, .str (Bf k).2], .agg [.str (R ((isoK w [0, 1, 2] (3 - 1)).getD k 0).toNat).1, .str (R ((isoK w [0, 1, 2] (3 - 1)).getD k 0).toNat).2]] (.tup [.agg [.str (W k).1, .str (W k).2], .int .i64 0])) :
  Called Tryz.prog 79 [.agg [.ints .i64 [z0, z1, z2], .int .i64 out, .ints .i64 data], .slf 2 3 (fun j => List.take 2 (List.drop (j * 2) [.str x0, .str y0, .str x1, .str y1, .str x2, .str y2]))] (.tup [.agg [.ints .i64 [z0, z1, z2], .int .i64 out, .ints .i64 data, .ints .i64 [b0, b1, b2], .ints .i64 (isoK w [0, 1, 2] (3 - 1)), .slf 2 4 (fun j => List.take 2 (List.drop (j * 2) [.str (W 0).1, .str (W 0).2, .str (W 1).1, .str (W 1).2, .str (W 2).1, .str (W 2).2, .str (Bf 3).1, .str (Bf 3).2]))], .int .i64 0]) := by
  refine jaa tbOk 6 ⟨Tryz.func79, rfl, rfl, jhO rfl⟩ ?_
  (conv => whnf)
  refine V.r0 @jhS ?_
  refine ⟨(.take 0 (.take 1 (.take 2 (.take 4 (.take 5 (.ev (.cons 3 [5, 4, 0] (.ev (.cons 6 [0] (.take 7 (.ev (.cons 8 [7, 0] (.ev (.cons 9 [] (.done) (.nil))) (.nil)))) (.cons 8 [5, 4, 0] (.ev (.cons 6 [0] (.take 7 (.ev (.cons 9 [] (.done) (.nil)))) (.nil))) (.nil)))) (.cons 6 [2, 1, 0] (.ev (.cons 3 [0] (.take 7 (.ev (.cons 8 [7, 0] (.ev (.cons 9 [] (.done) (.nil))) (.nil)))) (.cons 8 [2, 1, 0] (.ev (.cons 3 [0] (.take 7 (.ev (.cons 9 [] (.done) (.nil)))) (.nil))) (.nil)))) (.cons 8 [5, 4, 2, 1, 0] (.ev (.cons 3 [5, 4, 0] (.ev (.cons 6 [0] (.take 7 (.ev (.cons 9 [] (.done) (.nil)))) (.nil))) (.cons 6 [2, 1, 0] (.ev (.cons 3 [0] (.take 7 (.ev (.cons 9 [] (.done) (.nil)))) (.nil))) (.nil)))) (.nil)))))))))), [], ⟨by kernel_rfl, by kernel_rfl, by kernel_rfl, by kernel_rfl⟩, ?_⟩
  refine jac [(6, .box 6 0), (17, .osl 17 0 3), (20, .osl 20 0 3)] [(6, .box [.ints .i64 [z0, z1, z2], .int .i64 out, .ints .i64 data, .osl 17 0 3, .osl 20 0 3, .nil]), (17, .arr .i64 [0, 0, 0]), (20, .arr .i64 [0, 0, 0])] ?_ ?_
  ·exact V.d0 @jhS
  refine V.r0 @jhS ?_
  refine .inl ?_
  (conv => whnf)
  refine ⟨0, _, _, ⟨Tryz.func82, rfl, rfl, jhO rfl⟩, ?_⟩
  (conv => whnf)
  refine V.r0 @jhS ?_
  refine jah (0) (fun k => k ≤ 3) (fun k => 3 - k) (fun k => [(14, .int .i64 k)]) (fun k => [(88, .box (preD (2 * k) [.str (R 0).1, .str (R 0).2, .str (R 1).1, .str (R 1).2, .str (R 2).1, .str (R 2).2])), (17, .arr .i64 (preZ k [b0, b1, b2])), (20, .arr .i64 (preZ k [0, 1, 2]))]) ?_ ?_ ?_
  ·exact V.wk
  ·exact jhP _
  intro k hk
  have hk4 : k = 0 ∨ k = 1 ∨ k = 2 ∨ k = 3 := by omega
  rcases hk4 with e | e | e | e
  all_goals subst e
  ·simp only [k0]
   have q1 : (preZ 0 [b0, b1, b2]).length = 3 := rfl
   have q2 : (preZ 0 [0, 1, 2]).length = 3 := rfl
   refine V.r0 jhu ?_
   refine .inl ?_
   (conv => whnf)
   refine ⟨0, _, _, ⟨Tryz.func123, rfl, rfl, jhO rfl⟩, ?_⟩
   (conv => whnf)
   refine V.r0 jhu ?_
   refine ⟨(.take 0 (.take 1 (.take 2 (.take 3 (.take 4 (.take 5 (.take 6 (.take 7 (.take 8 (.ev (.cons 9 [] (.take 10 (.take 11 (.take 12 (.take 13 (.ev (.cons 14 [13, 12, 11, 10] (.take 15 (.ev (.cons 16 [13] (.take 17 (.done)) (.nil)))) (.nil))))))) (.cons 14 [8, 7, 6, 5, 4, 3, 2, 1, 0] (.ev (.cons 9 [] (.take 10 (.take 11 (.take 12 (.take 13 (.take 15 (.ev (.cons 16 [13] (.take 17 (.done)) (.nil)))))))) (.nil))) (.nil))))))))))))), [], ⟨by kernel_rfl, by kernel_rfl, by kernel_rfl, by kernel_rfl⟩, ?_⟩
   refine jac [(8, .box 118 0), (7, .int .i64 b0), (9, .int .i64 0)] [(118, .box [.str (R 0).1, .str (R 0).2])] ?_ ?_
   ·exact V.d1 jhu sp0
   refine V.r0 jhu ?_
   refine ⟨(.take 0 (.take 1 (.take 2 (.take 3 (.take 4 (.take 5 (.take 6 (.take 7 (.take 8 (.ev (.cons 9 [7, 5, 4, 3] (.take 10 (.ev (.cons 11 [] (.done) (.nil)))) (.nil)))))))))))), [], ⟨by kernel_rfl, by kernel_rfl, by kernel_rfl, by kernel_rfl⟩, ?_⟩
   refine jac [] [(17, .arr .i64 (preZ 1 [b0, b1, b2])), (20, .arr .i64 (preZ 1 [0, 1, 2]))] ?_ ?_
   ·exact V.d0 jhu
   refine V.r0 jhu ?_
   exact ⟨1, by omega, by omega, V.wk⟩
  ·simp only [k1]
   have q1 : (preZ 1 [b0, b1, b2]).length = 3 := rfl
   have q2 : (preZ 1 [0, 1, 2]).length = 3 := rfl
   refine V.r0 jhu ?_
   refine .inl ?_
   (conv => whnf)
   refine ⟨0, _, _, ⟨Tryz.func123, rfl, rfl, jhO rfl⟩, ?_⟩
   (conv => whnf)
   refine V.r0 jhu ?_
   refine ⟨(.take 0 (.take 1 (.take 2 (.take 3 (.take 4 (.take 5 (.take 6 (.take 7 (.take 8 (.ev (.cons 9 [] (.take 10 (.take 11 (.take 12 (.take 13 (.ev (.cons 14 [13, 12, 11, 10] (.take 15 (.ev (.cons 16 [13] (.take 17 (.done)) (.nil)))) (.nil))))))) (.cons 14 [8, 7, 6, 5, 4, 3, 2, 1, 0] (.ev (.cons 9 [] (.take 10 (.take 11 (.take 12 (.take 13 (.take 15 (.ev (.cons 16 [13] (.take 17 (.done)) (.nil)))))))) (.nil))) (.nil))))))))))))), [], ⟨by kernel_rfl, by kernel_rfl, by kernel_rfl, by kernel_rfl⟩, ?_⟩
   refine jac [(8, .box 118 0), (7, .int .i64 b1), (9, .int .i64 0)] [(118, .box [.str (R 1).1, .str (R 1).2])] ?_ ?_
   ·exact V.d1 jhu sp1
   refine V.r0 jhu ?_
   refine ⟨(.take 0 (.take 1 (.take 2 (.take 3 (.take 4 (.take 5 (.take 6 (.take 7 (.take 8 (.ev (.cons 9 [7, 5, 4, 3] (.take 10 (.ev (.cons 11 [] (.done) (.nil)))) (.nil)))))))))))), [], ⟨by kernel_rfl, by kernel_rfl, by kernel_rfl, by kernel_rfl⟩, ?_⟩
   refine jac [] [(17, .arr .i64 (preZ 2 [b0, b1, b2])), (20, .arr .i64 (preZ 2 [0, 1, 2]))] ?_ ?_
   ·exact V.d0 jhu
   refine V.r0 jhu ?_
   exact ⟨2, by omega, by omega, V.wk⟩
  ·simp only [k2]
   have q1 : (preZ 2 [b0, b1, b2]).length = 3 := rfl
   have q2 : (preZ 2 [0, 1, 2]).length = 3 := rfl
   refine V.r0 jhu ?_
   refine .inl ?_
   (conv => whnf)
   refine ⟨0, _, _, ⟨Tryz.func123, rfl, rfl, jhO rfl⟩, ?_⟩
   (conv => whnf)
   refine V.r0 jhu ?_
   refine ⟨(.take 0 (.take 1 (.take 2 (.take 3 (.take 4 (.take 5 (.take 6 (.take 7 (.take 8 (.ev (.cons 9 [] (.take 10 (.take 11 (.take 12 (.take 13 (.ev (.cons 14 [13, 12, 11, 10] (.take 15 (.ev (.cons 16 [13] (.take 17 (.done)) (.nil)))) (.nil))))))) (.cons 14 [8, 7, 6, 5, 4, 3, 2, 1, 0] (.ev (.cons 9 [] (.take 10 (.take 11 (.take 12 (.take 13 (.take 15 (.ev (.cons 16 [13] (.take 17 (.done)) (.nil)))))))) (.nil))) (.nil))))))))))))), [], ⟨by kernel_rfl, by kernel_rfl, by kernel_rfl, by kernel_rfl⟩, ?_⟩
   refine jac [(8, .box 118 0), (7, .int .i64 b2), (9, .int .i64 0)] [(118, .box [.str (R 2).1, .str (R 2).2])] ?_ ?_
   ·exact V.d1 jhu sp2
   refine V.r0 jhu ?_
   refine ⟨(.take 0 (.take 1 (.take 2 (.take 3 (.take 4 (.take 5 (.take 6 (.take 7 (.take 8 (.ev (.cons 9 [7, 5, 4, 3] (.take 10 (.ev (.cons 11 [] (.done) (.nil)))) (.nil)))))))))))), [], ⟨by kernel_rfl, by kernel_rfl, by kernel_rfl, by kernel_rfl⟩, ?_⟩
   refine jac [] [(17, .arr .i64 (preZ 3 [b0, b1, b2])), (20, .arr .i64 (preZ 3 [0, 1, 2]))] ?_ ?_
   ·exact V.d0 jhu
   refine V.r0 jhu ?_
   exact ⟨3, by omega, by omega, V.wk⟩
  ·simp only [k3]
   (conv => whnf)
   repeat ((fail_if_success (with_reducible refine Cnd.split ?_)); refine V.s1 ?_; (try simp only [jhS]))
   refine V.s1 ?_
   (conv => whnf)
   repeat ((fail_if_success (with_reducible refine Cnd.split ?_)); refine V.s1 ?_; (try simp only [jhS]))
   refine jbQ [(7, .ref [.slf 2 3 (fun j => List.take 2 (List.drop (j * 2) [.str (R 0).1, .str (R 0).2, .str (R 1).1, .str (R 1).2, .str (R 2).1, .str (R 2).2]))]), (22, .any), (26, .any), (27, .any)] [(7, .gone), (88, .gone)] (CondB.mk (fun h => absurd h (by decide)) (fun _ => ?_)) ?_
   ·(conv => whnf)
    refine Wk.pub 88 ?_
    (conv => whnf)
    refine Wk.pub 7 ?_
    (conv => whnf)
    simp only [jhS]
    exact V.wk
   refine V.r0 @jhS ?_
   refine .inl ?_
   (conv => whnf)
   refine ⟨0, _, _, ⟨Tryz.func125, rfl, rfl, jhO rfl⟩, ?_⟩
   (conv => whnf)
   refine V.r0 @jhS ?_
   refine .inl ?_
   (conv => whnf)
   refine ⟨0, _, _, ⟨Tryz.func163, rfl, rfl, jhO rfl⟩, ?_⟩
   (conv => whnf)
   refine V.r0 @jhS ?_
   refine jah (0) (fun k => k = 0) (fun k => k) (fun k => [(7, .int .i64 0), (8, .int .i64 20)]) (fun k => []) ?_ ?_ ?_
   ·exact V.wk
   ·rfl
   intro k hk
   refine V.r0 @jhS ?_
   refine .inl ?_
   (conv => whnf)
   refine ⟨0, _, _, ⟨Tryz.func193, rfl, rfl, jhO rfl⟩, ?_⟩
   (conv => whnf)
   refine V.r0 @jhS ?_
   refine jah (0) (fun k => k + 1 ≤ 3) (fun k => 3 - k) (fun k => [(8, .int .i64 ((k + 1 : Nat) : Int))]) (fun k => [(20, .arr .i64 (isoK w [0, 1, 2] k))]) ?_ ?_ ?_
   ·exact V.wk
   ·omega
   clear hk
   intro k hk
   have hB := jhq w (n := 3) (xs := [0, 1, 2]) ⟨rfl, fun i hi => by
    have : i = 0 ∨ i = 1 ∨ i = 2 := by omega
    rcases this with e | e | e <;> subst e <;> first | decide | omega⟩ k (by omega)
   refine V.r0 @jhS ?_
   refine Cnd.split (CondB.mk (fun hq => ?_) (fun hq => ?_))
   ·have hk2 : k + 1 < 3 := by simp at hq; omega
    refine V.r0 @jhS ?_
    refine jah ((k + 1, isoK w [0, 1, 2] k) : Nat × List Int) (fun s => s.1 ≤ k + 1 ∧ Bel 3 s.2 ∧ insJ w s.1 s.2 = isoK w [0, 1, 2] (k + 1)) (fun s => s.1) (fun s => [(9, .int .i64 s.1)]) (fun s => [(20, .arr .i64 s.2)]) ?_ ?_ ?_
    ·exact V.wk
    ·exact ⟨jhU _, hB, rfl⟩
    rintro ⟨j, xs⟩ ⟨h1, h2, h3⟩
    dsimp only at h1 h2 h3 ⊢
    have hl := h2.1
    refine V.r0 @jhS ?_
    have c1 : (decide ((j : Int) > 0) = true) → Called Tryz.prog 126 [.int .i64 (xs.getD j 0), .int .i64 (xs.getD (j - 1) 0), .ref [.slf 2 3 (fun j => List.take 2 (List.drop (j * 2) [.str (R 0).1, .str (R 0).2, .str (R 1).1, .str (R 1).2, .str (R 2).1, .str (R 2).2]))]] (.int .i64 (w (xs.getD j 0) (xs.getD (j - 1) 0))) := fun h => by
     have hj : (j : Int) > 0 := of_decide_eq_true h
     have g1 := h2.2 j (by omega)
     have g2 := h2.2 (j - 1) (by omega)
     have c := cm (xs.getD j 0).toNat (xs.getD (j - 1) 0).toNat (by omega) (by omega)
     rw [Int.toNat_of_nonneg g1.1, Int.toNat_of_nonneg g2.1] at c
     exact c
    refine ⟨(.take 0 (.take 1 (.take 2 (.take 3 (.take 4 (.take 5 (.take 6 (.take 7 (.take 8 (.take 9 (.take 10 (.take 11 (.take 12 (.take 13 (.ev (.cons 14 [] (.take 15 (.take 16 (.done))) (.nil))))))))))))))))), [], ⟨by kernel_rfl, by kernel_rfl, by kernel_rfl, by kernel_rfl⟩, ?_⟩
    refine jac [(34, .bool (decide ((j : Int) > 0) && decide (w (xs.getD j 0) (xs.getD (j - 1) 0) < 0)))] [] ?_ ?_
    ·(conv => whnf); (try simp only [jhG])
     repeat' (first | exact V.wk | ((with_reducible refine And.intro ?_ jax); (conv => whnf); (try simp only [jhG])) | ((with_reducible first | refine jap ?_ ?_ | refine jat ?_ ?_) <;> (conv => whnf); (try simp only [jhG])) | ((first | refine V.s1 ?_ | ((with_reducible refine jal ?_ ?_); (focus ((conv => whnf); (try simp only [jhG]); (repeat ((first | refine V.s1 ?_ | ((refine ⟨_, c1, ?_⟩); (conv => whnf))); (try simp only [jhG]))); exact ⟨rfl⟩)); (conv => whnf)) | ((try ((with_reducible refine .ext ?_); (conv => whnf); (try simp only [jhG]))); (with_reducible refine jab (r := ?_) ?_ ?_); rotate_left; (focus (first | fail)); (conv => whnf)) | ((refine ⟨_, c1, ?_⟩); (conv => whnf))); (try simp only [jhG])) | (refine And.intro ?_ ?_ <;> (conv => whnf); (try simp only [jhG])))
    refine V.r0 @jhS ?_
    refine Cnd.split (CondB.mk (fun hq2 => ?_) (fun hq2 => ?_))
    ·have hj : 0 < j ∧ w (xs.getD j 0) (xs.getD (j - 1) 0) < 0 := by
      rw [jhN, decide_eq_true_eq, decide_eq_true_eq] at hq2
      omega
     obtain ⟨i, rfl⟩ : ∃ i, j = i + 1 := ⟨j - 1, by omega⟩
     rw [show i + 1 - 1 = i by omega] at hj
     have hw := jf5 h2 (show i + 1 < 3 by omega)
     have e1 : ((i + 1 : Nat) : Int).toNat = i + 1 := by omega
     have e2 : (((i + 1 : Nat) : Int) - 1).toNat = i := by omega
     have e3 : ((i + 1 : Nat) : Int) - 1 = (i : Int) := by omega
     have e4 : (i : Int).toNat = i := by omega
     have h3' : insJ w i ((xs.set (i + 1) (xs.getD i 0)).set i (xs.getD (i + 1) 0)) = isoK w [0, 1, 2] (k + 1) := by
      rw [← h3]
      simp only [insJ]
      rw [if_pos hj.2]
     refine V.r0 @jhS ?_
     refine ⟨(.take 0 (.take 1 (.take 2 (.take 3 (.take 4 (.take 5 (.take 6 (.take 7 (.take 8 (.take 9 (.take 10 (.take 11 (.take 12 (.take 13 (.take 14 (.ev (.cons 15 [4, 3, 2] (.take 16 (.ev (.cons 17 [] (.done) (.nil)))) (.nil)))))))))))))))))), [], ⟨by kernel_rfl, by kernel_rfl, by kernel_rfl, by kernel_rfl⟩, ?_⟩
     refine jac [] [(20, .arr .i64 ((xs.set (i + 1) (xs.getD i 0)).set i (xs.getD (i + 1) 0)))] ?_ ?_
     ·exact V.d0 (V.a5 zX13c_2 e1 e2 e3 e4)
     refine V.r0 (V.a2 @jhS e3) ?_
     exact ⟨(i, (xs.set (i + 1) (xs.getD i 0)).set i (xs.getD (i + 1) 0)), ⟨by dsimp only; omega, hw, h3'⟩, by dsimp only; omega, V.wk⟩
    ·have hx : isoK w [0, 1, 2] (k + 1) = xs := by
      rw [← h3]
      cases j with
      | zero => rfl
      | succ i =>
       simp only [insJ]
       rw [if_neg]
       intro h
       rw [Bool.and_eq_false_iff, decide_eq_false_iff_not, decide_eq_false_iff_not, show i + 1 - 1 = i by omega] at hq2
       omega
     refine V.r0 @jhS ?_
     refine ⟨k + 1, by omega, by omega, ?_⟩
     rw [hx]
     exact V.wk
   have hk2 : k + 1 = 3 := by simp at hq; omega
   have hk3 : k = 3 - 1 := by omega
   subst hk3
   refine V.r0 @jhS ?_
   refine jah (0) (fun k => k = 0) (fun k => k) (fun k => [(6, .int .i64 20)]) (fun k => []) ?_ ?_ ?_
   ·exact V.wk
   ·rfl
   clear hk
   intro k hk
   refine V.r0 @jhS ?_
   obtain ⟨xs, hxs⟩ : ∃ xs, isoK w [0, 1, 2] (3 - 1) = xs := ⟨_, rfl⟩
   rw [hxs] at hB ⊢
   have hl := hB.1
   refine V.r1 @jhS io ?_
   have hr : ∀ m, m < 3 → List.take 2 (List.drop (m * 2) ([.str (R 0).1, .str (R 0).2, .str (R 1).1, .str (R 1).2, .str (R 2).1, .str (R 2).2] : List D)) = [.str (R m).1, .str (R m).2] := fun m hm => by
    have : m = 0 ∨ m = 1 ∨ m = 2 := by omega
    rcases this with e | e | e <;> subst e <;> first | rfl | omega
   have e0 := hr (xs.getD 0 0).toNat (by have := hB.2 0 (by omega); omega)
   have g0 := hB.2 0 (by omega)
   have sb0 := sb 0 (by omega)
   have hb0 := hBf 0 (by omega)
   rw [hxs] at sb0 hb0
   have e1 := hr (xs.getD 1 0).toNat (by have := hB.2 1 (by omega); omega)
   have g1 := hB.2 1 (by omega)
   have sb1 := sb 1 (by omega)
   have hb1 := hBf 1 (by omega)
   rw [hxs] at sb1 hb1
   have e2 := hr (xs.getD 2 0).toNat (by have := hB.2 2 (by omega); omega)
   have g2 := hB.2 2 (by omega)
   have sb2 := sb 2 (by omega)
   have hb2 := hBf 2 (by omega)
   rw [hxs] at sb2 hb2
   have hb' : (Bf 0).1 = o0 ∧ (Bf 0).2 = o1 := by rw [hBf0]; exact ⟨rfl, rfl⟩
   refine jah 0 (fun k => k ≤ 3) (fun k => 3 - k) (fun k => [(41, .int .i64 k)]) (fun k => (9, .box [.str (Bf k).1, .str (Bf k).2]) :: (6, .box [.ints .i64 [z0, z1, z2], .int .i64 out, .ints .i64 data, .osl 17 0 3, .osl 20 0 3, wcl k]) :: wch W k) ?_ ?_ ?_
   ·rw [hb'.1, hb'.2]
    exact V.wk
   ·exact jhP _
   clear hk
   intro k hk
   have hk4 : k = 0 ∨ k = 1 ∨ k = 2 ∨ k = 3 := by omega
   rcases hk4 with e | e | e | e
   all_goals subst e
   ·simp only [k0, wcl, wch]
    refine V.r0 jhu ?_
    refine ⟨(.take 0 (.take 1 (.take 2 (.take 3 (.take 4 (.ev (.cons 5 [] (.take 6 (.take 7 (.take 8 (.ev (.cons 9 [8, 7, 6] (.ev (.cons 10 [8] (.take 11 (.done)) (.nil))) (.nil)))))) (.cons 9 [4, 3, 2, 1, 0] (.ev (.cons 5 [] (.take 6 (.take 7 (.take 8 (.ev (.cons 10 [8] (.take 11 (.done)) (.nil)))))) (.nil))) (.nil))))))))), [], ⟨by kernel_rfl, by kernel_rfl, by kernel_rfl, by kernel_rfl⟩, ?_⟩
    refine jac [(12, .box 12 0), (13, .int .i64 0)] [(12, .box [.str (W 0).1, .str (W 0).2])] ?_ ?_
    ·(conv => whnf); (try simp only [jhS])
     repeat' (first | exact V.wk | ((with_reducible refine And.intro ?_ jax); (conv => whnf); (try simp only [jhS])) | ((with_reducible first | refine jap ?_ ?_ | refine jat ?_ ?_) <;> (conv => whnf); (try simp only [jhS])) | ((first | refine V.s1 ?_ | ((with_reducible refine jal ?_ ?_); (focus ((conv => whnf); (try simp only [jhS]); (repeat ((first | refine V.s1 ?_ | ((simp only [e0]); (conv => whnf))); (try simp only [jhS]))); exact ⟨rfl⟩)); (conv => whnf)) | ((try ((with_reducible refine .ext ?_); (conv => whnf); (try simp only [jhS]))); (with_reducible refine jab (r := ?_) ?_ ?_); rotate_left; (focus (first | exact (sb0))); (conv => whnf)) | ((simp only [e0]); (conv => whnf))); (try simp only [jhS])) | (refine And.intro ?_ ?_ <;> (conv => whnf); (try simp only [jhS])))
    (conv => whnf)
    (try simp only [jhS])
    repeat ((first | refine V.s1 ?_ | ((try ((with_reducible refine .ext ?_); (conv => whnf); (try simp only [jhS]))); (with_reducible refine jab (r := ?_) ?_ ?_); rotate_left; (focus (first | fail)); (conv => whnf)) | ((simp only [e0]); (conv => whnf))); (try simp only [jhS]))
    refine ⟨1, by omega, by omega, ?_⟩
    rw [hb0]
    exact V.wk
   ·simp only [k1, wcl, wch]
    refine V.r0 jhu ?_
    refine ⟨(.take 0 (.take 1 (.take 2 (.take 3 (.take 4 (.ev (.cons 5 [] (.take 6 (.take 7 (.take 8 (.ev (.cons 9 [8, 7, 6] (.ev (.cons 10 [8] (.take 11 (.done)) (.nil))) (.nil)))))) (.cons 9 [4, 3, 2, 1, 0] (.ev (.cons 5 [] (.take 6 (.take 7 (.take 8 (.ev (.cons 10 [8] (.take 11 (.done)) (.nil)))))) (.nil))) (.nil))))))))), [], ⟨by kernel_rfl, by kernel_rfl, by kernel_rfl, by kernel_rfl⟩, ?_⟩
    refine jac [(12, .box 12 0), (13, .int .i64 0)] [(12, .box [.str (W 1).1, .str (W 1).2])] ?_ ?_
    ·(conv => whnf); (try simp only [jhS])
     repeat' (first | exact V.wk | ((with_reducible refine And.intro ?_ jax); (conv => whnf); (try simp only [jhS])) | ((with_reducible first | refine jap ?_ ?_ | refine jat ?_ ?_) <;> (conv => whnf); (try simp only [jhS])) | ((first | refine V.s1 ?_ | ((with_reducible refine jal ?_ ?_); (focus ((conv => whnf); (try simp only [jhS]); (repeat ((first | refine V.s1 ?_ | ((simp only [e1]); (conv => whnf))); (try simp only [jhS]))); exact ⟨rfl⟩)); (conv => whnf)) | ((try ((with_reducible refine .ext ?_); (conv => whnf); (try simp only [jhS]))); (with_reducible refine jab (r := ?_) ?_ ?_); rotate_left; (focus (first | exact (sb1))); (conv => whnf)) | ((simp only [e1]); (conv => whnf))); (try simp only [jhS])) | (refine And.intro ?_ ?_ <;> (conv => whnf); (try simp only [jhS])))
    (conv => whnf)
    (try simp only [jhS])
    repeat ((first | refine V.s1 ?_ | ((try ((with_reducible refine .ext ?_); (conv => whnf); (try simp only [jhS]))); (with_reducible refine jab (r := ?_) ?_ ?_); rotate_left; (focus (first | fail)); (conv => whnf)) | ((simp only [e1]); (conv => whnf))); (try simp only [jhS]))
    refine ⟨2, by omega, by omega, ?_⟩
    rw [hb1]
    exact V.wk
   ·simp only [k2, wcl, wch]
    refine V.r0 jhu ?_
    refine ⟨(.take 0 (.take 1 (.take 2 (.take 3 (.take 4 (.ev (.cons 5 [] (.take 6 (.take 7 (.take 8 (.ev (.cons 9 [8, 7, 6] (.ev (.cons 10 [8] (.take 11 (.done)) (.nil))) (.nil)))))) (.cons 9 [4, 3, 2, 1, 0] (.ev (.cons 5 [] (.take 6 (.take 7 (.take 8 (.ev (.cons 10 [8] (.take 11 (.done)) (.nil)))))) (.nil))) (.nil))))))))), [], ⟨by kernel_rfl, by kernel_rfl, by kernel_rfl, by kernel_rfl⟩, ?_⟩
    refine jac [(12, .box 12 0), (13, .int .i64 0)] [(12, .box [.str (W 2).1, .str (W 2).2])] ?_ ?_
    ·(conv => whnf); (try simp only [jhS])
     repeat' (first | exact V.wk | ((with_reducible refine And.intro ?_ jax); (conv => whnf); (try simp only [jhS])) | ((with_reducible first | refine jap ?_ ?_ | refine jat ?_ ?_) <;> (conv => whnf); (try simp only [jhS])) | ((first | refine V.s1 ?_ | ((with_reducible refine jal ?_ ?_); (focus ((conv => whnf); (try simp only [jhS]); (repeat ((first | refine V.s1 ?_ | ((simp only [e2]); (conv => whnf))); (try simp only [jhS]))); exact ⟨rfl⟩)); (conv => whnf)) | ((try ((with_reducible refine .ext ?_); (conv => whnf); (try simp only [jhS]))); (with_reducible refine jab (r := ?_) ?_ ?_); rotate_left; (focus (first | exact (sb2))); (conv => whnf)) | ((simp only [e2]); (conv => whnf))); (try simp only [jhS])) | (refine And.intro ?_ ?_ <;> (conv => whnf); (try simp only [jhS])))
    (conv => whnf)
    (try simp only [jhS])
    repeat ((first | refine V.s1 ?_ | ((try ((with_reducible refine .ext ?_); (conv => whnf); (try simp only [jhS]))); (with_reducible refine jab (r := ?_) ?_ ?_); rotate_left; (focus (first | fail)); (conv => whnf)) | ((simp only [e2]); (conv => whnf))); (try simp only [jhS]))
    refine ⟨3, by omega, by omega, ?_⟩
    rw [hb2]
    exact V.wk
   ·simp only [k3, wcl, wch]
    have ht : List.take 3 xs = xs := List.take_of_length_le (by omega)
    refine V.r0 (V.a2 @jhS ht) ?_
    rw [← hxs]
    exact Fin.of rfl
end Go.Proofs.YtgjgpdceghjajaaGreatDoor
end
