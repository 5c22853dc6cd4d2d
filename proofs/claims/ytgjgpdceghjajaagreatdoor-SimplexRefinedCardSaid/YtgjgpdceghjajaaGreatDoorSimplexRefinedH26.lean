/- What functions of the program answer at given values, part 26. Conditions: those that each theorem names. -/
import Derived.Test.YtgjgpdceghjajaaGreatDoorSimplexRefinedH25
import Derived.Test.YtgjgpdceghjajaaGreatDoorSimplexRefinedH13
set_option linter.unusedSimpArgs false
set_option linter.unusedVariables false
set_option maxHeartbeats 8000000
set_option maxRecDepth 100000
section
namespace Go.Proofs.YtgjgpdceghjajaaGreatDoor
open Go Go.V Go.Nb
theorem xk4 : ((4 : Nat) : Int) = 4 := rfl
theorem xt4 : (4 : Int).toNat = 4 := rfl
theorem jhN : type_of% @jif ∧ type_of% @tn0 ∧ type_of% @tn1 ∧ type_of% @tn2 ∧ type_of% @tn3 ∧ type_of% @xt4 := ⟨@jif, @tn0, @tn1, @tn2, @tn3, @xt4⟩
theorem jhp {F e0 n0 e1 n1 : Nat} {f0 f1 : Nat → List D} {z : Int} (T : Nat → Tx) (c0 : Called Tryz.prog F (.int .i64 0 :: [.ref [.slf e0 n0 f0], .ref [.slf e1 n1 f1]]) (.tup [.agg [.str (T 0).1, .str (T 0).2], .int .i64 0])) :
  Called Tryz.prog 82 [.int .i64 1, .fn F [] [.ref [.slf e0 n0 f0], .ref [.slf e1 n1 f1]]] (.tup [.slf 2 1 (fun j => List.take 2 (List.drop (j * 2) [.str (T 0).1, .str (T 0).2])), .int .i64 0]) := by
 refine V.en tbOk Tryz.func82 ?_
 refine V.r0 @jif ?_
 refine jac (0) (fun k => k ≤ 1) (fun k => 1 - k) (fun k => [(14, .int .i64 k)]) (fun k => [(11, .box (preD (2 * k) [.str (T 0).1, .str (T 0).2]))]) ?_ ?_ ?_
 ·exact V.wk
 ·exact jib _
 intro k hk
 have hk4 : k = 0 ∨ k = 1 := by omega
 rcases hk4 with e | e
 all_goals subst e
 ·simp only [k0]
  refine V.r1 jhN c0 ?_
  exact ⟨1, by omega, by omega, V.wk⟩
 ·simp only [k1]
  refine V.r0 @jif ?_
  exact Fin.of rfl
theorem jho {F e0 n0 e1 n1 : Nat} {f0 f1 : Nat → List D} {z : Int} (T : Nat → Tx) (c0 : Called Tryz.prog F (.int .i64 0 :: [.ref [.slf e0 n0 f0], .ref [.slf e1 n1 f1]]) (.tup [.agg [.str (T 0).1, .str (T 0).2], .int .i64 0])) (c1 : Called Tryz.prog F (.int .i64 1 :: [.ref [.slf e0 n0 f0], .ref [.slf e1 n1 f1]]) (.tup [.agg [.str (T 1).1, .str (T 1).2], .int .i64 0])) :
  Called Tryz.prog 82 [.int .i64 2, .fn F [] [.ref [.slf e0 n0 f0], .ref [.slf e1 n1 f1]]] (.tup [.slf 2 2 (fun j => List.take 2 (List.drop (j * 2) [.str (T 0).1, .str (T 0).2, .str (T 1).1, .str (T 1).2])), .int .i64 0]) := by
 refine V.en tbOk Tryz.func82 ?_
 refine V.r0 @jif ?_
 refine jac (0) (fun k => k ≤ 2) (fun k => 2 - k) (fun k => [(14, .int .i64 k)]) (fun k => [(11, .box (preD (2 * k) [.str (T 0).1, .str (T 0).2, .str (T 1).1, .str (T 1).2]))]) ?_ ?_ ?_
 ·exact V.wk
 ·exact jib _
 intro k hk
 have hk4 : k = 0 ∨ k = 1 ∨ k = 2 := by omega
 rcases hk4 with e | e | e
 all_goals subst e
 ·simp only [k0]
  refine V.r1 jhN c0 ?_
  exact ⟨1, by omega, by omega, V.wk⟩
 ·simp only [k1]
  refine V.r1 jhN c1 ?_
  exact ⟨2, by omega, by omega, V.wk⟩
 ·simp only [k2]
  refine V.r0 @jif ?_
  exact Fin.of rfl
theorem list2_3 {F e0 n0 e1 n1 : Nat} {f0 f1 : Nat → List D} {z : Int} (T : Nat → Tx) (c0 : Called Tryz.prog F (.int .i64 0 :: [.ref [.slf e0 n0 f0], .ref [.slf e1 n1 f1], .ref [.int .i64 z]]) (.tup [.agg [.str (T 0).1, .str (T 0).2], .int .i64 0])) (c1 : Called Tryz.prog F (.int .i64 1 :: [.ref [.slf e0 n0 f0], .ref [.slf e1 n1 f1], .ref [.int .i64 z]]) (.tup [.agg [.str (T 1).1, .str (T 1).2], .int .i64 0])) :
  Called Tryz.prog 82 [.int .i64 2, .fn F [] [.ref [.slf e0 n0 f0], .ref [.slf e1 n1 f1], .ref [.int .i64 z]]] (.tup [.slf 2 2 (fun j => List.take 2 (List.drop (j * 2) [.str (T 0).1, .str (T 0).2, .str (T 1).1, .str (T 1).2])), .int .i64 0]) := by
 refine V.en tbOk Tryz.func82 ?_
 refine V.r0 @jif ?_
 refine jac (0) (fun k => k ≤ 2) (fun k => 2 - k) (fun k => [(14, .int .i64 k)]) (fun k => [(11, .box (preD (2 * k) [.str (T 0).1, .str (T 0).2, .str (T 1).1, .str (T 1).2]))]) ?_ ?_ ?_
 ·exact V.wk
 ·exact jib _
 intro k hk
 have hk4 : k = 0 ∨ k = 1 ∨ k = 2 := by omega
 rcases hk4 with e | e | e
 all_goals subst e
 ·simp only [k0]
  refine V.r1 jhN c0 ?_
  exact ⟨1, by omega, by omega, V.wk⟩
 ·simp only [k1]
  refine V.r1 jhN c1 ?_
  exact ⟨2, by omega, by omega, V.wk⟩
 ·simp only [k2]
  refine V.r0 @jif ?_
  exact Fin.of rfl
theorem jhn {F e0 n0 e1 n1 : Nat} {f0 f1 : Nat → List D} {z : Int} (T : Nat → Tx) (c0 : Called Tryz.prog F (.int .i64 0 :: [.ref [.slf e0 n0 f0], .ref [.slf e1 n1 f1]]) (.tup [.agg [.str (T 0).1, .str (T 0).2], .int .i64 0])) (c1 : Called Tryz.prog F (.int .i64 1 :: [.ref [.slf e0 n0 f0], .ref [.slf e1 n1 f1]]) (.tup [.agg [.str (T 1).1, .str (T 1).2], .int .i64 0])) (c2 : Called Tryz.prog F (.int .i64 2 :: [.ref [.slf e0 n0 f0], .ref [.slf e1 n1 f1]]) (.tup [.agg [.str (T 2).1, .str (T 2).2], .int .i64 0])) :
  Called Tryz.prog 82 [.int .i64 3, .fn F [] [.ref [.slf e0 n0 f0], .ref [.slf e1 n1 f1]]] (.tup [.slf 2 3 (fun j => List.take 2 (List.drop (j * 2) [.str (T 0).1, .str (T 0).2, .str (T 1).1, .str (T 1).2, .str (T 2).1, .str (T 2).2])), .int .i64 0]) := by
 refine V.en tbOk Tryz.func82 ?_
 refine V.r0 @jif ?_
 refine jac (0) (fun k => k ≤ 3) (fun k => 3 - k) (fun k => [(14, .int .i64 k)]) (fun k => [(11, .box (preD (2 * k) [.str (T 0).1, .str (T 0).2, .str (T 1).1, .str (T 1).2, .str (T 2).1, .str (T 2).2]))]) ?_ ?_ ?_
 ·exact V.wk
 ·exact jib _
 intro k hk
 have hk4 : k = 0 ∨ k = 1 ∨ k = 2 ∨ k = 3 := by omega
 rcases hk4 with e | e | e | e
 all_goals subst e
 ·simp only [k0]
  refine V.r1 jhN c0 ?_
  exact ⟨1, by omega, by omega, V.wk⟩
 ·simp only [k1]
  refine V.r1 jhN c1 ?_
  exact ⟨2, by omega, by omega, V.wk⟩
 ·simp only [k2]
  refine V.r1 jhN c2 ?_
  exact ⟨3, by omega, by omega, V.wk⟩
 ·simp only [k3]
  refine V.r0 @jif ?_
  exact Fin.of rfl
theorem list3_3 {F e0 n0 e1 n1 : Nat} {f0 f1 : Nat → List D} {z : Int} (T : Nat → Tx) (c0 : Called Tryz.prog F (.int .i64 0 :: [.ref [.slf e0 n0 f0], .ref [.slf e1 n1 f1], .ref [.int .i64 z]]) (.tup [.agg [.str (T 0).1, .str (T 0).2], .int .i64 0])) (c1 : Called Tryz.prog F (.int .i64 1 :: [.ref [.slf e0 n0 f0], .ref [.slf e1 n1 f1], .ref [.int .i64 z]]) (.tup [.agg [.str (T 1).1, .str (T 1).2], .int .i64 0])) (c2 : Called Tryz.prog F (.int .i64 2 :: [.ref [.slf e0 n0 f0], .ref [.slf e1 n1 f1], .ref [.int .i64 z]]) (.tup [.agg [.str (T 2).1, .str (T 2).2], .int .i64 0])) :
  Called Tryz.prog 82 [.int .i64 3, .fn F [] [.ref [.slf e0 n0 f0], .ref [.slf e1 n1 f1], .ref [.int .i64 z]]] (.tup [.slf 2 3 (fun j => List.take 2 (List.drop (j * 2) [.str (T 0).1, .str (T 0).2, .str (T 1).1, .str (T 1).2, .str (T 2).1, .str (T 2).2])), .int .i64 0]) := by
 refine V.en tbOk Tryz.func82 ?_
 refine V.r0 @jif ?_
 refine jac (0) (fun k => k ≤ 3) (fun k => 3 - k) (fun k => [(14, .int .i64 k)]) (fun k => [(11, .box (preD (2 * k) [.str (T 0).1, .str (T 0).2, .str (T 1).1, .str (T 1).2, .str (T 2).1, .str (T 2).2]))]) ?_ ?_ ?_
 ·exact V.wk
 ·exact jib _
 intro k hk
 have hk4 : k = 0 ∨ k = 1 ∨ k = 2 ∨ k = 3 := by omega
 rcases hk4 with e | e | e | e
 all_goals subst e
 ·simp only [k0]
  refine V.r1 jhN c0 ?_
  exact ⟨1, by omega, by omega, V.wk⟩
 ·simp only [k1]
  refine V.r1 jhN c1 ?_
  exact ⟨2, by omega, by omega, V.wk⟩
 ·simp only [k2]
  refine V.r1 jhN c2 ?_
  exact ⟨3, by omega, by omega, V.wk⟩
 ·simp only [k3]
  refine V.r0 @jif ?_
  exact Fin.of rfl
theorem jhm {F e0 n0 e1 n1 : Nat} {f0 f1 : Nat → List D} {z : Int} (T : Nat → Tx) (c0 : Called Tryz.prog F (.int .i64 0 :: [.ref [.slf e0 n0 f0], .ref [.slf e1 n1 f1]]) (.tup [.agg [.str (T 0).1, .str (T 0).2], .int .i64 0])) (c1 : Called Tryz.prog F (.int .i64 1 :: [.ref [.slf e0 n0 f0], .ref [.slf e1 n1 f1]]) (.tup [.agg [.str (T 1).1, .str (T 1).2], .int .i64 0])) (c2 : Called Tryz.prog F (.int .i64 2 :: [.ref [.slf e0 n0 f0], .ref [.slf e1 n1 f1]]) (.tup [.agg [.str (T 2).1, .str (T 2).2], .int .i64 0])) (c3 : Called Tryz.prog F (.int .i64 3 :: [.ref [.slf e0 n0 f0], .ref [.slf e1 n1 f1]]) (.tup [.agg [.str (T 3).1, .str (T 3).2], .int .i64 0])) :
  Called Tryz.prog 82 [.int .i64 4, .fn F [] [.ref [.slf e0 n0 f0], .ref [.slf e1 n1 f1]]] (.tup [.slf 2 4 (fun j => List.take 2 (List.drop (j * 2) [.str (T 0).1, .str (T 0).2, .str (T 1).1, .str (T 1).2, .str (T 2).1, .str (T 2).2, .str (T 3).1, .str (T 3).2])), .int .i64 0]) := by
 refine V.en tbOk Tryz.func82 ?_
 refine V.r0 @jif ?_
 refine jac (0) (fun k => k ≤ 4) (fun k => 4 - k) (fun k => [(14, .int .i64 k)]) (fun k => [(11, .box (preD (2 * k) [.str (T 0).1, .str (T 0).2, .str (T 1).1, .str (T 1).2, .str (T 2).1, .str (T 2).2, .str (T 3).1, .str (T 3).2]))]) ?_ ?_ ?_
 ·exact V.wk
 ·exact jib _
 intro k hk
 have hk4 : k = 0 ∨ k = 1 ∨ k = 2 ∨ k = 3 ∨ k = 4 := by omega
 rcases hk4 with e | e | e | e | e
 all_goals subst e
 ·simp only [k0]
  refine V.r1 jhN c0 ?_
  exact ⟨1, by omega, by omega, V.wk⟩
 ·simp only [k1]
  refine V.r1 jhN c1 ?_
  exact ⟨2, by omega, by omega, V.wk⟩
 ·simp only [k2]
  refine V.r1 jhN c2 ?_
  exact ⟨3, by omega, by omega, V.wk⟩
 ·simp only [k3]
  refine V.r1 jhN c3 ?_
  exact ⟨4, by omega, by omega, V.wk⟩
 ·simp only [xk4]
  refine V.r0 @jif ?_
  exact Fin.of rfl
theorem list4_3 {F e0 n0 e1 n1 : Nat} {f0 f1 : Nat → List D} {z : Int} (T : Nat → Tx) (c0 : Called Tryz.prog F (.int .i64 0 :: [.ref [.slf e0 n0 f0], .ref [.slf e1 n1 f1], .ref [.int .i64 z]]) (.tup [.agg [.str (T 0).1, .str (T 0).2], .int .i64 0])) (c1 : Called Tryz.prog F (.int .i64 1 :: [.ref [.slf e0 n0 f0], .ref [.slf e1 n1 f1], .ref [.int .i64 z]]) (.tup [.agg [.str (T 1).1, .str (T 1).2], .int .i64 0])) (c2 : Called Tryz.prog F (.int .i64 2 :: [.ref [.slf e0 n0 f0], .ref [.slf e1 n1 f1], .ref [.int .i64 z]]) (.tup [.agg [.str (T 2).1, .str (T 2).2], .int .i64 0])) (c3 : Called Tryz.prog F (.int .i64 3 :: [.ref [.slf e0 n0 f0], .ref [.slf e1 n1 f1], .ref [.int .i64 z]]) (.tup [.agg [.str (T 3).1, .str (T 3).2], .int .i64 0])) :
  Called Tryz.prog 82 [.int .i64 4, .fn F [] [.ref [.slf e0 n0 f0], .ref [.slf e1 n1 f1], .ref [.int .i64 z]]] (.tup [.slf 2 4 (fun j => List.take 2 (List.drop (j * 2) [.str (T 0).1, .str (T 0).2, .str (T 1).1, .str (T 1).2, .str (T 2).1, .str (T 2).2, .str (T 3).1, .str (T 3).2])), .int .i64 0]) := by
 refine V.en tbOk Tryz.func82 ?_
 refine V.r0 @jif ?_
 refine jac (0) (fun k => k ≤ 4) (fun k => 4 - k) (fun k => [(14, .int .i64 k)]) (fun k => [(11, .box (preD (2 * k) [.str (T 0).1, .str (T 0).2, .str (T 1).1, .str (T 1).2, .str (T 2).1, .str (T 2).2, .str (T 3).1, .str (T 3).2]))]) ?_ ?_ ?_
 ·exact V.wk
 ·exact jib _
 intro k hk
 have hk4 : k = 0 ∨ k = 1 ∨ k = 2 ∨ k = 3 ∨ k = 4 := by omega
 rcases hk4 with e | e | e | e | e
 all_goals subst e
 ·simp only [k0]
  refine V.r1 jhN c0 ?_
  exact ⟨1, by omega, by omega, V.wk⟩
 ·simp only [k1]
  refine V.r1 jhN c1 ?_
  exact ⟨2, by omega, by omega, V.wk⟩
 ·simp only [k2]
  refine V.r1 jhN c2 ?_
  exact ⟨3, by omega, by omega, V.wk⟩
 ·simp only [k3]
  refine V.r1 jhN c3 ?_
  exact ⟨4, by omega, by omega, V.wk⟩
 ·simp only [xk4]
  refine V.r0 @jif ?_
  exact Fin.of rfl
theorem sum2 (P S : Nat → Tx) (h0 : S 0 = P 0) (c0 : Called Tryz.prog 100 [.agg [.str (S 0).1, .str (S 0).2], .agg [.str (P 1).1, .str (P 1).2]] (.tup [.agg [.str (S 1).1, .str (S 1).2], .int .i64 0])) :
  Called Tryz.prog 87 [.slf 2 2 (fun j => List.take 2 (List.drop (j * 2) [.str (P 0).1, .str (P 0).2, .str (P 1).1, .str (P 1).2]))] (.tup [.agg [.str (S 1).1, .str (S 1).2], .int .i64 0]) := by
 have h1 : (S 0).1 = (P 0).1 ∧ (S 0).2 = (P 0).2 := by rw [h0]; exact ⟨rfl, rfl⟩
 refine V.en tbOk Tryz.func87 ?_
 refine V.r0 jhN ?_
 refine jac (0) (fun k => k ≤ 1) (fun k => 1 - k) (fun k => [(14, .int .i64 k)]) (fun k => [(4, .box [.str (S k).1, .str (S k).2])]) ?_ ?_ ?_
 ·rw [h1.1, h1.2]
  exact V.wk
 ·exact jib _
 intro k hk
 have hk4 : k = 0 ∨ k = 1 := by omega
 rcases hk4 with e | e
 all_goals subst e
 ·simp only [k0]
  refine V.r1 jhN c0 ?_
  exact ⟨1, by omega, by omega, V.wk⟩
 ·simp only [k1]
  refine V.r0 @jif ?_
  exact Fin.of rfl
theorem sum3 (P S : Nat → Tx) (h0 : S 0 = P 0) (c0 : Called Tryz.prog 100 [.agg [.str (S 0).1, .str (S 0).2], .agg [.str (P 1).1, .str (P 1).2]] (.tup [.agg [.str (S 1).1, .str (S 1).2], .int .i64 0])) (c1 : Called Tryz.prog 100 [.agg [.str (S 1).1, .str (S 1).2], .agg [.str (P 2).1, .str (P 2).2]] (.tup [.agg [.str (S 2).1, .str (S 2).2], .int .i64 0])) :
  Called Tryz.prog 87 [.slf 2 3 (fun j => List.take 2 (List.drop (j * 2) [.str (P 0).1, .str (P 0).2, .str (P 1).1, .str (P 1).2, .str (P 2).1, .str (P 2).2]))] (.tup [.agg [.str (S 2).1, .str (S 2).2], .int .i64 0]) := by
 have h1 : (S 0).1 = (P 0).1 ∧ (S 0).2 = (P 0).2 := by rw [h0]; exact ⟨rfl, rfl⟩
 refine V.en tbOk Tryz.func87 ?_
 refine V.r0 jhN ?_
 refine jac (0) (fun k => k ≤ 2) (fun k => 2 - k) (fun k => [(14, .int .i64 k)]) (fun k => [(4, .box [.str (S k).1, .str (S k).2])]) ?_ ?_ ?_
 ·rw [h1.1, h1.2]
  exact V.wk
 ·exact jib _
 intro k hk
 have hk4 : k = 0 ∨ k = 1 ∨ k = 2 := by omega
 rcases hk4 with e | e | e
 all_goals subst e
 ·simp only [k0]
  refine V.r1 jhN c0 ?_
  exact ⟨1, by omega, by omega, V.wk⟩
 ·simp only [k1]
  refine V.r1 jhN c1 ?_
  exact ⟨2, by omega, by omega, V.wk⟩
 ·simp only [k2]
  refine V.r0 @jif ?_
  exact Fin.of rfl
theorem sum4 (P S : Nat → Tx) (h0 : S 0 = P 0) (c0 : Called Tryz.prog 100 [.agg [.str (S 0).1, .str (S 0).2], .agg [.str (P 1).1, .str (P 1).2]] (.tup [.agg [.str (S 1).1, .str (S 1).2], .int .i64 0])) (c1 : Called Tryz.prog 100 [.agg [.str (S 1).1, .str (S 1).2], .agg [.str (P 2).1, .str (P 2).2]] (.tup [.agg [.str (S 2).1, .str (S 2).2], .int .i64 0])) (c2 : Called Tryz.prog 100 [.agg [.str (S 2).1, .str (S 2).2], .agg [.str (P 3).1, .str (P 3).2]] (.tup [.agg [.str (S 3).1, .str (S 3).2], .int .i64 0])) :
  Called Tryz.prog 87 [.slf 2 4 (fun j => List.take 2 (List.drop (j * 2) [.str (P 0).1, .str (P 0).2, .str (P 1).1, .str (P 1).2, .str (P 2).1, .str (P 2).2, .str (P 3).1, .str (P 3).2]))] (.tup [.agg [.str (S 3).1, .str (S 3).2], .int .i64 0]) := by
 have h1 : (S 0).1 = (P 0).1 ∧ (S 0).2 = (P 0).2 := by rw [h0]; exact ⟨rfl, rfl⟩
 refine V.en tbOk Tryz.func87 ?_
 refine V.r0 jhN ?_
 refine jac (0) (fun k => k ≤ 3) (fun k => 3 - k) (fun k => [(14, .int .i64 k)]) (fun k => [(4, .box [.str (S k).1, .str (S k).2])]) ?_ ?_ ?_
 ·rw [h1.1, h1.2]
  exact V.wk
 ·exact jib _
 intro k hk
 have hk4 : k = 0 ∨ k = 1 ∨ k = 2 ∨ k = 3 := by omega
 rcases hk4 with e | e | e | e
 all_goals subst e
 ·simp only [k0]
  refine V.r1 jhN c0 ?_
  exact ⟨1, by omega, by omega, V.wk⟩
 ·simp only [k1]
  refine V.r1 jhN c1 ?_
  exact ⟨2, by omega, by omega, V.wk⟩
 ·simp only [k2]
  refine V.r1 jhN c2 ?_
  exact ⟨3, by omega, by omega, V.wk⟩
 ·simp only [k3]
  refine V.r0 @jif ?_
  exact Fin.of rfl
theorem jh6 : type_of% @jih ∧ type_of% @jif ∧ type_of% @tn0 ∧ type_of% @tn1 ∧ type_of% @tn2 ∧ type_of% @tn3 ∧ type_of% @xt4 := ⟨@jih, @jif, @tn0, @tn1, @tn2, @tn3, @xt4⟩
theorem prod2_0 (W M : Nat → Tx) (U : Nat → List Int) (out : Nat) (g0 g1 : List UInt8) (hl : out < (U 0).length) (ig : Called Tryz.prog 86 [.int .i64 ((U 0).getD out 0)] (.agg [.str g0, .str g1]))
  (mu : Called Tryz.prog 85 [.agg [.str (W 0).1, .str (W 0).2], .agg [.str g0, .str g1]] (.tup [.agg [.str (M 0).1, .str (M 0).2], .int .i64 0])) :
  Called Tryz.prog 84 [.int .i64 0, .ref [.slf 2 2 (fun j => List.take 2 (List.drop (j * 2) [.str (W 0).1, .str (W 0).2, .str (W 1).1, .str (W 1).2]))], .ref [.slf 1 2 (fun j => List.take 1 (List.drop (j * 1) [.ints .i64 (U 0), .ints .i64 (U 1)]))], .ref [.int .i64 out]] (.tup [.agg [.str (M 0).1, .str (M 0).2], .int .i64 0]) := by
 have hi : (out : Int) < (U 0).length := by omega
 refine V.en tbOk Tryz.func84 ?_
 refine V.r0 jhN ?_
 refine ⟨(V.tk [0,1,2,3,4,5,6,7,8,9,10] (V.e1 11 [3,2,1,0] (V.e1 12 [] (V.tk [13,14] (V.e1 15 [] (V.tk [16] .done)))))), [], V.pok, ?_⟩
 refine jab [(6, .int .i64 0)] [(5, .box [.str (M 0).1, .str (M 0).2])] ?_ ?_
 ·exact V.d2 jh6 ig mu
 refine V.r0 @jif ?_
 exact Fin.of rfl
theorem prod2_1 (W M : Nat → Tx) (U : Nat → List Int) (out : Nat) (g0 g1 : List UInt8) (hl : out < (U 1).length) (ig : Called Tryz.prog 86 [.int .i64 ((U 1).getD out 0)] (.agg [.str g0, .str g1]))
  (mu : Called Tryz.prog 85 [.agg [.str (W 1).1, .str (W 1).2], .agg [.str g0, .str g1]] (.tup [.agg [.str (M 1).1, .str (M 1).2], .int .i64 0])) :
  Called Tryz.prog 84 [.int .i64 1, .ref [.slf 2 2 (fun j => List.take 2 (List.drop (j * 2) [.str (W 0).1, .str (W 0).2, .str (W 1).1, .str (W 1).2]))], .ref [.slf 1 2 (fun j => List.take 1 (List.drop (j * 1) [.ints .i64 (U 0), .ints .i64 (U 1)]))], .ref [.int .i64 out]] (.tup [.agg [.str (M 1).1, .str (M 1).2], .int .i64 0]) := by
 have hi : (out : Int) < (U 1).length := by omega
 refine V.en tbOk Tryz.func84 ?_
 refine V.r0 jhN ?_
 refine ⟨(V.tk [0,1,2,3,4,5,6,7,8,9,10] (V.e1 11 [3,2,1,0] (V.e1 12 [] (V.tk [13,14] (V.e1 15 [] (V.tk [16] .done)))))), [], V.pok, ?_⟩
 refine jab [(6, .int .i64 0)] [(5, .box [.str (M 1).1, .str (M 1).2])] ?_ ?_
 ·exact V.d2 jh6 ig mu
 refine V.r0 @jif ?_
 exact Fin.of rfl
theorem prod3_0 (W M : Nat → Tx) (U : Nat → List Int) (out : Nat) (g0 g1 : List UInt8) (hl : out < (U 0).length) (ig : Called Tryz.prog 86 [.int .i64 ((U 0).getD out 0)] (.agg [.str g0, .str g1]))
  (mu : Called Tryz.prog 85 [.agg [.str (W 0).1, .str (W 0).2], .agg [.str g0, .str g1]] (.tup [.agg [.str (M 0).1, .str (M 0).2], .int .i64 0])) :
  Called Tryz.prog 84 [.int .i64 0, .ref [.slf 2 3 (fun j => List.take 2 (List.drop (j * 2) [.str (W 0).1, .str (W 0).2, .str (W 1).1, .str (W 1).2, .str (W 2).1, .str (W 2).2]))], .ref [.slf 1 3 (fun j => List.take 1 (List.drop (j * 1) [.ints .i64 (U 0), .ints .i64 (U 1), .ints .i64 (U 2)]))], .ref [.int .i64 out]] (.tup [.agg [.str (M 0).1, .str (M 0).2], .int .i64 0]) := by
 have hi : (out : Int) < (U 0).length := by omega
 refine V.en tbOk Tryz.func84 ?_
 refine V.r0 jhN ?_
 refine ⟨(V.tk [0,1,2,3,4,5,6,7,8,9,10] (V.e1 11 [3,2,1,0] (V.e1 12 [] (V.tk [13,14] (V.e1 15 [] (V.tk [16] .done)))))), [], V.pok, ?_⟩
 refine jab [(6, .int .i64 0)] [(5, .box [.str (M 0).1, .str (M 0).2])] ?_ ?_
 ·exact V.d2 jh6 ig mu
 refine V.r0 @jif ?_
 exact Fin.of rfl
theorem prod3_1 (W M : Nat → Tx) (U : Nat → List Int) (out : Nat) (g0 g1 : List UInt8) (hl : out < (U 1).length) (ig : Called Tryz.prog 86 [.int .i64 ((U 1).getD out 0)] (.agg [.str g0, .str g1]))
  (mu : Called Tryz.prog 85 [.agg [.str (W 1).1, .str (W 1).2], .agg [.str g0, .str g1]] (.tup [.agg [.str (M 1).1, .str (M 1).2], .int .i64 0])) :
  Called Tryz.prog 84 [.int .i64 1, .ref [.slf 2 3 (fun j => List.take 2 (List.drop (j * 2) [.str (W 0).1, .str (W 0).2, .str (W 1).1, .str (W 1).2, .str (W 2).1, .str (W 2).2]))], .ref [.slf 1 3 (fun j => List.take 1 (List.drop (j * 1) [.ints .i64 (U 0), .ints .i64 (U 1), .ints .i64 (U 2)]))], .ref [.int .i64 out]] (.tup [.agg [.str (M 1).1, .str (M 1).2], .int .i64 0]) := by
 have hi : (out : Int) < (U 1).length := by omega
 refine V.en tbOk Tryz.func84 ?_
 refine V.r0 jhN ?_
 refine ⟨(V.tk [0,1,2,3,4,5,6,7,8,9,10] (V.e1 11 [3,2,1,0] (V.e1 12 [] (V.tk [13,14] (V.e1 15 [] (V.tk [16] .done)))))), [], V.pok, ?_⟩
 refine jab [(6, .int .i64 0)] [(5, .box [.str (M 1).1, .str (M 1).2])] ?_ ?_
 ·exact V.d2 jh6 ig mu
 refine V.r0 @jif ?_
 exact Fin.of rfl
theorem prod3_2 (W M : Nat → Tx) (U : Nat → List Int) (out : Nat) (g0 g1 : List UInt8) (hl : out < (U 2).length) (ig : Called Tryz.prog 86 [.int .i64 ((U 2).getD out 0)] (.agg [.str g0, .str g1]))
  (mu : Called Tryz.prog 85 [.agg [.str (W 2).1, .str (W 2).2], .agg [.str g0, .str g1]] (.tup [.agg [.str (M 2).1, .str (M 2).2], .int .i64 0])) :
  Called Tryz.prog 84 [.int .i64 2, .ref [.slf 2 3 (fun j => List.take 2 (List.drop (j * 2) [.str (W 0).1, .str (W 0).2, .str (W 1).1, .str (W 1).2, .str (W 2).1, .str (W 2).2]))], .ref [.slf 1 3 (fun j => List.take 1 (List.drop (j * 1) [.ints .i64 (U 0), .ints .i64 (U 1), .ints .i64 (U 2)]))], .ref [.int .i64 out]] (.tup [.agg [.str (M 2).1, .str (M 2).2], .int .i64 0]) := by
 have hi : (out : Int) < (U 2).length := by omega
 refine V.en tbOk Tryz.func84 ?_
 refine V.r0 jhN ?_
 refine ⟨(V.tk [0,1,2,3,4,5,6,7,8,9,10] (V.e1 11 [3,2,1,0] (V.e1 12 [] (V.tk [13,14] (V.e1 15 [] (V.tk [16] .done)))))), [], V.pok, ?_⟩
 refine jab [(6, .int .i64 0)] [(5, .box [.str (M 2).1, .str (M 2).2])] ?_ ?_
 ·exact V.d2 jh6 ig mu
 refine V.r0 @jif ?_
 exact Fin.of rfl
theorem prod4_0 (W M : Nat → Tx) (U : Nat → List Int) (out : Nat) (g0 g1 : List UInt8) (hl : out < (U 0).length) (ig : Called Tryz.prog 86 [.int .i64 ((U 0).getD out 0)] (.agg [.str g0, .str g1]))
  (mu : Called Tryz.prog 85 [.agg [.str (W 0).1, .str (W 0).2], .agg [.str g0, .str g1]] (.tup [.agg [.str (M 0).1, .str (M 0).2], .int .i64 0])) :
  Called Tryz.prog 84 [.int .i64 0, .ref [.slf 2 4 (fun j => List.take 2 (List.drop (j * 2) [.str (W 0).1, .str (W 0).2, .str (W 1).1, .str (W 1).2, .str (W 2).1, .str (W 2).2, .str (W 3).1, .str (W 3).2]))], .ref [.slf 1 4 (fun j => List.take 1 (List.drop (j * 1) [.ints .i64 (U 0), .ints .i64 (U 1), .ints .i64 (U 2), .ints .i64 (U 3)]))], .ref [.int .i64 out]] (.tup [.agg [.str (M 0).1, .str (M 0).2], .int .i64 0]) := by
 have hi : (out : Int) < (U 0).length := by omega
 refine V.en tbOk Tryz.func84 ?_
 refine V.r0 jhN ?_
 refine ⟨(V.tk [0,1,2,3,4,5,6,7,8,9,10] (V.e1 11 [3,2,1,0] (V.e1 12 [] (V.tk [13,14] (V.e1 15 [] (V.tk [16] .done)))))), [], V.pok, ?_⟩
 refine jab [(6, .int .i64 0)] [(5, .box [.str (M 0).1, .str (M 0).2])] ?_ ?_
 ·exact V.d2 jh6 ig mu
 refine V.r0 @jif ?_
 exact Fin.of rfl
theorem prod4_1 (W M : Nat → Tx) (U : Nat → List Int) (out : Nat) (g0 g1 : List UInt8) (hl : out < (U 1).length) (ig : Called Tryz.prog 86 [.int .i64 ((U 1).getD out 0)] (.agg [.str g0, .str g1]))
  (mu : Called Tryz.prog 85 [.agg [.str (W 1).1, .str (W 1).2], .agg [.str g0, .str g1]] (.tup [.agg [.str (M 1).1, .str (M 1).2], .int .i64 0])) :
  Called Tryz.prog 84 [.int .i64 1, .ref [.slf 2 4 (fun j => List.take 2 (List.drop (j * 2) [.str (W 0).1, .str (W 0).2, .str (W 1).1, .str (W 1).2, .str (W 2).1, .str (W 2).2, .str (W 3).1, .str (W 3).2]))], .ref [.slf 1 4 (fun j => List.take 1 (List.drop (j * 1) [.ints .i64 (U 0), .ints .i64 (U 1), .ints .i64 (U 2), .ints .i64 (U 3)]))], .ref [.int .i64 out]] (.tup [.agg [.str (M 1).1, .str (M 1).2], .int .i64 0]) := by
 have hi : (out : Int) < (U 1).length := by omega
 refine V.en tbOk Tryz.func84 ?_
 refine V.r0 jhN ?_
 refine ⟨(V.tk [0,1,2,3,4,5,6,7,8,9,10] (V.e1 11 [3,2,1,0] (V.e1 12 [] (V.tk [13,14] (V.e1 15 [] (V.tk [16] .done)))))), [], V.pok, ?_⟩
 refine jab [(6, .int .i64 0)] [(5, .box [.str (M 1).1, .str (M 1).2])] ?_ ?_
 ·exact V.d2 jh6 ig mu
 refine V.r0 @jif ?_
 exact Fin.of rfl
theorem prod4_2 (W M : Nat → Tx) (U : Nat → List Int) (out : Nat) (g0 g1 : List UInt8) (hl : out < (U 2).length) (ig : Called Tryz.prog 86 [.int .i64 ((U 2).getD out 0)] (.agg [.str g0, .str g1]))
  (mu : Called Tryz.prog 85 [.agg [.str (W 2).1, .str (W 2).2], .agg [.str g0, .str g1]] (.tup [.agg [.str (M 2).1, .str (M 2).2], .int .i64 0])) :
  Called Tryz.prog 84 [.int .i64 2, .ref [.slf 2 4 (fun j => List.take 2 (List.drop (j * 2) [.str (W 0).1, .str (W 0).2, .str (W 1).1, .str (W 1).2, .str (W 2).1, .str (W 2).2, .str (W 3).1, .str (W 3).2]))], .ref [.slf 1 4 (fun j => List.take 1 (List.drop (j * 1) [.ints .i64 (U 0), .ints .i64 (U 1), .ints .i64 (U 2), .ints .i64 (U 3)]))], .ref [.int .i64 out]] (.tup [.agg [.str (M 2).1, .str (M 2).2], .int .i64 0]) := by
 have hi : (out : Int) < (U 2).length := by omega
 refine V.en tbOk Tryz.func84 ?_
 refine V.r0 jhN ?_
 refine ⟨(V.tk [0,1,2,3,4,5,6,7,8,9,10] (V.e1 11 [3,2,1,0] (V.e1 12 [] (V.tk [13,14] (V.e1 15 [] (V.tk [16] .done)))))), [], V.pok, ?_⟩
 refine jab [(6, .int .i64 0)] [(5, .box [.str (M 2).1, .str (M 2).2])] ?_ ?_
 ·exact V.d2 jh6 ig mu
 refine V.r0 @jif ?_
 exact Fin.of rfl
theorem prod4_3 (W M : Nat → Tx) (U : Nat → List Int) (out : Nat) (g0 g1 : List UInt8) (hl : out < (U 3).length) (ig : Called Tryz.prog 86 [.int .i64 ((U 3).getD out 0)] (.agg [.str g0, .str g1]))
  (mu : Called Tryz.prog 85 [.agg [.str (W 3).1, .str (W 3).2], .agg [.str g0, .str g1]] (.tup [.agg [.str (M 3).1, .str (M 3).2], .int .i64 0])) :
  Called Tryz.prog 84 [.int .i64 3, .ref [.slf 2 4 (fun j => List.take 2 (List.drop (j * 2) [.str (W 0).1, .str (W 0).2, .str (W 1).1, .str (W 1).2, .str (W 2).1, .str (W 2).2, .str (W 3).1, .str (W 3).2]))], .ref [.slf 1 4 (fun j => List.take 1 (List.drop (j * 1) [.ints .i64 (U 0), .ints .i64 (U 1), .ints .i64 (U 2), .ints .i64 (U 3)]))], .ref [.int .i64 out]] (.tup [.agg [.str (M 3).1, .str (M 3).2], .int .i64 0]) := by
 have hi : (out : Int) < (U 3).length := by omega
 refine V.en tbOk Tryz.func84 ?_
 refine V.r0 jhN ?_
 refine ⟨(V.tk [0,1,2,3,4,5,6,7,8,9,10] (V.e1 11 [3,2,1,0] (V.e1 12 [] (V.tk [13,14] (V.e1 15 [] (V.tk [16] .done)))))), [], V.pok, ?_⟩
 refine jab [(6, .int .i64 0)] [(5, .box [.str (M 3).1, .str (M 3).2])] ?_ ?_
 ·exact V.d2 jh6 ig mu
 refine V.r0 @jif ?_
 exact Fin.of rfl
theorem val1_2 (W M S : Nat → Tx) (U : Nat → List Int) (out : Int) (f0 f1 y0 y1 : List UInt8) (li : Called Tryz.prog 82 [.int .i64 2, .fn 84 [] [.ref [.slf 2 2 (fun j => List.take 2 (List.drop (j * 2) [.str (W 0).1, .str (W 0).2, .str (W 1).1, .str (W 1).2]))], .ref [.slf 1 2 (fun j => List.take 1 (List.drop (j * 1) [.ints .i64 (U 0), .ints .i64 (U 1)]))], .ref [.int .i64 out]]] (.tup [.slf 2 2 (fun j => List.take 2 (List.drop (j * 2) [.str (M 0).1, .str (M 0).2, .str (M 1).1, .str (M 1).2])), .int .i64 0]))
  (su : Called Tryz.prog 87 [.slf 2 2 (fun j => List.take 2 (List.drop (j * 2) [.str (M 0).1, .str (M 0).2, .str (M 1).1, .str (M 1).2]))] (.tup [.agg [.str (S 1).1, .str (S 1).2], .int .i64 0])) (fu : Called Tryz.prog 86 [.int .i64 65535] (.agg [.str f0, .str f1])) (dv : Called Tryz.prog 88 [.agg [.str (S 1).1, .str (S 1).2], .agg [.str f0, .str f1]] (.tup [.agg [.str y0, .str y1], .int .i64 0])) :
  Called Tryz.prog 83 [.int .i64 out, .ref [.slf 1 2 (fun j => List.take 1 (List.drop (j * 1) [.ints .i64 (U 0), .ints .i64 (U 1)]))], .ref [.slf 2 2 (fun j => List.take 2 (List.drop (j * 2) [.str (W 0).1, .str (W 0).2, .str (W 1).1, .str (W 1).2]))]] (.tup [.agg [.str y0, .str y1], .int .i64 0]) := by
 refine V.en tbOk Tryz.func83 ?_
 refine V.r2 @jif li su ?_
 refine ⟨(V.tk [0] (V.e1 1 [0] (V.e1 2 [] (V.tk [3,4] (V.e1 5 [] (V.tk [6] .done)))))), [], V.pok, ?_⟩
 refine jab [(5, .int .i64 0)] [(4, .box [.str y0, .str y1])] ?_ ?_
 ·exact V.d2 @jif fu dv
 refine V.r0 @jif ?_
 exact Fin.of rfl
theorem val1_3 (W M S : Nat → Tx) (U : Nat → List Int) (out : Int) (f0 f1 y0 y1 : List UInt8) (li : Called Tryz.prog 82 [.int .i64 3, .fn 84 [] [.ref [.slf 2 3 (fun j => List.take 2 (List.drop (j * 2) [.str (W 0).1, .str (W 0).2, .str (W 1).1, .str (W 1).2, .str (W 2).1, .str (W 2).2]))], .ref [.slf 1 3 (fun j => List.take 1 (List.drop (j * 1) [.ints .i64 (U 0), .ints .i64 (U 1), .ints .i64 (U 2)]))], .ref [.int .i64 out]]] (.tup [.slf 2 3 (fun j => List.take 2 (List.drop (j * 2) [.str (M 0).1, .str (M 0).2, .str (M 1).1, .str (M 1).2, .str (M 2).1, .str (M 2).2])), .int .i64 0]))
  (su : Called Tryz.prog 87 [.slf 2 3 (fun j => List.take 2 (List.drop (j * 2) [.str (M 0).1, .str (M 0).2, .str (M 1).1, .str (M 1).2, .str (M 2).1, .str (M 2).2]))] (.tup [.agg [.str (S 2).1, .str (S 2).2], .int .i64 0])) (fu : Called Tryz.prog 86 [.int .i64 65535] (.agg [.str f0, .str f1])) (dv : Called Tryz.prog 88 [.agg [.str (S 2).1, .str (S 2).2], .agg [.str f0, .str f1]] (.tup [.agg [.str y0, .str y1], .int .i64 0])) :
  Called Tryz.prog 83 [.int .i64 out, .ref [.slf 1 3 (fun j => List.take 1 (List.drop (j * 1) [.ints .i64 (U 0), .ints .i64 (U 1), .ints .i64 (U 2)]))], .ref [.slf 2 3 (fun j => List.take 2 (List.drop (j * 2) [.str (W 0).1, .str (W 0).2, .str (W 1).1, .str (W 1).2, .str (W 2).1, .str (W 2).2]))]] (.tup [.agg [.str y0, .str y1], .int .i64 0]) := by
 refine V.en tbOk Tryz.func83 ?_
 refine V.r2 @jif li su ?_
 refine ⟨(V.tk [0] (V.e1 1 [0] (V.e1 2 [] (V.tk [3,4] (V.e1 5 [] (V.tk [6] .done)))))), [], V.pok, ?_⟩
 refine jab [(5, .int .i64 0)] [(4, .box [.str y0, .str y1])] ?_ ?_
 ·exact V.d2 @jif fu dv
 refine V.r0 @jif ?_
 exact Fin.of rfl
theorem val1_4 (W M S : Nat → Tx) (U : Nat → List Int) (out : Int) (f0 f1 y0 y1 : List UInt8) (li : Called Tryz.prog 82 [.int .i64 4, .fn 84 [] [.ref [.slf 2 4 (fun j => List.take 2 (List.drop (j * 2) [.str (W 0).1, .str (W 0).2, .str (W 1).1, .str (W 1).2, .str (W 2).1, .str (W 2).2, .str (W 3).1, .str (W 3).2]))], .ref [.slf 1 4 (fun j => List.take 1 (List.drop (j * 1) [.ints .i64 (U 0), .ints .i64 (U 1), .ints .i64 (U 2), .ints .i64 (U 3)]))], .ref [.int .i64 out]]] (.tup [.slf 2 4 (fun j => List.take 2 (List.drop (j * 2) [.str (M 0).1, .str (M 0).2, .str (M 1).1, .str (M 1).2, .str (M 2).1, .str (M 2).2, .str (M 3).1, .str (M 3).2])), .int .i64 0]))
  (su : Called Tryz.prog 87 [.slf 2 4 (fun j => List.take 2 (List.drop (j * 2) [.str (M 0).1, .str (M 0).2, .str (M 1).1, .str (M 1).2, .str (M 2).1, .str (M 2).2, .str (M 3).1, .str (M 3).2]))] (.tup [.agg [.str (S 3).1, .str (S 3).2], .int .i64 0])) (fu : Called Tryz.prog 86 [.int .i64 65535] (.agg [.str f0, .str f1])) (dv : Called Tryz.prog 88 [.agg [.str (S 3).1, .str (S 3).2], .agg [.str f0, .str f1]] (.tup [.agg [.str y0, .str y1], .int .i64 0])) :
  Called Tryz.prog 83 [.int .i64 out, .ref [.slf 1 4 (fun j => List.take 1 (List.drop (j * 1) [.ints .i64 (U 0), .ints .i64 (U 1), .ints .i64 (U 2), .ints .i64 (U 3)]))], .ref [.slf 2 4 (fun j => List.take 2 (List.drop (j * 2) [.str (W 0).1, .str (W 0).2, .str (W 1).1, .str (W 1).2, .str (W 2).1, .str (W 2).2, .str (W 3).1, .str (W 3).2]))]] (.tup [.agg [.str y0, .str y1], .int .i64 0]) := by
 refine V.en tbOk Tryz.func83 ?_
 refine V.r2 @jif li su ?_
 refine ⟨(V.tk [0] (V.e1 1 [0] (V.e1 2 [] (V.tk [3,4] (V.e1 5 [] (V.tk [6] .done)))))), [], V.pok, ?_⟩
 refine jab [(5, .int .i64 0)] [(4, .box [.str y0, .str y1])] ?_ ?_
 ·exact V.d2 @jif fu dv
 refine V.r0 @jif ?_
 exact Fin.of rfl
theorem xd1 : ((1 : Int) - 1).toNat = 0 := rfl
theorem xd2 : ((2 : Int) - 1).toNat = 1 := rfl
theorem xd3 : ((3 : Int) - 1).toNat = 2 := rfl
def atK (a : List Int) (xs : List Int) : Nat → List Int
 | 0 => a
 | k + 1 => (atK a xs k).set (xs.getD k 0).toNat ((atK a xs k).getD (xs.getD k 0).toNat 0 + 1)
theorem ja0 (a xs : List Int) : ∀ k, a.length = 4 → (atK a xs k).length = 4
 | 0, h => h
 | k + 1, h => by simp only [atK]; rw [ji6]; exact ja0 a xs k h
def atS (a xs : List Int) : Nat → List Int
 | 0 => a
 | k + 1 => atK a xs k
def wcv : Nat → D
 | 0 => .nil
 | k + 1 => .bsl 109 0 (k + 1) 2
def pcv : Nat → D
 | 0 => .nil
 | k + 1 => .bsl 113 0 (k + 1) 1
def pce (U : Nat → List Int) : Nat → List D
 | 0 => []
 | k + 1 => pce U k ++ [.ints .i64 (U k)]
def tlv (W : Nat → Tx) (U : Nat → List Int) : Nat → Hp
 | 0 => []
 | k + 1 => [(109, .box (wce W (k + 1))), (113, .box (pce U (k + 1)))]
theorem point1_t (z0 b0 out : Int) (data xs at' v : List Int) (W : Nat → Tx) (hl : at'.length = 4) (ga : Called Tryz.prog 20 [.agg [.ints .i64 [z0], .int .i64 out, .ints .i64 data], .ints .i64 (at'.take 1)] (.tup [.ints .i64 v, .int .i64 0])) :
  Called Tryz.prog 80 [.agg [.ints .i64 [z0], .int .i64 out, .ints .i64 data, .ints .i64 [b0], .ints .i64 xs, .slf 2 2 (fun j => List.take 2 (List.drop (j * 2) [.str (W 0).1, .str (W 0).2, .str (W 1).1, .str (W 1).2]))], .iarr .i64 at'] (.tup [.ints .i64 v, .int .i64 0]) := by
 obtain ⟨a0, a1, a2, a3, rfl⟩ : ∃ a0 a1 a2 a3 : Int, at' = [a0, a1, a2, a3] := by
  match at', hl with
  | [a0, a1, a2, a3], _ => exact ⟨a0, a1, a2, a3, rfl⟩
 refine V.en tbOk Tryz.func80 ?_
 refine V.r0 @jif ?_
 refine ⟨(V.tk [0,1,2,3,4,5,6] (V.e1 7 [] (V.tk [8,9,10,11] .done))), [], V.pok, ?_⟩
 refine jab [(3, .any), (4, .ints .i64 v), (5, .int .i64 0)] [(3, .gone)] ?_ ?_
 ·exact V.d1 @jif ga
 refine V.r0 @jif ?_
 exact Fin.of rfl
theorem corners1_t (z0 b0 out : Int) (data xs : List Int) (W : Nat → Tx) : Called Tryz.prog 81 [.agg [.ints .i64 [z0], .int .i64 out, .ints .i64 data, .ints .i64 [b0], .ints .i64 xs, .slf 2 2 (fun j => List.take 2 (List.drop (j * 2) [.str (W 0).1, .str (W 0).2, .str (W 1).1, .str (W 1).2]))]] (.fn 128 [] [.ref [.ints .i64 [z0], .int .i64 out, .ints .i64 data, .ints .i64 [b0], .ints .i64 xs, .slf 2 2 (fun j => List.take 2 (List.drop (j * 2) [.str (W 0).1, .str (W 0).2, .str (W 1).1, .str (W 1).2]))]]) := by
 refine V.en tbOk Tryz.func81 ?_
 refine V.r0 @jif ?_
 exact Fin.of rfl
theorem jh5 : type_of% @jif ∧ type_of% @tn0 ∧ type_of% @tn1 ∧ type_of% @tn2 ∧ type_of% @tn3 ∧ type_of% @xd1 ∧ type_of% @xd2 ∧ type_of% @xd3 ∧ type_of% @xt4 := ⟨@jif, @tn0, @tn1, @tn2, @tn3, @xd1, @xd2, @xd3, @xt4⟩
theorem value1_t (z0 b0 out : Int) (data xs : List Int) (W : Nat → Tx) (U : Nat → List Int) (Y : Nat → List D) (e0 : Nat) (hl : xs.length = 1) (hx : ∀ k, k < 1 → 0 ≤ xs.getD k 0 ∧ xs.getD k 0 < 4) (hi : ∀ k, k < 1 → InR .i64 ((atK [b0, 0, 0, 0] xs k).getD (xs.getD k 0).toNat 0 + 1))
  (pt : ∀ k, k < 2 → Called Tryz.prog 80 [.agg [.ints .i64 [z0], .int .i64 out, .ints .i64 data, .ints .i64 [b0], .ints .i64 xs, .slf 2 2 (fun j => List.take 2 (List.drop (j * 2) [.str (W 0).1, .str (W 0).2, .str (W 1).1, .str (W 1).2]))], .iarr .i64 (atK [b0, 0, 0, 0] xs k)] (.tup [.ints .i64 (U k), .int .i64 0]))
  (li : Called Tryz.prog 82 [.int .i64 out, .fn 83 [] [.ref [.slf 1 2 (fun j => List.take 1 (List.drop (j * 1) [.ints .i64 (U 0), .ints .i64 (U 1)]))], .ref [.slf 2 2 (fun j => List.take 2 (List.drop (j * 2) [.str (W 0).1, .str (W 0).2, .str (W 1).1, .str (W 1).2]))]]] (.tup [.slf 2 e0 Y, .int .i64 0])) :
  Called Tryz.prog 45 [.agg [.ints .i64 [z0], .int .i64 out, .ints .i64 data, .ints .i64 [b0], .ints .i64 xs, .slf 2 2 (fun j => List.take 2 (List.drop (j * 2) [.str (W 0).1, .str (W 0).2, .str (W 1).1, .str (W 1).2]))]] (.tup [.slf 2 e0 Y, .int .i64 0]) := by
 have co := corners1_t z0 b0 out data xs W
 refine V.en tbOk Tryz.func45 ?_
 refine V.r1 @jif co ?_
 refine ⟨_, _, ⟨Tryz.func128, rfl, rfl, jia rfl⟩, ?_⟩
 refine V.r0 @jif ?_
 refine ⟨(V.tk [0,1,2] (V.e1 3 [] .done)), [], V.pok, ?_⟩
 refine jab [] [(47, .arr .i64 [b0, 0, 0, 0])] ?_ ?_
 ·exact V.d0 @jif
 refine V.r0 @jif ?_
 refine jac 0 (fun k => k ≤ 2) (fun k => 2 - k) (fun k => [(13, .int .i64 k)]) (fun k => (43, .lp none) :: (47, .arr .i64 (atS [b0, 0, 0, 0] xs k)) :: (5, .box [wcv k]) :: (6, .box [pcv k]) :: (7, .box [.int .i64 0]) :: tlv W U k) ?_ ?_ ?_
 ·exact V.wk
 ·exact jib _
 intro k hk
 have hk4 : k = 0 ∨ k = 1 ∨ k = 2 := by omega
 rcases hk4 with e | e | e
 all_goals subst e
 ·simp only [k0, atS, wcv, pcv, tlv]
  have p := pt 0 (by omega)
  simp only [atK] at p
  refine V.r1 jh5 p ?_
  exact ⟨1, by omega, by omega, V.wk⟩
 ·simp only [k1, atS, wcv, pcv, tlv]
  have p := pt 1 (by omega)
  have g := hx 0 (by omega)
  have h := hi 0 (by omega)
  have l4 := ja0 [b0, 0, 0, 0] xs 0 rfl
  have l5 := ja0 [b0, 0, 0, 0] xs 1 rfl
  simp only [atK] at p h l4 l5 ⊢
  refine V.r1 jh5 p ?_
  exact ⟨2, by omega, by omega, V.wk⟩
 ·simp only [k2, atS, wcv, pcv, tlv]
  (conv => whnf)
  repeat ((fail_if_success (with_reducible refine Cnd.split ?_)); refine V.s1 ?_; (try simp only [jif]))
  refine V.s1 ?_
  (conv => whnf)
  repeat ((fail_if_success (with_reducible refine Cnd.split ?_)); refine V.s1 ?_; (try simp only [jif]))
  refine ja7 [(5, .ref [.slf 2 2 (fun j => List.take 2 (List.drop (j * 2) [.str (W 0).1, .str (W 0).2, .str (W 1).1, .str (W 1).2]))]), (6, .ref [.slf 1 2 (fun j => List.take 1 (List.drop (j * 1) [.ints .i64 (U 0), .ints .i64 (U 1)]))])] [(5, .gone), (6, .gone), (109, .gone), (113, .gone)] (CondB.mk (fun h => absurd h (by decide)) (fun _ => ?_)) ?_
  ·(conv => whnf)
   refine Wk.pub 109 ?_
   (conv => whnf)
   refine Wk.pub 113 ?_
   (conv => whnf)
   refine Wk.pub 5 ?_
   (conv => whnf)
   refine Wk.pub 6 ?_
   (conv => whnf)
   simp only [jif]
   exact V.wk
  refine V.r1 @jif li ?_
  exact Fin.of rfl
theorem point2_t (z0 z1 b0 b1 out : Int) (data xs at' v : List Int) (W : Nat → Tx) (hl : at'.length = 4) (ga : Called Tryz.prog 20 [.agg [.ints .i64 [z0, z1], .int .i64 out, .ints .i64 data], .ints .i64 (at'.take 2)] (.tup [.ints .i64 v, .int .i64 0])) :
  Called Tryz.prog 80 [.agg [.ints .i64 [z0, z1], .int .i64 out, .ints .i64 data, .ints .i64 [b0, b1], .ints .i64 xs, .slf 2 3 (fun j => List.take 2 (List.drop (j * 2) [.str (W 0).1, .str (W 0).2, .str (W 1).1, .str (W 1).2, .str (W 2).1, .str (W 2).2]))], .iarr .i64 at'] (.tup [.ints .i64 v, .int .i64 0]) := by
 obtain ⟨a0, a1, a2, a3, rfl⟩ : ∃ a0 a1 a2 a3 : Int, at' = [a0, a1, a2, a3] := by
  match at', hl with
  | [a0, a1, a2, a3], _ => exact ⟨a0, a1, a2, a3, rfl⟩
 refine V.en tbOk Tryz.func80 ?_
 refine V.r0 @jif ?_
 refine ⟨(V.tk [0,1,2,3,4,5,6] (V.e1 7 [] (V.tk [8,9,10,11] .done))), [], V.pok, ?_⟩
 refine jab [(3, .any), (4, .ints .i64 v), (5, .int .i64 0)] [(3, .gone)] ?_ ?_
 ·exact V.d1 @jif ga
 refine V.r0 @jif ?_
 exact Fin.of rfl
theorem corners2_t (z0 z1 b0 b1 out : Int) (data xs : List Int) (W : Nat → Tx) : Called Tryz.prog 81 [.agg [.ints .i64 [z0, z1], .int .i64 out, .ints .i64 data, .ints .i64 [b0, b1], .ints .i64 xs, .slf 2 3 (fun j => List.take 2 (List.drop (j * 2) [.str (W 0).1, .str (W 0).2, .str (W 1).1, .str (W 1).2, .str (W 2).1, .str (W 2).2]))]] (.fn 128 [] [.ref [.ints .i64 [z0, z1], .int .i64 out, .ints .i64 data, .ints .i64 [b0, b1], .ints .i64 xs, .slf 2 3 (fun j => List.take 2 (List.drop (j * 2) [.str (W 0).1, .str (W 0).2, .str (W 1).1, .str (W 1).2, .str (W 2).1, .str (W 2).2]))]]) := by
 refine V.en tbOk Tryz.func81 ?_
 refine V.r0 @jif ?_
 exact Fin.of rfl
theorem value2_t (z0 z1 b0 b1 out : Int) (data xs : List Int) (W : Nat → Tx) (U : Nat → List Int) (Y : Nat → List D) (e0 : Nat) (hl : xs.length = 2) (hx : ∀ k, k < 2 → 0 ≤ xs.getD k 0 ∧ xs.getD k 0 < 4) (hi : ∀ k, k < 2 → InR .i64 ((atK [b0, b1, 0, 0] xs k).getD (xs.getD k 0).toNat 0 + 1))
  (pt : ∀ k, k < 3 → Called Tryz.prog 80 [.agg [.ints .i64 [z0, z1], .int .i64 out, .ints .i64 data, .ints .i64 [b0, b1], .ints .i64 xs, .slf 2 3 (fun j => List.take 2 (List.drop (j * 2) [.str (W 0).1, .str (W 0).2, .str (W 1).1, .str (W 1).2, .str (W 2).1, .str (W 2).2]))], .iarr .i64 (atK [b0, b1, 0, 0] xs k)] (.tup [.ints .i64 (U k), .int .i64 0]))
  (li : Called Tryz.prog 82 [.int .i64 out, .fn 83 [] [.ref [.slf 1 3 (fun j => List.take 1 (List.drop (j * 1) [.ints .i64 (U 0), .ints .i64 (U 1), .ints .i64 (U 2)]))], .ref [.slf 2 3 (fun j => List.take 2 (List.drop (j * 2) [.str (W 0).1, .str (W 0).2, .str (W 1).1, .str (W 1).2, .str (W 2).1, .str (W 2).2]))]]] (.tup [.slf 2 e0 Y, .int .i64 0])) :
  Called Tryz.prog 45 [.agg [.ints .i64 [z0, z1], .int .i64 out, .ints .i64 data, .ints .i64 [b0, b1], .ints .i64 xs, .slf 2 3 (fun j => List.take 2 (List.drop (j * 2) [.str (W 0).1, .str (W 0).2, .str (W 1).1, .str (W 1).2, .str (W 2).1, .str (W 2).2]))]] (.tup [.slf 2 e0 Y, .int .i64 0]) := by
 have co := corners2_t z0 z1 b0 b1 out data xs W
 refine V.en tbOk Tryz.func45 ?_
 refine V.r1 @jif co ?_
 refine ⟨_, _, ⟨Tryz.func128, rfl, rfl, jia rfl⟩, ?_⟩
 refine V.r0 @jif ?_
 refine ⟨(V.tk [0,1,2] (V.e1 3 [] .done)), [], V.pok, ?_⟩
 refine jab [] [(47, .arr .i64 [b0, b1, 0, 0])] ?_ ?_
 ·exact V.d0 @jif
 refine V.r0 @jif ?_
 refine jac 0 (fun k => k ≤ 3) (fun k => 3 - k) (fun k => [(13, .int .i64 k)]) (fun k => (43, .lp none) :: (47, .arr .i64 (atS [b0, b1, 0, 0] xs k)) :: (5, .box [wcv k]) :: (6, .box [pcv k]) :: (7, .box [.int .i64 0]) :: tlv W U k) ?_ ?_ ?_
 ·exact V.wk
 ·exact jib _
 intro k hk
 have hk4 : k = 0 ∨ k = 1 ∨ k = 2 ∨ k = 3 := by omega
 rcases hk4 with e | e | e | e
 all_goals subst e
 ·simp only [k0, atS, wcv, pcv, tlv]
  have p := pt 0 (by omega)
  simp only [atK] at p
  refine V.r1 jh5 p ?_
  exact ⟨1, by omega, by omega, V.wk⟩
 ·simp only [k1, atS, wcv, pcv, tlv]
  have p := pt 1 (by omega)
  have g := hx 0 (by omega)
  have h := hi 0 (by omega)
  have l4 := ja0 [b0, b1, 0, 0] xs 0 rfl
  have l5 := ja0 [b0, b1, 0, 0] xs 1 rfl
  simp only [atK] at p h l4 l5 ⊢
  refine V.r1 jh5 p ?_
  exact ⟨2, by omega, by omega, V.wk⟩
 ·simp only [k2, atS, wcv, pcv, tlv]
  have p := pt 2 (by omega)
  have g := hx 1 (by omega)
  have h := hi 1 (by omega)
  have l4 := ja0 [b0, b1, 0, 0] xs 1 rfl
  have l5 := ja0 [b0, b1, 0, 0] xs 2 rfl
  simp only [atK] at p h l4 l5 ⊢
  refine V.r1 jh5 p ?_
  exact ⟨3, by omega, by omega, V.wk⟩
 ·simp only [k3, atS, wcv, pcv, tlv]
  (conv => whnf)
  repeat ((fail_if_success (with_reducible refine Cnd.split ?_)); refine V.s1 ?_; (try simp only [jif]))
  refine V.s1 ?_
  (conv => whnf)
  repeat ((fail_if_success (with_reducible refine Cnd.split ?_)); refine V.s1 ?_; (try simp only [jif]))
  refine ja7 [(5, .ref [.slf 2 3 (fun j => List.take 2 (List.drop (j * 2) [.str (W 0).1, .str (W 0).2, .str (W 1).1, .str (W 1).2, .str (W 2).1, .str (W 2).2]))]), (6, .ref [.slf 1 3 (fun j => List.take 1 (List.drop (j * 1) [.ints .i64 (U 0), .ints .i64 (U 1), .ints .i64 (U 2)]))])] [(5, .gone), (6, .gone), (109, .gone), (113, .gone)] (CondB.mk (fun h => absurd h (by decide)) (fun _ => ?_)) ?_
  ·(conv => whnf)
   refine Wk.pub 109 ?_
   (conv => whnf)
   refine Wk.pub 113 ?_
   (conv => whnf)
   refine Wk.pub 5 ?_
   (conv => whnf)
   refine Wk.pub 6 ?_
   (conv => whnf)
   simp only [jif]
   exact V.wk
  refine V.r1 @jif li ?_
  exact Fin.of rfl
theorem point3_t (z0 z1 z2 b0 b1 b2 out : Int) (data xs at' v : List Int) (W : Nat → Tx) (hl : at'.length = 4) (ga : Called Tryz.prog 20 [.agg [.ints .i64 [z0, z1, z2], .int .i64 out, .ints .i64 data], .ints .i64 (at'.take 3)] (.tup [.ints .i64 v, .int .i64 0])) :
  Called Tryz.prog 80 [.agg [.ints .i64 [z0, z1, z2], .int .i64 out, .ints .i64 data, .ints .i64 [b0, b1, b2], .ints .i64 xs, .slf 2 4 (fun j => List.take 2 (List.drop (j * 2) [.str (W 0).1, .str (W 0).2, .str (W 1).1, .str (W 1).2, .str (W 2).1, .str (W 2).2, .str (W 3).1, .str (W 3).2]))], .iarr .i64 at'] (.tup [.ints .i64 v, .int .i64 0]) := by
 obtain ⟨a0, a1, a2, a3, rfl⟩ : ∃ a0 a1 a2 a3 : Int, at' = [a0, a1, a2, a3] := by
  match at', hl with
  | [a0, a1, a2, a3], _ => exact ⟨a0, a1, a2, a3, rfl⟩
 refine V.en tbOk Tryz.func80 ?_
 refine V.r0 @jif ?_
 refine ⟨(V.tk [0,1,2,3,4,5,6] (V.e1 7 [] (V.tk [8,9,10,11] .done))), [], V.pok, ?_⟩
 refine jab [(3, .any), (4, .ints .i64 v), (5, .int .i64 0)] [(3, .gone)] ?_ ?_
 ·exact V.d1 @jif ga
 refine V.r0 @jif ?_
 exact Fin.of rfl
theorem corners3_t (z0 z1 z2 b0 b1 b2 out : Int) (data xs : List Int) (W : Nat → Tx) : Called Tryz.prog 81 [.agg [.ints .i64 [z0, z1, z2], .int .i64 out, .ints .i64 data, .ints .i64 [b0, b1, b2], .ints .i64 xs, .slf 2 4 (fun j => List.take 2 (List.drop (j * 2) [.str (W 0).1, .str (W 0).2, .str (W 1).1, .str (W 1).2, .str (W 2).1, .str (W 2).2, .str (W 3).1, .str (W 3).2]))]] (.fn 128 [] [.ref [.ints .i64 [z0, z1, z2], .int .i64 out, .ints .i64 data, .ints .i64 [b0, b1, b2], .ints .i64 xs, .slf 2 4 (fun j => List.take 2 (List.drop (j * 2) [.str (W 0).1, .str (W 0).2, .str (W 1).1, .str (W 1).2, .str (W 2).1, .str (W 2).2, .str (W 3).1, .str (W 3).2]))]]) := by
 refine V.en tbOk Tryz.func81 ?_
 refine V.r0 @jif ?_
 exact Fin.of rfl
theorem value3_t (z0 z1 z2 b0 b1 b2 out : Int) (data xs : List Int) (W : Nat → Tx) (U : Nat → List Int) (Y : Nat → List D) (e0 : Nat) (hl : xs.length = 3) (hx : ∀ k, k < 3 → 0 ≤ xs.getD k 0 ∧ xs.getD k 0 < 4) (hi : ∀ k, k < 3 → InR .i64 ((atK [b0, b1, b2, 0] xs k).getD (xs.getD k 0).toNat 0 + 1))
  (pt : ∀ k, k < 4 → Called Tryz.prog 80 [.agg [.ints .i64 [z0, z1, z2], .int .i64 out, .ints .i64 data, .ints .i64 [b0, b1, b2], .ints .i64 xs, .slf 2 4 (fun j => List.take 2 (List.drop (j * 2) [.str (W 0).1, .str (W 0).2, .str (W 1).1, .str (W 1).2, .str (W 2).1, .str (W 2).2, .str (W 3).1, .str (W 3).2]))], .iarr .i64 (atK [b0, b1, b2, 0] xs k)] (.tup [.ints .i64 (U k), .int .i64 0]))
  (li : Called Tryz.prog 82 [.int .i64 out, .fn 83 [] [.ref [.slf 1 4 (fun j => List.take 1 (List.drop (j * 1) [.ints .i64 (U 0), .ints .i64 (U 1), .ints .i64 (U 2), .ints .i64 (U 3)]))], .ref [.slf 2 4 (fun j => List.take 2 (List.drop (j * 2) [.str (W 0).1, .str (W 0).2, .str (W 1).1, .str (W 1).2, .str (W 2).1, .str (W 2).2, .str (W 3).1, .str (W 3).2]))]]] (.tup [.slf 2 e0 Y, .int .i64 0])) :
  Called Tryz.prog 45 [.agg [.ints .i64 [z0, z1, z2], .int .i64 out, .ints .i64 data, .ints .i64 [b0, b1, b2], .ints .i64 xs, .slf 2 4 (fun j => List.take 2 (List.drop (j * 2) [.str (W 0).1, .str (W 0).2, .str (W 1).1, .str (W 1).2, .str (W 2).1, .str (W 2).2, .str (W 3).1, .str (W 3).2]))]] (.tup [.slf 2 e0 Y, .int .i64 0]) := by
 have co := corners3_t z0 z1 z2 b0 b1 b2 out data xs W
 refine V.en tbOk Tryz.func45 ?_
 refine V.r1 @jif co ?_
 refine ⟨_, _, ⟨Tryz.func128, rfl, rfl, jia rfl⟩, ?_⟩
 refine V.r0 @jif ?_
 refine ⟨(V.tk [0,1,2] (V.e1 3 [] .done)), [], V.pok, ?_⟩
 refine jab [] [(47, .arr .i64 [b0, b1, b2, 0])] ?_ ?_
 ·exact V.d0 @jif
 refine V.r0 @jif ?_
 refine jac 0 (fun k => k ≤ 4) (fun k => 4 - k) (fun k => [(13, .int .i64 k)]) (fun k => (43, .lp none) :: (47, .arr .i64 (atS [b0, b1, b2, 0] xs k)) :: (5, .box [wcv k]) :: (6, .box [pcv k]) :: (7, .box [.int .i64 0]) :: tlv W U k) ?_ ?_ ?_
 ·exact V.wk
 ·exact jib _
 intro k hk
 have hk4 : k = 0 ∨ k = 1 ∨ k = 2 ∨ k = 3 ∨ k = 4 := by omega
 rcases hk4 with e | e | e | e | e
 all_goals subst e
 ·simp only [k0, atS, wcv, pcv, tlv]
  have p := pt 0 (by omega)
  simp only [atK] at p
  refine V.r1 jh5 p ?_
  exact ⟨1, by omega, by omega, V.wk⟩
 ·simp only [k1, atS, wcv, pcv, tlv]
  have p := pt 1 (by omega)
  have g := hx 0 (by omega)
  have h := hi 0 (by omega)
  have l4 := ja0 [b0, b1, b2, 0] xs 0 rfl
  have l5 := ja0 [b0, b1, b2, 0] xs 1 rfl
  simp only [atK] at p h l4 l5 ⊢
  refine V.r1 jh5 p ?_
  exact ⟨2, by omega, by omega, V.wk⟩
 ·simp only [k2, atS, wcv, pcv, tlv]
  have p := pt 2 (by omega)
  have g := hx 1 (by omega)
  have h := hi 1 (by omega)
  have l4 := ja0 [b0, b1, b2, 0] xs 1 rfl
  have l5 := ja0 [b0, b1, b2, 0] xs 2 rfl
  simp only [atK] at p h l4 l5 ⊢
  refine V.r1 jh5 p ?_
  exact ⟨3, by omega, by omega, V.wk⟩
 ·simp only [k3, atS, wcv, pcv, tlv]
  have p := pt 3 (by omega)
  have g := hx 2 (by omega)
  have h := hi 2 (by omega)
  have l4 := ja0 [b0, b1, b2, 0] xs 2 rfl
  have l5 := ja0 [b0, b1, b2, 0] xs 3 rfl
  simp only [atK] at p h l4 l5 ⊢
  refine V.r1 jh5 p ?_
  exact ⟨4, by omega, by omega, V.wk⟩
 ·simp only [xk4, atS, wcv, pcv, tlv]
  (conv => whnf)
  repeat ((fail_if_success (with_reducible refine Cnd.split ?_)); refine V.s1 ?_; (try simp only [jif]))
  refine V.s1 ?_
  (conv => whnf)
  repeat ((fail_if_success (with_reducible refine Cnd.split ?_)); refine V.s1 ?_; (try simp only [jif]))
  refine ja7 [(5, .ref [.slf 2 4 (fun j => List.take 2 (List.drop (j * 2) [.str (W 0).1, .str (W 0).2, .str (W 1).1, .str (W 1).2, .str (W 2).1, .str (W 2).2, .str (W 3).1, .str (W 3).2]))]), (6, .ref [.slf 1 4 (fun j => List.take 1 (List.drop (j * 1) [.ints .i64 (U 0), .ints .i64 (U 1), .ints .i64 (U 2), .ints .i64 (U 3)]))])] [(5, .gone), (6, .gone), (109, .gone), (113, .gone)] (CondB.mk (fun h => absurd h (by decide)) (fun _ => ?_)) ?_
  ·(conv => whnf)
   refine Wk.pub 109 ?_
   (conv => whnf)
   refine Wk.pub 113 ?_
   (conv => whnf)
   refine Wk.pub 5 ?_
   (conv => whnf)
   refine Wk.pub 6 ?_
   (conv => whnf)
   simp only [jif]
   exact V.wk
  refine V.r1 @jif li ?_
  exact Fin.of rfl
end Go.Proofs.YtgjgpdceghjajaaGreatDoor
end
