/- What some functions of the program answer at values that mean given lists, texts and numbers, each proved of the program's own code: part 27. Conditions: those that each theorem names. -/
import Derived.Test.YtgjgpdceghjajaaGreatDoorSimplexKnownH26
import Derived.Test.YtgjgpdceghjajaaGreatDoorSimplexKnownH14
set_option linter.unusedSimpArgs false
set_option linter.unusedVariables false
set_option maxHeartbeats 8000000
set_option maxRecDepth 100000
section
namespace Go.Proofs.YtgjgpdceghjajaaGreatDoor
open Go Go.V Go.Nb
theorem xk4 : ((4 : Nat) : Int) = 4 := rfl
theorem xt4 : (4 : Int).toNat = 4 := rfl
theorem jha : type_of% @jhC ∧ type_of% @tn0 ∧ type_of% @tn1 ∧ type_of% @tn2 ∧ type_of% @tn3 ∧ type_of% @xt4 := ⟨@jhC, @tn0, @tn1, @tn2, @tn3, @xt4⟩
theorem list1_2 {F e0 n0 e1 n1 : Nat} {f0 f1 : Nat → List D} {z : Int} (T : Nat → Tx) (c0 : Called Tryz.prog F (.int .i64 0 :: [.ref [.slf e0 n0 f0], .ref [.slf e1 n1 f1]]) (.tup [.agg [.str (T 0).1, .str (T 0).2], .int .i64 0])) :
  Called Tryz.prog 82 [.int .i64 1, .fn F [] [.ref [.slf e0 n0 f0], .ref [.slf e1 n1 f1]]] (.tup [.slf 2 1 (fun j => List.take 2 (List.drop (j * 2) [.str (T 0).1, .str (T 0).2])), .int .i64 0]) := by
 refine jaa tbOk 6 ⟨Tryz.func82, rfl, rfl, jhy rfl⟩ ?_
 (conv => whnf)
 refine V.r0 @jhC ?_
 refine jah (0) (fun k => k ≤ 1) (fun k => 1 - k) (fun k => [(14, .int .i64 k)]) (fun k => [(11, .box (preD (2 * k) [.str (T 0).1, .str (T 0).2]))]) ?_ ?_ ?_
 ·exact V.wk
 ·exact jhz _
 intro k hk
 have hk4 : k = 0 ∨ k = 1 := by omega
 rcases hk4 with e | e
 all_goals subst e
 ·simp only [k0]
  refine V.r1 jha c0 ?_
  exact ⟨1, by omega, by omega, V.wk⟩
 ·simp only [k1]
  refine V.r0 @jhC ?_
  exact Fin.of rfl
theorem list2_2 {F e0 n0 e1 n1 : Nat} {f0 f1 : Nat → List D} {z : Int} (T : Nat → Tx) (c0 : Called Tryz.prog F (.int .i64 0 :: [.ref [.slf e0 n0 f0], .ref [.slf e1 n1 f1]]) (.tup [.agg [.str (T 0).1, .str (T 0).2], .int .i64 0])) (c1 : Called Tryz.prog F (.int .i64 1 :: [.ref [.slf e0 n0 f0], .ref [.slf e1 n1 f1]]) (.tup [.agg [.str (T 1).1, .str (T 1).2], .int .i64 0])) :
  Called Tryz.prog 82 [.int .i64 2, .fn F [] [.ref [.slf e0 n0 f0], .ref [.slf e1 n1 f1]]] (.tup [.slf 2 2 (fun j => List.take 2 (List.drop (j * 2) [.str (T 0).1, .str (T 0).2, .str (T 1).1, .str (T 1).2])), .int .i64 0]) := by
 refine jaa tbOk 6 ⟨Tryz.func82, rfl, rfl, jhy rfl⟩ ?_
 (conv => whnf)
 refine V.r0 @jhC ?_
 refine jah (0) (fun k => k ≤ 2) (fun k => 2 - k) (fun k => [(14, .int .i64 k)]) (fun k => [(11, .box (preD (2 * k) [.str (T 0).1, .str (T 0).2, .str (T 1).1, .str (T 1).2]))]) ?_ ?_ ?_
 ·exact V.wk
 ·exact jhz _
 intro k hk
 have hk4 : k = 0 ∨ k = 1 ∨ k = 2 := by omega
 rcases hk4 with e | e | e
 all_goals subst e
 ·simp only [k0]
  refine V.r1 jha c0 ?_
  exact ⟨1, by omega, by omega, V.wk⟩
 ·simp only [k1]
  refine V.r1 jha c1 ?_
  exact ⟨2, by omega, by omega, V.wk⟩
 ·simp only [k2]
  refine V.r0 @jhC ?_
  exact Fin.of rfl
theorem list3_2 {F e0 n0 e1 n1 : Nat} {f0 f1 : Nat → List D} {z : Int} (T : Nat → Tx) (c0 : Called Tryz.prog F (.int .i64 0 :: [.ref [.slf e0 n0 f0], .ref [.slf e1 n1 f1]]) (.tup [.agg [.str (T 0).1, .str (T 0).2], .int .i64 0])) (c1 : Called Tryz.prog F (.int .i64 1 :: [.ref [.slf e0 n0 f0], .ref [.slf e1 n1 f1]]) (.tup [.agg [.str (T 1).1, .str (T 1).2], .int .i64 0])) (c2 : Called Tryz.prog F (.int .i64 2 :: [.ref [.slf e0 n0 f0], .ref [.slf e1 n1 f1]]) (.tup [.agg [.str (T 2).1, .str (T 2).2], .int .i64 0])) :
  Called Tryz.prog 82 [.int .i64 3, .fn F [] [.ref [.slf e0 n0 f0], .ref [.slf e1 n1 f1]]] (.tup [.slf 2 3 (fun j => List.take 2 (List.drop (j * 2) [.str (T 0).1, .str (T 0).2, .str (T 1).1, .str (T 1).2, .str (T 2).1, .str (T 2).2])), .int .i64 0]) := by
 refine jaa tbOk 6 ⟨Tryz.func82, rfl, rfl, jhy rfl⟩ ?_
 (conv => whnf)
 refine V.r0 @jhC ?_
 refine jah (0) (fun k => k ≤ 3) (fun k => 3 - k) (fun k => [(14, .int .i64 k)]) (fun k => [(11, .box (preD (2 * k) [.str (T 0).1, .str (T 0).2, .str (T 1).1, .str (T 1).2, .str (T 2).1, .str (T 2).2]))]) ?_ ?_ ?_
 ·exact V.wk
 ·exact jhz _
 intro k hk
 have hk4 : k = 0 ∨ k = 1 ∨ k = 2 ∨ k = 3 := by omega
 rcases hk4 with e | e | e | e
 all_goals subst e
 ·simp only [k0]
  refine V.r1 jha c0 ?_
  exact ⟨1, by omega, by omega, V.wk⟩
 ·simp only [k1]
  refine V.r1 jha c1 ?_
  exact ⟨2, by omega, by omega, V.wk⟩
 ·simp only [k2]
  refine V.r1 jha c2 ?_
  exact ⟨3, by omega, by omega, V.wk⟩
 ·simp only [k3]
  refine V.r0 @jhC ?_
  exact Fin.of rfl
theorem list3_3 {F e0 n0 e1 n1 : Nat} {f0 f1 : Nat → List D} {z : Int} (T : Nat → Tx) (c0 : Called Tryz.prog F (.int .i64 0 :: [.ref [.slf e0 n0 f0], .ref [.slf e1 n1 f1], .ref [.int .i64 z]]) (.tup [.agg [.str (T 0).1, .str (T 0).2], .int .i64 0])) (c1 : Called Tryz.prog F (.int .i64 1 :: [.ref [.slf e0 n0 f0], .ref [.slf e1 n1 f1], .ref [.int .i64 z]]) (.tup [.agg [.str (T 1).1, .str (T 1).2], .int .i64 0])) (c2 : Called Tryz.prog F (.int .i64 2 :: [.ref [.slf e0 n0 f0], .ref [.slf e1 n1 f1], .ref [.int .i64 z]]) (.tup [.agg [.str (T 2).1, .str (T 2).2], .int .i64 0])) :
  Called Tryz.prog 82 [.int .i64 3, .fn F [] [.ref [.slf e0 n0 f0], .ref [.slf e1 n1 f1], .ref [.int .i64 z]]] (.tup [.slf 2 3 (fun j => List.take 2 (List.drop (j * 2) [.str (T 0).1, .str (T 0).2, .str (T 1).1, .str (T 1).2, .str (T 2).1, .str (T 2).2])), .int .i64 0]) := by
 refine jaa tbOk 6 ⟨Tryz.func82, rfl, rfl, jhy rfl⟩ ?_
 (conv => whnf)
 refine V.r0 @jhC ?_
 refine jah (0) (fun k => k ≤ 3) (fun k => 3 - k) (fun k => [(14, .int .i64 k)]) (fun k => [(11, .box (preD (2 * k) [.str (T 0).1, .str (T 0).2, .str (T 1).1, .str (T 1).2, .str (T 2).1, .str (T 2).2]))]) ?_ ?_ ?_
 ·exact V.wk
 ·exact jhz _
 intro k hk
 have hk4 : k = 0 ∨ k = 1 ∨ k = 2 ∨ k = 3 := by omega
 rcases hk4 with e | e | e | e
 all_goals subst e
 ·simp only [k0]
  refine V.r1 jha c0 ?_
  exact ⟨1, by omega, by omega, V.wk⟩
 ·simp only [k1]
  refine V.r1 jha c1 ?_
  exact ⟨2, by omega, by omega, V.wk⟩
 ·simp only [k2]
  refine V.r1 jha c2 ?_
  exact ⟨3, by omega, by omega, V.wk⟩
 ·simp only [k3]
  refine V.r0 @jhC ?_
  exact Fin.of rfl
theorem list4_2 {F e0 n0 e1 n1 : Nat} {f0 f1 : Nat → List D} {z : Int} (T : Nat → Tx) (c0 : Called Tryz.prog F (.int .i64 0 :: [.ref [.slf e0 n0 f0], .ref [.slf e1 n1 f1]]) (.tup [.agg [.str (T 0).1, .str (T 0).2], .int .i64 0])) (c1 : Called Tryz.prog F (.int .i64 1 :: [.ref [.slf e0 n0 f0], .ref [.slf e1 n1 f1]]) (.tup [.agg [.str (T 1).1, .str (T 1).2], .int .i64 0])) (c2 : Called Tryz.prog F (.int .i64 2 :: [.ref [.slf e0 n0 f0], .ref [.slf e1 n1 f1]]) (.tup [.agg [.str (T 2).1, .str (T 2).2], .int .i64 0])) (c3 : Called Tryz.prog F (.int .i64 3 :: [.ref [.slf e0 n0 f0], .ref [.slf e1 n1 f1]]) (.tup [.agg [.str (T 3).1, .str (T 3).2], .int .i64 0])) :
  Called Tryz.prog 82 [.int .i64 4, .fn F [] [.ref [.slf e0 n0 f0], .ref [.slf e1 n1 f1]]] (.tup [.slf 2 4 (fun j => List.take 2 (List.drop (j * 2) [.str (T 0).1, .str (T 0).2, .str (T 1).1, .str (T 1).2, .str (T 2).1, .str (T 2).2, .str (T 3).1, .str (T 3).2])), .int .i64 0]) := by
 refine jaa tbOk 6 ⟨Tryz.func82, rfl, rfl, jhy rfl⟩ ?_
 (conv => whnf)
 refine V.r0 @jhC ?_
 refine jah (0) (fun k => k ≤ 4) (fun k => 4 - k) (fun k => [(14, .int .i64 k)]) (fun k => [(11, .box (preD (2 * k) [.str (T 0).1, .str (T 0).2, .str (T 1).1, .str (T 1).2, .str (T 2).1, .str (T 2).2, .str (T 3).1, .str (T 3).2]))]) ?_ ?_ ?_
 ·exact V.wk
 ·exact jhz _
 intro k hk
 have hk4 : k = 0 ∨ k = 1 ∨ k = 2 ∨ k = 3 ∨ k = 4 := by omega
 rcases hk4 with e | e | e | e | e
 all_goals subst e
 ·simp only [k0]
  refine V.r1 jha c0 ?_
  exact ⟨1, by omega, by omega, V.wk⟩
 ·simp only [k1]
  refine V.r1 jha c1 ?_
  exact ⟨2, by omega, by omega, V.wk⟩
 ·simp only [k2]
  refine V.r1 jha c2 ?_
  exact ⟨3, by omega, by omega, V.wk⟩
 ·simp only [k3]
  refine V.r1 jha c3 ?_
  exact ⟨4, by omega, by omega, V.wk⟩
 ·simp only [xk4]
  refine V.r0 @jhC ?_
  exact Fin.of rfl
theorem list4_3 {F e0 n0 e1 n1 : Nat} {f0 f1 : Nat → List D} {z : Int} (T : Nat → Tx) (c0 : Called Tryz.prog F (.int .i64 0 :: [.ref [.slf e0 n0 f0], .ref [.slf e1 n1 f1], .ref [.int .i64 z]]) (.tup [.agg [.str (T 0).1, .str (T 0).2], .int .i64 0])) (c1 : Called Tryz.prog F (.int .i64 1 :: [.ref [.slf e0 n0 f0], .ref [.slf e1 n1 f1], .ref [.int .i64 z]]) (.tup [.agg [.str (T 1).1, .str (T 1).2], .int .i64 0])) (c2 : Called Tryz.prog F (.int .i64 2 :: [.ref [.slf e0 n0 f0], .ref [.slf e1 n1 f1], .ref [.int .i64 z]]) (.tup [.agg [.str (T 2).1, .str (T 2).2], .int .i64 0])) (c3 : Called Tryz.prog F (.int .i64 3 :: [.ref [.slf e0 n0 f0], .ref [.slf e1 n1 f1], .ref [.int .i64 z]]) (.tup [.agg [.str (T 3).1, .str (T 3).2], .int .i64 0])) :
  Called Tryz.prog 82 [.int .i64 4, .fn F [] [.ref [.slf e0 n0 f0], .ref [.slf e1 n1 f1], .ref [.int .i64 z]]] (.tup [.slf 2 4 (fun j => List.take 2 (List.drop (j * 2) [.str (T 0).1, .str (T 0).2, .str (T 1).1, .str (T 1).2, .str (T 2).1, .str (T 2).2, .str (T 3).1, .str (T 3).2])), .int .i64 0]) := by
 refine jaa tbOk 6 ⟨Tryz.func82, rfl, rfl, jhy rfl⟩ ?_
 (conv => whnf)
 refine V.r0 @jhC ?_
 refine jah (0) (fun k => k ≤ 4) (fun k => 4 - k) (fun k => [(14, .int .i64 k)]) (fun k => [(11, .box (preD (2 * k) [.str (T 0).1, .str (T 0).2, .str (T 1).1, .str (T 1).2, .str (T 2).1, .str (T 2).2, .str (T 3).1, .str (T 3).2]))]) ?_ ?_ ?_
 ·exact V.wk
 ·exact jhz _
 intro k hk
 have hk4 : k = 0 ∨ k = 1 ∨ k = 2 ∨ k = 3 ∨ k = 4 := by omega
 rcases hk4 with e | e | e | e | e
 all_goals subst e
 ·simp only [k0]
  refine V.r1 jha c0 ?_
  exact ⟨1, by omega, by omega, V.wk⟩
 ·simp only [k1]
  refine V.r1 jha c1 ?_
  exact ⟨2, by omega, by omega, V.wk⟩
 ·simp only [k2]
  refine V.r1 jha c2 ?_
  exact ⟨3, by omega, by omega, V.wk⟩
 ·simp only [k3]
  refine V.r1 jha c3 ?_
  exact ⟨4, by omega, by omega, V.wk⟩
 ·simp only [xk4]
  refine V.r0 @jhC ?_
  exact Fin.of rfl
theorem sum2 (P S : Nat → Tx) (h0 : S 0 = P 0) (c0 : Called Tryz.prog 100 [.agg [.str (S 0).1, .str (S 0).2], .agg [.str (P 1).1, .str (P 1).2]] (.tup [.agg [.str (S 1).1, .str (S 1).2], .int .i64 0])) :
  Called Tryz.prog 87 [.slf 2 2 (fun j => List.take 2 (List.drop (j * 2) [.str (P 0).1, .str (P 0).2, .str (P 1).1, .str (P 1).2]))] (.tup [.agg [.str (S 1).1, .str (S 1).2], .int .i64 0]) := by
 have h1 : (S 0).1 = (P 0).1 ∧ (S 0).2 = (P 0).2 := by rw [h0]; exact ⟨rfl, rfl⟩
 refine jaa tbOk 6 ⟨Tryz.func87, rfl, rfl, jhy rfl⟩ ?_
 (conv => whnf)
 refine V.r0 jha ?_
 refine jah (0) (fun k => k ≤ 1) (fun k => 1 - k) (fun k => [(14, .int .i64 k)]) (fun k => [(4, .box [.str (S k).1, .str (S k).2])]) ?_ ?_ ?_
 ·rw [h1.1, h1.2]
  exact V.wk
 ·exact jhz _
 intro k hk
 have hk4 : k = 0 ∨ k = 1 := by omega
 rcases hk4 with e | e
 all_goals subst e
 ·simp only [k0]
  refine V.r1 jha c0 ?_
  exact ⟨1, by omega, by omega, V.wk⟩
 ·simp only [k1]
  refine V.r0 @jhC ?_
  exact Fin.of rfl
theorem sum3 (P S : Nat → Tx) (h0 : S 0 = P 0) (c0 : Called Tryz.prog 100 [.agg [.str (S 0).1, .str (S 0).2], .agg [.str (P 1).1, .str (P 1).2]] (.tup [.agg [.str (S 1).1, .str (S 1).2], .int .i64 0])) (c1 : Called Tryz.prog 100 [.agg [.str (S 1).1, .str (S 1).2], .agg [.str (P 2).1, .str (P 2).2]] (.tup [.agg [.str (S 2).1, .str (S 2).2], .int .i64 0])) :
  Called Tryz.prog 87 [.slf 2 3 (fun j => List.take 2 (List.drop (j * 2) [.str (P 0).1, .str (P 0).2, .str (P 1).1, .str (P 1).2, .str (P 2).1, .str (P 2).2]))] (.tup [.agg [.str (S 2).1, .str (S 2).2], .int .i64 0]) := by
 have h1 : (S 0).1 = (P 0).1 ∧ (S 0).2 = (P 0).2 := by rw [h0]; exact ⟨rfl, rfl⟩
 refine jaa tbOk 6 ⟨Tryz.func87, rfl, rfl, jhy rfl⟩ ?_
 (conv => whnf)
 refine V.r0 jha ?_
 refine jah (0) (fun k => k ≤ 2) (fun k => 2 - k) (fun k => [(14, .int .i64 k)]) (fun k => [(4, .box [.str (S k).1, .str (S k).2])]) ?_ ?_ ?_
 ·rw [h1.1, h1.2]
  exact V.wk
 ·exact jhz _
 intro k hk
 have hk4 : k = 0 ∨ k = 1 ∨ k = 2 := by omega
 rcases hk4 with e | e | e
 all_goals subst e
 ·simp only [k0]
  refine V.r1 jha c0 ?_
  exact ⟨1, by omega, by omega, V.wk⟩
 ·simp only [k1]
  refine V.r1 jha c1 ?_
  exact ⟨2, by omega, by omega, V.wk⟩
 ·simp only [k2]
  refine V.r0 @jhC ?_
  exact Fin.of rfl
theorem sum4 (P S : Nat → Tx) (h0 : S 0 = P 0) (c0 : Called Tryz.prog 100 [.agg [.str (S 0).1, .str (S 0).2], .agg [.str (P 1).1, .str (P 1).2]] (.tup [.agg [.str (S 1).1, .str (S 1).2], .int .i64 0])) (c1 : Called Tryz.prog 100 [.agg [.str (S 1).1, .str (S 1).2], .agg [.str (P 2).1, .str (P 2).2]] (.tup [.agg [.str (S 2).1, .str (S 2).2], .int .i64 0])) (c2 : Called Tryz.prog 100 [.agg [.str (S 2).1, .str (S 2).2], .agg [.str (P 3).1, .str (P 3).2]] (.tup [.agg [.str (S 3).1, .str (S 3).2], .int .i64 0])) :
  Called Tryz.prog 87 [.slf 2 4 (fun j => List.take 2 (List.drop (j * 2) [.str (P 0).1, .str (P 0).2, .str (P 1).1, .str (P 1).2, .str (P 2).1, .str (P 2).2, .str (P 3).1, .str (P 3).2]))] (.tup [.agg [.str (S 3).1, .str (S 3).2], .int .i64 0]) := by
 have h1 : (S 0).1 = (P 0).1 ∧ (S 0).2 = (P 0).2 := by rw [h0]; exact ⟨rfl, rfl⟩
 refine jaa tbOk 6 ⟨Tryz.func87, rfl, rfl, jhy rfl⟩ ?_
 (conv => whnf)
 refine V.r0 jha ?_
 refine jah (0) (fun k => k ≤ 3) (fun k => 3 - k) (fun k => [(14, .int .i64 k)]) (fun k => [(4, .box [.str (S k).1, .str (S k).2])]) ?_ ?_ ?_
 ·rw [h1.1, h1.2]
  exact V.wk
 ·exact jhz _
 intro k hk
 have hk4 : k = 0 ∨ k = 1 ∨ k = 2 ∨ k = 3 := by omega
 rcases hk4 with e | e | e | e
 all_goals subst e
 ·simp only [k0]
  refine V.r1 jha c0 ?_
  exact ⟨1, by omega, by omega, V.wk⟩
 ·simp only [k1]
  refine V.r1 jha c1 ?_
  exact ⟨2, by omega, by omega, V.wk⟩
 ·simp only [k2]
  refine V.r1 jha c2 ?_
  exact ⟨3, by omega, by omega, V.wk⟩
 ·simp only [k3]
  refine V.r0 @jhC ?_
  exact Fin.of rfl
theorem jht : type_of% @jhD ∧ type_of% @jhC ∧ type_of% @tn0 ∧ type_of% @tn1 ∧ type_of% @tn2 ∧ type_of% @tn3 ∧ type_of% @xt4 := ⟨@jhD, @jhC, @tn0, @tn1, @tn2, @tn3, @xt4⟩
theorem prod3_0 (W M : Nat → Tx) (U : Nat → List Int) (out : Nat) (g0 g1 : List UInt8) (hl : out < (U 0).length) (ig : Called Tryz.prog 86 [.int .i64 ((U 0).getD out 0)] (.agg [.str g0, .str g1]))
  (mu : Called Tryz.prog 85 [.agg [.str (W 0).1, .str (W 0).2], .agg [.str g0, .str g1]] (.tup [.agg [.str (M 0).1, .str (M 0).2], .int .i64 0])) :
  Called Tryz.prog 84 [.int .i64 0, .ref [.slf 2 3 (fun j => List.take 2 (List.drop (j * 2) [.str (W 0).1, .str (W 0).2, .str (W 1).1, .str (W 1).2, .str (W 2).1, .str (W 2).2]))], .ref [.slf 1 3 (fun j => List.take 1 (List.drop (j * 1) [.ints .i64 (U 0), .ints .i64 (U 1), .ints .i64 (U 2)]))], .ref [.int .i64 out]] (.tup [.agg [.str (M 0).1, .str (M 0).2], .int .i64 0]) := by
 have hi : (out : Int) < (U 0).length := by omega
 refine jaa tbOk 6 ⟨Tryz.func84, rfl, rfl, jhy rfl⟩ ?_
 (conv => whnf)
 refine V.r0 jha ?_
 refine ⟨(.take 0 (.take 1 (.take 2 (.take 3 (.take 4 (.take 5 (.take 6 (.take 7 (.take 8 (.take 9 (.take 10 (.ev (.cons 11 [3, 2, 1, 0] (.ev (.cons 12 [] (.take 13 (.take 14 (.ev (.cons 15 [] (.take 16 (.done)) (.nil))))) (.nil))) (.nil)))))))))))))), [], ⟨by kernel_rfl, by kernel_rfl, by kernel_rfl, by kernel_rfl⟩, ?_⟩
 refine jac [(6, .int .i64 0)] [(5, .box [.str (M 0).1, .str (M 0).2])] ?_ ?_
 ·exact V.d2 jht ig mu
 refine V.r0 @jhC ?_
 exact Fin.of rfl
theorem prod3_1 (W M : Nat → Tx) (U : Nat → List Int) (out : Nat) (g0 g1 : List UInt8) (hl : out < (U 1).length) (ig : Called Tryz.prog 86 [.int .i64 ((U 1).getD out 0)] (.agg [.str g0, .str g1]))
  (mu : Called Tryz.prog 85 [.agg [.str (W 1).1, .str (W 1).2], .agg [.str g0, .str g1]] (.tup [.agg [.str (M 1).1, .str (M 1).2], .int .i64 0])) :
  Called Tryz.prog 84 [.int .i64 1, .ref [.slf 2 3 (fun j => List.take 2 (List.drop (j * 2) [.str (W 0).1, .str (W 0).2, .str (W 1).1, .str (W 1).2, .str (W 2).1, .str (W 2).2]))], .ref [.slf 1 3 (fun j => List.take 1 (List.drop (j * 1) [.ints .i64 (U 0), .ints .i64 (U 1), .ints .i64 (U 2)]))], .ref [.int .i64 out]] (.tup [.agg [.str (M 1).1, .str (M 1).2], .int .i64 0]) := by
 have hi : (out : Int) < (U 1).length := by omega
 refine jaa tbOk 6 ⟨Tryz.func84, rfl, rfl, jhy rfl⟩ ?_
 (conv => whnf)
 refine V.r0 jha ?_
 refine ⟨(.take 0 (.take 1 (.take 2 (.take 3 (.take 4 (.take 5 (.take 6 (.take 7 (.take 8 (.take 9 (.take 10 (.ev (.cons 11 [3, 2, 1, 0] (.ev (.cons 12 [] (.take 13 (.take 14 (.ev (.cons 15 [] (.take 16 (.done)) (.nil))))) (.nil))) (.nil)))))))))))))), [], ⟨by kernel_rfl, by kernel_rfl, by kernel_rfl, by kernel_rfl⟩, ?_⟩
 refine jac [(6, .int .i64 0)] [(5, .box [.str (M 1).1, .str (M 1).2])] ?_ ?_
 ·exact V.d2 jht ig mu
 refine V.r0 @jhC ?_
 exact Fin.of rfl
theorem prod3_2 (W M : Nat → Tx) (U : Nat → List Int) (out : Nat) (g0 g1 : List UInt8) (hl : out < (U 2).length) (ig : Called Tryz.prog 86 [.int .i64 ((U 2).getD out 0)] (.agg [.str g0, .str g1]))
  (mu : Called Tryz.prog 85 [.agg [.str (W 2).1, .str (W 2).2], .agg [.str g0, .str g1]] (.tup [.agg [.str (M 2).1, .str (M 2).2], .int .i64 0])) :
  Called Tryz.prog 84 [.int .i64 2, .ref [.slf 2 3 (fun j => List.take 2 (List.drop (j * 2) [.str (W 0).1, .str (W 0).2, .str (W 1).1, .str (W 1).2, .str (W 2).1, .str (W 2).2]))], .ref [.slf 1 3 (fun j => List.take 1 (List.drop (j * 1) [.ints .i64 (U 0), .ints .i64 (U 1), .ints .i64 (U 2)]))], .ref [.int .i64 out]] (.tup [.agg [.str (M 2).1, .str (M 2).2], .int .i64 0]) := by
 have hi : (out : Int) < (U 2).length := by omega
 refine jaa tbOk 6 ⟨Tryz.func84, rfl, rfl, jhy rfl⟩ ?_
 (conv => whnf)
 refine V.r0 jha ?_
 refine ⟨(.take 0 (.take 1 (.take 2 (.take 3 (.take 4 (.take 5 (.take 6 (.take 7 (.take 8 (.take 9 (.take 10 (.ev (.cons 11 [3, 2, 1, 0] (.ev (.cons 12 [] (.take 13 (.take 14 (.ev (.cons 15 [] (.take 16 (.done)) (.nil))))) (.nil))) (.nil)))))))))))))), [], ⟨by kernel_rfl, by kernel_rfl, by kernel_rfl, by kernel_rfl⟩, ?_⟩
 refine jac [(6, .int .i64 0)] [(5, .box [.str (M 2).1, .str (M 2).2])] ?_ ?_
 ·exact V.d2 jht ig mu
 refine V.r0 @jhC ?_
 exact Fin.of rfl
theorem prod4_0 (W M : Nat → Tx) (U : Nat → List Int) (out : Nat) (g0 g1 : List UInt8) (hl : out < (U 0).length) (ig : Called Tryz.prog 86 [.int .i64 ((U 0).getD out 0)] (.agg [.str g0, .str g1]))
  (mu : Called Tryz.prog 85 [.agg [.str (W 0).1, .str (W 0).2], .agg [.str g0, .str g1]] (.tup [.agg [.str (M 0).1, .str (M 0).2], .int .i64 0])) :
  Called Tryz.prog 84 [.int .i64 0, .ref [.slf 2 4 (fun j => List.take 2 (List.drop (j * 2) [.str (W 0).1, .str (W 0).2, .str (W 1).1, .str (W 1).2, .str (W 2).1, .str (W 2).2, .str (W 3).1, .str (W 3).2]))], .ref [.slf 1 4 (fun j => List.take 1 (List.drop (j * 1) [.ints .i64 (U 0), .ints .i64 (U 1), .ints .i64 (U 2), .ints .i64 (U 3)]))], .ref [.int .i64 out]] (.tup [.agg [.str (M 0).1, .str (M 0).2], .int .i64 0]) := by
 have hi : (out : Int) < (U 0).length := by omega
 refine jaa tbOk 6 ⟨Tryz.func84, rfl, rfl, jhy rfl⟩ ?_
 (conv => whnf)
 refine V.r0 jha ?_
 refine ⟨(.take 0 (.take 1 (.take 2 (.take 3 (.take 4 (.take 5 (.take 6 (.take 7 (.take 8 (.take 9 (.take 10 (.ev (.cons 11 [3, 2, 1, 0] (.ev (.cons 12 [] (.take 13 (.take 14 (.ev (.cons 15 [] (.take 16 (.done)) (.nil))))) (.nil))) (.nil)))))))))))))), [], ⟨by kernel_rfl, by kernel_rfl, by kernel_rfl, by kernel_rfl⟩, ?_⟩
 refine jac [(6, .int .i64 0)] [(5, .box [.str (M 0).1, .str (M 0).2])] ?_ ?_
 ·exact V.d2 jht ig mu
 refine V.r0 @jhC ?_
 exact Fin.of rfl
theorem prod4_1 (W M : Nat → Tx) (U : Nat → List Int) (out : Nat) (g0 g1 : List UInt8) (hl : out < (U 1).length) (ig : Called Tryz.prog 86 [.int .i64 ((U 1).getD out 0)] (.agg [.str g0, .str g1]))
  (mu : Called Tryz.prog 85 [.agg [.str (W 1).1, .str (W 1).2], .agg [.str g0, .str g1]] (.tup [.agg [.str (M 1).1, .str (M 1).2], .int .i64 0])) :
  Called Tryz.prog 84 [.int .i64 1, .ref [.slf 2 4 (fun j => List.take 2 (List.drop (j * 2) [.str (W 0).1, .str (W 0).2, .str (W 1).1, .str (W 1).2, .str (W 2).1, .str (W 2).2, .str (W 3).1, .str (W 3).2]))], .ref [.slf 1 4 (fun j => List.take 1 (List.drop (j * 1) [.ints .i64 (U 0), .ints .i64 (U 1), .ints .i64 (U 2), .ints .i64 (U 3)]))], .ref [.int .i64 out]] (.tup [.agg [.str (M 1).1, .str (M 1).2], .int .i64 0]) := by
 have hi : (out : Int) < (U 1).length := by omega
 refine jaa tbOk 6 ⟨Tryz.func84, rfl, rfl, jhy rfl⟩ ?_
 (conv => whnf)
 refine V.r0 jha ?_
 refine ⟨(.take 0 (.take 1 (.take 2 (.take 3 (.take 4 (.take 5 (.take 6 (.take 7 (.take 8 (.take 9 (.take 10 (.ev (.cons 11 [3, 2, 1, 0] (.ev (.cons 12 [] (.take 13 (.take 14 (.ev (.cons 15 [] (.take 16 (.done)) (.nil))))) (.nil))) (.nil)))))))))))))), [], ⟨by kernel_rfl, by kernel_rfl, by kernel_rfl, by kernel_rfl⟩, ?_⟩
 refine jac [(6, .int .i64 0)] [(5, .box [.str (M 1).1, .str (M 1).2])] ?_ ?_
 ·exact V.d2 jht ig mu
 refine V.r0 @jhC ?_
 exact Fin.of rfl
theorem prod4_2 (W M : Nat → Tx) (U : Nat → List Int) (out : Nat) (g0 g1 : List UInt8) (hl : out < (U 2).length) (ig : Called Tryz.prog 86 [.int .i64 ((U 2).getD out 0)] (.agg [.str g0, .str g1]))
  (mu : Called Tryz.prog 85 [.agg [.str (W 2).1, .str (W 2).2], .agg [.str g0, .str g1]] (.tup [.agg [.str (M 2).1, .str (M 2).2], .int .i64 0])) :
  Called Tryz.prog 84 [.int .i64 2, .ref [.slf 2 4 (fun j => List.take 2 (List.drop (j * 2) [.str (W 0).1, .str (W 0).2, .str (W 1).1, .str (W 1).2, .str (W 2).1, .str (W 2).2, .str (W 3).1, .str (W 3).2]))], .ref [.slf 1 4 (fun j => List.take 1 (List.drop (j * 1) [.ints .i64 (U 0), .ints .i64 (U 1), .ints .i64 (U 2), .ints .i64 (U 3)]))], .ref [.int .i64 out]] (.tup [.agg [.str (M 2).1, .str (M 2).2], .int .i64 0]) := by
 have hi : (out : Int) < (U 2).length := by omega
 refine jaa tbOk 6 ⟨Tryz.func84, rfl, rfl, jhy rfl⟩ ?_
 (conv => whnf)
 refine V.r0 jha ?_
 refine ⟨(.take 0 (.take 1 (.take 2 (.take 3 (.take 4 (.take 5 (.take 6 (.take 7 (.take 8 (.take 9 (.take 10 (.ev (.cons 11 [3, 2, 1, 0] (.ev (.cons 12 [] (.take 13 (.take 14 (.ev (.cons 15 [] (.take 16 (.done)) (.nil))))) (.nil))) (.nil)))))))))))))), [], ⟨by kernel_rfl, by kernel_rfl, by kernel_rfl, by kernel_rfl⟩, ?_⟩
 refine jac [(6, .int .i64 0)] [(5, .box [.str (M 2).1, .str (M 2).2])] ?_ ?_
 ·exact V.d2 jht ig mu
 refine V.r0 @jhC ?_
 exact Fin.of rfl
theorem prod4_3 (W M : Nat → Tx) (U : Nat → List Int) (out : Nat) (g0 g1 : List UInt8) (hl : out < (U 3).length) (ig : Called Tryz.prog 86 [.int .i64 ((U 3).getD out 0)] (.agg [.str g0, .str g1]))
  (mu : Called Tryz.prog 85 [.agg [.str (W 3).1, .str (W 3).2], .agg [.str g0, .str g1]] (.tup [.agg [.str (M 3).1, .str (M 3).2], .int .i64 0])) :
  Called Tryz.prog 84 [.int .i64 3, .ref [.slf 2 4 (fun j => List.take 2 (List.drop (j * 2) [.str (W 0).1, .str (W 0).2, .str (W 1).1, .str (W 1).2, .str (W 2).1, .str (W 2).2, .str (W 3).1, .str (W 3).2]))], .ref [.slf 1 4 (fun j => List.take 1 (List.drop (j * 1) [.ints .i64 (U 0), .ints .i64 (U 1), .ints .i64 (U 2), .ints .i64 (U 3)]))], .ref [.int .i64 out]] (.tup [.agg [.str (M 3).1, .str (M 3).2], .int .i64 0]) := by
 have hi : (out : Int) < (U 3).length := by omega
 refine jaa tbOk 6 ⟨Tryz.func84, rfl, rfl, jhy rfl⟩ ?_
 (conv => whnf)
 refine V.r0 jha ?_
 refine ⟨(.take 0 (.take 1 (.take 2 (.take 3 (.take 4 (.take 5 (.take 6 (.take 7 (.take 8 (.take 9 (.take 10 (.ev (.cons 11 [3, 2, 1, 0] (.ev (.cons 12 [] (.take 13 (.take 14 (.ev (.cons 15 [] (.take 16 (.done)) (.nil))))) (.nil))) (.nil)))))))))))))), [], ⟨by kernel_rfl, by kernel_rfl, by kernel_rfl, by kernel_rfl⟩, ?_⟩
 refine jac [(6, .int .i64 0)] [(5, .box [.str (M 3).1, .str (M 3).2])] ?_ ?_
 ·exact V.d2 jht ig mu
 refine V.r0 @jhC ?_
 exact Fin.of rfl
theorem val1_3 (W M S : Nat → Tx) (U : Nat → List Int) (out : Int) (f0 f1 y0 y1 : List UInt8) (li : Called Tryz.prog 82 [.int .i64 3, .fn 84 [] [.ref [.slf 2 3 (fun j => List.take 2 (List.drop (j * 2) [.str (W 0).1, .str (W 0).2, .str (W 1).1, .str (W 1).2, .str (W 2).1, .str (W 2).2]))], .ref [.slf 1 3 (fun j => List.take 1 (List.drop (j * 1) [.ints .i64 (U 0), .ints .i64 (U 1), .ints .i64 (U 2)]))], .ref [.int .i64 out]]] (.tup [.slf 2 3 (fun j => List.take 2 (List.drop (j * 2) [.str (M 0).1, .str (M 0).2, .str (M 1).1, .str (M 1).2, .str (M 2).1, .str (M 2).2])), .int .i64 0]))
  (su : Called Tryz.prog 87 [.slf 2 3 (fun j => List.take 2 (List.drop (j * 2) [.str (M 0).1, .str (M 0).2, .str (M 1).1, .str (M 1).2, .str (M 2).1, .str (M 2).2]))] (.tup [.agg [.str (S 2).1, .str (S 2).2], .int .i64 0])) (fu : Called Tryz.prog 86 [.int .i64 65535] (.agg [.str f0, .str f1])) (dv : Called Tryz.prog 88 [.agg [.str (S 2).1, .str (S 2).2], .agg [.str f0, .str f1]] (.tup [.agg [.str y0, .str y1], .int .i64 0])) :
  Called Tryz.prog 83 [.int .i64 out, .ref [.slf 1 3 (fun j => List.take 1 (List.drop (j * 1) [.ints .i64 (U 0), .ints .i64 (U 1), .ints .i64 (U 2)]))], .ref [.slf 2 3 (fun j => List.take 2 (List.drop (j * 2) [.str (W 0).1, .str (W 0).2, .str (W 1).1, .str (W 1).2, .str (W 2).1, .str (W 2).2]))]] (.tup [.agg [.str y0, .str y1], .int .i64 0]) := by
 refine jaa tbOk 6 ⟨Tryz.func83, rfl, rfl, jhy rfl⟩ ?_
 (conv => whnf)
 refine V.r2 @jhC li su ?_
 refine ⟨(.take 0 (.ev (.cons 1 [0] (.ev (.cons 2 [] (.take 3 (.take 4 (.ev (.cons 5 [] (.take 6 (.done)) (.nil))))) (.nil))) (.nil)))), [], ⟨by kernel_rfl, by kernel_rfl, by kernel_rfl, by kernel_rfl⟩, ?_⟩
 refine jac [(5, .int .i64 0)] [(4, .box [.str y0, .str y1])] ?_ ?_
 ·exact V.d2 @jhC fu dv
 refine V.r0 @jhC ?_
 exact Fin.of rfl
theorem val1_4 (W M S : Nat → Tx) (U : Nat → List Int) (out : Int) (f0 f1 y0 y1 : List UInt8) (li : Called Tryz.prog 82 [.int .i64 4, .fn 84 [] [.ref [.slf 2 4 (fun j => List.take 2 (List.drop (j * 2) [.str (W 0).1, .str (W 0).2, .str (W 1).1, .str (W 1).2, .str (W 2).1, .str (W 2).2, .str (W 3).1, .str (W 3).2]))], .ref [.slf 1 4 (fun j => List.take 1 (List.drop (j * 1) [.ints .i64 (U 0), .ints .i64 (U 1), .ints .i64 (U 2), .ints .i64 (U 3)]))], .ref [.int .i64 out]]] (.tup [.slf 2 4 (fun j => List.take 2 (List.drop (j * 2) [.str (M 0).1, .str (M 0).2, .str (M 1).1, .str (M 1).2, .str (M 2).1, .str (M 2).2, .str (M 3).1, .str (M 3).2])), .int .i64 0]))
  (su : Called Tryz.prog 87 [.slf 2 4 (fun j => List.take 2 (List.drop (j * 2) [.str (M 0).1, .str (M 0).2, .str (M 1).1, .str (M 1).2, .str (M 2).1, .str (M 2).2, .str (M 3).1, .str (M 3).2]))] (.tup [.agg [.str (S 3).1, .str (S 3).2], .int .i64 0])) (fu : Called Tryz.prog 86 [.int .i64 65535] (.agg [.str f0, .str f1])) (dv : Called Tryz.prog 88 [.agg [.str (S 3).1, .str (S 3).2], .agg [.str f0, .str f1]] (.tup [.agg [.str y0, .str y1], .int .i64 0])) :
  Called Tryz.prog 83 [.int .i64 out, .ref [.slf 1 4 (fun j => List.take 1 (List.drop (j * 1) [.ints .i64 (U 0), .ints .i64 (U 1), .ints .i64 (U 2), .ints .i64 (U 3)]))], .ref [.slf 2 4 (fun j => List.take 2 (List.drop (j * 2) [.str (W 0).1, .str (W 0).2, .str (W 1).1, .str (W 1).2, .str (W 2).1, .str (W 2).2, .str (W 3).1, .str (W 3).2]))]] (.tup [.agg [.str y0, .str y1], .int .i64 0]) := by
 refine jaa tbOk 6 ⟨Tryz.func83, rfl, rfl, jhy rfl⟩ ?_
 (conv => whnf)
 refine V.r2 @jhC li su ?_
 refine ⟨(.take 0 (.ev (.cons 1 [0] (.ev (.cons 2 [] (.take 3 (.take 4 (.ev (.cons 5 [] (.take 6 (.done)) (.nil))))) (.nil))) (.nil)))), [], ⟨by kernel_rfl, by kernel_rfl, by kernel_rfl, by kernel_rfl⟩, ?_⟩
 refine jac [(5, .int .i64 0)] [(4, .box [.str y0, .str y1])] ?_ ?_
 ·exact V.d2 @jhC fu dv
 refine V.r0 @jhC ?_
 exact Fin.of rfl
end Go.Proofs.YtgjgpdceghjajaaGreatDoor
end
