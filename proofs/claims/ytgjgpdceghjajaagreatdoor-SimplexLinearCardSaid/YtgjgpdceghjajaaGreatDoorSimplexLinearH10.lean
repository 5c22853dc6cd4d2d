/- What some functions of the program answer at values that mean given lists, texts and numbers, each proved of the program's own code: part 10. Conditions: those that each theorem names. -/
import Derived.Test.YtgjgpdceghjajaaGreatDoorSimplexLinearH9
import Derived.Test.YtgjgpdceghjajaaGreatDoorSimplexLinearH8
import Derived.Test.YtgjgpdceghjajaaGreatDoorSimplexLinearH5
import Derived.Test.YtgjgpdceghjajaaGreatDoorSimplexLinearH4
set_option linter.unusedSimpArgs false
set_option linter.unusedVariables false
set_option maxHeartbeats 8000000
set_option maxRecDepth 100000
section
namespace Go.Proofs.YtgjgpdceghjajaaGreatDoor
open Go Go.V Go.Nb
theorem jdV (p q : Rat) : (ordQ p q < 0) ↔ p < q := by
 unfold ordQ
 by_cases h : p < q
 ·rw [if_pos h]; exact ⟨fun _ => h, fun _ => by decide⟩
 ·rw [if_neg h]
  by_cases g : p = q
  ·rw [if_pos g]; exact ⟨fun h' => by omega, fun h' => absurd h' h⟩
  ·rw [if_neg g]; exact ⟨fun h' => by omega, fun h' => absurd h' h⟩
def cmpW (r0 r1 r2 : Rat) (a b : Int) : Int := ordQ (sel r0 r1 r2 b) (sel r0 r1 r2 a)
theorem iso2 (r0 r1 r2 : Rat) : isoK (cmpW r0 r1 r2) [0, 1] (2 - 1) = ord2 r0 r1 := by
 show insJ (cmpW r0 r1 r2) 1 [0, 1] = _
 unfold ord2
 have e : (cmpW r0 r1 r2 1 0 < 0) ↔ r0 < r1 := jdV _ _
 by_cases h : r0 < r1
 ·rw [if_pos h]
  simp only [insJ]
  rw [if_pos (show cmpW r0 r1 r2 ([0, 1].getD (0 + 1) 0) ([0, 1].getD 0 0) < 0 from e.2 h)]
  rfl
 ·rw [if_neg h]
  simp only [insJ]
  rw [if_neg (show ¬ cmpW r0 r1 r2 ([0, 1].getD (0 + 1) 0) ([0, 1].getD 0 0) < 0 from fun g => h (e.1 g))]
theorem jex {w : Int → Int → Int} {j : Nat} {xs : List Int} (h : w (xs.getD (j + 1) 0) (xs.getD j 0) < 0) : insJ w (j + 1) xs = insJ w j ((xs.set (j + 1) (xs.getD j 0)).set j (xs.getD (j + 1) 0)) := by
 simp only [insJ]; rw [if_pos h]
theorem jgq {w : Int → Int → Int} {j : Nat} {xs : List Int} (h : ¬ w (xs.getD (j + 1) 0) (xs.getD j 0) < 0) : insJ w (j + 1) xs = xs := by
 simp only [insJ]; rw [if_neg h]
theorem iso3 (r0 r1 r2 : Rat) : isoK (cmpW r0 r1 r2) [0, 1, 2] (3 - 1) = ord3 r0 r1 r2 := by
 have e01 : (cmpW r0 r1 r2 1 0 < 0) ↔ r0 < r1 := jdV _ _
 have e02 : (cmpW r0 r1 r2 2 0 < 0) ↔ r0 < r2 := jdV _ _
 have e12 : (cmpW r0 r1 r2 2 1 < 0) ↔ r1 < r2 := jdV _ _
 show insJ (cmpW r0 r1 r2) 2 (insJ (cmpW r0 r1 r2) 1 [0, 1, 2]) = _
 unfold ord3
 by_cases h01 : r0 < r1
 ·rw [if_pos h01, jex (j := 0) (xs := [0, 1, 2]) (e01.2 h01)]
  show insJ (cmpW r0 r1 r2) 2 [1, 0, 2] = _
  by_cases h02 : r0 < r2
  ·rw [if_pos h02, jex (j := 1) (xs := [1, 0, 2]) (e02.2 h02)]
   show insJ (cmpW r0 r1 r2) 1 [1, 2, 0] = _
   by_cases h12 : r1 < r2
   ·rw [if_pos h12, jex (j := 0) (xs := [1, 2, 0]) (e12.2 h12)]
    rfl
   ·rw [if_neg h12, jgq (j := 0) (xs := [1, 2, 0]) fun g => h12 (e12.1 g)]
  ·rw [if_neg h02, jgq (j := 1) (xs := [1, 0, 2]) fun g => h02 (e02.1 g)]
 ·rw [if_neg h01, jgq (j := 0) (xs := [0, 1, 2]) fun g => h01 (e01.1 g)]
  by_cases h12 : r1 < r2
  ·rw [if_pos h12, jex (j := 1) (xs := [0, 1, 2]) (e12.2 h12)]
   show insJ (cmpW r0 r1 r2) 1 [0, 2, 1] = _
   by_cases h02 : r0 < r2
   ·rw [if_pos h02, jex (j := 0) (xs := [0, 2, 1]) (e02.2 h02)]
    rfl
   ·rw [if_neg h02, jgq (j := 0) (xs := [0, 2, 1]) fun g => h02 (e02.1 g)]
  ·rw [if_neg h12, jgq (j := 1) (xs := [0, 1, 2]) fun g => h12 (e12.1 g)]
theorem jhv : type_of% @jhS ∧ type_of% @tn0 ∧ type_of% @tn1 ∧ type_of% @tn2 := ⟨@jhS, @tn0, @tn1, @tn2⟩
theorem cmp2_00 (R : Nat → Tx) (w : Int) (c : Called Tryz.prog 127 [.agg [.str (R 0).1, .str (R 0).2], .agg [.str (R 0).1, .str (R 0).2]] (.tup [.int .i64 w, .int .i64 0])) (hw : InR .i64 w) : Called Tryz.prog 126 [.int .i64 0, .int .i64 0, .ref [.slf 2 2 (fun j => List.take 2 (List.drop (j * 2) [.str (R 0).1, .str (R 0).2, .str (R 1).1, .str (R 1).2]))]] (.int .i64 w) := by
 refine jaa tbOk 6 ⟨Tryz.func126, rfl, rfl, jhO rfl⟩ ?_
 (conv => whnf)
 refine V.r0 jhv ?_
 refine ⟨(.take 0 (.take 1 (.take 2 (.take 3 (.take 4 (.take 5 (.take 6 (.take 7 (.ev (.cons 8 [] (.take 9 (.take 10 (.take 11 (.take 12 (.take 13 (.done)))))) (.nil))))))))))), [], ⟨by kernel_rfl, by kernel_rfl, by kernel_rfl, by kernel_rfl⟩, ?_⟩
 refine jac [(6, .int .i64 w)] [] ?_ ?_
 ·exact V.d1 jhv c
 refine V.r0 @jhS ?_
 exact Fin.of rfl
theorem cmp2_01 (R : Nat → Tx) (w : Int) (c : Called Tryz.prog 127 [.agg [.str (R 1).1, .str (R 1).2], .agg [.str (R 0).1, .str (R 0).2]] (.tup [.int .i64 w, .int .i64 0])) (hw : InR .i64 w) : Called Tryz.prog 126 [.int .i64 0, .int .i64 1, .ref [.slf 2 2 (fun j => List.take 2 (List.drop (j * 2) [.str (R 0).1, .str (R 0).2, .str (R 1).1, .str (R 1).2]))]] (.int .i64 w) := by
 refine jaa tbOk 6 ⟨Tryz.func126, rfl, rfl, jhO rfl⟩ ?_
 (conv => whnf)
 refine V.r0 jhv ?_
 refine ⟨(.take 0 (.take 1 (.take 2 (.take 3 (.take 4 (.take 5 (.take 6 (.take 7 (.ev (.cons 8 [] (.take 9 (.take 10 (.take 11 (.take 12 (.take 13 (.done)))))) (.nil))))))))))), [], ⟨by kernel_rfl, by kernel_rfl, by kernel_rfl, by kernel_rfl⟩, ?_⟩
 refine jac [(6, .int .i64 w)] [] ?_ ?_
 ·exact V.d1 jhv c
 refine V.r0 @jhS ?_
 exact Fin.of rfl
theorem cmp2_10 (R : Nat → Tx) (w : Int) (c : Called Tryz.prog 127 [.agg [.str (R 0).1, .str (R 0).2], .agg [.str (R 1).1, .str (R 1).2]] (.tup [.int .i64 w, .int .i64 0])) (hw : InR .i64 w) : Called Tryz.prog 126 [.int .i64 1, .int .i64 0, .ref [.slf 2 2 (fun j => List.take 2 (List.drop (j * 2) [.str (R 0).1, .str (R 0).2, .str (R 1).1, .str (R 1).2]))]] (.int .i64 w) := by
 refine jaa tbOk 6 ⟨Tryz.func126, rfl, rfl, jhO rfl⟩ ?_
 (conv => whnf)
 refine V.r0 jhv ?_
 refine ⟨(.take 0 (.take 1 (.take 2 (.take 3 (.take 4 (.take 5 (.take 6 (.take 7 (.ev (.cons 8 [] (.take 9 (.take 10 (.take 11 (.take 12 (.take 13 (.done)))))) (.nil))))))))))), [], ⟨by kernel_rfl, by kernel_rfl, by kernel_rfl, by kernel_rfl⟩, ?_⟩
 refine jac [(6, .int .i64 w)] [] ?_ ?_
 ·exact V.d1 jhv c
 refine V.r0 @jhS ?_
 exact Fin.of rfl
theorem cmp2_11 (R : Nat → Tx) (w : Int) (c : Called Tryz.prog 127 [.agg [.str (R 1).1, .str (R 1).2], .agg [.str (R 1).1, .str (R 1).2]] (.tup [.int .i64 w, .int .i64 0])) (hw : InR .i64 w) : Called Tryz.prog 126 [.int .i64 1, .int .i64 1, .ref [.slf 2 2 (fun j => List.take 2 (List.drop (j * 2) [.str (R 0).1, .str (R 0).2, .str (R 1).1, .str (R 1).2]))]] (.int .i64 w) := by
 refine jaa tbOk 6 ⟨Tryz.func126, rfl, rfl, jhO rfl⟩ ?_
 (conv => whnf)
 refine V.r0 jhv ?_
 refine ⟨(.take 0 (.take 1 (.take 2 (.take 3 (.take 4 (.take 5 (.take 6 (.take 7 (.ev (.cons 8 [] (.take 9 (.take 10 (.take 11 (.take 12 (.take 13 (.done)))))) (.nil))))))))))), [], ⟨by kernel_rfl, by kernel_rfl, by kernel_rfl, by kernel_rfl⟩, ?_⟩
 refine jac [(6, .int .i64 w)] [] ?_ ?_
 ·exact V.d1 jhv c
 refine V.r0 @jhS ?_
 exact Fin.of rfl
theorem cmp2 (R : Nat → Tx) (w : Int → Int → Int) (hw : ∀ a b, InR .i64 (w a b)) (c : ∀ a b : Nat, a < 2 → b < 2 → Called Tryz.prog 127 [.agg [.str (R b).1, .str (R b).2], .agg [.str (R a).1, .str (R a).2]] (.tup [.int .i64 (w a b), .int .i64 0])) : ∀ a b : Nat, a < 2 → b < 2 → Called Tryz.prog 126 [.int .i64 a, .int .i64 b, .ref [.slf 2 2 (fun j => List.take 2 (List.drop (j * 2) [.str (R 0).1, .str (R 0).2, .str (R 1).1, .str (R 1).2]))]] (.int .i64 (w a b)) := fun a b ha hb => by
 have h1 : a = 0 ∨ a = 1 := by omega
 have h2 : b = 0 ∨ b = 1 := by omega
 have k := c a b ha hb
 rcases h1 with e | e <;> rcases h2 with g | g <;> subst e <;> subst g
 ·exact cmp2_00 R _ k (hw _ _)
 ·exact cmp2_01 R _ k (hw _ _)
 ·exact cmp2_10 R _ k (hw _ _)
 ·exact cmp2_11 R _ k (hw _ _)
theorem cmp3_00 (R : Nat → Tx) (w : Int) (c : Called Tryz.prog 127 [.agg [.str (R 0).1, .str (R 0).2], .agg [.str (R 0).1, .str (R 0).2]] (.tup [.int .i64 w, .int .i64 0])) (hw : InR .i64 w) : Called Tryz.prog 126 [.int .i64 0, .int .i64 0, .ref [.slf 2 3 (fun j => List.take 2 (List.drop (j * 2) [.str (R 0).1, .str (R 0).2, .str (R 1).1, .str (R 1).2, .str (R 2).1, .str (R 2).2]))]] (.int .i64 w) := by
 refine jaa tbOk 6 ⟨Tryz.func126, rfl, rfl, jhO rfl⟩ ?_
 (conv => whnf)
 refine V.r0 jhv ?_
 refine ⟨(.take 0 (.take 1 (.take 2 (.take 3 (.take 4 (.take 5 (.take 6 (.take 7 (.ev (.cons 8 [] (.take 9 (.take 10 (.take 11 (.take 12 (.take 13 (.done)))))) (.nil))))))))))), [], ⟨by kernel_rfl, by kernel_rfl, by kernel_rfl, by kernel_rfl⟩, ?_⟩
 refine jac [(6, .int .i64 w)] [] ?_ ?_
 ·exact V.d1 jhv c
 refine V.r0 @jhS ?_
 exact Fin.of rfl
theorem cmp3_01 (R : Nat → Tx) (w : Int) (c : Called Tryz.prog 127 [.agg [.str (R 1).1, .str (R 1).2], .agg [.str (R 0).1, .str (R 0).2]] (.tup [.int .i64 w, .int .i64 0])) (hw : InR .i64 w) : Called Tryz.prog 126 [.int .i64 0, .int .i64 1, .ref [.slf 2 3 (fun j => List.take 2 (List.drop (j * 2) [.str (R 0).1, .str (R 0).2, .str (R 1).1, .str (R 1).2, .str (R 2).1, .str (R 2).2]))]] (.int .i64 w) := by
 refine jaa tbOk 6 ⟨Tryz.func126, rfl, rfl, jhO rfl⟩ ?_
 (conv => whnf)
 refine V.r0 jhv ?_
 refine ⟨(.take 0 (.take 1 (.take 2 (.take 3 (.take 4 (.take 5 (.take 6 (.take 7 (.ev (.cons 8 [] (.take 9 (.take 10 (.take 11 (.take 12 (.take 13 (.done)))))) (.nil))))))))))), [], ⟨by kernel_rfl, by kernel_rfl, by kernel_rfl, by kernel_rfl⟩, ?_⟩
 refine jac [(6, .int .i64 w)] [] ?_ ?_
 ·exact V.d1 jhv c
 refine V.r0 @jhS ?_
 exact Fin.of rfl
theorem cmp3_02 (R : Nat → Tx) (w : Int) (c : Called Tryz.prog 127 [.agg [.str (R 2).1, .str (R 2).2], .agg [.str (R 0).1, .str (R 0).2]] (.tup [.int .i64 w, .int .i64 0])) (hw : InR .i64 w) : Called Tryz.prog 126 [.int .i64 0, .int .i64 2, .ref [.slf 2 3 (fun j => List.take 2 (List.drop (j * 2) [.str (R 0).1, .str (R 0).2, .str (R 1).1, .str (R 1).2, .str (R 2).1, .str (R 2).2]))]] (.int .i64 w) := by
 refine jaa tbOk 6 ⟨Tryz.func126, rfl, rfl, jhO rfl⟩ ?_
 (conv => whnf)
 refine V.r0 jhv ?_
 refine ⟨(.take 0 (.take 1 (.take 2 (.take 3 (.take 4 (.take 5 (.take 6 (.take 7 (.ev (.cons 8 [] (.take 9 (.take 10 (.take 11 (.take 12 (.take 13 (.done)))))) (.nil))))))))))), [], ⟨by kernel_rfl, by kernel_rfl, by kernel_rfl, by kernel_rfl⟩, ?_⟩
 refine jac [(6, .int .i64 w)] [] ?_ ?_
 ·exact V.d1 jhv c
 refine V.r0 @jhS ?_
 exact Fin.of rfl
theorem cmp3_10 (R : Nat → Tx) (w : Int) (c : Called Tryz.prog 127 [.agg [.str (R 0).1, .str (R 0).2], .agg [.str (R 1).1, .str (R 1).2]] (.tup [.int .i64 w, .int .i64 0])) (hw : InR .i64 w) : Called Tryz.prog 126 [.int .i64 1, .int .i64 0, .ref [.slf 2 3 (fun j => List.take 2 (List.drop (j * 2) [.str (R 0).1, .str (R 0).2, .str (R 1).1, .str (R 1).2, .str (R 2).1, .str (R 2).2]))]] (.int .i64 w) := by
 refine jaa tbOk 6 ⟨Tryz.func126, rfl, rfl, jhO rfl⟩ ?_
 (conv => whnf)
 refine V.r0 jhv ?_
 refine ⟨(.take 0 (.take 1 (.take 2 (.take 3 (.take 4 (.take 5 (.take 6 (.take 7 (.ev (.cons 8 [] (.take 9 (.take 10 (.take 11 (.take 12 (.take 13 (.done)))))) (.nil))))))))))), [], ⟨by kernel_rfl, by kernel_rfl, by kernel_rfl, by kernel_rfl⟩, ?_⟩
 refine jac [(6, .int .i64 w)] [] ?_ ?_
 ·exact V.d1 jhv c
 refine V.r0 @jhS ?_
 exact Fin.of rfl
theorem cmp3_11 (R : Nat → Tx) (w : Int) (c : Called Tryz.prog 127 [.agg [.str (R 1).1, .str (R 1).2], .agg [.str (R 1).1, .str (R 1).2]] (.tup [.int .i64 w, .int .i64 0])) (hw : InR .i64 w) : Called Tryz.prog 126 [.int .i64 1, .int .i64 1, .ref [.slf 2 3 (fun j => List.take 2 (List.drop (j * 2) [.str (R 0).1, .str (R 0).2, .str (R 1).1, .str (R 1).2, .str (R 2).1, .str (R 2).2]))]] (.int .i64 w) := by
 refine jaa tbOk 6 ⟨Tryz.func126, rfl, rfl, jhO rfl⟩ ?_
 (conv => whnf)
 refine V.r0 jhv ?_
 refine ⟨(.take 0 (.take 1 (.take 2 (.take 3 (.take 4 (.take 5 (.take 6 (.take 7 (.ev (.cons 8 [] (.take 9 (.take 10 (.take 11 (.take 12 (.take 13 (.done)))))) (.nil))))))))))), [], ⟨by kernel_rfl, by kernel_rfl, by kernel_rfl, by kernel_rfl⟩, ?_⟩
 refine jac [(6, .int .i64 w)] [] ?_ ?_
 ·exact V.d1 jhv c
 refine V.r0 @jhS ?_
 exact Fin.of rfl
theorem cmp3_12 (R : Nat → Tx) (w : Int) (c : Called Tryz.prog 127 [.agg [.str (R 2).1, .str (R 2).2], .agg [.str (R 1).1, .str (R 1).2]] (.tup [.int .i64 w, .int .i64 0])) (hw : InR .i64 w) : Called Tryz.prog 126 [.int .i64 1, .int .i64 2, .ref [.slf 2 3 (fun j => List.take 2 (List.drop (j * 2) [.str (R 0).1, .str (R 0).2, .str (R 1).1, .str (R 1).2, .str (R 2).1, .str (R 2).2]))]] (.int .i64 w) := by
 refine jaa tbOk 6 ⟨Tryz.func126, rfl, rfl, jhO rfl⟩ ?_
 (conv => whnf)
 refine V.r0 jhv ?_
 refine ⟨(.take 0 (.take 1 (.take 2 (.take 3 (.take 4 (.take 5 (.take 6 (.take 7 (.ev (.cons 8 [] (.take 9 (.take 10 (.take 11 (.take 12 (.take 13 (.done)))))) (.nil))))))))))), [], ⟨by kernel_rfl, by kernel_rfl, by kernel_rfl, by kernel_rfl⟩, ?_⟩
 refine jac [(6, .int .i64 w)] [] ?_ ?_
 ·exact V.d1 jhv c
 refine V.r0 @jhS ?_
 exact Fin.of rfl
theorem cmp3_20 (R : Nat → Tx) (w : Int) (c : Called Tryz.prog 127 [.agg [.str (R 0).1, .str (R 0).2], .agg [.str (R 2).1, .str (R 2).2]] (.tup [.int .i64 w, .int .i64 0])) (hw : InR .i64 w) : Called Tryz.prog 126 [.int .i64 2, .int .i64 0, .ref [.slf 2 3 (fun j => List.take 2 (List.drop (j * 2) [.str (R 0).1, .str (R 0).2, .str (R 1).1, .str (R 1).2, .str (R 2).1, .str (R 2).2]))]] (.int .i64 w) := by
 refine jaa tbOk 6 ⟨Tryz.func126, rfl, rfl, jhO rfl⟩ ?_
 (conv => whnf)
 refine V.r0 jhv ?_
 refine ⟨(.take 0 (.take 1 (.take 2 (.take 3 (.take 4 (.take 5 (.take 6 (.take 7 (.ev (.cons 8 [] (.take 9 (.take 10 (.take 11 (.take 12 (.take 13 (.done)))))) (.nil))))))))))), [], ⟨by kernel_rfl, by kernel_rfl, by kernel_rfl, by kernel_rfl⟩, ?_⟩
 refine jac [(6, .int .i64 w)] [] ?_ ?_
 ·exact V.d1 jhv c
 refine V.r0 @jhS ?_
 exact Fin.of rfl
theorem cmp3_21 (R : Nat → Tx) (w : Int) (c : Called Tryz.prog 127 [.agg [.str (R 1).1, .str (R 1).2], .agg [.str (R 2).1, .str (R 2).2]] (.tup [.int .i64 w, .int .i64 0])) (hw : InR .i64 w) : Called Tryz.prog 126 [.int .i64 2, .int .i64 1, .ref [.slf 2 3 (fun j => List.take 2 (List.drop (j * 2) [.str (R 0).1, .str (R 0).2, .str (R 1).1, .str (R 1).2, .str (R 2).1, .str (R 2).2]))]] (.int .i64 w) := by
 refine jaa tbOk 6 ⟨Tryz.func126, rfl, rfl, jhO rfl⟩ ?_
 (conv => whnf)
 refine V.r0 jhv ?_
 refine ⟨(.take 0 (.take 1 (.take 2 (.take 3 (.take 4 (.take 5 (.take 6 (.take 7 (.ev (.cons 8 [] (.take 9 (.take 10 (.take 11 (.take 12 (.take 13 (.done)))))) (.nil))))))))))), [], ⟨by kernel_rfl, by kernel_rfl, by kernel_rfl, by kernel_rfl⟩, ?_⟩
 refine jac [(6, .int .i64 w)] [] ?_ ?_
 ·exact V.d1 jhv c
 refine V.r0 @jhS ?_
 exact Fin.of rfl
theorem cmp3_22 (R : Nat → Tx) (w : Int) (c : Called Tryz.prog 127 [.agg [.str (R 2).1, .str (R 2).2], .agg [.str (R 2).1, .str (R 2).2]] (.tup [.int .i64 w, .int .i64 0])) (hw : InR .i64 w) : Called Tryz.prog 126 [.int .i64 2, .int .i64 2, .ref [.slf 2 3 (fun j => List.take 2 (List.drop (j * 2) [.str (R 0).1, .str (R 0).2, .str (R 1).1, .str (R 1).2, .str (R 2).1, .str (R 2).2]))]] (.int .i64 w) := by
 refine jaa tbOk 6 ⟨Tryz.func126, rfl, rfl, jhO rfl⟩ ?_
 (conv => whnf)
 refine V.r0 jhv ?_
 refine ⟨(.take 0 (.take 1 (.take 2 (.take 3 (.take 4 (.take 5 (.take 6 (.take 7 (.ev (.cons 8 [] (.take 9 (.take 10 (.take 11 (.take 12 (.take 13 (.done)))))) (.nil))))))))))), [], ⟨by kernel_rfl, by kernel_rfl, by kernel_rfl, by kernel_rfl⟩, ?_⟩
 refine jac [(6, .int .i64 w)] [] ?_ ?_
 ·exact V.d1 jhv c
 refine V.r0 @jhS ?_
 exact Fin.of rfl
theorem cmp3 (R : Nat → Tx) (w : Int → Int → Int) (hw : ∀ a b, InR .i64 (w a b)) (c : ∀ a b : Nat, a < 3 → b < 3 → Called Tryz.prog 127 [.agg [.str (R b).1, .str (R b).2], .agg [.str (R a).1, .str (R a).2]] (.tup [.int .i64 (w a b), .int .i64 0])) : ∀ a b : Nat, a < 3 → b < 3 → Called Tryz.prog 126 [.int .i64 a, .int .i64 b, .ref [.slf 2 3 (fun j => List.take 2 (List.drop (j * 2) [.str (R 0).1, .str (R 0).2, .str (R 1).1, .str (R 1).2, .str (R 2).1, .str (R 2).2]))]] (.int .i64 (w a b)) := fun a b ha hb => by
 have h1 : a = 0 ∨ a = 1 ∨ a = 2 := by omega
 have h2 : b = 0 ∨ b = 1 ∨ b = 2 := by omega
 have k := c a b ha hb
 rcases h1 with e | e | e <;> rcases h2 with g | g | g <;> subst e <;> subst g
 ·exact cmp3_00 R _ k (hw _ _)
 ·exact cmp3_01 R _ k (hw _ _)
 ·exact cmp3_02 R _ k (hw _ _)
 ·exact cmp3_10 R _ k (hw _ _)
 ·exact cmp3_11 R _ k (hw _ _)
 ·exact cmp3_12 R _ k (hw _ _)
 ·exact cmp3_20 R _ k (hw _ _)
 ·exact cmp3_21 R _ k (hw _ _)
 ·exact cmp3_22 R _ k (hw _ _)
def txq (q : Rat) : Tx := (decZ q.num, dec q.den)
def rqN (r0 r1 r2 : Rat) : Nat → Rat
 | 0 => r0
 | 1 => r1
 | _ => r2
def bqN (rq : Nat → Rat) (o : List Int) : Nat → Rat
 | 0 => 1
 | k + 1 => rq (o.getD k 0).toNat
def wqN (rq : Nat → Rat) (o : List Int) (n k : Nat) : Rat := if k = n then bqN rq o n else bqN rq o k - bqN rq o (k + 1)
def slQ (Y : Nat → Tx) (n : Nat) : D := .slf 2 n (fun j => List.take 2 (List.drop (j * 2) (wce Y n)))
theorem sel_n (r0 r1 r2 : Rat) : ∀ i : Nat, sel r0 r1 r2 (i : Int) = rqN r0 r1 r2 i
 | 0 => by unfold sel; rw [if_pos (by rfl)]; rfl
 | 1 => by unfold sel; rw [if_neg (by decide), if_pos (by rfl)]; rfl
 | k + 2 => by unfold sel; rw [if_neg (by omega), if_neg (by omega)]; rfl
theorem cmpW_n (r0 r1 r2 : Rat) (a b : Nat) : cmpW r0 r1 r2 (a : Int) (b : Int) = ordQ (rqN r0 r1 r2 b) (rqN r0 r1 r2 a) := by unfold cmpW; rw [sel_n, sel_n]
theorem ordQ_in (p q : Rat) : InR .i64 (ordQ p q) := by
 unfold ordQ
 split
 ·exact ⟨by decide, by decide⟩
 ·split <;> exact ⟨by decide, by decide⟩
theorem jck {n : Nat} {x : Rat} {s : Int} (h : Fq n x) (h0 : 0 < n) (hs : 2 ≤ s ∧ s ≤ 9) : Fq (n + 3) (spR s x) := by
 have fs : Fq 1 ((s - 1 : Int) : Rat) := jba (by omega) (by omega)
 have bb := jd9 hs.1 x
 have fi : Fq 1 ((spB s x : Int) : Rat) := jba (by omega) (by omega)
 exact ((fq_cl h h0).mul fs).sub fi
theorem fq_rq {r0 r1 r2 : Rat} (h0 : Fq 43 r0) (h1 : Fq 43 r1) (h2 : Fq 43 r2) : ∀ k, Fq 43 (rqN r0 r1 r2 k)
 | 0 => h0
 | 1 => h1
 | _ + 2 => h2
theorem fq_one : Fq 43 1 := ⟨by decide, by decide⟩
theorem jhc : Fq 43 0 := ⟨by decide, by decide⟩
theorem fq_bq {rq : Nat → Rat} (h : ∀ k, Fq 43 (rq k)) (o : List Int) : ∀ k, Fq 43 (bqN rq o k)
 | 0 => fq_one
 | k + 1 => h _
theorem fq_wq {rq : Nat → Rat} (h : ∀ k, Fq 43 (rq k)) (o : List Int) (n k : Nat) : Fq 87 (wqN rq o n k) := by
 unfold wqN
 split
 ·exact (fq_bq h o n).mono (by decide)
 ·exact (fq_bq h o k).sub (fq_bq h o (k + 1))
theorem find2_q {x0 x1 : Rat} {z0 z1 : Int} (out : Int) (data : List Int) (h0 : Fq 40 x0) (h1 : Fq 40 x1) (s0 : 2 ≤ z0 ∧ z0 ≤ 9) (s1 : 2 ≤ z1 ∧ z1 ≤ 9) :
  Called Tryz.prog 79 [.agg [.ints .i64 [z0, z1], .int .i64 out, .ints .i64 data], slQ (fun i => txq (rqN x0 x1 0 i)) 2] (.tup [.agg [.ints .i64 [z0, z1], .int .i64 out, .ints .i64 data, .ints .i64 [spB z0 x0, spB z1 x1], .ints .i64 (ord2 (spR z0 x0) (spR z1 x1)), slQ (fun k => txq (wqN (rqN (spR z0 x0) (spR z1 x1) 0) (ord2 (spR z0 x0) (spR z1 x1)) 2 k)) 3], .int .i64 0]) := by
 have p0 := jd8 h0 (by decide) s0
 have f0 := jck h0 (by decide) s0
 have p1 := jd8 h1 (by decide) s1
 have f1 := jck h1 (by decide) s1
 have io := jar (n := 1) (by omega)
 rw [show ((1 : Int) : Rat) = 1 from rfl] at io
 have fr : ∀ k, Fq 43 (rqN (spR z0 x0) (spR z1 x1) 0 k) := fq_rq f0 f1 jhc
 have cm := cmp2 (fun i => txq (rqN (spR z0 x0) (spR z1 x1) 0 i)) (cmpW (spR z0 x0) (spR z1 x1) 0) (fun a b => ordQ_in _ _) (fun a b _ _ => by
  have c := zcmp (fr b) (fr a) (by decide) (by decide)
  rw [← cmpW_n] at c
  exact c)
 have g := find2_t z0 z1 out (spB z0 x0) (spB z1 x1) data _ _ _ _ _ _ (fun i => txq (rqN (spR z0 x0) (spR z1 x1) 0 i)) (fun k => txq (bqN (rqN (spR z0 x0) (spR z1 x1) 0) (isoK (cmpW (spR z0 x0) (spR z1 x1) 0) [0, 1] (2 - 1)) k)) (fun k => txq (bqN (rqN (spR z0 x0) (spR z1 x1) 0) (isoK (cmpW (spR z0 x0) (spR z1 x1) 0) [0, 1] (2 - 1)) k - bqN (rqN (spR z0 x0) (spR z1 x1) 0) (isoK (cmpW (spR z0 x0) (spR z1 x1) 0) [0, 1] (2 - 1)) (k + 1))) p0 p1 io (cmpW (spR z0 x0) (spR z1 x1) 0) cm rfl (fun k _ => rfl) (fun k _ => zsub (fq_bq fr _ k) (fq_bq fr _ (k + 1)) (by decide) (by decide) (by decide))
 have e : isoK (cmpW (spR z0 x0) (spR z1 x1) 0) [0, 1] (2 - 1) = (ord2 (spR z0 x0) (spR z1 x1)) := iso2 _ _ _
 rw [e] at g
 exact g
theorem find3_q {x0 x1 x2 : Rat} {z0 z1 z2 : Int} (out : Int) (data : List Int) (h0 : Fq 40 x0) (h1 : Fq 40 x1) (h2 : Fq 40 x2) (s0 : 2 ≤ z0 ∧ z0 ≤ 9) (s1 : 2 ≤ z1 ∧ z1 ≤ 9) (s2 : 2 ≤ z2 ∧ z2 ≤ 9) :
  Called Tryz.prog 79 [.agg [.ints .i64 [z0, z1, z2], .int .i64 out, .ints .i64 data], slQ (fun i => txq (rqN x0 x1 x2 i)) 3] (.tup [.agg [.ints .i64 [z0, z1, z2], .int .i64 out, .ints .i64 data, .ints .i64 [spB z0 x0, spB z1 x1, spB z2 x2], .ints .i64 (ord3 (spR z0 x0) (spR z1 x1) (spR z2 x2)), slQ (fun k => txq (wqN (rqN (spR z0 x0) (spR z1 x1) (spR z2 x2)) (ord3 (spR z0 x0) (spR z1 x1) (spR z2 x2)) 3 k)) 4], .int .i64 0]) := by
 have p0 := jd8 h0 (by decide) s0
 have f0 := jck h0 (by decide) s0
 have p1 := jd8 h1 (by decide) s1
 have f1 := jck h1 (by decide) s1
 have p2 := jd8 h2 (by decide) s2
 have f2 := jck h2 (by decide) s2
 have io := jar (n := 1) (by omega)
 rw [show ((1 : Int) : Rat) = 1 from rfl] at io
 have fr : ∀ k, Fq 43 (rqN (spR z0 x0) (spR z1 x1) (spR z2 x2) k) := fq_rq f0 f1 f2
 have cm := cmp3 (fun i => txq (rqN (spR z0 x0) (spR z1 x1) (spR z2 x2) i)) (cmpW (spR z0 x0) (spR z1 x1) (spR z2 x2)) (fun a b => ordQ_in _ _) (fun a b _ _ => by
  have c := zcmp (fr b) (fr a) (by decide) (by decide)
  rw [← cmpW_n] at c
  exact c)
 have g := find3_t z0 z1 z2 out (spB z0 x0) (spB z1 x1) (spB z2 x2) data _ _ _ _ _ _ _ _ (fun i => txq (rqN (spR z0 x0) (spR z1 x1) (spR z2 x2) i)) (fun k => txq (bqN (rqN (spR z0 x0) (spR z1 x1) (spR z2 x2)) (isoK (cmpW (spR z0 x0) (spR z1 x1) (spR z2 x2)) [0, 1, 2] (3 - 1)) k)) (fun k => txq (bqN (rqN (spR z0 x0) (spR z1 x1) (spR z2 x2)) (isoK (cmpW (spR z0 x0) (spR z1 x1) (spR z2 x2)) [0, 1, 2] (3 - 1)) k - bqN (rqN (spR z0 x0) (spR z1 x1) (spR z2 x2)) (isoK (cmpW (spR z0 x0) (spR z1 x1) (spR z2 x2)) [0, 1, 2] (3 - 1)) (k + 1))) p0 p1 p2 io (cmpW (spR z0 x0) (spR z1 x1) (spR z2 x2)) cm rfl (fun k _ => rfl) (fun k _ => zsub (fq_bq fr _ k) (fq_bq fr _ (k + 1)) (by decide) (by decide) (by decide))
 have e : isoK (cmpW (spR z0 x0) (spR z1 x1) (spR z2 x2)) [0, 1, 2] (3 - 1) = (ord3 (spR z0 x0) (spR z1 x1) (spR z2 x2)) := iso3 _ _ _
 rw [e] at g
 exact g
end Go.Proofs.YtgjgpdceghjajaaGreatDoor
end
section
namespace Go.Proofs.YtgjgpdceghjajaaGreatDoor
open Go Go.V
theorem jdP (n l h : Int) : Called Tryz.prog 39 [.int .i64 n, .int .i64 l, .int .i64 h] (.bool (decide (l ≤ n) && decide (n ≤ h))) := by
 refine jaa tbOk 6 ⟨Tryz.func39, rfl, rfl, jhO rfl⟩ ?_
 (conv => whnf)
 refine V.st ?_
 exact Fin.same _
def prod (xs : List Int) : Int := xs.foldl (· * ·) 1
theorem jcL {xs : List Int} {k : Nat} {x : Int} (h : xs[k]? = some x) : prod (xs.take (k + 1)) = prod (xs.take k) * x := by
 rw [List.take_add_one, h]; simp [prod]
theorem product_c (xs : List Int) (hx : ∀ k, k ≤ xs.length → InR .i64 (prod (xs.take k))) (hl : xs.length ≤ 281474976710656) : Called Tryz.prog 69 [.ints .i64 xs] (.int .i64 (prod xs)) := by
 refine jaa tbOk 6 ⟨Tryz.func69, rfl, rfl, jhO rfl⟩ ?_
 (conv => whnf)
 refine lp_go (xs.length) (fun k => True) (fun k => [(3, .int .i64 (prod (xs.take k))), (8, .int .i64 k)]) (fun k => []) V.wk ?_ ?_
 ·trivial
 intro k hk _
 (conv => whnf)
 refine V.st ?_
 refine Cnd.split (CondB.mk (fun h => ?_) (fun h => ?_))
 ·simp only [decide_eq_true_eq] at h
  obtain ⟨x, hx1, ex⟩ := getx (xs := xs) (k := k) (by omega)
  have hp := jcL hx1
  have hr := hx (k + 1) (by omega)
  (conv => whnf)
  refine V.st ?_
  rw [ex, ← hp]
  refine V.st ?_
  exact ⟨k + 1, ⟨by omega, trivial⟩, by omega, V.wk⟩
 ·simp only [decide_eq_false_iff_not] at h
  (conv => whnf)
  refine V.st ?_
  have : prod (xs.take k) = prod xs := by rw [List.take_of_length_le (by omega)]
  rw [this]
  exact Fin.same _
theorem jfZ (xs ys : List Int) (hl : xs.length ≤ 281474976710656) (hm : ys.length ≤ 281474976710656) : Called Tryz.prog 34 [.ints .i64 xs, .ints .i64 ys] (.bool (decide (xs = ys))) := by
 refine jaa tbOk 6 ⟨Tryz.func34, rfl, rfl, jhO rfl⟩ ?_
 (conv => whnf)
 refine Cnd.split (CondB.mk (fun h => ?_) (fun h => ?_))
 ·have hne : xs ≠ ys := fun e => by subst e; simp at h
  (conv => whnf)
  refine V.st ?_
  exact Fin.of (by simp [hne])
 have hle : xs.length = ys.length := by simp at h; omega
 clear h
 (conv => whnf)
 refine V.st ?_
 refine lp_go (xs.length) (fun k => xs.take k = ys.take k) (fun k => [(13, .int .i64 k)]) (fun k => []) V.wk ?_ ?_
 ·rfl
 intro k hk hI
 (conv => whnf)
 refine V.st ?_
 refine Cnd.split (CondB.mk (fun h => ?_) (fun h => ?_))
 ·simp only [decide_eq_true_eq] at h
  obtain ⟨x, hx1, ex⟩ := getx (xs := xs) (k := k) (by omega)
  obtain ⟨y, hy1, ey⟩ := getx (xs := ys) (k := k) (by omega)
  (conv => whnf)
  refine V.st ?_
  refine ⟨(.take 0 (.take 1 (.take 2 (.take 3 (.take 4 (.take 5 (.take 6 (.take 7 (.take 8 (.done)))))))))), [], ⟨by kernel_rfl, by kernel_rfl, by kernel_rfl, by kernel_rfl⟩, .go (jae ?_)⟩
  (conv => whnf)
  refine V.st ?_
  rw [ex, ey]
  refine Cnd.split (CondB.mk (fun hb => ?_) (fun hb => ?_))
  ·have hne : xs ≠ ys := fun e => by subst e; rw [hx1] at hy1; cases hy1; simp at hb
   (conv => whnf)
   refine V.st ?_
   exact Fin.of (by simp [hne])
  ·have hxy : x = y := by simpa using hb
   (conv => whnf)
   refine V.st ?_
   exact ⟨k + 1, ⟨by omega, (by rw [List.take_add_one, List.take_add_one, hI, hx1, hy1, hxy])⟩, by omega, V.wk⟩
 ·simp only [decide_eq_false_iff_not] at h
  have : xs = ys := by rw [← List.take_of_length_le (l := xs) (i := k) (by omega), ← List.take_of_length_le (l := ys) (i := k) (by omega), hI]
  (conv => whnf)
  refine V.st ?_
  exact Fin.of (by simp [this])
theorem clone_c (xs : List Int) (hl : xs.length ≤ 17592186044416) : Called Tryz.prog 19 [.ints .i64 xs] (.ints .i64 xs) := by
 refine jaa tbOk 6 ⟨Tryz.func19, rfl, rfl, jhO rfl⟩ ?_
 (conv => whnf)
 refine ⟨fun h => ?_, fun _ => ?_⟩
 ·have hx := h rfl
  subst hx
  (conv => whnf)
  refine V.st ?_
  exact Fin.nil _
 ·(conv => whnf)
  refine ⟨fun _ => ⟨rfl, by simpa using hl⟩, ?_⟩
  (conv => whnf)
  exact Fin.of (by simp)
def gridD (size : List Int) (out : Int) (data : List Int) : D := .agg [.ints .i64 size, .int .i64 out, .ints .i64 data]
def jao (size : List Int) (out : Int) (data : List Int) : Bool :=
 decide (1 ≤ size.length ∧ size.length ≤ 4) && decide (1 ≤ out ∧ out ≤ 4) && size.all (fun n => decide (2 ≤ n ∧ n ≤ 9)) && decide ((data.length : Int) ≤ 4096 ∧ (data.length : Int) = prod size * out) && data.all fun v => decide (0 ≤ v ∧ v ≤ 65535)
theorem jgX {size : List Int} {out : Int} {data : List Int} {k : Nat} {x : Int} (hx : size[k]? = some x) (h : ¬ (2 ≤ x ∧ x ≤ 9)) : jao size out data = false := by
 have hm : x ∈ size := List.mem_of_getElem? hx
 have : size.all (fun n => decide (2 ≤ n ∧ n ≤ 9)) = false := by
  rw [List.all_eq_false]; exact ⟨x, hm, by simpa using h⟩
 unfold jao; rw [this]; simp only [Bool.and_false, Bool.false_and]
theorem jgY {size : List Int} {out : Int} {data : List Int} {k : Nat} {x : Int} (hx : data[k]? = some x) (h : ¬ (0 ≤ x ∧ x ≤ 65535)) : jao size out data = false := by
 have hm : x ∈ data := List.mem_of_getElem? hx
 have : data.all (fun v => decide (0 ≤ v ∧ v ≤ 65535)) = false := by
  rw [List.all_eq_false]; exact ⟨x, hm, by simpa using h⟩
 unfold jao; rw [this]; simp only [Bool.and_false, Bool.false_and]
theorem jgQ {size : List Int} (hall : size.all (fun n => decide (2 ≤ n ∧ n ≤ 9)) = true) (k : Nat) : 0 ≤ prod (size.take k) ∧ (size.length ≤ 4 → prod (size.take k) ≤ 6561) ∧ (size.length ≤ 4 → InR .i64 (prod (size.take k))) := by
 have hb : ∀ l : List Int, (∀ n ∈ l, 2 ≤ n ∧ n ≤ 9) → ∀ a : Int, 0 ≤ a → 0 ≤ l.foldl (· * ·) a ∧ l.foldl (· * ·) a ≤ a * 9 ^ l.length := by
  intro l
  induction l with
  | nil => intro _ a ha; simp; exact ha
  | cons x l ih =>
   intro hl a ha
   have hx := hl x (by simp)
   have h1 : 0 ≤ a * x := jhR ha (by omega)
   have h2 := ih (fun n hn => hl n (by simp [hn])) (a * x) h1
   refine ⟨h2.1, Int.le_trans h2.2 ?_⟩
   have h3 : a * x ≤ a * 9 := jh7 hx.2 ha
   have h4 : a * x * 9 ^ l.length ≤ a * 9 * 9 ^ l.length := jhY h3 (Int.pow_nonneg (by omega))
   have h5 : a * 9 ^ (x :: l).length = a * 9 * 9 ^ l.length := by
    rw [List.length_cons, Int.pow_succ, jh5 _ 9, ← jh6]
   rw [h5]; exact h4
 simp only [List.all_eq_true, decide_eq_true_eq] at hall
 have h1 := hb (size.take k) (fun n hn => hall n (List.mem_of_mem_take hn)) 1 (by omega)
 have h2 : size.length ≤ 4 → prod (size.take k) ≤ 6561 := by
  intro h
  refine Int.le_trans h1.2 ?_
  have : (size.take k).length ≤ 4 := by simp; omega
  generalize (size.take k).length = m at this
  match m, this with
  | 0, _ => decide
  | 1, _ => decide
  | 2, _ => decide
  | 3, _ => decide
  | 4, _ => decide
  | m + 5, h => omega
 refine ⟨h1.1, h2, fun h => ?_⟩
 have h3 := h2 h
 have h4 := h1.1
 simp only [V.InR, lo, hi]
 simp only [prod] at *
 omega
theorem prodm_bd {size : List Int} {out : Int} (hall : size.all (fun n => decide (2 ≤ n ∧ n ≤ 9)) = true) (h1 : size.length ≤ 4) (h2 : 1 ≤ out ∧ out ≤ 4) : InR .i64 (prod size * out) := by
 have h3 := jgQ hall size.length
 rw [List.take_length] at h3
 have h4 : prod size ≤ 6561 := h3.2.1 h1
 have h5 : 0 ≤ prod size * out := jhR h3.1 (by omega)
 have h6 : prod size * out ≤ 6561 * 4 := Int.mul_le_mul h4 h2.2 (by omega) (by omega)
 simp only [V.InR, lo, hi]; omega
theorem jeR (size : List Int) (out : Int) (data : List Int) (hs : size.length ≤ 281474976710656) (hd : data.length ≤ 281474976710656) :
  Called Tryz.prog 37 [gridD size out data] (.int .i64 (if jao size out data then 0 else 100)) := by
 refine jaa tbOk 6 ⟨Tryz.func37, rfl, rfl, jhO rfl⟩ ?_
 (conv => whnf)
 refine V.st ?_
 repeat ((try ((with_reducible refine .ext ?_); (conv => whnf))); (with_reducible refine jab (r := ?_) ?_ ?_); rotate_left; (focus (first | exact (jdP _ _ _))); (conv => whnf); refine V.st ?_)
 refine Cnd.split (CondB.mk (fun h => ?_) (fun h => ?_))
 ·(conv => whnf)
  refine V.st ?_
  refine Fin.of ?_
  have : jao size out data = false := by
   simp only [jao]
   simp at h
   simp
   omega
  rw [this]; rfl
 have h1 : 1 ≤ size.length ∧ size.length ≤ 4 ∧ 1 ≤ out ∧ out ≤ 4 := by
  simp at h; omega
 clear h
 (conv => whnf)
 refine V.st ?_
 refine lp_inv size.length (fun k => (size.take k).all (fun n => decide (2 ≤ n ∧ n ≤ 9)) = true) (fun k => [(1, .box 1 0), (19, .ints .i64 size), (20, .int .i64 size.length), (21, .int .i64 k)]) (fun _ => [(1, .box [.ints .i64 size, .int .i64 out, .ints .i64 data])]) ?_ rfl ?_
 ·exact Wk.of ⟨rfl, rfl, rfl, rfl, trivial⟩ ⟨rfl, trivial⟩
 intro k hk hI
 (conv => whnf)
 refine V.st ?_
 refine Cnd.split (CondB.mk (fun h => ?_) (fun h => ?_))
 ·simp only [decide_eq_true_eq] at h
  obtain ⟨x, hx1⟩ : ∃ x, size[k]? = some x := ⟨size[k], List.getElem?_eq_getElem (by omega)⟩
  have ex := V.getD_toNat size k x hx1
  (conv => whnf)
  refine V.st ?_
  repeat ((try ((with_reducible refine .ext ?_); (conv => whnf))); (with_reducible refine jab (r := ?_) ?_ ?_); rotate_left; (focus (first | exact (jdP _ _ _))); (conv => whnf); refine V.st ?_)
  rw [ex]
  refine Cnd.split (CondB.mk (fun h => ?_) (fun h => ?_))
  ·(conv => whnf)
   refine V.st ?_
   refine Fin.of ?_
   rw [jgX hx1 (by simp at h; omega)]; rfl
  ·(conv => whnf)
   refine V.st ?_
   exact ⟨k + 1, ⟨by omega, by rw [List.take_add_one, List.all_append, hI, hx1]; simp at h ⊢; omega⟩, by omega, Wk.of ⟨rfl, rfl, rfl, rfl, trivial⟩ ⟨rfl, trivial⟩⟩
 ·(conv => whnf)
  refine V.st ?_
  simp only [decide_eq_false_iff_not] at h
  have hall : size.all (fun n => decide (2 ≤ n ∧ n ≤ 9)) = true := by rw [← hI, List.take_of_length_le (by omega)]
  have hp := jgQ hall
  have hm := prodm_bd hall h1.2.1 h1.2.2
  refine ⟨(.take 0 (.take 1 (.take 2 (.take 3 (.take 4 (.take 5 (.take 6 (.take 7 (.take 8 (.take 9 (.take 11 (.take 12 (.ev (.cons 10 [12, 11, 7, 6, 5] (.take 13 (.take 14 (.take 15 (.done)))) (.nil))))))))))))))), [], ⟨by kernel_rfl, by kernel_rfl, by kernel_rfl, by kernel_rfl⟩, .go (jae ?_)⟩
  (conv => whnf)
  refine V.st ?_
  repeat ((try ((with_reducible refine .ext ?_); (conv => whnf))); (with_reducible refine jab (r := ?_) ?_ ?_); rotate_left; (focus (first | exact (product_c _ (fun k _ => (hp k).2.2 h1.2.1) hs))); (conv => whnf); refine V.st ?_)
  refine Cnd.split (CondB.mk (fun h => ?_) (fun h => ?_))
  ·(conv => whnf)
   refine V.st ?_
   refine Fin.of ?_
   have : jao size out data = false := by
    unfold jao
    have : (decide ((data.length : Int) ≤ 4096 ∧ (data.length : Int) = prod size * out)) = false := by simp at h ⊢; omega
    rw [this]; simp
   rw [this]; rfl
  have h2 : (data.length : Int) ≤ 4096 ∧ (data.length : Int) = prod size * out := by simp at h; omega
  clear h
  (conv => whnf)
  refine V.st ?_
  refine lp_inv data.length (fun k => (data.take k).all (fun v => decide (0 ≤ v ∧ v ≤ 65535)) = true) (fun k => [(1, .box 1 0), (46, .ints .i64 data), (47, .int .i64 data.length), (48, .int .i64 k)]) (fun _ => [(1, .box [.ints .i64 size, .int .i64 out, .ints .i64 data])]) ?_ rfl ?_
  ·exact Wk.of ⟨rfl, rfl, rfl, rfl, trivial⟩ ⟨rfl, trivial⟩
  intro k hk hI
  (conv => whnf)
  refine V.st ?_
  refine Cnd.split (CondB.mk (fun h => ?_) (fun h => ?_))
  ·simp only [decide_eq_true_eq] at h
   obtain ⟨x, hx1⟩ : ∃ x, data[k]? = some x := ⟨data[k], List.getElem?_eq_getElem (by omega)⟩
   have ex := V.getD_toNat data k x hx1
   (conv => whnf)
   refine V.st ?_
   repeat ((try ((with_reducible refine .ext ?_); (conv => whnf))); (with_reducible refine jab (r := ?_) ?_ ?_); rotate_left; (focus (first | exact (jdP _ _ _))); (conv => whnf); refine V.st ?_)
   rw [ex]
   refine Cnd.split (CondB.mk (fun h => ?_) (fun h => ?_))
   ·(conv => whnf)
    refine V.st ?_
    refine Fin.of ?_
    rw [jgY hx1 (by simp at h; omega)]; rfl
   ·(conv => whnf)
    refine V.st ?_
    exact ⟨k + 1, ⟨by omega, by rw [List.take_add_one, List.all_append, hI, hx1]; simp at h ⊢; omega⟩, by omega, Wk.of ⟨rfl, rfl, rfl, rfl, trivial⟩ ⟨rfl, trivial⟩⟩
  ·(conv => whnf)
   refine V.st ?_
   simp only [decide_eq_false_iff_not] at h
   have hall2 : data.all (fun v => decide (0 ≤ v ∧ v ≤ 65535)) = true := by rw [← hI, List.take_of_length_le (by omega)]
   have : jao size out data = true := by
    unfold jao
    rw [hall, hall2]; simp; omega
   refine Fin.of ?_
   rw [this]; rfl
def pz (z : List (Int × Int)) : Int := z.foldl (fun p a => p * a.1 + a.2) 0
def okIdx (size xs : List Int) : Bool := decide (xs.length = size.length) && (size.zip xs).all fun a => decide (0 ≤ a.2 ∧ a.2 ≤ a.1 - 1)
def pad4 (xs : List Int) : List Int := xs ++ List.replicate (4 - xs.length) 0
theorem jaz {xs : List Int} (h : xs.length ≤ 4) : (pad4 xs).length = 4 := by simp [pad4]; omega
theorem jfN {xs : List Int} {k : Nat} {x : Int} (h : xs[k]? = some x) (hl : xs.length ≤ 4) : (pad4 (xs.take k)).set k x = pad4 (xs.take (k + 1)) := by
 have hk : k < xs.length := (List.getElem?_eq_some_iff.1 h).1
 refine List.ext_getElem? fun j => ?_
 rw [List.getElem?_set]
 have h1 : (xs.take k).length = k := by simp; omega
 have h2 : (xs.take (k + 1)).length = k + 1 := by simp; omega
 have hp : (pad4 (xs.take k)).length = 4 := jaz (by omega)
 by_cases e : k = j
 ·subst e
  rw [if_pos rfl, if_pos (by omega)]
  unfold pad4
  rw [List.getElem?_append_left (by omega), List.getElem?_take_of_lt (by omega), h]
 ·rw [if_neg e]
  unfold pad4
  rw [h1, h2]
  by_cases hj : j < k
  ·rw [List.getElem?_append_left (by omega), List.getElem?_append_left (by omega), List.getElem?_take_of_lt hj, List.getElem?_take_of_lt (by omega)]
  ·rw [List.getElem?_append_right (by omega), List.getElem?_append_right (by omega), h1, h2]
   simp only [List.getElem?_replicate]
   by_cases hj4 : j < 4
   ·rw [if_pos (by omega), if_pos (by omega)]
   ·rw [if_neg (by omega), if_neg (by omega)]
theorem pz_bd_aux (z : List (Int × Int)) : ∀ (p q : Int), (∀ a ∈ z, 0 ≤ a.2 ∧ a.2 ≤ a.1 - 1) → 0 ≤ p → p + 1 ≤ q →
  0 ≤ z.foldl (fun p a => p * a.1 + a.2) p ∧ z.foldl (fun p a => p * a.1 + a.2) p + 1 ≤ (z.map (·.1)).foldl (· * ·) q := by
 induction z with
 | nil => intro p q _ h1 h2; exact ⟨h1, h2⟩
 | cons a z ih =>
  intro p q h h1 h2
  have ha := h a (by simp)
  simp only [List.foldl_cons, List.map_cons]
  have h3 : 0 ≤ p * a.1 := jhR h1 (by omega)
  have h4 : (p + 1) * a.1 ≤ q * a.1 := jhY h2 (by omega)
  rw [jie] at h4
  exact ih _ _ (fun b hb => h b (by simp [hb])) (by omega) (by omega)
theorem pz_bd {z : List (Int × Int)} (h : ∀ a ∈ z, 0 ≤ a.2 ∧ a.2 ≤ a.1 - 1) : 0 ≤ pz z ∧ pz z + 1 ≤ prod (z.map (·.1)) := pz_bd_aux z 0 1 h (by omega) (by omega)
theorem jbq {size xs : List Int} : okIdx size xs = true ↔ xs.length = size.length ∧ ∀ (k : Nat) (n x : Int), size[k]? = some n → xs[k]? = some x → 0 ≤ x ∧ x ≤ n - 1 := by
 unfold okIdx
 rw [jhN, decide_eq_true_eq, List.all_eq_true]
 constructor
 ·rintro ⟨h1, h2⟩
  refine ⟨h1, fun k n x hn hx => ?_⟩
  have := h2 (n, x) (List.mem_of_getElem? (i := k) (by rw [List.getElem?_zip_eq_some]; exact ⟨hn, hx⟩))
  simpa using this
 ·rintro ⟨h1, h2⟩
  refine ⟨h1, fun a ha => ?_⟩
  obtain ⟨k, hk⟩ := List.getElem?_of_mem ha
  rw [List.getElem?_zip_eq_some] at hk
  simpa using h2 k _ _ hk.1 hk.2
theorem jbk {size : List Int} {out : Int} {data : List Int} (h : jao size out data = true) : 1 ≤ size.length ∧ size.length ≤ 4 ∧ 1 ≤ out ∧ out ≤ 4 ∧ size.all (fun n => decide (2 ≤ n ∧ n ≤ 9)) = true ∧ (data.length : Int) ≤ 4096 ∧ (data.length : Int) = prod size * out ∧ data.all (fun v => decide (0 ≤ v ∧ v ≤ 65535)) = true := by
 unfold jao at h
 simp only [jhN] at h
 obtain ⟨⟨⟨⟨h1, h2⟩, h3⟩, h4⟩, h5⟩ := h
 simp only [decide_eq_true_eq] at h1 h2 h4
 exact ⟨h1.1, h1.2, h2.1, h2.2, h3, h4.1, h4.2, h5⟩
theorem okIdx_step {size xs : List Int} {n x : Int} (h : okIdx size xs = true) (hl : size.length = xs.length) (hx : 0 ≤ x ∧ x ≤ n - 1) : okIdx (size ++ [n].toArray.toList) (xs ++ [x].toArray.toList) = true := by
 unfold okIdx at *
 rw [List.zip_append hl]
 simp at *
 exact ⟨by omega, h.2, by omega⟩
theorem find_c (size : List Int) (out : Int) (data xs : List Int) (hg : jao size out data = true) (hx : xs.length ≤ 281474976710656) :
  Called Tryz.prog 47 [gridD size out data, .ints .i64 xs] (.tup [.iarr .i64 (if okIdx size xs then pad4 xs else [0, 0, 0, 0]), .bool (okIdx size xs)]) := by
 have hG := jbk hg
 refine jaa tbOk 6 ⟨Tryz.func47, rfl, rfl, jhO rfl⟩ ?_
 (conv => whnf)
 refine V.st ?_
 refine Cnd.split (CondB.mk (fun h => ?_) (fun h => ?_))
 ·have : okIdx size xs = false := by
   unfold okIdx
   simp at h; simp; omega
  (conv => whnf)
  refine V.st ?_
  rw [this]
  exact Fin.of rfl
 have hl : xs.length = size.length := by simp at h; omega
 clear h
 (conv => whnf)
 refine V.st ?_
 refine lp_go (xs.length) (fun k => okIdx (size.take k) (xs.take k) = true) (fun k => [(19, .int .i64 k)]) (fun k => [(6, .arr .i64 (pad4 (xs.take k)))]) V.wk ?_ ?_
 ·rfl
 intro k hk hI
 (conv => whnf)
 refine V.st ?_
 refine Cnd.split (CondB.mk (fun h => ?_) (fun h => ?_))
 ·simp only [decide_eq_true_eq] at h
  obtain ⟨x, hx1, ex⟩ := getx (xs := xs) (k := k) (by omega)
  obtain ⟨n, hn1, en⟩ := getx (xs := size) (k := k) (by omega)
  have hnb : 2 ≤ n ∧ n ≤ 9 := by
   have := List.all_eq_true.1 hG.2.2.2.2.1 n (List.mem_of_getElem? hn1)
   simpa using this
  (conv => whnf)
  refine V.st ?_
  rw [en]
  refine V.st ?_
  repeat ((try ((with_reducible refine .ext ?_); (conv => whnf))); (with_reducible refine jab (r := ?_) ?_ ?_); rotate_left; (focus (first | exact (jdP _ _ _))); (conv => whnf); refine V.st ?_)
  rw [ex]
  refine Cnd.split (CondB.mk (fun h => ?_) (fun h => ?_))
  ·have : okIdx size xs = false := by
    cases hb : okIdx size xs with
    | false => rfl
    | true =>
     have := (jbq.1 hb).2 k n x hn1 hx1
     simp at h; omega
   (conv => whnf)
   refine V.st ?_
   rw [this]
   exact Fin.of rfl
  ·(conv => whnf)
   refine V.st ?_
   simp only [jaz (xs := xs.take k) (by simp; omega)]
   refine V.st ?_
   simp only [jhS, jhT]
   rw [jfN hx1 (by omega)]
   exact ⟨k + 1, ⟨by omega, (by rw [List.take_add_one, List.take_add_one, hn1, hx1]; exact okIdx_step (n := n) (x := x) hI (by simp [List.length_take]; omega) (by simp at h; omega))⟩, by omega, V.wk⟩
 ·simp only [decide_eq_false_iff_not] at h
  rw [List.take_of_length_le (by omega), List.take_of_length_le (by omega)] at hI
  (conv => whnf)
  refine V.st ?_
  have hp4 : (pad4 xs).length = 4 := jaz (by omega)
  rw [List.take_of_length_le (by omega)]
  refine V.st ?_
  rw [hI]
  exact Fin.of rfl
theorem place_c (size : List Int) (out : Int) (data xs : List Int) (hg : jao size out data = true) (hx : xs.length = 4) (hi : ∀ (k : Nat) (n x : Int), size[k]? = some n → xs[k]? = some x → 0 ≤ x ∧ x ≤ n - 1) :
  Called Tryz.prog 71 [gridD size out data, .iarr .i64 xs] (.int .i64 (pz (size.zip xs) * out)) := by
 have hG := jbk hg
 have hb : ∀ k, k ≤ size.length → 0 ≤ pz ((size.zip xs).take k) ∧ pz ((size.zip xs).take k) + 1 ≤ 6561 := fun k hk => by
  have h1 := pz_bd (z := (size.zip xs).take k) (fun a ha => by
   obtain ⟨j, hj⟩ := List.getElem?_of_mem (List.mem_of_mem_take ha)
   rw [List.getElem?_zip_eq_some] at hj
   exact hi j _ _ hj.1 hj.2)
  have h2 := (jgQ hG.2.2.2.2.1 k).2.1 hG.2.1
  have h3 : ((size.zip xs).take k).map (·.1) = size.take k := by
   rw [List.map_take, List.map_fst_zip (by omega)]
  rw [h3] at h1
  omega
 have hb2 := hb size.length (by omega)
 rw [List.take_of_length_le (by simp; omega)] at hb2
 refine jaa tbOk 6 ⟨Tryz.func71, rfl, rfl, jhO rfl⟩ ?_
 (conv => whnf)
 refine V.st ?_
 refine lp_go (size.length) (fun k => True) (fun k => [(5, .int .i64 (pz ((size.zip xs).take k))), (12, .int .i64 k)]) (fun k => []) V.wk ?_ ?_
 ·trivial
 intro k hk _
 (conv => whnf)
 refine V.st ?_
 refine Cnd.split (CondB.mk (fun h => ?_) (fun h => ?_))
 ·simp only [decide_eq_true_eq] at h
  obtain ⟨n, hn1, en⟩ := getx (xs := size) (k := k) (by omega)
  obtain ⟨x, hx1, ex⟩ := getx (xs := xs) (k := k) (by omega)
  have hz : (size.zip xs)[k]? = some (n, x) := by rw [List.getElem?_zip_eq_some]; exact ⟨hn1, hx1⟩
  have hs : pz ((size.zip xs).take (k + 1)) = pz ((size.zip xs).take k) * n + x := by
   rw [List.take_add_one, hz]; simp [pz]
  have h1 := hb k (by omega)
  have h2 := hb (k + 1) (by omega)
  have h3 := hi k n x hn1 hx1
  rw [hs] at h2
  have h4 : 0 ≤ pz ((size.zip xs).take k) * n := jhR h1.1 (by omega)
  refine V.r0 (V.a3 en ex @jhS) ?_
  rw [← hs]
  exact ⟨k + 1, ⟨by omega, trivial⟩, by omega, V.wk⟩
 ·simp only [decide_eq_false_iff_not] at h
  rw [List.take_of_length_le (l := size.zip xs) (by simp; omega)]
  have hm : InR .i64 (pz (size.zip xs) * out) := by
   have h5 : 0 ≤ pz (size.zip xs) * out := jhR hb2.1 (by omega)
   have h6 : pz (size.zip xs) * out ≤ 6561 * 4 := Int.mul_le_mul (by omega) (by omega) (by omega) (by omega)
   simp only [V.InR, lo, V.hi]; omega
  (conv => whnf)
  refine V.st ?_
  exact Fin.same _
theorem pz_last {size : List Int} {out : Int} {data xs : List Int} (hg : jao size out data = true) (hx : size.length ≤ xs.length) (hi : ∀ (k : Nat) (n x : Int), size[k]? = some n → xs[k]? = some x → 0 ≤ x ∧ x ≤ n - 1) :
  0 ≤ pz (size.zip xs) * out ∧ pz (size.zip xs) * out + out ≤ data.length := by
 have hG := jbk hg
 have h1 := pz_bd (z := size.zip xs) (fun a ha => by
  obtain ⟨j, hj⟩ := List.getElem?_of_mem ha
  rw [List.getElem?_zip_eq_some] at hj
  exact hi j _ _ hj.1 hj.2)
 rw [List.map_fst_zip (by omega)] at h1
 refine ⟨jhR h1.1 (by omega), ?_⟩
 have h2 : (pz (size.zip xs) + 1) * out ≤ prod size * out := jhY h1.2 (by omega)
 rw [jie] at h2
 omega
def slot (data : List Int) (p out : Int) : List Int := (data.drop p.toNat).take out.toNat
theorem slot_copy {data : List Int} {p out : Int} (h1 : 0 ≤ p) (h2 : 0 ≤ out) (h3 : p + out ≤ data.length) :
  List.take out.toNat (V.setAt (List.replicate out.toNat 0) 0 (List.take out.toNat (List.drop p.toNat (List.take (p + out).toNat data)))) = slot data p out := by
 have e1 : List.take out.toNat (List.drop p.toNat (List.take (p + out).toNat data)) = slot data p out := by
  have : (p + out).toNat = p.toNat + out.toNat := by omega
  rw [this, List.drop_take, List.take_take]
  simp [slot]
 rw [e1]
 have hl : (slot data p out).length = out.toNat := by simp [slot]; omega
 unfold V.setAt
 rw [List.take_zero, List.nil_append, List.take_append_of_le_length (by omega), List.take_of_length_le (by omega)]
theorem values_c (size : List Int) (out : Int) (data xs : List Int) (hg : jao size out data = true) (hx : xs.length = 4) (hi : ∀ (k : Nat) (n x : Int), size[k]? = some n → xs[k]? = some x → 0 ≤ x ∧ x ≤ n - 1) :
  Called Tryz.prog 40 [gridD size out data, .iarr .i64 xs] (.ints .i64 (slot data (pz (size.zip xs) * out) out)) := by
 have hG := jbk hg
 have hp := pz_last hg (by omega) hi
 refine jaa tbOk 6 ⟨Tryz.func40, rfl, rfl, jhO rfl⟩ ?_
 (conv => whnf)
 refine V.st ?_
 repeat ((try ((with_reducible refine .ext ?_); (conv => whnf))); (with_reducible refine jab (r := ?_) ?_ ?_); rotate_left; (focus (first | exact (place_c _ _ _ _ hg hx hi))); (conv => whnf); refine V.st ?_)
 try refine And.intro (fun _ => ⟨by omega, by simp⟩) ?_
 (conv => whnf)
 refine V.st ?_
 exact Fin.of (by rw [slot_copy hp.1 (by omega) hp.2])
theorem jgI {data : List Int} {p out : Int} (h1 : 0 ≤ p) (h2 : 0 ≤ out) (h3 : p + out ≤ data.length) : (slot data p out).length = out.toNat := by
 simp [slot]; omega
theorem jem {size xs : List Int} (h : okIdx size xs = true) (h4 : size.length ≤ 4) : (pad4 xs).length = 4 ∧ ∀ (k : Nat) (n x : Int), size[k]? = some n → (pad4 xs)[k]? = some x → 0 ≤ x ∧ x ≤ n - 1 := by
 obtain ⟨h1, h2⟩ := jbq.1 h
 refine ⟨jaz (by omega), fun k n x hn hx => ?_⟩
 have hk := (List.getElem?_eq_some_iff.1 hn).1
 unfold pad4 at hx
 rw [List.getElem?_append_left (by omega)] at hx
 exact h2 k n x hn hx
theorem zip_pad {size xs : List Int} (h : okIdx size xs = true) : size.zip (pad4 xs) = size.zip xs := by
 obtain ⟨h1, h2⟩ := jbq.1 h
 unfold pad4
 have := List.zip_append (l₁ := size) (r₁ := ([] : List Int)) (l₂ := xs) (r₂ := List.replicate (4 - xs.length) 0) h1.symm
 simpa using this
theorem gat_c (size : List Int) (out : Int) (data xs : List Int) (hs : size.length ≤ 281474976710656) (hd : data.length ≤ 281474976710656) (hx : xs.length ≤ 281474976710656) :
  Called Tryz.prog 20 [gridD size out data, .ints .i64 xs] (.tup [.ints .i64 (if jao size out data && okIdx size xs then slot data (pz (size.zip xs) * out) out else []), .int .i64 (if jao size out data then (if okIdx size xs then 0 else 2) else 100)]) := by
 refine jaa tbOk 6 ⟨Tryz.func20, rfl, rfl, jhO rfl⟩ ?_
 (conv => whnf)
 refine V.st ?_
 repeat ((try ((with_reducible refine .ext ?_); (conv => whnf))); (with_reducible refine jab (r := ?_) ?_ ?_); rotate_left; (focus (first | exact (jeR _ _ _ hs hd))); (conv => whnf); refine V.st ?_)
 cases hg : jao size out data with
 | false =>
  refine Cnd.split (CondB.mk (fun h => ?_) (fun h => ?_))
  ·(conv => whnf)
   refine V.st ?_
   exact Fin.tup ⟨Fin.nil _, Fin.of rfl, trivial⟩
  ·simp at h
 | true =>
  have hG := jbk hg
  refine Cnd.split (CondB.mk (fun h => ?_) (fun h => ?_))
  ·simp at h
  have hpl : (if okIdx size xs = true then pad4 xs else [0, 0, 0, 0]).length = 4 := by
   split
   ·rename_i h; exact (jem h hG.2.1).1
   ·rfl
  (conv => whnf)
  refine V.st ?_
  repeat ((try ((with_reducible refine .ext ?_); (conv => whnf))); (with_reducible refine jab (r := ?_) ?_ ?_); rotate_left; (focus (first | exact (find_c _ _ _ _ hg hx))); (conv => whnf); refine V.st ?_)
  refine Cnd.split (CondB.mk (fun hi => ?_) (fun hi => ?_))
  ·have hi2 : okIdx size xs = false := by simpa using hi
   (conv => whnf)
   refine V.st ?_
   rw [hi2]
   exact Fin.tup ⟨Fin.nil _, Fin.of rfl, trivial⟩
  ·have hi2 : okIdx size xs = true := by simpa using hi
   obtain ⟨hp1, hp2⟩ := jem hi2 hG.2.1
   rw [hi2, if_pos rfl]
   (conv => whnf)
   refine V.st ?_
   repeat ((try ((with_reducible refine .ext ?_); (conv => whnf))); (with_reducible refine jab (r := ?_) ?_ ?_); rotate_left; (focus (first | exact (values_c _ _ _ _ hg hp1 hp2))); (conv => whnf); refine V.st ?_)
   rw [zip_pad hi2]
   exact Fin.of rfl
end Go.Proofs.YtgjgpdceghjajaaGreatDoor
end
section
namespace Go.Proofs.YtgjgpdceghjajaaGreatDoor
open Go Go.V Go.Nb
def smF (P : Nat → Rat) : Nat → Rat
 | 0 => P 0
 | k + 1 => smF P k + P (k + 1)
theorem fq_sm {P : Nat → Rat} {a : Nat} (h : ∀ k, Fq a (P k)) : ∀ k, Fq ((k + 1) * a + k) (smF P k)
 | 0 => (h 0).mono (by omega)
 | k + 1 => ((fq_sm h k).add (h (k + 1))).mono (by rw [Nat.add_mul (k + 1)]; omega)
def gvF (zs : List Int) (out : Int) (data : List Int) (j : Nat) (i k l : Int) : Rat := (((slot data (pz (zs.zip ([i, k, l].take zs.length)) * out) out).getD j 0 : Int) : Rat)
def evQ (zs : List Int) (out : Int) (data : List Int) (x0 x1 x2 : Rat) (j : Nat) : Rat := evF (zs.getD 0 2) (zs.getD 1 2) (zs.getD 2 2) (gvF zs out data j) x0 x1 x2 / 65535
theorem jaY {zs : List Int} {out : Int} {data : List Int} (h : jao zs out data = true) : (1 ≤ out ∧ out ≤ 4) ∧ (∀ z ∈ zs, 2 ≤ z ∧ z ≤ 9) ∧ ((data.length : Int) ≤ 4096 ∧ (data.length : Int) = prod zs * out) ∧ ∀ v ∈ data, 0 ≤ v ∧ v ≤ 65535 := by
 unfold jao at h
 simp only [jhN, decide_eq_true_eq, List.all_eq_true] at h
 exact ⟨h.1.1.1.2, h.1.1.2, h.1.2, h.2⟩
theorem jbO {l : List Int} {p : Int → Prop} (h : ∀ v ∈ l, p v) (h0 : p 0) (j : Nat) : p (l.getD j 0) := by
 by_cases hj : j < l.length
 ·rw [List.getD_eq_getElem?_getD, List.getElem?_eq_getElem hj]
  exact h _ (List.getElem_mem hj)
 ·rw [List.getD_eq_getElem?_getD, List.getElem?_eq_none (by omega)]
  exact h0
theorem jcY {data : List Int} (h : ∀ v ∈ data, 0 ≤ v ∧ v ≤ 65535) (p w : Int) (j : Nat) : 0 ≤ (slot data p w).getD j 0 ∧ (slot data p w).getD j 0 ≤ 65535 :=
 jbO (p := fun v => 0 ≤ v ∧ v ≤ 65535) (fun v hv => h v (List.mem_of_mem_drop (List.mem_of_mem_take hv))) (by omega) j
theorem gat_at {zs : List Int} {out : Int} {data xs : List Int} (h : jao zs out data = true) (hi : okIdx zs xs = true) (hl : zs.length ≤ 4) (hx : xs.length ≤ 4) : Called Tryz.prog 20 [gridD zs out data, .ints .i64 xs] (.tup [.ints .i64 (slot data (pz (zs.zip xs) * out) out), .int .i64 0]) := by
 have o := jaY h
 have c := gat_c zs out data xs (by omega) (by omega) (by omega)
 rw [h, hi] at c
 exact c
theorem jeb {zs : List Int} {out : Int} {data xs : List Int} (h : jao zs out data = true) (hi : okIdx zs xs = true) : (slot data (pz (zs.zip xs) * out) out).length = out.toNat := by
 have o := jaY h
 unfold okIdx at hi
 simp only [jhN, decide_eq_true_eq, List.all_eq_true] at hi
 have b := pz_bd hi.2
 have e : (zs.zip xs).map (·.1) = zs := List.map_fst_zip (by omega)
 rw [e] at b
 have h1 : 0 ≤ pz (zs.zip xs) * out := jhR b.1 (by omega)
 have h2 : pz (zs.zip xs) * out + out ≤ data.length := by
  rw [o.2.2.1.2]
  have := jhY b.2 (show 0 ≤ out by omega)
  rw [jie, jif] at this
  exact this
 exact jgI h1 (by omega) h2
theorem ord3_mem (r0 r1 r2 : Rat) : ord3 r0 r1 r2 = [0, 1, 2] ∨ ord3 r0 r1 r2 = [0, 2, 1] ∨ ord3 r0 r1 r2 = [1, 0, 2] ∨ ord3 r0 r1 r2 = [1, 2, 0] ∨ ord3 r0 r1 r2 = [2, 0, 1] ∨ ord3 r0 r1 r2 = [2, 1, 0] := by
 unfold ord3
 repeat' split
 all_goals simp
theorem ord2_mem (r0 r1 : Rat) : ord2 r0 r1 = [0, 1] ∨ ord2 r0 r1 = [1, 0] := by
 unfold ord2
 split
 ·exact .inr rfl
 ·exact .inl rfl
theorem sp_20 : spB 2 0 = 0 ∧ spR 2 0 = 0 := by decide +kernel
theorem ord3_20 {r0 r1 : Rat} (h0 : 0 ≤ r0) (h1 : 0 ≤ r1) : ord3 r0 r1 0 = ord2 r0 r1 ++ [2] := by
 have g0 : ¬ r0 < 0 := Rat.not_lt.2 h0
 have g1 : ¬ r1 < 0 := Rat.not_lt.2 h1
 unfold ord3 ord2
 by_cases h : r0 < r1
 ·rw [if_pos h, if_neg g0, if_pos h]; rfl
 ·rw [if_neg h, if_neg g1, if_neg h]; rfl
theorem spR_nn {s : Int} (hs : 2 ≤ s) (x : Rat) : 0 ≤ spR s x := by
 have h := (Rat.le_floor_iff (x := (gp s x).floor) (a := gp s x)).1 (Int.le_refl _)
 have g : ((spB s x : Int) : Rat) ≤ (((gp s x).floor : Int) : Rat) := Rat.intCast_le_intCast.2 (by unfold spB; omega)
 unfold spR
 grind
theorem jbz : (65535 : Int).natAbs < 10 ^ 5 := by decide
theorem jdh : ((65535 : Int) : Rat).num ≠ 0 := by decide
theorem valU2 (z0 z1 b0 b1 out : Int) (data O : List Int) (rq : Nat → Rat) (fr : ∀ k, Fq 43 (rq k)) (U : Nat → List Int) (ho : 1 ≤ out ∧ out ≤ 4) (hU : ∀ k, k < 3 → (U k).length = out.toNat ∧ ∀ j, 0 ≤ (U k).getD j 0 ∧ (U k).getD j 0 ≤ 65535) (hl : O.length = 2) (hx : ∀ k, k < 2 → 0 ≤ O.getD k 0 ∧ O.getD k 0 < 4) (hi : ∀ k, k < 2 → InR .i64 ((atK [b0, b1, 0, 0] O k).getD (O.getD k 0).toNat 0 + 1))
  (pt : ∀ k, k < 3 → Called Tryz.prog 80 [.agg [.ints .i64 [z0, z1], .int .i64 out, .ints .i64 data, .ints .i64 [b0, b1], .ints .i64 O, slQ (fun k => txq (wqN rq O 2 k)) 3], .iarr .i64 (atK [b0, b1, 0, 0] O k)] (.tup [.ints .i64 (U k), .int .i64 0])) :
  Called Tryz.prog 45 [.agg [.ints .i64 [z0, z1], .int .i64 out, .ints .i64 data, .ints .i64 [b0, b1], .ints .i64 O, slQ (fun k => txq (wqN rq O 2 k)) 3]] (.tup [slQ (fun j => txq (smF (fun k => wqN rq O 2 k * (((U k).getD j 0 : Int) : Rat)) 2 / 65535)) out.toNat, .int .i64 0]) := by
 have v1 : ∀ j : Nat, j < out.toNat → Called Tryz.prog 83 [.int .i64 (j : Int), .ref [.slf 1 3 (fun j => List.take 1 (List.drop (j * 1) [.ints .i64 (U 0), .ints .i64 (U 1), .ints .i64 (U 2)]))], .ref [slQ (fun k => txq (wqN rq O 2 k)) 3]] (.tup [frT (smF (fun k => wqN rq O 2 k * (((U k).getD j 0 : Int) : Rat)) 2 / 65535), .int .i64 0]) := by
  intro j hj
  have fu := jar (n := 65535) (by omega)
  have fm : ∀ k, k < 3 → Fq 92 (wqN rq O 2 k * (((U k).getD j 0 : Int) : Rat)) := fun k hk => (fq_wq fr O 2 k).mul (jba (n := 5) (by have := (hU k hk).2 j; omega) (by omega))
  have i0 := jar (n := (U 0).getD j 0) (by have := (hU 0 (by omega)).2 j; omega)
  have u0 := zmul (fq_wq fr O 2 0) (jba (n := 5) (z := (U 0).getD j 0) (by have := (hU 0 (by omega)).2 j; omega) (by omega)) (by decide) (by decide) (by decide)
  have m0 := prod3_0 (fun k => txq (wqN rq O 2 k)) (fun k => txq (wqN rq O 2 k * (((U k).getD j 0 : Int) : Rat))) U j _ _ (by rw [(hU 0 (by omega)).1]; exact hj) i0 u0
  have i1 := jar (n := (U 1).getD j 0) (by have := (hU 1 (by omega)).2 j; omega)
  have u1 := zmul (fq_wq fr O 2 1) (jba (n := 5) (z := (U 1).getD j 0) (by have := (hU 1 (by omega)).2 j; omega) (by omega)) (by decide) (by decide) (by decide)
  have m1 := prod3_1 (fun k => txq (wqN rq O 2 k)) (fun k => txq (wqN rq O 2 k * (((U k).getD j 0 : Int) : Rat))) U j _ _ (by rw [(hU 1 (by omega)).1]; exact hj) i1 u1
  have i2 := jar (n := (U 2).getD j 0) (by have := (hU 2 (by omega)).2 j; omega)
  have u2 := zmul (fq_wq fr O 2 2) (jba (n := 5) (z := (U 2).getD j 0) (by have := (hU 2 (by omega)).2 j; omega) (by omega)) (by decide) (by decide) (by decide)
  have m2 := prod3_2 (fun k => txq (wqN rq O 2 k)) (fun k => txq (wqN rq O 2 k * (((U k).getD j 0 : Int) : Rat))) U j _ _ (by rw [(hU 2 (by omega)).1]; exact hj) i2 u2
  have li := list3_3 (fun k => txq (wqN rq O 2 k * (((U k).getD j 0 : Int) : Rat))) m0 m1 m2
  have s0 : Fq 92 (smF (fun k => wqN rq O 2 k * (((U k).getD j 0 : Int) : Rat)) 0) := fm 0 (by omega)
  have s1 : Fq 185 (smF (fun k => wqN rq O 2 k * (((U k).getD j 0 : Int) : Rat)) 1) := s0.add (fm 1 (by omega))
  have s2 : Fq 278 (smF (fun k => wqN rq O 2 k * (((U k).getD j 0 : Int) : Rat)) 2) := s1.add (fm 2 (by omega))
  have su := sum3 (fun k => txq (wqN rq O 2 k * (((U k).getD j 0 : Int) : Rat))) (fun k => txq (smF (fun k => wqN rq O 2 k * (((U k).getD j 0 : Int) : Rat)) k)) rfl (zadd s0 (fm 1 (by omega)) (by decide) (by decide) (by decide)) (zadd s1 (fm 2 (by omega)) (by decide) (by decide) (by decide))
  have dv := zdiv s2 (jba (n := 5) (z := 65535) jbz (by decide)) jdh (by decide) (by decide) (by decide)
  rw [show ((65535 : Int) : Rat) = 65535 from rfl] at fu dv
  exact val1_3 (fun k => txq (wqN rq O 2 k)) (fun k => txq (wqN rq O 2 k * (((U k).getD j 0 : Int) : Rat))) (fun k => txq (smF (fun k => wqN rq O 2 k * (((U k).getD j 0 : Int) : Rat)) k)) U j _ _ _ _ li su fu dv
 refine value2_t z0 z1 b0 b1 out data O (fun k => txq (wqN rq O 2 k)) U _ _ hl hx hi pt ?_
 have h4 : out = 1 ∨ out = 2 ∨ out = 3 ∨ out = 4 := by omega
 rcases h4 with e | e | e | e <;> subst e
 ·exact list1_2 (z := 0) (fun j => txq (smF (fun k => wqN rq O 2 k * (((U k).getD j 0 : Int) : Rat)) 2 / 65535)) (v1 0 (by decide))
 ·exact list2_2 (z := 0) (fun j => txq (smF (fun k => wqN rq O 2 k * (((U k).getD j 0 : Int) : Rat)) 2 / 65535)) (v1 0 (by decide)) (v1 1 (by decide))
 ·exact list3_2 (z := 0) (fun j => txq (smF (fun k => wqN rq O 2 k * (((U k).getD j 0 : Int) : Rat)) 2 / 65535)) (v1 0 (by decide)) (v1 1 (by decide)) (v1 2 (by decide))
 ·exact list4_2 (z := 0) (fun j => txq (smF (fun k => wqN rq O 2 k * (((U k).getD j 0 : Int) : Rat)) 2 / 65535)) (v1 0 (by decide)) (v1 1 (by decide)) (v1 2 (by decide)) (v1 3 (by decide))
theorem valU3 (z0 z1 z2 b0 b1 b2 out : Int) (data O : List Int) (rq : Nat → Rat) (fr : ∀ k, Fq 43 (rq k)) (U : Nat → List Int) (ho : 1 ≤ out ∧ out ≤ 4) (hU : ∀ k, k < 4 → (U k).length = out.toNat ∧ ∀ j, 0 ≤ (U k).getD j 0 ∧ (U k).getD j 0 ≤ 65535) (hl : O.length = 3) (hx : ∀ k, k < 3 → 0 ≤ O.getD k 0 ∧ O.getD k 0 < 4) (hi : ∀ k, k < 3 → InR .i64 ((atK [b0, b1, b2, 0] O k).getD (O.getD k 0).toNat 0 + 1))
  (pt : ∀ k, k < 4 → Called Tryz.prog 80 [.agg [.ints .i64 [z0, z1, z2], .int .i64 out, .ints .i64 data, .ints .i64 [b0, b1, b2], .ints .i64 O, slQ (fun k => txq (wqN rq O 3 k)) 4], .iarr .i64 (atK [b0, b1, b2, 0] O k)] (.tup [.ints .i64 (U k), .int .i64 0])) :
  Called Tryz.prog 45 [.agg [.ints .i64 [z0, z1, z2], .int .i64 out, .ints .i64 data, .ints .i64 [b0, b1, b2], .ints .i64 O, slQ (fun k => txq (wqN rq O 3 k)) 4]] (.tup [slQ (fun j => txq (smF (fun k => wqN rq O 3 k * (((U k).getD j 0 : Int) : Rat)) 3 / 65535)) out.toNat, .int .i64 0]) := by
 have v1 : ∀ j : Nat, j < out.toNat → Called Tryz.prog 83 [.int .i64 (j : Int), .ref [.slf 1 4 (fun j => List.take 1 (List.drop (j * 1) [.ints .i64 (U 0), .ints .i64 (U 1), .ints .i64 (U 2), .ints .i64 (U 3)]))], .ref [slQ (fun k => txq (wqN rq O 3 k)) 4]] (.tup [frT (smF (fun k => wqN rq O 3 k * (((U k).getD j 0 : Int) : Rat)) 3 / 65535), .int .i64 0]) := by
  intro j hj
  have fu := jar (n := 65535) (by omega)
  have fm : ∀ k, k < 4 → Fq 92 (wqN rq O 3 k * (((U k).getD j 0 : Int) : Rat)) := fun k hk => (fq_wq fr O 3 k).mul (jba (n := 5) (by have := (hU k hk).2 j; omega) (by omega))
  have i0 := jar (n := (U 0).getD j 0) (by have := (hU 0 (by omega)).2 j; omega)
  have u0 := zmul (fq_wq fr O 3 0) (jba (n := 5) (z := (U 0).getD j 0) (by have := (hU 0 (by omega)).2 j; omega) (by omega)) (by decide) (by decide) (by decide)
  have m0 := prod4_0 (fun k => txq (wqN rq O 3 k)) (fun k => txq (wqN rq O 3 k * (((U k).getD j 0 : Int) : Rat))) U j _ _ (by rw [(hU 0 (by omega)).1]; exact hj) i0 u0
  have i1 := jar (n := (U 1).getD j 0) (by have := (hU 1 (by omega)).2 j; omega)
  have u1 := zmul (fq_wq fr O 3 1) (jba (n := 5) (z := (U 1).getD j 0) (by have := (hU 1 (by omega)).2 j; omega) (by omega)) (by decide) (by decide) (by decide)
  have m1 := prod4_1 (fun k => txq (wqN rq O 3 k)) (fun k => txq (wqN rq O 3 k * (((U k).getD j 0 : Int) : Rat))) U j _ _ (by rw [(hU 1 (by omega)).1]; exact hj) i1 u1
  have i2 := jar (n := (U 2).getD j 0) (by have := (hU 2 (by omega)).2 j; omega)
  have u2 := zmul (fq_wq fr O 3 2) (jba (n := 5) (z := (U 2).getD j 0) (by have := (hU 2 (by omega)).2 j; omega) (by omega)) (by decide) (by decide) (by decide)
  have m2 := prod4_2 (fun k => txq (wqN rq O 3 k)) (fun k => txq (wqN rq O 3 k * (((U k).getD j 0 : Int) : Rat))) U j _ _ (by rw [(hU 2 (by omega)).1]; exact hj) i2 u2
  have i3 := jar (n := (U 3).getD j 0) (by have := (hU 3 (by omega)).2 j; omega)
  have u3 := zmul (fq_wq fr O 3 3) (jba (n := 5) (z := (U 3).getD j 0) (by have := (hU 3 (by omega)).2 j; omega) (by omega)) (by decide) (by decide) (by decide)
  have m3 := prod4_3 (fun k => txq (wqN rq O 3 k)) (fun k => txq (wqN rq O 3 k * (((U k).getD j 0 : Int) : Rat))) U j _ _ (by rw [(hU 3 (by omega)).1]; exact hj) i3 u3
  have li := list4_3 (fun k => txq (wqN rq O 3 k * (((U k).getD j 0 : Int) : Rat))) m0 m1 m2 m3
  have s0 : Fq 92 (smF (fun k => wqN rq O 3 k * (((U k).getD j 0 : Int) : Rat)) 0) := fm 0 (by omega)
  have s1 : Fq 185 (smF (fun k => wqN rq O 3 k * (((U k).getD j 0 : Int) : Rat)) 1) := s0.add (fm 1 (by omega))
  have s2 : Fq 278 (smF (fun k => wqN rq O 3 k * (((U k).getD j 0 : Int) : Rat)) 2) := s1.add (fm 2 (by omega))
  have s3 : Fq 371 (smF (fun k => wqN rq O 3 k * (((U k).getD j 0 : Int) : Rat)) 3) := s2.add (fm 3 (by omega))
  have su := sum4 (fun k => txq (wqN rq O 3 k * (((U k).getD j 0 : Int) : Rat))) (fun k => txq (smF (fun k => wqN rq O 3 k * (((U k).getD j 0 : Int) : Rat)) k)) rfl (zadd s0 (fm 1 (by omega)) (by decide) (by decide) (by decide)) (zadd s1 (fm 2 (by omega)) (by decide) (by decide) (by decide)) (zadd s2 (fm 3 (by omega)) (by decide) (by decide) (by decide))
  have dv := zdiv s3 (jba (n := 5) (z := 65535) jbz (by decide)) jdh (by decide) (by decide) (by decide)
  rw [show ((65535 : Int) : Rat) = 65535 from rfl] at fu dv
  exact val1_4 (fun k => txq (wqN rq O 3 k)) (fun k => txq (wqN rq O 3 k * (((U k).getD j 0 : Int) : Rat))) (fun k => txq (smF (fun k => wqN rq O 3 k * (((U k).getD j 0 : Int) : Rat)) k)) U j _ _ _ _ li su fu dv
 refine value3_t z0 z1 z2 b0 b1 b2 out data O (fun k => txq (wqN rq O 3 k)) U _ _ hl hx hi pt ?_
 have h4 : out = 1 ∨ out = 2 ∨ out = 3 ∨ out = 4 := by omega
 rcases h4 with e | e | e | e <;> subst e
 ·exact list1_2 (z := 0) (fun j => txq (smF (fun k => wqN rq O 3 k * (((U k).getD j 0 : Int) : Rat)) 3 / 65535)) (v1 0 (by decide))
 ·exact list2_2 (z := 0) (fun j => txq (smF (fun k => wqN rq O 3 k * (((U k).getD j 0 : Int) : Rat)) 3 / 65535)) (v1 0 (by decide)) (v1 1 (by decide))
 ·exact list3_2 (z := 0) (fun j => txq (smF (fun k => wqN rq O 3 k * (((U k).getD j 0 : Int) : Rat)) 3 / 65535)) (v1 0 (by decide)) (v1 1 (by decide)) (v1 2 (by decide))
 ·exact list4_2 (z := 0) (fun j => txq (smF (fun k => wqN rq O 3 k * (((U k).getD j 0 : Int) : Rat)) 3 / 65535)) (v1 0 (by decide)) (v1 1 (by decide)) (v1 2 (by decide)) (v1 3 (by decide))
end Go.Proofs.YtgjgpdceghjajaaGreatDoor
end
section
namespace Go.Gr
def PR : List Nat → Nat
 | [] => 1
 | n :: r => n * PR r
def ixl : List Nat → Nat → List Int
 | [], _ => []
 | n :: r, m => ((m / PR r % n : Nat) : Int) :: ixl r m
theorem jeW {ns : List Nat} (h : ∀ n ∈ ns, 0 < n) : 0 < PR ns := by
 induction ns with
 | nil => decide
 | cons n r ih => exact Nat.mul_pos (h n (by simp)) (ih fun x hx => h x (by simp [hx]))
theorem jaw (ns : List Nat) (m : Nat) : (ixl ns m).length = ns.length := by
 induction ns with
 | nil => rfl
 | cons n r ih => simp [ixl, ih]
theorem jes (ns : List Nat) (m i n : Nat) (h : ns[i]? = some n) : (ixl ns m)[i]? = some ((m / PR (ns.drop (i + 1)) % n : Nat) : Int) := by
 induction ns generalizing i with
 | nil => simp at h
 | cons a r ih =>
  cases i with
  | zero => simp at h; subst h; simp [ixl]
  | succ i => simpa [ixl] using ih i (by simpa using h)
theorem jg6 (ns : List Nat) (hp : ∀ n ∈ ns, 0 < n) (m : Nat) : ixl ns (m % PR ns) = ixl ns m := by
 induction ns generalizing m with
 | nil => rfl
 | cons n r ih =>
  have hr : ∀ x ∈ r, 0 < x := fun x hx => hp x (by simp [hx])
  have h1 := jeW hr
  simp only [ixl, PR]
  have e1 : m % (n * PR r) / PR r % n = m / PR r % n := by
   rw [jhW, Nat.mod_mul_right_div_self, Nat.mod_mod]
  have e2 : ixl r (m % (n * PR r)) = ixl r m := by
   rw [← ih hr (m % (n * PR r)), Nat.mod_mul_left_mod, ih hr]
  rw [e1, e2]
theorem jdY (ns : List Nat) (hp : ∀ n ∈ ns, 0 < n) (m : Nat) (h : m % PR ns = PR ns - 1) : ixl ns m = ns.map fun n : Nat => (n : Int) - 1 := by
 induction ns generalizing m with
 | nil => rfl
 | cons n r ih =>
  have hr : ∀ x ∈ r, 0 < x := fun x hx => hp x (by simp [hx])
  have hn : 0 < n := hp n (by simp)
  have h1 := jeW hr
  simp only [PR] at h
  rw [jhW, Nat.mod_mul] at h
  have h2 := Nat.mod_lt m h1
  have h3 := Nat.mod_lt (m / PR r) hn
  have h4 : PR r * (m / PR r % n) + m % PR r = PR r * (n - 1) + (PR r - 1) := by
   have : PR r * n = PR r * (n - 1) + PR r := by
    obtain ⟨k, rfl⟩ : ∃ k, n = k + 1 := ⟨n - 1, by omega⟩
    simp [Nat.mul_add]
   omega
  have h5 : m / PR r % n = n - 1 := by
   have e := congrArg (· / PR r) h4
   simp only [Nat.mul_add_div h1] at e
   rw [Nat.div_eq_of_lt h2, Nat.div_eq_of_lt (by omega : PR r - 1 < PR r)] at e
   omega
  have h6 : m % PR r = PR r - 1 := by rw [h5] at h4; omega
  simp only [ixl, List.map_cons, h5, ih hr m h6]
  congr 1
  omega
theorem jdW (ns : List Nat) (hp : ∀ n ∈ ns, 0 < n) (m : Nat) (h : ixl ns m = ns.map fun n : Nat => (n : Int) - 1) : m % PR ns = PR ns - 1 := by
 induction ns generalizing m with
 | nil => simp [PR, Nat.mod_one]
 | cons n r ih =>
  have hr : ∀ x ∈ r, 0 < x := fun x hx => hp x (by simp [hx])
  have hn : 0 < n := hp n (by simp)
  have h1 := jeW hr
  simp only [ixl, List.map_cons, List.cons.injEq] at h
  have h2 := ih hr m h.2
  have h3 : m / PR r % n = n - 1 := by omega
  simp only [PR]
  rw [jhW, Nat.mod_mul, h2, h3]
  obtain ⟨k, rfl⟩ : ∃ k, n = k + 1 := ⟨n - 1, by omega⟩
  simp [Nat.mul_add]; omega
theorem jdI (ns : List Nat) (hp : ∀ n ∈ ns, 0 < n) (m : Nat) (h : m % PR ns = 0) : ixl ns m = List.replicate ns.length 0 := by
 rw [← jg6 ns hp m, h]
 clear h
 induction ns with
 | nil => rfl
 | cons n r ih => simp only [ixl, Nat.zero_div, Nat.zero_mod, List.length_cons, List.replicate_succ, ih fun x hx => hp x (by simp [hx])]; rfl
theorem succ_div {m P : Nat} (hP : 0 < P) (h : m % P ≠ P - 1) : (m + 1) / P = m / P := by
 have h2 := Nat.mod_lt m hP
 have h3 := Nat.div_add_mod m P
 have : m + 1 = P * (m / P) + (m % P + 1) := by omega
 rw [this, Nat.mul_add_div hP, Nat.div_eq_of_lt (by omega : m % P + 1 < P)]
 omega
theorem jfB {m P : Nat} (hP : 0 < P) (h : m % P = P - 1) : (m + 1) / P = m / P + 1 ∧ (m + 1) % P = 0 := by
 have h3 := Nat.div_add_mod m P
 have : m + 1 = P * (m / P + 1) := by rw [Nat.mul_add]; omega
 rw [this, Nat.mul_div_cancel_left _ hP, Nat.mul_mod_right]
 exact ⟨rfl, rfl⟩
theorem mod_succ {a n : Nat} (hn : 0 < n) (h : a % n ≠ n - 1) : (a + 1) % n = a % n + 1 := by
 have h2 := Nat.mod_lt a hn
 have h3 := Nat.div_add_mod a n
 have : a + 1 = n * (a / n) + (a % n + 1) := by omega
 rw [this, Nat.mul_add_mod, jhX (by omega : a % n + 1 < n)]
theorem jfV (ns : List Nat) (hp : ∀ n ∈ ns, 0 < n) (m j n : Nat) (hj : ns[j]? = some n) (x : Int) (hx : (ixl ns m)[j]? = some x)
  (h1 : (ixl ns m).drop (j + 1) = (ns.drop (j + 1)).map fun n : Nat => (n : Int) - 1) (h2 : x ≠ (n : Int) - 1) : ixl ns (m + 1) = (ixl ns m).take j ++ (x + 1) :: List.replicate (ns.length - (j + 1)) 0 := by
 induction ns generalizing j with
 | nil => simp at hj
 | cons a r ih =>
  have hr : ∀ y ∈ r, 0 < y := fun y hy => hp y (by simp [hy])
  have ha : 0 < a := hp a (by simp)
  have hP := jeW hr
  cases j with
  | zero =>
   simp at hj hx
   subst hj
   simp [ixl] at h1 hx
   have h3 := jdW r hr m h1
   have h4 := jfB hP h3
   have h5 := jdI r hr _ h4.2
   simp only [ixl, h4.1, h5]
   have h6 : m / PR r % a ≠ a - 1 := fun e => by
    apply h2
    rw [← hx, ← Int.natCast_ediv, ← Int.natCast_emod, e]
    omega
   rw [mod_succ ha h6]
   subst hx
   simp
  | succ j =>
   have hj' : r[j]? = some n := by simpa using hj
   have hx' : (ixl r m)[j]? = some x := by simpa [ixl] using hx
   have h1' : (ixl r m).drop (j + 1) = (r.drop (j + 1)).map fun n : Nat => (n : Int) - 1 := by simpa [ixl] using h1
   have h3 : m % PR r ≠ PR r - 1 := fun e => by
    have := jdY r hr m e
    rw [this] at hx'
    simp [hj'] at hx'
    omega
   have h4 := ih hr j hj' hx' h1'
   simp only [ixl, succ_div hP h3, h4, List.take_succ_cons, List.cons_append, List.length_cons]
   congr 2
   simp
theorem pz_ixl_aux (ns : List Nat) (hp : ∀ n ∈ ns, 0 < n) (m : Nat) (p : Int) : ((ns.map fun n : Nat => (n : Int)).zip (ixl ns m)).foldl (fun p a => p * a.1 + a.2) p = p * (PR ns : Int) + ((m % PR ns : Nat) : Int) := by
 induction ns generalizing p with
 | nil => simp [ixl, PR, Nat.mod_one]
 | cons n r ih =>
  have hr : ∀ x ∈ r, 0 < x := fun x hx => hp x (by simp [hx])
  simp only [ixl, List.map_cons, List.zip_cons_cons, List.foldl_cons, PR]
  rw [ih hr, jhW n, Nat.mod_mul]
  simp only [Int.natCast_add, jh3, jie, jh6]
  rw [jh5 (PR r : Int) (n : Int), jh5 (PR r : Int) _]
  omega
def swp (l : List Int) (a b : Nat) : List Int := (l.set a (l.getD b 0)).set b (l.getD a 0)
def swn (l : List Nat) (a b : Nat) : List Nat := (l.set a (l.getD b 0)).set b (l.getD a 0)
end Go.Gr
end
section
namespace Go.Proofs.YtgjgpdceghjajaaGreatDoor
open Go Go.V Go.Gr
def nz (ns : List Nat) : List Int := ns.map fun n : Nat => (n : Int)
theorem jfK (ns : List Nat) : prod (nz ns) = (PR ns : Nat) := by
 have h : ∀ (l : List Nat) (q : Int), (nz l).foldl (· * ·) q = q * (PR l : Nat) := by
  intro l
  induction l with
  | nil => intro q; simp [nz, PR]
  | cons x l ih =>
   intro q
   have := ih (q * x)
   simp only [nz, List.map_cons, List.foldl_cons, PR] at this ⊢
   rw [this, jh3, jh6]
 have := h ns 1
 simpa [prod] using this
def rl (lt : Int → Int → Bool) (data : List Int) (w : Nat) : Nat → List Int
 | 0 => slot data 0 w
 | i + 1 => (rl lt data w i).set (i % w) (if lt (data.getD i 0) ((rl lt data w i).getD (i % w) 0) then data.getD i 0 else (rl lt data w i).getD (i % w) 0)
theorem jee {lt : Int → Int → Bool} {data : List Int} {w : Nat} (h : w ≤ data.length) (i : Nat) : (rl lt data w i).length = w := by
 induction i with
 | zero => simp [rl, slot]; omega
 | succ i ih => simp [rl, ih]
theorem index_step {ns : List Nat} {m p n : Nat} (hn : ns[p]? = some n) (hp : p < ns.length) :
  (List.replicate (p + 1) (0 : Int) ++ (ixl ns m).drop (p + 1)).set p ((m / PR (ns.drop (p + 1)) % n : Nat) : Int) = List.replicate p 0 ++ (ixl ns m).drop p ∧ m / PR (ns.drop (p + 1)) / n = m / PR (ns.drop p) := by
 have hx := jes ns m p n hn
 constructor
 ·rw [List.set_append_left _ _ (by simp), List.replicate_succ', List.set_append_right _ _ (by simp)]
  rw [List.drop_eq_getElem_cons (i := p) (by rw [jaw]; exact hp)]
  have := (List.getElem?_eq_some_iff.1 hx).2
  rw [this]
  simp
 ·have hd : ns.drop p = n :: ns.drop (p + 1) := by
   rw [List.drop_eq_getElem_cons hp]
   rw [(List.getElem?_eq_some_iff.1 hn).2]
  rw [hd, PR, Nat.div_div_eq_div_mul, jhW]
theorem rindex_c (ns : List Nat) (m : Nat) (hp : ∀ n ∈ ns, 0 < n ∧ n ≤ 1000000) (hl : ns.length ≤ 10000) (hm : m ≤ 1000000000) : Called Tryz.prog 24 [.ints .i64 (nz ns), .int .i64 m] (.ints .i64 (ixl ns m)) := by
 have hlen : (nz ns).length = ns.length := by simp [nz]
 refine jaa tbOk 6 ⟨Tryz.func24, rfl, rfl, jhO rfl⟩ ?_
 (conv => whnf)
 refine V.r0 (V.a2 hlen @jhT) ?_
 have e0 : List.replicate ns.length (0 : Int) = List.replicate ns.length 0 ++ (ixl ns m).drop ns.length := by
  rw [List.drop_of_length_le (by rw [jaw]; omega), List.append_nil]
 have e1 : (m : Int) = ((m / PR (ns.drop ns.length) : Nat) : Int) := by simp [PR]
 refine jah (ns.length) (fun k => k ≤ ns.length) (fun k => k) (fun k => [(1, .int .i64 ((m / PR (ns.drop k) : Nat) : Int)), (6, .int .i64 ((k : Int) - 1))]) (fun k => [(9, .arr .i64 (List.replicate k 0 ++ (ixl ns m).drop k))]) ?_ ?_ ?_
 ·rw [← e0, ← e1]
  exact V.wk
 ·exact jhU _
 intro p hpl
 (conv => whnf)
 refine V.st ?_
 refine Cnd.split (CondB.mk (fun h => ?_) (fun h => ?_))
 ·have hp0 : 0 < p := by simp at h; omega
  obtain ⟨p, rfl⟩ : ∃ q, p = q + 1 := ⟨p - 1, by omega⟩
  have hp1 : p < ns.length := by omega
  obtain ⟨n, hn⟩ : ∃ n, ns[p]? = some n := ⟨ns[p], List.getElem?_eq_getElem hp1⟩
  have hn0 := hp n (List.mem_of_getElem? hn)
  have en : (nz ns).getD p 0 = n := by simp [nz, List.getD_eq_getElem?_getD, hn]
  have e2 : (((p + 1 : Nat) : Int) - 1) = (p : Int) := by omega
  have hst := index_step (m := m) hn hp1
  have e3 : ((m / PR (ns.drop (p + 1)) : Nat) : Int) % (n : Int) = ((m / PR (ns.drop (p + 1)) % n : Nat) : Int) := by simp
  have e4 : ((m / PR (ns.drop (p + 1)) : Nat) : Int) / (n : Int) = ((m / PR (ns.drop p) : Nat) : Int) := by rw [← hst.2]; simp
  have hl2 : (List.replicate (p + 1) (0 : Int) ++ (ixl ns m).drop (p + 1)).length = ns.length := by simp [jaw]; omega
  have hl3 : m / PR (ns.drop (p + 1)) ≤ m := jia _ _
  generalize hq : m / PR (ns.drop (p + 1)) = q at *
  refine V.r0 (V.a5 hlen e2 en @jhT @jhS) ?_
  rw [e3, hst.1]
  refine V.st ?_
  rw [e4]
  exact ⟨p, by omega, by omega, V.wk⟩
 ·have hp0 : p = 0 := by simp at h; omega
  subst hp0
  (conv => whnf)
  refine V.st ?_
  have h0 : (List.replicate 0 (0 : Int) ++ (ixl ns m).drop 0) = ixl ns m := by simp
  have hli := jaw ns m
  rw [h0]
  refine Fin.of ?_
  rw [List.take_of_length_le (by rw [hli]; simp)]
def lastL (ns : List Nat) : List Int := ns.map fun n : Nat => (n : Int) - 1
def flat (ns : List Nat) (f : Nat → List Int) (m : Nat) : List Int := (List.range m).flatMap f
theorem jb4 (ns : List Nat) (f : Nat → List Int) (m : Nat) : flat ns f (m + 1) = flat ns f m ++ f m := by
 simp [flat, List.range_succ]
theorem jfX {ns : List Nat} {f : Nat → List Int} {m : Nat} (h : ∀ j, j < m → (f j).length ≤ 4) : (flat ns f m).length ≤ 4 * m := by
 induction m with
 | zero => simp [flat]
 | succ m ih =>
  rw [jb4, List.length_append]
  have h1 := ih fun j hj => h j (by omega)
  have h2 := h m (by omega)
  omega
theorem PR_le {ns : List Nat} (h1 : ns.length ≤ 4) (h2 : ∀ n ∈ ns, 2 ≤ n ∧ n ≤ 9) : PR ns ≤ 6561 := by
 have hb : ∀ l : List Nat, (∀ n ∈ l, 2 ≤ n ∧ n ≤ 9) → PR l ≤ 9 ^ l.length := by
  intro l
  induction l with
  | nil => intro _; decide
  | cons x l ih =>
   intro hl
   have h3 := ih fun n hn => hl n (by simp [hn])
   have h4 := hl x (by simp)
   rw [PR, List.length_cons, Nat.pow_succ, jhW]
   exact Nat.mul_le_mul h3 h4.2
 exact jh1 (hb ns h2) (jh9 (by omega) h1)
theorem ixl_pad0 {ns : List Nat} (h1 : 1 ≤ ns.length ∧ ns.length ≤ 4) (h2 : ∀ n ∈ ns, 2 ≤ n ∧ n ≤ 9) : pad4 (ixl ns 0) = [0, 0, 0, 0] := by
 rw [jdI ns (fun n hn => by have := h2 n hn; omega) 0 (Nat.zero_mod _)]
 unfold pad4
 rw [List.length_replicate, ← List.replicate_append_replicate.symm]
 have : ns.length + (4 - ns.length) = 4 := by omega
 simp [this]
theorem jfO {a b : List Int} (h : a.length = b.length) (e : pad4 a = pad4 b) : a = b := (List.append_inj e h).1
theorem jcd {l : List Int} {p k : Nat} {x : Int} (h : l[p]? = some x) (hk : p < k) (hl : l.length ≤ 4) : (pad4 (l.take k)).getD p 0 = x := by
 have hp := (List.getElem?_eq_some_iff.1 h).1
 unfold pad4
 rw [List.getD_eq_getElem?_getD, List.getElem?_append_left (by simp; omega), List.getElem?_take_of_lt hk, h]
 rfl
theorem jda {l : List Int} {p : Nat} {x y : Int} (h : l[p]? = some x) (h1 : p < l.length) (hl : l.length ≤ 4) : (pad4 (l.take (p + 1))).set p y = pad4 (l.take p ++ y :: List.replicate (l.length - (p + 1)) 0) := by
 unfold pad4
 have e1 : (l.take (p + 1)).length = p + 1 := by simp; omega
 have e2 : (l.take p ++ y :: List.replicate (l.length - (p + 1)) 0).length = l.length := by simp; omega
 have e4 : (l.take p).length = p := by simp; omega
 rw [e1, e2, List.set_append_left _ _ (by omega), List.take_add_one, h]
 have e3 : (l.take p ++ (some x).toList).set p y = l.take p ++ [y] := by
  rw [List.set_append_right _ _ (by omega), e4, Nat.sub_self]
  rfl
 rw [e3, List.append_assoc, List.append_assoc]
 congr 1
 rw [List.singleton_append, List.cons_append, List.replicate_append_replicate]
 congr 2
 omega
theorem jei {l : List Int} {p : Nat} {x : Int} (h : l[p]? = some x) (hl : l.length ≤ 4) : (pad4 (l.take (p + 1))).set p 0 = pad4 (l.take p) := by
 have h1 := (List.getElem?_eq_some_iff.1 h).1
 rw [jda h h1 hl]
 unfold pad4
 have e2 : (l.take p ++ (0 : Int) :: List.replicate (l.length - (p + 1)) 0).length = l.length := by simp; omega
 have e3 : (l.take p).length = p := by simp; omega
 rw [e2, e3, List.append_assoc]
 congr 1
 rw [← List.replicate_succ, List.replicate_append_replicate]
 congr 1
 omega
theorem jet {ns : List Nat} {m p n : Nat} {x : Int} (hpos : ∀ n ∈ ns, 0 < n) (hn : ns[p]? = some n) (hx : (ixl ns m)[p]? = some x) : 0 ≤ x ∧ x ≤ (n : Int) - 1 := by
 rw [jes ns m p n hn] at hx
 cases hx
 have := Nat.mod_lt (m / PR (ns.drop (p + 1))) (hpos n (List.mem_of_getElem? hn))
 omega
theorem jhd {ns : List Nat} {f : Nat → List Int} {w m : Nat} (h : ∀ j, (f j).length = w) : (flat ns f m).length = m * w := by
 induction m with
 | zero => simp [flat]
 | succ m ih => rw [jb4, List.length_append, ih, h, Nat.add_mul, Nat.one_mul]
theorem mem_flat {ns : List Nat} {f : Nat → List Int} {m : Nat} {x : Int} (h : x ∈ flat ns f m) : ∃ j, j < m ∧ x ∈ f j := by
 unfold flat at h
 rw [List.mem_flatMap] at h
 obtain ⟨j, h1, h2⟩ := h
 exact ⟨j, List.mem_range.1 h1, h2⟩
theorem all_c (xs : List Int) : Called Tryz.prog 72 [.ints .i64 xs] (.fn 116 [] [.ref [.ints .i64 xs]]) := by
 refine jaa tbOk 6 ⟨Tryz.func72, rfl, rfl, jhO rfl⟩ ?_
 (conv => whnf)
 refine V.st ?_
 exact Fin.same _
theorem nz_of {size : List Int} (h : size.all (fun n => decide (2 ≤ n ∧ n ≤ 9)) = true) : ∃ ns : List Nat, size = nz ns ∧ size.map Int.toNat = ns ∧ ∀ n ∈ ns, 2 ≤ n ∧ n ≤ 9 := by
 rw [List.all_eq_true] at h
 refine ⟨size.map Int.toNat, ?_, rfl, fun n hn => ?_⟩
 ·unfold nz
  rw [List.map_map]
  refine List.ext_getElem (by simp) fun k h1 h2 => ?_
  have := h size[k] (List.getElem_mem h1)
  simp at this ⊢
  omega
 ·obtain ⟨x, hx, rfl⟩ := List.mem_map.1 hn
  have := h x hx
  simp at this
  omega
def upd (lt : Int → Int → Bool) (o v : List Int) : List Int := List.zipWith (fun a b => if lt b a then b else a) o v
def mst (lt : Int → Int → Bool) (data : List Int) (w : Nat) : Nat → List Int
 | 0 => slot data 0 w
 | m + 1 => upd lt (mst lt data w m) (slot data ((m * w : Nat) : Int) w)
theorem lt_c (a b : Int) : Called Tryz.prog 53 [.int .i64 a, .int .i64 b] (.bool (decide (a < b))) := by
 refine jaa tbOk 6 ⟨Tryz.func53, rfl, rfl, jhO rfl⟩ ?_
 (conv => whnf)
 refine V.st ?_
 exact Fin.of rfl
theorem gt_c (a b : Int) : Called Tryz.prog 54 [.int .i64 a, .int .i64 b] (.bool (decide (a > b))) := by
 refine jaa tbOk 6 ⟨Tryz.func54, rfl, rfl, jhO rfl⟩ ?_
 (conv => whnf)
 refine V.st ?_
 exact Fin.of rfl
theorem tpoints_c (size : List Int) (out : Int) (data : List Int) : Called Tryz.prog 52 [gridD size out data] (.fn 92 [] [.ref [.ints .i64 size, .int .i64 out, .ints .i64 data], .ref [.fn 40 [gridD size out data] []]]) := by
 refine jaa tbOk 6 ⟨Tryz.func52, rfl, rfl, jhO rfl⟩ ?_
 (conv => whnf)
 refine V.st ?_
 exact Fin.of rfl
theorem jgc {data : List Int} {w m n : Nat} (h : data.length = n * w) (hm : m < n) : (slot data ((m * w : Nat) : Int) w).length = w := by
 unfold slot
 rw [jhT, jhT]
 simp
 have : (m + 1) * w ≤ n * w := Nat.mul_le_mul_right w hm
 rw [Nat.add_mul] at this
 omega
theorem jcE {lt : Int → Int → Bool} {data : List Int} {w m n : Nat} (h : data.length = n * w) (hm : m ≤ n) (hn : 0 < n) : (mst lt data w m).length = w := by
 induction m with
 | zero => have := jgc (m := 0) h hn; simpa [mst] using this
 | succ m ih =>
  unfold mst upd
  rw [List.length_zipWith, ih (by omega), jgc h (by omega)]
  omega
theorem jfv {lt : Int → Int → Bool} {o v : List Int} {k : Nat} {a b : Int} (ha : o[k]? = some a) (hb : v[k]? = some b) (hl : o.length = v.length) :
  ((upd lt o v).take k ++ o.drop k).set k (if lt b a then b else a) = (upd lt o v).take (k + 1) ++ o.drop (k + 1) := by
 have h1 := (List.getElem?_eq_some_iff.1 ha)
 have h2 := (List.getElem?_eq_some_iff.1 hb)
 have hul : (upd lt o v).length = o.length := by unfold upd; rw [List.length_zipWith]; omega
 have h3 : ((upd lt o v).take k).length = k := by have := h1.1; rw [List.length_take]; omega
 have h4 : (upd lt o v)[k]? = some (if lt b a then b else a) := by
  unfold upd
  rw [List.getElem?_zipWith, ha, hb]
 rw [List.set_append_right _ _ (by omega), h3, Nat.sub_self, List.drop_eq_getElem_cons h1.1, List.set_cons_zero, List.take_add_one, h4]
 simp
theorem jgF {lt : Int → Int → Bool} {o v : List Int} {k : Nat} {a : Int} (ha : o[k]? = some a) (hl : o.length = v.length) : ((upd lt o v).take k ++ o.drop k).getD k 0 = a := by
 have h1 := (List.getElem?_eq_some_iff.1 ha)
 have hul : (upd lt o v).length = o.length := by unfold upd; rw [List.length_zipWith]; omega
 have h3 : ((upd lt o v).take k).length = k := by have := h1.1; rw [List.length_take]; omega
 rw [List.getD_eq_getElem?_getD, List.getElem?_append_right (by omega), h3, Nat.sub_self, List.getElem?_drop, Nat.add_zero, ha]
 rfl
theorem upd_same {lt : Int → Int → Bool} {o v : List Int} {k : Nat} {a b : Int} (ha : o[k]? = some a) (hb : v[k]? = some b) (hl : o.length = v.length) (h : lt b a = false) :
  (upd lt o v).take k ++ o.drop k = (upd lt o v).take (k + 1) ++ o.drop (k + 1) := by
 rw [← jfv ha hb hl, h]
 have h1 := (List.getElem?_eq_some_iff.1 ha)
 have hul : (upd lt o v).length = o.length := by unfold upd; rw [List.length_zipWith]; omega
 have h3 : ((upd lt o v).take k).length = k := by have := h1.1; rw [List.length_take]; omega
 rw [List.set_append_right _ _ (by omega), h3, Nat.sub_self, List.drop_eq_getElem_cons h1.1, List.set_cons_zero, h1.2]
 rfl
theorem jhE : type_of% @jhT ∧ type_of% @jhS := ⟨@jhT, @jhS⟩
theorem most_c (size : List Int) (w : Nat) (data : List Int) (g : Nat) (lt : Int → Int → Bool) (hg : jao size w data = true) (hf : ∀ a b, Called Tryz.prog g [.int .i64 a, .int .i64 b] (.bool (lt a b))) (hirr : ∀ a, lt a a = false) :
    Called Tryz.prog 51 [.fn 92 [] [.ref [.ints .i64 size, .int .i64 w, .ints .i64 data], .ref [.fn 40 [gridD size w data] []]], .fn g [] []] (.ints .i64 (mst lt data w (PR (size.map Int.toNat)))) := by
  have hG := jbk hg
  obtain ⟨ns, hn0, hn1, hn2⟩ := nz_of hG.2.2.2.2.1
  have hsl : size.length = ns.length := by rw [hn0]; simp [nz]
  have hpos : ∀ n ∈ ns, 0 < n := fun n hn => by have := hn2 n hn; omega
  have hPR := PR_le (by omega) hn2
  have hPP := jeW hpos
  have hprod : prod size = (PR ns : Nat) := by rw [hn0, jfK]
  have hdl : data.length = PR ns * w := by
    have := hG.2.2.2.2.2.2.1
    rw [hprod, ← jh3] at this
    omega
  rw [hn1]
  have h1 : 1 ≤ ns.length ∧ ns.length ≤ 4 := by omega
  have hok : ∀ m, okIdx size (ixl ns m) = true := fun m => jbq.2 ⟨by rw [jaw]; omega, fun k n x h1 h2 => by
    rw [hn0] at h1
    simp only [nz, List.getElem?_map, Option.map_eq_some_iff] at h1
    obtain ⟨n', h3, rfl⟩ := h1
    exact jet hpos h3 h2⟩
  have hvc : ∀ m, m < PR ns → Called Tryz.prog 40 [gridD size w data, .iarr .i64 (pad4 (ixl ns m))] (.ints .i64 (slot data ((m * w : Nat) : Int) w)) := fun m hm => by
    have hpad := jem (hok m) hG.2.1
    have := values_c size w data _ hg hpad.1 hpad.2
    have hpz : pz (size.zip (pad4 (ixl ns m))) = (m : Int) := by
      rw [zip_pad (hok m), hn0]
      have := pz_ixl_aux ns hpos m 0
      rw [jhX hm] at this
      unfold pz nz
      simpa using this
    rw [hpz, ← jh3] at this
    exact this
  have hlen : size.length = ns.length := hsl
  refine jaa tbOk 6 ⟨Tryz.func51, rfl, rfl, jhO rfl⟩ ?_
  (conv => whnf)
  refine V.st ?_
  refine ⟨_, _, ⟨Tryz.func92, rfl, rfl, jhO rfl⟩, ?_⟩
  (conv => whnf)
  refine V.st ?_
  repeat ((try ((with_reducible refine .ext ?_); (conv => whnf))); (with_reducible refine jab (r := ?_) ?_ ?_); rotate_left; (focus (first | exact (all_c _))); (conv => whnf); refine V.st ?_)
  refine ⟨_, _, ⟨Tryz.func116, rfl, rfl, jhO rfl⟩, ?_⟩
  (conv => whnf)
  (conv => whnf)
  (try simp only [jhS])
  repeat ((first | refine V.s1 ?_); (try simp only [jhS]))
  refine lp_go (ns.length) (fun k => True) (fun k => [(10, .int .i64 k)]) (fun k => [(57, .arr .i64 (pad4 ((lastL ns).take k)))]) V.wk ?_ ?_
  · trivial
  intro k hk _
  (conv => whnf)
  refine V.st ?_
  refine Cnd.split (CondB.mk (fun h => ?_) (fun h => ?_))
  · rw [hlen] at h
    simp only [decide_eq_true_eq] at h
    have hk1 : k < ns.length := by omega
    obtain ⟨n, hn⟩ : ∃ n, ns[k]? = some n := ⟨ns[k], List.getElem?_eq_getElem hk1⟩
    have hnb := hn2 n (List.mem_of_getElem? hn)
    have en : size.getD k 0 = n := by rw [hn0]; simp [nz, List.getD_eq_getElem?_getD, hn]
    have hll : (lastL ns)[k]? = some ((n : Int) - 1) := by simp [lastL, hn]
    have hp4 : (pad4 ((lastL ns).take k)).length = 4 := jaz (by simp [lastL]; omega)
    have hps := jfN hll (by simp [lastL]; omega)
    (conv => whnf)
    (try simp only [jhE, en, hps])
    repeat ((first | refine V.s1 ?_); (try simp only [jhE, en, hps]))
    exact ⟨k + 1, ⟨by omega, trivial⟩, by omega, V.wk⟩
  · rw [hlen] at h
    simp only [decide_eq_false_iff_not] at h
    have hk1 : k = ns.length := by omega
    subst hk1
    have e0 : (lastL ns).take ns.length = lastL ns := List.take_of_length_le (by simp [lastL])
    rw [e0]
    (conv => whnf)
    refine V.st ?_
    have e1 := ixl_pad0 h1 hn2
    have hp4l : (pad4 (lastL ns)).length = 4 := jaz (by simp [lastL]; omega)
    refine jah 0 (fun k => k < PR ns) (fun k => PR ns - k) (fun k => []) (fun k => match k with
      | 0 => [(56, .arr .i64 (pad4 (ixl ns 0))), (5, .box [.nil])]
      | m + 1 => [(56, .arr .i64 (pad4 (ixl ns (m + 1)))), (5, .box [.osl 159 0 w]), (159, .arr .i64 (mst lt data w (m + 1)))]) ?_ hPP ?_
    · simp only [e1]
      exact V.wk
    intro m hm
    have hvm := hvc m hm
    have hp4 : (pad4 (ixl ns m)).length = 4 := jaz (by rw [jaw]; omega)
    have hvl := jgc hdl hm
    have hml := jcE (lt := lt) hdl (Nat.le_of_lt hm) hPP
    have hul : (upd lt (mst lt data w m) (slot data ((m * w : Nat) : Int) w)).length = w := by unfold upd; rw [List.length_zipWith]; omega
    cases m with
    | zero =>
      have hm0 : slot data ((0 * w : Nat) : Int) w = mst lt data w 0 := by simp [mst]
      rw [hm0] at hvm hvl hul
      have hvf : upd lt (mst lt data w 0) (mst lt data w 0) = mst lt data w 1 := by
        conv => rhs; unfold mst
        rw [hm0]
      generalize hv : mst lt data w 0 = vs at *
      (conv => whnf)
      refine V.st ?_
      repeat ((try ((with_reducible refine .ext ?_); (conv => whnf))); (with_reducible refine jab (r := ?_) ?_ ?_); rotate_left; (focus (first | exact (hvm))); (conv => whnf); refine V.st ?_)
      refine ⟨(.take 0 (.take 1 (.take 2 (.ev (.cons 3 [0] (.ev (.cons 4 [] (.take 5 (.done)) (.nil))) (.nil)))))), [], ⟨by kernel_rfl, by kernel_rfl, by kernel_rfl, by kernel_rfl⟩, .go (jae ?_)⟩
      (conv => whnf)
      refine V.st ?_
      repeat ((try ((with_reducible refine .ext ?_); (conv => whnf))); (with_reducible refine jab (r := ?_) ?_ ?_); rotate_left; (focus (first | exact (hvm))); (conv => whnf); refine V.st ?_)
      refine .inl ?_
      (conv => whnf)
      refine ⟨0, _, _, ⟨Tryz.func19, rfl, rfl, jhO rfl⟩, ?_⟩
      (conv => whnf)
      refine AnyB.mk (fun h => ?_) (fun _ => ?_)
      · have := h rfl
        rw [this] at hvl
        simp at hvl
        omega
      (conv => whnf)
      try refine And.intro (fun _ => ⟨rfl, by simp; omega⟩) ?_
      have hol : vs.length = w := hml
      have he0 : vs = (upd lt vs vs).take 0 ++ vs.drop 0 := by simp
      (conv => whnf)
      (try simp only [jhS, Nat.add_zero, List.nil_append, hvl])
      repeat ((first | refine V.s1 ?_); (try simp only [jhS, Nat.add_zero, List.nil_append, hvl]))
      refine lp_go w (fun _ => True) (fun k => [(17, .int .i64 k)]) (fun k => [(159, .arr .i64 ((upd lt vs vs).take k ++ vs.drop k))]) ?_ trivial ?_
      · rw [← he0]
        exact V.wk
      intro k hk _
      (conv => whnf)
      refine V.st ?_
      refine Cnd.split (CondB.mk (fun hq => ?_) (fun hq => ?_))
      · rw [decide_eq_true_eq] at hq
        have hk1 : k < w := by omega
        obtain ⟨v, hv1, ev⟩ := getxn (xs := vs) (k := k) (by omega)
        obtain ⟨o, ho1, eo⟩ := getxn (xs := vs) (k := k) (by omega)
        have hug := jgF (lt := lt) (v := vs) ho1 (by omega)
        have hus := jfv (lt := lt) ho1 hv1 (by omega)
        have hul2 : ((upd lt vs vs).take k ++ vs.drop k).length = w := by simp; omega
        (conv => whnf)
        (try simp only [jhE, ev])
        repeat ((first | refine V.s1 ?_); (try simp only [jhE, ev]))
        refine ⟨(.take 0 (.take 1 (.take 2 (.take 3 (.take 4 (.take 5 (.ev (.cons 6 [] (.done) (.nil))))))))), [], ⟨by kernel_rfl, by kernel_rfl, by kernel_rfl, by kernel_rfl⟩, .go (jae ?_)⟩
        (conv => whnf)
        (try simp only [jhE, ev, hug])
        repeat ((first | refine V.s1 ?_ | ((try ((with_reducible refine .ext ?_); (conv => whnf); (try simp only [jhE, ev, hug]))); (with_reducible refine jab (r := ?_) ?_ ?_); rotate_left; (focus (first | exact (hf _ _))); (conv => whnf))); (try simp only [jhE, ev, hug]))
        refine jbQ [] [(159, .arr .i64 ((upd lt vs vs).take (k + 1) ++ vs.drop (k + 1)))] (CondB.mk (fun hc => ?_) (fun hc => ?_)) ?_
        · rw [hc, if_pos rfl] at hus
          (conv => whnf)
          (try simp only [jhE, ev, hus])
          repeat ((first | refine V.s1 ?_); (try simp only [jhE, ev, hus]))
          exact V.wk
        · have hsm := upd_same ho1 hv1 (by omega) hc
          rw [← hsm]
          (conv => whnf)
          refine V.st ?_
          exact V.wk
        (conv => whnf)
        refine V.st ?_
        exact ⟨k + 1, ⟨by omega, trivial⟩, by omega, V.wk⟩
      · rw [decide_eq_false_iff_not] at hq
        have hk1 : k = w := by omega
        subst hk1
        have hfin : (upd lt vs vs).take k ++ vs.drop k = mst lt data k 1 := by
          rw [List.take_of_length_le (by omega), List.drop_of_length_le (by omega), List.append_nil]
          exact hvf
        rw [hfin]
        (conv => whnf)
        refine V.st ?_
        refine Cnd.split (CondB.mk (fun hq => ?_) (fun hq => ?_))
        · rw [decide_eq_true_eq] at hq
          have hq2 : ixl ns (0) = lastL ns := jfO (by rw [jaw]; simp [lastL]) hq
          have hq3 := jdW ns hpos (0) hq2
          rw [jhX hm] at hq3
          have hq4 : 1 = PR ns := by omega
          have hml3 := jcE (lt := lt) hdl (Nat.le_of_eq hq4) hPP
          (conv => whnf)
          refine V.st ?_
          rw [List.take_of_length_le (by omega), hq4]
          exact Fin.of rfl
        · rw [decide_eq_false_iff_not] at hq
          have hq2 : ixl ns (0) ≠ lastL ns := fun e => hq (by rw [← e])
          have hil := jaw ns (0)
          have hll : (lastL ns).length = ns.length := by simp [lastL]
          (conv => whnf)
          refine V.st ?_
          rw [hlen]
          have e2 : (ixl ns (0)).take ns.length = ixl ns (0) := List.take_of_length_le (by omega)
          refine jah (ns.length) (fun k => (1 ≤ k ∧ k ≤ ns.length) ∧ (ixl ns (0)).drop k = (lastL ns).drop k) (fun k => k) (fun k => [(7, .int .i64 ((k : Int) - 1))]) (fun k => [(56, .arr .i64 (pad4 ((ixl ns (0)).take k)))]) ?_ ?_ ?_
          · rw [e2]
            exact V.wk
          · exact ⟨⟨h1.1, jhU _⟩, by rw [List.drop_of_length_le (by omega), List.drop_of_length_le (by omega)]⟩
          rintro p ⟨⟨hp1, hp2⟩, hp3⟩
          obtain ⟨p, rfl⟩ : ∃ q, p = q + 1 := ⟨p - 1, by omega⟩
          obtain ⟨x, hx⟩ : ∃ x, (ixl ns (0))[p]? = some x := ⟨_, List.getElem?_eq_getElem (by omega)⟩
          obtain ⟨n, hn⟩ : ∃ n, ns[p]? = some n := ⟨ns[p], List.getElem?_eq_getElem (by omega)⟩
          have hpx := jcd hx (by omega : p < p + 1) (by omega)
          have hpl : (lastL ns)[p]? = some ((n : Int) - 1) := by simp [lastL, hn]
          have hpl2 := jcd (k := 4) hpl (by omega) (by omega)
          rw [List.take_of_length_le (by omega)] at hpl2
          have hp5 : (pad4 ((ixl ns (0)).take (p + 1))).length = 4 := jaz (by simp; omega)
          have e3 : ((p + 1 : Nat) : Int) - 1 = (p : Int) := by omega
          have e4 := jei hx (by omega)
          (conv => whnf)
          refine V.st ?_
          refine ⟨(.take 0 (.take 1 (.take 2 (.take 3 (.take 4 (.take 5 (.take 6 (.done)))))))), [], ⟨by kernel_rfl, by kernel_rfl, by kernel_rfl, by kernel_rfl⟩, .go (jae ?_)⟩
          (conv => whnf)
          (try simp only [jhE, e3, hpx, hpl2])
          repeat ((first | refine V.s1 ?_); (try simp only [jhE, e3, hpx, hpl2]))
          refine Cnd.split (CondB.mk (fun hc => ?_) (fun hc => ?_))
          · rw [decide_eq_true_eq] at hc
            have hd : (ixl ns (0)).drop p = (lastL ns).drop p := by
              rw [List.drop_eq_getElem_cons (by omega : p < (ixl ns (0)).length), List.drop_eq_getElem_cons (by omega : p < (lastL ns).length), hp3, (List.getElem?_eq_some_iff.1 hx).2, (List.getElem?_eq_some_iff.1 hpl).2, hc]
            have hp0 : 1 ≤ p := by
              rcases jhV p with e | e
              · subst e; exact absurd (by simpa using hd) hq2
              · exact e
            (conv => whnf)
            (try simp only [jhE, e3, e4])
            repeat ((first | refine V.s1 ?_); (try simp only [jhE, e3, e4]))
            exact ⟨p, ⟨⟨hp0, by omega⟩, hd⟩, by omega, V.wk⟩
          · rw [decide_eq_false_iff_not] at hc
            have hsu := jfV ns hpos (0) p n hn x hx (by rw [hp3]; simp [lastL]) hc
            have e5 := jda (y := x + 1) hx (by omega) (by omega : (ixl ns (0)).length ≤ 4)
            rw [hil, ← hsu] at e5
            have hxb := jet hpos hn hx
            have hnb := hn2 n (List.mem_of_getElem? hn)
            have hm1 : 1 < PR ns := by
              rcases jh0 (1) (PR ns) with e | e
              · exact e
              · exfalso
                exact hq2 (jdY ns hpos (0) (by rw [jhX hm]; omega))
            (conv => whnf)
            (try simp only [jhE, e3, hpx, e5])
            repeat ((first | refine V.s1 ?_); (try simp only [jhE, e3, hpx, e5]))
            exact ⟨1, hm1, by omega, V.wk⟩
    | succ m =>
      have hvf : upd lt (mst lt data w (m + 1)) (slot data (((m + 1) * w : Nat) : Int) w) = mst lt data w (m + 2) := by
        conv => rhs; unfold mst
      generalize hv : mst lt data w (m + 1) = vs at *
      generalize hv2 : slot data (((m + 1) * w : Nat) : Int) w = ws at *
      (conv => whnf)
      refine V.st ?_
      repeat ((try ((with_reducible refine .ext ?_); (conv => whnf))); (with_reducible refine jab (r := ?_) ?_ ?_); rotate_left; (focus (first | exact (hvm))); (conv => whnf); refine V.st ?_)
      refine ⟨(.take 0 (.take 1 (.take 2 (.ev (.cons 3 [0] (.ev (.cons 4 [] (.take 5 (.done)) (.nil))) (.nil)))))), [], ⟨by kernel_rfl, by kernel_rfl, by kernel_rfl, by kernel_rfl⟩, .go (jae ?_)⟩
      (conv => whnf)
      refine V.st ?_
      repeat ((try ((with_reducible refine .ext ?_); (conv => whnf))); (with_reducible refine jab (r := ?_) ?_ ?_); rotate_left; (focus (first | exact (hvm))); (conv => whnf); refine V.st ?_)
      have hol : vs.length = w := hml
      have he0 : vs = (upd lt vs ws).take 0 ++ vs.drop 0 := by simp
      (conv => whnf)
      (try simp only [jhS, Nat.add_zero, List.nil_append, hvl])
      repeat ((first | refine V.s1 ?_); (try simp only [jhS, Nat.add_zero, List.nil_append, hvl]))
      refine lp_go w (fun _ => True) (fun k => [(17, .int .i64 k)]) (fun k => [(159, .arr .i64 ((upd lt vs ws).take k ++ vs.drop k))]) ?_ trivial ?_
      · rw [← he0, ← hv]
        exact V.wk
      intro k hk _
      (conv => whnf)
      refine V.st ?_
      refine Cnd.split (CondB.mk (fun hq => ?_) (fun hq => ?_))
      · rw [decide_eq_true_eq] at hq
        have hk1 : k < w := by omega
        obtain ⟨v, hv1, ev⟩ := getxn (xs := ws) (k := k) (by omega)
        obtain ⟨o, ho1, eo⟩ := getxn (xs := vs) (k := k) (by omega)
        have hug := jgF (lt := lt) (v := ws) ho1 (by omega)
        have hus := jfv (lt := lt) ho1 hv1 (by omega)
        have hul2 : ((upd lt vs ws).take k ++ vs.drop k).length = w := by simp; omega
        (conv => whnf)
        (try simp only [jhE, ev])
        repeat ((first | refine V.s1 ?_); (try simp only [jhE, ev]))
        refine ⟨(.take 0 (.take 1 (.take 2 (.take 3 (.take 4 (.take 5 (.ev (.cons 6 [] (.done) (.nil))))))))), [], ⟨by kernel_rfl, by kernel_rfl, by kernel_rfl, by kernel_rfl⟩, .go (jae ?_)⟩
        (conv => whnf)
        (try simp only [jhE, ev, hug])
        repeat ((first | refine V.s1 ?_ | ((try ((with_reducible refine .ext ?_); (conv => whnf); (try simp only [jhE, ev, hug]))); (with_reducible refine jab (r := ?_) ?_ ?_); rotate_left; (focus (first | exact (hf _ _))); (conv => whnf))); (try simp only [jhE, ev, hug]))
        refine jbQ [] [(159, .arr .i64 ((upd lt vs ws).take (k + 1) ++ vs.drop (k + 1)))] (CondB.mk (fun hc => ?_) (fun hc => ?_)) ?_
        · rw [hc, if_pos rfl] at hus
          (conv => whnf)
          (try simp only [jhE, ev, hus])
          repeat ((first | refine V.s1 ?_); (try simp only [jhE, ev, hus]))
          exact V.wk
        · have hsm := upd_same ho1 hv1 (by omega) hc
          rw [← hsm]
          (conv => whnf)
          refine V.st ?_
          exact V.wk
        (conv => whnf)
        refine V.st ?_
        exact ⟨k + 1, ⟨by omega, trivial⟩, by omega, V.wk⟩
      · rw [decide_eq_false_iff_not] at hq
        have hk1 : k = w := by omega
        subst hk1
        have hfin : (upd lt vs ws).take k ++ vs.drop k = mst lt data k (m + 2) := by
          rw [List.take_of_length_le (by omega), List.drop_of_length_le (by omega), List.append_nil]
          exact hvf
        rw [hfin]
        (conv => whnf)
        refine V.st ?_
        refine Cnd.split (CondB.mk (fun hq => ?_) (fun hq => ?_))
        · rw [decide_eq_true_eq] at hq
          have hq2 : ixl ns (m + 1) = lastL ns := jfO (by rw [jaw]; simp [lastL]) hq
          have hq3 := jdW ns hpos (m + 1) hq2
          rw [jhX hm] at hq3
          have hq4 : m + 2 = PR ns := by omega
          have hml3 := jcE (lt := lt) hdl (Nat.le_of_eq hq4) hPP
          (conv => whnf)
          refine V.st ?_
          rw [List.take_of_length_le (by omega), hq4]
          exact Fin.of rfl
        · rw [decide_eq_false_iff_not] at hq
          have hq2 : ixl ns (m + 1) ≠ lastL ns := fun e => hq (by rw [← e])
          have hil := jaw ns (m + 1)
          have hll : (lastL ns).length = ns.length := by simp [lastL]
          (conv => whnf)
          refine V.st ?_
          rw [hlen]
          have e2 : (ixl ns (m + 1)).take ns.length = ixl ns (m + 1) := List.take_of_length_le (by omega)
          refine jah (ns.length) (fun k => (1 ≤ k ∧ k ≤ ns.length) ∧ (ixl ns (m + 1)).drop k = (lastL ns).drop k) (fun k => k) (fun k => [(7, .int .i64 ((k : Int) - 1))]) (fun k => [(56, .arr .i64 (pad4 ((ixl ns (m + 1)).take k)))]) ?_ ?_ ?_
          · rw [e2]
            exact V.wk
          · exact ⟨⟨h1.1, jhU _⟩, by rw [List.drop_of_length_le (by omega), List.drop_of_length_le (by omega)]⟩
          rintro p ⟨⟨hp1, hp2⟩, hp3⟩
          obtain ⟨p, rfl⟩ : ∃ q, p = q + 1 := ⟨p - 1, by omega⟩
          obtain ⟨x, hx⟩ : ∃ x, (ixl ns (m + 1))[p]? = some x := ⟨_, List.getElem?_eq_getElem (by omega)⟩
          obtain ⟨n, hn⟩ : ∃ n, ns[p]? = some n := ⟨ns[p], List.getElem?_eq_getElem (by omega)⟩
          have hpx := jcd hx (by omega : p < p + 1) (by omega)
          have hpl : (lastL ns)[p]? = some ((n : Int) - 1) := by simp [lastL, hn]
          have hpl2 := jcd (k := 4) hpl (by omega) (by omega)
          rw [List.take_of_length_le (by omega)] at hpl2
          have hp5 : (pad4 ((ixl ns (m + 1)).take (p + 1))).length = 4 := jaz (by simp; omega)
          have e3 : ((p + 1 : Nat) : Int) - 1 = (p : Int) := by omega
          have e4 := jei hx (by omega)
          (conv => whnf)
          refine V.st ?_
          refine ⟨(.take 0 (.take 1 (.take 2 (.take 3 (.take 4 (.take 5 (.take 6 (.done)))))))), [], ⟨by kernel_rfl, by kernel_rfl, by kernel_rfl, by kernel_rfl⟩, .go (jae ?_)⟩
          (conv => whnf)
          (try simp only [jhE, e3, hpx, hpl2])
          repeat ((first | refine V.s1 ?_); (try simp only [jhE, e3, hpx, hpl2]))
          refine Cnd.split (CondB.mk (fun hc => ?_) (fun hc => ?_))
          · rw [decide_eq_true_eq] at hc
            have hd : (ixl ns (m + 1)).drop p = (lastL ns).drop p := by
              rw [List.drop_eq_getElem_cons (by omega : p < (ixl ns (m + 1)).length), List.drop_eq_getElem_cons (by omega : p < (lastL ns).length), hp3, (List.getElem?_eq_some_iff.1 hx).2, (List.getElem?_eq_some_iff.1 hpl).2, hc]
            have hp0 : 1 ≤ p := by
              rcases jhV p with e | e
              · subst e; exact absurd (by simpa using hd) hq2
              · exact e
            (conv => whnf)
            (try simp only [jhE, e3, e4])
            repeat ((first | refine V.s1 ?_); (try simp only [jhE, e3, e4]))
            exact ⟨p, ⟨⟨hp0, by omega⟩, hd⟩, by omega, V.wk⟩
          · rw [decide_eq_false_iff_not] at hc
            have hsu := jfV ns hpos (m + 1) p n hn x hx (by rw [hp3]; simp [lastL]) hc
            have e5 := jda (y := x + 1) hx (by omega) (by omega : (ixl ns (m + 1)).length ≤ 4)
            rw [hil, ← hsu] at e5
            have hxb := jet hpos hn hx
            have hnb := hn2 n (List.mem_of_getElem? hn)
            have hm1 : m + 2 < PR ns := by
              rcases jh0 (m + 2) (PR ns) with e | e
              · exact e
              · exfalso
                exact hq2 (jdY ns hpos (m + 1) (by rw [jhX hm]; omega))
            (conv => whnf)
            (try simp only [jhE, e3, hpx, e5])
            repeat ((first | refine V.s1 ?_); (try simp only [jhE, e3, hpx, e5]))
            exact ⟨m + 2, hm1, by omega, V.wk⟩
theorem rl_mst {lt : Int → Int → Bool} {data : List Int} {w n : Nat} (h : data.length = n * w) (hw : 0 < w) : ∀ m, m ≤ n → rl lt data w (m * w) = mst lt data w m := by
 intro m
 induction m with
 | zero => intro _; simp [rl, mst]
 | succ m ih =>
  intro hm
  have ih := ih (by omega)
  have hwl : w ≤ data.length := by rw [h]; exact Nat.le_mul_of_pos_left _ (by omega)
  have hR := jee (lt := lt) hwl (m * w)
  have hS := jgc h (by omega : m < n)
  have key : ∀ k, k ≤ w → rl lt data w (m * w + k) = (upd lt (rl lt data w (m * w)) (slot data ((m * w : Nat) : Int) w)).take k ++ (rl lt data w (m * w)).drop k := by
   intro k
   induction k with
   | zero => intro _; simp
   | succ k ihk =>
    intro hk
    have ihk := ihk (by omega)
    have e1 : (m * w + k) % w = k := by
     rw [Nat.add_comm, Nat.add_mul_mod_self_right, jhX (by omega)]
    obtain ⟨a, ha⟩ : ∃ a, (rl lt data w (m * w))[k]? = some a := ⟨_, List.getElem?_eq_getElem (by omega)⟩
    obtain ⟨b, hb⟩ : ∃ b, (slot data ((m * w : Nat) : Int) w)[k]? = some b := ⟨_, List.getElem?_eq_getElem (by omega)⟩
    have hb2 : data.getD (m * w + k) 0 = b := by
     have := hb
     unfold slot at this
     rw [jhT, jhT, List.getElem?_take_of_lt (by omega), List.getElem?_drop] at this
     rw [List.getD_eq_getElem?_getD, this]; rfl
    have hug := jgF (lt := lt) (v := slot data ((m * w : Nat) : Int) w) ha (by omega)
    have hus := jfv (lt := lt) ha hb (by omega)
    rw [← hus, ← Nat.add_assoc]
    conv => lhs; unfold rl
    rw [e1, ihk, hb2, hug]
  have hk := key w (jhU _)
  have hul : (upd lt (rl lt data w (m * w)) (slot data ((m * w : Nat) : Int) w)).length = w := by unfold upd; rw [List.length_zipWith]; omega
  rw [Nat.add_mul, Nat.one_mul, hk, List.take_of_length_le (by omega), List.drop_of_length_le (by omega), List.append_nil, ih]
  rfl
theorem range_c (size : List Int) (out : Int) (data : List Int) (hs : size.length ≤ 281474976710656) (hd : data.length ≤ 281474976710656) :
  Called Tryz.prog 25 [gridD size out data] (.tup [.ints .i64 (if jao size out data then rl (fun a b => decide (a < b)) data out.toNat data.length else []), .ints .i64 (if jao size out data then rl (fun a b => decide (a > b)) data out.toNat data.length else []), .int .i64 (if jao size out data then 0 else 100)]) := by
 refine jaa tbOk 6 ⟨Tryz.func25, rfl, rfl, jhO rfl⟩ ?_
 (conv => whnf)
 refine V.st ?_
 repeat ((try ((with_reducible refine .ext ?_); (conv => whnf))); (with_reducible refine jab (r := ?_) ?_ ?_); rotate_left; (focus (first | exact (jeR _ _ _ hs hd))); (conv => whnf); refine V.st ?_)
 cases hg : jao size out data with
 | false =>
  refine Cnd.split (CondB.mk (fun h => ?_) (fun h => ?_))
  ·(conv => whnf)
   refine V.st ?_
   exact Fin.tup ⟨Fin.nil _, Fin.nil _, Fin.of rfl, trivial⟩
  ·simp at h
 | true =>
  have hG := jbk hg
  obtain ⟨w, rfl⟩ : ∃ w : Nat, out = w := ⟨out.toNat, by omega⟩
  obtain ⟨ns, hn0, hn1, hn2⟩ := nz_of hG.2.2.2.2.1
  have hprod : prod size = (PR ns : Nat) := by rw [hn0, jfK]
  have hdl : data.length = PR ns * w := by
   have := hG.2.2.2.2.2.2.1
   rw [hprod, ← jh3] at this
   omega
  have e1 := rl_mst (lt := fun a b => decide (a < b)) hdl (by omega) (PR ns) (jhU _)
  have e2 := rl_mst (lt := fun a b => decide (a > b)) hdl (by omega) (PR ns) (jhU _)
  rw [← hdl] at e1 e2
  have m1 := most_c size w data 53 (fun a b => decide (a < b)) hg lt_c (fun a => by simp)
  have m2 := most_c size w data 54 (fun a b => decide (a > b)) hg gt_c (fun a => by simp)
  rw [hn1, ← e1] at m1
  rw [hn1, ← e2] at m2
  refine Cnd.split (CondB.mk (fun h => ?_) (fun h => ?_))
  ·simp at h
  (conv => whnf)
  refine V.st ?_
  repeat ((try ((with_reducible refine .ext ?_); (conv => whnf))); (with_reducible refine jab (r := ?_) ?_ ?_); rotate_left; (focus (first | exact (tpoints_c _ _ _) | exact (m1) | exact (m2))); (conv => whnf); refine V.st ?_)
  exact Fin.of rfl
theorem pzf (ns : List Nat) (x : List Int) (p : Int) : x.length = ns.length → ((nz ns).zip x).foldl (fun p a => p * a.1 + a.2) p = p * (PR ns : Int) + pz ((nz ns).zip x) := by
 induction ns generalizing x p with
 | nil => intro _; simp [pz, nz, PR]
 | cons n r ih =>
  intro hl
  cases x with
  | nil => simp at hl
  | cons a s =>
   have hl' : s.length = r.length := by simpa using hl
   simp only [nz, List.map_cons, List.zip_cons_cons, List.foldl_cons, pz, PR]
   have e1 := ih s (p * (n : Int) + a) hl'
   have e2 := ih s (0 * (n : Int) + a) hl'
   simp only [nz] at e1 e2
   rw [e1, e2]
   simp only [jh3, jie, jh6, Int.zero_mul, Int.zero_add]
   omega
theorem pz_cons (n : Nat) (r : List Nat) (a : Int) (s : List Int) (h : s.length = r.length) : pz ((nz (n :: r)).zip (a :: s)) = a * (PR r : Int) + pz ((nz r).zip s) := by
 have := pzf r s a h
 unfold pz at this ⊢
 simp only [nz, List.map_cons, List.zip_cons_cons, List.foldl_cons, Int.zero_mul, Int.zero_add] at this ⊢
 exact this
theorem ixl_pz : ∀ (ns : List Nat) (x : List Int), okIdx (nz ns) x = true → (0 ≤ pz ((nz ns).zip x) ∧ pz ((nz ns).zip x) < PR ns) ∧ ixl ns (pz ((nz ns).zip x)).toNat = x
 | [], x, h => by
  have h1 := (jbq.1 h).1
  simp [nz] at h1
  subst h1
  simp [pz, nz, PR, ixl]
 | n :: r, [], h => by
  have h1 := (jbq.1 h).1
  simp [nz] at h1
 | n :: r, a :: s, h => by
  obtain ⟨h1, h2⟩ := jbq.1 h
  have hl : s.length = r.length := by simpa [nz] using h1
  have ha := h2 0 n a (by simp [nz]) rfl
  have hr : okIdx (nz r) s = true := jbq.2 ⟨by simpa [nz] using hl, fun k n' x' g1 g2 => h2 (k + 1) n' x' (by simpa [nz] using g1) (by simpa using g2)⟩
  obtain ⟨⟨i1, i2⟩, i3⟩ := ixl_pz r s hr
  rw [pz_cons n r a s hl]
  have hpos : ∀ y ∈ r, 0 < y := fun y hy => by
   obtain ⟨k, hk⟩ := List.getElem?_of_mem hy
   have hk2 : k < s.length := by have := (List.getElem?_eq_some_iff.1 hk).1; omega
   have := h2 (k + 1) y s[k] (by simp [nz, hk]) (by simp [hk2])
   omega
  have hP := jeW hpos
  generalize pz ((nz r).zip s) = q at *
  obtain ⟨q, rfl⟩ : ∃ m : Nat, q = m := ⟨q.toNat, by omega⟩
  obtain ⟨a, rfl⟩ : ∃ m : Nat, a = m := ⟨a.toNat, by omega⟩
  have e : ((a : Int) * (PR r : Int) + (q : Int)) = ((a * PR r + q : Nat) : Int) := by simp
  have hq : q < PR r := by omega
  have han : a < n := by omega
  rw [e, jhT] at *
  refine ⟨⟨by omega, ?_⟩, ?_⟩
  ·have : a * PR r + q < (a + 1) * PR r := by rw [Nat.add_mul]; omega
   have h5 : (a + 1) * PR r ≤ n * PR r := Nat.mul_le_mul_right _ han
   rw [PR]
   omega
  ·have e1 : (a * PR r + q) / PR r = a := by
    rw [jhW, Nat.mul_add_div hP, Nat.div_eq_of_lt hq, Nat.add_zero]
   have e2 : ixl r (a * PR r + q) = s := by
    rw [← jg6 r hpos, jhW, Nat.mul_add_mod, jg6 r hpos]
    exact i3
   simp only [ixl, e1, e2, jhX han]
theorem flat_slot {ns : List Nat} {f : Nat → List Int} {n w : Nat} (hf : ∀ j, j < n → (f j).length = w) : ∀ m, m < n → slot (flat ns f n) ((m * w : Nat) : Int) w = f m := by
 have key : ∀ t, t ≤ n → (flat ns f t).length = t * w := by
  intro t
  induction t with
  | zero => intro _; simp [flat]
  | succ t ih => intro ht; rw [jb4, List.length_append, ih (by omega), hf t (by omega), Nat.add_mul, Nat.one_mul]
 induction n with
 | zero => intro m hm; omega
 | succ n ih =>
  intro m hm
  rw [jb4]
  have kn := key n (by omega)
  unfold slot
  rw [jhT, jhT]
  by_cases hmn : m = n
  ·subst hmn
   rw [List.drop_append_of_le_length (by omega), List.drop_of_length_le (by omega), List.nil_append]
   exact List.take_of_length_le (by rw [hf m (by omega)]; exact jhU _)
  ·have ih := ih (fun j hj => hf j (by omega)) (fun t ht => key t (by omega)) m (by omega)
   unfold slot at ih
   rw [jhT, jhT] at ih
   have h5 : (m + 1) * w ≤ n * w := Nat.mul_le_mul_right _ (by omega)
   rw [Nat.add_mul, Nat.one_mul] at h5
   rw [List.drop_append_of_le_length (by omega), List.take_append_of_le_length (by rw [List.length_drop]; omega)]
   exact ih
structure Ord (lt : Int → Int → Bool) : Prop where
 irr : ∀ a, lt a a = false
 tr : ∀ a b c, lt b a = false → lt c b = false → lt c a = false
 anti : ∀ a b, lt a b = false → lt b a = false → a = b
 asym : ∀ a b, lt a b = true → lt b a = false
theorem ord_lt : Ord fun a b => decide (a < b) := ⟨fun a => by simp, fun a b c h1 h2 => by simp at *; omega, fun a b h1 h2 => by simp at *; omega, fun a b h => by simp at *; omega⟩
theorem ord_gt : Ord fun a b => decide (a > b) := ⟨fun a => by simp, fun a b c h1 h2 => by simp at *; omega, fun a b h1 h2 => by simp at *; omega, fun a b h => by simp at *; omega⟩
def col (data : List Int) (w m k : Nat) : Int := (slot data ((m * w : Nat) : Int) w).getD k 0
theorem updGet {lt : Int → Int → Bool} {o v : List Int} {k : Nat} (h1 : k < o.length) (h2 : k < v.length) : (upd lt o v).getD k 0 = if lt (v.getD k 0) (o.getD k 0) then v.getD k 0 else o.getD k 0 := by
 unfold upd
 simp [List.getD_eq_getElem?_getD, List.getElem?_zipWith, h1, h2]
theorem mst_spec {lt : Int → Int → Bool} (O : Ord lt) {data : List Int} {w n : Nat} (h : data.length = n * w) {k : Nat} (hk : k < w) : ∀ m, m ≤ n → 0 < n →
  (∀ j, j < m → lt (col data w j k) ((mst lt data w m).getD k 0) = false) ∧ ∃ j, j < max m 1 ∧ (mst lt data w m).getD k 0 = col data w j k := by
 intro m
 induction m with
 | zero => intro _ _; exact ⟨fun j hj => by omega, 0, by omega, by simp [mst, col]⟩
 | succ m ih =>
  intro hm hn
  obtain ⟨h1, j, hj, h2⟩ := ih (by omega) hn
  have hl1 := jcE (lt := lt) h (by omega : m ≤ n) hn
  have hl2 := jgc h (by omega : m < n)
  have hu := updGet (lt := lt) (o := mst lt data w m) (v := slot data ((m * w : Nat) : Int) w) (k := k) (by omega) (by omega)
  have hc : (slot data ((m * w : Nat) : Int) w).getD k 0 = col data w m k := rfl
  rw [hc] at hu
  simp only [mst]
  rw [hu]
  cases hb : lt (col data w m k) ((mst lt data w m).getD k 0) with
  | true =>
   rw [if_pos rfl]
   refine ⟨fun i hi => ?_, m, by omega, rfl⟩
   by_cases him : i = m
   ·subst him; exact O.irr _
   ·have h3 := h1 i (by omega)
    cases hc2 : lt (col data w i k) (col data w m k) with
    | false => rfl
    | true =>
     have h4 := O.asym _ _ hb
     rw [O.tr _ _ _ h4 h3] at hc2
     cases hc2
  | false =>
   rw [if_neg (by simp)]
   refine ⟨fun i hi => ?_, j, by omega, h2⟩
   by_cases him : i = m
   ·subst him; exact hb
   ·exact h1 i (by omega)
def sg (ns : List Nat) (a b m : Nat) : Nat := (pz ((nz ns).zip (swp (ixl (swn ns a b) m) a b))).toNat
end Go.Proofs.YtgjgpdceghjajaaGreatDoor
end
section
namespace Go.Proofs.YtgjgpdceghjajaaGreatDoor
open Go Go.V Go.Nb Go.Gr
theorem gv_flat {ns : List Nat} {w : Nat} {f : Nat → List Int} (hf : ∀ j, j < PR ns → (f j).length = w) {x : List Int} (hx : okIdx (nz ns) x = true) : slot (flat ns f (PR ns)) (pz ((nz ns).zip x) * w) w = f (pz ((nz ns).zip x)).toNat := by
 obtain ⟨⟨h0, h1⟩, _⟩ := ixl_pz ns x hx
 obtain ⟨m, hm⟩ : ∃ m : Nat, pz ((nz ns).zip x) = m := ⟨_, (Int.toNat_of_nonneg h0).symm⟩
 rw [hm] at h1 ⊢
 have e := flat_slot (ns := ns) hf m (by omega)
 rw [jhT, ← e]
 simp
def linV (c a0 a1 a2 : Int) (ns : List Nat) (m : Nat) : Int := c + a0 * (ixl ns m).getD 0 0 + a1 * (ixl ns m).getD 1 0 + a2 * (ixl ns m).getD 2 0
def lnD (c a0 a1 a2 : Int) (ns : List Nat) : List Int := flat ns (fun m => [linV c a0 a1 a2 ns m]) (PR ns)
theorem okIdx3 {s0 s1 s2 : Nat} {i j k : Int} (h0 : 0 ≤ i ∧ i ≤ (s0 : Int) - 1) (h1 : 0 ≤ j ∧ j ≤ (s1 : Int) - 1) (h2 : 0 ≤ k ∧ k ≤ (s2 : Int) - 1) : okIdx (nz [s0, s1, s2]) [i, j, k] = true := by
 simp only [okIdx, nz, List.map_cons, List.map_nil, List.zip_cons_cons, List.zip_nil_right, List.all_cons, List.all_nil, Bool.and_true, jhN, decide_eq_true_eq]
 exact ⟨rfl, h0, h1, h2⟩
theorem gv_lin {s0 s1 s2 : Nat} (c a0 a1 a2 : Int) {i j k : Int} (h0 : 0 ≤ i ∧ i ≤ (s0 : Int) - 1) (h1 : 0 ≤ j ∧ j ≤ (s1 : Int) - 1) (h2 : 0 ≤ k ∧ k ≤ (s2 : Int) - 1) :
  gvF (nz [s0, s1, s2]) 1 (lnD c a0 a1 a2 [s0, s1, s2]) 0 i j k = (c : Rat) + (a0 : Rat) * (i : Rat) + (a1 : Rat) * (j : Rat) + (a2 : Rat) * (k : Rat) := by
 have hx := okIdx3 h0 h1 h2
 have e := gv_flat (w := 1) (f := fun m => [linV c a0 a1 a2 [s0, s1, s2] m]) (fun _ _ => rfl) hx
 have e2 := (ixl_pz _ _ hx).2
 have e3 : ([i, j, k] : List Int).take (nz [s0, s1, s2]).length = [i, j, k] := rfl
 unfold gvF lnD
 rw [e3, show (1 : Int) = ((1 : Nat) : Int) from rfl, e]
 simp only [List.getD_cons_zero, linV, e2, List.getD_cons_succ]
 push_cast
 rfl
theorem evq_lin {s0 s1 s2 : Nat} (hs : 2 ≤ s0 ∧ 2 ≤ s1 ∧ 2 ≤ s2) (c a0 a1 a2 : Int) (x0 x1 x2 : Rat) :
  evQ (nz [s0, s1, s2]) 1 (lnD c a0 a1 a2 [s0, s1, s2]) x0 x1 x2 0 = ((c : Rat) + (a0 : Rat) * gp s0 x0 + (a1 : Rat) * gp s1 x1 + (a2 : Rat) * gp s2 x2) / 65535 := by
 unfold evQ
 rw [show (nz [s0, s1, s2]).getD 0 2 = (s0 : Int) from rfl, show (nz [s0, s1, s2]).getD 1 2 = (s1 : Int) from rfl, show (nz [s0, s1, s2]).getD 2 2 = (s2 : Int) from rfl]
 have hs' : (2 : Int) ≤ s0 ∧ (2 : Int) ≤ s1 ∧ (2 : Int) ≤ s2 := by omega
 rw [ev_congr hs' (fun i j k h0 h1 h2 => gv_lin c a0 a1 a2 h0 h1 h2) x0 x1 x2, ev_lin hs']
theorem flat_ok {ns : List Nat} {w : Nat} {f : Nat → List Int} (hn : 1 ≤ ns.length ∧ ns.length ≤ 4) (h2 : ∀ n ∈ ns, 2 ≤ n ∧ n ≤ 9) (hw : 1 ≤ w ∧ w ≤ 4) (hl : ∀ j, (f j).length = w) (hv : ∀ j, ∀ v ∈ f j, 0 ≤ v ∧ v ≤ 65535) (hP : PR ns * w ≤ 4096) : jao (nz ns) w (flat ns f (PR ns)) = true := by
 have hl : (flat ns f (PR ns)).length = PR ns * w := jhd hl
 unfold jao
 have e1 : (nz ns).length = ns.length := by simp [nz]
 have e2 : (nz ns).all (fun n => decide (2 ≤ n ∧ n ≤ 9)) = true := by
  rw [List.all_eq_true]
  intro x hx
  obtain ⟨n, hn, rfl⟩ := List.mem_map.1 hx
  have := h2 n hn
  simp; omega
 have e3 : (flat ns f (PR ns)).all (fun v => decide (0 ≤ v ∧ v ≤ 65535)) = true := by
  rw [List.all_eq_true]
  intro x hx
  obtain ⟨j, _, hj⟩ := mem_flat hx
  simpa using hv j x hj
 rw [e2, e3, jfK]
 simp only [Bool.and_true, jhN, decide_eq_true_eq]
 refine ⟨⟨by omega, by omega⟩, by omega, ?_⟩
 rw [hl]; simp
theorem jeq {a x s : Int} (ha : 0 ≤ a ∧ a ≤ 1785) (hx : 0 ≤ x ∧ x ≤ s - 1) (hs : s ≤ 4) : 0 ≤ a * x ∧ a * x ≤ 5355 := by
 have h1 := jhR ha.1 hx.1
 have h2 : a * x ≤ a * 3 := jh7 (by omega) ha.1
 omega
theorem ln_bd {s0 s1 s2 : Nat} (h0 : 2 ≤ s0 ∧ s0 ≤ 4) (h1 : 2 ≤ s1 ∧ s1 ≤ 4) (h2 : 2 ≤ s2 ∧ s2 ≤ 4) {c a0 a1 a2 : Int} (hc : 0 ≤ c ∧ c ≤ 999) (g0 : 0 ≤ a0 ∧ a0 ≤ 1785) (g1 : 0 ≤ a1 ∧ a1 ≤ 1785) (g2 : 0 ≤ a2 ∧ a2 ≤ 1785) (m : Nat) :
  (((0 ≤ (ixl [s0, s1, s2] m).getD 0 0 ∧ (ixl [s0, s1, s2] m).getD 0 0 ≤ 3) ∧ (0 ≤ a0 * (ixl [s0, s1, s2] m).getD 0 0 ∧ a0 * (ixl [s0, s1, s2] m).getD 0 0 ≤ 5355)) ∧ ((0 ≤ (ixl [s0, s1, s2] m).getD 1 0 ∧ (ixl [s0, s1, s2] m).getD 1 0 ≤ 3) ∧ (0 ≤ a1 * (ixl [s0, s1, s2] m).getD 1 0 ∧ a1 * (ixl [s0, s1, s2] m).getD 1 0 ≤ 5355)) ∧ ((0 ≤ (ixl [s0, s1, s2] m).getD 2 0 ∧ (ixl [s0, s1, s2] m).getD 2 0 ≤ 3) ∧ (0 ≤ a2 * (ixl [s0, s1, s2] m).getD 2 0 ∧ a2 * (ixl [s0, s1, s2] m).getD 2 0 ≤ 5355))) ∧ 0 ≤ linV c a0 a1 a2 [s0, s1, s2] m ∧ linV c a0 a1 a2 [s0, s1, s2] m ≤ 65535 := by
 have hpos : ∀ n ∈ [s0, s1, s2], 0 < n := by intro n hn; simp at hn; omega
 have hg : ∀ p, ((ixl [s0, s1, s2] m).getD p 0) = ((ixl [s0, s1, s2] m)[p]?).getD 0 := fun p => List.getD_eq_getElem?_getD
 have b : ∀ p n : Nat, [s0, s1, s2][p]? = some n → 0 ≤ (ixl [s0, s1, s2] m).getD p 0 ∧ (ixl [s0, s1, s2] m).getD p 0 ≤ (n : Int) - 1 := by
  intro p n h
  have e := jes _ m p n h
  have := jet hpos h e
  rw [hg, e]; exact this
 have b0 := b 0 s0 rfl
 have b1 := b 1 s1 rfl
 have b2 := b 2 s2 rfl
 unfold linV
 generalize (ixl [s0, s1, s2] m).getD 0 0 = x at *
 generalize (ixl [s0, s1, s2] m).getD 1 0 = y at *
 generalize (ixl [s0, s1, s2] m).getD 2 0 = z at *
 have m0 := jeq g0 b0 (by omega)
 have m1 := jeq g1 b1 (by omega)
 have m2 := jeq g2 b2 (by omega)
 omega
theorem ln_ok {s0 s1 s2 : Nat} (h0 : 2 ≤ s0 ∧ s0 ≤ 4) (h1 : 2 ≤ s1 ∧ s1 ≤ 4) (h2 : 2 ≤ s2 ∧ s2 ≤ 4) {c a0 a1 a2 : Int} (hc : 0 ≤ c ∧ c ≤ 999) (g0 : 0 ≤ a0 ∧ a0 ≤ 1785) (g1 : 0 ≤ a1 ∧ a1 ≤ 1785) (g2 : 0 ≤ a2 ∧ a2 ≤ 1785) :
  jao (nz [s0, s1, s2]) 1 (lnD c a0 a1 a2 [s0, s1, s2]) = true := by
 have hP : PR [s0, s1, s2] ≤ 64 := by
  simp only [PR, Nat.mul_one]
  have e1 : s1 * s2 ≤ 4 * 4 := Nat.mul_le_mul h1.2 h2.2
  have e2 : s0 * (s1 * s2) ≤ 4 * 16 := Nat.mul_le_mul h0.2 e1
  omega
 refine flat_ok (w := 1) (by simp) (fun n hn => by simp at hn; omega) (by omega) (fun _ => rfl) (fun j v hv => ?_) (by omega)
 rw [List.mem_singleton] at hv
 subst hv
 exact (ln_bd h0 h1 h2 hc g0 g1 g2 j).2
end Go.Proofs.YtgjgpdceghjajaaGreatDoor
end
