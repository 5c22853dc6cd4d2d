/- What some functions of the program answer at values that mean given lists, texts and numbers, each proved of the program's own code: part 30. Conditions: those that each theorem names. -/
import Derived.Test.YtgjgpdceghjajaaGreatDoorSimplexKnownH28
import Derived.Test.YtgjgpdceghjajaaGreatDoorSimplexKnownH29
import Derived.Test.YtgjgpdceghjajaaGreatDoorSimplexKnownH26
import Derived.Test.YtgjgpdceghjajaaGreatDoorSimplexKnownH25
import Derived.Test.YtgjgpdceghjajaaGreatDoorSimplexKnownH27
import Derived.Test.YtgjgpdceghjajaaGreatDoorSimplexKnownH15
import Derived.Test.YtgjgpdceghjajaaGreatDoorSimplexKnownH13
import Derived.Test.YtgjgpdceghjajaaGreatDoorSimplexKnownH14
set_option linter.unusedSimpArgs false
set_option linter.unusedVariables false
set_option maxHeartbeats 8000000
set_option maxRecDepth 100000
section
namespace Go.Proofs.YtgjgpdceghjajaaGreatDoor
open Go Go.V Go.Nb
theorem jdQ (p q : Rat) : (ordQ p q < 0) ↔ p < q := by
 unfold ordQ
 by_cases h : p < q
 ·rw [if_pos h]; exact ⟨fun _ => h, fun _ => by decide⟩
 ·rw [if_neg h]
  by_cases g : p = q
  ·rw [if_pos g]; exact ⟨fun h' => by omega, fun h' => absurd h' h⟩
  ·rw [if_neg g]; exact ⟨fun h' => by omega, fun h' => absurd h' h⟩
def cmpW (r0 r1 r2 : Rat) (a b : Int) : Int := ordQ (sel r0 r1 r2 b) (sel r0 r1 r2 a)
theorem iso2 (r0 r1 r2 : Rat) : isoK (cmpW r0 r1 r2) [0, 1] (2 - 1) = ord2 r0 r1 := by
 show insJ (cmpW r0 r1 r2) 1 [0, 1] = _
 unfold ord2
 have e : (cmpW r0 r1 r2 1 0 < 0) ↔ r0 < r1 := jdQ _ _
 by_cases h : r0 < r1
 ·rw [if_pos h]
  simp only [insJ]
  rw [if_pos (show cmpW r0 r1 r2 ([0, 1].getD (0 + 1) 0) ([0, 1].getD 0 0) < 0 from e.2 h)]
  rfl
 ·rw [if_neg h]
  simp only [insJ]
  rw [if_neg (show ¬ cmpW r0 r1 r2 ([0, 1].getD (0 + 1) 0) ([0, 1].getD 0 0) < 0 from fun g => h (e.1 g))]
theorem jen {w : Int → Int → Int} {j : Nat} {xs : List Int} (h : w (xs.getD (j + 1) 0) (xs.getD j 0) < 0) : insJ w (j + 1) xs = insJ w j ((xs.set (j + 1) (xs.getD j 0)).set j (xs.getD (j + 1) 0)) := by
 simp only [insJ]; rw [if_pos h]
theorem jf5 {w : Int → Int → Int} {j : Nat} {xs : List Int} (h : ¬ w (xs.getD (j + 1) 0) (xs.getD j 0) < 0) : insJ w (j + 1) xs = xs := by
 simp only [insJ]; rw [if_neg h]
theorem iso3 (r0 r1 r2 : Rat) : isoK (cmpW r0 r1 r2) [0, 1, 2] (3 - 1) = ord3 r0 r1 r2 := by
 have e01 : (cmpW r0 r1 r2 1 0 < 0) ↔ r0 < r1 := jdQ _ _
 have e02 : (cmpW r0 r1 r2 2 0 < 0) ↔ r0 < r2 := jdQ _ _
 have e12 : (cmpW r0 r1 r2 2 1 < 0) ↔ r1 < r2 := jdQ _ _
 show insJ (cmpW r0 r1 r2) 2 (insJ (cmpW r0 r1 r2) 1 [0, 1, 2]) = _
 unfold ord3
 by_cases h01 : r0 < r1
 ·rw [if_pos h01, jen (j := 0) (xs := [0, 1, 2]) (e01.2 h01)]
  show insJ (cmpW r0 r1 r2) 2 [1, 0, 2] = _
  by_cases h02 : r0 < r2
  ·rw [if_pos h02, jen (j := 1) (xs := [1, 0, 2]) (e02.2 h02)]
   show insJ (cmpW r0 r1 r2) 1 [1, 2, 0] = _
   by_cases h12 : r1 < r2
   ·rw [if_pos h12, jen (j := 0) (xs := [1, 2, 0]) (e12.2 h12)]
    rfl
   ·rw [if_neg h12, jf5 (j := 0) (xs := [1, 2, 0]) fun g => h12 (e12.1 g)]
  ·rw [if_neg h02, jf5 (j := 1) (xs := [1, 0, 2]) fun g => h02 (e02.1 g)]
 ·rw [if_neg h01, jf5 (j := 0) (xs := [0, 1, 2]) fun g => h01 (e01.1 g)]
  by_cases h12 : r1 < r2
  ·rw [if_pos h12, jen (j := 1) (xs := [0, 1, 2]) (e12.2 h12)]
   show insJ (cmpW r0 r1 r2) 1 [0, 2, 1] = _
   by_cases h02 : r0 < r2
   ·rw [if_pos h02, jen (j := 0) (xs := [0, 2, 1]) (e02.2 h02)]
    rfl
   ·rw [if_neg h02, jf5 (j := 0) (xs := [0, 2, 1]) fun g => h02 (e02.1 g)]
  ·rw [if_neg h12, jf5 (j := 1) (xs := [0, 1, 2]) fun g => h12 (e12.1 g)]
theorem jhg : type_of% @jhC ∧ type_of% @tn0 ∧ type_of% @tn1 ∧ type_of% @tn2 := ⟨@jhC, @tn0, @tn1, @tn2⟩
theorem cmp2_00 (R : Nat → Tx) (w : Int) (c : Called Tryz.prog 127 [.agg [.str (R 0).1, .str (R 0).2], .agg [.str (R 0).1, .str (R 0).2]] (.tup [.int .i64 w, .int .i64 0])) (hw : InR .i64 w) : Called Tryz.prog 126 [.int .i64 0, .int .i64 0, .ref [.slf 2 2 (fun j => List.take 2 (List.drop (j * 2) [.str (R 0).1, .str (R 0).2, .str (R 1).1, .str (R 1).2]))]] (.int .i64 w) := by
 refine jaa tbOk 6 ⟨Tryz.func126, rfl, rfl, jhy rfl⟩ ?_
 (conv => whnf)
 refine V.r0 jhg ?_
 refine ⟨(.take 0 (.take 1 (.take 2 (.take 3 (.take 4 (.take 5 (.take 6 (.take 7 (.ev (.cons 8 [] (.take 9 (.take 10 (.take 11 (.take 12 (.take 13 (.done)))))) (.nil))))))))))), [], ⟨by kernel_rfl, by kernel_rfl, by kernel_rfl, by kernel_rfl⟩, ?_⟩
 refine jac [(6, .int .i64 w)] [] ?_ ?_
 ·exact V.d1 jhg c
 refine V.r0 @jhC ?_
 exact Fin.of rfl
theorem cmp2_01 (R : Nat → Tx) (w : Int) (c : Called Tryz.prog 127 [.agg [.str (R 1).1, .str (R 1).2], .agg [.str (R 0).1, .str (R 0).2]] (.tup [.int .i64 w, .int .i64 0])) (hw : InR .i64 w) : Called Tryz.prog 126 [.int .i64 0, .int .i64 1, .ref [.slf 2 2 (fun j => List.take 2 (List.drop (j * 2) [.str (R 0).1, .str (R 0).2, .str (R 1).1, .str (R 1).2]))]] (.int .i64 w) := by
 refine jaa tbOk 6 ⟨Tryz.func126, rfl, rfl, jhy rfl⟩ ?_
 (conv => whnf)
 refine V.r0 jhg ?_
 refine ⟨(.take 0 (.take 1 (.take 2 (.take 3 (.take 4 (.take 5 (.take 6 (.take 7 (.ev (.cons 8 [] (.take 9 (.take 10 (.take 11 (.take 12 (.take 13 (.done)))))) (.nil))))))))))), [], ⟨by kernel_rfl, by kernel_rfl, by kernel_rfl, by kernel_rfl⟩, ?_⟩
 refine jac [(6, .int .i64 w)] [] ?_ ?_
 ·exact V.d1 jhg c
 refine V.r0 @jhC ?_
 exact Fin.of rfl
theorem cmp2_10 (R : Nat → Tx) (w : Int) (c : Called Tryz.prog 127 [.agg [.str (R 0).1, .str (R 0).2], .agg [.str (R 1).1, .str (R 1).2]] (.tup [.int .i64 w, .int .i64 0])) (hw : InR .i64 w) : Called Tryz.prog 126 [.int .i64 1, .int .i64 0, .ref [.slf 2 2 (fun j => List.take 2 (List.drop (j * 2) [.str (R 0).1, .str (R 0).2, .str (R 1).1, .str (R 1).2]))]] (.int .i64 w) := by
 refine jaa tbOk 6 ⟨Tryz.func126, rfl, rfl, jhy rfl⟩ ?_
 (conv => whnf)
 refine V.r0 jhg ?_
 refine ⟨(.take 0 (.take 1 (.take 2 (.take 3 (.take 4 (.take 5 (.take 6 (.take 7 (.ev (.cons 8 [] (.take 9 (.take 10 (.take 11 (.take 12 (.take 13 (.done)))))) (.nil))))))))))), [], ⟨by kernel_rfl, by kernel_rfl, by kernel_rfl, by kernel_rfl⟩, ?_⟩
 refine jac [(6, .int .i64 w)] [] ?_ ?_
 ·exact V.d1 jhg c
 refine V.r0 @jhC ?_
 exact Fin.of rfl
theorem cmp2_11 (R : Nat → Tx) (w : Int) (c : Called Tryz.prog 127 [.agg [.str (R 1).1, .str (R 1).2], .agg [.str (R 1).1, .str (R 1).2]] (.tup [.int .i64 w, .int .i64 0])) (hw : InR .i64 w) : Called Tryz.prog 126 [.int .i64 1, .int .i64 1, .ref [.slf 2 2 (fun j => List.take 2 (List.drop (j * 2) [.str (R 0).1, .str (R 0).2, .str (R 1).1, .str (R 1).2]))]] (.int .i64 w) := by
 refine jaa tbOk 6 ⟨Tryz.func126, rfl, rfl, jhy rfl⟩ ?_
 (conv => whnf)
 refine V.r0 jhg ?_
 refine ⟨(.take 0 (.take 1 (.take 2 (.take 3 (.take 4 (.take 5 (.take 6 (.take 7 (.ev (.cons 8 [] (.take 9 (.take 10 (.take 11 (.take 12 (.take 13 (.done)))))) (.nil))))))))))), [], ⟨by kernel_rfl, by kernel_rfl, by kernel_rfl, by kernel_rfl⟩, ?_⟩
 refine jac [(6, .int .i64 w)] [] ?_ ?_
 ·exact V.d1 jhg c
 refine V.r0 @jhC ?_
 exact Fin.of rfl
theorem cmp2 (R : Nat → Tx) (w : Int → Int → Int) (hw : ∀ a b, InR .i64 (w a b)) (c : ∀ a b : Nat, a < 2 → b < 2 → Called Tryz.prog 127 [.agg [.str (R b).1, .str (R b).2], .agg [.str (R a).1, .str (R a).2]] (.tup [.int .i64 (w a b), .int .i64 0])) : ∀ a b : Nat, a < 2 → b < 2 → Called Tryz.prog 126 [.int .i64 a, .int .i64 b, .ref [.slf 2 2 (fun j => List.take 2 (List.drop (j * 2) [.str (R 0).1, .str (R 0).2, .str (R 1).1, .str (R 1).2]))]] (.int .i64 (w a b)) := fun a b ha hb => by
 have h1 : a = 0 ∨ a = 1 := by omega
 have h2 : b = 0 ∨ b = 1 := by omega
 have k := c a b ha hb
 rcases h1 with e | e <;> rcases h2 with g | g <;> subst e <;> subst g
 ·exact cmp2_00 R _ k (hw _ _)
 ·exact cmp2_01 R _ k (hw _ _)
 ·exact cmp2_10 R _ k (hw _ _)
 ·exact cmp2_11 R _ k (hw _ _)
theorem cmp3_00 (R : Nat → Tx) (w : Int) (c : Called Tryz.prog 127 [.agg [.str (R 0).1, .str (R 0).2], .agg [.str (R 0).1, .str (R 0).2]] (.tup [.int .i64 w, .int .i64 0])) (hw : InR .i64 w) : Called Tryz.prog 126 [.int .i64 0, .int .i64 0, .ref [.slf 2 3 (fun j => List.take 2 (List.drop (j * 2) [.str (R 0).1, .str (R 0).2, .str (R 1).1, .str (R 1).2, .str (R 2).1, .str (R 2).2]))]] (.int .i64 w) := by
 refine jaa tbOk 6 ⟨Tryz.func126, rfl, rfl, jhy rfl⟩ ?_
 (conv => whnf)
 refine V.r0 jhg ?_
 refine ⟨(.take 0 (.take 1 (.take 2 (.take 3 (.take 4 (.take 5 (.take 6 (.take 7 (.ev (.cons 8 [] (.take 9 (.take 10 (.take 11 (.take 12 (.take 13 (.done)))))) (.nil))))))))))), [], ⟨by kernel_rfl, by kernel_rfl, by kernel_rfl, by kernel_rfl⟩, ?_⟩
 refine jac [(6, .int .i64 w)] [] ?_ ?_
 ·exact V.d1 jhg c
 refine V.r0 @jhC ?_
 exact Fin.of rfl
theorem cmp3_01 (R : Nat → Tx) (w : Int) (c : Called Tryz.prog 127 [.agg [.str (R 1).1, .str (R 1).2], .agg [.str (R 0).1, .str (R 0).2]] (.tup [.int .i64 w, .int .i64 0])) (hw : InR .i64 w) : Called Tryz.prog 126 [.int .i64 0, .int .i64 1, .ref [.slf 2 3 (fun j => List.take 2 (List.drop (j * 2) [.str (R 0).1, .str (R 0).2, .str (R 1).1, .str (R 1).2, .str (R 2).1, .str (R 2).2]))]] (.int .i64 w) := by
 refine jaa tbOk 6 ⟨Tryz.func126, rfl, rfl, jhy rfl⟩ ?_
 (conv => whnf)
 refine V.r0 jhg ?_
 refine ⟨(.take 0 (.take 1 (.take 2 (.take 3 (.take 4 (.take 5 (.take 6 (.take 7 (.ev (.cons 8 [] (.take 9 (.take 10 (.take 11 (.take 12 (.take 13 (.done)))))) (.nil))))))))))), [], ⟨by kernel_rfl, by kernel_rfl, by kernel_rfl, by kernel_rfl⟩, ?_⟩
 refine jac [(6, .int .i64 w)] [] ?_ ?_
 ·exact V.d1 jhg c
 refine V.r0 @jhC ?_
 exact Fin.of rfl
theorem cmp3_02 (R : Nat → Tx) (w : Int) (c : Called Tryz.prog 127 [.agg [.str (R 2).1, .str (R 2).2], .agg [.str (R 0).1, .str (R 0).2]] (.tup [.int .i64 w, .int .i64 0])) (hw : InR .i64 w) : Called Tryz.prog 126 [.int .i64 0, .int .i64 2, .ref [.slf 2 3 (fun j => List.take 2 (List.drop (j * 2) [.str (R 0).1, .str (R 0).2, .str (R 1).1, .str (R 1).2, .str (R 2).1, .str (R 2).2]))]] (.int .i64 w) := by
 refine jaa tbOk 6 ⟨Tryz.func126, rfl, rfl, jhy rfl⟩ ?_
 (conv => whnf)
 refine V.r0 jhg ?_
 refine ⟨(.take 0 (.take 1 (.take 2 (.take 3 (.take 4 (.take 5 (.take 6 (.take 7 (.ev (.cons 8 [] (.take 9 (.take 10 (.take 11 (.take 12 (.take 13 (.done)))))) (.nil))))))))))), [], ⟨by kernel_rfl, by kernel_rfl, by kernel_rfl, by kernel_rfl⟩, ?_⟩
 refine jac [(6, .int .i64 w)] [] ?_ ?_
 ·exact V.d1 jhg c
 refine V.r0 @jhC ?_
 exact Fin.of rfl
theorem cmp3_10 (R : Nat → Tx) (w : Int) (c : Called Tryz.prog 127 [.agg [.str (R 0).1, .str (R 0).2], .agg [.str (R 1).1, .str (R 1).2]] (.tup [.int .i64 w, .int .i64 0])) (hw : InR .i64 w) : Called Tryz.prog 126 [.int .i64 1, .int .i64 0, .ref [.slf 2 3 (fun j => List.take 2 (List.drop (j * 2) [.str (R 0).1, .str (R 0).2, .str (R 1).1, .str (R 1).2, .str (R 2).1, .str (R 2).2]))]] (.int .i64 w) := by
 refine jaa tbOk 6 ⟨Tryz.func126, rfl, rfl, jhy rfl⟩ ?_
 (conv => whnf)
 refine V.r0 jhg ?_
 refine ⟨(.take 0 (.take 1 (.take 2 (.take 3 (.take 4 (.take 5 (.take 6 (.take 7 (.ev (.cons 8 [] (.take 9 (.take 10 (.take 11 (.take 12 (.take 13 (.done)))))) (.nil))))))))))), [], ⟨by kernel_rfl, by kernel_rfl, by kernel_rfl, by kernel_rfl⟩, ?_⟩
 refine jac [(6, .int .i64 w)] [] ?_ ?_
 ·exact V.d1 jhg c
 refine V.r0 @jhC ?_
 exact Fin.of rfl
theorem cmp3_11 (R : Nat → Tx) (w : Int) (c : Called Tryz.prog 127 [.agg [.str (R 1).1, .str (R 1).2], .agg [.str (R 1).1, .str (R 1).2]] (.tup [.int .i64 w, .int .i64 0])) (hw : InR .i64 w) : Called Tryz.prog 126 [.int .i64 1, .int .i64 1, .ref [.slf 2 3 (fun j => List.take 2 (List.drop (j * 2) [.str (R 0).1, .str (R 0).2, .str (R 1).1, .str (R 1).2, .str (R 2).1, .str (R 2).2]))]] (.int .i64 w) := by
 refine jaa tbOk 6 ⟨Tryz.func126, rfl, rfl, jhy rfl⟩ ?_
 (conv => whnf)
 refine V.r0 jhg ?_
 refine ⟨(.take 0 (.take 1 (.take 2 (.take 3 (.take 4 (.take 5 (.take 6 (.take 7 (.ev (.cons 8 [] (.take 9 (.take 10 (.take 11 (.take 12 (.take 13 (.done)))))) (.nil))))))))))), [], ⟨by kernel_rfl, by kernel_rfl, by kernel_rfl, by kernel_rfl⟩, ?_⟩
 refine jac [(6, .int .i64 w)] [] ?_ ?_
 ·exact V.d1 jhg c
 refine V.r0 @jhC ?_
 exact Fin.of rfl
theorem cmp3_12 (R : Nat → Tx) (w : Int) (c : Called Tryz.prog 127 [.agg [.str (R 2).1, .str (R 2).2], .agg [.str (R 1).1, .str (R 1).2]] (.tup [.int .i64 w, .int .i64 0])) (hw : InR .i64 w) : Called Tryz.prog 126 [.int .i64 1, .int .i64 2, .ref [.slf 2 3 (fun j => List.take 2 (List.drop (j * 2) [.str (R 0).1, .str (R 0).2, .str (R 1).1, .str (R 1).2, .str (R 2).1, .str (R 2).2]))]] (.int .i64 w) := by
 refine jaa tbOk 6 ⟨Tryz.func126, rfl, rfl, jhy rfl⟩ ?_
 (conv => whnf)
 refine V.r0 jhg ?_
 refine ⟨(.take 0 (.take 1 (.take 2 (.take 3 (.take 4 (.take 5 (.take 6 (.take 7 (.ev (.cons 8 [] (.take 9 (.take 10 (.take 11 (.take 12 (.take 13 (.done)))))) (.nil))))))))))), [], ⟨by kernel_rfl, by kernel_rfl, by kernel_rfl, by kernel_rfl⟩, ?_⟩
 refine jac [(6, .int .i64 w)] [] ?_ ?_
 ·exact V.d1 jhg c
 refine V.r0 @jhC ?_
 exact Fin.of rfl
theorem cmp3_20 (R : Nat → Tx) (w : Int) (c : Called Tryz.prog 127 [.agg [.str (R 0).1, .str (R 0).2], .agg [.str (R 2).1, .str (R 2).2]] (.tup [.int .i64 w, .int .i64 0])) (hw : InR .i64 w) : Called Tryz.prog 126 [.int .i64 2, .int .i64 0, .ref [.slf 2 3 (fun j => List.take 2 (List.drop (j * 2) [.str (R 0).1, .str (R 0).2, .str (R 1).1, .str (R 1).2, .str (R 2).1, .str (R 2).2]))]] (.int .i64 w) := by
 refine jaa tbOk 6 ⟨Tryz.func126, rfl, rfl, jhy rfl⟩ ?_
 (conv => whnf)
 refine V.r0 jhg ?_
 refine ⟨(.take 0 (.take 1 (.take 2 (.take 3 (.take 4 (.take 5 (.take 6 (.take 7 (.ev (.cons 8 [] (.take 9 (.take 10 (.take 11 (.take 12 (.take 13 (.done)))))) (.nil))))))))))), [], ⟨by kernel_rfl, by kernel_rfl, by kernel_rfl, by kernel_rfl⟩, ?_⟩
 refine jac [(6, .int .i64 w)] [] ?_ ?_
 ·exact V.d1 jhg c
 refine V.r0 @jhC ?_
 exact Fin.of rfl
theorem cmp3_21 (R : Nat → Tx) (w : Int) (c : Called Tryz.prog 127 [.agg [.str (R 1).1, .str (R 1).2], .agg [.str (R 2).1, .str (R 2).2]] (.tup [.int .i64 w, .int .i64 0])) (hw : InR .i64 w) : Called Tryz.prog 126 [.int .i64 2, .int .i64 1, .ref [.slf 2 3 (fun j => List.take 2 (List.drop (j * 2) [.str (R 0).1, .str (R 0).2, .str (R 1).1, .str (R 1).2, .str (R 2).1, .str (R 2).2]))]] (.int .i64 w) := by
 refine jaa tbOk 6 ⟨Tryz.func126, rfl, rfl, jhy rfl⟩ ?_
 (conv => whnf)
 refine V.r0 jhg ?_
 refine ⟨(.take 0 (.take 1 (.take 2 (.take 3 (.take 4 (.take 5 (.take 6 (.take 7 (.ev (.cons 8 [] (.take 9 (.take 10 (.take 11 (.take 12 (.take 13 (.done)))))) (.nil))))))))))), [], ⟨by kernel_rfl, by kernel_rfl, by kernel_rfl, by kernel_rfl⟩, ?_⟩
 refine jac [(6, .int .i64 w)] [] ?_ ?_
 ·exact V.d1 jhg c
 refine V.r0 @jhC ?_
 exact Fin.of rfl
theorem cmp3_22 (R : Nat → Tx) (w : Int) (c : Called Tryz.prog 127 [.agg [.str (R 2).1, .str (R 2).2], .agg [.str (R 2).1, .str (R 2).2]] (.tup [.int .i64 w, .int .i64 0])) (hw : InR .i64 w) : Called Tryz.prog 126 [.int .i64 2, .int .i64 2, .ref [.slf 2 3 (fun j => List.take 2 (List.drop (j * 2) [.str (R 0).1, .str (R 0).2, .str (R 1).1, .str (R 1).2, .str (R 2).1, .str (R 2).2]))]] (.int .i64 w) := by
 refine jaa tbOk 6 ⟨Tryz.func126, rfl, rfl, jhy rfl⟩ ?_
 (conv => whnf)
 refine V.r0 jhg ?_
 refine ⟨(.take 0 (.take 1 (.take 2 (.take 3 (.take 4 (.take 5 (.take 6 (.take 7 (.ev (.cons 8 [] (.take 9 (.take 10 (.take 11 (.take 12 (.take 13 (.done)))))) (.nil))))))))))), [], ⟨by kernel_rfl, by kernel_rfl, by kernel_rfl, by kernel_rfl⟩, ?_⟩
 refine jac [(6, .int .i64 w)] [] ?_ ?_
 ·exact V.d1 jhg c
 refine V.r0 @jhC ?_
 exact Fin.of rfl
theorem cmp3 (R : Nat → Tx) (w : Int → Int → Int) (hw : ∀ a b, InR .i64 (w a b)) (c : ∀ a b : Nat, a < 3 → b < 3 → Called Tryz.prog 127 [.agg [.str (R b).1, .str (R b).2], .agg [.str (R a).1, .str (R a).2]] (.tup [.int .i64 (w a b), .int .i64 0])) : ∀ a b : Nat, a < 3 → b < 3 → Called Tryz.prog 126 [.int .i64 a, .int .i64 b, .ref [.slf 2 3 (fun j => List.take 2 (List.drop (j * 2) [.str (R 0).1, .str (R 0).2, .str (R 1).1, .str (R 1).2, .str (R 2).1, .str (R 2).2]))]] (.int .i64 (w a b)) := fun a b ha hb => by
 have h1 : a = 0 ∨ a = 1 ∨ a = 2 := by omega
 have h2 : b = 0 ∨ b = 1 ∨ b = 2 := by omega
 have k := c a b ha hb
 rcases h1 with e | e | e <;> rcases h2 with g | g | g <;> subst e <;> subst g
 ·exact cmp3_00 R _ k (hw _ _)
 ·exact cmp3_01 R _ k (hw _ _)
 ·exact cmp3_02 R _ k (hw _ _)
 ·exact cmp3_10 R _ k (hw _ _)
 ·exact cmp3_11 R _ k (hw _ _)
 ·exact cmp3_12 R _ k (hw _ _)
 ·exact cmp3_20 R _ k (hw _ _)
 ·exact cmp3_21 R _ k (hw _ _)
 ·exact cmp3_22 R _ k (hw _ _)
def txq (q : Rat) : Tx := (decZ q.num, dec q.den)
def rqN (r0 r1 r2 : Rat) : Nat → Rat
 | 0 => r0
 | 1 => r1
 | _ => r2
def bqN (rq : Nat → Rat) (o : List Int) : Nat → Rat
 | 0 => 1
 | k + 1 => rq (o.getD k 0).toNat
def wqN (rq : Nat → Rat) (o : List Int) (n k : Nat) : Rat := if k = n then bqN rq o n else bqN rq o k - bqN rq o (k + 1)
def slQ (Y : Nat → Tx) (n : Nat) : D := .slf 2 n (fun j => List.take 2 (List.drop (j * 2) (wce Y n)))
theorem sel_n (r0 r1 r2 : Rat) : ∀ i : Nat, sel r0 r1 r2 (i : Int) = rqN r0 r1 r2 i
 | 0 => by unfold sel; rw [if_pos (by rfl)]; rfl
 | 1 => by unfold sel; rw [if_neg (by decide), if_pos (by rfl)]; rfl
 | k + 2 => by unfold sel; rw [if_neg (by omega), if_neg (by omega)]; rfl
theorem cmpW_n (r0 r1 r2 : Rat) (a b : Nat) : cmpW r0 r1 r2 (a : Int) (b : Int) = ordQ (rqN r0 r1 r2 b) (rqN r0 r1 r2 a) := by unfold cmpW; rw [sel_n, sel_n]
theorem ordQ_in (p q : Rat) : InR .i64 (ordQ p q) := by
 unfold ordQ
 split
 ·exact ⟨by decide, by decide⟩
 ·split <;> exact ⟨by decide, by decide⟩
theorem jbF {n : Nat} {x : Rat} {s : Int} (h : Fq n x) (h0 : 0 < n) (hs : 2 ≤ s ∧ s ≤ 9) : Fq (n + 3) (spR s x) := by
 have fs : Fq 1 ((s - 1 : Int) : Rat) := jaW (by omega) (by omega)
 have bb := jd1 hs.1 x
 have fi : Fq 1 ((spB s x : Int) : Rat) := jaW (by omega) (by omega)
 exact ((fq_cl h h0).mul fs).sub fi
theorem fq_rq {r0 r1 r2 : Rat} (h0 : Fq 43 r0) (h1 : Fq 43 r1) (h2 : Fq 43 r2) : ∀ k, Fq 43 (rqN r0 r1 r2 k)
 | 0 => h0
 | 1 => h1
 | _ + 2 => h2
theorem fq_one : Fq 43 1 := ⟨by decide, by decide⟩
theorem jgU : Fq 43 0 := ⟨by decide, by decide⟩
theorem fq_bq {rq : Nat → Rat} (h : ∀ k, Fq 43 (rq k)) (o : List Int) : ∀ k, Fq 43 (bqN rq o k)
 | 0 => fq_one
 | k + 1 => h _
theorem fq_wq {rq : Nat → Rat} (h : ∀ k, Fq 43 (rq k)) (o : List Int) (n k : Nat) : Fq 87 (wqN rq o n k) := by
 unfold wqN
 split
 ·exact (fq_bq h o n).mono (by decide)
 ·exact (fq_bq h o k).sub (fq_bq h o (k + 1))
theorem find2_q {x0 x1 : Rat} {z0 z1 : Int} (out : Int) (data : List Int) (h0 : Fq 40 x0) (h1 : Fq 40 x1) (s0 : 2 ≤ z0 ∧ z0 ≤ 9) (s1 : 2 ≤ z1 ∧ z1 ≤ 9) :
  Called Tryz.prog 79 [.agg [.ints .i64 [z0, z1], .int .i64 out, .ints .i64 data], slQ (fun i => txq (rqN x0 x1 0 i)) 2] (.tup [.agg [.ints .i64 [z0, z1], .int .i64 out, .ints .i64 data, .ints .i64 [spB z0 x0, spB z1 x1], .ints .i64 (ord2 (spR z0 x0) (spR z1 x1)), slQ (fun k => txq (wqN (rqN (spR z0 x0) (spR z1 x1) 0) (ord2 (spR z0 x0) (spR z1 x1)) 2 k)) 3], .int .i64 0]) := by
 have p0 := jd0 h0 (by decide) s0
 have f0 := jbF h0 (by decide) s0
 have p1 := jd0 h1 (by decide) s1
 have f1 := jbF h1 (by decide) s1
 have io := jar (n := 1) (by omega)
 rw [show ((1 : Int) : Rat) = 1 from rfl] at io
 have fr : ∀ k, Fq 43 (rqN (spR z0 x0) (spR z1 x1) 0 k) := fq_rq f0 f1 jgU
 have cm := cmp2 (fun i => txq (rqN (spR z0 x0) (spR z1 x1) 0 i)) (cmpW (spR z0 x0) (spR z1 x1) 0) (fun a b => ordQ_in _ _) (fun a b _ _ => by
  have c := zcmp (fr b) (fr a) (by decide) (by decide)
  rw [← cmpW_n] at c
  exact c)
 have g := find2_t z0 z1 out (spB z0 x0) (spB z1 x1) data _ _ _ _ _ _ (fun i => txq (rqN (spR z0 x0) (spR z1 x1) 0 i)) (fun k => txq (bqN (rqN (spR z0 x0) (spR z1 x1) 0) (isoK (cmpW (spR z0 x0) (spR z1 x1) 0) [0, 1] (2 - 1)) k)) (fun k => txq (bqN (rqN (spR z0 x0) (spR z1 x1) 0) (isoK (cmpW (spR z0 x0) (spR z1 x1) 0) [0, 1] (2 - 1)) k - bqN (rqN (spR z0 x0) (spR z1 x1) 0) (isoK (cmpW (spR z0 x0) (spR z1 x1) 0) [0, 1] (2 - 1)) (k + 1))) p0 p1 io (cmpW (spR z0 x0) (spR z1 x1) 0) cm rfl (fun k _ => rfl) (fun k _ => zsub (fq_bq fr _ k) (fq_bq fr _ (k + 1)) (by decide) (by decide) (by decide))
 have e : isoK (cmpW (spR z0 x0) (spR z1 x1) 0) [0, 1] (2 - 1) = (ord2 (spR z0 x0) (spR z1 x1)) := iso2 _ _ _
 rw [e] at g
 exact g
theorem find3_q {x0 x1 x2 : Rat} {z0 z1 z2 : Int} (out : Int) (data : List Int) (h0 : Fq 40 x0) (h1 : Fq 40 x1) (h2 : Fq 40 x2) (s0 : 2 ≤ z0 ∧ z0 ≤ 9) (s1 : 2 ≤ z1 ∧ z1 ≤ 9) (s2 : 2 ≤ z2 ∧ z2 ≤ 9) :
  Called Tryz.prog 79 [.agg [.ints .i64 [z0, z1, z2], .int .i64 out, .ints .i64 data], slQ (fun i => txq (rqN x0 x1 x2 i)) 3] (.tup [.agg [.ints .i64 [z0, z1, z2], .int .i64 out, .ints .i64 data, .ints .i64 [spB z0 x0, spB z1 x1, spB z2 x2], .ints .i64 (ord3 (spR z0 x0) (spR z1 x1) (spR z2 x2)), slQ (fun k => txq (wqN (rqN (spR z0 x0) (spR z1 x1) (spR z2 x2)) (ord3 (spR z0 x0) (spR z1 x1) (spR z2 x2)) 3 k)) 4], .int .i64 0]) := by
 have p0 := jd0 h0 (by decide) s0
 have f0 := jbF h0 (by decide) s0
 have p1 := jd0 h1 (by decide) s1
 have f1 := jbF h1 (by decide) s1
 have p2 := jd0 h2 (by decide) s2
 have f2 := jbF h2 (by decide) s2
 have io := jar (n := 1) (by omega)
 rw [show ((1 : Int) : Rat) = 1 from rfl] at io
 have fr : ∀ k, Fq 43 (rqN (spR z0 x0) (spR z1 x1) (spR z2 x2) k) := fq_rq f0 f1 f2
 have cm := cmp3 (fun i => txq (rqN (spR z0 x0) (spR z1 x1) (spR z2 x2) i)) (cmpW (spR z0 x0) (spR z1 x1) (spR z2 x2)) (fun a b => ordQ_in _ _) (fun a b _ _ => by
  have c := zcmp (fr b) (fr a) (by decide) (by decide)
  rw [← cmpW_n] at c
  exact c)
 have g := find3_t z0 z1 z2 out (spB z0 x0) (spB z1 x1) (spB z2 x2) data _ _ _ _ _ _ _ _ (fun i => txq (rqN (spR z0 x0) (spR z1 x1) (spR z2 x2) i)) (fun k => txq (bqN (rqN (spR z0 x0) (spR z1 x1) (spR z2 x2)) (isoK (cmpW (spR z0 x0) (spR z1 x1) (spR z2 x2)) [0, 1, 2] (3 - 1)) k)) (fun k => txq (bqN (rqN (spR z0 x0) (spR z1 x1) (spR z2 x2)) (isoK (cmpW (spR z0 x0) (spR z1 x1) (spR z2 x2)) [0, 1, 2] (3 - 1)) k - bqN (rqN (spR z0 x0) (spR z1 x1) (spR z2 x2)) (isoK (cmpW (spR z0 x0) (spR z1 x1) (spR z2 x2)) [0, 1, 2] (3 - 1)) (k + 1))) p0 p1 p2 io (cmpW (spR z0 x0) (spR z1 x1) (spR z2 x2)) cm rfl (fun k _ => rfl) (fun k _ => zsub (fq_bq fr _ k) (fq_bq fr _ (k + 1)) (by decide) (by decide) (by decide))
 have e : isoK (cmpW (spR z0 x0) (spR z1 x1) (spR z2 x2)) [0, 1, 2] (3 - 1) = (ord3 (spR z0 x0) (spR z1 x1) (spR z2 x2)) := iso3 _ _ _
 rw [e] at g
 exact g
end Go.Proofs.YtgjgpdceghjajaaGreatDoor
end
section
namespace Go.Proofs.YtgjgpdceghjajaaGreatDoor
open Go Go.V
theorem jdI (n l h : Int) : Called Tryz.prog 39 [.int .i64 n, .int .i64 l, .int .i64 h] (.bool (decide (l ≤ n) && decide (n ≤ h))) := by
 refine jaa tbOk 6 ⟨Tryz.func39, rfl, rfl, jhy rfl⟩ ?_
 (conv => whnf)
 refine V.st ?_
 exact Fin.same _
def prod (xs : List Int) : Int := xs.foldl (· * ·) 1
theorem jcN {xs : List Int} {k : Nat} {x : Int} (h : xs[k]? = some x) : prod (xs.take (k + 1)) = prod (xs.take k) * x := by
 rw [List.take_add_one, h]; simp [prod]
theorem product_c (xs : List Int) (hx : ∀ k, k ≤ xs.length → InR .i64 (prod (xs.take k))) (hl : xs.length ≤ 281474976710656) : Called Tryz.prog 69 [.ints .i64 xs] (.int .i64 (prod xs)) := by
 refine jaa tbOk 6 ⟨Tryz.func69, rfl, rfl, jhy rfl⟩ ?_
 (conv => whnf)
 refine lp_go (xs.length) (fun k => True) (fun k => [(3, .int .i64 (prod (xs.take k))), (8, .int .i64 k)]) (fun k => []) V.wk ?_ ?_
 ·trivial
 intro k hk _
 (conv => whnf)
 refine V.st ?_
 refine Cnd.split (CondB.mk (fun h => ?_) (fun h => ?_))
 ·simp only [decide_eq_true_eq] at h
  obtain ⟨x, hx1, ex⟩ := getx (xs := xs) (k := k) (by omega)
  have hp := jcN hx1
  have hr := hx (k + 1) (by omega)
  (conv => whnf)
  refine V.st ?_
  rw [ex, ← hp]
  refine V.st ?_
  exact ⟨k + 1, ⟨by omega, trivial⟩, by omega, V.wk⟩
 ·simp only [decide_eq_false_iff_not] at h
  (conv => whnf)
  refine V.st ?_
  have : prod (xs.take k) = prod xs := by rw [List.take_of_length_le (by omega)]
  rw [this]
  exact Fin.same _
theorem jdu (xs ys : List Int) (hl : xs.length ≤ 281474976710656) (hm : ys.length ≤ 281474976710656) : Called Tryz.prog 34 [.ints .i64 xs, .ints .i64 ys] (.bool (decide (xs = ys))) := by
 refine jaa tbOk 6 ⟨Tryz.func34, rfl, rfl, jhy rfl⟩ ?_
 (conv => whnf)
 refine Cnd.split (CondB.mk (fun h => ?_) (fun h => ?_))
 ·have hne : xs ≠ ys := fun e => by subst e; simp at h
  (conv => whnf)
  refine V.st ?_
  exact Fin.of (by simp [hne])
 have hle : xs.length = ys.length := by simp at h; omega
 clear h
 (conv => whnf)
 refine V.st ?_
 refine lp_go (xs.length) (fun k => xs.take k = ys.take k) (fun k => [(13, .int .i64 k)]) (fun k => []) V.wk ?_ ?_
 ·rfl
 intro k hk hI
 (conv => whnf)
 refine V.st ?_
 refine Cnd.split (CondB.mk (fun h => ?_) (fun h => ?_))
 ·simp only [decide_eq_true_eq] at h
  obtain ⟨x, hx1, ex⟩ := getx (xs := xs) (k := k) (by omega)
  obtain ⟨y, hy1, ey⟩ := getx (xs := ys) (k := k) (by omega)
  (conv => whnf)
  refine V.st ?_
  refine ⟨(.take 0 (.take 1 (.take 2 (.take 3 (.take 4 (.take 5 (.take 6 (.take 7 (.take 8 (.done)))))))))), [], ⟨by kernel_rfl, by kernel_rfl, by kernel_rfl, by kernel_rfl⟩, .go (jag ?_)⟩
  (conv => whnf)
  refine V.st ?_
  rw [ex, ey]
  refine Cnd.split (CondB.mk (fun hb => ?_) (fun hb => ?_))
  ·have hne : xs ≠ ys := fun e => by subst e; rw [hx1] at hy1; cases hy1; simp at hb
   (conv => whnf)
   refine V.st ?_
   exact Fin.of (by simp [hne])
  ·have hxy : x = y := by simpa using hb
   (conv => whnf)
   refine V.st ?_
   exact ⟨k + 1, ⟨by omega, (by rw [List.take_add_one, List.take_add_one, hI, hx1, hy1, hxy])⟩, by omega, V.wk⟩
 ·simp only [decide_eq_false_iff_not] at h
  have : xs = ys := by rw [← List.take_of_length_le (l := xs) (i := k) (by omega), ← List.take_of_length_le (l := ys) (i := k) (by omega), hI]
  (conv => whnf)
  refine V.st ?_
  exact Fin.of (by simp [this])
theorem clone_c (xs : List Int) (hl : xs.length ≤ 17592186044416) : Called Tryz.prog 19 [.ints .i64 xs] (.ints .i64 xs) := by
 refine jaa tbOk 6 ⟨Tryz.func19, rfl, rfl, jhy rfl⟩ ?_
 (conv => whnf)
 refine ⟨fun h => ?_, fun _ => ?_⟩
 ·have hx := h rfl
  subst hx
  (conv => whnf)
  refine V.st ?_
  exact Fin.nil _
 ·(conv => whnf)
  refine ⟨fun _ => ⟨rfl, by simpa using hl⟩, ?_⟩
  (conv => whnf)
  exact Fin.of (by simp)
def gridD (size : List Int) (out : Int) (data : List Int) : D := .agg [.ints .i64 size, .int .i64 out, .ints .i64 data]
def jan (size : List Int) (out : Int) (data : List Int) : Bool :=
 decide (1 ≤ size.length ∧ size.length ≤ 4) && decide (1 ≤ out ∧ out ≤ 4) && size.all (fun n => decide (2 ≤ n ∧ n ≤ 9)) && decide ((data.length : Int) ≤ 4096 ∧ (data.length : Int) = prod size * out) && data.all fun v => decide (0 ≤ v ∧ v ≤ 65535)
theorem jgF {size : List Int} {out : Int} {data : List Int} {k : Nat} {x : Int} (hx : size[k]? = some x) (h : ¬ (2 ≤ x ∧ x ≤ 9)) : jan size out data = false := by
 have hm : x ∈ size := List.mem_of_getElem? hx
 have : size.all (fun n => decide (2 ≤ n ∧ n ≤ 9)) = false := by
  rw [List.all_eq_false]; exact ⟨x, hm, by simpa using h⟩
 unfold jan; rw [this]; simp only [Bool.and_false, Bool.false_and]
theorem jgG {size : List Int} {out : Int} {data : List Int} {k : Nat} {x : Int} (hx : data[k]? = some x) (h : ¬ (0 ≤ x ∧ x ≤ 65535)) : jan size out data = false := by
 have hm : x ∈ data := List.mem_of_getElem? hx
 have : data.all (fun v => decide (0 ≤ v ∧ v ≤ 65535)) = false := by
  rw [List.all_eq_false]; exact ⟨x, hm, by simpa using h⟩
 unfold jan; rw [this]; simp only [Bool.and_false, Bool.false_and]
theorem jgz {size : List Int} (hall : size.all (fun n => decide (2 ≤ n ∧ n ≤ 9)) = true) (k : Nat) : 0 ≤ prod (size.take k) ∧ (size.length ≤ 4 → prod (size.take k) ≤ 6561) ∧ (size.length ≤ 4 → InR .i64 (prod (size.take k))) := by
 have hb : ∀ l : List Int, (∀ n ∈ l, 2 ≤ n ∧ n ≤ 9) → ∀ a : Int, 0 ≤ a → 0 ≤ l.foldl (· * ·) a ∧ l.foldl (· * ·) a ≤ a * 9 ^ l.length := by
  intro l
  induction l with
  | nil => intro _ a ha; simp; exact ha
  | cons x l ih =>
   intro hl a ha
   have hx := hl x (by simp)
   have h1 : 0 ≤ a * x := jhB ha (by omega)
   have h2 := ih (fun n hn => hl n (by simp [hn])) (a * x) h1
   refine ⟨h2.1, Int.le_trans h2.2 ?_⟩
   have h3 : a * x ≤ a * 9 := jhQ hx.2 ha
   have h4 : a * x * 9 ^ l.length ≤ a * 9 * 9 ^ l.length := jhI h3 (Int.pow_nonneg (by omega))
   have h5 : a * 9 ^ (x :: l).length = a * 9 * 9 ^ l.length := by
    rw [List.length_cons, Int.pow_succ, jhO _ 9, ← jhP]
   rw [h5]; exact h4
 simp only [List.all_eq_true, decide_eq_true_eq] at hall
 have h1 := hb (size.take k) (fun n hn => hall n (List.mem_of_mem_take hn)) 1 (by omega)
 have h2 : size.length ≤ 4 → prod (size.take k) ≤ 6561 := by
  intro h
  refine Int.le_trans h1.2 ?_
  have : (size.take k).length ≤ 4 := by simp; omega
  generalize (size.take k).length = m at this
  match m, this with
  | 0, _ => decide
  | 1, _ => decide
  | 2, _ => decide
  | 3, _ => decide
  | 4, _ => decide
  | m + 5, h => omega
 refine ⟨h1.1, h2, fun h => ?_⟩
 have h3 := h2 h
 have h4 := h1.1
 simp only [V.InR, lo, hi]
 simp only [prod] at *
 omega
theorem prodm_bd {size : List Int} {out : Int} (hall : size.all (fun n => decide (2 ≤ n ∧ n ≤ 9)) = true) (h1 : size.length ≤ 4) (h2 : 1 ≤ out ∧ out ≤ 4) : InR .i64 (prod size * out) := by
 have h3 := jgz hall size.length
 rw [List.take_length] at h3
 have h4 : prod size ≤ 6561 := h3.2.1 h1
 have h5 : 0 ≤ prod size * out := jhB h3.1 (by omega)
 have h6 : prod size * out ≤ 6561 * 4 := Int.mul_le_mul h4 h2.2 (by omega) (by omega)
 simp only [V.InR, lo, hi]; omega
theorem jch (size : List Int) (out : Int) (data : List Int) (hs : size.length ≤ 281474976710656) (hd : data.length ≤ 281474976710656) :
  Called Tryz.prog 37 [gridD size out data] (.int .i64 (if jan size out data then 0 else 100)) := by
 refine jaa tbOk 6 ⟨Tryz.func37, rfl, rfl, jhy rfl⟩ ?_
 (conv => whnf)
 refine V.st ?_
 repeat ((try ((with_reducible refine .ext ?_); (conv => whnf))); (with_reducible refine jab (r := ?_) ?_ ?_); rotate_left; (focus (first | exact (jdI _ _ _))); (conv => whnf); refine V.st ?_)
 refine Cnd.split (CondB.mk (fun h => ?_) (fun h => ?_))
 ·(conv => whnf)
  refine V.st ?_
  refine Fin.of ?_
  have : jan size out data = false := by
   simp only [jan]
   simp at h
   simp
   omega
  rw [this]; rfl
 have h1 : 1 ≤ size.length ∧ size.length ≤ 4 ∧ 1 ≤ out ∧ out ≤ 4 := by
  simp at h; omega
 clear h
 (conv => whnf)
 refine V.st ?_
 refine lp_inv size.length (fun k => (size.take k).all (fun n => decide (2 ≤ n ∧ n ≤ 9)) = true) (fun k => [(1, .box 1 0), (19, .ints .i64 size), (20, .int .i64 size.length), (21, .int .i64 k)]) (fun _ => [(1, .box [.ints .i64 size, .int .i64 out, .ints .i64 data])]) ?_ rfl ?_
 ·exact Wk.of ⟨rfl, rfl, rfl, rfl, trivial⟩ ⟨rfl, trivial⟩
 intro k hk hI
 (conv => whnf)
 refine V.st ?_
 refine Cnd.split (CondB.mk (fun h => ?_) (fun h => ?_))
 ·simp only [decide_eq_true_eq] at h
  obtain ⟨x, hx1⟩ : ∃ x, size[k]? = some x := ⟨size[k], List.getElem?_eq_getElem (by omega)⟩
  have ex := V.getD_toNat size k x hx1
  (conv => whnf)
  refine V.st ?_
  repeat ((try ((with_reducible refine .ext ?_); (conv => whnf))); (with_reducible refine jab (r := ?_) ?_ ?_); rotate_left; (focus (first | exact (jdI _ _ _))); (conv => whnf); refine V.st ?_)
  rw [ex]
  refine Cnd.split (CondB.mk (fun h => ?_) (fun h => ?_))
  ·(conv => whnf)
   refine V.st ?_
   refine Fin.of ?_
   rw [jgF hx1 (by simp at h; omega)]; rfl
  ·(conv => whnf)
   refine V.st ?_
   exact ⟨k + 1, ⟨by omega, by rw [List.take_add_one, List.all_append, hI, hx1]; simp at h ⊢; omega⟩, by omega, Wk.of ⟨rfl, rfl, rfl, rfl, trivial⟩ ⟨rfl, trivial⟩⟩
 ·(conv => whnf)
  refine V.st ?_
  simp only [decide_eq_false_iff_not] at h
  have hall : size.all (fun n => decide (2 ≤ n ∧ n ≤ 9)) = true := by rw [← hI, List.take_of_length_le (by omega)]
  have hp := jgz hall
  have hm := prodm_bd hall h1.2.1 h1.2.2
  refine ⟨(.take 0 (.take 1 (.take 2 (.take 3 (.take 4 (.take 5 (.take 6 (.take 7 (.take 8 (.take 9 (.take 11 (.take 12 (.ev (.cons 10 [12, 11, 7, 6, 5] (.take 13 (.take 14 (.take 15 (.done)))) (.nil))))))))))))))), [], ⟨by kernel_rfl, by kernel_rfl, by kernel_rfl, by kernel_rfl⟩, .go (jag ?_)⟩
  (conv => whnf)
  refine V.st ?_
  repeat ((try ((with_reducible refine .ext ?_); (conv => whnf))); (with_reducible refine jab (r := ?_) ?_ ?_); rotate_left; (focus (first | exact (product_c _ (fun k _ => (hp k).2.2 h1.2.1) hs))); (conv => whnf); refine V.st ?_)
  refine Cnd.split (CondB.mk (fun h => ?_) (fun h => ?_))
  ·(conv => whnf)
   refine V.st ?_
   refine Fin.of ?_
   have : jan size out data = false := by
    unfold jan
    have : (decide ((data.length : Int) ≤ 4096 ∧ (data.length : Int) = prod size * out)) = false := by simp at h ⊢; omega
    rw [this]; simp
   rw [this]; rfl
  have h2 : (data.length : Int) ≤ 4096 ∧ (data.length : Int) = prod size * out := by simp at h; omega
  clear h
  (conv => whnf)
  refine V.st ?_
  refine lp_inv data.length (fun k => (data.take k).all (fun v => decide (0 ≤ v ∧ v ≤ 65535)) = true) (fun k => [(1, .box 1 0), (46, .ints .i64 data), (47, .int .i64 data.length), (48, .int .i64 k)]) (fun _ => [(1, .box [.ints .i64 size, .int .i64 out, .ints .i64 data])]) ?_ rfl ?_
  ·exact Wk.of ⟨rfl, rfl, rfl, rfl, trivial⟩ ⟨rfl, trivial⟩
  intro k hk hI
  (conv => whnf)
  refine V.st ?_
  refine Cnd.split (CondB.mk (fun h => ?_) (fun h => ?_))
  ·simp only [decide_eq_true_eq] at h
   obtain ⟨x, hx1⟩ : ∃ x, data[k]? = some x := ⟨data[k], List.getElem?_eq_getElem (by omega)⟩
   have ex := V.getD_toNat data k x hx1
   (conv => whnf)
   refine V.st ?_
   repeat ((try ((with_reducible refine .ext ?_); (conv => whnf))); (with_reducible refine jab (r := ?_) ?_ ?_); rotate_left; (focus (first | exact (jdI _ _ _))); (conv => whnf); refine V.st ?_)
   rw [ex]
   refine Cnd.split (CondB.mk (fun h => ?_) (fun h => ?_))
   ·(conv => whnf)
    refine V.st ?_
    refine Fin.of ?_
    rw [jgG hx1 (by simp at h; omega)]; rfl
   ·(conv => whnf)
    refine V.st ?_
    exact ⟨k + 1, ⟨by omega, by rw [List.take_add_one, List.all_append, hI, hx1]; simp at h ⊢; omega⟩, by omega, Wk.of ⟨rfl, rfl, rfl, rfl, trivial⟩ ⟨rfl, trivial⟩⟩
  ·(conv => whnf)
   refine V.st ?_
   simp only [decide_eq_false_iff_not] at h
   have hall2 : data.all (fun v => decide (0 ≤ v ∧ v ≤ 65535)) = true := by rw [← hI, List.take_of_length_le (by omega)]
   have : jan size out data = true := by
    unfold jan
    rw [hall, hall2]; simp; omega
   refine Fin.of ?_
   rw [this]; rfl
end Go.Proofs.YtgjgpdceghjajaaGreatDoor
end
