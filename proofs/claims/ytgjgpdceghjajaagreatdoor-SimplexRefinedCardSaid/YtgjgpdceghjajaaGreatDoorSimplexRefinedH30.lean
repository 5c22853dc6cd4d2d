/- What functions of the program answer at given values, part 30. Conditions: those that each theorem names. -/
import Derived.Test.YtgjgpdceghjajaaGreatDoorSimplexRefinedH29
import Derived.Test.YtgjgpdceghjajaaGreatDoorSimplexRefinedH23
import Derived.Test.YtgjgpdceghjajaaGreatDoorSimplexRefinedH24
import Derived.Test.YtgjgpdceghjajaaGreatDoorSimplexRefinedH25
import Derived.Test.YtgjgpdceghjajaaGreatDoorSimplexRefinedH13
set_option linter.unusedSimpArgs false
set_option linter.unusedVariables false
set_option maxHeartbeats 8000000
set_option maxRecDepth 100000
section
namespace Go.Proofs.YtgjgpdceghjajaaGreatDoor
open Go Go.V Go.Nb
theorem pad2 (a b c d e : Rat) : a + b + (c - 0) * d + 0 * e = a + b + c * d := by grind
theorem pad1 (a c d e f : Rat) : a + (c - 0) * d + (0 - 0) * e + 0 * f = a + c * d := by grind
theorem inr9 {z : Int} (h : 0 ≤ z ∧ z ≤ 100) : InR .i64 z := ⟨by show (-9223372036854775808 : Int) ≤ z; omega, by show z ≤ 9223372036854775807; omega⟩
theorem corn1 {O : List Int} (h : O = [0]) (b0 : Int) : O.length = 1 ∧ (∀ k, k < 1 → 0 ≤ O.getD k 0 ∧ O.getD k 0 < 4) ∧ ∀ k, k < 2 → ∃ i0 : Int, atK [b0, 0, 0, 0] O k = [i0, 0, 0, 0] ∧ b0 ≤ i0 ∧ i0 ≤ b0 + 1 := by
 subst h
 ·refine ⟨rfl, fun k hk => ?_, fun k hk => ?_⟩
  ·have h : k = 0 := by omega
   subst h
   decide
  ·have h : k = 0 ∨ k = 1 := by omega
   rcases h with rfl | rfl
   ·exact ⟨b0, rfl, by omega⟩
   ·exact ⟨b0 + 1, rfl, by omega⟩
theorem ev1_sm {x0 : Rat} {z0 : Int} (s0 : 2 ≤ z0) (out : Int) (data : List Int) (j : Nat) : evQ [z0] out data x0 0 0 j = smF (fun k => wqN (rqN (spR z0 x0) 0 0) [0] 1 k * (((slot data (pz ([z0].zip ((atK [spB z0 x0, 0, 0, 0] [0] k).take 1)) * out) out).getD j 0 : Int) : Rat)) 1 / 65535 := by
 unfold evQ
 refine congrArg (· / 65535) ?_
 show evF z0 2 2 (gvF [z0] out data j) x0 0 0 = _
 unfold evF
 rw [sp_20.1, sp_20.2, ord3_10 (spR_nn s0 x0)]
 all_goals exact pad1 _ _ _ _ _
theorem valq1 {x0 : Rat} {z0 out : Int} {data : List Int} (hg : jal [z0] out data = true) (h0 : Fq 40 x0) :
  Called Tryz.prog 45 [.agg [.ints .i64 [z0], .int .i64 out, .ints .i64 data, .ints .i64 [spB z0 x0], .ints .i64 [0], slQ (fun k => txq (wqN (rqN (spR z0 x0) 0 0) [0] 1 k)) 2]] (.tup [slQ (fun j => txq (evQ [z0] out data x0 0 0 j)) out.toNat, .int .i64 0]) := by
 have og := jat hg
 have s0 := og.2.1 z0 (by simp)
 have f0 := jbj h0 (by decide) s0
 have b0 := jdZ s0.1 x0
 have fr : ∀ k, Fq 43 (rqN (spR z0 x0) 0 0 k) := fq_rq f0 jco jco
 obtain ⟨ol, ox, oc⟩ := corn1 (O := [0]) rfl (spB z0 x0)
 have oi : ∀ k, k < 2 → okIdx [z0] ((atK [spB z0 x0, 0, 0, 0] [0] k).take 1) = true := by
  intro k hk
  obtain ⟨i0, e, hh⟩ := oc k hk
  rw [e]
  simp [okIdx]
  omega
 have g := valU1 z0 (spB z0 x0) out data [0] (rqN (spR z0 x0) 0 0) fr (fun k => slot data (pz ([z0].zip ((atK [spB z0 x0, 0, 0, 0] [0] k).take 1)) * out) out) og.1 (fun k hk => ⟨jc1 hg (oi k hk), jbI og.2.2.2 _ _⟩) ol ox (fun k hk => ?_) (fun k hk => ?_)
 ·rw [show (fun j => txq (evQ [z0] out data x0 0 0 j)) = _ from funext fun j => congrArg txq (ev1_sm s0.1 out data j)]
  exact g
 ·obtain ⟨i0, e, hh⟩ := oc k (by omega)
  rw [e]
  refine inr9 ?_
  have := jbB (l := [i0, 0, 0, 0]) (p := fun v => 0 ≤ v ∧ v ≤ 9) (by intro v hv; simp only [jiL, List.not_mem_nil, or_false] at hv; omega) (by omega) (([0] : List Int).getD k 0).toNat
  omega
 ·exact point1_t z0 (spB z0 x0) out data _ _ _ (fun k => txq (wqN (rqN (spR z0 x0) 0 0) [0] 1 k)) (ja0 _ _ k rfl) (jfC hg (oi k hk) (by simp) (by rw [jiQ]; omega))
theorem corn2 {O : List Int} (h : O = [0, 1] ∨ O = [1, 0]) (b0 b1 : Int) : O.length = 2 ∧ (∀ k, k < 2 → 0 ≤ O.getD k 0 ∧ O.getD k 0 < 4) ∧ ∀ k, k < 3 → ∃ i0 i1 : Int, atK [b0, b1, 0, 0] O k = [i0, i1, 0, 0] ∧ b0 ≤ i0 ∧ i0 ≤ b0 + 1 ∧ b1 ≤ i1 ∧ i1 ≤ b1 + 1 := by
 rcases h with rfl | rfl
 ·refine ⟨rfl, fun k hk => ?_, fun k hk => ?_⟩
  ·have h : k = 0 ∨ k = 1 := by omega
   rcases h with rfl | rfl <;> decide
  ·have h : k = 0 ∨ k = 1 ∨ k = 2 := by omega
   rcases h with rfl | rfl | rfl
   ·exact ⟨b0, b1, rfl, by omega⟩
   ·exact ⟨b0 + 1, b1, rfl, by omega⟩
   ·exact ⟨b0 + 1, b1 + 1, rfl, by omega⟩
 ·refine ⟨rfl, fun k hk => ?_, fun k hk => ?_⟩
  ·have h : k = 0 ∨ k = 1 := by omega
   rcases h with rfl | rfl <;> decide
  ·have h : k = 0 ∨ k = 1 ∨ k = 2 := by omega
   rcases h with rfl | rfl | rfl
   ·exact ⟨b0, b1, rfl, by omega⟩
   ·exact ⟨b0, b1 + 1, rfl, by omega⟩
   ·exact ⟨b0 + 1, b1 + 1, rfl, by omega⟩
theorem ev2_sm {x0 x1 : Rat} {z0 z1 : Int} (s0 : 2 ≤ z0) (s1 : 2 ≤ z1) (out : Int) (data : List Int) (j : Nat) : evQ [z0, z1] out data x0 x1 0 j = smF (fun k => wqN (rqN (spR z0 x0) (spR z1 x1) 0) (ord2 (spR z0 x0) (spR z1 x1)) 2 k * (((slot data (pz ([z0, z1].zip ((atK [spB z0 x0, spB z1 x1, 0, 0] (ord2 (spR z0 x0) (spR z1 x1)) k).take 2)) * out) out).getD j 0 : Int) : Rat)) 2 / 65535 := by
 unfold evQ
 refine congrArg (· / 65535) ?_
 show evF z0 z1 2 (gvF [z0, z1] out data j) x0 x1 0 = _
 unfold evF
 rw [sp_20.1, sp_20.2, ord3_20 (spR_nn s0 x0) (spR_nn s1 x1)]
 rcases ord2_mem (spR z0 x0) (spR z1 x1) with e | e
 all_goals rw [e]
 all_goals exact pad2 _ _ _ _ _
theorem valq2 {x0 x1 : Rat} {z0 z1 out : Int} {data : List Int} (hg : jal [z0, z1] out data = true) (h0 : Fq 40 x0) (h1 : Fq 40 x1) :
  Called Tryz.prog 45 [.agg [.ints .i64 [z0, z1], .int .i64 out, .ints .i64 data, .ints .i64 [spB z0 x0, spB z1 x1], .ints .i64 (ord2 (spR z0 x0) (spR z1 x1)), slQ (fun k => txq (wqN (rqN (spR z0 x0) (spR z1 x1) 0) (ord2 (spR z0 x0) (spR z1 x1)) 2 k)) 3]] (.tup [slQ (fun j => txq (evQ [z0, z1] out data x0 x1 0 j)) out.toNat, .int .i64 0]) := by
 have og := jat hg
 have s0 := og.2.1 z0 (by simp)
 have f0 := jbj h0 (by decide) s0
 have b0 := jdZ s0.1 x0
 have s1 := og.2.1 z1 (by simp)
 have f1 := jbj h1 (by decide) s1
 have b1 := jdZ s1.1 x1
 have fr : ∀ k, Fq 43 (rqN (spR z0 x0) (spR z1 x1) 0 k) := fq_rq f0 f1 jco
 obtain ⟨ol, ox, oc⟩ := corn2 (O := (ord2 (spR z0 x0) (spR z1 x1))) (ord2_mem _ _) (spB z0 x0) (spB z1 x1)
 have oi : ∀ k, k < 3 → okIdx [z0, z1] ((atK [spB z0 x0, spB z1 x1, 0, 0] (ord2 (spR z0 x0) (spR z1 x1)) k).take 2) = true := by
  intro k hk
  obtain ⟨i0, i1, e, hh⟩ := oc k hk
  rw [e]
  simp [okIdx]
  omega
 have g := valU2 z0 z1 (spB z0 x0) (spB z1 x1) out data (ord2 (spR z0 x0) (spR z1 x1)) (rqN (spR z0 x0) (spR z1 x1) 0) fr (fun k => slot data (pz ([z0, z1].zip ((atK [spB z0 x0, spB z1 x1, 0, 0] (ord2 (spR z0 x0) (spR z1 x1)) k).take 2)) * out) out) og.1 (fun k hk => ⟨jc1 hg (oi k hk), jbI og.2.2.2 _ _⟩) ol ox (fun k hk => ?_) (fun k hk => ?_)
 ·rw [show (fun j => txq (evQ [z0, z1] out data x0 x1 0 j)) = _ from funext fun j => congrArg txq (ev2_sm s0.1 s1.1 out data j)]
  exact g
 ·obtain ⟨i0, i1, e, hh⟩ := oc k (by omega)
  rw [e]
  refine inr9 ?_
  have := jbB (l := [i0, i1, 0, 0]) (p := fun v => 0 ≤ v ∧ v ≤ 9) (by intro v hv; simp only [jiL, List.not_mem_nil, or_false] at hv; omega) (by omega) (((ord2 (spR z0 x0) (spR z1 x1)) : List Int).getD k 0).toNat
  omega
 ·exact point2_t z0 z1 (spB z0 x0) (spB z1 x1) out data _ _ _ (fun k => txq (wqN (rqN (spR z0 x0) (spR z1 x1) 0) (ord2 (spR z0 x0) (spR z1 x1)) 2 k)) (ja0 _ _ k rfl) (jfC hg (oi k hk) (by simp) (by rw [jiQ]; omega))
theorem corn3 {O : List Int} (h : O = [0, 1, 2] ∨ O = [0, 2, 1] ∨ O = [1, 0, 2] ∨ O = [1, 2, 0] ∨ O = [2, 0, 1] ∨ O = [2, 1, 0]) (b0 b1 b2 : Int) : O.length = 3 ∧ (∀ k, k < 3 → 0 ≤ O.getD k 0 ∧ O.getD k 0 < 4) ∧ ∀ k, k < 4 → ∃ i0 i1 i2 : Int, atK [b0, b1, b2, 0] O k = [i0, i1, i2, 0] ∧ b0 ≤ i0 ∧ i0 ≤ b0 + 1 ∧ b1 ≤ i1 ∧ i1 ≤ b1 + 1 ∧ b2 ≤ i2 ∧ i2 ≤ b2 + 1 := by
 rcases h with rfl | rfl | rfl | rfl | rfl | rfl
 ·refine ⟨rfl, fun k hk => ?_, fun k hk => ?_⟩
  ·have h : k = 0 ∨ k = 1 ∨ k = 2 := by omega
   rcases h with rfl | rfl | rfl <;> decide
  ·have h : k = 0 ∨ k = 1 ∨ k = 2 ∨ k = 3 := by omega
   rcases h with rfl | rfl | rfl | rfl
   ·exact ⟨b0, b1, b2, rfl, by omega⟩
   ·exact ⟨b0 + 1, b1, b2, rfl, by omega⟩
   ·exact ⟨b0 + 1, b1 + 1, b2, rfl, by omega⟩
   ·exact ⟨b0 + 1, b1 + 1, b2 + 1, rfl, by omega⟩
 ·refine ⟨rfl, fun k hk => ?_, fun k hk => ?_⟩
  ·have h : k = 0 ∨ k = 1 ∨ k = 2 := by omega
   rcases h with rfl | rfl | rfl <;> decide
  ·have h : k = 0 ∨ k = 1 ∨ k = 2 ∨ k = 3 := by omega
   rcases h with rfl | rfl | rfl | rfl
   ·exact ⟨b0, b1, b2, rfl, by omega⟩
   ·exact ⟨b0 + 1, b1, b2, rfl, by omega⟩
   ·exact ⟨b0 + 1, b1, b2 + 1, rfl, by omega⟩
   ·exact ⟨b0 + 1, b1 + 1, b2 + 1, rfl, by omega⟩
 ·refine ⟨rfl, fun k hk => ?_, fun k hk => ?_⟩
  ·have h : k = 0 ∨ k = 1 ∨ k = 2 := by omega
   rcases h with rfl | rfl | rfl <;> decide
  ·have h : k = 0 ∨ k = 1 ∨ k = 2 ∨ k = 3 := by omega
   rcases h with rfl | rfl | rfl | rfl
   ·exact ⟨b0, b1, b2, rfl, by omega⟩
   ·exact ⟨b0, b1 + 1, b2, rfl, by omega⟩
   ·exact ⟨b0 + 1, b1 + 1, b2, rfl, by omega⟩
   ·exact ⟨b0 + 1, b1 + 1, b2 + 1, rfl, by omega⟩
 ·refine ⟨rfl, fun k hk => ?_, fun k hk => ?_⟩
  ·have h : k = 0 ∨ k = 1 ∨ k = 2 := by omega
   rcases h with rfl | rfl | rfl <;> decide
  ·have h : k = 0 ∨ k = 1 ∨ k = 2 ∨ k = 3 := by omega
   rcases h with rfl | rfl | rfl | rfl
   ·exact ⟨b0, b1, b2, rfl, by omega⟩
   ·exact ⟨b0, b1 + 1, b2, rfl, by omega⟩
   ·exact ⟨b0, b1 + 1, b2 + 1, rfl, by omega⟩
   ·exact ⟨b0 + 1, b1 + 1, b2 + 1, rfl, by omega⟩
 ·refine ⟨rfl, fun k hk => ?_, fun k hk => ?_⟩
  ·have h : k = 0 ∨ k = 1 ∨ k = 2 := by omega
   rcases h with rfl | rfl | rfl <;> decide
  ·have h : k = 0 ∨ k = 1 ∨ k = 2 ∨ k = 3 := by omega
   rcases h with rfl | rfl | rfl | rfl
   ·exact ⟨b0, b1, b2, rfl, by omega⟩
   ·exact ⟨b0, b1, b2 + 1, rfl, by omega⟩
   ·exact ⟨b0 + 1, b1, b2 + 1, rfl, by omega⟩
   ·exact ⟨b0 + 1, b1 + 1, b2 + 1, rfl, by omega⟩
 ·refine ⟨rfl, fun k hk => ?_, fun k hk => ?_⟩
  ·have h : k = 0 ∨ k = 1 ∨ k = 2 := by omega
   rcases h with rfl | rfl | rfl <;> decide
  ·have h : k = 0 ∨ k = 1 ∨ k = 2 ∨ k = 3 := by omega
   rcases h with rfl | rfl | rfl | rfl
   ·exact ⟨b0, b1, b2, rfl, by omega⟩
   ·exact ⟨b0, b1, b2 + 1, rfl, by omega⟩
   ·exact ⟨b0, b1 + 1, b2 + 1, rfl, by omega⟩
   ·exact ⟨b0 + 1, b1 + 1, b2 + 1, rfl, by omega⟩
theorem ev3_sm {x0 x1 x2 : Rat} {z0 z1 z2 : Int} (s0 : 2 ≤ z0) (s1 : 2 ≤ z1) (s2 : 2 ≤ z2) (out : Int) (data : List Int) (j : Nat) : evQ [z0, z1, z2] out data x0 x1 x2 j = smF (fun k => wqN (rqN (spR z0 x0) (spR z1 x1) (spR z2 x2)) (ord3 (spR z0 x0) (spR z1 x1) (spR z2 x2)) 3 k * (((slot data (pz ([z0, z1, z2].zip ((atK [spB z0 x0, spB z1 x1, spB z2 x2, 0] (ord3 (spR z0 x0) (spR z1 x1) (spR z2 x2)) k).take 3)) * out) out).getD j 0 : Int) : Rat)) 3 / 65535 := by
 unfold evQ
 refine congrArg (· / 65535) ?_
 show evF z0 z1 z2 (gvF [z0, z1, z2] out data j) x0 x1 x2 = _
 unfold evF
 rcases ord3_mem (spR z0 x0) (spR z1 x1) (spR z2 x2) with e | e | e | e | e | e
 all_goals rw [e]
 all_goals exact rfl
theorem valq3 {x0 x1 x2 : Rat} {z0 z1 z2 out : Int} {data : List Int} (hg : jal [z0, z1, z2] out data = true) (h0 : Fq 40 x0) (h1 : Fq 40 x1) (h2 : Fq 40 x2) :
  Called Tryz.prog 45 [.agg [.ints .i64 [z0, z1, z2], .int .i64 out, .ints .i64 data, .ints .i64 [spB z0 x0, spB z1 x1, spB z2 x2], .ints .i64 (ord3 (spR z0 x0) (spR z1 x1) (spR z2 x2)), slQ (fun k => txq (wqN (rqN (spR z0 x0) (spR z1 x1) (spR z2 x2)) (ord3 (spR z0 x0) (spR z1 x1) (spR z2 x2)) 3 k)) 4]] (.tup [slQ (fun j => txq (evQ [z0, z1, z2] out data x0 x1 x2 j)) out.toNat, .int .i64 0]) := by
 have og := jat hg
 have s0 := og.2.1 z0 (by simp)
 have f0 := jbj h0 (by decide) s0
 have b0 := jdZ s0.1 x0
 have s1 := og.2.1 z1 (by simp)
 have f1 := jbj h1 (by decide) s1
 have b1 := jdZ s1.1 x1
 have s2 := og.2.1 z2 (by simp)
 have f2 := jbj h2 (by decide) s2
 have b2 := jdZ s2.1 x2
 have fr : ∀ k, Fq 43 (rqN (spR z0 x0) (spR z1 x1) (spR z2 x2) k) := fq_rq f0 f1 f2
 obtain ⟨ol, ox, oc⟩ := corn3 (O := (ord3 (spR z0 x0) (spR z1 x1) (spR z2 x2))) (ord3_mem _ _ _) (spB z0 x0) (spB z1 x1) (spB z2 x2)
 have oi : ∀ k, k < 4 → okIdx [z0, z1, z2] ((atK [spB z0 x0, spB z1 x1, spB z2 x2, 0] (ord3 (spR z0 x0) (spR z1 x1) (spR z2 x2)) k).take 3) = true := by
  intro k hk
  obtain ⟨i0, i1, i2, e, hh⟩ := oc k hk
  rw [e]
  simp [okIdx]
  omega
 have g := valU3 z0 z1 z2 (spB z0 x0) (spB z1 x1) (spB z2 x2) out data (ord3 (spR z0 x0) (spR z1 x1) (spR z2 x2)) (rqN (spR z0 x0) (spR z1 x1) (spR z2 x2)) fr (fun k => slot data (pz ([z0, z1, z2].zip ((atK [spB z0 x0, spB z1 x1, spB z2 x2, 0] (ord3 (spR z0 x0) (spR z1 x1) (spR z2 x2)) k).take 3)) * out) out) og.1 (fun k hk => ⟨jc1 hg (oi k hk), jbI og.2.2.2 _ _⟩) ol ox (fun k hk => ?_) (fun k hk => ?_)
 ·rw [show (fun j => txq (evQ [z0, z1, z2] out data x0 x1 x2 j)) = _ from funext fun j => congrArg txq (ev3_sm s0.1 s1.1 s2.1 out data j)]
  exact g
 ·obtain ⟨i0, i1, i2, e, hh⟩ := oc k (by omega)
  rw [e]
  refine inr9 ?_
  have := jbB (l := [i0, i1, i2, 0]) (p := fun v => 0 ≤ v ∧ v ≤ 9) (by intro v hv; simp only [jiL, List.not_mem_nil, or_false] at hv; omega) (by omega) (((ord3 (spR z0 x0) (spR z1 x1) (spR z2 x2)) : List Int).getD k 0).toNat
  omega
 ·exact point3_t z0 z1 z2 (spB z0 x0) (spB z1 x1) (spB z2 x2) out data _ _ _ (fun k => txq (wqN (rqN (spR z0 x0) (spR z1 x1) (spR z2 x2)) (ord3 (spR z0 x0) (spR z1 x1) (spR z2 x2)) 3 k)) (ja0 _ _ k rfl) (jfC hg (oi k hk) (by simp) (by rw [jiQ]; omega))
theorem jh7 : type_of% @jif ∧ type_of% @tn0 ∧ type_of% @tn1 ∧ type_of% @tn2 ∧ type_of% @tn3 ∧ type_of% @xt4 := ⟨@jif, @tn0, @tn1, @tn2, @tn3, @xt4⟩
theorem loc1_t (z0 out : Int) (data B O : List Int) (X : Nat → Tx) (m : Nat) (F : Nat → List D) (ck : Called Tryz.prog 37 [.agg [.ints .i64 [z0], .int .i64 out, .ints .i64 data]] (.int .i64 0)) (fc : ∀ k, k < 1 → Called Tryz.prog 78 [.agg [.str (X k).1, .str (X k).2]] (.int .i64 0)) (fi : Called Tryz.prog 79 [.agg [.ints .i64 [z0], .int .i64 out, .ints .i64 data], .slf 2 1 (fun j => List.take 2 (List.drop (j * 2) [.str (X 0).1, .str (X 0).2]))] (.tup [.agg [.ints .i64 [z0], .int .i64 out, .ints .i64 data, .ints .i64 B, .ints .i64 O, .slf 2 m F], .int .i64 0])) :
  Called Tryz.prog 44 [.agg [.ints .i64 [z0], .int .i64 out, .ints .i64 data], .slf 2 1 (fun j => List.take 2 (List.drop (j * 2) [.str (X 0).1, .str (X 0).2]))] (.tup [.agg [.ints .i64 [z0], .int .i64 out, .ints .i64 data, .ints .i64 B, .ints .i64 O, .slf 2 m F], .int .i64 0]) := by
 refine V.en tbOk Tryz.func44 ?_
 refine V.r1 @jif ck ?_
 refine Cnd.split (CondB.mk (fun h => absurd h (by simp)) (fun _ => ?_))
 refine V.r0 @jif ?_
 refine jac (0) (fun k => k ≤ 1) (fun k => 1 - k) (fun k => [(25, .int .i64 k)]) (fun k => []) ?_ ?_ ?_
 ·exact V.wk
 ·exact jib _
 intro k hk
 have hk4 : k = 0 ∨ k = 1 := by omega
 rcases hk4 with e | e
 all_goals subst e
 ·simp only [k0]
  have c := fc 0 (by omega)
  refine V.r1 (V.a3 jh7 @Bool.false_eq_true @if_false.{1}) c ?_
  exact ⟨1, by omega, by omega, V.wk⟩
 ·simp only [k1]
  refine V.r1 @jif fi ?_
  exact Fin.of rfl
theorem loc2_t (z0 z1 out : Int) (data B O : List Int) (X : Nat → Tx) (m : Nat) (F : Nat → List D) (ck : Called Tryz.prog 37 [.agg [.ints .i64 [z0, z1], .int .i64 out, .ints .i64 data]] (.int .i64 0)) (fc : ∀ k, k < 2 → Called Tryz.prog 78 [.agg [.str (X k).1, .str (X k).2]] (.int .i64 0)) (fi : Called Tryz.prog 79 [.agg [.ints .i64 [z0, z1], .int .i64 out, .ints .i64 data], .slf 2 2 (fun j => List.take 2 (List.drop (j * 2) [.str (X 0).1, .str (X 0).2, .str (X 1).1, .str (X 1).2]))] (.tup [.agg [.ints .i64 [z0, z1], .int .i64 out, .ints .i64 data, .ints .i64 B, .ints .i64 O, .slf 2 m F], .int .i64 0])) :
  Called Tryz.prog 44 [.agg [.ints .i64 [z0, z1], .int .i64 out, .ints .i64 data], .slf 2 2 (fun j => List.take 2 (List.drop (j * 2) [.str (X 0).1, .str (X 0).2, .str (X 1).1, .str (X 1).2]))] (.tup [.agg [.ints .i64 [z0, z1], .int .i64 out, .ints .i64 data, .ints .i64 B, .ints .i64 O, .slf 2 m F], .int .i64 0]) := by
 refine V.en tbOk Tryz.func44 ?_
 refine V.r1 @jif ck ?_
 refine Cnd.split (CondB.mk (fun h => absurd h (by simp)) (fun _ => ?_))
 refine V.r0 @jif ?_
 refine jac (0) (fun k => k ≤ 2) (fun k => 2 - k) (fun k => [(25, .int .i64 k)]) (fun k => []) ?_ ?_ ?_
 ·exact V.wk
 ·exact jib _
 intro k hk
 have hk4 : k = 0 ∨ k = 1 ∨ k = 2 := by omega
 rcases hk4 with e | e | e
 all_goals subst e
 ·simp only [k0]
  have c := fc 0 (by omega)
  refine V.r1 (V.a3 jh7 @Bool.false_eq_true @if_false.{1}) c ?_
  exact ⟨1, by omega, by omega, V.wk⟩
 ·simp only [k1]
  have c := fc 1 (by omega)
  refine V.r1 (V.a3 jh7 @Bool.false_eq_true @if_false.{1}) c ?_
  exact ⟨2, by omega, by omega, V.wk⟩
 ·simp only [k2]
  refine V.r1 @jif fi ?_
  exact Fin.of rfl
theorem loc3_t (z0 z1 z2 out : Int) (data B O : List Int) (X : Nat → Tx) (m : Nat) (F : Nat → List D) (ck : Called Tryz.prog 37 [.agg [.ints .i64 [z0, z1, z2], .int .i64 out, .ints .i64 data]] (.int .i64 0)) (fc : ∀ k, k < 3 → Called Tryz.prog 78 [.agg [.str (X k).1, .str (X k).2]] (.int .i64 0)) (fi : Called Tryz.prog 79 [.agg [.ints .i64 [z0, z1, z2], .int .i64 out, .ints .i64 data], .slf 2 3 (fun j => List.take 2 (List.drop (j * 2) [.str (X 0).1, .str (X 0).2, .str (X 1).1, .str (X 1).2, .str (X 2).1, .str (X 2).2]))] (.tup [.agg [.ints .i64 [z0, z1, z2], .int .i64 out, .ints .i64 data, .ints .i64 B, .ints .i64 O, .slf 2 m F], .int .i64 0])) :
  Called Tryz.prog 44 [.agg [.ints .i64 [z0, z1, z2], .int .i64 out, .ints .i64 data], .slf 2 3 (fun j => List.take 2 (List.drop (j * 2) [.str (X 0).1, .str (X 0).2, .str (X 1).1, .str (X 1).2, .str (X 2).1, .str (X 2).2]))] (.tup [.agg [.ints .i64 [z0, z1, z2], .int .i64 out, .ints .i64 data, .ints .i64 B, .ints .i64 O, .slf 2 m F], .int .i64 0]) := by
 refine V.en tbOk Tryz.func44 ?_
 refine V.r1 @jif ck ?_
 refine Cnd.split (CondB.mk (fun h => absurd h (by simp)) (fun _ => ?_))
 refine V.r0 @jif ?_
 refine jac (0) (fun k => k ≤ 3) (fun k => 3 - k) (fun k => [(25, .int .i64 k)]) (fun k => []) ?_ ?_ ?_
 ·exact V.wk
 ·exact jib _
 intro k hk
 have hk4 : k = 0 ∨ k = 1 ∨ k = 2 ∨ k = 3 := by omega
 rcases hk4 with e | e | e | e
 all_goals subst e
 ·simp only [k0]
  have c := fc 0 (by omega)
  refine V.r1 (V.a3 jh7 @Bool.false_eq_true @if_false.{1}) c ?_
  exact ⟨1, by omega, by omega, V.wk⟩
 ·simp only [k1]
  have c := fc 1 (by omega)
  refine V.r1 (V.a3 jh7 @Bool.false_eq_true @if_false.{1}) c ?_
  exact ⟨2, by omega, by omega, V.wk⟩
 ·simp only [k2]
  have c := fc 2 (by omega)
  refine V.r1 (V.a3 jh7 @Bool.false_eq_true @if_false.{1}) c ?_
  exact ⟨3, by omega, by omega, V.wk⟩
 ·simp only [k3]
  refine V.r1 @jif fi ?_
  exact Fin.of rfl
theorem eval_t (zs data B O : List Int) (out : Int) (n m e0 : Nat) (X F Y : Nat → List D) (lo : Called Tryz.prog 44 [.agg [.ints .i64 zs, .int .i64 out, .ints .i64 data], .slf 2 n X] (.tup [.agg [.ints .i64 zs, .int .i64 out, .ints .i64 data, .ints .i64 B, .ints .i64 O, .slf 2 m F], .int .i64 0])) (va : Called Tryz.prog 45 [.agg [.ints .i64 zs, .int .i64 out, .ints .i64 data, .ints .i64 B, .ints .i64 O, .slf 2 m F]] (.tup [.slf 2 e0 Y, .int .i64 0])) :
  Called Tryz.prog 15 [.agg [.ints .i64 zs, .int .i64 out, .ints .i64 data], .slf 2 n X] (.tup [.slf 2 e0 Y, .int .i64 0]) := by
 refine V.en tbOk Tryz.func15 ?_
 refine V.r2 @jif lo va ?_
 exact Fin.of rfl
theorem cell_t (zs data B O : List Int) (out : Int) (n m : Nat) (X F : Nat → List D) (lo : Called Tryz.prog 44 [.agg [.ints .i64 zs, .int .i64 out, .ints .i64 data], .slf 2 n X] (.tup [.agg [.ints .i64 zs, .int .i64 out, .ints .i64 data, .ints .i64 B, .ints .i64 O, .slf 2 m F], .int .i64 0])) :
  Called Tryz.prog 17 [.agg [.ints .i64 zs, .int .i64 out, .ints .i64 data], .slf 2 n X] (.tup [.ints .i64 B, .ints .i64 O, .slf 2 m F, .int .i64 0]) := by
 refine V.en tbOk Tryz.func17 ?_
 refine V.r1 @jif lo ?_
 refine ⟨(V.tk [0,1,2,3,4,5,6,7,8,9] .done), [], V.pok, ?_⟩
 refine jab [(4, .ints .i64 B), (5, .ints .i64 O), (6, .slf 2 m F), (7, .int .i64 0)] [] ?_ ?_
 ·exact V.d0 @jif
 refine V.r0 @jif ?_
 exact Fin.of rfl
theorem loc_len (zs data : List Int) (out : Int) (n : Nat) (X : Nat → List D) (h : n ≠ zs.length) (ck : Called Tryz.prog 37 [.agg [.ints .i64 zs, .int .i64 out, .ints .i64 data]] (.int .i64 0)) :
  Called Tryz.prog 44 [.agg [.ints .i64 zs, .int .i64 out, .ints .i64 data], .slf 2 n X] (.tup [.agg [.nil, .int .i64 0, .nil, .nil, .nil, .nil], .int .i64 2]) := by
 refine V.en tbOk Tryz.func44 ?_
 refine V.r1 @jif ck ?_
 refine Cnd.split (CondB.mk (fun _ => ?_) (fun g => absurd (decide_eq_true (show ((n : Int) ≠ (zs.length : Int)) from by omega)) (by rw [g]; decide)))
 refine V.r0 @jif ?_
 exact Fin.of rfl
theorem eval_e (zs data : List Int) (out e : Int) (he : e ≠ 0) (n : Nat) (X : Nat → List D) (lo : Called Tryz.prog 44 [.agg [.ints .i64 zs, .int .i64 out, .ints .i64 data], .slf 2 n X] (.tup [.agg [.nil, .int .i64 0, .nil, .nil, .nil, .nil], .int .i64 e])) :
  Called Tryz.prog 15 [.agg [.ints .i64 zs, .int .i64 out, .ints .i64 data], .slf 2 n X] (.tup [.nil, .int .i64 e]) := by
 refine V.en tbOk Tryz.func15 ?_
 refine V.r1 @jif lo ?_
 refine Cnd.split (CondB.mk (fun _ => ?_) (fun g => absurd (decide_eq_true he) (by rw [g]; decide)))
 refine V.r0 @jif ?_
 exact Fin.of rfl
theorem jcS {n : Nat} {q : Rat} (h : Fq n q) (h0 : 0 < n ∧ n ≤ 600) : Called Tryz.prog 78 [frT q] (.int .i64 0) := by
 have o := jaM (h.ok h0.1 h0.2)
 have b := h.ok h0.1 h0.2
 unfold okF at b
 simp only [jh9, decide_eq_true_eq] at b
 have c := fcheck_c (decZ q.num) (dec q.den) (by unfold decZ; split <;> (try simp only [jiY]) <;> omega) (by omega)
 rw [o.1] at c
 exact c
theorem jdz {zs : List Int} {out : Int} {data : List Int} (hg : jal zs out data = true) (hl : zs.length ≤ 4) : Called Tryz.prog 37 [gridD zs out data] (.int .i64 0) := by
 have o := jat hg
 have c := jb1 zs out data (by omega) (by omega)
 rw [hg] at c
 exact c
theorem locq1 {x0 : Rat} {z0 out : Int} {data : List Int} (hg : jal [z0] out data = true) (h0 : Fq 40 x0) : Called Tryz.prog 44 [gridD [z0] out data, slQ (fun i => txq (rqN x0 0 0 i)) 1] (.tup [.agg [.ints .i64 [z0], .int .i64 out, .ints .i64 data, .ints .i64 [spB z0 x0], .ints .i64 [0], slQ (fun k => txq (wqN (rqN (spR z0 x0) 0 0) [0] 1 k)) 2], .int .i64 0]) := by
 have og := jat hg
 have s0 := og.2.1 z0 (by simp)
 have fc : ∀ k, k < 1 → Called Tryz.prog 78 [frT (rqN x0 0 0 k)] (.int .i64 0) := fun k hk => by
  have h : k = 0 := by omega
  subst h
  ·exact jcS h0 (by decide)
 exact loc1_t z0 out data _ _ (fun i => txq (rqN x0 0 0 i)) _ _ (jdz hg (by simp)) fc (find1_q out data h0 s0)
theorem evalq1 {x0 : Rat} {z0 out : Int} {data : List Int} (hg : jal [z0] out data = true) (h0 : Fq 40 x0) : Called Tryz.prog 15 [gridD [z0] out data, slQ (fun i => txq (rqN x0 0 0 i)) 1] (.tup [slQ (fun j => txq (evQ [z0] out data x0 0 0 j)) out.toNat, .int .i64 0]) :=
 eval_t _ _ _ _ _ _ _ _ _ _ _ (locq1 hg h0) (valq1 hg h0)
theorem locq2 {x0 x1 : Rat} {z0 z1 out : Int} {data : List Int} (hg : jal [z0, z1] out data = true) (h0 : Fq 40 x0) (h1 : Fq 40 x1) : Called Tryz.prog 44 [gridD [z0, z1] out data, slQ (fun i => txq (rqN x0 x1 0 i)) 2] (.tup [.agg [.ints .i64 [z0, z1], .int .i64 out, .ints .i64 data, .ints .i64 [spB z0 x0, spB z1 x1], .ints .i64 (ord2 (spR z0 x0) (spR z1 x1)), slQ (fun k => txq (wqN (rqN (spR z0 x0) (spR z1 x1) 0) (ord2 (spR z0 x0) (spR z1 x1)) 2 k)) 3], .int .i64 0]) := by
 have og := jat hg
 have s0 := og.2.1 z0 (by simp)
 have s1 := og.2.1 z1 (by simp)
 have fc : ∀ k, k < 2 → Called Tryz.prog 78 [frT (rqN x0 x1 0 k)] (.int .i64 0) := fun k hk => by
  have h : k = 0 ∨ k = 1 := by omega
  rcases h with rfl | rfl
  ·exact jcS h0 (by decide)
  ·exact jcS h1 (by decide)
 exact loc2_t z0 z1 out data _ _ (fun i => txq (rqN x0 x1 0 i)) _ _ (jdz hg (by simp)) fc (find2_q out data h0 h1 s0 s1)
theorem evalq2 {x0 x1 : Rat} {z0 z1 out : Int} {data : List Int} (hg : jal [z0, z1] out data = true) (h0 : Fq 40 x0) (h1 : Fq 40 x1) : Called Tryz.prog 15 [gridD [z0, z1] out data, slQ (fun i => txq (rqN x0 x1 0 i)) 2] (.tup [slQ (fun j => txq (evQ [z0, z1] out data x0 x1 0 j)) out.toNat, .int .i64 0]) :=
 eval_t _ _ _ _ _ _ _ _ _ _ _ (locq2 hg h0 h1) (valq2 hg h0 h1)
theorem cellq2 {x0 x1 : Rat} {z0 z1 out : Int} {data : List Int} (hg : jal [z0, z1] out data = true) (h0 : Fq 40 x0) (h1 : Fq 40 x1) : Called Tryz.prog 17 [gridD [z0, z1] out data, slQ (fun i => txq (rqN x0 x1 0 i)) 2] (.tup [.ints .i64 [spB z0 x0, spB z1 x1], .ints .i64 (ord2 (spR z0 x0) (spR z1 x1)), slQ (fun k => txq (wqN (rqN (spR z0 x0) (spR z1 x1) 0) (ord2 (spR z0 x0) (spR z1 x1)) 2 k)) 3, .int .i64 0]) :=
 cell_t _ _ _ _ _ _ _ _ _ (locq2 hg h0 h1)
theorem locq3 {x0 x1 x2 : Rat} {z0 z1 z2 out : Int} {data : List Int} (hg : jal [z0, z1, z2] out data = true) (h0 : Fq 40 x0) (h1 : Fq 40 x1) (h2 : Fq 40 x2) : Called Tryz.prog 44 [gridD [z0, z1, z2] out data, slQ (fun i => txq (rqN x0 x1 x2 i)) 3] (.tup [.agg [.ints .i64 [z0, z1, z2], .int .i64 out, .ints .i64 data, .ints .i64 [spB z0 x0, spB z1 x1, spB z2 x2], .ints .i64 (ord3 (spR z0 x0) (spR z1 x1) (spR z2 x2)), slQ (fun k => txq (wqN (rqN (spR z0 x0) (spR z1 x1) (spR z2 x2)) (ord3 (spR z0 x0) (spR z1 x1) (spR z2 x2)) 3 k)) 4], .int .i64 0]) := by
 have og := jat hg
 have s0 := og.2.1 z0 (by simp)
 have s1 := og.2.1 z1 (by simp)
 have s2 := og.2.1 z2 (by simp)
 have fc : ∀ k, k < 3 → Called Tryz.prog 78 [frT (rqN x0 x1 x2 k)] (.int .i64 0) := fun k hk => by
  have h : k = 0 ∨ k = 1 ∨ k = 2 := by omega
  rcases h with rfl | rfl | rfl
  ·exact jcS h0 (by decide)
  ·exact jcS h1 (by decide)
  ·exact jcS h2 (by decide)
 exact loc3_t z0 z1 z2 out data _ _ (fun i => txq (rqN x0 x1 x2 i)) _ _ (jdz hg (by simp)) fc (find3_q out data h0 h1 h2 s0 s1 s2)
theorem evalq3 {x0 x1 x2 : Rat} {z0 z1 z2 out : Int} {data : List Int} (hg : jal [z0, z1, z2] out data = true) (h0 : Fq 40 x0) (h1 : Fq 40 x1) (h2 : Fq 40 x2) : Called Tryz.prog 15 [gridD [z0, z1, z2] out data, slQ (fun i => txq (rqN x0 x1 x2 i)) 3] (.tup [slQ (fun j => txq (evQ [z0, z1, z2] out data x0 x1 x2 j)) out.toNat, .int .i64 0]) :=
 eval_t _ _ _ _ _ _ _ _ _ _ _ (locq3 hg h0 h1 h2) (valq3 hg h0 h1 h2)
theorem mul_sgn {k l d : Rat} (hk : 0 ≤ k) (hl : 0 ≤ l) : 0 ≤ k * d * (l * d) := by
 have h1 := Rat.mul_nonneg hk hl
 have h2 : 0 ≤ d * d := by
  by_cases h : 0 ≤ d
  ·exact Rat.mul_nonneg h h
  ·have h3 : 0 ≤ -d := by grind
   have h4 := Rat.mul_nonneg h3 h3
   grind
 have h3 := Rat.mul_nonneg h1 h2
 grind
theorem between {p q r k l : Rat} (hk : 0 ≤ k) (hl : 0 ≤ l) (h1 : q - p = k * (r - p)) (h2 : r - q = l * (r - p)) : 0 ≤ ordQ p q * ordQ q r := by
 have h3 := mul_sgn (d := r - p) hk hl
 rw [← h1, ← h2] at h3
 unfold ordQ
 by_cases a : p < q
 ·by_cases b : q < r
  ·simp [a, b]
  ·by_cases c : q = r
   ·simp [c]
   ·exfalso
    have e1 : 0 < q - p := by grind
    have e2 : 0 < q - r := by grind
    have := Rat.mul_pos e1 e2
    grind
 ·by_cases a2 : p = q
  ·simp [a2]
  ·by_cases b : q < r
   ·exfalso
    have e1 : 0 < p - q := by grind
    have e2 : 0 < r - q := by grind
    have := Rat.mul_pos e1 e2
    grind
   ·by_cases c : q = r
    ·simp [c]
    ·simp [a, a2, b, c]
theorem zrcmp {a b : Nat} {p q : Rat} (h : Fq a p) (g : Fq b q) (ha : 0 < a ∧ a ≤ 600) (hb : 0 < b ∧ b ≤ 600) : Called Tryz.prog 48 [frT p, frT q] (.tup [.int .i64 (ordQ p q), .int .i64 0]) := by
 obtain ⟨o1, e1⟩ := jaM (h.ok ha.1 ha.2)
 obtain ⟨o2, e2⟩ := jaM (g.ok hb.1 hb.2)
 have r1 := jdl _ _ (jcC o1).1 (jcC o1).2
 have r2 := jdl _ _ (jcC o2).1 (jcC o2).2
 rw [o1] at r1
 rw [o2] at r2
 have i1 := in02_c _ _ o1
 have i2 := in02_c _ _ o2
 rw [e1] at i1
 rw [e2] at i2
 have q1 := q4_qv o1
 have q2 := q4_qv o2
 rw [e1] at q1
 rw [e2] at q2
 have od := order02_c p q (q1.mono (by omega)) (q2.mono (by omega))
 unfold frT
 generalize ordQ p q = w at *
 refine V.en tbOk Tryz.func48 ?_
 (conv => whnf)
 refine V.st ?_
 repeat ((try ((with_reducible refine .ext ?_); (conv => whnf))); (with_reducible refine jaa (r := ?_) ?_ ?_); rotate_left; (focus (first | exact (r1) | exact (r2))); (conv => whnf); refine V.st ?_)
 refine ⟨(V.tk [0,2] (V.e1 1 [2] (V.e1 3 [] (V.e1 4 [] (V.tk [5,6] .done))))), [], V.pok, .go (jad ?_)⟩
 (conv => whnf)
 refine V.st ?_
 repeat ((try ((with_reducible refine .ext ?_); (conv => whnf))); (with_reducible refine jaa (r := ?_) ?_ ?_); rotate_left; (focus (first | exact (i1) | exact (i2) | exact (od))); (conv => whnf); refine V.st ?_)
 exact Fin.of rfl
theorem lof_c {n m : Int} (hn : -9223372036854775807 ≤ n ∧ n ≤ 9223372036854775807) (hm : 1 ≤ m ∧ m ≤ 9223372036854775807) : Called Tryz.prog 18 [.int .i64 n, .int .i64 m] (frT (Rat.divInt n m)) := by
 have c := y_rof hn hm
 unfold frT at *
 generalize Rat.divInt n m = q at *
 refine V.en tbOk Tryz.func18 ?_
 (conv => whnf)
 refine V.st ?_
 repeat ((try ((with_reducible refine .ext ?_); (conv => whnf))); (with_reducible refine jaa (r := ?_) ?_ ?_); rotate_left; (focus (first | exact (c))); (conv => whnf); refine V.st ?_)
 exact Fin.of rfl
theorem jgc {a b : Nat} {p q : Rat} (h : Fq a p) (g : Fq b q) (ha : 0 < a) (hb : 0 < b) (hab : a + b + 1 ≤ 600) : Called Tryz.prog 23 [frT p, frT q] (frT (p * q)) := by
 have c := zrmul h g ha hb hab
 unfold frT at *
 generalize p * q = r at *
 refine V.en tbOk Tryz.func23 ?_
 (conv => whnf)
 refine V.st ?_
 repeat ((try ((with_reducible refine .ext ?_); (conv => whnf))); (with_reducible refine jaa (r := ?_) ?_ ?_); rotate_left; (focus (first | exact (c))); (conv => whnf); refine V.st ?_)
 exact Fin.of rfl
theorem lless_c {a b : Nat} {p q : Rat} (h : Fq a p) (g : Fq b q) (ha : 0 < a ∧ a ≤ 600) (hb : 0 < b ∧ b ≤ 600) : Called Tryz.prog 21 [frT p, frT q] (.bool (decide (ordQ p q < 0))) := by
 have c := zrcmp h g ha hb
 unfold frT at *
 generalize ordQ p q = r at *
 refine V.en tbOk Tryz.func21 ?_
 (conv => whnf)
 refine V.st ?_
 repeat ((try ((with_reducible refine .ext ?_); (conv => whnf))); (with_reducible refine jaa (r := ?_) ?_ ?_); rotate_left; (focus (first | exact (c))); (conv => whnf); refine V.st ?_)
 exact Fin.of rfl
theorem lfour_c : Called Tryz.prog 31 [] (gridD [2, 2] 1 [0, 13107, 26214, 65535]) := by
 refine V.en tbOk Tryz.func31 ?_
 refine V.r0 @jif ?_
 exact Fin.of rfl
theorem jhU : type_of% @jif ∧ type_of% @tn0 ∧ type_of% @tn1 ∧ type_of% @tn2 ∧ type_of% @tn3 ∧ type_of% @xt4 := ⟨@jif, @tn0, @tn1, @tn2, @tn3, @xt4⟩
theorem eqf1 (Y : Nat → Tx) : Called Tryz.prog 16 [.slf 2 1 (fun j => List.take 2 (List.drop (j * 2) [.str (Y 0).1, .str (Y 0).2])), .slf 2 1 (fun j => List.take 2 (List.drop (j * 2) [.str (Y 0).1, .str (Y 0).2]))] (.bool true) := by
 refine V.en tbOk Tryz.func16 ?_
 refine V.r0 @jif ?_
 refine jac (0) (fun k => k ≤ 1) (fun k => 1 - k) (fun k => [(13, .int .i64 k)]) (fun k => []) ?_ ?_ ?_
 ·exact V.wk
 ·exact jib _
 intro k hk
 have hk4 : k = 0 ∨ k = 1 := by omega
 rcases hk4 with e | e
 all_goals subst e
 ·simp only [k0]
  refine V.r0 jhU ?_
  refine ⟨(V.tk [0,1,2,3,4,5,6,7,8] .done), [], V.pok, ?_⟩
  refine jab [(24, .bool false)] [] ?_ ?_
  ·exact V.d0 (V.a4 jhU @decide_true @Bool.and_self @Bool.not_true)
  refine V.r0 jhU ?_
  exact ⟨1, by omega, by omega, V.wk⟩
 ·simp only [k1]
  refine V.r0 @jif ?_
  exact Fin.of rfl
theorem eqf3 (Y : Nat → Tx) : Called Tryz.prog 16 [.slf 2 3 (fun j => List.take 2 (List.drop (j * 2) [.str (Y 0).1, .str (Y 0).2, .str (Y 1).1, .str (Y 1).2, .str (Y 2).1, .str (Y 2).2])), .slf 2 3 (fun j => List.take 2 (List.drop (j * 2) [.str (Y 0).1, .str (Y 0).2, .str (Y 1).1, .str (Y 1).2, .str (Y 2).1, .str (Y 2).2]))] (.bool true) := by
 refine V.en tbOk Tryz.func16 ?_
 refine V.r0 @jif ?_
 refine jac (0) (fun k => k ≤ 3) (fun k => 3 - k) (fun k => [(13, .int .i64 k)]) (fun k => []) ?_ ?_ ?_
 ·exact V.wk
 ·exact jib _
 intro k hk
 have hk4 : k = 0 ∨ k = 1 ∨ k = 2 ∨ k = 3 := by omega
 rcases hk4 with e | e | e | e
 all_goals subst e
 ·simp only [k0]
  refine V.r0 jhU ?_
  refine ⟨(V.tk [0,1,2,3,4,5,6,7,8] .done), [], V.pok, ?_⟩
  refine jab [(24, .bool false)] [] ?_ ?_
  ·exact V.d0 (V.a4 jhU @decide_true @Bool.and_self @Bool.not_true)
  refine V.r0 jhU ?_
  exact ⟨1, by omega, by omega, V.wk⟩
 ·simp only [k1]
  refine V.r0 jhU ?_
  refine ⟨(V.tk [0,1,2,3,4,5,6,7,8] .done), [], V.pok, ?_⟩
  refine jab [(24, .bool false)] [] ?_ ?_
  ·exact V.d0 (V.a4 jhU @decide_true @Bool.and_self @Bool.not_true)
  refine V.r0 jhU ?_
  exact ⟨2, by omega, by omega, V.wk⟩
 ·simp only [k2]
  refine V.r0 jhU ?_
  refine ⟨(V.tk [0,1,2,3,4,5,6,7,8] .done), [], V.pok, ?_⟩
  refine jab [(24, .bool false)] [] ?_ ?_
  ·exact V.d0 (V.a4 jhU @decide_true @Bool.and_self @Bool.not_true)
  refine V.r0 jhU ?_
  exact ⟨3, by omega, by omega, V.wk⟩
 ·simp only [k3]
  refine V.r0 @jif ?_
  exact Fin.of rfl
theorem eqb1 (Y : Nat → Int × Int) : Called Tryz.prog 35 [.slf 2 1 (fun j => List.take 2 (List.drop (j * 2) [.int .i64 (Y 0).1, .int .i64 (Y 0).2])), .slf 2 1 (fun j => List.take 2 (List.drop (j * 2) [.int .i64 (Y 0).1, .int .i64 (Y 0).2]))] (.bool true) := by
 refine V.en tbOk Tryz.func35 ?_
 refine V.r0 @jif ?_
 refine jac (0) (fun k => k ≤ 1) (fun k => 1 - k) (fun k => [(13, .int .i64 k)]) (fun k => []) ?_ ?_ ?_
 ·exact V.wk
 ·exact jib _
 intro k hk
 have hk4 : k = 0 ∨ k = 1 := by omega
 rcases hk4 with e | e
 all_goals subst e
 ·simp only [k0]
  refine V.r0 jhU ?_
  refine ⟨(V.tk [0,1,2,3,4,5,6,7,8] .done), [], V.pok, ?_⟩
  refine jab [(24, .bool false)] [] ?_ ?_
  ·exact V.d0 (V.a4 jhU @decide_true @Bool.and_self @Bool.not_true)
  refine V.r0 jhU ?_
  exact ⟨1, by omega, by omega, V.wk⟩
 ·simp only [k1]
  refine V.r0 @jif ?_
  exact Fin.of rfl
theorem value_t (zs data : List Int) (out : Int) (n : Nat) (X : Nat → List D) (Y : Nat → Tx) (ev : Called Tryz.prog 15 [.agg [.ints .i64 zs, .int .i64 out, .ints .i64 data], .slf 2 n X] (.tup [.slf 2 1 (fun j => List.take 2 (List.drop (j * 2) [.str (Y 0).1, .str (Y 0).2])), .int .i64 0])) :
  Called Tryz.prog 26 [.agg [.ints .i64 zs, .int .i64 out, .ints .i64 data], .agg [.str (Y 0).1, .str (Y 0).2], .slf 2 n X] (.bool true) := by
 have q := eqf1 Y
 refine V.en tbOk Tryz.func26 ?_
 refine V.r2 @jif ev q ?_
 exact Fin.of rfl
theorem nearS_bd (x : Rat) (s : Nat) : 2 * (nearZ x s * x.den) ≤ 2 * (x.num * s) + x.den ∧ 2 * (x.num * s) + x.den < 2 * (nearZ x s * x.den) + 2 * x.den := by
 have hp := x.den_pos
 unfold nearZ
 have h1 := jid (x.num * ((s * 2 : Nat) : Int) + x.den) ((x.den * 2 : Nat) : Int)
 have h2 := jic (x.num * ((s * 2 : Nat) : Int) + x.den) (show ((x.den * 2 : Nat) : Int) ≠ 0 by omega)
 have h3 := jiA (x.num * ((s * 2 : Nat) : Int) + x.den) (show 0 < ((x.den * 2 : Nat) : Int) by omega)
 generalize (x.num * ((s * 2 : Nat) : Int) + x.den) % ((x.den * 2 : Nat) : Int) = r at *
 generalize hn : (x.num * ((s * 2 : Nat) : Int) + x.den) / ((x.den * 2 : Nat) : Int) = n at *
 have e : ((x.den * 2 : Nat) : Int) * n = 2 * (n * x.den) := by
  rw [show ((x.den * 2 : Nat) : Int) = 2 * (x.den : Int) by omega, jiv, jiu (x.den : Int) n]
 have e2 : x.num * ((s * 2 : Nat) : Int) = 2 * (x.num * s) := by
  rw [show ((s * 2 : Nat) : Int) = (s : Int) * 2 by omega, ← jiv, jiu]
 rw [e, e2] at h1
 generalize n * (x.den : Int) = y at *
 generalize x.num * (s : Int) = u at *
 omega
theorem num_eq (x : Rat) : ((x.num : Int) : Rat) = x * ((x.den : Int) : Rat) := by
 have h : x = Rat.divInt x.num x.den := (jiH x).symm
 have hd : (((x.den : Int)) : Rat) ≠ 0 := fun e => by
  have : (x.den : Int) = 0 := Rat.intCast_eq_zero_iff.1 e
  have := x.den_pos
  omega
 conv => rhs; lhs; rw [h]
 rw [Rat.divInt_eq_div]
 grind
theorem jdr (x : Rat) (s : Nat) : ((2 * nearZ x s - 1 : Int) : Rat) ≤ x * (((2 * s : Nat) : Int) : Rat) ∧ x * (((2 * s : Nat) : Int) : Rat) ≤ ((2 * nearZ x s + 1 : Int) : Rat) := by
 have b := nearS_bd x s
 have hp : (0 : Rat) < ((x.den : Int) : Rat) := by exact_mod_cast (show (0 : Int) < (x.den : Int) from by have := x.den_pos; omega)
 have e1 : (2 * nearZ x s) * (x.den : Int) = 2 * (nearZ x s * x.den) := jiv _ _ _
 have e2 : x.num * ((2 * s : Nat) : Int) = 2 * (x.num * s) := by
  rw [show ((2 * s : Nat) : Int) = 2 * (s : Int) by omega, Int.mul_left_comm]
 have k1 : (2 * nearZ x s - 1) * (x.den : Int) ≤ x.num * ((2 * s : Nat) : Int) := by
  rw [Int.sub_mul, jiE, e1, e2]
  omega
 have k2 : x.num * ((2 * s : Nat) : Int) ≤ (2 * nearZ x s + 1) * (x.den : Int) := by
  rw [jiD, jiE, e1, e2]
  omega
 have r1 := Rat.intCast_le_intCast.2 k1
 have r2 := Rat.intCast_le_intCast.2 k2
 rw [Rat.intCast_mul, Rat.intCast_mul, num_eq] at r1 r2
 constructor
 ·refine Rat.le_of_mul_le_mul_right (c := ((x.den : Int) : Rat)) ?_ hp
  grind
 ·refine Rat.le_of_mul_le_mul_right (c := ((x.den : Int) : Rat)) ?_ hp
  grind
theorem jdO (v : Int) {s : Nat} (hs : 0 < s) : nearZ (Rat.divInt v s) s = v := by
 have h := jdr (Rat.divInt v s) s
 have hs0 : (((s : Nat) : Int) : Rat) ≠ 0 := fun e => by
  have : ((s : Nat) : Int) = 0 := Rat.intCast_eq_zero_iff.1 e
  omega
 have e : Rat.divInt v s * (((2 * s : Nat) : Int) : Rat) = ((2 * v : Int) : Rat) := by
  rw [Rat.divInt_eq_div, show ((2 * s : Nat) : Int) = 2 * (s : Int) by omega, Rat.intCast_mul, Rat.intCast_mul]
  grind
 rw [e] at h
 have h1 := Rat.intCast_le_intCast.1 h.1
 have h2 := Rat.intCast_le_intCast.1 h.2
 omega
end Go.Proofs.YtgjgpdceghjajaaGreatDoor
end
section
namespace Go.Gr
def PR : List Nat → Nat
 | [] => 1
 | n :: r => n * PR r
def ixl : List Nat → Nat → List Int
 | [], _ => []
 | n :: r, m => ((m / PR r % n : Nat) : Int) :: ixl r m
theorem jct {ns : List Nat} (h : ∀ n ∈ ns, 0 < n) : 0 < PR ns := by
 induction ns with
 | nil => decide
 | cons n r ih => exact Nat.mul_pos (h n (by simp)) (ih fun x hx => h x (by simp [hx]))
theorem jaj (ns : List Nat) (m : Nat) : (ixl ns m).length = ns.length := by
 induction ns with
 | nil => rfl
 | cons n r ih => simp [ixl, ih]
theorem jdT (ns : List Nat) (m i n : Nat) (h : ns[i]? = some n) : (ixl ns m)[i]? = some ((m / PR (ns.drop (i + 1)) % n : Nat) : Int) := by
 induction ns generalizing i with
 | nil => simp at h
 | cons a r ih =>
  cases i with
  | zero => simp at h; subst h; simp [ixl]
  | succ i => simpa [ixl] using ih i (by simpa using h)
theorem jhq (ns : List Nat) (hp : ∀ n ∈ ns, 0 < n) (m : Nat) : ixl ns (m % PR ns) = ixl ns m := by
 induction ns generalizing m with
 | nil => rfl
 | cons n r ih =>
  have hr : ∀ x ∈ r, 0 < x := fun x hx => hp x (by simp [hx])
  have h1 := jct hr
  simp only [ixl, PR]
  have e1 : m % (n * PR r) / PR r % n = m / PR r % n := by
   rw [jil, Nat.mod_mul_right_div_self, Nat.mod_mod]
  have e2 : ixl r (m % (n * PR r)) = ixl r m := by
   rw [← ih hr (m % (n * PR r)), Nat.mod_mul_left_mod, ih hr]
  rw [e1, e2]
theorem jcQ (ns : List Nat) (hp : ∀ n ∈ ns, 0 < n) (m : Nat) (h : m % PR ns = PR ns - 1) : ixl ns m = ns.map fun n : Nat => (n : Int) - 1 := by
 induction ns generalizing m with
 | nil => rfl
 | cons n r ih =>
  have hr : ∀ x ∈ r, 0 < x := fun x hx => hp x (by simp [hx])
  have hn : 0 < n := hp n (by simp)
  have h1 := jct hr
  simp only [PR] at h
  rw [jil, Nat.mod_mul] at h
  have h2 := jik m h1
  have h3 := jik (m / PR r) hn
  have h4 : PR r * (m / PR r % n) + m % PR r = PR r * (n - 1) + (PR r - 1) := by
   have : PR r * n = PR r * (n - 1) + PR r := by
    obtain ⟨k, rfl⟩ : ∃ k, n = k + 1 := ⟨n - 1, by omega⟩
    simp [Nat.mul_add]
   omega
  have h5 : m / PR r % n = n - 1 := by
   have e := congrArg (· / PR r) h4
   simp only [Nat.mul_add_div h1] at e
   rw [Nat.div_eq_of_lt h2, Nat.div_eq_of_lt (by omega : PR r - 1 < PR r)] at e
   omega
  have h6 : m % PR r = PR r - 1 := by rw [h5] at h4; omega
  simp only [ixl, List.map_cons, h5, ih hr m h6]
  congr 1
  omega
theorem jcO (ns : List Nat) (hp : ∀ n ∈ ns, 0 < n) (m : Nat) (h : ixl ns m = ns.map fun n : Nat => (n : Int) - 1) : m % PR ns = PR ns - 1 := by
 induction ns generalizing m with
 | nil => simp [PR, Nat.mod_one]
 | cons n r ih =>
  have hr : ∀ x ∈ r, 0 < x := fun x hx => hp x (by simp [hx])
  have hn : 0 < n := hp n (by simp)
  have h1 := jct hr
  simp only [ixl, List.map_cons, List.cons.injEq] at h
  have h2 := ih hr m h.2
  have h3 : m / PR r % n = n - 1 := by omega
  simp only [PR]
  rw [jil, Nat.mod_mul, h2, h3]
  obtain ⟨k, rfl⟩ : ∃ k, n = k + 1 := ⟨n - 1, by omega⟩
  simp [Nat.mul_add]; omega
theorem jd5 (ns : List Nat) (hp : ∀ n ∈ ns, 0 < n) (m : Nat) (h : m % PR ns = 0) : ixl ns m = List.replicate ns.length 0 := by
 rw [← jhq ns hp m, h]
 clear h
 induction ns with
 | nil => rfl
 | cons n r ih => simp only [ixl, Nat.zero_div, Nat.zero_mod, jiY, List.replicate_succ, ih fun x hx => hp x (by simp [hx])]; rfl
theorem succ_div {m P : Nat} (hP : 0 < P) (h : m % P ≠ P - 1) : (m + 1) / P = m / P := by
 have h2 := jik m hP
 have h3 := Nat.div_add_mod m P
 have : m + 1 = P * (m / P) + (m % P + 1) := by omega
 rw [this, Nat.mul_add_div hP, Nat.div_eq_of_lt (by omega : m % P + 1 < P)]
 omega
theorem jfU {m P : Nat} (hP : 0 < P) (h : m % P = P - 1) : (m + 1) / P = m / P + 1 ∧ (m + 1) % P = 0 := by
 have h3 := Nat.div_add_mod m P
 have : m + 1 = P * (m / P + 1) := by rw [Nat.mul_add]; omega
 rw [this, Nat.mul_div_cancel_left _ hP, Nat.mul_mod_right]
 exact ⟨rfl, rfl⟩
theorem mod_succ {a n : Nat} (hn : 0 < n) (h : a % n ≠ n - 1) : (a + 1) % n = a % n + 1 := by
 have h2 := jik a hn
 have h3 := Nat.div_add_mod a n
 have : a + 1 = n * (a / n) + (a % n + 1) := by omega
 rw [this, Nat.mul_add_mod, jim (by omega : a % n + 1 < n)]
theorem jdv (ns : List Nat) (hp : ∀ n ∈ ns, 0 < n) (m j n : Nat) (hj : ns[j]? = some n) (x : Int) (hx : (ixl ns m)[j]? = some x)
  (h1 : (ixl ns m).drop (j + 1) = (ns.drop (j + 1)).map fun n : Nat => (n : Int) - 1) (h2 : x ≠ (n : Int) - 1) : ixl ns (m + 1) = (ixl ns m).take j ++ (x + 1) :: List.replicate (ns.length - (j + 1)) 0 := by
 induction ns generalizing j with
 | nil => simp at hj
 | cons a r ih =>
  have hr : ∀ y ∈ r, 0 < y := fun y hy => hp y (by simp [hy])
  have ha : 0 < a := hp a (by simp)
  have hP := jct hr
  cases j with
  | zero =>
   simp at hj hx
   subst hj
   simp [ixl] at h1 hx
   have h3 := jcO r hr m h1
   have h4 := jfU hP h3
   have h5 := jd5 r hr _ h4.2
   simp only [ixl, h4.1, h5]
   have h6 : m / PR r % a ≠ a - 1 := fun e => by
    apply h2
    rw [← hx, ← Int.natCast_ediv, ← Int.natCast_emod, e]
    omega
   rw [mod_succ ha h6]
   subst hx
   simp
  | succ j =>
   have hj' : r[j]? = some n := by simpa using hj
   have hx' : (ixl r m)[j]? = some x := by simpa [ixl] using hx
   have h1' : (ixl r m).drop (j + 1) = (r.drop (j + 1)).map fun n : Nat => (n : Int) - 1 := by simpa [ixl] using h1
   have h3 : m % PR r ≠ PR r - 1 := fun e => by
    have := jcQ r hr m e
    rw [this] at hx'
    simp [hj'] at hx'
    omega
   have h4 := ih hr j hj' hx' h1'
   simp only [ixl, succ_div hP h3, h4, List.take_succ_cons, List.cons_append, jiY]
   congr 2
   simp
theorem jft (ns : List Nat) (hp : ∀ n ∈ ns, 0 < n) (m : Nat) (p : Int) : ((ns.map fun n : Nat => (n : Int)).zip (ixl ns m)).foldl (fun p a => p * a.1 + a.2) p = p * (PR ns : Int) + ((m % PR ns : Nat) : Int) := by
 induction ns generalizing p with
 | nil => simp [ixl, PR, Nat.mod_one]
 | cons n r ih =>
  have hr : ∀ x ∈ r, 0 < x := fun x hx => hp x (by simp [hx])
  simp only [ixl, List.map_cons, List.zip_cons_cons, List.foldl_cons, PR]
  rw [ih hr, jil n, Nat.mod_mul]
  simp only [Int.natCast_add, jis, jiD, jiv]
  rw [jiu (PR r : Int) (n : Int), jiu (PR r : Int) _]
  omega
def swp (l : List Int) (a b : Nat) : List Int := (l.set a (l.getD b 0)).set b (l.getD a 0)
def swn (l : List Nat) (a b : Nat) : List Nat := (l.set a (l.getD b 0)).set b (l.getD a 0)
end Go.Gr
end
section
namespace Go.Proofs.YtgjgpdceghjajaaGreatDoor
open Go Go.V Go.Gr
def nz (ns : List Nat) : List Int := ns.map fun n : Nat => (n : Int)
theorem jdL (ns : List Nat) : prod (nz ns) = (PR ns : Nat) := by
 have h : ∀ (l : List Nat) (q : Int), (nz l).foldl (· * ·) q = q * (PR l : Nat) := by
  intro l
  induction l with
  | nil => intro q; simp [nz, PR]
  | cons x l ih =>
   intro q
   have := ih (q * x)
   simp only [nz, List.map_cons, List.foldl_cons, PR] at this ⊢
   rw [this, jis, jiv]
 have := h ns 1
 simpa [prod] using this
def rl (lt : Int → Int → Bool) (data : List Int) (w : Nat) : Nat → List Int
 | 0 => slot data 0 w
 | i + 1 => (rl lt data w i).set (i % w) (if lt (data.getD i 0) ((rl lt data w i).getD (i % w) 0) then data.getD i 0 else (rl lt data w i).getD (i % w) 0)
theorem jeB {lt : Int → Int → Bool} {data : List Int} {w : Nat} (h : w ≤ data.length) (i : Nat) : (rl lt data w i).length = w := by
 induction i with
 | zero => simp [rl, slot]; omega
 | succ i ih => simp [rl, ih]
end Go.Proofs.YtgjgpdceghjajaaGreatDoor
end
