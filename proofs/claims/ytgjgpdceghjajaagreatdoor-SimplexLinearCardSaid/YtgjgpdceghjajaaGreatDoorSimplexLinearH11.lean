/- What some functions of the program answer at values that mean given lists, texts and numbers, each proved of the program's own code: part 11. Conditions: those that each theorem names. -/
import Derived.Test.YtgjgpdceghjajaaGreatDoorSimplexLinearH10
import Derived.Test.YtgjgpdceghjajaaGreatDoorSimplexLinearH8
import Derived.Test.YtgjgpdceghjajaaGreatDoorSimplexLinearH4
import Derived.Test.YtgjgpdceghjajaaGreatDoorSimplexLinearH7
set_option linter.unusedSimpArgs false
set_option linter.unusedVariables false
set_option maxHeartbeats 8000000
set_option maxRecDepth 100000
section
namespace Go.Proofs.YtgjgpdceghjajaaGreatDoor
open Go Go.V Go.Nb
theorem pad2 (a b c d e : Rat) : a + b + (c - 0) * d + 0 * e = a + b + c * d := by grind
theorem inr9 {z : Int} (h : 0 ≤ z ∧ z ≤ 100) : InR .i64 z := ⟨by show (-9223372036854775808 : Int) ≤ z; omega, by show z ≤ 9223372036854775807; omega⟩
theorem corn2 {O : List Int} (h : O = [0, 1] ∨ O = [1, 0]) (b0 b1 : Int) : O.length = 2 ∧ (∀ k, k < 2 → 0 ≤ O.getD k 0 ∧ O.getD k 0 < 4) ∧ ∀ k, k < 3 → ∃ i0 i1 : Int, atK [b0, b1, 0, 0] O k = [i0, i1, 0, 0] ∧ b0 ≤ i0 ∧ i0 ≤ b0 + 1 ∧ b1 ≤ i1 ∧ i1 ≤ b1 + 1 := by
 rcases h with rfl | rfl
 ·refine ⟨rfl, fun k hk => ?_, fun k hk => ?_⟩
  ·have h : k = 0 ∨ k = 1 := by omega
   rcases h with rfl | rfl <;> decide
  ·have h : k = 0 ∨ k = 1 ∨ k = 2 := by omega
   rcases h with rfl | rfl | rfl
   ·exact ⟨b0, b1, rfl, by omega⟩
   ·exact ⟨b0 + 1, b1, rfl, by omega⟩
   ·exact ⟨b0 + 1, b1 + 1, rfl, by omega⟩
 ·refine ⟨rfl, fun k hk => ?_, fun k hk => ?_⟩
  ·have h : k = 0 ∨ k = 1 := by omega
   rcases h with rfl | rfl <;> decide
  ·have h : k = 0 ∨ k = 1 ∨ k = 2 := by omega
   rcases h with rfl | rfl | rfl
   ·exact ⟨b0, b1, rfl, by omega⟩
   ·exact ⟨b0, b1 + 1, rfl, by omega⟩
   ·exact ⟨b0 + 1, b1 + 1, rfl, by omega⟩
theorem ev2_sm {x0 x1 : Rat} {z0 z1 : Int} (s0 : 2 ≤ z0) (s1 : 2 ≤ z1) (out : Int) (data : List Int) (j : Nat) : evQ [z0, z1] out data x0 x1 0 j = smF (fun k => wqN (rqN (spR z0 x0) (spR z1 x1) 0) (ord2 (spR z0 x0) (spR z1 x1)) 2 k * (((slot data (pz ([z0, z1].zip ((atK [spB z0 x0, spB z1 x1, 0, 0] (ord2 (spR z0 x0) (spR z1 x1)) k).take 2)) * out) out).getD j 0 : Int) : Rat)) 2 / 65535 := by
 unfold evQ
 refine congrArg (· / 65535) ?_
 show evF z0 z1 2 (gvF [z0, z1] out data j) x0 x1 0 = _
 unfold evF
 rw [sp_20.1, sp_20.2, ord3_20 (spR_nn s0 x0) (spR_nn s1 x1)]
 rcases ord2_mem (spR z0 x0) (spR z1 x1) with e | e
 all_goals rw [e]
 all_goals exact pad2 _ _ _ _ _
theorem valq2 {x0 x1 : Rat} {z0 z1 out : Int} {data : List Int} (hg : jao [z0, z1] out data = true) (h0 : Fq 40 x0) (h1 : Fq 40 x1) :
  Called Tryz.prog 45 [.agg [.ints .i64 [z0, z1], .int .i64 out, .ints .i64 data, .ints .i64 [spB z0 x0, spB z1 x1], .ints .i64 (ord2 (spR z0 x0) (spR z1 x1)), slQ (fun k => txq (wqN (rqN (spR z0 x0) (spR z1 x1) 0) (ord2 (spR z0 x0) (spR z1 x1)) 2 k)) 3]] (.tup [slQ (fun j => txq (evQ [z0, z1] out data x0 x1 0 j)) out.toNat, .int .i64 0]) := by
 have og := jaY hg
 have s0 := og.2.1 z0 (by simp)
 have f0 := jck h0 (by decide) s0
 have b0 := jd9 s0.1 x0
 have s1 := og.2.1 z1 (by simp)
 have f1 := jck h1 (by decide) s1
 have b1 := jd9 s1.1 x1
 have fr : ∀ k, Fq 43 (rqN (spR z0 x0) (spR z1 x1) 0 k) := fq_rq f0 f1 jhc
 obtain ⟨ol, ox, oc⟩ := corn2 (O := (ord2 (spR z0 x0) (spR z1 x1))) (ord2_mem _ _) (spB z0 x0) (spB z1 x1)
 have oi : ∀ k, k < 3 → okIdx [z0, z1] ((atK [spB z0 x0, spB z1 x1, 0, 0] (ord2 (spR z0 x0) (spR z1 x1)) k).take 2) = true := by
  intro k hk
  obtain ⟨i0, i1, e, hh⟩ := oc k hk
  rw [e]
  simp [okIdx]
  omega
 have g := valU2 z0 z1 (spB z0 x0) (spB z1 x1) out data (ord2 (spR z0 x0) (spR z1 x1)) (rqN (spR z0 x0) (spR z1 x1) 0) fr (fun k => slot data (pz ([z0, z1].zip ((atK [spB z0 x0, spB z1 x1, 0, 0] (ord2 (spR z0 x0) (spR z1 x1)) k).take 2)) * out) out) og.1 (fun k hk => ⟨jeb hg (oi k hk), jcY og.2.2.2 _ _⟩) ol ox (fun k hk => ?_) (fun k hk => ?_)
 ·rw [show (fun j => txq (evQ [z0, z1] out data x0 x1 0 j)) = _ from funext fun j => congrArg txq (ev2_sm s0.1 s1.1 out data j)]
  exact g
 ·obtain ⟨i0, i1, e, hh⟩ := oc k (by omega)
  rw [e]
  refine inr9 ?_
  have := jbO (l := [i0, i1, 0, 0]) (p := fun v => 0 ≤ v ∧ v ≤ 9) (by intro v hv; simp only [List.mem_cons, List.not_mem_nil, or_false] at hv; omega) (by omega) (((ord2 (spR z0 x0) (spR z1 x1)) : List Int).getD k 0).toNat
  omega
 ·exact point2_t z0 z1 (spB z0 x0) (spB z1 x1) out data _ _ _ (fun k => txq (wqN (rqN (spR z0 x0) (spR z1 x1) 0) (ord2 (spR z0 x0) (spR z1 x1)) 2 k)) (jbn _ _ k rfl) (gat_at hg (oi k hk) (by simp) (by rw [List.length_take]; omega))
theorem corn3 {O : List Int} (h : O = [0, 1, 2] ∨ O = [0, 2, 1] ∨ O = [1, 0, 2] ∨ O = [1, 2, 0] ∨ O = [2, 0, 1] ∨ O = [2, 1, 0]) (b0 b1 b2 : Int) : O.length = 3 ∧ (∀ k, k < 3 → 0 ≤ O.getD k 0 ∧ O.getD k 0 < 4) ∧ ∀ k, k < 4 → ∃ i0 i1 i2 : Int, atK [b0, b1, b2, 0] O k = [i0, i1, i2, 0] ∧ b0 ≤ i0 ∧ i0 ≤ b0 + 1 ∧ b1 ≤ i1 ∧ i1 ≤ b1 + 1 ∧ b2 ≤ i2 ∧ i2 ≤ b2 + 1 := by
 rcases h with rfl | rfl | rfl | rfl | rfl | rfl
 ·refine ⟨rfl, fun k hk => ?_, fun k hk => ?_⟩
  ·have h : k = 0 ∨ k = 1 ∨ k = 2 := by omega
   rcases h with rfl | rfl | rfl <;> decide
  ·have h : k = 0 ∨ k = 1 ∨ k = 2 ∨ k = 3 := by omega
   rcases h with rfl | rfl | rfl | rfl
   ·exact ⟨b0, b1, b2, rfl, by omega⟩
   ·exact ⟨b0 + 1, b1, b2, rfl, by omega⟩
   ·exact ⟨b0 + 1, b1 + 1, b2, rfl, by omega⟩
   ·exact ⟨b0 + 1, b1 + 1, b2 + 1, rfl, by omega⟩
 ·refine ⟨rfl, fun k hk => ?_, fun k hk => ?_⟩
  ·have h : k = 0 ∨ k = 1 ∨ k = 2 := by omega
   rcases h with rfl | rfl | rfl <;> decide
  ·have h : k = 0 ∨ k = 1 ∨ k = 2 ∨ k = 3 := by omega
   rcases h with rfl | rfl | rfl | rfl
   ·exact ⟨b0, b1, b2, rfl, by omega⟩
   ·exact ⟨b0 + 1, b1, b2, rfl, by omega⟩
   ·exact ⟨b0 + 1, b1, b2 + 1, rfl, by omega⟩
   ·exact ⟨b0 + 1, b1 + 1, b2 + 1, rfl, by omega⟩
 ·refine ⟨rfl, fun k hk => ?_, fun k hk => ?_⟩
  ·have h : k = 0 ∨ k = 1 ∨ k = 2 := by omega
   rcases h with rfl | rfl | rfl <;> decide
  ·have h : k = 0 ∨ k = 1 ∨ k = 2 ∨ k = 3 := by omega
   rcases h with rfl | rfl | rfl | rfl
   ·exact ⟨b0, b1, b2, rfl, by omega⟩
   ·exact ⟨b0, b1 + 1, b2, rfl, by omega⟩
   ·exact ⟨b0 + 1, b1 + 1, b2, rfl, by omega⟩
   ·exact ⟨b0 + 1, b1 + 1, b2 + 1, rfl, by omega⟩
 ·refine ⟨rfl, fun k hk => ?_, fun k hk => ?_⟩
  ·have h : k = 0 ∨ k = 1 ∨ k = 2 := by omega
   rcases h with rfl | rfl | rfl <;> decide
  ·have h : k = 0 ∨ k = 1 ∨ k = 2 ∨ k = 3 := by omega
   rcases h with rfl | rfl | rfl | rfl
   ·exact ⟨b0, b1, b2, rfl, by omega⟩
   ·exact ⟨b0, b1 + 1, b2, rfl, by omega⟩
   ·exact ⟨b0, b1 + 1, b2 + 1, rfl, by omega⟩
   ·exact ⟨b0 + 1, b1 + 1, b2 + 1, rfl, by omega⟩
 ·refine ⟨rfl, fun k hk => ?_, fun k hk => ?_⟩
  ·have h : k = 0 ∨ k = 1 ∨ k = 2 := by omega
   rcases h with rfl | rfl | rfl <;> decide
  ·have h : k = 0 ∨ k = 1 ∨ k = 2 ∨ k = 3 := by omega
   rcases h with rfl | rfl | rfl | rfl
   ·exact ⟨b0, b1, b2, rfl, by omega⟩
   ·exact ⟨b0, b1, b2 + 1, rfl, by omega⟩
   ·exact ⟨b0 + 1, b1, b2 + 1, rfl, by omega⟩
   ·exact ⟨b0 + 1, b1 + 1, b2 + 1, rfl, by omega⟩
 ·refine ⟨rfl, fun k hk => ?_, fun k hk => ?_⟩
  ·have h : k = 0 ∨ k = 1 ∨ k = 2 := by omega
   rcases h with rfl | rfl | rfl <;> decide
  ·have h : k = 0 ∨ k = 1 ∨ k = 2 ∨ k = 3 := by omega
   rcases h with rfl | rfl | rfl | rfl
   ·exact ⟨b0, b1, b2, rfl, by omega⟩
   ·exact ⟨b0, b1, b2 + 1, rfl, by omega⟩
   ·exact ⟨b0, b1 + 1, b2 + 1, rfl, by omega⟩
   ·exact ⟨b0 + 1, b1 + 1, b2 + 1, rfl, by omega⟩
theorem ev3_sm {x0 x1 x2 : Rat} {z0 z1 z2 : Int} (s0 : 2 ≤ z0) (s1 : 2 ≤ z1) (s2 : 2 ≤ z2) (out : Int) (data : List Int) (j : Nat) : evQ [z0, z1, z2] out data x0 x1 x2 j = smF (fun k => wqN (rqN (spR z0 x0) (spR z1 x1) (spR z2 x2)) (ord3 (spR z0 x0) (spR z1 x1) (spR z2 x2)) 3 k * (((slot data (pz ([z0, z1, z2].zip ((atK [spB z0 x0, spB z1 x1, spB z2 x2, 0] (ord3 (spR z0 x0) (spR z1 x1) (spR z2 x2)) k).take 3)) * out) out).getD j 0 : Int) : Rat)) 3 / 65535 := by
 unfold evQ
 refine congrArg (· / 65535) ?_
 show evF z0 z1 z2 (gvF [z0, z1, z2] out data j) x0 x1 x2 = _
 unfold evF
 rcases ord3_mem (spR z0 x0) (spR z1 x1) (spR z2 x2) with e | e | e | e | e | e
 all_goals rw [e]
 all_goals exact rfl
theorem valq3 {x0 x1 x2 : Rat} {z0 z1 z2 out : Int} {data : List Int} (hg : jao [z0, z1, z2] out data = true) (h0 : Fq 40 x0) (h1 : Fq 40 x1) (h2 : Fq 40 x2) :
  Called Tryz.prog 45 [.agg [.ints .i64 [z0, z1, z2], .int .i64 out, .ints .i64 data, .ints .i64 [spB z0 x0, spB z1 x1, spB z2 x2], .ints .i64 (ord3 (spR z0 x0) (spR z1 x1) (spR z2 x2)), slQ (fun k => txq (wqN (rqN (spR z0 x0) (spR z1 x1) (spR z2 x2)) (ord3 (spR z0 x0) (spR z1 x1) (spR z2 x2)) 3 k)) 4]] (.tup [slQ (fun j => txq (evQ [z0, z1, z2] out data x0 x1 x2 j)) out.toNat, .int .i64 0]) := by
 have og := jaY hg
 have s0 := og.2.1 z0 (by simp)
 have f0 := jck h0 (by decide) s0
 have b0 := jd9 s0.1 x0
 have s1 := og.2.1 z1 (by simp)
 have f1 := jck h1 (by decide) s1
 have b1 := jd9 s1.1 x1
 have s2 := og.2.1 z2 (by simp)
 have f2 := jck h2 (by decide) s2
 have b2 := jd9 s2.1 x2
 have fr : ∀ k, Fq 43 (rqN (spR z0 x0) (spR z1 x1) (spR z2 x2) k) := fq_rq f0 f1 f2
 obtain ⟨ol, ox, oc⟩ := corn3 (O := (ord3 (spR z0 x0) (spR z1 x1) (spR z2 x2))) (ord3_mem _ _ _) (spB z0 x0) (spB z1 x1) (spB z2 x2)
 have oi : ∀ k, k < 4 → okIdx [z0, z1, z2] ((atK [spB z0 x0, spB z1 x1, spB z2 x2, 0] (ord3 (spR z0 x0) (spR z1 x1) (spR z2 x2)) k).take 3) = true := by
  intro k hk
  obtain ⟨i0, i1, i2, e, hh⟩ := oc k hk
  rw [e]
  simp [okIdx]
  omega
 have g := valU3 z0 z1 z2 (spB z0 x0) (spB z1 x1) (spB z2 x2) out data (ord3 (spR z0 x0) (spR z1 x1) (spR z2 x2)) (rqN (spR z0 x0) (spR z1 x1) (spR z2 x2)) fr (fun k => slot data (pz ([z0, z1, z2].zip ((atK [spB z0 x0, spB z1 x1, spB z2 x2, 0] (ord3 (spR z0 x0) (spR z1 x1) (spR z2 x2)) k).take 3)) * out) out) og.1 (fun k hk => ⟨jeb hg (oi k hk), jcY og.2.2.2 _ _⟩) ol ox (fun k hk => ?_) (fun k hk => ?_)
 ·rw [show (fun j => txq (evQ [z0, z1, z2] out data x0 x1 x2 j)) = _ from funext fun j => congrArg txq (ev3_sm s0.1 s1.1 s2.1 out data j)]
  exact g
 ·obtain ⟨i0, i1, i2, e, hh⟩ := oc k (by omega)
  rw [e]
  refine inr9 ?_
  have := jbO (l := [i0, i1, i2, 0]) (p := fun v => 0 ≤ v ∧ v ≤ 9) (by intro v hv; simp only [List.mem_cons, List.not_mem_nil, or_false] at hv; omega) (by omega) (((ord3 (spR z0 x0) (spR z1 x1) (spR z2 x2)) : List Int).getD k 0).toNat
  omega
 ·exact point3_t z0 z1 z2 (spB z0 x0) (spB z1 x1) (spB z2 x2) out data _ _ _ (fun k => txq (wqN (rqN (spR z0 x0) (spR z1 x1) (spR z2 x2)) (ord3 (spR z0 x0) (spR z1 x1) (spR z2 x2)) 3 k)) (jbn _ _ k rfl) (gat_at hg (oi k hk) (by simp) (by rw [List.length_take]; omega))
theorem jhL : type_of% @jhS ∧ type_of% @tn0 ∧ type_of% @tn1 ∧ type_of% @tn2 ∧ type_of% @tn3 ∧ type_of% @xt4 := ⟨@jhS, @tn0, @tn1, @tn2, @tn3, @xt4⟩
theorem loc2_t (z0 z1 out : Int) (data B O : List Int) (X : Nat → Tx) (m : Nat) (F : Nat → List D) (ck : Called Tryz.prog 37 [.agg [.ints .i64 [z0, z1], .int .i64 out, .ints .i64 data]] (.int .i64 0)) (fc : ∀ k, k < 2 → Called Tryz.prog 78 [.agg [.str (X k).1, .str (X k).2]] (.int .i64 0)) (fi : Called Tryz.prog 79 [.agg [.ints .i64 [z0, z1], .int .i64 out, .ints .i64 data], .slf 2 2 (fun j => List.take 2 (List.drop (j * 2) [.str (X 0).1, .str (X 0).2, .str (X 1).1, .str (X 1).2]))] (.tup [.agg [.ints .i64 [z0, z1], .int .i64 out, .ints .i64 data, .ints .i64 B, .ints .i64 O, .slf 2 m F], .int .i64 0])) :
  Called Tryz.prog 44 [.agg [.ints .i64 [z0, z1], .int .i64 out, .ints .i64 data], .slf 2 2 (fun j => List.take 2 (List.drop (j * 2) [.str (X 0).1, .str (X 0).2, .str (X 1).1, .str (X 1).2]))] (.tup [.agg [.ints .i64 [z0, z1], .int .i64 out, .ints .i64 data, .ints .i64 B, .ints .i64 O, .slf 2 m F], .int .i64 0]) := by
 refine jaa tbOk 6 ⟨Tryz.func44, rfl, rfl, jhO rfl⟩ ?_
 (conv => whnf)
 refine V.r1 @jhS ck ?_
 refine Cnd.split (CondB.mk (fun h => absurd h (by simp)) (fun _ => ?_))
 refine V.r0 @jhS ?_
 refine jah (0) (fun k => k ≤ 2) (fun k => 2 - k) (fun k => [(25, .int .i64 k)]) (fun k => []) ?_ ?_ ?_
 ·exact V.wk
 ·exact jhP _
 intro k hk
 have hk4 : k = 0 ∨ k = 1 ∨ k = 2 := by omega
 rcases hk4 with e | e | e
 all_goals subst e
 ·simp only [k0]
  have c := fc 0 (by omega)
  refine V.r1 (V.a3 jhL @Bool.false_eq_true @if_false.{1}) c ?_
  exact ⟨1, by omega, by omega, V.wk⟩
 ·simp only [k1]
  have c := fc 1 (by omega)
  refine V.r1 (V.a3 jhL @Bool.false_eq_true @if_false.{1}) c ?_
  exact ⟨2, by omega, by omega, V.wk⟩
 ·simp only [k2]
  refine V.r1 @jhS fi ?_
  exact Fin.of rfl
theorem loc3_t (z0 z1 z2 out : Int) (data B O : List Int) (X : Nat → Tx) (m : Nat) (F : Nat → List D) (ck : Called Tryz.prog 37 [.agg [.ints .i64 [z0, z1, z2], .int .i64 out, .ints .i64 data]] (.int .i64 0)) (fc : ∀ k, k < 3 → Called Tryz.prog 78 [.agg [.str (X k).1, .str (X k).2]] (.int .i64 0)) (fi : Called Tryz.prog 79 [.agg [.ints .i64 [z0, z1, z2], .int .i64 out, .ints .i64 data], .slf 2 3 (fun j => List.take 2 (List.drop (j * 2) [.str (X 0).1, .str (X 0).2, .str (X 1).1, .str (X 1).2, .str (X 2).1, .str (X 2).2]))] (.tup [.agg [.ints .i64 [z0, z1, z2], .int .i64 out, .ints .i64 data, .ints .i64 B, .ints .i64 O, .slf 2 m F], .int .i64 0])) :
  Called Tryz.prog 44 [.agg [.ints .i64 [z0, z1, z2], .int .i64 out, .ints .i64 data], .slf 2 3 (fun j => List.take 2 (List.drop (j * 2) [.str (X 0).1, .str (X 0).2, .str (X 1).1, .str (X 1).2, .str (X 2).1, .str (X 2).2]))] (.tup [.agg [.ints .i64 [z0, z1, z2], .int .i64 out, .ints .i64 data, .ints .i64 B, .ints .i64 O, .slf 2 m F], .int .i64 0]) := by
 refine jaa tbOk 6 ⟨Tryz.func44, rfl, rfl, jhO rfl⟩ ?_
 (conv => whnf)
 refine V.r1 @jhS ck ?_
 refine Cnd.split (CondB.mk (fun h => absurd h (by simp)) (fun _ => ?_))
 refine V.r0 @jhS ?_
 refine jah (0) (fun k => k ≤ 3) (fun k => 3 - k) (fun k => [(25, .int .i64 k)]) (fun k => []) ?_ ?_ ?_
 ·exact V.wk
 ·exact jhP _
 intro k hk
 have hk4 : k = 0 ∨ k = 1 ∨ k = 2 ∨ k = 3 := by omega
 rcases hk4 with e | e | e | e
 all_goals subst e
 ·simp only [k0]
  have c := fc 0 (by omega)
  refine V.r1 (V.a3 jhL @Bool.false_eq_true @if_false.{1}) c ?_
  exact ⟨1, by omega, by omega, V.wk⟩
 ·simp only [k1]
  have c := fc 1 (by omega)
  refine V.r1 (V.a3 jhL @Bool.false_eq_true @if_false.{1}) c ?_
  exact ⟨2, by omega, by omega, V.wk⟩
 ·simp only [k2]
  have c := fc 2 (by omega)
  refine V.r1 (V.a3 jhL @Bool.false_eq_true @if_false.{1}) c ?_
  exact ⟨3, by omega, by omega, V.wk⟩
 ·simp only [k3]
  refine V.r1 @jhS fi ?_
  exact Fin.of rfl
theorem eval_t (zs data B O : List Int) (out : Int) (n m e0 : Nat) (X F Y : Nat → List D) (lo : Called Tryz.prog 44 [.agg [.ints .i64 zs, .int .i64 out, .ints .i64 data], .slf 2 n X] (.tup [.agg [.ints .i64 zs, .int .i64 out, .ints .i64 data, .ints .i64 B, .ints .i64 O, .slf 2 m F], .int .i64 0])) (va : Called Tryz.prog 45 [.agg [.ints .i64 zs, .int .i64 out, .ints .i64 data, .ints .i64 B, .ints .i64 O, .slf 2 m F]] (.tup [.slf 2 e0 Y, .int .i64 0])) :
  Called Tryz.prog 15 [.agg [.ints .i64 zs, .int .i64 out, .ints .i64 data], .slf 2 n X] (.tup [.slf 2 e0 Y, .int .i64 0]) := by
 refine jaa tbOk 6 ⟨Tryz.func15, rfl, rfl, jhO rfl⟩ ?_
 (conv => whnf)
 refine V.r2 @jhS lo va ?_
 exact Fin.of rfl
theorem cell_t (zs data B O : List Int) (out : Int) (n m : Nat) (X F : Nat → List D) (lo : Called Tryz.prog 44 [.agg [.ints .i64 zs, .int .i64 out, .ints .i64 data], .slf 2 n X] (.tup [.agg [.ints .i64 zs, .int .i64 out, .ints .i64 data, .ints .i64 B, .ints .i64 O, .slf 2 m F], .int .i64 0])) :
  Called Tryz.prog 17 [.agg [.ints .i64 zs, .int .i64 out, .ints .i64 data], .slf 2 n X] (.tup [.ints .i64 B, .ints .i64 O, .slf 2 m F, .int .i64 0]) := by
 refine jaa tbOk 6 ⟨Tryz.func17, rfl, rfl, jhO rfl⟩ ?_
 (conv => whnf)
 refine V.r1 @jhS lo ?_
 refine ⟨(.take 0 (.take 1 (.take 2 (.take 3 (.take 4 (.take 5 (.take 6 (.take 7 (.take 8 (.take 9 (.done))))))))))), [], ⟨by kernel_rfl, by kernel_rfl, by kernel_rfl, by kernel_rfl⟩, ?_⟩
 refine jac [(4, .ints .i64 B), (5, .ints .i64 O), (6, .slf 2 m F), (7, .int .i64 0)] [] ?_ ?_
 ·exact V.d0 @jhS
 refine V.r0 @jhS ?_
 exact Fin.of rfl
theorem loc_len (zs data : List Int) (out : Int) (n : Nat) (X : Nat → List D) (h : n ≠ zs.length) (ck : Called Tryz.prog 37 [.agg [.ints .i64 zs, .int .i64 out, .ints .i64 data]] (.int .i64 0)) :
  Called Tryz.prog 44 [.agg [.ints .i64 zs, .int .i64 out, .ints .i64 data], .slf 2 n X] (.tup [.agg [.nil, .int .i64 0, .nil, .nil, .nil, .nil], .int .i64 2]) := by
 refine jaa tbOk 6 ⟨Tryz.func44, rfl, rfl, jhO rfl⟩ ?_
 (conv => whnf)
 refine V.r1 @jhS ck ?_
 refine Cnd.split (CondB.mk (fun _ => ?_) (fun g => absurd (decide_eq_true (show ((n : Int) ≠ (zs.length : Int)) from by omega)) (by rw [g]; decide)))
 refine V.r0 @jhS ?_
 exact Fin.of rfl
theorem eval_e (zs data : List Int) (out e : Int) (he : e ≠ 0) (n : Nat) (X : Nat → List D) (lo : Called Tryz.prog 44 [.agg [.ints .i64 zs, .int .i64 out, .ints .i64 data], .slf 2 n X] (.tup [.agg [.nil, .int .i64 0, .nil, .nil, .nil, .nil], .int .i64 e])) :
  Called Tryz.prog 15 [.agg [.ints .i64 zs, .int .i64 out, .ints .i64 data], .slf 2 n X] (.tup [.nil, .int .i64 e]) := by
 refine jaa tbOk 6 ⟨Tryz.func15, rfl, rfl, jhO rfl⟩ ?_
 (conv => whnf)
 refine V.r1 @jhS lo ?_
 refine Cnd.split (CondB.mk (fun _ => ?_) (fun g => absurd (decide_eq_true he) (by rw [g]; decide)))
 refine V.r0 @jhS ?_
 exact Fin.of rfl
theorem jdj {n : Nat} {q : Rat} (h : Fq n q) (h0 : 0 < n ∧ n ≤ 600) : Called Tryz.prog 78 [frT q] (.int .i64 0) := by
 have o := jaL (h.ok h0.1 h0.2)
 have b := h.ok h0.1 h0.2
 unfold okF at b
 simp only [jhN, decide_eq_true_eq] at b
 have c := fcheck_c (decZ q.num) (dec q.den) (by unfold decZ; split <;> (try simp only [List.length_cons]) <;> omega) (by omega)
 rw [o.1] at c
 exact c
theorem jeA {zs : List Int} {out : Int} {data : List Int} (hg : jao zs out data = true) (hl : zs.length ≤ 4) : Called Tryz.prog 37 [gridD zs out data] (.int .i64 0) := by
 have o := jaY hg
 have c := jeR zs out data (by omega) (by omega)
 rw [hg] at c
 exact c
theorem locq2 {x0 x1 : Rat} {z0 z1 out : Int} {data : List Int} (hg : jao [z0, z1] out data = true) (h0 : Fq 40 x0) (h1 : Fq 40 x1) : Called Tryz.prog 44 [gridD [z0, z1] out data, slQ (fun i => txq (rqN x0 x1 0 i)) 2] (.tup [.agg [.ints .i64 [z0, z1], .int .i64 out, .ints .i64 data, .ints .i64 [spB z0 x0, spB z1 x1], .ints .i64 (ord2 (spR z0 x0) (spR z1 x1)), slQ (fun k => txq (wqN (rqN (spR z0 x0) (spR z1 x1) 0) (ord2 (spR z0 x0) (spR z1 x1)) 2 k)) 3], .int .i64 0]) := by
 have og := jaY hg
 have s0 := og.2.1 z0 (by simp)
 have s1 := og.2.1 z1 (by simp)
 have fc : ∀ k, k < 2 → Called Tryz.prog 78 [frT (rqN x0 x1 0 k)] (.int .i64 0) := fun k hk => by
  have h : k = 0 ∨ k = 1 := by omega
  rcases h with rfl | rfl
  ·exact jdj h0 (by decide)
  ·exact jdj h1 (by decide)
 exact loc2_t z0 z1 out data _ _ (fun i => txq (rqN x0 x1 0 i)) _ _ (jeA hg (by simp)) fc (find2_q out data h0 h1 s0 s1)
theorem evalq2 {x0 x1 : Rat} {z0 z1 out : Int} {data : List Int} (hg : jao [z0, z1] out data = true) (h0 : Fq 40 x0) (h1 : Fq 40 x1) : Called Tryz.prog 15 [gridD [z0, z1] out data, slQ (fun i => txq (rqN x0 x1 0 i)) 2] (.tup [slQ (fun j => txq (evQ [z0, z1] out data x0 x1 0 j)) out.toNat, .int .i64 0]) :=
 eval_t _ _ _ _ _ _ _ _ _ _ _ (locq2 hg h0 h1) (valq2 hg h0 h1)
theorem cellq2 {x0 x1 : Rat} {z0 z1 out : Int} {data : List Int} (hg : jao [z0, z1] out data = true) (h0 : Fq 40 x0) (h1 : Fq 40 x1) : Called Tryz.prog 17 [gridD [z0, z1] out data, slQ (fun i => txq (rqN x0 x1 0 i)) 2] (.tup [.ints .i64 [spB z0 x0, spB z1 x1], .ints .i64 (ord2 (spR z0 x0) (spR z1 x1)), slQ (fun k => txq (wqN (rqN (spR z0 x0) (spR z1 x1) 0) (ord2 (spR z0 x0) (spR z1 x1)) 2 k)) 3, .int .i64 0]) :=
 cell_t _ _ _ _ _ _ _ _ _ (locq2 hg h0 h1)
theorem locq3 {x0 x1 x2 : Rat} {z0 z1 z2 out : Int} {data : List Int} (hg : jao [z0, z1, z2] out data = true) (h0 : Fq 40 x0) (h1 : Fq 40 x1) (h2 : Fq 40 x2) : Called Tryz.prog 44 [gridD [z0, z1, z2] out data, slQ (fun i => txq (rqN x0 x1 x2 i)) 3] (.tup [.agg [.ints .i64 [z0, z1, z2], .int .i64 out, .ints .i64 data, .ints .i64 [spB z0 x0, spB z1 x1, spB z2 x2], .ints .i64 (ord3 (spR z0 x0) (spR z1 x1) (spR z2 x2)), slQ (fun k => txq (wqN (rqN (spR z0 x0) (spR z1 x1) (spR z2 x2)) (ord3 (spR z0 x0) (spR z1 x1) (spR z2 x2)) 3 k)) 4], .int .i64 0]) := by
 have og := jaY hg
 have s0 := og.2.1 z0 (by simp)
 have s1 := og.2.1 z1 (by simp)
 have s2 := og.2.1 z2 (by simp)
 have fc : ∀ k, k < 3 → Called Tryz.prog 78 [frT (rqN x0 x1 x2 k)] (.int .i64 0) := fun k hk => by
  have h : k = 0 ∨ k = 1 ∨ k = 2 := by omega
  rcases h with rfl | rfl | rfl
  ·exact jdj h0 (by decide)
  ·exact jdj h1 (by decide)
  ·exact jdj h2 (by decide)
 exact loc3_t z0 z1 z2 out data _ _ (fun i => txq (rqN x0 x1 x2 i)) _ _ (jeA hg (by simp)) fc (find3_q out data h0 h1 h2 s0 s1 s2)
theorem evalq3 {x0 x1 x2 : Rat} {z0 z1 z2 out : Int} {data : List Int} (hg : jao [z0, z1, z2] out data = true) (h0 : Fq 40 x0) (h1 : Fq 40 x1) (h2 : Fq 40 x2) : Called Tryz.prog 15 [gridD [z0, z1, z2] out data, slQ (fun i => txq (rqN x0 x1 x2 i)) 3] (.tup [slQ (fun j => txq (evQ [z0, z1, z2] out data x0 x1 x2 j)) out.toNat, .int .i64 0]) :=
 eval_t _ _ _ _ _ _ _ _ _ _ _ (locq3 hg h0 h1 h2) (valq3 hg h0 h1 h2)
theorem mul_sgn {k l d : Rat} (hk : 0 ≤ k) (hl : 0 ≤ l) : 0 ≤ k * d * (l * d) := by
 have h1 := Rat.mul_nonneg hk hl
 have h2 : 0 ≤ d * d := by
  by_cases h : 0 ≤ d
  ·exact Rat.mul_nonneg h h
  ·have h3 : 0 ≤ -d := by grind
   have h4 := Rat.mul_nonneg h3 h3
   grind
 have h3 := Rat.mul_nonneg h1 h2
 grind
theorem between {p q r k l : Rat} (hk : 0 ≤ k) (hl : 0 ≤ l) (h1 : q - p = k * (r - p)) (h2 : r - q = l * (r - p)) : 0 ≤ ordQ p q * ordQ q r := by
 have h3 := mul_sgn (d := r - p) hk hl
 rw [← h1, ← h2] at h3
 unfold ordQ
 by_cases a : p < q
 ·by_cases b : q < r
  ·simp [a, b]
  ·by_cases c : q = r
   ·simp [c]
   ·exfalso
    have e1 : 0 < q - p := by grind
    have e2 : 0 < q - r := by grind
    have := Rat.mul_pos e1 e2
    grind
 ·by_cases a2 : p = q
  ·simp [a2]
  ·by_cases b : q < r
   ·exfalso
    have e1 : 0 < p - q := by grind
    have e2 : 0 < r - q := by grind
    have := Rat.mul_pos e1 e2
    grind
   ·by_cases c : q = r
    ·simp [c]
    ·simp [a, a2, b, c]
theorem lof_c {n m : Int} (hn : -9223372036854775807 ≤ n ∧ n ≤ 9223372036854775807) (hm : 1 ≤ m ∧ m ≤ 9223372036854775807) : Called Tryz.prog 18 [.int .i64 n, .int .i64 m] (frT (Rat.divInt n m)) := by
 have c := y_rof hn hm
 unfold frT at *
 generalize Rat.divInt n m = q at *
 refine jaa tbOk 6 ⟨Tryz.func18, rfl, rfl, jhO rfl⟩ ?_
 (conv => whnf)
 refine V.st ?_
 repeat ((try ((with_reducible refine .ext ?_); (conv => whnf))); (with_reducible refine jab (r := ?_) ?_ ?_); rotate_left; (focus (first | exact (c))); (conv => whnf); refine V.st ?_)
 exact Fin.of rfl
theorem lplus_c {a b : Nat} {p q : Rat} (h : Fq a p) (g : Fq b q) (ha : 0 < a) (hb : 0 < b) (hab : a + b + 1 ≤ 600) : Called Tryz.prog 22 [frT p, frT q] (frT (p + q)) := by
 have c := zradd h g ha hb hab
 unfold frT at *
 generalize p + q = r at *
 refine jaa tbOk 6 ⟨Tryz.func22, rfl, rfl, jhO rfl⟩ ?_
 (conv => whnf)
 refine V.st ?_
 repeat ((try ((with_reducible refine .ext ?_); (conv => whnf))); (with_reducible refine jab (r := ?_) ?_ ?_); rotate_left; (focus (first | exact (c))); (conv => whnf); refine V.st ?_)
 exact Fin.of rfl
theorem ltimes_c {a b : Nat} {p q : Rat} (h : Fq a p) (g : Fq b q) (ha : 0 < a) (hb : 0 < b) (hab : a + b + 1 ≤ 600) : Called Tryz.prog 23 [frT p, frT q] (frT (p * q)) := by
 have c := zrmul h g ha hb hab
 unfold frT at *
 generalize p * q = r at *
 refine jaa tbOk 6 ⟨Tryz.func23, rfl, rfl, jhO rfl⟩ ?_
 (conv => whnf)
 refine V.st ?_
 repeat ((try ((with_reducible refine .ext ?_); (conv => whnf))); (with_reducible refine jab (r := ?_) ?_ ?_); rotate_left; (focus (first | exact (c))); (conv => whnf); refine V.st ?_)
 exact Fin.of rfl
theorem lfour_c : Called Tryz.prog 31 [] (gridD [2, 2] 1 [0, 13107, 26214, 65535]) := by
 refine jaa tbOk 6 ⟨Tryz.func31, rfl, rfl, jhO rfl⟩ ?_
 (conv => whnf)
 refine V.r0 @jhS ?_
 exact Fin.of rfl
theorem jhA : type_of% @jhS ∧ type_of% @tn0 ∧ type_of% @tn1 ∧ type_of% @tn2 ∧ type_of% @tn3 ∧ type_of% @xt4 := ⟨@jhS, @tn0, @tn1, @tn2, @tn3, @xt4⟩
theorem eqf1 (Y : Nat → Tx) : Called Tryz.prog 16 [.slf 2 1 (fun j => List.take 2 (List.drop (j * 2) [.str (Y 0).1, .str (Y 0).2])), .slf 2 1 (fun j => List.take 2 (List.drop (j * 2) [.str (Y 0).1, .str (Y 0).2]))] (.bool true) := by
 refine jaa tbOk 6 ⟨Tryz.func16, rfl, rfl, jhO rfl⟩ ?_
 (conv => whnf)
 refine V.r0 @jhS ?_
 refine jah (0) (fun k => k ≤ 1) (fun k => 1 - k) (fun k => [(13, .int .i64 k)]) (fun k => []) ?_ ?_ ?_
 ·exact V.wk
 ·exact jhP _
 intro k hk
 have hk4 : k = 0 ∨ k = 1 := by omega
 rcases hk4 with e | e
 all_goals subst e
 ·simp only [k0]
  refine V.r0 jhA ?_
  refine ⟨(.take 0 (.take 1 (.take 2 (.take 3 (.take 4 (.take 5 (.take 6 (.take 7 (.take 8 (.done)))))))))), [], ⟨by kernel_rfl, by kernel_rfl, by kernel_rfl, by kernel_rfl⟩, ?_⟩
  refine jac [(24, .bool false)] [] ?_ ?_
  ·exact V.d0 (V.a4 jhA @decide_true @Bool.and_self @Bool.not_true)
  refine V.r0 jhA ?_
  exact ⟨1, by omega, by omega, V.wk⟩
 ·simp only [k1]
  refine V.r0 @jhS ?_
  exact Fin.of rfl
theorem eqf3 (Y : Nat → Tx) : Called Tryz.prog 16 [.slf 2 3 (fun j => List.take 2 (List.drop (j * 2) [.str (Y 0).1, .str (Y 0).2, .str (Y 1).1, .str (Y 1).2, .str (Y 2).1, .str (Y 2).2])), .slf 2 3 (fun j => List.take 2 (List.drop (j * 2) [.str (Y 0).1, .str (Y 0).2, .str (Y 1).1, .str (Y 1).2, .str (Y 2).1, .str (Y 2).2]))] (.bool true) := by
 refine jaa tbOk 6 ⟨Tryz.func16, rfl, rfl, jhO rfl⟩ ?_
 (conv => whnf)
 refine V.r0 @jhS ?_
 refine jah (0) (fun k => k ≤ 3) (fun k => 3 - k) (fun k => [(13, .int .i64 k)]) (fun k => []) ?_ ?_ ?_
 ·exact V.wk
 ·exact jhP _
 intro k hk
 have hk4 : k = 0 ∨ k = 1 ∨ k = 2 ∨ k = 3 := by omega
 rcases hk4 with e | e | e | e
 all_goals subst e
 ·simp only [k0]
  refine V.r0 jhA ?_
  refine ⟨(.take 0 (.take 1 (.take 2 (.take 3 (.take 4 (.take 5 (.take 6 (.take 7 (.take 8 (.done)))))))))), [], ⟨by kernel_rfl, by kernel_rfl, by kernel_rfl, by kernel_rfl⟩, ?_⟩
  refine jac [(24, .bool false)] [] ?_ ?_
  ·exact V.d0 (V.a4 jhA @decide_true @Bool.and_self @Bool.not_true)
  refine V.r0 jhA ?_
  exact ⟨1, by omega, by omega, V.wk⟩
 ·simp only [k1]
  refine V.r0 jhA ?_
  refine ⟨(.take 0 (.take 1 (.take 2 (.take 3 (.take 4 (.take 5 (.take 6 (.take 7 (.take 8 (.done)))))))))), [], ⟨by kernel_rfl, by kernel_rfl, by kernel_rfl, by kernel_rfl⟩, ?_⟩
  refine jac [(24, .bool false)] [] ?_ ?_
  ·exact V.d0 (V.a4 jhA @decide_true @Bool.and_self @Bool.not_true)
  refine V.r0 jhA ?_
  exact ⟨2, by omega, by omega, V.wk⟩
 ·simp only [k2]
  refine V.r0 jhA ?_
  refine ⟨(.take 0 (.take 1 (.take 2 (.take 3 (.take 4 (.take 5 (.take 6 (.take 7 (.take 8 (.done)))))))))), [], ⟨by kernel_rfl, by kernel_rfl, by kernel_rfl, by kernel_rfl⟩, ?_⟩
  refine jac [(24, .bool false)] [] ?_ ?_
  ·exact V.d0 (V.a4 jhA @decide_true @Bool.and_self @Bool.not_true)
  refine V.r0 jhA ?_
  exact ⟨3, by omega, by omega, V.wk⟩
 ·simp only [k3]
  refine V.r0 @jhS ?_
  exact Fin.of rfl
theorem eqb1 (Y : Nat → Int × Int) : Called Tryz.prog 35 [.slf 2 1 (fun j => List.take 2 (List.drop (j * 2) [.int .i64 (Y 0).1, .int .i64 (Y 0).2])), .slf 2 1 (fun j => List.take 2 (List.drop (j * 2) [.int .i64 (Y 0).1, .int .i64 (Y 0).2]))] (.bool true) := by
 refine jaa tbOk 6 ⟨Tryz.func35, rfl, rfl, jhO rfl⟩ ?_
 (conv => whnf)
 refine V.r0 @jhS ?_
 refine jah (0) (fun k => k ≤ 1) (fun k => 1 - k) (fun k => [(13, .int .i64 k)]) (fun k => []) ?_ ?_ ?_
 ·exact V.wk
 ·exact jhP _
 intro k hk
 have hk4 : k = 0 ∨ k = 1 := by omega
 rcases hk4 with e | e
 all_goals subst e
 ·simp only [k0]
  refine V.r0 jhA ?_
  refine ⟨(.take 0 (.take 1 (.take 2 (.take 3 (.take 4 (.take 5 (.take 6 (.take 7 (.take 8 (.done)))))))))), [], ⟨by kernel_rfl, by kernel_rfl, by kernel_rfl, by kernel_rfl⟩, ?_⟩
  refine jac [(24, .bool false)] [] ?_ ?_
  ·exact V.d0 (V.a4 jhA @decide_true @Bool.and_self @Bool.not_true)
  refine V.r0 jhA ?_
  exact ⟨1, by omega, by omega, V.wk⟩
 ·simp only [k1]
  refine V.r0 @jhS ?_
  exact Fin.of rfl
theorem jfy (v : Int) : 0 ≤ IntKind.wrap .u16 v ∧ IntKind.wrap .u16 v ≤ 65535 := by
 have h : InR .u16 (IntKind.wrap .u16 v) := jbu _ _
 exact h
def clcW : Nat → List D
 | 0 => [.nil, .nil, .nil]
 | k + 1 => [.bsl 21 0 (k + 1) 2, .bsl 31 0 (k + 1) 2, .bsl 44 0 (k + 1) 2]
def clcH (A X C : Nat → Tx) : Nat → Hp
 | 0 => []
 | k + 1 => [(21, .box (wce A (k + 1))), (31, .box (wce X (k + 1))), (44, .box (wce C (k + 1)))]
theorem jhs : type_of% @jhS ∧ type_of% @tn0 ∧ type_of% @tn1 ∧ type_of% @tn2 ∧ type_of% @tn3 ∧ type_of% @xt4 := ⟨@jhS, @tn0, @tn1, @tn2, @tn3, @xt4⟩
theorem color3_t (a z1 z2 : Nat → Int) (b1 b2 : Nat → Bool) (p1 p2 : Nat → List Int) (A X : Nat → Tx) (C : Int → Tx) (ca : ∀ i, i < 4 → Called Tryz.prog 18 [.int .i64 (a i), .int .i64 840] (.agg [.str (A i).1, .str (A i).2])) (cx : ∀ i, i < 4 → Called Tryz.prog 43 [.agg [.bool (b1 i), .ints .u16 (p1 i), .int .u16 (z1 i), .bool (b2 i), .ints .u16 (p2 i), .int .u16 (z2 i)]] (.agg [.str (X i).1, .str (X i).2])) (cc : ∀ v : Int, Called Tryz.prog 18 [.int .i64 (v % 841), .int .i64 840] (.agg [.str (C v).1, .str (C v).2])) :
  Called Tryz.prog 13 [.agg [.int .i16 (a 0), .int .i16 (a 1), .int .i16 (a 2), .int .i16 (a 3), .bool (b1 0), .ints .u16 (p1 0), .int .u16 (z1 0), .bool (b2 0), .ints .u16 (p2 0), .int .u16 (z2 0), .bool (b1 1), .ints .u16 (p1 1), .int .u16 (z1 1), .bool (b2 1), .ints .u16 (p2 1), .int .u16 (z2 1), .bool (b1 2), .ints .u16 (p1 2), .int .u16 (z1 2), .bool (b2 2), .ints .u16 (p2 2), .int .u16 (z2 2), .bool (b1 3), .ints .u16 (p1 3), .int .u16 (z1 3), .bool (b2 3), .ints .u16 (p2 3), .int .u16 (z2 3)], .int .i64 3] (.agg [slQ A 3, slQ X 3, slQ (fun i => C (IntKind.wrap .u16 (a i))) 3]) := by
 refine jaa tbOk 6 ⟨Tryz.func13, rfl, rfl, jhO rfl⟩ ?_
 (conv => whnf)
 refine V.r0 jhs ?_
 refine jah 0 (fun k => k ≤ 3) (fun k => 3 - k) (fun k => [(9, .int .i64 k)]) (fun k => (5, .box (clcW k)) :: clcH A X (fun i => C (IntKind.wrap .u16 (a i))) k) ?_ ?_ ?_
 ·exact V.wk
 ·exact jhP _
 intro k hk
 have hk4 : k = 0 ∨ k = 1 ∨ k = 2 ∨ k = 3 := by omega
 rcases hk4 with e | e | e | e
 all_goals subst e
 ·simp only [k0, clcW, clcH]
  have c1 := ca 0 (by omega)
  have c2 := cx 0 (by omega)
  have hw := jfy (a 0)
  refine V.r0 jhs ?_
  refine ⟨(.take 0 (.take 1 (.take 2 (.take 3 (.take 4 (.take 5 (.take 6 (.ev (.cons 7 [1, 0] (.ev (.cons 8 [1, 0] (.ev (.cons 9 [] (.take 10 (.ev (.cons 11 [] (.done) (.nil)))) (.nil))) (.nil))) (.nil)))))))))), [], ⟨by kernel_rfl, by kernel_rfl, by kernel_rfl, by kernel_rfl⟩, ?_⟩
  refine jac [(21, .bsl 21 0 1 2)] [(5, .box [.bsl 21 0 1 2, .nil, .nil]), (21, .box (wce A 1))] ?_ ?_
  ·exact V.d1 jhs c1
  refine V.r0 jhs ?_
  refine ⟨(.take 0 (.take 1 (.take 2 (.take 3 (.take 4 (.take 5 (.ev (.cons 6 [1, 0] (.ev (.cons 7 [1, 0] (.ev (.cons 8 [] (.take 9 (.ev (.cons 10 [] (.done) (.nil)))) (.nil))) (.nil))) (.nil))))))))), [], ⟨by kernel_rfl, by kernel_rfl, by kernel_rfl, by kernel_rfl⟩, ?_⟩
  refine jac [(31, .bsl 31 0 1 2)] [(5, .box [.bsl 21 0 1 2, .bsl 31 0 1 2, .nil]), (31, .box (wce X 1))] ?_ ?_
  ·exact V.d1 jhs c2
  refine V.r0 jhs ?_
  refine ⟨(.take 0 (.take 1 (.take 2 (.take 3 (.take 4 (.take 5 (.take 6 (.take 7 (.take 8 (.ev (.cons 9 [1, 0] (.ev (.cons 10 [1, 0] (.ev (.cons 11 [] (.take 12 (.ev (.cons 13 [] (.done) (.nil)))) (.nil))) (.nil))) (.nil)))))))))))), [], ⟨by kernel_rfl, by kernel_rfl, by kernel_rfl, by kernel_rfl⟩, ?_⟩
  refine jac [(44, .bsl 44 0 1 2)] [(5, .box [.bsl 21 0 1 2, .bsl 31 0 1 2, .bsl 44 0 1 2]), (44, .box (wce (fun i => C (IntKind.wrap .u16 (a i))) 1))] ?_ ?_
  ·(conv => whnf); (try simp only [jhs])
   repeat' (first | exact V.wk | ((with_reducible refine And.intro ?_ jax); (conv => whnf); (try simp only [jhs])) | ((with_reducible first | refine jap ?_ ?_ | refine jat ?_ ?_) <;> (conv => whnf); (try simp only [jhs])) | ((first | refine V.s1 ?_ | ((with_reducible refine jal ?_ ?_); (focus ((conv => whnf); (try simp only [jhs]); (repeat ((first | refine V.s1 ?_ | ((refine Or.inr ?_); (conv => whnf))); (try simp only [jhs]))); exact ⟨rfl⟩)); (conv => whnf)) | ((try ((with_reducible refine .ext ?_); (conv => whnf); (try simp only [jhs]))); (with_reducible refine jab (r := ?_) ?_ ?_); rotate_left; (focus (first | exact (cc _))); (conv => whnf)) | ((refine Or.inr ?_); (conv => whnf))); (try simp only [jhs])) | (refine And.intro ?_ ?_ <;> (conv => whnf); (try simp only [jhs])))
  refine V.r0 jhs ?_
  exact ⟨1, by omega, by omega, V.wk⟩
 ·simp only [k1, clcW, clcH]
  have c1 := ca 1 (by omega)
  have c2 := cx 1 (by omega)
  have hw := jfy (a 1)
  refine V.r0 jhs ?_
  refine ⟨(.take 0 (.take 1 (.take 2 (.take 3 (.take 4 (.take 5 (.take 6 (.ev (.cons 7 [1, 0] (.ev (.cons 8 [1, 0] (.ev (.cons 9 [] (.take 10 (.ev (.cons 11 [] (.done) (.nil)))) (.nil))) (.nil))) (.nil)))))))))), [], ⟨by kernel_rfl, by kernel_rfl, by kernel_rfl, by kernel_rfl⟩, ?_⟩
  refine jac [(21, .bsl 21 0 2 2)] [(5, .box [.bsl 21 0 2 2, .bsl 31 0 1 2, .bsl 44 0 1 2]), (21, .box (wce A 2))] ?_ ?_
  ·exact V.d1 jhs c1
  refine V.r0 jhs ?_
  refine ⟨(.take 0 (.take 1 (.take 2 (.take 3 (.take 4 (.take 5 (.ev (.cons 6 [1, 0] (.ev (.cons 7 [1, 0] (.ev (.cons 8 [] (.take 9 (.ev (.cons 10 [] (.done) (.nil)))) (.nil))) (.nil))) (.nil))))))))), [], ⟨by kernel_rfl, by kernel_rfl, by kernel_rfl, by kernel_rfl⟩, ?_⟩
  refine jac [(31, .bsl 31 0 2 2)] [(5, .box [.bsl 21 0 2 2, .bsl 31 0 2 2, .bsl 44 0 1 2]), (31, .box (wce X 2))] ?_ ?_
  ·exact V.d1 jhs c2
  refine V.r0 jhs ?_
  refine ⟨(.take 0 (.take 1 (.take 2 (.take 3 (.take 4 (.take 5 (.take 6 (.take 7 (.take 8 (.ev (.cons 9 [1, 0] (.ev (.cons 10 [1, 0] (.ev (.cons 11 [] (.take 12 (.ev (.cons 13 [] (.done) (.nil)))) (.nil))) (.nil))) (.nil)))))))))))), [], ⟨by kernel_rfl, by kernel_rfl, by kernel_rfl, by kernel_rfl⟩, ?_⟩
  refine jac [(44, .bsl 44 0 2 2)] [(5, .box [.bsl 21 0 2 2, .bsl 31 0 2 2, .bsl 44 0 2 2]), (44, .box (wce (fun i => C (IntKind.wrap .u16 (a i))) 2))] ?_ ?_
  ·(conv => whnf); (try simp only [jhs])
   repeat' (first | exact V.wk | ((with_reducible refine And.intro ?_ jax); (conv => whnf); (try simp only [jhs])) | ((with_reducible first | refine jap ?_ ?_ | refine jat ?_ ?_) <;> (conv => whnf); (try simp only [jhs])) | ((first | refine V.s1 ?_ | ((with_reducible refine jal ?_ ?_); (focus ((conv => whnf); (try simp only [jhs]); (repeat ((first | refine V.s1 ?_ | ((refine Or.inr ?_); (conv => whnf))); (try simp only [jhs]))); exact ⟨rfl⟩)); (conv => whnf)) | ((try ((with_reducible refine .ext ?_); (conv => whnf); (try simp only [jhs]))); (with_reducible refine jab (r := ?_) ?_ ?_); rotate_left; (focus (first | exact (cc _))); (conv => whnf)) | ((refine Or.inr ?_); (conv => whnf))); (try simp only [jhs])) | (refine And.intro ?_ ?_ <;> (conv => whnf); (try simp only [jhs])))
  refine V.r0 jhs ?_
  exact ⟨2, by omega, by omega, V.wk⟩
 ·simp only [k2, clcW, clcH]
  have c1 := ca 2 (by omega)
  have c2 := cx 2 (by omega)
  have hw := jfy (a 2)
  refine V.r0 jhs ?_
  refine ⟨(.take 0 (.take 1 (.take 2 (.take 3 (.take 4 (.take 5 (.take 6 (.ev (.cons 7 [1, 0] (.ev (.cons 8 [1, 0] (.ev (.cons 9 [] (.take 10 (.ev (.cons 11 [] (.done) (.nil)))) (.nil))) (.nil))) (.nil)))))))))), [], ⟨by kernel_rfl, by kernel_rfl, by kernel_rfl, by kernel_rfl⟩, ?_⟩
  refine jac [(21, .bsl 21 0 3 2)] [(5, .box [.bsl 21 0 3 2, .bsl 31 0 2 2, .bsl 44 0 2 2]), (21, .box (wce A 3))] ?_ ?_
  ·exact V.d1 jhs c1
  refine V.r0 jhs ?_
  refine ⟨(.take 0 (.take 1 (.take 2 (.take 3 (.take 4 (.take 5 (.ev (.cons 6 [1, 0] (.ev (.cons 7 [1, 0] (.ev (.cons 8 [] (.take 9 (.ev (.cons 10 [] (.done) (.nil)))) (.nil))) (.nil))) (.nil))))))))), [], ⟨by kernel_rfl, by kernel_rfl, by kernel_rfl, by kernel_rfl⟩, ?_⟩
  refine jac [(31, .bsl 31 0 3 2)] [(5, .box [.bsl 21 0 3 2, .bsl 31 0 3 2, .bsl 44 0 2 2]), (31, .box (wce X 3))] ?_ ?_
  ·exact V.d1 jhs c2
  refine V.r0 jhs ?_
  refine ⟨(.take 0 (.take 1 (.take 2 (.take 3 (.take 4 (.take 5 (.take 6 (.take 7 (.take 8 (.ev (.cons 9 [1, 0] (.ev (.cons 10 [1, 0] (.ev (.cons 11 [] (.take 12 (.ev (.cons 13 [] (.done) (.nil)))) (.nil))) (.nil))) (.nil)))))))))))), [], ⟨by kernel_rfl, by kernel_rfl, by kernel_rfl, by kernel_rfl⟩, ?_⟩
  refine jac [(44, .bsl 44 0 3 2)] [(5, .box [.bsl 21 0 3 2, .bsl 31 0 3 2, .bsl 44 0 3 2]), (44, .box (wce (fun i => C (IntKind.wrap .u16 (a i))) 3))] ?_ ?_
  ·(conv => whnf); (try simp only [jhs])
   repeat' (first | exact V.wk | ((with_reducible refine And.intro ?_ jax); (conv => whnf); (try simp only [jhs])) | ((with_reducible first | refine jap ?_ ?_ | refine jat ?_ ?_) <;> (conv => whnf); (try simp only [jhs])) | ((first | refine V.s1 ?_ | ((with_reducible refine jal ?_ ?_); (focus ((conv => whnf); (try simp only [jhs]); (repeat ((first | refine V.s1 ?_ | ((refine Or.inr ?_); (conv => whnf))); (try simp only [jhs]))); exact ⟨rfl⟩)); (conv => whnf)) | ((try ((with_reducible refine .ext ?_); (conv => whnf); (try simp only [jhs]))); (with_reducible refine jab (r := ?_) ?_ ?_); rotate_left; (focus (first | exact (cc _))); (conv => whnf)) | ((refine Or.inr ?_); (conv => whnf))); (try simp only [jhs])) | (refine And.intro ?_ ?_ <;> (conv => whnf); (try simp only [jhs])))
  refine V.r0 jhs ?_
  exact ⟨3, by omega, by omega, V.wk⟩
 ·simp only [k3, clcW, clcH]
  refine V.r0 @jhS ?_
  exact Fin.of rfl
theorem value_t (zs data : List Int) (out : Int) (n : Nat) (X : Nat → List D) (Y : Nat → Tx) (ev : Called Tryz.prog 15 [.agg [.ints .i64 zs, .int .i64 out, .ints .i64 data], .slf 2 n X] (.tup [.slf 2 1 (fun j => List.take 2 (List.drop (j * 2) [.str (Y 0).1, .str (Y 0).2])), .int .i64 0])) :
  Called Tryz.prog 26 [.agg [.ints .i64 zs, .int .i64 out, .ints .i64 data], .agg [.str (Y 0).1, .str (Y 0).2], .slf 2 n X] (.bool true) := by
 have q := eqf1 Y
 refine jaa tbOk 6 ⟨Tryz.func26, rfl, rfl, jhO rfl⟩ ?_
 (conv => whnf)
 refine V.r2 @jhS ev q ?_
 exact Fin.of rfl
end Go.Proofs.YtgjgpdceghjajaaGreatDoor
end
section
namespace Go.Proofs.YtgjgpdceghjajaaGreatDoor
open Go Go.V Go.Nb Go.Gr
def cnP (out : Int) (ns : List Nat) : Nat → Int
 | 0 => out
 | k + 1 => cnP out ns k * (ns.getD k 1 : Nat)
theorem cnP_bd {out : Int} {ns : List Nat} (ho : 1 ≤ out ∧ out ≤ 4) (h2 : ∀ n ∈ ns, 2 ≤ n ∧ n ≤ 9) : ∀ k, 1 ≤ cnP out ns k ∧ cnP out ns k ≤ 4 * 9 ^ k
 | 0 => by simp only [cnP]; omega
 | k + 1 => by
  have ih := cnP_bd ho h2 k
  have hb : 1 ≤ ns.getD k 1 ∧ ns.getD k 1 ≤ 9 := by
   rw [List.getD_eq_getElem?_getD]
   cases h : ns[k]? with
   | none => simp
   | some n => have := h2 n (List.mem_of_getElem? h); simp; omega
  simp only [cnP, Int.pow_succ]
  generalize ns.getD k 1 = b at hb
  generalize (9 : Int) ^ k = p at ih
  have h1 : cnP out ns k * 1 ≤ cnP out ns k * (b : Int) := jh7 (by omega) (by omega)
  have h3 : cnP out ns k * (b : Int) ≤ cnP out ns k * 9 := jh7 (by omega) (by omega)
  omega
theorem rpow9 (k : Nat) (h : k ≤ 4) : (4 : Int) * 9 ^ k ≤ 26244 := by
 have : k = 0 ∨ k = 1 ∨ k = 2 ∨ k = 3 ∨ k = 4 := by omega
 rcases this with rfl | rfl | rfl | rfl | rfl <;> decide
theorem wce_at (Y : Nat → Tx) : ∀ n k, k < n → List.take 2 (List.drop (k * 2) (wce Y n)) = [.str (Y k).1, .str (Y k).2]
 | 0, k, h => absurd h (Nat.not_lt_zero _)
 | n + 1, k, h => by
  have hl : ∀ n, (wce Y n).length = n * 2 := fun n => by
   induction n with
   | zero => rfl
   | succ n ih => simp only [wce, List.length_append, ih]; simp; omega
  rw [wce]
  rcases jh0 k n with g | g
  ·have ih := wce_at Y n k g
   rw [List.drop_append_of_le_length (by rw [hl]; omega), List.take_append_of_le_length (by rw [List.length_drop, hl]; omega), ih]
  ·have : k = n := by omega
   subst this
   rw [List.drop_append, List.drop_of_length_le (by rw [hl]; omega), hl, Nat.sub_self]
   rfl
theorem jgR (sz : List Int) : Called Tryz.prog 67 [.ints .i64 sz] (.fn 110 [] [.ref [.ints .i64 sz]]) := by
 refine jaa tbOk 6 ⟨Tryz.func67, rfl, rfl, jhO rfl⟩ ?_
 (conv => whnf)
 refine V.r0 @jhS ?_
 exact Fin.of rfl
theorem jfz (g : Nat → Int) {o k : Nat} (h : k < o) : ((List.range o).map g).take (k + 1) = ((List.range o).map g).take k ++ [g k] := by
 rw [List.take_add_one]
 congr 1
 simp [h]
theorem jhC : type_of% @jhT ∧ type_of% @jhS ∧ type_of% @tn0 ∧ type_of% @tn1 ∧ type_of% @tn2 ∧ type_of% @tn3 ∧ type_of% @xt4 := ⟨@jhT, @jhS, @tn0, @tn1, @tn2, @tn3, @xt4⟩
theorem zX45_1 : type_of% @jhT ∧ type_of% @jhS := ⟨@jhT, @jhS⟩
theorem zX45_2 : type_of% @jhT ∧ type_of% @List.drop_zero.{0} ∧ type_of% @List.take_succ_cons.{0} ∧ type_of% @List.take_zero.{0} ∧ type_of% @jhS ∧ type_of% @tn0 ∧ type_of% @tn1 ∧ type_of% @tn2 ∧ type_of% @tn3 ∧ type_of% @xt4 := ⟨@jhT, @List.drop_zero.{0}, @List.take_succ_cons.{0}, @List.take_zero.{0}, @jhS, @tn0, @tn1, @tn2, @tn3, @xt4⟩
theorem refine2_t (zs data : List Int) (out : Int) (ns : List Nat) (X Y : Nat → Nat → Tx) (W : Nat → Nat → Int) (hl : zs.length = 2) (hn : ns.length = 2) (h2 : ∀ n ∈ ns, 2 ≤ n ∧ n ≤ 9) (ho : 1 ≤ out ∧ out ≤ 4) (hc : cnP out ns 2 ≤ 4096)
  (gr : Called Tryz.prog 37 [.agg [.ints .i64 zs, .int .i64 out, .ints .i64 data]] (.int .i64 0))
  (ov : ∀ m i, m < PR ns → i < 2 → Called Tryz.prog 58 [.int .i64 ((pad4 (ixl ns m)).getD i 0), .int .i64 ((nz ns).getD i 0 - 1)] (.agg [.str (X m i).1, .str (X m i).2]))
  (ev : ∀ m, m < PR ns → Called Tryz.prog 15 [.agg [.ints .i64 zs, .int .i64 out, .ints .i64 data], .slf 2 2 (fun j => List.take 2 (List.drop (j * 2) [.str (X m 0).1, .str (X m 0).2, .str (X m 1).1, .str (X m 1).2]))] (.tup [.slf 2 out.toNat (fun j => List.take 2 (List.drop (j * 2) (wce (Y m) out.toNat))), .int .i64 0]))
  (nr : ∀ m j, m < PR ns → j < out.toNat → Called Tryz.prog 68 [.agg [.str (Y m j).1, .str (Y m j).2], .int .i64 65535] (.tup [.int .i64 (W m j), .int .i64 0])) :
  Called Tryz.prog 33 [.agg [.ints .i64 zs, .int .i64 out, .ints .i64 data], .ints .i64 (nz ns)] (.tup [.agg [.ints .i64 (nz ns), .int .i64 out, .ints .i64 (flat ns (fun m => (List.range out.toNat).map (W m)) (PR ns))], .int .i64 0]) := by
 have hlen : (nz ns).length = ns.length := by simp [nz]
 have hlz : (nz ns).length = 2 := by rw [hlen, hn]
 have hli : ((nz ns).length : Int) = 2 := by rw [hlz]; rfl
 have hz : ((zs.length : Nat) : Int) = 2 := by rw [hl]; rfl
 have h1 : 1 ≤ ns.length ∧ ns.length ≤ 4 := by omega
 have po := jgR (nz ns)
 have cl := clone_c (nz ns) (by omega)
 have hcb := cnP_bd ho h2
 refine jaa tbOk 6 ⟨Tryz.func33, rfl, rfl, jhO rfl⟩ ?_
 (conv => whnf)
 refine V.r1 jhC gr ?_
 refine Cnd.split (CondB.mk (fun h => absurd h (by rw [hl, hlz]; simp)) (fun _ => ?_))
 refine V.r0 jhC ?_
 refine lp_go (ns.length) (fun k => True) (fun k => [(38, .int .i64 k), (7, .int .i64 (cnP out ns k))]) (fun k => []) V.wk ?_ ?_
 ·trivial
 intro k hk _
 have hck := hcb k
 have hck1 := hcb (k + 1)
 have hk9 : (4 : Int) * 9 ^ k ≤ 26244 := rpow9 k (by omega)
 (conv => whnf)
 refine V.st ?_
 refine Cnd.split (CondB.mk (fun h => ?_) (fun h => ?_))
 ·rw [hlen] at h
  simp only [decide_eq_true_eq] at h
  have hk1 : k < ns.length := by omega
  have hk91 : (4 : Int) * 9 ^ (k + 1) ≤ 26244 := rpow9 (k + 1) (by omega)
  obtain ⟨n, hnk⟩ : ∃ n, ns[k]? = some n := ⟨ns[k], List.getElem?_eq_getElem hk1⟩
  have hn0 := h2 n (List.mem_of_getElem? hnk)
  have en : (nz ns).getD k 0 = n := by simp [nz, List.getD_eq_getElem?_getD, hnk]
  have ec : cnP out ns (k + 1) = cnP out ns k * (n : Int) := by simp [cnP, List.getD_eq_getElem?_getD, hnk]
  rw [ec] at hck1
  refine V.r0 (V.a2 jhC en) ?_
  refine Cnd.split (CondB.mk (fun h => absurd h (by simp; omega)) (fun _ => ?_))
  (conv => whnf)
  (try simp only [jhC, en, ← ec])
  repeat ((first | refine V.s1 ?_); (try simp only [jhC, en, ← ec]))
  exact ⟨k + 1, ⟨by omega, trivial⟩, by omega, V.wk⟩
 ·rw [hlen] at h
  simp only [decide_eq_false_iff_not] at h
  have hk1 : k = 2 := by omega
  subst hk1
  clear hck hck1
  refine V.r0 jhC ?_
  refine Cnd.split (CondB.mk (fun h => absurd h (by simp; omega)) (fun _ => ?_))
  refine V.r0 jhC ?_
  refine ⟨(.take 0 (.take 2 (.take 3 (.ev (.cons 1 [3, 2] (.take 4 (.ev (.cons 5 [4, 3, 2] (.ev (.cons 6 [] (.done) (.nil))) (.nil)))) (.cons 5 [3, 2, 0] (.ev (.cons 1 [3, 2] (.take 4 (.ev (.cons 6 [] (.done) (.nil)))) (.nil))) (.nil))))))), [], ⟨by kernel_rfl, by kernel_rfl, by kernel_rfl, by kernel_rfl⟩, ?_⟩
  refine jac [(10, .box 10 0)] [(10, .box [.ints .i64 (nz ns), .int .i64 out, .nil])] ?_ ?_
  ·exact V.d1 jhC cl
  refine V.r1 jhC po ?_
  refine ⟨_, _, ⟨Tryz.func110, rfl, rfl, jhO rfl⟩, ?_⟩
  (conv => whnf)
  refine V.r0 @jhS ?_
  refine lp_go (ns.length) (fun k => True) (fun k => [(10, .int .i64 k)]) (fun k => [(122, .arr .i64 (pad4 ((lastL ns).take k)))]) V.wk ?_ ?_
  ·trivial
  intro k hk _
  (conv => whnf)
  refine V.st ?_
  refine Cnd.split (CondB.mk (fun h => ?_) (fun h => ?_))
  ·rw [hlen] at h
   simp only [decide_eq_true_eq] at h
   have hk1 : k < ns.length := by omega
   obtain ⟨n, hnk⟩ : ∃ n, ns[k]? = some n := ⟨ns[k], List.getElem?_eq_getElem hk1⟩
   have hn0 := h2 n (List.mem_of_getElem? hnk)
   have en : (nz ns).getD k 0 = n := by simp [nz, List.getD_eq_getElem?_getD, hnk]
   have hll : (lastL ns)[k]? = some ((n : Int) - 1) := by simp [lastL, hnk]
   have hp4 : (pad4 ((lastL ns).take k)).length = 4 := jaz (by simp [lastL]; omega)
   have hps := jfN hll (by simp [lastL]; omega)
   refine V.r0 (V.a3 zX45_1 en hps) ?_
   exact ⟨k + 1, ⟨by omega, trivial⟩, by omega, V.wk⟩
  ·rw [hlen] at h
   simp only [decide_eq_false_iff_not] at h
   have hk1 : k = ns.length := by omega
   subst hk1
   have e0 : (lastL ns).take ns.length = lastL ns := List.take_of_length_le (by simp [lastL])
   rw [e0]
   (conv => whnf)
   refine V.st ?_
   refine Lp.ghostBox 279 10 2 .i64 (by decide) (by decide) ?_
   (conv => whnf)
   have e1 := ixl_pad0 h1 h2
   have hpos : ∀ n ∈ ns, 0 < n := fun n hn => by have := h2 n hn; omega
   refine jah (0) (fun k => k < PR ns) (fun k => PR ns - k) (fun k => []) (fun k => [(117, .lp none), (121, .arr .i64 (pad4 (ixl ns k))), (10, .box [.ints .i64 (nz ns), .int .i64 out, .osl 279 0 (flat ns (fun m => (List.range out.toNat).map (W m)) k).length]), (279, .arr .i64 (flat ns (fun m => (List.range out.toNat).map (W m)) k))]) ?_ ?_ ?_
   ·rw [e1]
    exact V.wk
   ·exact jeW hpos
   intro m hm
   have evm := ev m hm
   have hlm : ((List.range out.toNat).map (W m)).length = out.toNat := by simp
   have hp4 : (pad4 (ixl ns m)).length = 4 := jaz (by rw [jaw]; omega)
   have hp4l : (pad4 (lastL ns)).length = 4 := jaz (by simp [lastL]; omega)
   have hfl : (flat ns (fun m => (List.range out.toNat).map (W m)) m).length ≤ 4 * m := jfX (fun j hj => by simp; omega)
   have hPR := PR_le h1.2 h2
   have xb : ∀ i n, ns[i]? = some n → (0 ≤ (pad4 (ixl ns m)).getD i 0 ∧ (pad4 (ixl ns m)).getD i 0 ≤ 8) ∧ (2 ≤ (nz ns).getD i 0 ∧ (nz ns).getD i 0 ≤ 9) := by
    intro i n h
    have e := jes ns m i n h
    have b := jet hpos h e
    have b2 := h2 n (List.mem_of_getElem? h)
    have hi := (List.getElem?_eq_some_iff.1 h).1
    have e2 := jcd (k := ns.length) e hi (by rw [jaw]; omega)
    rw [List.take_of_length_le (by rw [jaw]; omega)] at e2
    rw [e2]
    simp [nz, List.getD_eq_getElem?_getD, h]
    simp at b
    omega
   have i69 := fun i (hi : i < 2) => ns.getElem?_eq_getElem (show i < ns.length by omega)
   refine V.r0 (V.a2 jhC hli) ?_
   refine jah (0 : Nat) (fun k => k ≤ 2) (fun k => 2 - k) (fun k => [(69, .int .i64 (k : Nat))]) (fun k => [(232, .box (preD (2 * k) [.str (X m 0).1, .str (X m 0).2, .str (X m 1).1, .str (X m 1).2]))]) ?_ ?_ ?_
   ·exact V.wk
   ·exact jhP _
   intro k hk
   have hk4 : k = 0 ∨ k = 1 ∨ k = 2 := by omega
   rcases hk4 with e | e | e
   all_goals subst e
   ·simp only [k0]
    have c := ov m 0 hm (by omega)
    have xb0 := xb 0 _ (i69 0 (by omega))
    refine V.r1 (V.a2 jhC hli) c ?_
    exact ⟨1, by omega, by omega, V.wk⟩
   ·simp only [k1]
    have c := ov m 1 hm (by omega)
    have xb1 := xb 1 _ (i69 1 (by omega))
    refine V.r1 (V.a2 jhC hli) c ?_
    exact ⟨2, by omega, by omega, V.wk⟩
   ·simp only [k2]
    refine V.r1 (V.a2 jhC hli) evm ?_
    obtain ⟨E, hE0, hEs, hEn, hEl⟩ : ∃ E : Nat → List Int, E 0 = flat ns (fun m => (List.range out.toNat).map (W m)) m ∧ (∀ k, k < out.toNat → E k ++ [W m k] = E (k + 1)) ∧ E out.toNat = flat ns (fun m => (List.range out.toNat).map (W m)) (m + 1) ∧ ∀ k, k ≤ out.toNat → (E k).length ≤ 30000 := by
     refine ⟨fun k => flat ns (fun m => (List.range out.toNat).map (W m)) m ++ ((List.range out.toNat).map (W m)).take k, by simp, fun k hk => ?_, ?_, fun k hk => ?_⟩
     ·show flat ns _ m ++ ((List.range out.toNat).map (W m)).take k ++ [W m k] = flat ns _ m ++ ((List.range out.toNat).map (W m)).take (k + 1)
      rw [jfz _ hk, List.append_assoc]
     ·show flat _ _ _ ++ _ = _
      rw [jb4, List.take_of_length_le (by simp)]
     ·show (flat _ _ _ ++ _).length ≤ _
      rw [List.length_append, List.length_take]
      omega
    rw [← hE0]
    refine lp_go (out.toNat) (fun k => True) (fun k => [(96, .int .i64 k)]) (fun k => [(10, .box [.ints .i64 (nz ns), .int .i64 out, .osl 279 0 (E k).length]), (279, .arr .i64 (E k))]) V.wk ?_ ?_
    ·trivial
    intro k hk _
    (conv => whnf)
    refine V.st ?_
    refine Cnd.split (CondB.mk (fun h => ?_) (fun h => ?_))
    ·simp only [decide_eq_true_eq] at h
     have hk1 : k < out.toNat := by omega
     have e := wce_at (Y m) out.toNat k hk1
     have nrk := nr m k hm hk1
     have hEk := hEs k hk1
     have hEl1 := hEl k hk
     have hEl2 : (E k).length + 1 = (E (k + 1)).length := by rw [← hEk]; simp
     (conv => whnf)
     (try simp only [zX45_2, hEk, hEl2, ← List.length_append])
     repeat ((first | refine V.s1 ?_ | ((try ((with_reducible refine .ext ?_); (conv => whnf); (try simp only [zX45_2, hEk, hEl2, ← List.length_append]))); (with_reducible refine jab (r := ?_) ?_ ?_); rotate_left; (focus (first | exact (nrk))); (conv => whnf)) | ((simp only [e]); (conv => whnf))); (try simp only [zX45_2, hEk, hEl2, ← List.length_append]))
     exact ⟨k + 1, ⟨by omega, trivial⟩, by omega, V.wk⟩
    ·simp only [decide_eq_false_iff_not] at h
     have hk1 : k = out.toNat := by omega
     subst hk1
     rw [hEn]
     (conv => whnf)
     refine V.st ?_
     refine Cnd.split (CondB.mk (fun hq => ?_) (fun hq => ?_))
     ·have hq2 : ixl ns m ≠ lastL ns := fun e => by rw [e] at hq; simp at hq
      have hil := jaw ns m
      have hll : (lastL ns).length = ns.length := by simp [lastL]
      (conv => whnf)
      refine V.st ?_
      rw [hlen]
      have e2 : (ixl ns m).take ns.length = ixl ns m := List.take_of_length_le (by omega)
      refine jah (ns.length) (fun k => (1 ≤ k ∧ k ≤ ns.length) ∧ (ixl ns m).drop k = (lastL ns).drop k) (fun k => k) (fun k => [(7, .int .i64 ((k : Int) - 1))]) (fun k => [(121, .arr .i64 (pad4 ((ixl ns m).take k)))]) ?_ ?_ ?_
      ·rw [e2]
       exact V.wk
      ·exact ⟨⟨h1.1, jhU _⟩, by rw [List.drop_of_length_le (by omega), List.drop_of_length_le (by omega)]⟩
      rintro p ⟨⟨hp1, hp2⟩, hp3⟩
      obtain ⟨p, rfl⟩ : ∃ q, p = q + 1 := ⟨p - 1, by omega⟩
      obtain ⟨x, hx⟩ : ∃ x, (ixl ns m)[p]? = some x := ⟨_, List.getElem?_eq_getElem (by omega)⟩
      obtain ⟨n, hn⟩ : ∃ n, ns[p]? = some n := ⟨ns[p], List.getElem?_eq_getElem (by omega)⟩
      have hpx := jcd hx (by omega : p < p + 1) (by omega)
      have hpl : (lastL ns)[p]? = some ((n : Int) - 1) := by simp [lastL, hn]
      have hpl2 := jcd (k := 4) hpl (by omega) (by omega)
      rw [List.take_of_length_le (by omega)] at hpl2
      have hp5 : (pad4 ((ixl ns m).take (p + 1))).length = 4 := jaz (by simp; omega)
      have e3 : ((p + 1 : Nat) : Int) - 1 = (p : Int) := by omega
      have e4 := jei hx (by omega)
      (conv => whnf)
      refine V.st ?_
      refine ⟨(.take 0 (.take 1 (.take 2 (.take 3 (.take 4 (.take 5 (.take 6 (.done)))))))), [], ⟨by kernel_rfl, by kernel_rfl, by kernel_rfl, by kernel_rfl⟩, .go (jae ?_)⟩
      refine V.r0 (V.a4 zX45_1 e3 hpx hpl2) ?_
      refine Cnd.split (CondB.mk (fun hc => ?_) (fun hc => ?_))
      ·simp only [decide_eq_true_eq] at hc
       have hd : (ixl ns m).drop p = (lastL ns).drop p := by
        rw [List.drop_eq_getElem_cons (by omega : p < (ixl ns m).length), List.drop_eq_getElem_cons (by omega : p < (lastL ns).length), hp3, (List.getElem?_eq_some_iff.1 hx).2, (List.getElem?_eq_some_iff.1 hpl).2, hc]
       have hp0 : 1 ≤ p := by
        rcases jhV p with e | e
        ·subst e; exact absurd (by simpa using hd) hq2
        ·exact e
       refine V.r0 (V.a3 zX45_1 e3 e4) ?_
       exact ⟨p, ⟨⟨hp0, by omega⟩, hd⟩, by omega, V.wk⟩
      ·simp only [decide_eq_false_iff_not] at hc
       have hsu := jfV ns hpos m p n hn x hx (by rw [hp3]; simp [lastL]) hc
       have e5 := jda (y := x + 1) hx (by omega) (by omega : (ixl ns m).length ≤ 4)
       rw [hil, ← hsu] at e5
       have hxb := jet hpos hn hx
       have hnb := h2 n (List.mem_of_getElem? hn)
       have hm1 : m + 1 < PR ns := by
        rcases jh0 (m + 1) (PR ns) with e | e
        ·exact e
        ·exfalso
         exact hq2 (jdY ns hpos m (by rw [jhX hm]; omega))
       refine V.r0 (V.a4 zX45_1 e3 hpx e5) ?_
       exact ⟨m + 1, hm1, by omega, V.wk⟩
     ·have hq2 : ixl ns m = lastL ns := jfO (by rw [jaw]; simp [lastL]) (by simpa using hq)
      have hq3 := jdW ns hpos m hq2
      rw [jhX hm] at hq3
      have hq4 : m + 1 = PR ns := by omega
      rw [hq4]
      (conv => whnf)
      refine V.st ?_
      rw [List.take_of_length_le (jhU _)]
      exact Fin.of rfl
def lnZ (a : Nat → Int) : Nat → D
 | 0 => .nil
 | k + 1 => .osl 33 0 (k + 1)
def lnH (a : Nat → Int) : Nat → Hp
 | 0 => []
 | 1 => [(33, .arr .i64 [2 + a 0 % 3])]
 | 2 => [(33, .arr .i64 [2 + a 0 % 3, 2 + a 1 % 3])]
 | _ => [(33, .arr .i64 [2 + a 0 % 3, 2 + a 1 % 3, 2 + a 2 % 3])]
def lvS (c : Int) (sl : Nat → Int) (x : List Int) : Nat → Int
 | 0 => c
 | k + 1 => lvS c sl x k + 7 * sl k * x.getD k 0
theorem jhx : type_of% @jhT ∧ type_of% @List.getD_cons_succ.{0} ∧ type_of% @List.getD_cons_zero.{0} ∧ type_of% @jhS ∧ type_of% @tn0 ∧ type_of% @tn1 ∧ type_of% @tn2 ∧ type_of% @tn3 ∧ type_of% @xt4 := ⟨@jhT, @List.getD_cons_succ.{0}, @List.getD_cons_zero.{0}, @jhS, @tn0, @tn1, @tn2, @tn3, @xt4⟩
theorem linear_t (a sl at' z1 z2 : Nat → Int) (b1 b2 : Nat → Bool) (p1 p2 : Nat → List Int) (f : Int) (s0 s1 s2 : Nat) (F0 F1 : Nat → List D) (C P R W : Nat → Tx)
  (ha : ∀ i, i < 3 → 0 ≤ a i ∧ a i ≤ 255) (hl : ∀ i, i < 3 → 0 ≤ sl i ∧ sl i ≤ 255) (hf : 0 ≤ f ∧ f ≤ 65535)
  (e0 : 2 + a 0 % 3 = (s0 : Int)) (e1 : 2 + a 1 % 3 = (s1 : Int)) (e2 : 2 + a 2 % 3 = (s2 : Int))
  (wk : Called Tryz.prog 10 [] (.bool true))
  (co : Called Tryz.prog 13 [.agg [.int .i16 (at' 0), .int .i16 (at' 1), .int .i16 (at' 2), .int .i16 (at' 3), .bool (b1 0), .ints .u16 (p1 0), .int .u16 (z1 0), .bool (b2 0), .ints .u16 (p2 0), .int .u16 (z2 0), .bool (b1 1), .ints .u16 (p1 1), .int .u16 (z1 1), .bool (b2 1), .ints .u16 (p2 1), .int .u16 (z2 1), .bool (b1 2), .ints .u16 (p1 2), .int .u16 (z1 2), .bool (b2 2), .ints .u16 (p2 2), .int .u16 (z2 2), .bool (b1 3), .ints .u16 (p1 3), .int .u16 (z1 3), .bool (b2 3), .ints .u16 (p2 3), .int .u16 (z2 3)], .int .i64 3] (.agg [.slf 2 3 F0, .slf 2 3 F1, .slf 2 3 (fun j => List.take 2 (List.drop (j * 2) [.str (C 0).1, .str (C 0).2, .str (C 1).1, .str (C 1).2, .str (C 2).1, .str (C 2).2]))]))
  (o0 : Called Tryz.prog 18 [.int .i64 (f % 1000), .int .i64 65535] (.agg [.str (W 0).1, .str (W 0).2]))
  (oi : ∀ i, i < 3 → Called Tryz.prog 18 [.int .i64 (7 * sl i * ((nz [s0, s1, s2]).getD i 0 - 1)), .int .i64 65535] (.agg [.str (P i).1, .str (P i).2]))
  (ti : ∀ i, i < 3 → Called Tryz.prog 23 [.agg [.str (P i).1, .str (P i).2], .agg [.str (C i).1, .str (C i).2]] (.agg [.str (R i).1, .str (R i).2]))
  (pi : ∀ i, i < 3 → Called Tryz.prog 22 [.agg [.str (W i).1, .str (W i).2], .agg [.str (R i).1, .str (R i).2]] (.agg [.str (W (i + 1)).1, .str (W (i + 1)).2]))
  (va : Called Tryz.prog 26 [.agg [.ints .i64 (nz [s0, s1, s2]), .int .i64 1, .ints .i64 (lnD (f % 1000) (7 * sl 0) (7 * sl 1) (7 * sl 2) [s0, s1, s2])], .agg [.str (W 3).1, .str (W 3).2], .slf 2 3 (fun j => List.take 2 (List.drop (j * 2) [.str (C 0).1, .str (C 0).2, .str (C 1).1, .str (C 1).2, .str (C 2).1, .str (C 2).2]))] (.bool true)) :
  Called Tryz.prog 6 [.iarr .u8 [a 0, a 1, a 2], .iarr .u8 [sl 0, sl 1, sl 2], .int .u16 f, .agg [.int .i16 (at' 0), .int .i16 (at' 1), .int .i16 (at' 2), .int .i16 (at' 3), .bool (b1 0), .ints .u16 (p1 0), .int .u16 (z1 0), .bool (b2 0), .ints .u16 (p2 0), .int .u16 (z2 0), .bool (b1 1), .ints .u16 (p1 1), .int .u16 (z1 1), .bool (b2 1), .ints .u16 (p2 1), .int .u16 (z2 1), .bool (b1 2), .ints .u16 (p1 2), .int .u16 (z1 2), .bool (b2 2), .ints .u16 (p2 2), .int .u16 (z2 2), .bool (b1 3), .ints .u16 (p1 3), .int .u16 (z1 3), .bool (b2 3), .ints .u16 (p2 3), .int .u16 (z2 3)]] (.bool true) := by
 have a0 := ha 0 (by omega)
 have a1 := ha 1 (by omega)
 have a2 := ha 2 (by omega)
 have l0 := hl 0 (by omega)
 have l1 := hl 1 (by omega)
 have l2 := hl 2 (by omega)
 have g0 : 2 ≤ s0 ∧ s0 ≤ 4 := by omega
 have g1 : 2 ≤ s1 ∧ s1 ≤ 4 := by omega
 have g2 : 2 ≤ s2 ∧ s2 ≤ 4 := by omega
 have hp1 : 0 ≤ (s0 : Int) * (s1 : Int) ∧ (s0 : Int) * (s1 : Int) ≤ 16 := by
  have h1 : s0 * s1 ≤ 4 * 4 := Nat.mul_le_mul g0.2 g1.2
  have h2 : (s0 : Int) * (s1 : Int) = ((s0 * s1 : Nat) : Int) := by push_cast; rfl
  omega
 have hP : (s0 : Int) * (s1 : Int) * (s2 : Int) = ((PR [s0, s1, s2] : Nat) : Int) := by simp only [PR, Nat.mul_one]; push_cast; rw [jh6]
 have hP64 : PR [s0, s1, s2] ≤ 64 := by
  simp only [PR, Nat.mul_one]
  have e1 : s1 * s2 ≤ 4 * 4 := Nat.mul_le_mul g1.2 g2.2
  have e2 : s0 * (s1 * s2) ≤ 4 * 16 := Nat.mul_le_mul g0.2 e1
  omega
 have hpos : ∀ n ∈ [s0, s1, s2], 0 < n := by intro n hn; simp at hn; omega
 have hix := fun m => rindex_c [s0, s1, s2] m (by intro n hn; simp at hn; omega) (by simp)
 have hbd := fun m => ln_bd g0 g1 g2 (c := f % 1000) (a0 := 7 * sl 0) (a1 := 7 * sl 1) (a2 := 7 * sl 2) (by omega) (by omega) (by omega) (by omega) m
 refine jaa tbOk 6 ⟨Tryz.func6, rfl, rfl, jhO rfl⟩ ?_
 (conv => whnf)
 refine V.r1 jhx wk ?_
 refine jah (0 : Nat) (fun k => k ≤ 3) (fun k => 3 - k) (fun k => [(23, .int .i64 (k : Nat))]) (fun k => (9, .box [lnZ a k, .int .i64 1, .nil]) :: lnH a k) ?_ ?_ ?_
 ·exact V.wk
 ·exact jhP _
 intro k hk
 have hk4 : k = 0 ∨ k = 1 ∨ k = 2 ∨ k = 3 := by omega
 rcases hk4 with e | e | e | e
 all_goals subst e
 ·simp only [k0, lnZ, lnH]
  refine V.r0 jhx ?_
  exact ⟨1, by omega, by omega, V.wk⟩
 ·simp only [k1, lnZ, lnH]
  refine V.r0 jhx ?_
  exact ⟨2, by omega, by omega, V.wk⟩
 ·simp only [k2, lnZ, lnH]
  refine V.r0 jhx ?_
  exact ⟨3, by omega, by omega, V.wk⟩
 ·simp only [k3, lnZ, lnH]
  refine V.r0 jhx ?_
  refine ⟨(.take 0 (.take 1 (.take 2 (.take 3 (.take 4 (.take 5 (.take 6 (.take 7 (.take 8 (.take 9 (.take 10 (.take 11 (.take 12 (.take 13 (.take 14 (.done)))))))))))))))), [], ⟨by kernel_rfl, by kernel_rfl, by kernel_rfl, by kernel_rfl⟩, ?_⟩
  refine jac [(50, .int .i64 0), (49, .int .i64 (PR [s0, s1, s2] : Nat))] [] ?_ ?_
  ·exact V.d0 (V.a5 jhx e0 e1 e2 hP)
  rw [e0, e1, e2]
  refine Lp.pub 33 ?_
  (conv => whnf)
  refine Lp.ghostBox 80 9 2 .i64 (by decide) (by decide) ?_
  (conv => whnf)
  refine jah (0) (fun k => k ≤ PR [s0, s1, s2]) (fun k => PR [s0, s1, s2] - k) (fun k => [(50, .int .i64 k)]) (fun k => [(9, .box [.ints .i64 (nz [s0, s1, s2]), .int .i64 1, .osl 80 0 (flat [s0, s1, s2] (fun m => [linV (f % 1000) (7 * sl 0) (7 * sl 1) (7 * sl 2) [s0, s1, s2] m]) k).length]), (80, .arr .i64 (flat [s0, s1, s2] (fun m => [linV (f % 1000) (7 * sl 0) (7 * sl 1) (7 * sl 2) [s0, s1, s2] m]) k))]) ?_ ?_ ?_
  ·exact V.wk
  ·exact jhP _
  intro m hm
  have hixm := hix m (by omega)
  have hil : (((ixl [s0, s1, s2] m).length : Nat) : Int) = 3 := by rw [jaw]; rfl
  have hbm := hbd m
  (conv => whnf)
  refine V.st ?_
  refine Cnd.split (CondB.mk (fun h => ?_) (fun h => ?_))
  ·simp only [decide_eq_true_eq] at h
   have hm1 : m < PR [s0, s1, s2] := by omega
   have hE : flat [s0, s1, s2] (fun m => [linV (f % 1000) (7 * sl 0) (7 * sl 1) (7 * sl 2) [s0, s1, s2] m]) m ++ [f % 1000 + 7 * sl 0 * (ixl [s0, s1, s2] m).getD 0 0 + 7 * sl 1 * (ixl [s0, s1, s2] m).getD 1 0 + 7 * sl 2 * (ixl [s0, s1, s2] m).getD 2 0] = flat [s0, s1, s2] (fun m => [linV (f % 1000) (7 * sl 0) (7 * sl 1) (7 * sl 2) [s0, s1, s2] m]) (m + 1) := by
    rw [jb4]
    rfl
   have hfl : (flat [s0, s1, s2] (fun m => [linV (f % 1000) (7 * sl 0) (7 * sl 1) (7 * sl 2) [s0, s1, s2] m]) m).length ≤ 4 * m := jfX (fun j hj => by simp)
   have hfl1 : (flat [s0, s1, s2] (fun m => [linV (f % 1000) (7 * sl 0) (7 * sl 1) (7 * sl 2) [s0, s1, s2] m]) (m + 1)).length ≤ 4 * (m + 1) := jfX (fun j hj => by simp)
   refine V.r1 jhx hixm ?_
   refine jah (0 : Nat) (fun k => k ≤ 3) (fun k => 3 - k) (fun k => [(61, .int .i64 (k : Nat)), (13, .int .i64 (lvS (f % 1000) sl (ixl [s0, s1, s2] m) k))]) (fun _ => []) ?_ ?_ ?_
   ·exact V.wk
   ·exact jhP _
   intro k hk
   have hk4 : k = 0 ∨ k = 1 ∨ k = 2 ∨ k = 3 := by omega
   rcases hk4 with e | e | e | e
   all_goals subst e
   ·simp only [k0, lvS]
    refine V.r0 (V.a2 jhx hil) ?_
    exact ⟨1, by omega, by omega, V.wk⟩
   ·simp only [k1, lvS]
    refine V.r0 (V.a2 jhx hil) ?_
    exact ⟨2, by omega, by omega, V.wk⟩
   ·simp only [k2, lvS]
    refine V.r0 (V.a2 jhx hil) ?_
    exact ⟨3, by omega, by omega, V.wk⟩
   ·simp only [k3, lvS]
    (conv => whnf)
    (try simp only [hil, hE, List.take_succ_cons, List.take_zero, List.drop_zero, ← List.length_append, jhS, tn0, tn1, tn2, tn3, xt4, jhT, List.getD_cons_zero, List.getD_cons_succ])
    repeat ((first | refine V.s1 ?_); (try simp only [hil, hE, List.take_succ_cons, List.take_zero, List.drop_zero, ← List.length_append, jhS, tn0, tn1, tn2, tn3, xt4, jhT, List.getD_cons_zero, List.getD_cons_succ]))
    have hm2 : m + 1 ≤ PR [s0, s1, s2] := by omega
    exact ⟨m + 1, hm2, by omega, V.wk⟩
  ·simp only [decide_eq_false_iff_not] at h
   have hm1 : m = PR [s0, s1, s2] := by omega
   subst hm1
   rw [show flat [s0, s1, s2] (fun m => [linV (f % 1000) (7 * sl 0) (7 * sl 1) (7 * sl 2) [s0, s1, s2] m]) (PR [s0, s1, s2]) = lnD (f % 1000) (7 * sl 0) (7 * sl 1) (7 * sl 2) [s0, s1, s2] from rfl]
   clear hbm hixm hil
   have hnl : (((nz [s0, s1, s2]).length : Nat) : Int) = 3 := rfl
   have hz : ∀ i, i < 3 → (2 ≤ (nz [s0, s1, s2]).getD i 0 ∧ (nz [s0, s1, s2]).getD i 0 ≤ 4) ∧ 0 ≤ 7 * sl i * ((nz [s0, s1, s2]).getD i 0 - 1) ∧ 7 * sl i * ((nz [s0, s1, s2]).getD i 0 - 1) ≤ 5355 := by
    intro i hi
    have hb : 2 ≤ (nz [s0, s1, s2]).getD i 0 ∧ (nz [s0, s1, s2]).getD i 0 ≤ 4 := by
     have : i = 0 ∨ i = 1 ∨ i = 2 := by omega
     rcases this with rfl | rfl | rfl <;> simp [nz] <;> omega
    have hli := hl i hi
    exact ⟨hb, jeq (s := 4) (by omega) (by omega) (by omega)⟩
   refine V.r2 jhx co o0 ?_
   refine jah (0 : Nat) (fun k => k ≤ 3) (fun k => 3 - k) (fun k => [(92, .int .i64 (k : Nat))]) (fun k => [(17, .box [.str (W k).1, .str (W k).2])]) ?_ ?_ ?_
   ·exact V.wk
   ·exact jhP _
   intro k hk
   have hk4 : k = 0 ∨ k = 1 ∨ k = 2 ∨ k = 3 := by omega
   rcases hk4 with e | e | e | e
   all_goals subst e
   ·simp only [k0]
    have c1 := oi 0 (by omega)
    have c2 := ti 0 (by omega)
    have c3 := pi 0 (by omega)
    have hzi := hz 0 (by omega)
    refine V.r0 jhx ?_
    refine ⟨(.take 0 (.take 1 (.take 2 (.take 3 (.take 4 (.take 5 (.take 6 (.take 7 (.take 8 (.take 9 (.take 10 (.take 11 (.take 12 (.take 14 (.take 15 (.take 16 (.take 17 (.ev (.cons 13 [17, 16, 15, 14, 0] (.ev (.cons 18 [0] (.ev (.cons 19 [] (.ev (.cons 20 [] (.done) (.nil))) (.nil))) (.nil))) (.nil)))))))))))))))))))), [], ⟨by kernel_rfl, by kernel_rfl, by kernel_rfl, by kernel_rfl⟩, ?_⟩
    refine jac [] [(17, .box [.str (W 1).1, .str (W 1).2])] ?_ ?_
    ·exact V.d3 jhx c1 c2 c3
    refine V.r0 jhx ?_
    exact ⟨1, by omega, by omega, V.wk⟩
   ·simp only [k1]
    have c1 := oi 1 (by omega)
    have c2 := ti 1 (by omega)
    have c3 := pi 1 (by omega)
    have hzi := hz 1 (by omega)
    refine V.r0 jhx ?_
    refine ⟨(.take 0 (.take 1 (.take 2 (.take 3 (.take 4 (.take 5 (.take 6 (.take 7 (.take 8 (.take 9 (.take 10 (.take 11 (.take 12 (.take 14 (.take 15 (.take 16 (.take 17 (.ev (.cons 13 [17, 16, 15, 14, 0] (.ev (.cons 18 [0] (.ev (.cons 19 [] (.ev (.cons 20 [] (.done) (.nil))) (.nil))) (.nil))) (.nil)))))))))))))))))))), [], ⟨by kernel_rfl, by kernel_rfl, by kernel_rfl, by kernel_rfl⟩, ?_⟩
    refine jac [] [(17, .box [.str (W 2).1, .str (W 2).2])] ?_ ?_
    ·exact V.d3 jhx c1 c2 c3
    refine V.r0 jhx ?_
    exact ⟨2, by omega, by omega, V.wk⟩
   ·simp only [k2]
    have c1 := oi 2 (by omega)
    have c2 := ti 2 (by omega)
    have c3 := pi 2 (by omega)
    have hzi := hz 2 (by omega)
    refine V.r0 jhx ?_
    refine ⟨(.take 0 (.take 1 (.take 2 (.take 3 (.take 4 (.take 5 (.take 6 (.take 7 (.take 8 (.take 9 (.take 10 (.take 11 (.take 12 (.take 14 (.take 15 (.take 16 (.take 17 (.ev (.cons 13 [17, 16, 15, 14, 0] (.ev (.cons 18 [0] (.ev (.cons 19 [] (.ev (.cons 20 [] (.done) (.nil))) (.nil))) (.nil))) (.nil)))))))))))))))))))), [], ⟨by kernel_rfl, by kernel_rfl, by kernel_rfl, by kernel_rfl⟩, ?_⟩
    refine jac [] [(17, .box [.str (W 3).1, .str (W 3).2])] ?_ ?_
    ·exact V.d3 jhx c1 c2 c3
    refine V.r0 jhx ?_
    exact ⟨3, by omega, by omega, V.wk⟩
   ·simp only [k3]
    (conv => whnf)
    (try simp only [List.take_length, List.drop_zero, jhS, tn0, tn1, tn2, tn3, xt4, jhT, List.getD_cons_zero, List.getD_cons_succ])
    repeat ((first | refine V.s1 ?_ | ((try ((with_reducible refine .ext ?_); (conv => whnf); (try simp only [List.take_length, List.drop_zero, jhS, tn0, tn1, tn2, tn3, xt4, jhT, List.getD_cons_zero, List.getD_cons_succ]))); (with_reducible refine jab (r := ?_) ?_ ?_); rotate_left; (focus (first | exact (va))); (conv => whnf))); (try simp only [List.take_length, List.drop_zero, jhS, tn0, tn1, tn2, tn3, xt4, jhT, List.getD_cons_zero, List.getD_cons_succ]))
    exact Fin.of rfl
end Go.Proofs.YtgjgpdceghjajaaGreatDoor
end
section
namespace Go.Proofs.YtgjgpdceghjajaaGreatDoor
open Go Go.V Go.Nb
def frT_o (x : Rat) : D := .agg [.str (decZ x.num), .str (dec x.den)]
def fl (q : Rat) : Int := q.num / (q.den : Int)
def gtr (m x : Rat) : Rat := if m < x then x else m
theorem ordQ_lt {x y : Rat} : ordQ x y < 0 ↔ x < y := by
 unfold ordQ
 by_cases a : x < y
 ·rw [if_pos a]; exact ⟨fun _ => a, fun _ => by omega⟩
 ·rw [if_neg a]
  by_cases b : x = y
  ·rw [if_pos b]; exact ⟨fun h => by omega, fun h => absurd h a⟩
  ·rw [if_neg b]; exact ⟨fun h => by omega, fun h => absurd h a⟩
theorem ordQ_gt {x y : Rat} : ordQ x y > 0 ↔ y < x := by
 unfold ordQ
 by_cases a : x < y
 ·rw [if_pos a]; exact ⟨fun h => by omega, fun h => absurd h (Rat.not_lt.2 (Rat.le_of_lt a))⟩
 ·rw [if_neg a]
  by_cases b : x = y
  ·rw [if_pos b, b]; exact ⟨fun h => by omega, fun h => absurd h (Rat.lt_irrefl)⟩
  ·rw [if_neg b]; exact ⟨fun _ => Rat.lt_of_le_of_ne (Rat.not_lt.1 a) (Ne.symm b), fun _ => by omega⟩
def hasR (x : Rat) (p q : Int) : Bool := decide (ordQ x (unit p) ≥ 0) && decide (ordQ x (unit q) ≤ 0)
theorem jgx (n d : Int) (hd : 0 < d) : (Rat.divInt n d).num * d = n * ((Rat.divInt n d).den : Int) := by
 have h := (Rat.divInt n d).den_pos
 rw [← Rat.divInt_eq_divInt_iff (by omega) (by omega), jii]
theorem divInt_lt' (n d : Int) (hd : 0 < d) (x : Rat) : Rat.divInt n d < x ↔ n * x.den < x.num * d := by
 have e := jgx n d hd
 have hb : (0 : Int) < ((Rat.divInt n d).den : Int) := by have := (Rat.divInt n d).den_pos; omega
 rw [Rat.lt_iff]
 generalize (Rat.divInt n d).num = a at *
 generalize ((Rat.divInt n d).den : Int) = b at *
 have e1 : a * x.den * d = n * x.den * b := by
  rw [Int.mul_right_comm, e, Int.mul_right_comm]
 have e2 : x.num * b * d = x.num * d * b := by rw [Int.mul_right_comm]
 constructor
 ·intro h
  have := Int.mul_lt_mul_of_pos_right h hd
  rw [e1, e2] at this
  exact Int.lt_of_mul_lt_mul_right this (by omega)
 ·intro h
  have := Int.mul_lt_mul_of_pos_right h hb
  rw [← e1, ← e2] at this
  exact Int.lt_of_mul_lt_mul_right this (by omega)
theorem divInt_eq' (n d : Int) (hd : 0 < d) (x : Rat) : x = Rat.divInt n d ↔ x.num * d = n * x.den := by
 have hp := x.den_pos
 conv => lhs; rw [← jii x]
 exact Rat.divInt_eq_divInt_iff (by omega) (by omega)
theorem ord_ge (x y : Rat) : ordQ x y ≥ 0 ↔ ¬ x < y := by
 have := ordQ_lt (x := x) (y := y)
 constructor
 ·intro h h2; have := this.2 h2; omega
 ·intro h
  rcases Int.lt_or_le (ordQ x y) 0 with h2 | h2
  ·exact absurd (this.1 h2) h
  ·exact h2
theorem ord_le (x y : Rat) : ordQ x y ≤ 0 ↔ ¬ y < x := by
 have := ordQ_gt (x := x) (y := y)
 constructor
 ·intro h h2; have := this.2 h2; omega
 ·intro h
  rcases Int.lt_or_le 0 (ordQ x y) with h2 | h2
  ·exact absurd (this.1 h2) h
  ·exact h2
theorem jfw (m : Int) (x : Rat) : unit m < x ↔ m * x.den < x.num * 1000000000000 := divInt_lt' m _ (by decide) x
theorem jfx (m : Int) (x : Rat) : x = unit m ↔ x.num * 1000000000000 = m * x.den := divInt_eq' m _ (by decide) x
theorem jg2 (m : Int) (x : Rat) : x < unit m ↔ x.num * 1000000000000 < m * x.den := by
 have h1 := jfw m x
 have h2 := jfx m x
 constructor
 ·intro h
  have a1 : ¬ unit m < x := Rat.not_lt.2 (Rat.le_of_lt h)
  have a2 : ¬ x = unit m := Rat.ne_of_lt h
  rw [h1] at a1
  rw [h2] at a2
  omega
 ·intro h
  have a1 : ¬ unit m < x := fun g => by have := h1.1 g; omega
  have a2 : ¬ x = unit m := fun g => by have := h2.1 g; omega
  exact Rat.lt_of_le_of_ne (Rat.not_lt.1 a1) a2
theorem jfW (x : Rat) (p q : Int) : hasR x p q = true ↔ p * x.den ≤ x.num * 1000000000000 ∧ x.num * 1000000000000 ≤ q * x.den := by
 unfold hasR
 rw [jhN, decide_eq_true_eq, decide_eq_true_eq, ord_ge, ord_le, jg2, jfw]
 omega
theorem jg1 (x : Rat) : 2 * (nearZ x 1000000000000 * x.den) ≤ 2 * (x.num * 1000000000000) + x.den ∧ 2 * (x.num * 1000000000000) + x.den < 2 * (nearZ x 1000000000000 * x.den) + 2 * x.den := by
 have hp := x.den_pos
 unfold nearZ
 have h1 := jhQ (x.num * ((1000000000000 * 2 : Nat) : Int) + x.den) ((x.den * 2 : Nat) : Int)
 have h2 := Int.emod_nonneg (x.num * ((1000000000000 * 2 : Nat) : Int) + x.den) (show ((x.den * 2 : Nat) : Int) ≠ 0 by omega)
 have h3 := jib (x.num * ((1000000000000 * 2 : Nat) : Int) + x.den) (show 0 < ((x.den * 2 : Nat) : Int) by omega)
 generalize (x.num * ((1000000000000 * 2 : Nat) : Int) + x.den) % ((x.den * 2 : Nat) : Int) = r at *
 generalize (x.num * ((1000000000000 * 2 : Nat) : Int) + x.den) / ((x.den * 2 : Nat) : Int) = n at *
 have e : ((x.den * 2 : Nat) : Int) * n = 2 * (n * x.den) := by
  rw [show ((x.den * 2 : Nat) : Int) = 2 * (x.den : Int) by omega, jh6, jh5 (x.den : Int) n]
 rw [e] at h1
 generalize n * (x.den : Int) = y at *
 omega
theorem near_le (x : Rat) (K : Int) (h : -(K * x.den) ≤ x.num ∧ x.num ≤ K * x.den) : -(K * 1000000000000) - 1 ≤ nearZ x 1000000000000 ∧ nearZ x 1000000000000 ≤ K * 1000000000000 + 1 := by
 have hp := x.den_pos
 obtain ⟨b1, b2⟩ := jg1 x
 generalize nearZ x 1000000000000 = n at *
 have e : K * 1000000000000 * (x.den : Int) = 1000000000000 * (K * x.den) := by rw [Int.mul_right_comm, jh5]
 constructor
 ·rcases Int.lt_or_le n (-(K * 1000000000000) - 1) with g | g
  ·exfalso
   have := jhY (show n ≤ -(K * 1000000000000) - 2 by omega) (show (0 : Int) ≤ x.den by omega)
   rw [Int.sub_mul, Int.neg_mul, e] at this
   omega
  ·exact g
 ·rcases Int.lt_or_le (K * 1000000000000 + 1) n with g | g
  ·exfalso
   have := jhY (show K * 1000000000000 + 2 ≤ n by omega) (show (0 : Int) ≤ x.den by omega)
   rw [jie, e] at this
   omega
  ·exact g
theorem around_law (x : Rat) (h : -999999999999999999 ≤ nearZ x 1000000000000 ∧ nearZ x 1000000000000 ≤ 999999999999999999) :
  ∃ p q, jcV x = (p, q, 0) ∧ vb p q = true ∧ q - p ≤ 1 ∧ hasR x p q = true ∧ (p = q ↔ unit p = x) := by
 have hp := x.den_pos
 obtain ⟨b1, b2⟩ := jg1 x
 unfold jcV
 rw [if_pos (jbt.2 (by omega))]
 generalize nearZ x 1000000000000 = n at *
 have l1 := jg2 n x
 have l2 := jfw n x
 have e1 : (n + -1) * (x.den : Int) = n * x.den - x.den := by rw [jie]; omega
 have e2 : (n + 1) * (x.den : Int) = n * x.den + x.den := by rw [jie]; omega
 by_cases g1 : x < unit n
 ·have o : ordQ x (unit n) = -1 := by unfold ordQ; rw [if_pos g1]
  rw [o, show min (-1 : Int) 0 = -1 from rfl, show max (-1 : Int) 0 = 0 from rfl, mk_ok (by omega), jic]
  have := l1.1 g1
  refine ⟨_, _, rfl, jbt.2 (by omega), by omega, (jfW _ _ _).2 (by rw [e1]; omega), ⟨fun h => by omega, fun h => ?_⟩⟩
  have := (jfx (n + -1) x).1 h.symm
  rw [e1] at this
  omega
 ·by_cases g2 : x = unit n
  ·have o : ordQ x (unit n) = 0 := by unfold ordQ; rw [if_neg g1, if_pos g2]
   rw [o, show min (0 : Int) 0 = 0 from rfl, show max (0 : Int) 0 = 0 from rfl, mk_ok (by omega), jic]
   have := (jfx n x).1 g2
   exact ⟨_, _, rfl, jbt.2 (by omega), by omega, (jfW _ _ _).2 (by omega), ⟨fun _ => g2.symm, fun _ => rfl⟩⟩
  ·have o : ordQ x (unit n) = 1 := by unfold ordQ; rw [if_neg g1, if_neg g2]
   rw [o, show min (1 : Int) 0 = 0 from rfl, show max (1 : Int) 0 = 1 from rfl, mk_ok (by omega), jic]
   have h3 : unit n < x := Rat.lt_of_le_of_ne (Rat.not_lt.1 g1) (Ne.symm g2)
   have := l2.1 h3
   exact ⟨_, _, rfl, jbt.2 (by omega), by omega, (jfW _ _ _).2 (by rw [e2]; omega), ⟨fun h => by omega, fun h => absurd h.symm g2⟩⟩
theorem near_unit (m : Int) : nearZ (unit m) 1000000000000 = m := by
 obtain ⟨b1, b2⟩ := jg1 (unit m)
 have h := (jfx m (unit m)).1 rfl
 have hp := (unit m).den_pos
 generalize nearZ (unit m) 1000000000000 = n at *
 rw [h] at b1 b2
 generalize (unit m).den = d at *
 rcases Int.lt_trichotomy n m with g | g | g
 ·exfalso
  have := jhY (show n + 1 ≤ m by omega) (show (0 : Int) ≤ d by omega)
  rw [jie] at this
  omega
 ·exact g
 ·exfalso
  have := jhY (show m + 1 ≤ n by omega) (show (0 : Int) ≤ d by omega)
  rw [jie] at this
  omega
theorem jeU (m : Int) (h : vb m m = true) : jcV (unit m) = (m, m, 0) := by
 unfold jcV
 rw [near_unit, if_pos h, show ordQ (unit m) (unit m) = 0 by unfold ordQ; rw [if_neg Rat.lt_irrefl, if_pos rfl]]
 rw [show min (0 : Int) 0 = 0 from rfl, show max (0 : Int) 0 = 0 from rfl, jic]
 unfold mk
 rw [if_pos h]
theorem okF_40 {q : Rat} (h1 : q.num.natAbs < 10 ^ 40) (h2 : q.den < 10 ^ 40) : okF q = true := by
 unfold okF
 simp only [jhN, decide_eq_true_eq]
 exact ⟨jh1 (jaS 40 _ (by omega) h1).1 (by omega), jh1 (jaS 40 _ (by omega) h2).1 (by omega)⟩
theorem divInt_40 (n d : Int) (hn : -10000000000000000000000000000000000000000 < n ∧ n < 10000000000000000000000000000000000000000) (hd : d ≠ 0 ∧ -10000000000000000000000000000000000000000 < d ∧ d < 10000000000000000000000000000000000000000) :
  (Rat.divInt n d).num.natAbs < 10 ^ 40 ∧ (Rat.divInt n d).den < 10 ^ 40 := by
 rcases (by omega : 0 < d ∨ d < 0) with h | h
 ·obtain ⟨k, rfl⟩ : ∃ k : Nat, d = k := ⟨d.toNat, by omega⟩
  have := jeI n k (by omega)
  constructor
  ·exact Nat.lt_of_le_of_lt this.1 (by omega)
  ·exact Nat.lt_of_le_of_lt this.2 (by omega)
 ·rw [← Rat.neg_divInt_neg]
  obtain ⟨k, hk⟩ : ∃ k : Nat, -d = k := ⟨(-d).toNat, by omega⟩
  rw [hk]
  have := jeI (-n) k (by omega)
  constructor
  ·exact Nat.lt_of_le_of_lt this.1 (by omega)
  ·exact Nat.lt_of_le_of_lt this.2 (by omega)
theorem in01_c_o (s : List UInt8) (h : okW s = true) : Called Tryz.prog 73 [.str s] (plD (wval s)) := by
 obtain ⟨d, j, neg, S, e1, e2⟩ := sg_of s
 rw [e2]
 rw [e1] at h
 unfold okD at h
 simp only [jhN, Bool.not_eq_true', jh2, decide_eq_false_iff_not, List.all_eq_true] at h
 exact in01_g s d j neg S h.1.2 (by omega) (by have := S.hl; omega)
def whV (l : List Int) : Int := l.foldl (fun v x => v * 1000 + x % 1000) 0
theorem whV_snoc (l : List Int) (x : Int) : whV (l ++ [x]) = whV l * 1000 + x % 1000 := by unfold whV; rw [List.foldl_append]; rfl
theorem whV_take (xs : List Int) (k : Nat) (h : k < xs.length) : whV (xs.take (k + 1)) = whV (xs.take k) * 1000 + xs.getD k 0 % 1000 := by
 rw [List.take_add_one, List.getElem?_eq_getElem h, ← whV_snoc, List.getD_eq_getElem?_getD, List.getElem?_eq_getElem h]; rfl
theorem whV_bd : ∀ (k : Nat) (xs : List Int), 0 ≤ whV (xs.take k) ∧ whV (xs.take k) < ((1000 ^ k : Nat) : Int)
 | 0, xs => by simp [whV]
 | k + 1, xs => by
  have ih := whV_bd k xs
  have hp : (1000 : Nat) ^ (k + 1) = 1000 ^ k * 1000 := Nat.pow_succ ..
  rw [hp]
  generalize (1000 : Nat) ^ k = p at *
  rcases jh0 k xs.length with h | h
  ·rw [whV_take xs k h]
   omega
  ·have e : xs.take (k + 1) = xs.take k := by rw [List.take_of_length_le (by omega), List.take_of_length_le h]
   rw [e]
   omega
theorem raised_c (k : Nat) (hk : k ≤ 3) : Called Tryz.prog 119 [plD 10, .int .i64 k] (plD ((10 ^ k : Nat) : Int)) := by
 have h1 := jbf 1 (by constructor <;> decide)
 have ht : ∀ i, i < k → Called Tryz.prog 109 [plD ((10 ^ i : Nat) : Int), plD 10] (plD ((10 ^ (i + 1) : Nat) : Int)) := fun i hi => by
  have := jbp ((10 ^ i : Nat) : Int) 10 (Sm.lit (k := 5) (by
   rcases (by omega : i = 0 ∨ i = 1 ∨ i = 2) with e | e | e <;> subst e <;> decide) |>.mono (by omega)) ((Sm.lit (k := 5) (by decide)).mono (by omega))
  rw [Nat.pow_succ, jh3]
  exact this
 obtain ⟨v, hv⟩ : ∃ v : Nat → Int, v = fun i => ((10 ^ i : Nat) : Int) := ⟨_, rfl⟩
 have ht : ∀ i, i < k → Called Tryz.prog 109 [plD (v i), plD 10] (plD (v (i + 1))) := by rw [hv]; exact ht
 have h1 : Called Tryz.prog 75 [.int .i64 1] (plD (v 0)) := by rw [hv]; exact h1
 rw [show ((10 ^ k : Nat) : Int) = v k by rw [hv]]
 clear hv
 obtain ⟨ten, hten⟩ : ∃ z : Int, z = 10 := ⟨_, rfl⟩
 rw [← hten] at ht ⊢
 clear hten
 unfold plD at *
 refine jaa tbOk 6 ⟨Tryz.func119, rfl, rfl, jhO rfl⟩ ?_
 (conv => whnf)
 refine V.st ?_
 repeat ((try ((with_reducible refine .ext ?_); (conv => whnf))); (with_reducible refine jab (r := ?_) ?_ ?_); rotate_left; (focus (first | exact (h1))); (conv => whnf); refine V.st ?_)
 refine jah (0 : Nat) (fun i => i ≤ k) (fun i => k - i) (fun i => [(6, .int .i64 i)]) (fun i => [(5, .box [.bool (decide (v i < 0)), .ints .i64 (mg 10000 (v i).natAbs)])]) ?_ ?_ ?_
 ·exact V.wk
 ·exact jhP _
 intro i hi
 have hic : ((i : Int) + 1) = ((i + 1 : Nat) : Int) := by omega
 have hti := ht i
 (conv => whnf)
 refine V.st ?_
 refine Cnd.split (CondB.mk (fun hq => ?_) (fun hq => ?_))
 ·rw [decide_eq_true_eq] at hq
  have hti := hti (by omega)
  (conv => whnf)
  (try simp only [hic])
  repeat ((first | refine V.s1 ?_ | ((with_reducible refine jal ?_ ?_); (focus ((conv => whnf); (try simp only [hic]); (repeat ((first | refine V.s1 ?_); (try simp only [hic]))); exact ⟨rfl⟩)); (conv => whnf)) | ((try ((with_reducible refine .ext ?_); (conv => whnf); (try simp only [hic]))); (with_reducible refine jab (r := ?_) ?_ ?_); rotate_left; (focus (first | exact (hti))); (conv => whnf))); (try simp only [hic]))
  exact ⟨i + 1, by omega, by omega, V.wk⟩
 ·rw [decide_eq_false_iff_not] at hq
  obtain rfl : i = k := by omega
  (conv => whnf)
  refine V.st ?_
  exact Fin.of rfl
theorem dwhole_c (b : Bool) (xs : List Int) (z : Int) (hz : 0 ≤ z ∧ z ≤ 3) : ∃ v : Int, (-10000000000000000000000000000000000000000 < v ∧ v < 10000000000000000000000000000000000000000) ∧
  Called Tryz.prog 74 [.agg [.bool b, .ints .u16 xs, .int .u16 z]] (.str (decZ v)) := by
 obtain ⟨n, rfl⟩ : ∃ n : Nat, z = n := ⟨z.toNat, by omega⟩
 have hzm : (n : Int) % 501 = (n : Int) := by omega
 have i0 := jbf 0 (by constructor <;> decide)
 have i1 := jbf 1000 (by constructor <;> decide)
 have i2 := jbf 10 (by constructor <;> decide)
 have r1 := raised_c n (by omega)
 have p10 : ((10 ^ n : Nat) : Int) ≤ 1000 ∧ 1 ≤ ((10 ^ n : Nat) : Int) := by
  rcases (by omega : n = 0 ∨ n = 1 ∨ n = 2 ∨ n = 3) with e | e | e | e <;> subst e <;> decide
 generalize ((10 ^ n : Nat) : Int) = ten at *
 obtain ⟨U, hU⟩ : ∃ U : Nat → Int, U = fun k => whV (xs.take k) := ⟨_, rfl⟩
 have bd : ∀ k, k ≤ 12 → 0 ≤ U k ∧ U k < 1000000000000000000000000000000000000 := fun k hk => by
  have := whV_bd k xs
  have h2 : (1000 : Nat) ^ k ≤ 1000 ^ 12 := jh9 (by omega) hk
  rw [hU]
  exact ⟨this.1, Int.lt_of_lt_of_le this.2 (Int.ofNat_le.2 h2)⟩
 have st : ∀ k, k < xs.length → U (k + 1) = U k * 1000 + xs.getD k 0 % 1000 := fun k hk => by rw [hU]; exact whV_take xs k hk
 have V0 : U 0 = 0 := by rw [hU]; rfl
 have Vn : ∀ k, ¬ (k < 12 ∧ k < xs.length) → k ≤ 12 → U k = U 12 := fun k h1 h2 => by
  rw [hU]
  show whV (xs.take k) = whV (xs.take 12)
  rcases (by omega : k = 12 ∨ xs.length ≤ k) with e | e
  ·rw [e]
  ·rw [List.take_of_length_le e, List.take_of_length_le (by omega)]
 clear hU
 have sm : ∀ a : Int, 0 ≤ a → a < 1000000000000000000000000000000000000000 → Sm 10 a := fun a h1 h2 => Sm.lit (by omega)
 have sm2 : ∀ a : Int, 0 ≤ a → a < 1000000000000000000000000000000000000000 → (mg 10000 a.natAbs).length ≤ 10 := sm
 have hb := bd 12 (by omega)
 have hfin : 0 ≤ U 12 * ten ∧ U 12 * ten < 1000000000000000000000000000000000000000 := by
  have h1 := jhR hb.1 (show 0 ≤ ten by omega)
  have h2 := jh7 p10.1 hb.1
  omega
 have t9 := jbp (U 12) ten ((sm _ hb.1 (by omega)).mono (by omega)) ((sm _ (by omega) (by omega)).mono (by omega))
 obtain ⟨w, hw⟩ : ∃ w : Int, U 12 * ten = w := ⟨_, rfl⟩
 rw [hw] at t9 hfin
 have m1 := jcQ b w.natAbs (by have := sm2 w hfin.1 hfin.2; omega)
 rw [show ((w.natAbs : Nat) : Int) = w by omega] at m1
 have hv : -1000000000000000000000000000000000000000 < (if b = true then -w else w) ∧ (if b = true then -w else w) < 1000000000000000000000000000000000000000 := by split <;> omega
 refine ⟨if b = true then -w else w, by omega, ?_⟩
 generalize (if b = true then -w else w) = v at *
 have o1 := out_c v (Sm.lit (k := 10) (by omega) |>.mono (by omega))
 have hd := (jaS 40 v.natAbs (by omega) (by omega)).1
 rw [if_neg (by omega), if_neg (by omega)] at o1
 obtain ⟨k1000, hk1000⟩ : ∃ q : Int, q = 1000 := ⟨_, rfl⟩
 obtain ⟨k10, hk10⟩ : ∃ q : Int, q = 10 := ⟨_, rfl⟩
 have tk : ∀ k, k ≤ 12 → Called Tryz.prog 109 [plD (U k), plD k1000] (plD (U k * 1000)) := fun k hk => by
  rw [hk1000]
  exact jbp (U k) 1000 ((sm _ (bd k hk).1 (by have := (bd k hk).2; omega)).mono (by omega)) ((sm _ (by omega) (by omega)).mono (by omega))
 have i1 : Called Tryz.prog 75 [.int .i64 1000] (plD k1000) := by rw [hk1000]; exact i1
 have i2 : Called Tryz.prog 75 [.int .i64 10] (plD k10) := by rw [hk10]; exact i2
 have r1 : Called Tryz.prog 119 [plD k10, .int .i64 n] (plD ten) := by rw [hk10]; exact r1
 have i0 : Called Tryz.prog 75 [.int .i64 0] (plD (U 0)) := by rw [V0]; exact i0
 clear hk1000 hk10 hb hfin hv hw hd V0 p10
 unfold plD at i0 i1 i2 r1 tk t9 m1 o1
 refine jaa tbOk 6 ⟨Tryz.func74, rfl, rfl, jhO rfl⟩ ?_
 (conv => whnf)
 refine V.st ?_
 repeat ((try ((with_reducible refine .ext ?_); (conv => whnf))); (with_reducible refine jab (r := ?_) ?_ ?_); rotate_left; (focus (first | exact (i0))); (conv => whnf); refine V.st ?_)
 refine jah (0 : Nat) (fun k => k ≤ 12 ∧ k ≤ xs.length) (fun k => 12 - k) (fun k => [(4, .int .i64 k)]) (fun k => [(3, .box [.bool (decide (U k < 0)), .ints .i64 (mg 10000 (U k).natAbs)])]) ?_ ?_ ?_
 ·exact V.wk
 ·exact ⟨by omega, by omega⟩
 intro k hk
 have hkc : ((k : Int) + 1) = ((k + 1 : Nat) : Int) := by omega
 (conv => whnf)
 refine V.st ?_
 refine Cnd.split (CondB.mk (fun hq => ?_) (fun hq => ?_))
 ·simp only [jhN, decide_eq_true_eq] at hq
  obtain ⟨x, hx, ex⟩ := getxn (xs := xs) (k := k) (by omega)
  have hst := st k (by omega)
  rw [ex] at hst
  have hbk := bd k (by omega)
  have hbk1 := bd (k + 1) (by omega)
  have h1 := tk k (by omega)
  have h2 := jbf (x % 1000) (by simp only [InR, V.lo, V.hi]; omega)
  have h3 := jgi (U k * 1000) (x % 1000) ((sm _ (by omega) (by omega)).mono (by omega)) ((sm _ (by omega) (by omega)).mono (by omega))
  rw [← hst] at h3
  unfold plD at h2 h3
  obtain ⟨r, hr⟩ : ∃ r, x % 1000 = r := ⟨_, rfl⟩
  rw [hr] at h2 h3
  (conv => whnf)
  refine V.st ?_
  refine ⟨(.take 0 (.take 3 (.take 4 (.take 5 (.take 6 (.take 7 (.take 8 (.take 9 (.ev (.cons 1 [9, 8, 7, 6, 5, 4, 3, 0] (.ev (.cons 2 [9, 8, 7, 6, 5, 4, 3] (.ev (.cons 10 [] (.ev (.cons 11 [] (.ev (.cons 12 [] (.done) (.nil))) (.nil))) (.nil))) (.nil))) (.nil))))))))))), [], ⟨by kernel_rfl, by kernel_rfl, by kernel_rfl, by kernel_rfl⟩, .go (jae ?_)⟩
  (conv => whnf)
  (try simp only [jhT, ex, hr, hkc])
  repeat ((first | refine V.s1 ?_ | ((with_reducible refine jal ?_ ?_); (focus ((conv => whnf); (try simp only [jhT, ex, hr, hkc]); (repeat ((first | refine V.s1 ?_); (try simp only [jhT, ex, hr, hkc]))); exact ⟨rfl⟩)); (conv => whnf)) | ((try ((with_reducible refine .ext ?_); (conv => whnf); (try simp only [jhT, ex, hr, hkc]))); (with_reducible refine jab (r := ?_) ?_ ?_); rotate_left; (focus (first | exact (i1) | exact (h1) | exact (h2) | exact (h3))); (conv => whnf))); (try simp only [jhT, ex, hr, hkc]))
  exact ⟨k + 1, ⟨by omega, by omega⟩, by omega, V.wk⟩
 ·have hk12 : U k = U 12 := Vn k (fun h => by rw [Bool.and_eq_false_iff, decide_eq_false_iff_not, decide_eq_false_iff_not] at hq; omega) hk.1
  rw [hk12]
  (conv => whnf)
  refine V.st ?_
  refine ⟨(.take 0 (.take 2 (.take 3 (.take 4 (.take 5 (.ev (.cons 1 [5, 4, 3, 2, 0] (.ev (.cons 6 [0] (.ev (.cons 7 [] (.ev (.cons 8 [] (.done) (.nil))) (.nil))) (.nil))) (.nil)))))))), [], ⟨by kernel_rfl, by kernel_rfl, by kernel_rfl, by kernel_rfl⟩, .go (jae ?_)⟩
  (conv => whnf)
  (try simp only [hzm])
  repeat ((first | refine V.s1 ?_ | ((with_reducible refine jal ?_ ?_); (focus ((conv => whnf); (try simp only [hzm]); (repeat ((first | refine V.s1 ?_); (try simp only [hzm]))); exact ⟨rfl⟩)); (conv => whnf)) | ((try ((with_reducible refine .ext ?_); (conv => whnf); (try simp only [hzm]))); (with_reducible refine jab (r := ?_) ?_ ?_); rotate_left; (focus (first | exact (i2) | exact (r1) | exact (t9))); (conv => whnf))); (try simp only [hzm]))
  (conv => whnf)
  refine V.st ?_
  repeat ((try ((with_reducible refine .ext ?_); (conv => whnf))); (with_reducible refine jab (r := ?_) ?_ ?_); rotate_left; (focus (first | exact (m1) | exact (o1))); (conv => whnf); refine V.st ?_)
  exact Fin.of rfl
theorem dfrac_c (b : Bool) (xs : List Int) (z : Int) (b2 : Bool) (xs2 : List Int) (z2 : Int) (hz : 0 ≤ z ∧ z ≤ 65535) (hz2 : 0 ≤ z2 ∧ z2 ≤ 65535) : ∃ q : Rat, okF q = true ∧
  Called Tryz.prog 43 [.agg [.bool b, .ints .u16 xs, .int .u16 z, .bool b2, .ints .u16 xs2, .int .u16 z2]] (frT_o q) := by
 obtain ⟨r, hr⟩ : ∃ r, z % 4 = r := ⟨_, rfl⟩
 obtain ⟨r2, hr2⟩ : ∃ r, z2 % 4 = r := ⟨_, rfl⟩
 obtain ⟨v, hv, w1⟩ := dwhole_c b xs r (by omega)
 obtain ⟨v2, hv2, w2⟩ := dwhole_c b2 xs2 r2 (by omega)
 obtain ⟨y, hy⟩ : ∃ y, y = if v2 = 0 then 1 else v2 := ⟨_, rfl⟩
 have hy0 : y ≠ 0 ∧ -10000000000000000000000000000000000000000 < y ∧ y < 10000000000000000000000000000000000000000 := by
  rw [hy]; split <;> omega
 have n40 := divInt_40 v y hv hy0
 have hok := okF_40 n40.1 n40.2
 have l40 : ∀ a : Int, (-10000000000000000000000000000000000000000 < a ∧ a < 10000000000000000000000000000000000000000) → Sm 10 a ∧ (dec a.natAbs).length ≤ 600 := fun a ha =>
  ⟨Sm.lit (by omega), jh1 (jaS 40 a.natAbs (by omega) (by omega)).1 (by omega)⟩
 have i1 := in01_c_o (decZ v) (jbx v (l40 v hv).2)
 have i2 := in01_c_o (decZ v2) (jbx v2 (l40 v2 hv2).2)
 rw [jbb] at i1 i2
 have k1 := jbf 1 (by constructor <;> decide)
 have lw := jdX v y ((l40 v hv).1.mono (by omega)) ((l40 y hy0.2).1.mono (by omega)) hy0.1
 have q4 : Q4 10 (Rat.divInt v y) := Q4.of (l40 v hv).1 (l40 y hy0.2).1 hy0.1
 have o1 := jfP (Rat.divInt v y) (q4.1.mono (by omega)) (q4.2.mono (by omega))
 unfold frR at o1
 rw [hok] at o1
 simp only [cond_true] at o1
 refine ⟨_, hok, ?_⟩
 have hnil := jb2 (B := 10000) (n := v2.natAbs) (by omega)
 clear q4 hok n40 l40
 generalize Rat.divInt v y = q at *
 unfold frT_o raD plD at *
 generalize decZ v = t1 at *
 generalize decZ v2 = t2 at *
 refine jaa tbOk 6 ⟨Tryz.func43, rfl, rfl, jhO rfl⟩ ?_
 (conv => whnf)
 refine V.st ?_
 refine ⟨(.take 0 (.take 1 (.take 2 (.take 3 (.ev (.cons 4 [3, 2, 1, 0] (.ev (.cons 5 [3, 2, 1, 0] (.ev (.cons 6 [3, 2] (.ev (.cons 7 [] (.done) (.nil))) (.nil))) (.nil))) (.cons 5 [3, 2, 1, 0] (.ev (.cons 4 [3, 2, 1, 0] (.ev (.cons 6 [3, 2] (.ev (.cons 7 [] (.done) (.nil))) (.nil))) (.nil))) (.nil)))))))), [], ⟨by kernel_rfl, by kernel_rfl, by kernel_rfl, by kernel_rfl⟩, ?_⟩
 refine jac [(3, .box 3 0), (4, .box 4 0)] [(3, .box [.bool b, .ints .u16 xs, .int .u16 z]), (4, .box [.bool b2, .ints .u16 xs2, .int .u16 z2])] ?_ ?_
 ·exact V.d0 @jhS
 (conv => whnf)
 refine V.st ?_
 refine ⟨(.take 0 (.take 1 (.take 2 (.take 3 (.take 4 (.take 5 (.take 6 (.ev (.cons 7 [5, 4, 3] (.take 8 (.ev (.cons 9 [] (.done) (.nil)))) (.nil)))))))))), [], ⟨by kernel_rfl, by kernel_rfl, by kernel_rfl, by kernel_rfl⟩, ?_⟩
 refine jac [] [(3, .box [.bool b, .ints .u16 xs, .int .u16 r]), (4, .box [.bool b2, .ints .u16 xs2, .int .u16 r2])] ?_ ?_
 ·exact V.d0 (V.a3 @jhS hr hr2)
 (conv => whnf)
 refine V.st ?_
 refine ⟨(.take 0 (.take 3 (.ev (.cons 1 [3] (.ev (.cons 2 [3] (.ev (.cons 4 [] (.ev (.cons 5 [] (.ev (.cons 6 [] (.ev (.cons 7 [] (.ev (.cons 8 [] (.ev (.cons 9 [] (.done) (.nil))) (.nil))) (.nil))) (.cons 7 [] (.ev (.cons 6 [] (.ev (.cons 8 [] (.ev (.cons 9 [] (.done) (.nil))) (.nil))) (.nil))) (.nil)))) (.cons 6 [] (.ev (.cons 5 [] (.ev (.cons 7 [] (.ev (.cons 8 [] (.ev (.cons 9 [] (.done) (.nil))) (.nil))) (.nil))) (.cons 7 [] (.ev (.cons 5 [] (.ev (.cons 8 [] (.ev (.cons 9 [] (.done) (.nil))) (.nil))) (.nil))) (.nil)))) (.cons 7 [] (.ev (.cons 5 [] (.ev (.cons 6 [] (.ev (.cons 8 [] (.ev (.cons 9 [] (.done) (.nil))) (.nil))) (.nil))) (.cons 6 [] (.ev (.cons 5 [] (.ev (.cons 8 [] (.ev (.cons 9 [] (.done) (.nil))) (.nil))) (.nil))) (.nil)))) (.nil))))) (.cons 6 [3] (.ev (.cons 4 [] (.ev (.cons 5 [] (.ev (.cons 7 [] (.ev (.cons 8 [] (.ev (.cons 9 [] (.done) (.nil))) (.nil))) (.nil))) (.cons 7 [] (.ev (.cons 5 [] (.ev (.cons 8 [] (.ev (.cons 9 [] (.done) (.nil))) (.nil))) (.nil))) (.nil)))) (.cons 7 [3] (.ev (.cons 4 [] (.ev (.cons 5 [] (.ev (.cons 8 [] (.ev (.cons 9 [] (.done) (.nil))) (.nil))) (.nil))) (.nil))) (.nil)))) (.cons 7 [3] (.ev (.cons 4 [] (.ev (.cons 5 [] (.ev (.cons 6 [] (.ev (.cons 8 [] (.ev (.cons 9 [] (.done) (.nil))) (.nil))) (.nil))) (.cons 6 [] (.ev (.cons 5 [] (.ev (.cons 8 [] (.ev (.cons 9 [] (.done) (.nil))) (.nil))) (.nil))) (.nil)))) (.cons 6 [3] (.ev (.cons 4 [] (.ev (.cons 5 [] (.ev (.cons 8 [] (.ev (.cons 9 [] (.done) (.nil))) (.nil))) (.nil))) (.nil))) (.nil)))) (.nil))))) (.cons 6 [3] (.ev (.cons 2 [3] (.ev (.cons 4 [] (.ev (.cons 5 [] (.ev (.cons 7 [] (.ev (.cons 8 [] (.ev (.cons 9 [] (.done) (.nil))) (.nil))) (.nil))) (.cons 7 [] (.ev (.cons 5 [] (.ev (.cons 8 [] (.ev (.cons 9 [] (.done) (.nil))) (.nil))) (.nil))) (.nil)))) (.cons 7 [3] (.ev (.cons 4 [] (.ev (.cons 5 [] (.ev (.cons 8 [] (.ev (.cons 9 [] (.done) (.nil))) (.nil))) (.nil))) (.nil))) (.nil)))) (.cons 7 [3] (.ev (.cons 2 [3] (.ev (.cons 4 [] (.ev (.cons 5 [] (.ev (.cons 8 [] (.ev (.cons 9 [] (.done) (.nil))) (.nil))) (.nil))) (.nil))) (.nil))) (.nil)))) (.cons 7 [3] (.ev (.cons 2 [3] (.ev (.cons 4 [] (.ev (.cons 5 [] (.ev (.cons 6 [] (.ev (.cons 8 [] (.ev (.cons 9 [] (.done) (.nil))) (.nil))) (.nil))) (.cons 6 [] (.ev (.cons 5 [] (.ev (.cons 8 [] (.ev (.cons 9 [] (.done) (.nil))) (.nil))) (.nil))) (.nil)))) (.cons 6 [3] (.ev (.cons 4 [] (.ev (.cons 5 [] (.ev (.cons 8 [] (.ev (.cons 9 [] (.done) (.nil))) (.nil))) (.nil))) (.nil))) (.nil)))) (.cons 6 [3] (.ev (.cons 2 [3] (.ev (.cons 4 [] (.ev (.cons 5 [] (.ev (.cons 8 [] (.ev (.cons 9 [] (.done) (.nil))) (.nil))) (.nil))) (.nil))) (.nil))) (.nil)))) (.nil))))) (.cons 6 [3, 0] (.ev (.cons 1 [3] (.ev (.cons 2 [3] (.ev (.cons 4 [] (.ev (.cons 5 [] (.ev (.cons 7 [] (.ev (.cons 8 [] (.ev (.cons 9 [] (.done) (.nil))) (.nil))) (.nil))) (.cons 7 [] (.ev (.cons 5 [] (.ev (.cons 8 [] (.ev (.cons 9 [] (.done) (.nil))) (.nil))) (.nil))) (.nil)))) (.cons 7 [3] (.ev (.cons 4 [] (.ev (.cons 5 [] (.ev (.cons 8 [] (.ev (.cons 9 [] (.done) (.nil))) (.nil))) (.nil))) (.nil))) (.nil)))) (.cons 7 [3] (.ev (.cons 2 [3] (.ev (.cons 4 [] (.ev (.cons 5 [] (.ev (.cons 8 [] (.ev (.cons 9 [] (.done) (.nil))) (.nil))) (.nil))) (.nil))) (.nil))) (.nil)))) (.cons 7 [3, 0] (.ev (.cons 1 [3] (.ev (.cons 2 [3] (.ev (.cons 4 [] (.ev (.cons 5 [] (.ev (.cons 8 [] (.ev (.cons 9 [] (.done) (.nil))) (.nil))) (.nil))) (.nil))) (.nil))) (.nil))) (.nil)))) (.cons 7 [3, 0] (.ev (.cons 1 [3] (.ev (.cons 2 [3] (.ev (.cons 4 [] (.ev (.cons 5 [] (.ev (.cons 6 [] (.ev (.cons 8 [] (.ev (.cons 9 [] (.done) (.nil))) (.nil))) (.nil))) (.cons 6 [] (.ev (.cons 5 [] (.ev (.cons 8 [] (.ev (.cons 9 [] (.done) (.nil))) (.nil))) (.nil))) (.nil)))) (.cons 6 [3] (.ev (.cons 4 [] (.ev (.cons 5 [] (.ev (.cons 8 [] (.ev (.cons 9 [] (.done) (.nil))) (.nil))) (.nil))) (.nil))) (.nil)))) (.cons 6 [3] (.ev (.cons 2 [3] (.ev (.cons 4 [] (.ev (.cons 5 [] (.ev (.cons 8 [] (.ev (.cons 9 [] (.done) (.nil))) (.nil))) (.nil))) (.nil))) (.nil))) (.nil)))) (.cons 6 [3, 0] (.ev (.cons 1 [3] (.ev (.cons 2 [3] (.ev (.cons 4 [] (.ev (.cons 5 [] (.ev (.cons 8 [] (.ev (.cons 9 [] (.done) (.nil))) (.nil))) (.nil))) (.nil))) (.nil))) (.nil))) (.nil)))) (.nil))))))), [], ⟨by kernel_rfl, by kernel_rfl, by kernel_rfl, by kernel_rfl⟩, ?_⟩
 refine jac [(5, .box 5 0), (6, .box 6 0)] [(5, .box [.bool (decide (v < 0)), .ints .i64 (mg 10000 v.natAbs)]), (6, .box [.bool (decide (v2 < 0)), .ints .i64 (mg 10000 v2.natAbs)])] ?_ ?_
 ·exact V.d4 @jhS w1 w2 i1 i2
 (conv => whnf)
 refine V.st ?_
 refine Cnd.split (CondB.mk (fun hq => ?_) (fun hq => ?_))
 ·have h0 : v2 = 0 := by
   rw [decide_eq_true_eq] at hq
   have := hnil.1 (List.length_eq_zero_iff.1 (by omega))
   omega
  rw [if_pos h0] at hy
  subst hy
  (conv => whnf)
  refine V.st ?_
  repeat ((try ((with_reducible refine .ext ?_); (conv => whnf))); (with_reducible refine jab (r := ?_) ?_ ?_); rotate_left; (focus (first | exact (k1) | exact (lw) | exact (o1))); (conv => whnf); refine V.st ?_)
  exact Fin.of rfl
 ·have h0 : v2 ≠ 0 := fun h => by
   rw [decide_eq_false_iff_not] at hq
   exact hq (by rw [hnil.2 (by omega)]; rfl)
  rw [if_neg h0] at hy
  subst hy
  (conv => whnf)
  refine V.st ?_
  repeat ((try ((with_reducible refine .ext ?_); (conv => whnf))); (with_reducible refine jab (r := ?_) ?_ ?_); rotate_left; (focus (first | exact (lw) | exact (o1))); (conv => whnf); refine V.st ?_)
  exact Fin.of rfl
def axq (a : Nat → Int) (i : Nat) : Rat := Rat.divInt (a i) 840
def cxq (a : Nat → Int) (i : Nat) : Rat := Rat.divInt (IntKind.wrap .u16 (a i) % 841) 840
theorem cxq_bd (a : Nat → Int) (i : Nat) : 0 ≤ cxq a i ∧ cxq a i ≤ 1 := by
 have h : 0 ≤ IntKind.wrap .u16 (a i) % 841 ∧ IntKind.wrap .u16 (a i) % 841 ≤ 840 := by omega
 unfold cxq
 generalize IntKind.wrap .u16 (a i) % 841 = v at h
 have e : Rat.divInt v 840 = (v : Rat) / 840 := by rw [Rat.divInt_eq_div]; rfl
 have h0 : (0 : Rat) ≤ (v : Rat) := by exact_mod_cast h.1
 have h1 : (v : Rat) ≤ 840 := by exact_mod_cast h.2
 rw [e]
 constructor <;> grind
theorem cxq_fq (a : Nat → Int) (i : Nat) : Fq 40 (cxq a i) := by
 have h : 0 ≤ IntKind.wrap .u16 (a i) % 841 ∧ IntKind.wrap .u16 (a i) % 841 ≤ 840 := by omega
 exact (jaJ (n := 4) (d := 840) (by decide) (by omega) (by decide)).mono (by decide)
theorem colorq3 {at' z1 z2 : Nat → Int} (b1 b2 : Nat → Bool) (p1 p2 : Nat → List Int) (ha : ∀ i, -32768 ≤ at' i ∧ at' i ≤ 32767) (h1 : ∀ i, 0 ≤ z1 i ∧ z1 i ≤ 65535) (h2 : ∀ i, 0 ≤ z2 i ∧ z2 i ≤ 65535) :
    ∃ X : Nat → Tx, Called Tryz.prog 13 [.agg [.int .i16 (at' 0), .int .i16 (at' 1), .int .i16 (at' 2), .int .i16 (at' 3), .bool (b1 0), .ints .u16 (p1 0), .int .u16 (z1 0), .bool (b2 0), .ints .u16 (p2 0), .int .u16 (z2 0), .bool (b1 1), .ints .u16 (p1 1), .int .u16 (z1 1), .bool (b2 1), .ints .u16 (p2 1), .int .u16 (z2 1), .bool (b1 2), .ints .u16 (p1 2), .int .u16 (z1 2), .bool (b2 2), .ints .u16 (p2 2), .int .u16 (z2 2), .bool (b1 3), .ints .u16 (p1 3), .int .u16 (z1 3), .bool (b2 3), .ints .u16 (p2 3), .int .u16 (z2 3)], .int .i64 3] (.agg [slQ (fun i => txq (axq at' i)) 3, slQ X 3, slQ (fun i => txq (cxq at' i)) 3]) := by
  have hx : ∀ i, ∃ q : Rat, Called Tryz.prog 43 [.agg [.bool (b1 i), .ints .u16 (p1 i), .int .u16 (z1 i), .bool (b2 i), .ints .u16 (p2 i), .int .u16 (z2 i)]] (.agg [.str (txq q).1, .str (txq q).2]) := fun i => by
    obtain ⟨q, _, c⟩ := dfrac_c (b1 i) (p1 i) (z1 i) (b2 i) (p2 i) (z2 i) (h1 i) (h2 i)
    exact ⟨q, c⟩
  obtain ⟨q, hq⟩ := Classical.axiomOfChoice hx
  exact ⟨fun i => txq (q i), color3_t at' z1 z2 b1 b2 p1 p2 (fun i => txq (axq at' i)) (fun i => txq (q i)) (fun v => txq (Rat.divInt (v % 841) 840))
    (fun i _ => lof_c (n := at' i) (m := 840) (by have := ha i; omega) (by omega)) (fun i _ => hq i) (fun v => lof_c (n := v % 841) (m := 840) (by omega) (by omega))⟩
end Go.Proofs.YtgjgpdceghjajaaGreatDoor
end
