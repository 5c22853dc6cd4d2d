/- What some functions of the program answer at values that mean given lists, texts and numbers, each proved of the program's own code: part 28. Conditions: those that each theorem names. -/
import Derived.Test.YtgjgpdceghjajaaGreatDoorSimplexKnownH27
import Derived.Test.YtgjgpdceghjajaaGreatDoorSimplexKnownH13
import Derived.Test.YtgjgpdceghjajaaGreatDoorSimplexKnownH26
import Derived.Test.YtgjgpdceghjajaaGreatDoorSimplexKnownH14
set_option linter.unusedSimpArgs false
set_option linter.unusedVariables false
set_option maxHeartbeats 8000000
set_option maxRecDepth 100000
section
namespace Go.Proofs.YtgjgpdceghjajaaGreatDoor
open Go Go.V Go.Nb
theorem xd1 : ((1 : Int) - 1).toNat = 0 := rfl
theorem xd2 : ((2 : Int) - 1).toNat = 1 := rfl
theorem xd3 : ((3 : Int) - 1).toNat = 2 := rfl
def atK (a : List Int) (xs : List Int) : Nat → List Int
 | 0 => a
 | k + 1 => (atK a xs k).set (xs.getD k 0).toNat ((atK a xs k).getD (xs.getD k 0).toNat 0 + 1)
theorem jbk (a xs : List Int) : ∀ k, a.length = 4 → (atK a xs k).length = 4
 | 0, h => h
 | k + 1, h => by simp only [atK]; rw [List.length_set]; exact jbk a xs k h
def atS (a xs : List Int) : Nat → List Int
 | 0 => a
 | k + 1 => atK a xs k
def wcv : Nat → D
 | 0 => .nil
 | k + 1 => .bsl 109 0 (k + 1) 2
def pcv : Nat → D
 | 0 => .nil
 | k + 1 => .bsl 113 0 (k + 1) 1
def pce (U : Nat → List Int) : Nat → List D
 | 0 => []
 | k + 1 => pce U k ++ [.ints .i64 (U k)]
def tlv (W : Nat → Tx) (U : Nat → List Int) : Nat → Hp
 | 0 => []
 | k + 1 => [(109, .box (wce W (k + 1))), (113, .box (pce U (k + 1)))]
theorem jhs : type_of% @jhC ∧ type_of% @tn0 ∧ type_of% @tn1 ∧ type_of% @tn2 ∧ type_of% @tn3 ∧ type_of% @xd1 ∧ type_of% @xd2 ∧ type_of% @xd3 ∧ type_of% @xt4 := ⟨@jhC, @tn0, @tn1, @tn2, @tn3, @xd1, @xd2, @xd3, @xt4⟩
theorem point2_t (z0 z1 b0 b1 out : Int) (data xs at' v : List Int) (W : Nat → Tx) (hl : at'.length = 4) (ga : Called Tryz.prog 20 [.agg [.ints .i64 [z0, z1], .int .i64 out, .ints .i64 data], .ints .i64 (at'.take 2)] (.tup [.ints .i64 v, .int .i64 0])) :
  Called Tryz.prog 80 [.agg [.ints .i64 [z0, z1], .int .i64 out, .ints .i64 data, .ints .i64 [b0, b1], .ints .i64 xs, .slf 2 3 (fun j => List.take 2 (List.drop (j * 2) [.str (W 0).1, .str (W 0).2, .str (W 1).1, .str (W 1).2, .str (W 2).1, .str (W 2).2]))], .iarr .i64 at'] (.tup [.ints .i64 v, .int .i64 0]) := by
 obtain ⟨a0, a1, a2, a3, rfl⟩ : ∃ a0 a1 a2 a3 : Int, at' = [a0, a1, a2, a3] := by
  match at', hl with
  | [a0, a1, a2, a3], _ => exact ⟨a0, a1, a2, a3, rfl⟩
 refine jaa tbOk 6 ⟨Tryz.func80, rfl, rfl, jhy rfl⟩ ?_
 (conv => whnf)
 refine V.r0 @jhC ?_
 refine ⟨(.take 0 (.take 1 (.take 2 (.take 3 (.take 4 (.take 5 (.take 6 (.ev (.cons 7 [] (.take 8 (.take 9 (.take 10 (.take 11 (.done))))) (.nil)))))))))), [], ⟨by kernel_rfl, by kernel_rfl, by kernel_rfl, by kernel_rfl⟩, ?_⟩
 refine jac [(3, .any), (4, .ints .i64 v), (5, .int .i64 0)] [(3, .gone)] ?_ ?_
 ·exact V.d1 @jhC ga
 refine V.r0 @jhC ?_
 exact Fin.of rfl
theorem corners2_t (z0 z1 b0 b1 out : Int) (data xs : List Int) (W : Nat → Tx) : Called Tryz.prog 81 [.agg [.ints .i64 [z0, z1], .int .i64 out, .ints .i64 data, .ints .i64 [b0, b1], .ints .i64 xs, .slf 2 3 (fun j => List.take 2 (List.drop (j * 2) [.str (W 0).1, .str (W 0).2, .str (W 1).1, .str (W 1).2, .str (W 2).1, .str (W 2).2]))]] (.fn 128 [] [.ref [.ints .i64 [z0, z1], .int .i64 out, .ints .i64 data, .ints .i64 [b0, b1], .ints .i64 xs, .slf 2 3 (fun j => List.take 2 (List.drop (j * 2) [.str (W 0).1, .str (W 0).2, .str (W 1).1, .str (W 1).2, .str (W 2).1, .str (W 2).2]))]]) := by
 refine jaa tbOk 6 ⟨Tryz.func81, rfl, rfl, jhy rfl⟩ ?_
 (conv => whnf)
 refine V.r0 @jhC ?_
 exact Fin.of rfl
theorem value2_t (z0 z1 b0 b1 out : Int) (data xs : List Int) (W : Nat → Tx) (U : Nat → List Int) (Y : Nat → List D) (e0 : Nat) (hl : xs.length = 2) (hx : ∀ k, k < 2 → 0 ≤ xs.getD k 0 ∧ xs.getD k 0 < 4) (hi : ∀ k, k < 2 → InR .i64 ((atK [b0, b1, 0, 0] xs k).getD (xs.getD k 0).toNat 0 + 1))
  (pt : ∀ k, k < 3 → Called Tryz.prog 80 [.agg [.ints .i64 [z0, z1], .int .i64 out, .ints .i64 data, .ints .i64 [b0, b1], .ints .i64 xs, .slf 2 3 (fun j => List.take 2 (List.drop (j * 2) [.str (W 0).1, .str (W 0).2, .str (W 1).1, .str (W 1).2, .str (W 2).1, .str (W 2).2]))], .iarr .i64 (atK [b0, b1, 0, 0] xs k)] (.tup [.ints .i64 (U k), .int .i64 0]))
  (li : Called Tryz.prog 82 [.int .i64 out, .fn 83 [] [.ref [.slf 1 3 (fun j => List.take 1 (List.drop (j * 1) [.ints .i64 (U 0), .ints .i64 (U 1), .ints .i64 (U 2)]))], .ref [.slf 2 3 (fun j => List.take 2 (List.drop (j * 2) [.str (W 0).1, .str (W 0).2, .str (W 1).1, .str (W 1).2, .str (W 2).1, .str (W 2).2]))]]] (.tup [.slf 2 e0 Y, .int .i64 0])) :
  Called Tryz.prog 45 [.agg [.ints .i64 [z0, z1], .int .i64 out, .ints .i64 data, .ints .i64 [b0, b1], .ints .i64 xs, .slf 2 3 (fun j => List.take 2 (List.drop (j * 2) [.str (W 0).1, .str (W 0).2, .str (W 1).1, .str (W 1).2, .str (W 2).1, .str (W 2).2]))]] (.tup [.slf 2 e0 Y, .int .i64 0]) := by
 have co := corners2_t z0 z1 b0 b1 out data xs W
 refine jaa tbOk 6 ⟨Tryz.func45, rfl, rfl, jhy rfl⟩ ?_
 (conv => whnf)
 refine V.r1 @jhC co ?_
 refine ⟨_, _, ⟨Tryz.func128, rfl, rfl, jhy rfl⟩, ?_⟩
 (conv => whnf)
 refine V.r0 @jhC ?_
 refine ⟨(.take 0 (.take 1 (.take 2 (.ev (.cons 3 [] (.done) (.nil)))))), [], ⟨by kernel_rfl, by kernel_rfl, by kernel_rfl, by kernel_rfl⟩, ?_⟩
 refine jac [] [(47, .arr .i64 [b0, b1, 0, 0])] ?_ ?_
 ·exact V.d0 @jhC
 refine V.r0 @jhC ?_
 refine jah 0 (fun k => k ≤ 3) (fun k => 3 - k) (fun k => [(13, .int .i64 k)]) (fun k => (43, .lp none) :: (47, .arr .i64 (atS [b0, b1, 0, 0] xs k)) :: (5, .box [wcv k]) :: (6, .box [pcv k]) :: (7, .box [.int .i64 0]) :: tlv W U k) ?_ ?_ ?_
 ·exact V.wk
 ·exact jhz _
 intro k hk
 have hk4 : k = 0 ∨ k = 1 ∨ k = 2 ∨ k = 3 := by omega
 rcases hk4 with e | e | e | e
 all_goals subst e
 ·simp only [k0, atS, wcv, pcv, tlv]
  have p := pt 0 (by omega)
  simp only [atK] at p
  refine V.r1 jhs p ?_
  exact ⟨1, by omega, by omega, V.wk⟩
 ·simp only [k1, atS, wcv, pcv, tlv]
  have p := pt 1 (by omega)
  have g := hx 0 (by omega)
  have h := hi 0 (by omega)
  have l4 := jbk [b0, b1, 0, 0] xs 0 rfl
  have l5 := jbk [b0, b1, 0, 0] xs 1 rfl
  simp only [atK] at p h l4 l5 ⊢
  refine V.r1 jhs p ?_
  exact ⟨2, by omega, by omega, V.wk⟩
 ·simp only [k2, atS, wcv, pcv, tlv]
  have p := pt 2 (by omega)
  have g := hx 1 (by omega)
  have h := hi 1 (by omega)
  have l4 := jbk [b0, b1, 0, 0] xs 1 rfl
  have l5 := jbk [b0, b1, 0, 0] xs 2 rfl
  simp only [atK] at p h l4 l5 ⊢
  refine V.r1 jhs p ?_
  exact ⟨3, by omega, by omega, V.wk⟩
 ·simp only [k3, atS, wcv, pcv, tlv]
  (conv => whnf)
  repeat ((fail_if_success (with_reducible refine Cnd.split ?_)); refine V.s1 ?_; (try simp only [jhC]))
  refine V.s1 ?_
  (conv => whnf)
  repeat ((fail_if_success (with_reducible refine Cnd.split ?_)); refine V.s1 ?_; (try simp only [jhC]))
  refine jcI [(5, .ref [.slf 2 3 (fun j => List.take 2 (List.drop (j * 2) [.str (W 0).1, .str (W 0).2, .str (W 1).1, .str (W 1).2, .str (W 2).1, .str (W 2).2]))]), (6, .ref [.slf 1 3 (fun j => List.take 1 (List.drop (j * 1) [.ints .i64 (U 0), .ints .i64 (U 1), .ints .i64 (U 2)]))])] [(5, .gone), (6, .gone), (109, .gone), (113, .gone)] (CondB.mk (fun h => absurd h (by decide)) (fun _ => ?_)) ?_
  ·(conv => whnf)
   refine Wk.pub 109 ?_
   (conv => whnf)
   refine Wk.pub 113 ?_
   (conv => whnf)
   refine Wk.pub 5 ?_
   (conv => whnf)
   refine Wk.pub 6 ?_
   (conv => whnf)
   simp only [jhC]
   exact V.wk
  refine V.r1 @jhC li ?_
  exact Fin.of rfl
theorem point3_t (z0 z1 z2 b0 b1 b2 out : Int) (data xs at' v : List Int) (W : Nat → Tx) (hl : at'.length = 4) (ga : Called Tryz.prog 20 [.agg [.ints .i64 [z0, z1, z2], .int .i64 out, .ints .i64 data], .ints .i64 (at'.take 3)] (.tup [.ints .i64 v, .int .i64 0])) :
  Called Tryz.prog 80 [.agg [.ints .i64 [z0, z1, z2], .int .i64 out, .ints .i64 data, .ints .i64 [b0, b1, b2], .ints .i64 xs, .slf 2 4 (fun j => List.take 2 (List.drop (j * 2) [.str (W 0).1, .str (W 0).2, .str (W 1).1, .str (W 1).2, .str (W 2).1, .str (W 2).2, .str (W 3).1, .str (W 3).2]))], .iarr .i64 at'] (.tup [.ints .i64 v, .int .i64 0]) := by
 obtain ⟨a0, a1, a2, a3, rfl⟩ : ∃ a0 a1 a2 a3 : Int, at' = [a0, a1, a2, a3] := by
  match at', hl with
  | [a0, a1, a2, a3], _ => exact ⟨a0, a1, a2, a3, rfl⟩
 refine jaa tbOk 6 ⟨Tryz.func80, rfl, rfl, jhy rfl⟩ ?_
 (conv => whnf)
 refine V.r0 @jhC ?_
 refine ⟨(.take 0 (.take 1 (.take 2 (.take 3 (.take 4 (.take 5 (.take 6 (.ev (.cons 7 [] (.take 8 (.take 9 (.take 10 (.take 11 (.done))))) (.nil)))))))))), [], ⟨by kernel_rfl, by kernel_rfl, by kernel_rfl, by kernel_rfl⟩, ?_⟩
 refine jac [(3, .any), (4, .ints .i64 v), (5, .int .i64 0)] [(3, .gone)] ?_ ?_
 ·exact V.d1 @jhC ga
 refine V.r0 @jhC ?_
 exact Fin.of rfl
theorem corners3_t (z0 z1 z2 b0 b1 b2 out : Int) (data xs : List Int) (W : Nat → Tx) : Called Tryz.prog 81 [.agg [.ints .i64 [z0, z1, z2], .int .i64 out, .ints .i64 data, .ints .i64 [b0, b1, b2], .ints .i64 xs, .slf 2 4 (fun j => List.take 2 (List.drop (j * 2) [.str (W 0).1, .str (W 0).2, .str (W 1).1, .str (W 1).2, .str (W 2).1, .str (W 2).2, .str (W 3).1, .str (W 3).2]))]] (.fn 128 [] [.ref [.ints .i64 [z0, z1, z2], .int .i64 out, .ints .i64 data, .ints .i64 [b0, b1, b2], .ints .i64 xs, .slf 2 4 (fun j => List.take 2 (List.drop (j * 2) [.str (W 0).1, .str (W 0).2, .str (W 1).1, .str (W 1).2, .str (W 2).1, .str (W 2).2, .str (W 3).1, .str (W 3).2]))]]) := by
 refine jaa tbOk 6 ⟨Tryz.func81, rfl, rfl, jhy rfl⟩ ?_
 (conv => whnf)
 refine V.r0 @jhC ?_
 exact Fin.of rfl
theorem value3_t (z0 z1 z2 b0 b1 b2 out : Int) (data xs : List Int) (W : Nat → Tx) (U : Nat → List Int) (Y : Nat → List D) (e0 : Nat) (hl : xs.length = 3) (hx : ∀ k, k < 3 → 0 ≤ xs.getD k 0 ∧ xs.getD k 0 < 4) (hi : ∀ k, k < 3 → InR .i64 ((atK [b0, b1, b2, 0] xs k).getD (xs.getD k 0).toNat 0 + 1))
  (pt : ∀ k, k < 4 → Called Tryz.prog 80 [.agg [.ints .i64 [z0, z1, z2], .int .i64 out, .ints .i64 data, .ints .i64 [b0, b1, b2], .ints .i64 xs, .slf 2 4 (fun j => List.take 2 (List.drop (j * 2) [.str (W 0).1, .str (W 0).2, .str (W 1).1, .str (W 1).2, .str (W 2).1, .str (W 2).2, .str (W 3).1, .str (W 3).2]))], .iarr .i64 (atK [b0, b1, b2, 0] xs k)] (.tup [.ints .i64 (U k), .int .i64 0]))
  (li : Called Tryz.prog 82 [.int .i64 out, .fn 83 [] [.ref [.slf 1 4 (fun j => List.take 1 (List.drop (j * 1) [.ints .i64 (U 0), .ints .i64 (U 1), .ints .i64 (U 2), .ints .i64 (U 3)]))], .ref [.slf 2 4 (fun j => List.take 2 (List.drop (j * 2) [.str (W 0).1, .str (W 0).2, .str (W 1).1, .str (W 1).2, .str (W 2).1, .str (W 2).2, .str (W 3).1, .str (W 3).2]))]]] (.tup [.slf 2 e0 Y, .int .i64 0])) :
  Called Tryz.prog 45 [.agg [.ints .i64 [z0, z1, z2], .int .i64 out, .ints .i64 data, .ints .i64 [b0, b1, b2], .ints .i64 xs, .slf 2 4 (fun j => List.take 2 (List.drop (j * 2) [.str (W 0).1, .str (W 0).2, .str (W 1).1, .str (W 1).2, .str (W 2).1, .str (W 2).2, .str (W 3).1, .str (W 3).2]))]] (.tup [.slf 2 e0 Y, .int .i64 0]) := by
 have co := corners3_t z0 z1 z2 b0 b1 b2 out data xs W
 refine jaa tbOk 6 ⟨Tryz.func45, rfl, rfl, jhy rfl⟩ ?_
 (conv => whnf)
 refine V.r1 @jhC co ?_
 refine ⟨_, _, ⟨Tryz.func128, rfl, rfl, jhy rfl⟩, ?_⟩
 (conv => whnf)
 refine V.r0 @jhC ?_
 refine ⟨(.take 0 (.take 1 (.take 2 (.ev (.cons 3 [] (.done) (.nil)))))), [], ⟨by kernel_rfl, by kernel_rfl, by kernel_rfl, by kernel_rfl⟩, ?_⟩
 refine jac [] [(47, .arr .i64 [b0, b1, b2, 0])] ?_ ?_
 ·exact V.d0 @jhC
 refine V.r0 @jhC ?_
 refine jah 0 (fun k => k ≤ 4) (fun k => 4 - k) (fun k => [(13, .int .i64 k)]) (fun k => (43, .lp none) :: (47, .arr .i64 (atS [b0, b1, b2, 0] xs k)) :: (5, .box [wcv k]) :: (6, .box [pcv k]) :: (7, .box [.int .i64 0]) :: tlv W U k) ?_ ?_ ?_
 ·exact V.wk
 ·exact jhz _
 intro k hk
 have hk4 : k = 0 ∨ k = 1 ∨ k = 2 ∨ k = 3 ∨ k = 4 := by omega
 rcases hk4 with e | e | e | e | e
 all_goals subst e
 ·simp only [k0, atS, wcv, pcv, tlv]
  have p := pt 0 (by omega)
  simp only [atK] at p
  refine V.r1 jhs p ?_
  exact ⟨1, by omega, by omega, V.wk⟩
 ·simp only [k1, atS, wcv, pcv, tlv]
  have p := pt 1 (by omega)
  have g := hx 0 (by omega)
  have h := hi 0 (by omega)
  have l4 := jbk [b0, b1, b2, 0] xs 0 rfl
  have l5 := jbk [b0, b1, b2, 0] xs 1 rfl
  simp only [atK] at p h l4 l5 ⊢
  refine V.r1 jhs p ?_
  exact ⟨2, by omega, by omega, V.wk⟩
 ·simp only [k2, atS, wcv, pcv, tlv]
  have p := pt 2 (by omega)
  have g := hx 1 (by omega)
  have h := hi 1 (by omega)
  have l4 := jbk [b0, b1, b2, 0] xs 1 rfl
  have l5 := jbk [b0, b1, b2, 0] xs 2 rfl
  simp only [atK] at p h l4 l5 ⊢
  refine V.r1 jhs p ?_
  exact ⟨3, by omega, by omega, V.wk⟩
 ·simp only [k3, atS, wcv, pcv, tlv]
  have p := pt 3 (by omega)
  have g := hx 2 (by omega)
  have h := hi 2 (by omega)
  have l4 := jbk [b0, b1, b2, 0] xs 2 rfl
  have l5 := jbk [b0, b1, b2, 0] xs 3 rfl
  simp only [atK] at p h l4 l5 ⊢
  refine V.r1 jhs p ?_
  exact ⟨4, by omega, by omega, V.wk⟩
 ·simp only [xk4, atS, wcv, pcv, tlv]
  (conv => whnf)
  repeat ((fail_if_success (with_reducible refine Cnd.split ?_)); refine V.s1 ?_; (try simp only [jhC]))
  refine V.s1 ?_
  (conv => whnf)
  repeat ((fail_if_success (with_reducible refine Cnd.split ?_)); refine V.s1 ?_; (try simp only [jhC]))
  refine jcI [(5, .ref [.slf 2 4 (fun j => List.take 2 (List.drop (j * 2) [.str (W 0).1, .str (W 0).2, .str (W 1).1, .str (W 1).2, .str (W 2).1, .str (W 2).2, .str (W 3).1, .str (W 3).2]))]), (6, .ref [.slf 1 4 (fun j => List.take 1 (List.drop (j * 1) [.ints .i64 (U 0), .ints .i64 (U 1), .ints .i64 (U 2), .ints .i64 (U 3)]))])] [(5, .gone), (6, .gone), (109, .gone), (113, .gone)] (CondB.mk (fun h => absurd h (by decide)) (fun _ => ?_)) ?_
  ·(conv => whnf)
   refine Wk.pub 109 ?_
   (conv => whnf)
   refine Wk.pub 113 ?_
   (conv => whnf)
   refine Wk.pub 5 ?_
   (conv => whnf)
   refine Wk.pub 6 ?_
   (conv => whnf)
   simp only [jhC]
   exact V.wk
  refine V.r1 @jhC li ?_
  exact Fin.of rfl
theorem jhj : type_of% @jhC ∧ type_of% @tn0 ∧ type_of% @tn1 ∧ type_of% @tn2 ∧ type_of% @tn3 := ⟨@jhC, @tn0, @tn1, @tn2, @tn3⟩
theorem jhp : type_of% @jhD ∧ type_of% @jhC ∧ type_of% @tns := ⟨@jhD, @jhC, @tns⟩
theorem zX13b_2 : type_of% @List.length_set.{0} ∧ type_of% @jhC := ⟨@List.length_set.{0}, @jhC⟩
theorem find2_t (z0 z1 out b0 b1 : Int) (data : List Int) (x0 y0 x1 y1 o0 o1 : List UInt8) (R Bf W : Nat → Tx)
  (sp0 : Called Tryz.prog 124 [.agg [.str x0, .str y0], .int .i64 z0] (.tup [.int .i64 b0, .agg [.str (R 0).1, .str (R 0).2], .int .i64 0]))
  (sp1 : Called Tryz.prog 124 [.agg [.str x1, .str y1], .int .i64 z1] (.tup [.int .i64 b1, .agg [.str (R 1).1, .str (R 1).2], .int .i64 0]))
  (io : Called Tryz.prog 86 [.int .i64 1] (.agg [.str o0, .str o1])) (w : Int → Int → Int) (cm : ∀ a b : Nat, a < 2 → b < 2 → Called Tryz.prog 126 [.int .i64 a, .int .i64 b, .ref [.slf 2 2 (fun j => List.take 2 (List.drop (j * 2) [.str (R 0).1, .str (R 0).2, .str (R 1).1, .str (R 1).2]))]] (.int .i64 (w a b)))
  (hBf0 : Bf 0 = (o0, o1)) (hBf : ∀ k, k < 2 → Bf (k + 1) = R ((isoK w [0, 1] (2 - 1)).getD k 0).toNat) (sb : ∀ k, k < 2 → Called Tryz.prog 99 [.agg [.str (Bf k).1, .str (Bf k).2], .agg [.str (R ((isoK w [0, 1] (2 - 1)).getD k 0).toNat).1, .str (R ((isoK w [0, 1] (2 - 1)).getD k 0).toNat).2]] (.tup [.agg [.str (W k).1, .str (W k).2], .int .i64 0])) :
  Called Tryz.prog 79 [.agg [.ints .i64 [z0, z1], .int .i64 out, .ints .i64 data], .slf 2 2 (fun j => List.take 2 (List.drop (j * 2) [.str x0, .str y0, .str x1, .str y1]))] (.tup [.agg [.ints .i64 [z0, z1], .int .i64 out, .ints .i64 data, .ints .i64 [b0, b1], .ints .i64 (isoK w [0, 1] (2 - 1)), .slf 2 3 (fun j => List.take 2 (List.drop (j * 2) [.str (W 0).1, .str (W 0).2, .str (W 1).1, .str (W 1).2, .str (Bf 2).1, .str (Bf 2).2]))], .int .i64 0]) := by
  refine jaa tbOk 6 ⟨Tryz.func79, rfl, rfl, jhy rfl⟩ ?_
  (conv => whnf)
  refine V.r0 @jhC ?_
  refine ⟨(.take 0 (.take 1 (.take 2 (.take 4 (.take 5 (.ev (.cons 3 [5, 4, 0] (.ev (.cons 6 [0] (.take 7 (.ev (.cons 8 [7, 0] (.ev (.cons 9 [] (.done) (.nil))) (.nil)))) (.cons 8 [5, 4, 0] (.ev (.cons 6 [0] (.take 7 (.ev (.cons 9 [] (.done) (.nil)))) (.nil))) (.nil)))) (.cons 6 [2, 1, 0] (.ev (.cons 3 [0] (.take 7 (.ev (.cons 8 [7, 0] (.ev (.cons 9 [] (.done) (.nil))) (.nil)))) (.cons 8 [2, 1, 0] (.ev (.cons 3 [0] (.take 7 (.ev (.cons 9 [] (.done) (.nil)))) (.nil))) (.nil)))) (.cons 8 [5, 4, 2, 1, 0] (.ev (.cons 3 [5, 4, 0] (.ev (.cons 6 [0] (.take 7 (.ev (.cons 9 [] (.done) (.nil)))) (.nil))) (.cons 6 [2, 1, 0] (.ev (.cons 3 [0] (.take 7 (.ev (.cons 9 [] (.done) (.nil)))) (.nil))) (.nil)))) (.nil)))))))))), [], ⟨by kernel_rfl, by kernel_rfl, by kernel_rfl, by kernel_rfl⟩, ?_⟩
  refine jac [(6, .box 6 0), (17, .osl 17 0 2), (20, .osl 20 0 2)] [(6, .box [.ints .i64 [z0, z1], .int .i64 out, .ints .i64 data, .osl 17 0 2, .osl 20 0 2, .nil]), (17, .arr .i64 [0, 0]), (20, .arr .i64 [0, 0])] ?_ ?_
  ·exact V.d0 @jhC
  refine V.r0 @jhC ?_
  refine .inl ?_
  (conv => whnf)
  refine ⟨0, _, _, ⟨Tryz.func82, rfl, rfl, jhy rfl⟩, ?_⟩
  (conv => whnf)
  refine V.r0 @jhC ?_
  refine jah (0) (fun k => k ≤ 2) (fun k => 2 - k) (fun k => [(14, .int .i64 k)]) (fun k => [(88, .box (preD (2 * k) [.str (R 0).1, .str (R 0).2, .str (R 1).1, .str (R 1).2])), (17, .arr .i64 (preZ k [b0, b1])), (20, .arr .i64 (preZ k [0, 1]))]) ?_ ?_ ?_
  ·exact V.wk
  ·exact jhz _
  intro k hk
  have hk4 : k = 0 ∨ k = 1 ∨ k = 2 := by omega
  rcases hk4 with e | e | e
  all_goals subst e
  ·simp only [k0]
   have q1 : (preZ 0 [b0, b1]).length = 2 := rfl
   have q2 : (preZ 0 [0, 1]).length = 2 := rfl
   refine V.r0 jhj ?_
   refine .inl ?_
   (conv => whnf)
   refine ⟨0, _, _, ⟨Tryz.func123, rfl, rfl, jhy rfl⟩, ?_⟩
   (conv => whnf)
   refine V.r0 jhj ?_
   refine ⟨(.take 0 (.take 1 (.take 2 (.take 3 (.take 4 (.take 5 (.take 6 (.take 7 (.take 8 (.ev (.cons 9 [] (.take 10 (.take 11 (.take 12 (.take 13 (.ev (.cons 14 [13, 12, 11, 10] (.take 15 (.ev (.cons 16 [13] (.take 17 (.done)) (.nil)))) (.nil))))))) (.cons 14 [8, 7, 6, 5, 4, 3, 2, 1, 0] (.ev (.cons 9 [] (.take 10 (.take 11 (.take 12 (.take 13 (.take 15 (.ev (.cons 16 [13] (.take 17 (.done)) (.nil)))))))) (.nil))) (.nil))))))))))))), [], ⟨by kernel_rfl, by kernel_rfl, by kernel_rfl, by kernel_rfl⟩, ?_⟩
   refine jac [(8, .box 118 0), (7, .int .i64 b0), (9, .int .i64 0)] [(118, .box [.str (R 0).1, .str (R 0).2])] ?_ ?_
   ·exact V.d1 jhj sp0
   refine V.r0 jhj ?_
   refine ⟨(.take 0 (.take 1 (.take 2 (.take 3 (.take 4 (.take 5 (.take 6 (.take 7 (.take 8 (.ev (.cons 9 [7, 5, 4, 3] (.take 10 (.ev (.cons 11 [] (.done) (.nil)))) (.nil)))))))))))), [], ⟨by kernel_rfl, by kernel_rfl, by kernel_rfl, by kernel_rfl⟩, ?_⟩
   refine jac [] [(17, .arr .i64 (preZ 1 [b0, b1])), (20, .arr .i64 (preZ 1 [0, 1]))] ?_ ?_
   ·exact V.d0 jhj
   refine V.r0 jhj ?_
   exact ⟨1, by omega, by omega, V.wk⟩
  ·simp only [k1]
   have q1 : (preZ 1 [b0, b1]).length = 2 := rfl
   have q2 : (preZ 1 [0, 1]).length = 2 := rfl
   refine V.r0 jhj ?_
   refine .inl ?_
   (conv => whnf)
   refine ⟨0, _, _, ⟨Tryz.func123, rfl, rfl, jhy rfl⟩, ?_⟩
   (conv => whnf)
   refine V.r0 jhj ?_
   refine ⟨(.take 0 (.take 1 (.take 2 (.take 3 (.take 4 (.take 5 (.take 6 (.take 7 (.take 8 (.ev (.cons 9 [] (.take 10 (.take 11 (.take 12 (.take 13 (.ev (.cons 14 [13, 12, 11, 10] (.take 15 (.ev (.cons 16 [13] (.take 17 (.done)) (.nil)))) (.nil))))))) (.cons 14 [8, 7, 6, 5, 4, 3, 2, 1, 0] (.ev (.cons 9 [] (.take 10 (.take 11 (.take 12 (.take 13 (.take 15 (.ev (.cons 16 [13] (.take 17 (.done)) (.nil)))))))) (.nil))) (.nil))))))))))))), [], ⟨by kernel_rfl, by kernel_rfl, by kernel_rfl, by kernel_rfl⟩, ?_⟩
   refine jac [(8, .box 118 0), (7, .int .i64 b1), (9, .int .i64 0)] [(118, .box [.str (R 1).1, .str (R 1).2])] ?_ ?_
   ·exact V.d1 jhj sp1
   refine V.r0 jhj ?_
   refine ⟨(.take 0 (.take 1 (.take 2 (.take 3 (.take 4 (.take 5 (.take 6 (.take 7 (.take 8 (.ev (.cons 9 [7, 5, 4, 3] (.take 10 (.ev (.cons 11 [] (.done) (.nil)))) (.nil)))))))))))), [], ⟨by kernel_rfl, by kernel_rfl, by kernel_rfl, by kernel_rfl⟩, ?_⟩
   refine jac [] [(17, .arr .i64 (preZ 2 [b0, b1])), (20, .arr .i64 (preZ 2 [0, 1]))] ?_ ?_
   ·exact V.d0 jhj
   refine V.r0 jhj ?_
   exact ⟨2, by omega, by omega, V.wk⟩
  ·simp only [k2]
   (conv => whnf)
   repeat ((fail_if_success (with_reducible refine Cnd.split ?_)); refine V.s1 ?_; (try simp only [jhC]))
   refine V.s1 ?_
   (conv => whnf)
   repeat ((fail_if_success (with_reducible refine Cnd.split ?_)); refine V.s1 ?_; (try simp only [jhC]))
   refine jcI [(7, .ref [.slf 2 2 (fun j => List.take 2 (List.drop (j * 2) [.str (R 0).1, .str (R 0).2, .str (R 1).1, .str (R 1).2]))]), (22, .any), (26, .any), (27, .any)] [(7, .gone), (88, .gone)] (CondB.mk (fun h => absurd h (by decide)) (fun _ => ?_)) ?_
   ·(conv => whnf)
    refine Wk.pub 88 ?_
    (conv => whnf)
    refine Wk.pub 7 ?_
    (conv => whnf)
    simp only [jhC]
    exact V.wk
   refine V.r0 @jhC ?_
   refine .inl ?_
   (conv => whnf)
   refine ⟨0, _, _, ⟨Tryz.func125, rfl, rfl, jhy rfl⟩, ?_⟩
   (conv => whnf)
   refine V.r0 @jhC ?_
   refine .inl ?_
   (conv => whnf)
   refine ⟨0, _, _, ⟨Tryz.func163, rfl, rfl, jhy rfl⟩, ?_⟩
   (conv => whnf)
   refine V.r0 @jhC ?_
   refine jah (0) (fun k => k = 0) (fun k => k) (fun k => [(7, .int .i64 0), (8, .int .i64 20)]) (fun k => []) ?_ ?_ ?_
   ·exact V.wk
   ·rfl
   intro k hk
   refine V.r0 @jhC ?_
   refine .inl ?_
   (conv => whnf)
   refine ⟨0, _, _, ⟨Tryz.func193, rfl, rfl, jhy rfl⟩, ?_⟩
   (conv => whnf)
   refine V.r0 @jhC ?_
   refine jah (0) (fun k => k + 1 ≤ 2) (fun k => 2 - k) (fun k => [(8, .int .i64 ((k + 1 : Nat) : Int))]) (fun k => [(20, .arr .i64 (isoK w [0, 1] k))]) ?_ ?_ ?_
   ·exact V.wk
   ·omega
   clear hk
   intro k hk
   have hB := jg9 w (n := 2) (xs := [0, 1]) ⟨rfl, fun i hi => by
    have : i = 0 ∨ i = 1 ∨ i = 2 := by omega
    rcases this with e | e | e <;> subst e <;> first | decide | omega⟩ k (by omega)
   refine V.r0 @jhC ?_
   refine Cnd.split (CondB.mk (fun hq => ?_) (fun hq => ?_))
   ·have hk2 : k + 1 < 2 := by simp at hq; omega
    refine V.r0 @jhC ?_
    refine jah ((k + 1, isoK w [0, 1] k) : Nat × List Int) (fun s => s.1 ≤ k + 1 ∧ Bel 2 s.2 ∧ insJ w s.1 s.2 = isoK w [0, 1] (k + 1)) (fun s => s.1) (fun s => [(9, .int .i64 s.1)]) (fun s => [(20, .arr .i64 s.2)]) ?_ ?_ ?_
    ·exact V.wk
    ·exact ⟨jhE _, hB, rfl⟩
    rintro ⟨j, xs⟩ ⟨h1, h2, h3⟩
    dsimp only at h1 h2 h3 ⊢
    have hl := h2.1
    refine V.r0 @jhC ?_
    have c1 : (decide ((j : Int) > 0) = true) → Called Tryz.prog 126 [.int .i64 (xs.getD j 0), .int .i64 (xs.getD (j - 1) 0), .ref [.slf 2 2 (fun j => List.take 2 (List.drop (j * 2) [.str (R 0).1, .str (R 0).2, .str (R 1).1, .str (R 1).2]))]] (.int .i64 (w (xs.getD j 0) (xs.getD (j - 1) 0))) := fun h => by
     have hj : (j : Int) > 0 := of_decide_eq_true h
     have g1 := h2.2 j (by omega)
     have g2 := h2.2 (j - 1) (by omega)
     have c := cm (xs.getD j 0).toNat (xs.getD (j - 1) 0).toNat (by omega) (by omega)
     rw [Int.toNat_of_nonneg g1.1, Int.toNat_of_nonneg g2.1] at c
     exact c
    refine ⟨(.take 0 (.take 1 (.take 2 (.take 3 (.take 4 (.take 5 (.take 6 (.take 7 (.take 8 (.take 9 (.take 10 (.take 11 (.take 12 (.take 13 (.ev (.cons 14 [] (.take 15 (.take 16 (.done))) (.nil))))))))))))))))), [], ⟨by kernel_rfl, by kernel_rfl, by kernel_rfl, by kernel_rfl⟩, ?_⟩
    refine jac [(34, .bool (decide ((j : Int) > 0) && decide (w (xs.getD j 0) (xs.getD (j - 1) 0) < 0)))] [] ?_ ?_
    ·(conv => whnf); (try simp only [jhp])
     repeat' (first | exact V.wk | ((with_reducible refine And.intro ?_ jaB); (conv => whnf); (try simp only [jhp])) | ((with_reducible first | refine jav ?_ ?_ | refine jaz ?_ ?_) <;> (conv => whnf); (try simp only [jhp])) | ((first | refine V.s1 ?_ | ((with_reducible refine jao ?_ ?_); (focus ((conv => whnf); (try simp only [jhp]); (repeat ((first | refine V.s1 ?_ | ((refine ⟨_, c1, ?_⟩); (conv => whnf))); (try simp only [jhp]))); exact ⟨rfl⟩)); (conv => whnf)) | ((try ((with_reducible refine .ext ?_); (conv => whnf); (try simp only [jhp]))); (with_reducible refine jab (r := ?_) ?_ ?_); rotate_left; (focus (first | fail)); (conv => whnf)) | ((refine ⟨_, c1, ?_⟩); (conv => whnf))); (try simp only [jhp])) | (refine And.intro ?_ ?_ <;> (conv => whnf); (try simp only [jhp])))
    refine V.r0 @jhC ?_
    refine Cnd.split (CondB.mk (fun hq2 => ?_) (fun hq2 => ?_))
    ·have hj : 0 < j ∧ w (xs.getD j 0) (xs.getD (j - 1) 0) < 0 := by
      rw [jhx, decide_eq_true_eq, decide_eq_true_eq] at hq2
      omega
     obtain ⟨i, rfl⟩ : ∃ i, j = i + 1 := ⟨j - 1, by omega⟩
     rw [show i + 1 - 1 = i by omega] at hj
     have hw := jfL h2 (show i + 1 < 2 by omega)
     have e1 : ((i + 1 : Nat) : Int).toNat = i + 1 := by omega
     have e2 : (((i + 1 : Nat) : Int) - 1).toNat = i := by omega
     have e3 : ((i + 1 : Nat) : Int) - 1 = (i : Int) := by omega
     have e4 : (i : Int).toNat = i := by omega
     have h3' : insJ w i ((xs.set (i + 1) (xs.getD i 0)).set i (xs.getD (i + 1) 0)) = isoK w [0, 1] (k + 1) := by
      rw [← h3]
      simp only [insJ]
      rw [if_pos hj.2]
     refine V.r0 @jhC ?_
     refine ⟨(.take 0 (.take 1 (.take 2 (.take 3 (.take 4 (.take 5 (.take 6 (.take 7 (.take 8 (.take 9 (.take 10 (.take 11 (.take 12 (.take 13 (.take 14 (.ev (.cons 15 [4, 3, 2] (.take 16 (.ev (.cons 17 [] (.done) (.nil)))) (.nil)))))))))))))))))), [], ⟨by kernel_rfl, by kernel_rfl, by kernel_rfl, by kernel_rfl⟩, ?_⟩
     refine jac [] [(20, .arr .i64 ((xs.set (i + 1) (xs.getD i 0)).set i (xs.getD (i + 1) 0)))] ?_ ?_
     ·exact V.d0 (V.a5 zX13b_2 e1 e2 e3 e4)
     refine V.r0 (V.a2 @jhC e3) ?_
     exact ⟨(i, (xs.set (i + 1) (xs.getD i 0)).set i (xs.getD (i + 1) 0)), ⟨by dsimp only; omega, hw, h3'⟩, by dsimp only; omega, V.wk⟩
    ·have hx : isoK w [0, 1] (k + 1) = xs := by
      rw [← h3]
      cases j with
      | zero => rfl
      | succ i =>
       simp only [insJ]
       rw [if_neg]
       intro h
       rw [Bool.and_eq_false_iff, decide_eq_false_iff_not, decide_eq_false_iff_not, show i + 1 - 1 = i by omega] at hq2
       omega
     refine V.r0 @jhC ?_
     refine ⟨k + 1, by omega, by omega, ?_⟩
     rw [hx]
     exact V.wk
   have hk2 : k + 1 = 2 := by simp at hq; omega
   have hk3 : k = 2 - 1 := by omega
   subst hk3
   refine V.r0 @jhC ?_
   refine jah (0) (fun k => k = 0) (fun k => k) (fun k => [(6, .int .i64 20)]) (fun k => []) ?_ ?_ ?_
   ·exact V.wk
   ·rfl
   clear hk
   intro k hk
   refine V.r0 @jhC ?_
   obtain ⟨xs, hxs⟩ : ∃ xs, isoK w [0, 1] (2 - 1) = xs := ⟨_, rfl⟩
   rw [hxs] at hB ⊢
   have hl := hB.1
   refine V.r1 @jhC io ?_
   have hr : ∀ m, m < 2 → List.take 2 (List.drop (m * 2) ([.str (R 0).1, .str (R 0).2, .str (R 1).1, .str (R 1).2] : List D)) = [.str (R m).1, .str (R m).2] := fun m hm => by
    have : m = 0 ∨ m = 1 ∨ m = 2 := by omega
    rcases this with e | e | e <;> subst e <;> first | rfl | omega
   have e0 := hr (xs.getD 0 0).toNat (by have := hB.2 0 (by omega); omega)
   have g0 := hB.2 0 (by omega)
   have sb0 := sb 0 (by omega)
   have hb0 := hBf 0 (by omega)
   rw [hxs] at sb0 hb0
   have e1 := hr (xs.getD 1 0).toNat (by have := hB.2 1 (by omega); omega)
   have g1 := hB.2 1 (by omega)
   have sb1 := sb 1 (by omega)
   have hb1 := hBf 1 (by omega)
   rw [hxs] at sb1 hb1
   have hb' : (Bf 0).1 = o0 ∧ (Bf 0).2 = o1 := by rw [hBf0]; exact ⟨rfl, rfl⟩
   refine jah 0 (fun k => k ≤ 2) (fun k => 2 - k) (fun k => [(41, .int .i64 k)]) (fun k => (9, .box [.str (Bf k).1, .str (Bf k).2]) :: (6, .box [.ints .i64 [z0, z1], .int .i64 out, .ints .i64 data, .osl 17 0 2, .osl 20 0 2, wcl k]) :: wch W k) ?_ ?_ ?_
   ·rw [hb'.1, hb'.2]
    exact V.wk
   ·exact jhz _
   clear hk
   intro k hk
   have hk4 : k = 0 ∨ k = 1 ∨ k = 2 := by omega
   rcases hk4 with e | e | e
   all_goals subst e
   ·simp only [k0, wcl, wch]
    refine V.r0 jhj ?_
    refine ⟨(.take 0 (.take 1 (.take 2 (.take 3 (.take 4 (.ev (.cons 5 [] (.take 6 (.take 7 (.take 8 (.ev (.cons 9 [8, 7, 6] (.ev (.cons 10 [8] (.take 11 (.done)) (.nil))) (.nil)))))) (.cons 9 [4, 3, 2, 1, 0] (.ev (.cons 5 [] (.take 6 (.take 7 (.take 8 (.ev (.cons 10 [8] (.take 11 (.done)) (.nil)))))) (.nil))) (.nil))))))))), [], ⟨by kernel_rfl, by kernel_rfl, by kernel_rfl, by kernel_rfl⟩, ?_⟩
    refine jac [(12, .box 12 0), (13, .int .i64 0)] [(12, .box [.str (W 0).1, .str (W 0).2])] ?_ ?_
    ·(conv => whnf); (try simp only [jhC])
     repeat' (first | exact V.wk | ((with_reducible refine And.intro ?_ jaB); (conv => whnf); (try simp only [jhC])) | ((with_reducible first | refine jav ?_ ?_ | refine jaz ?_ ?_) <;> (conv => whnf); (try simp only [jhC])) | ((first | refine V.s1 ?_ | ((with_reducible refine jao ?_ ?_); (focus ((conv => whnf); (try simp only [jhC]); (repeat ((first | refine V.s1 ?_ | ((simp only [e0]); (conv => whnf))); (try simp only [jhC]))); exact ⟨rfl⟩)); (conv => whnf)) | ((try ((with_reducible refine .ext ?_); (conv => whnf); (try simp only [jhC]))); (with_reducible refine jab (r := ?_) ?_ ?_); rotate_left; (focus (first | exact (sb0))); (conv => whnf)) | ((simp only [e0]); (conv => whnf))); (try simp only [jhC])) | (refine And.intro ?_ ?_ <;> (conv => whnf); (try simp only [jhC])))
    (conv => whnf)
    (try simp only [jhC])
    repeat ((first | refine V.s1 ?_ | ((try ((with_reducible refine .ext ?_); (conv => whnf); (try simp only [jhC]))); (with_reducible refine jab (r := ?_) ?_ ?_); rotate_left; (focus (first | fail)); (conv => whnf)) | ((simp only [e0]); (conv => whnf))); (try simp only [jhC]))
    refine ⟨1, by omega, by omega, ?_⟩
    rw [hb0]
    exact V.wk
   ·simp only [k1, wcl, wch]
    refine V.r0 jhj ?_
    refine ⟨(.take 0 (.take 1 (.take 2 (.take 3 (.take 4 (.ev (.cons 5 [] (.take 6 (.take 7 (.take 8 (.ev (.cons 9 [8, 7, 6] (.ev (.cons 10 [8] (.take 11 (.done)) (.nil))) (.nil)))))) (.cons 9 [4, 3, 2, 1, 0] (.ev (.cons 5 [] (.take 6 (.take 7 (.take 8 (.ev (.cons 10 [8] (.take 11 (.done)) (.nil)))))) (.nil))) (.nil))))))))), [], ⟨by kernel_rfl, by kernel_rfl, by kernel_rfl, by kernel_rfl⟩, ?_⟩
    refine jac [(12, .box 12 0), (13, .int .i64 0)] [(12, .box [.str (W 1).1, .str (W 1).2])] ?_ ?_
    ·(conv => whnf); (try simp only [jhC])
     repeat' (first | exact V.wk | ((with_reducible refine And.intro ?_ jaB); (conv => whnf); (try simp only [jhC])) | ((with_reducible first | refine jav ?_ ?_ | refine jaz ?_ ?_) <;> (conv => whnf); (try simp only [jhC])) | ((first | refine V.s1 ?_ | ((with_reducible refine jao ?_ ?_); (focus ((conv => whnf); (try simp only [jhC]); (repeat ((first | refine V.s1 ?_ | ((simp only [e1]); (conv => whnf))); (try simp only [jhC]))); exact ⟨rfl⟩)); (conv => whnf)) | ((try ((with_reducible refine .ext ?_); (conv => whnf); (try simp only [jhC]))); (with_reducible refine jab (r := ?_) ?_ ?_); rotate_left; (focus (first | exact (sb1))); (conv => whnf)) | ((simp only [e1]); (conv => whnf))); (try simp only [jhC])) | (refine And.intro ?_ ?_ <;> (conv => whnf); (try simp only [jhC])))
    (conv => whnf)
    (try simp only [jhC])
    repeat ((first | refine V.s1 ?_ | ((try ((with_reducible refine .ext ?_); (conv => whnf); (try simp only [jhC]))); (with_reducible refine jab (r := ?_) ?_ ?_); rotate_left; (focus (first | fail)); (conv => whnf)) | ((simp only [e1]); (conv => whnf))); (try simp only [jhC]))
    refine ⟨2, by omega, by omega, ?_⟩
    rw [hb1]
    exact V.wk
   ·simp only [k2, wcl, wch]
    have ht : List.take 2 xs = xs := List.take_of_length_le (by omega)
    refine V.r0 (V.a2 @jhC ht) ?_
    rw [← hxs]
    exact Fin.of rfl
end Go.Proofs.YtgjgpdceghjajaaGreatDoor
end
