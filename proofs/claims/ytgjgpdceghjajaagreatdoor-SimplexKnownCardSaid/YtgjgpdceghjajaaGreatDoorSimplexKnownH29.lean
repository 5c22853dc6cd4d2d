/- What some functions of the program answer at values that mean given lists, texts and numbers, each proved of the program's own code: part 29. Conditions: those that each theorem names. -/
import Derived.Test.YtgjgpdceghjajaaGreatDoorSimplexKnownH26
import Derived.Test.YtgjgpdceghjajaaGreatDoorSimplexKnownH14
set_option linter.unusedSimpArgs false
set_option linter.unusedVariables false
set_option maxHeartbeats 8000000
set_option maxRecDepth 100000
section
namespace Go.Proofs.YtgjgpdceghjajaaGreatDoor
open Go Go.V Go.Nb
theorem jhc : type_of% @jhC ∧ type_of% @tn0 ∧ type_of% @tn1 ∧ type_of% @tn2 ∧ type_of% @tn3 := ⟨@jhC, @tn0, @tn1, @tn2, @tn3⟩
theorem jho : type_of% @jhD ∧ type_of% @jhC ∧ type_of% @tns := ⟨@jhD, @jhC, @tns⟩
theorem zX13c_2 : type_of% @List.length_set.{0} ∧ type_of% @jhC := ⟨@List.length_set.{0}, @jhC⟩
theorem find3_t (z0 z1 z2 out b0 b1 b2 : Int) (data : List Int) (x0 y0 x1 y1 x2 y2 o0 o1 : List UInt8) (R Bf W : Nat → Tx)
  (sp0 : Called Tryz.prog 124 [.agg [.str x0, .str y0], .int .i64 z0] (.tup [.int .i64 b0, .agg [.str (R 0).1, .str (R 0).2], .int .i64 0]))
  (sp1 : Called Tryz.prog 124 [.agg [.str x1, .str y1], .int .i64 z1] (.tup [.int .i64 b1, .agg [.str (R 1).1, .str (R 1).2], .int .i64 0]))
  (sp2 : Called Tryz.prog 124 [.agg [.str x2, .str y2], .int .i64 z2] (.tup [.int .i64 b2, .agg [.str (R 2).1, .str (R 2).2], .int .i64 0]))
  (io : Called Tryz.prog 86 [.int .i64 1] (.agg [.str o0, .str o1])) (w : Int → Int → Int) (cm : ∀ a b : Nat, a < 3 → b < 3 → Called Tryz.prog 126 [.int .i64 a, .int .i64 b, .ref [.slf 2 3 (fun j => List.take 2 (List.drop (j * 2) [.str (R 0).1, .str (R 0).2, .str (R 1).1, .str (R 1).2, .str (R 2).1, .str (R 2).2]))]] (.int .i64 (w a b)))
  (hBf0 : Bf 0 = (o0, o1)) (hBf : ∀ k, k < 3 → Bf (k + 1) = R ((isoK w [0, 1, 2] (3 - 1)).getD k 0).toNat) (sb : ∀ k, k < 3 → Called Tryz.prog 99 [.agg [.str (Bf k).1, .str (Bf k).2], .agg [.str (R ((isoK w [0, 1, 2] (3 - 1)).getD k 0).toNat).1, .str (R ((isoK w [0, 1, 2] (3 - 1)).getD k 0).toNat).2]] (.tup [.agg [.str (W k).1, .str (W k).2], .int .i64 0])) :
  Called Tryz.prog 79 [.agg [.ints .i64 [z0, z1, z2], .int .i64 out, .ints .i64 data], .slf 2 3 (fun j => List.take 2 (List.drop (j * 2) [.str x0, .str y0, .str x1, .str y1, .str x2, .str y2]))] (.tup [.agg [.ints .i64 [z0, z1, z2], .int .i64 out, .ints .i64 data, .ints .i64 [b0, b1, b2], .ints .i64 (isoK w [0, 1, 2] (3 - 1)), .slf 2 4 (fun j => List.take 2 (List.drop (j * 2) [.str (W 0).1, .str (W 0).2, .str (W 1).1, .str (W 1).2, .str (W 2).1, .str (W 2).2, .str (Bf 3).1, .str (Bf 3).2]))], .int .i64 0]) := by
  refine jaa tbOk 6 ⟨Tryz.func79, rfl, rfl, jhy rfl⟩ ?_
  (conv => whnf)
  refine V.r0 @jhC ?_
  refine ⟨(.take 0 (.take 1 (.take 2 (.take 4 (.take 5 (.ev (.cons 3 [5, 4, 0] (.ev (.cons 6 [0] (.take 7 (.ev (.cons 8 [7, 0] (.ev (.cons 9 [] (.done) (.nil))) (.nil)))) (.cons 8 [5, 4, 0] (.ev (.cons 6 [0] (.take 7 (.ev (.cons 9 [] (.done) (.nil)))) (.nil))) (.nil)))) (.cons 6 [2, 1, 0] (.ev (.cons 3 [0] (.take 7 (.ev (.cons 8 [7, 0] (.ev (.cons 9 [] (.done) (.nil))) (.nil)))) (.cons 8 [2, 1, 0] (.ev (.cons 3 [0] (.take 7 (.ev (.cons 9 [] (.done) (.nil)))) (.nil))) (.nil)))) (.cons 8 [5, 4, 2, 1, 0] (.ev (.cons 3 [5, 4, 0] (.ev (.cons 6 [0] (.take 7 (.ev (.cons 9 [] (.done) (.nil)))) (.nil))) (.cons 6 [2, 1, 0] (.ev (.cons 3 [0] (.take 7 (.ev (.cons 9 [] (.done) (.nil)))) (.nil))) (.nil)))) (.nil)))))))))), [], ⟨by kernel_rfl, by kernel_rfl, by kernel_rfl, by kernel_rfl⟩, ?_⟩
  refine jac [(6, .box 6 0), (17, .osl 17 0 3), (20, .osl 20 0 3)] [(6, .box [.ints .i64 [z0, z1, z2], .int .i64 out, .ints .i64 data, .osl 17 0 3, .osl 20 0 3, .nil]), (17, .arr .i64 [0, 0, 0]), (20, .arr .i64 [0, 0, 0])] ?_ ?_
  ·exact V.d0 @jhC
  refine V.r0 @jhC ?_
  refine .inl ?_
  (conv => whnf)
  refine ⟨0, _, _, ⟨Tryz.func82, rfl, rfl, jhy rfl⟩, ?_⟩
  (conv => whnf)
  refine V.r0 @jhC ?_
  refine jah (0) (fun k => k ≤ 3) (fun k => 3 - k) (fun k => [(14, .int .i64 k)]) (fun k => [(88, .box (preD (2 * k) [.str (R 0).1, .str (R 0).2, .str (R 1).1, .str (R 1).2, .str (R 2).1, .str (R 2).2])), (17, .arr .i64 (preZ k [b0, b1, b2])), (20, .arr .i64 (preZ k [0, 1, 2]))]) ?_ ?_ ?_
  ·exact V.wk
  ·exact jhz _
  intro k hk
  have hk4 : k = 0 ∨ k = 1 ∨ k = 2 ∨ k = 3 := by omega
  rcases hk4 with e | e | e | e
  all_goals subst e
  ·simp only [k0]
   have q1 : (preZ 0 [b0, b1, b2]).length = 3 := rfl
   have q2 : (preZ 0 [0, 1, 2]).length = 3 := rfl
   refine V.r0 jhc ?_
   refine .inl ?_
   (conv => whnf)
   refine ⟨0, _, _, ⟨Tryz.func123, rfl, rfl, jhy rfl⟩, ?_⟩
   (conv => whnf)
   refine V.r0 jhc ?_
   refine ⟨(.take 0 (.take 1 (.take 2 (.take 3 (.take 4 (.take 5 (.take 6 (.take 7 (.take 8 (.ev (.cons 9 [] (.take 10 (.take 11 (.take 12 (.take 13 (.ev (.cons 14 [13, 12, 11, 10] (.take 15 (.ev (.cons 16 [13] (.take 17 (.done)) (.nil)))) (.nil))))))) (.cons 14 [8, 7, 6, 5, 4, 3, 2, 1, 0] (.ev (.cons 9 [] (.take 10 (.take 11 (.take 12 (.take 13 (.take 15 (.ev (.cons 16 [13] (.take 17 (.done)) (.nil)))))))) (.nil))) (.nil))))))))))))), [], ⟨by kernel_rfl, by kernel_rfl, by kernel_rfl, by kernel_rfl⟩, ?_⟩
   refine jac [(8, .box 118 0), (7, .int .i64 b0), (9, .int .i64 0)] [(118, .box [.str (R 0).1, .str (R 0).2])] ?_ ?_
   ·exact V.d1 jhc sp0
   refine V.r0 jhc ?_
   refine ⟨(.take 0 (.take 1 (.take 2 (.take 3 (.take 4 (.take 5 (.take 6 (.take 7 (.take 8 (.ev (.cons 9 [7, 5, 4, 3] (.take 10 (.ev (.cons 11 [] (.done) (.nil)))) (.nil)))))))))))), [], ⟨by kernel_rfl, by kernel_rfl, by kernel_rfl, by kernel_rfl⟩, ?_⟩
   refine jac [] [(17, .arr .i64 (preZ 1 [b0, b1, b2])), (20, .arr .i64 (preZ 1 [0, 1, 2]))] ?_ ?_
   ·exact V.d0 jhc
   refine V.r0 jhc ?_
   exact ⟨1, by omega, by omega, V.wk⟩
  ·simp only [k1]
   have q1 : (preZ 1 [b0, b1, b2]).length = 3 := rfl
   have q2 : (preZ 1 [0, 1, 2]).length = 3 := rfl
   refine V.r0 jhc ?_
   refine .inl ?_
   (conv => whnf)
   refine ⟨0, _, _, ⟨Tryz.func123, rfl, rfl, jhy rfl⟩, ?_⟩
   (conv => whnf)
   refine V.r0 jhc ?_
   refine ⟨(.take 0 (.take 1 (.take 2 (.take 3 (.take 4 (.take 5 (.take 6 (.take 7 (.take 8 (.ev (.cons 9 [] (.take 10 (.take 11 (.take 12 (.take 13 (.ev (.cons 14 [13, 12, 11, 10] (.take 15 (.ev (.cons 16 [13] (.take 17 (.done)) (.nil)))) (.nil))))))) (.cons 14 [8, 7, 6, 5, 4, 3, 2, 1, 0] (.ev (.cons 9 [] (.take 10 (.take 11 (.take 12 (.take 13 (.take 15 (.ev (.cons 16 [13] (.take 17 (.done)) (.nil)))))))) (.nil))) (.nil))))))))))))), [], ⟨by kernel_rfl, by kernel_rfl, by kernel_rfl, by kernel_rfl⟩, ?_⟩
   refine jac [(8, .box 118 0), (7, .int .i64 b1), (9, .int .i64 0)] [(118, .box [.str (R 1).1, .str (R 1).2])] ?_ ?_
   ·exact V.d1 jhc sp1
   refine V.r0 jhc ?_
   refine ⟨(.take 0 (.take 1 (.take 2 (.take 3 (.take 4 (.take 5 (.take 6 (.take 7 (.take 8 (.ev (.cons 9 [7, 5, 4, 3] (.take 10 (.ev (.cons 11 [] (.done) (.nil)))) (.nil)))))))))))), [], ⟨by kernel_rfl, by kernel_rfl, by kernel_rfl, by kernel_rfl⟩, ?_⟩
   refine jac [] [(17, .arr .i64 (preZ 2 [b0, b1, b2])), (20, .arr .i64 (preZ 2 [0, 1, 2]))] ?_ ?_
   ·exact V.d0 jhc
   refine V.r0 jhc ?_
   exact ⟨2, by omega, by omega, V.wk⟩
  ·simp only [k2]
   have q1 : (preZ 2 [b0, b1, b2]).length = 3 := rfl
   have q2 : (preZ 2 [0, 1, 2]).length = 3 := rfl
   refine V.r0 jhc ?_
   refine .inl ?_
   (conv => whnf)
   refine ⟨0, _, _, ⟨Tryz.func123, rfl, rfl, jhy rfl⟩, ?_⟩
   (conv => whnf)
   refine V.r0 jhc ?_
   refine ⟨(.take 0 (.take 1 (.take 2 (.take 3 (.take 4 (.take 5 (.take 6 (.take 7 (.take 8 (.ev (.cons 9 [] (.take 10 (.take 11 (.take 12 (.take 13 (.ev (.cons 14 [13, 12, 11, 10] (.take 15 (.ev (.cons 16 [13] (.take 17 (.done)) (.nil)))) (.nil))))))) (.cons 14 [8, 7, 6, 5, 4, 3, 2, 1, 0] (.ev (.cons 9 [] (.take 10 (.take 11 (.take 12 (.take 13 (.take 15 (.ev (.cons 16 [13] (.take 17 (.done)) (.nil)))))))) (.nil))) (.nil))))))))))))), [], ⟨by kernel_rfl, by kernel_rfl, by kernel_rfl, by kernel_rfl⟩, ?_⟩
   refine jac [(8, .box 118 0), (7, .int .i64 b2), (9, .int .i64 0)] [(118, .box [.str (R 2).1, .str (R 2).2])] ?_ ?_
   ·exact V.d1 jhc sp2
   refine V.r0 jhc ?_
   refine ⟨(.take 0 (.take 1 (.take 2 (.take 3 (.take 4 (.take 5 (.take 6 (.take 7 (.take 8 (.ev (.cons 9 [7, 5, 4, 3] (.take 10 (.ev (.cons 11 [] (.done) (.nil)))) (.nil)))))))))))), [], ⟨by kernel_rfl, by kernel_rfl, by kernel_rfl, by kernel_rfl⟩, ?_⟩
   refine jac [] [(17, .arr .i64 (preZ 3 [b0, b1, b2])), (20, .arr .i64 (preZ 3 [0, 1, 2]))] ?_ ?_
   ·exact V.d0 jhc
   refine V.r0 jhc ?_
   exact ⟨3, by omega, by omega, V.wk⟩
  ·simp only [k3]
   (conv => whnf)
   repeat ((fail_if_success (with_reducible refine Cnd.split ?_)); refine V.s1 ?_; (try simp only [jhC]))
   refine V.s1 ?_
   (conv => whnf)
   repeat ((fail_if_success (with_reducible refine Cnd.split ?_)); refine V.s1 ?_; (try simp only [jhC]))
   refine jcI [(7, .ref [.slf 2 3 (fun j => List.take 2 (List.drop (j * 2) [.str (R 0).1, .str (R 0).2, .str (R 1).1, .str (R 1).2, .str (R 2).1, .str (R 2).2]))]), (22, .any), (26, .any), (27, .any)] [(7, .gone), (88, .gone)] (CondB.mk (fun h => absurd h (by decide)) (fun _ => ?_)) ?_
   ·(conv => whnf)
    refine Wk.pub 88 ?_
    (conv => whnf)
    refine Wk.pub 7 ?_
    (conv => whnf)
    simp only [jhC]
    exact V.wk
   refine V.r0 @jhC ?_
   refine .inl ?_
   (conv => whnf)
   refine ⟨0, _, _, ⟨Tryz.func125, rfl, rfl, jhy rfl⟩, ?_⟩
   (conv => whnf)
   refine V.r0 @jhC ?_
   refine .inl ?_
   (conv => whnf)
   refine ⟨0, _, _, ⟨Tryz.func163, rfl, rfl, jhy rfl⟩, ?_⟩
   (conv => whnf)
   refine V.r0 @jhC ?_
   refine jah (0) (fun k => k = 0) (fun k => k) (fun k => [(7, .int .i64 0), (8, .int .i64 20)]) (fun k => []) ?_ ?_ ?_
   ·exact V.wk
   ·rfl
   intro k hk
   refine V.r0 @jhC ?_
   refine .inl ?_
   (conv => whnf)
   refine ⟨0, _, _, ⟨Tryz.func193, rfl, rfl, jhy rfl⟩, ?_⟩
   (conv => whnf)
   refine V.r0 @jhC ?_
   refine jah (0) (fun k => k + 1 ≤ 3) (fun k => 3 - k) (fun k => [(8, .int .i64 ((k + 1 : Nat) : Int))]) (fun k => [(20, .arr .i64 (isoK w [0, 1, 2] k))]) ?_ ?_ ?_
   ·exact V.wk
   ·omega
   clear hk
   intro k hk
   have hB := jg9 w (n := 3) (xs := [0, 1, 2]) ⟨rfl, fun i hi => by
    have : i = 0 ∨ i = 1 ∨ i = 2 := by omega
    rcases this with e | e | e <;> subst e <;> first | decide | omega⟩ k (by omega)
   refine V.r0 @jhC ?_
   refine Cnd.split (CondB.mk (fun hq => ?_) (fun hq => ?_))
   ·have hk2 : k + 1 < 3 := by simp at hq; omega
    refine V.r0 @jhC ?_
    refine jah ((k + 1, isoK w [0, 1, 2] k) : Nat × List Int) (fun s => s.1 ≤ k + 1 ∧ Bel 3 s.2 ∧ insJ w s.1 s.2 = isoK w [0, 1, 2] (k + 1)) (fun s => s.1) (fun s => [(9, .int .i64 s.1)]) (fun s => [(20, .arr .i64 s.2)]) ?_ ?_ ?_
    ·exact V.wk
    ·exact ⟨jhE _, hB, rfl⟩
    rintro ⟨j, xs⟩ ⟨h1, h2, h3⟩
    dsimp only at h1 h2 h3 ⊢
    have hl := h2.1
    refine V.r0 @jhC ?_
    have c1 : (decide ((j : Int) > 0) = true) → Called Tryz.prog 126 [.int .i64 (xs.getD j 0), .int .i64 (xs.getD (j - 1) 0), .ref [.slf 2 3 (fun j => List.take 2 (List.drop (j * 2) [.str (R 0).1, .str (R 0).2, .str (R 1).1, .str (R 1).2, .str (R 2).1, .str (R 2).2]))]] (.int .i64 (w (xs.getD j 0) (xs.getD (j - 1) 0))) := fun h => by
     have hj : (j : Int) > 0 := of_decide_eq_true h
     have g1 := h2.2 j (by omega)
     have g2 := h2.2 (j - 1) (by omega)
     have c := cm (xs.getD j 0).toNat (xs.getD (j - 1) 0).toNat (by omega) (by omega)
     rw [Int.toNat_of_nonneg g1.1, Int.toNat_of_nonneg g2.1] at c
     exact c
    refine ⟨(.take 0 (.take 1 (.take 2 (.take 3 (.take 4 (.take 5 (.take 6 (.take 7 (.take 8 (.take 9 (.take 10 (.take 11 (.take 12 (.take 13 (.ev (.cons 14 [] (.take 15 (.take 16 (.done))) (.nil))))))))))))))))), [], ⟨by kernel_rfl, by kernel_rfl, by kernel_rfl, by kernel_rfl⟩, ?_⟩
    refine jac [(34, .bool (decide ((j : Int) > 0) && decide (w (xs.getD j 0) (xs.getD (j - 1) 0) < 0)))] [] ?_ ?_
    ·(conv => whnf); (try simp only [jho])
     repeat' (first | exact V.wk | ((with_reducible refine And.intro ?_ jaB); (conv => whnf); (try simp only [jho])) | ((with_reducible first | refine jav ?_ ?_ | refine jaz ?_ ?_) <;> (conv => whnf); (try simp only [jho])) | ((first | refine V.s1 ?_ | ((with_reducible refine jao ?_ ?_); (focus ((conv => whnf); (try simp only [jho]); (repeat ((first | refine V.s1 ?_ | ((refine ⟨_, c1, ?_⟩); (conv => whnf))); (try simp only [jho]))); exact ⟨rfl⟩)); (conv => whnf)) | ((try ((with_reducible refine .ext ?_); (conv => whnf); (try simp only [jho]))); (with_reducible refine jab (r := ?_) ?_ ?_); rotate_left; (focus (first | fail)); (conv => whnf)) | ((refine ⟨_, c1, ?_⟩); (conv => whnf))); (try simp only [jho])) | (refine And.intro ?_ ?_ <;> (conv => whnf); (try simp only [jho])))
    refine V.r0 @jhC ?_
    refine Cnd.split (CondB.mk (fun hq2 => ?_) (fun hq2 => ?_))
    ·have hj : 0 < j ∧ w (xs.getD j 0) (xs.getD (j - 1) 0) < 0 := by
      rw [jhx, decide_eq_true_eq, decide_eq_true_eq] at hq2
      omega
     obtain ⟨i, rfl⟩ : ∃ i, j = i + 1 := ⟨j - 1, by omega⟩
     rw [show i + 1 - 1 = i by omega] at hj
     have hw := jfL h2 (show i + 1 < 3 by omega)
     have e1 : ((i + 1 : Nat) : Int).toNat = i + 1 := by omega
     have e2 : (((i + 1 : Nat) : Int) - 1).toNat = i := by omega
     have e3 : ((i + 1 : Nat) : Int) - 1 = (i : Int) := by omega
     have e4 : (i : Int).toNat = i := by omega
     have h3' : insJ w i ((xs.set (i + 1) (xs.getD i 0)).set i (xs.getD (i + 1) 0)) = isoK w [0, 1, 2] (k + 1) := by
      rw [← h3]
      simp only [insJ]
      rw [if_pos hj.2]
     refine V.r0 @jhC ?_
     refine ⟨(.take 0 (.take 1 (.take 2 (.take 3 (.take 4 (.take 5 (.take 6 (.take 7 (.take 8 (.take 9 (.take 10 (.take 11 (.take 12 (.take 13 (.take 14 (.ev (.cons 15 [4, 3, 2] (.take 16 (.ev (.cons 17 [] (.done) (.nil)))) (.nil)))))))))))))))))), [], ⟨by kernel_rfl, by kernel_rfl, by kernel_rfl, by kernel_rfl⟩, ?_⟩
     refine jac [] [(20, .arr .i64 ((xs.set (i + 1) (xs.getD i 0)).set i (xs.getD (i + 1) 0)))] ?_ ?_
     ·exact V.d0 (V.a5 zX13c_2 e1 e2 e3 e4)
     refine V.r0 (V.a2 @jhC e3) ?_
     exact ⟨(i, (xs.set (i + 1) (xs.getD i 0)).set i (xs.getD (i + 1) 0)), ⟨by dsimp only; omega, hw, h3'⟩, by dsimp only; omega, V.wk⟩
    ·have hx : isoK w [0, 1, 2] (k + 1) = xs := by
      rw [← h3]
      cases j with
      | zero => rfl
      | succ i =>
       simp only [insJ]
       rw [if_neg]
       intro h
       rw [Bool.and_eq_false_iff, decide_eq_false_iff_not, decide_eq_false_iff_not, show i + 1 - 1 = i by omega] at hq2
       omega
     refine V.r0 @jhC ?_
     refine ⟨k + 1, by omega, by omega, ?_⟩
     rw [hx]
     exact V.wk
   have hk2 : k + 1 = 3 := by simp at hq; omega
   have hk3 : k = 3 - 1 := by omega
   subst hk3
   refine V.r0 @jhC ?_
   refine jah (0) (fun k => k = 0) (fun k => k) (fun k => [(6, .int .i64 20)]) (fun k => []) ?_ ?_ ?_
   ·exact V.wk
   ·rfl
   clear hk
   intro k hk
   refine V.r0 @jhC ?_
   obtain ⟨xs, hxs⟩ : ∃ xs, isoK w [0, 1, 2] (3 - 1) = xs := ⟨_, rfl⟩
   rw [hxs] at hB ⊢
   have hl := hB.1
   refine V.r1 @jhC io ?_
   have hr : ∀ m, m < 3 → List.take 2 (List.drop (m * 2) ([.str (R 0).1, .str (R 0).2, .str (R 1).1, .str (R 1).2, .str (R 2).1, .str (R 2).2] : List D)) = [.str (R m).1, .str (R m).2] := fun m hm => by
    have : m = 0 ∨ m = 1 ∨ m = 2 := by omega
    rcases this with e | e | e <;> subst e <;> first | rfl | omega
   have e0 := hr (xs.getD 0 0).toNat (by have := hB.2 0 (by omega); omega)
   have g0 := hB.2 0 (by omega)
   have sb0 := sb 0 (by omega)
   have hb0 := hBf 0 (by omega)
   rw [hxs] at sb0 hb0
   have e1 := hr (xs.getD 1 0).toNat (by have := hB.2 1 (by omega); omega)
   have g1 := hB.2 1 (by omega)
   have sb1 := sb 1 (by omega)
   have hb1 := hBf 1 (by omega)
   rw [hxs] at sb1 hb1
   have e2 := hr (xs.getD 2 0).toNat (by have := hB.2 2 (by omega); omega)
   have g2 := hB.2 2 (by omega)
   have sb2 := sb 2 (by omega)
   have hb2 := hBf 2 (by omega)
   rw [hxs] at sb2 hb2
   have hb' : (Bf 0).1 = o0 ∧ (Bf 0).2 = o1 := by rw [hBf0]; exact ⟨rfl, rfl⟩
   refine jah 0 (fun k => k ≤ 3) (fun k => 3 - k) (fun k => [(41, .int .i64 k)]) (fun k => (9, .box [.str (Bf k).1, .str (Bf k).2]) :: (6, .box [.ints .i64 [z0, z1, z2], .int .i64 out, .ints .i64 data, .osl 17 0 3, .osl 20 0 3, wcl k]) :: wch W k) ?_ ?_ ?_
   ·rw [hb'.1, hb'.2]
    exact V.wk
   ·exact jhz _
   clear hk
   intro k hk
   have hk4 : k = 0 ∨ k = 1 ∨ k = 2 ∨ k = 3 := by omega
   rcases hk4 with e | e | e | e
   all_goals subst e
   ·simp only [k0, wcl, wch]
    refine V.r0 jhc ?_
    refine ⟨(.take 0 (.take 1 (.take 2 (.take 3 (.take 4 (.ev (.cons 5 [] (.take 6 (.take 7 (.take 8 (.ev (.cons 9 [8, 7, 6] (.ev (.cons 10 [8] (.take 11 (.done)) (.nil))) (.nil)))))) (.cons 9 [4, 3, 2, 1, 0] (.ev (.cons 5 [] (.take 6 (.take 7 (.take 8 (.ev (.cons 10 [8] (.take 11 (.done)) (.nil)))))) (.nil))) (.nil))))))))), [], ⟨by kernel_rfl, by kernel_rfl, by kernel_rfl, by kernel_rfl⟩, ?_⟩
    refine jac [(12, .box 12 0), (13, .int .i64 0)] [(12, .box [.str (W 0).1, .str (W 0).2])] ?_ ?_
    ·(conv => whnf); (try simp only [jhC])
     repeat' (first | exact V.wk | ((with_reducible refine And.intro ?_ jaB); (conv => whnf); (try simp only [jhC])) | ((with_reducible first | refine jav ?_ ?_ | refine jaz ?_ ?_) <;> (conv => whnf); (try simp only [jhC])) | ((first | refine V.s1 ?_ | ((with_reducible refine jao ?_ ?_); (focus ((conv => whnf); (try simp only [jhC]); (repeat ((first | refine V.s1 ?_ | ((simp only [e0]); (conv => whnf))); (try simp only [jhC]))); exact ⟨rfl⟩)); (conv => whnf)) | ((try ((with_reducible refine .ext ?_); (conv => whnf); (try simp only [jhC]))); (with_reducible refine jab (r := ?_) ?_ ?_); rotate_left; (focus (first | exact (sb0))); (conv => whnf)) | ((simp only [e0]); (conv => whnf))); (try simp only [jhC])) | (refine And.intro ?_ ?_ <;> (conv => whnf); (try simp only [jhC])))
    (conv => whnf)
    (try simp only [jhC])
    repeat ((first | refine V.s1 ?_ | ((try ((with_reducible refine .ext ?_); (conv => whnf); (try simp only [jhC]))); (with_reducible refine jab (r := ?_) ?_ ?_); rotate_left; (focus (first | fail)); (conv => whnf)) | ((simp only [e0]); (conv => whnf))); (try simp only [jhC]))
    refine ⟨1, by omega, by omega, ?_⟩
    rw [hb0]
    exact V.wk
   ·simp only [k1, wcl, wch]
    refine V.r0 jhc ?_
    refine ⟨(.take 0 (.take 1 (.take 2 (.take 3 (.take 4 (.ev (.cons 5 [] (.take 6 (.take 7 (.take 8 (.ev (.cons 9 [8, 7, 6] (.ev (.cons 10 [8] (.take 11 (.done)) (.nil))) (.nil)))))) (.cons 9 [4, 3, 2, 1, 0] (.ev (.cons 5 [] (.take 6 (.take 7 (.take 8 (.ev (.cons 10 [8] (.take 11 (.done)) (.nil)))))) (.nil))) (.nil))))))))), [], ⟨by kernel_rfl, by kernel_rfl, by kernel_rfl, by kernel_rfl⟩, ?_⟩
    refine jac [(12, .box 12 0), (13, .int .i64 0)] [(12, .box [.str (W 1).1, .str (W 1).2])] ?_ ?_
    ·(conv => whnf); (try simp only [jhC])
     repeat' (first | exact V.wk | ((with_reducible refine And.intro ?_ jaB); (conv => whnf); (try simp only [jhC])) | ((with_reducible first | refine jav ?_ ?_ | refine jaz ?_ ?_) <;> (conv => whnf); (try simp only [jhC])) | ((first | refine V.s1 ?_ | ((with_reducible refine jao ?_ ?_); (focus ((conv => whnf); (try simp only [jhC]); (repeat ((first | refine V.s1 ?_ | ((simp only [e1]); (conv => whnf))); (try simp only [jhC]))); exact ⟨rfl⟩)); (conv => whnf)) | ((try ((with_reducible refine .ext ?_); (conv => whnf); (try simp only [jhC]))); (with_reducible refine jab (r := ?_) ?_ ?_); rotate_left; (focus (first | exact (sb1))); (conv => whnf)) | ((simp only [e1]); (conv => whnf))); (try simp only [jhC])) | (refine And.intro ?_ ?_ <;> (conv => whnf); (try simp only [jhC])))
    (conv => whnf)
    (try simp only [jhC])
    repeat ((first | refine V.s1 ?_ | ((try ((with_reducible refine .ext ?_); (conv => whnf); (try simp only [jhC]))); (with_reducible refine jab (r := ?_) ?_ ?_); rotate_left; (focus (first | fail)); (conv => whnf)) | ((simp only [e1]); (conv => whnf))); (try simp only [jhC]))
    refine ⟨2, by omega, by omega, ?_⟩
    rw [hb1]
    exact V.wk
   ·simp only [k2, wcl, wch]
    refine V.r0 jhc ?_
    refine ⟨(.take 0 (.take 1 (.take 2 (.take 3 (.take 4 (.ev (.cons 5 [] (.take 6 (.take 7 (.take 8 (.ev (.cons 9 [8, 7, 6] (.ev (.cons 10 [8] (.take 11 (.done)) (.nil))) (.nil)))))) (.cons 9 [4, 3, 2, 1, 0] (.ev (.cons 5 [] (.take 6 (.take 7 (.take 8 (.ev (.cons 10 [8] (.take 11 (.done)) (.nil)))))) (.nil))) (.nil))))))))), [], ⟨by kernel_rfl, by kernel_rfl, by kernel_rfl, by kernel_rfl⟩, ?_⟩
    refine jac [(12, .box 12 0), (13, .int .i64 0)] [(12, .box [.str (W 2).1, .str (W 2).2])] ?_ ?_
    ·(conv => whnf); (try simp only [jhC])
     repeat' (first | exact V.wk | ((with_reducible refine And.intro ?_ jaB); (conv => whnf); (try simp only [jhC])) | ((with_reducible first | refine jav ?_ ?_ | refine jaz ?_ ?_) <;> (conv => whnf); (try simp only [jhC])) | ((first | refine V.s1 ?_ | ((with_reducible refine jao ?_ ?_); (focus ((conv => whnf); (try simp only [jhC]); (repeat ((first | refine V.s1 ?_ | ((simp only [e2]); (conv => whnf))); (try simp only [jhC]))); exact ⟨rfl⟩)); (conv => whnf)) | ((try ((with_reducible refine .ext ?_); (conv => whnf); (try simp only [jhC]))); (with_reducible refine jab (r := ?_) ?_ ?_); rotate_left; (focus (first | exact (sb2))); (conv => whnf)) | ((simp only [e2]); (conv => whnf))); (try simp only [jhC])) | (refine And.intro ?_ ?_ <;> (conv => whnf); (try simp only [jhC])))
    (conv => whnf)
    (try simp only [jhC])
    repeat ((first | refine V.s1 ?_ | ((try ((with_reducible refine .ext ?_); (conv => whnf); (try simp only [jhC]))); (with_reducible refine jab (r := ?_) ?_ ?_); rotate_left; (focus (first | fail)); (conv => whnf)) | ((simp only [e2]); (conv => whnf))); (try simp only [jhC]))
    refine ⟨3, by omega, by omega, ?_⟩
    rw [hb2]
    exact V.wk
   ·simp only [k3, wcl, wch]
    have ht : List.take 3 xs = xs := List.take_of_length_le (by omega)
    refine V.r0 (V.a2 @jhC ht) ?_
    rw [← hxs]
    exact Fin.of rfl
end Go.Proofs.YtgjgpdceghjajaaGreatDoor
end
