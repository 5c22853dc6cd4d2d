/- What functions of the program answer at given values, part 27. Conditions: those that each theorem names. -/
import Derived.Test.YtgjgpdceghjajaaGreatDoorSimplexRefinedH25
import Derived.Test.YtgjgpdceghjajaaGreatDoorSimplexRefinedH13
set_option linter.unusedSimpArgs false
set_option linter.unusedVariables false
set_option maxHeartbeats 8000000
set_option maxRecDepth 100000
section
namespace Go.Proofs.YtgjgpdceghjajaaGreatDoor
open Go Go.V Go.Nb
theorem jh3 : type_of% @jif ∧ type_of% @tn0 ∧ type_of% @tn1 ∧ type_of% @tn2 ∧ type_of% @tn3 := ⟨@jif, @tn0, @tn1, @tn2, @tn3⟩
theorem jh1 : type_of% @jih ∧ type_of% @jif ∧ type_of% @tns := ⟨@jih, @jif, @tns⟩
theorem zX13a_2 : type_of% @ji6 ∧ type_of% @jif := ⟨@ji6, @jif⟩
theorem find1_t (z0 out b0 : Int) (data : List Int) (x0 y0 o0 o1 : List UInt8) (R Bf W : Nat → Tx)
  (sp0 : Called Tryz.prog 124 [.agg [.str x0, .str y0], .int .i64 z0] (.tup [.int .i64 b0, .agg [.str (R 0).1, .str (R 0).2], .int .i64 0]))
  (io : Called Tryz.prog 86 [.int .i64 1] (.agg [.str o0, .str o1])) (w : Int → Int → Int) (cm : ∀ a b : Nat, a < 1 → b < 1 → Called Tryz.prog 126 [.int .i64 a, .int .i64 b, .ref [.slf 2 1 (fun j => List.take 2 (List.drop (j * 2) [.str (R 0).1, .str (R 0).2]))]] (.int .i64 (w a b)))
  (hBf0 : Bf 0 = (o0, o1)) (hBf : ∀ k, k < 1 → Bf (k + 1) = R ((isoK w [0] (1 - 1)).getD k 0).toNat) (sb : ∀ k, k < 1 → Called Tryz.prog 99 [.agg [.str (Bf k).1, .str (Bf k).2], .agg [.str (R ((isoK w [0] (1 - 1)).getD k 0).toNat).1, .str (R ((isoK w [0] (1 - 1)).getD k 0).toNat).2]] (.tup [.agg [.str (W k).1, .str (W k).2], .int .i64 0])) :
  Called Tryz.prog 79 [.agg [.ints .i64 [z0], .int .i64 out, .ints .i64 data], .slf 2 1 (fun j => List.take 2 (List.drop (j * 2) [.str x0, .str y0]))] (.tup [.agg [.ints .i64 [z0], .int .i64 out, .ints .i64 data, .ints .i64 [b0], .ints .i64 (isoK w [0] (1 - 1)), .slf 2 2 (fun j => List.take 2 (List.drop (j * 2) [.str (W 0).1, .str (W 0).2, .str (Bf 1).1, .str (Bf 1).2]))], .int .i64 0]) := by
  refine V.en tbOk Tryz.func79 ?_
  refine V.r0 @jif ?_
  refine ⟨(V.tk [0,1,2,4,5] (.ev (.cons 3 [5,4,0] (.ev (.cons 6 [0] (V.tk [7] (V.e1 8 [7,0] (V.e1 9 [] .done))) (.cons 8 [5,4,0] (V.e1 6 [0] (V.tk [7] (V.e1 9 [] .done))) .nil))) (.cons 6 [2,1,0] (.ev (.cons 3 [0] (V.tk [7] (V.e1 8 [7,0] (V.e1 9 [] .done))) (.cons 8 [2,1,0] (V.e1 3 [0] (V.tk [7] (V.e1 9 [] .done))) .nil))) (.cons 8 [5,4,2,1,0] (.ev (.cons 3 [5,4,0] (V.e1 6 [0] (V.tk [7] (V.e1 9 [] .done))) (.cons 6 [2,1,0] (V.e1 3 [0] (V.tk [7] (V.e1 9 [] .done))) .nil))) .nil))))), [], V.pok, ?_⟩
  refine jab [(6, .box 6 0), (17, .osl 17 0 1), (20, .osl 20 0 1)] [(6, .box [.ints .i64 [z0], .int .i64 out, .ints .i64 data, .osl 17 0 1, .osl 20 0 1, .nil]), (17, .arr .i64 [0]), (20, .arr .i64 [0])] ?_ ?_
  ·exact V.d0 @jif
  refine V.r0 @jif ?_
  refine .inl ?_
  (conv => whnf)
  refine ⟨0, _, _, ⟨Tryz.func82, rfl, rfl, jia rfl⟩, ?_⟩
  refine V.r0 @jif ?_
  refine jac (0) (fun k => k ≤ 1) (fun k => 1 - k) (fun k => [(14, .int .i64 k)]) (fun k => [(88, .box (preD (2 * k) [.str (R 0).1, .str (R 0).2])), (17, .arr .i64 (preZ k [b0])), (20, .arr .i64 (preZ k [0]))]) ?_ ?_ ?_
  ·exact V.wk
  ·exact jib _
  intro k hk
  have hk4 : k = 0 ∨ k = 1 := by omega
  rcases hk4 with e | e
  all_goals subst e
  ·simp only [k0]
   have q1 : (preZ 0 [b0]).length = 1 := rfl
   have q2 : (preZ 0 [0]).length = 1 := rfl
   refine V.r0 jh3 ?_
   refine .inl ?_
   (conv => whnf)
   refine ⟨0, _, _, ⟨Tryz.func123, rfl, rfl, jia rfl⟩, ?_⟩
   refine V.r0 jh3 ?_
   refine ⟨(V.tk [0,1,2,3,4,5,6,7,8] (.ev (.cons 9 [] (V.tk [10,11,12,13] (V.e1 14 [13,12,11,10] (V.tk [15] (V.e1 16 [13] (V.tk [17] .done))))) (.cons 14 [8,7,6,5,4,3,2,1,0] (V.e1 9 [] (V.tk [10,11,12,13,15] (V.e1 16 [13] (V.tk [17] .done)))) .nil)))), [], V.pok, ?_⟩
   refine jab [(8, .box 118 0), (7, .int .i64 b0), (9, .int .i64 0)] [(118, .box [.str (R 0).1, .str (R 0).2])] ?_ ?_
   ·exact V.d1 jh3 sp0
   refine V.r0 jh3 ?_
   refine ⟨(V.tk [0,1,2,3,4,5,6,7,8] (V.e1 9 [7,5,4,3] (V.tk [10] (V.e1 11 [] .done)))), [], V.pok, ?_⟩
   refine jab [] [(17, .arr .i64 (preZ 1 [b0])), (20, .arr .i64 (preZ 1 [0]))] ?_ ?_
   ·exact V.d0 jh3
   refine V.r0 jh3 ?_
   exact ⟨1, by omega, by omega, V.wk⟩
  ·simp only [k1]
   (conv => whnf)
   repeat ((fail_if_success (with_reducible refine Cnd.split ?_)); refine V.s1 ?_; (try simp only [jif]))
   refine V.s1 ?_
   (conv => whnf)
   repeat ((fail_if_success (with_reducible refine Cnd.split ?_)); refine V.s1 ?_; (try simp only [jif]))
   refine ja7 [(7, .ref [.slf 2 1 (fun j => List.take 2 (List.drop (j * 2) [.str (R 0).1, .str (R 0).2]))]), (22, .any), (26, .any), (27, .any)] [(7, .gone), (88, .gone)] (CondB.mk (fun h => absurd h (by decide)) (fun _ => ?_)) ?_
   ·(conv => whnf)
    refine Wk.pub 88 ?_
    (conv => whnf)
    refine Wk.pub 7 ?_
    (conv => whnf)
    simp only [jif]
    exact V.wk
   refine V.r0 @jif ?_
   refine .inl ?_
   (conv => whnf)
   refine ⟨0, _, _, ⟨Tryz.func125, rfl, rfl, jia rfl⟩, ?_⟩
   refine V.r0 @jif ?_
   refine .inl ?_
   (conv => whnf)
   refine ⟨0, _, _, ⟨Tryz.func163, rfl, rfl, jia rfl⟩, ?_⟩
   refine V.r0 @jif ?_
   refine jac (0) (fun k => k = 0) (fun k => k) (fun k => [(7, .int .i64 0), (8, .int .i64 20)]) (fun k => []) ?_ ?_ ?_
   ·exact V.wk
   ·rfl
   intro k hk
   refine V.r0 @jif ?_
   refine .inl ?_
   (conv => whnf)
   refine ⟨0, _, _, ⟨Tryz.func193, rfl, rfl, jia rfl⟩, ?_⟩
   refine V.r0 @jif ?_
   refine jac (0) (fun k => k + 1 ≤ 1) (fun k => 1 - k) (fun k => [(8, .int .i64 ((k + 1 : Nat) : Int))]) (fun k => [(20, .arr .i64 (isoK w [0] k))]) ?_ ?_ ?_
   ·exact V.wk
   ·omega
   clear hk
   intro k hk
   have hB := jgo w (n := 1) (xs := [0]) ⟨rfl, fun i hi => by
    have : i = 0 ∨ i = 1 ∨ i = 2 := by omega
    rcases this with e | e | e <;> subst e <;> first | decide | omega⟩ k (by omega)
   refine V.r0 @jif ?_
   refine V.br (fun hq => ?_) (fun hq => ?_)
   ·have hk2 : k + 1 < 1 := by simp at hq; omega
    refine V.r0 @jif ?_
    refine jac ((k + 1, isoK w [0] k) : Nat × List Int) (fun s => s.1 ≤ k + 1 ∧ Bel 1 s.2 ∧ insJ w s.1 s.2 = isoK w [0] (k + 1)) (fun s => s.1) (fun s => [(9, .int .i64 s.1)]) (fun s => [(20, .arr .i64 s.2)]) ?_ ?_ ?_
    ·exact V.wk
    ·exact ⟨jii _, hB, rfl⟩
    rintro ⟨j, xs⟩ ⟨h1, h2, h3⟩
    dsimp only at h1 h2 h3 ⊢
    have hl := h2.1
    refine V.r0 @jif ?_
    have c1 : (decide ((j : Int) > 0) = true) → Called Tryz.prog 126 [.int .i64 (xs.getD j 0), .int .i64 (xs.getD (j - 1) 0), .ref [.slf 2 1 (fun j => List.take 2 (List.drop (j * 2) [.str (R 0).1, .str (R 0).2]))]] (.int .i64 (w (xs.getD j 0) (xs.getD (j - 1) 0))) := fun h => by
     have hj : (j : Int) > 0 := of_decide_eq_true h
     have g1 := h2.2 j (by omega)
     have g2 := h2.2 (j - 1) (by omega)
     have c := cm (xs.getD j 0).toNat (xs.getD (j - 1) 0).toNat (by omega) (by omega)
     rw [jig g1.1, jig g2.1] at c
     exact c
    refine ⟨(V.tk [0,1,2,3,4,5,6,7,8,9,10,11,12,13] (V.e1 14 [] (V.tk [15,16] .done))), [], V.pok, ?_⟩
    refine jab [(34, .bool (decide ((j : Int) > 0) && decide (w (xs.getD j 0) (xs.getD (j - 1) 0) < 0)))] [] ?_ ?_
    ·(conv => whnf); (try simp only [jh1])
     repeat' (first | exact V.wk | ((with_reducible refine And.intro ?_ jaB); (conv => whnf); (try simp only [jh1])) | ((with_reducible first | refine jas ?_ ?_ | refine jay ?_ ?_) <;> (conv => whnf); (try simp only [jh1])) | ((first | refine V.s1 ?_ | ((with_reducible refine jap ?_ ?_); (focus ((conv => whnf); (try simp only [jh1]); (repeat ((first | refine V.s1 ?_ | ((refine ⟨_, c1, ?_⟩); (conv => whnf))); (try simp only [jh1]))); exact ⟨rfl⟩)); (conv => whnf)) | ((try ((with_reducible refine .ext ?_); (conv => whnf); (try simp only [jh1]))); (with_reducible refine jaa (r := ?_) ?_ ?_); rotate_left; (focus (first | fail)); (conv => whnf)) | ((refine ⟨_, c1, ?_⟩); (conv => whnf))); (try simp only [jh1])) | (refine And.intro ?_ ?_ <;> (conv => whnf); (try simp only [jh1])))
    refine V.r0 @jif ?_
    refine V.br (fun hq2 => ?_) (fun hq2 => ?_)
    ·have hj : 0 < j ∧ w (xs.getD j 0) (xs.getD (j - 1) 0) < 0 := by
      rw [jh9, decide_eq_true_eq, decide_eq_true_eq] at hq2
      omega
     obtain ⟨i, rfl⟩ : ∃ i, j = i + 1 := ⟨j - 1, by omega⟩
     rw [show i + 1 - 1 = i by omega] at hj
     have hw := jer h2 (show i + 1 < 1 by omega)
     have e1 : ((i + 1 : Nat) : Int).toNat = i + 1 := by omega
     have e2 : (((i + 1 : Nat) : Int) - 1).toNat = i := by omega
     have e3 : ((i + 1 : Nat) : Int) - 1 = (i : Int) := by omega
     have e4 : (i : Int).toNat = i := by omega
     have h3' : insJ w i ((xs.set (i + 1) (xs.getD i 0)).set i (xs.getD (i + 1) 0)) = isoK w [0] (k + 1) := by
      rw [← h3]
      simp only [insJ]
      rw [if_pos hj.2]
     refine V.r0 @jif ?_
     refine ⟨(V.tk [0,1,2,3,4,5,6,7,8,9,10,11,12,13,14] (V.e1 15 [4,3,2] (V.tk [16] (V.e1 17 [] .done)))), [], V.pok, ?_⟩
     refine jab [] [(20, .arr .i64 ((xs.set (i + 1) (xs.getD i 0)).set i (xs.getD (i + 1) 0)))] ?_ ?_
     ·exact V.d0 (V.a5 zX13a_2 @e1 e2 e3 e4)
     refine V.r0 (V.a2 @jif e3) ?_
     exact ⟨(i, (xs.set (i + 1) (xs.getD i 0)).set i (xs.getD (i + 1) 0)), ⟨by dsimp only; omega, hw, h3'⟩, by dsimp only; omega, V.wk⟩
    ·have hx : isoK w [0] (k + 1) = xs := by
      rw [← h3]
      cases j with
      | zero => rfl
      | succ i =>
       simp only [insJ]
       rw [if_neg]
       intro h
       rw [Bool.and_eq_false_iff, decide_eq_false_iff_not, decide_eq_false_iff_not, show i + 1 - 1 = i by omega] at hq2
       omega
     refine V.r0 @jif ?_
     refine ⟨k + 1, by omega, by omega, ?_⟩
     rw [hx]
     exact V.wk
   have hk2 : k + 1 = 1 := by simp at hq; omega
   have hk3 : k = 1 - 1 := by omega
   subst hk3
   refine V.r0 @jif ?_
   refine jac (0) (fun k => k = 0) (fun k => k) (fun k => [(6, .int .i64 20)]) (fun k => []) ?_ ?_ ?_
   ·exact V.wk
   ·rfl
   clear hk
   intro k hk
   refine V.r0 @jif ?_
   obtain ⟨xs, hxs⟩ : ∃ xs, isoK w [0] (1 - 1) = xs := ⟨_, rfl⟩
   rw [hxs] at hB ⊢
   have hl := hB.1
   refine V.r1 @jif io ?_
   have hr : ∀ m, m < 1 → List.take 2 (List.drop (m * 2) ([.str (R 0).1, .str (R 0).2] : List D)) = [.str (R m).1, .str (R m).2] := fun m hm => by
    have : m = 0 ∨ m = 1 ∨ m = 2 := by omega
    rcases this with e | e | e <;> subst e <;> first | rfl | omega
   have e0 := hr (xs.getD 0 0).toNat (by have := hB.2 0 (by omega); omega)
   have g0 := hB.2 0 (by omega)
   have sb0 := sb 0 (by omega)
   have hb0 := hBf 0 (by omega)
   rw [hxs] at sb0 hb0
   have hb' : (Bf 0).1 = o0 ∧ (Bf 0).2 = o1 := by rw [hBf0]; exact ⟨rfl, rfl⟩
   refine jac 0 (fun k => k ≤ 1) (fun k => 1 - k) (fun k => [(41, .int .i64 k)]) (fun k => (9, .box [.str (Bf k).1, .str (Bf k).2]) :: (6, .box [.ints .i64 [z0], .int .i64 out, .ints .i64 data, .osl 17 0 1, .osl 20 0 1, wcl k]) :: wch W k) ?_ ?_ ?_
   ·rw [hb'.1, hb'.2]
    exact V.wk
   ·exact jib _
   clear hk
   intro k hk
   have hk4 : k = 0 ∨ k = 1 := by omega
   rcases hk4 with e | e
   all_goals subst e
   ·simp only [k0, wcl, wch]
    refine V.r0 jh3 ?_
    refine ⟨(V.tk [0,1,2,3,4] (.ev (.cons 5 [] (V.tk [6,7,8] (V.e1 9 [8,7,6] (V.e1 10 [8] (V.tk [11] .done)))) (.cons 9 [4,3,2,1,0] (V.e1 5 [] (V.tk [6,7,8] (V.e1 10 [8] (V.tk [11] .done)))) .nil)))), [], V.pok, ?_⟩
    refine jab [(12, .box 12 0), (13, .int .i64 0)] [(12, .box [.str (W 0).1, .str (W 0).2])] ?_ ?_
    ·(conv => whnf); (try simp only [jif])
     repeat' (first | exact V.wk | ((with_reducible refine And.intro ?_ jaB); (conv => whnf); (try simp only [jif])) | ((with_reducible first | refine jas ?_ ?_ | refine jay ?_ ?_) <;> (conv => whnf); (try simp only [jif])) | ((first | refine V.s1 ?_ | ((with_reducible refine jap ?_ ?_); (focus ((conv => whnf); (try simp only [jif]); (repeat ((first | refine V.s1 ?_ | ((simp only [e0]); (conv => whnf))); (try simp only [jif]))); exact ⟨rfl⟩)); (conv => whnf)) | ((try ((with_reducible refine .ext ?_); (conv => whnf); (try simp only [jif]))); (with_reducible refine jaa (r := ?_) ?_ ?_); rotate_left; (focus (first | exact (sb0))); (conv => whnf)) | ((simp only [e0]); (conv => whnf))); (try simp only [jif])) | (refine And.intro ?_ ?_ <;> (conv => whnf); (try simp only [jif])))
    (conv => whnf)
    (try simp only [jif])
    repeat ((first | refine V.s1 ?_ | ((try ((with_reducible refine .ext ?_); (conv => whnf); (try simp only [jif]))); (with_reducible refine jaa (r := ?_) ?_ ?_); rotate_left; (focus (first | fail)); (conv => whnf)) | ((simp only [e0]); (conv => whnf))); (try simp only [jif]))
    refine ⟨1, by omega, by omega, ?_⟩
    rw [hb0]
    exact V.wk
   ·simp only [k1, wcl, wch]
    have ht : List.take 1 xs = xs := jiZ (by omega)
    refine V.r0 (V.a2 @jif ht) ?_
    rw [← hxs]
    exact Fin.of rfl
theorem jhS : type_of% @jif ∧ type_of% @tn0 ∧ type_of% @tn1 ∧ type_of% @tn2 ∧ type_of% @tn3 := ⟨@jif, @tn0, @tn1, @tn2, @tn3⟩
theorem jh0 : type_of% @jih ∧ type_of% @jif ∧ type_of% @tns := ⟨@jih, @jif, @tns⟩
theorem zX13b_2 : type_of% @ji6 ∧ type_of% @jif := ⟨@ji6, @jif⟩
theorem find2_t (z0 z1 out b0 b1 : Int) (data : List Int) (x0 y0 x1 y1 o0 o1 : List UInt8) (R Bf W : Nat → Tx)
  (sp0 : Called Tryz.prog 124 [.agg [.str x0, .str y0], .int .i64 z0] (.tup [.int .i64 b0, .agg [.str (R 0).1, .str (R 0).2], .int .i64 0]))
  (sp1 : Called Tryz.prog 124 [.agg [.str x1, .str y1], .int .i64 z1] (.tup [.int .i64 b1, .agg [.str (R 1).1, .str (R 1).2], .int .i64 0]))
  (io : Called Tryz.prog 86 [.int .i64 1] (.agg [.str o0, .str o1])) (w : Int → Int → Int) (cm : ∀ a b : Nat, a < 2 → b < 2 → Called Tryz.prog 126 [.int .i64 a, .int .i64 b, .ref [.slf 2 2 (fun j => List.take 2 (List.drop (j * 2) [.str (R 0).1, .str (R 0).2, .str (R 1).1, .str (R 1).2]))]] (.int .i64 (w a b)))
  (hBf0 : Bf 0 = (o0, o1)) (hBf : ∀ k, k < 2 → Bf (k + 1) = R ((isoK w [0, 1] (2 - 1)).getD k 0).toNat) (sb : ∀ k, k < 2 → Called Tryz.prog 99 [.agg [.str (Bf k).1, .str (Bf k).2], .agg [.str (R ((isoK w [0, 1] (2 - 1)).getD k 0).toNat).1, .str (R ((isoK w [0, 1] (2 - 1)).getD k 0).toNat).2]] (.tup [.agg [.str (W k).1, .str (W k).2], .int .i64 0])) :
  Called Tryz.prog 79 [.agg [.ints .i64 [z0, z1], .int .i64 out, .ints .i64 data], .slf 2 2 (fun j => List.take 2 (List.drop (j * 2) [.str x0, .str y0, .str x1, .str y1]))] (.tup [.agg [.ints .i64 [z0, z1], .int .i64 out, .ints .i64 data, .ints .i64 [b0, b1], .ints .i64 (isoK w [0, 1] (2 - 1)), .slf 2 3 (fun j => List.take 2 (List.drop (j * 2) [.str (W 0).1, .str (W 0).2, .str (W 1).1, .str (W 1).2, .str (Bf 2).1, .str (Bf 2).2]))], .int .i64 0]) := by
  refine V.en tbOk Tryz.func79 ?_
  refine V.r0 @jif ?_
  refine ⟨(V.tk [0,1,2,4,5] (.ev (.cons 3 [5,4,0] (.ev (.cons 6 [0] (V.tk [7] (V.e1 8 [7,0] (V.e1 9 [] .done))) (.cons 8 [5,4,0] (V.e1 6 [0] (V.tk [7] (V.e1 9 [] .done))) .nil))) (.cons 6 [2,1,0] (.ev (.cons 3 [0] (V.tk [7] (V.e1 8 [7,0] (V.e1 9 [] .done))) (.cons 8 [2,1,0] (V.e1 3 [0] (V.tk [7] (V.e1 9 [] .done))) .nil))) (.cons 8 [5,4,2,1,0] (.ev (.cons 3 [5,4,0] (V.e1 6 [0] (V.tk [7] (V.e1 9 [] .done))) (.cons 6 [2,1,0] (V.e1 3 [0] (V.tk [7] (V.e1 9 [] .done))) .nil))) .nil))))), [], V.pok, ?_⟩
  refine jab [(6, .box 6 0), (17, .osl 17 0 2), (20, .osl 20 0 2)] [(6, .box [.ints .i64 [z0, z1], .int .i64 out, .ints .i64 data, .osl 17 0 2, .osl 20 0 2, .nil]), (17, .arr .i64 [0, 0]), (20, .arr .i64 [0, 0])] ?_ ?_
  ·exact V.d0 @jif
  refine V.r0 @jif ?_
  refine .inl ?_
  (conv => whnf)
  refine ⟨0, _, _, ⟨Tryz.func82, rfl, rfl, jia rfl⟩, ?_⟩
  refine V.r0 @jif ?_
  refine jac (0) (fun k => k ≤ 2) (fun k => 2 - k) (fun k => [(14, .int .i64 k)]) (fun k => [(88, .box (preD (2 * k) [.str (R 0).1, .str (R 0).2, .str (R 1).1, .str (R 1).2])), (17, .arr .i64 (preZ k [b0, b1])), (20, .arr .i64 (preZ k [0, 1]))]) ?_ ?_ ?_
  ·exact V.wk
  ·exact jib _
  intro k hk
  have hk4 : k = 0 ∨ k = 1 ∨ k = 2 := by omega
  rcases hk4 with e | e | e
  all_goals subst e
  ·simp only [k0]
   have q1 : (preZ 0 [b0, b1]).length = 2 := rfl
   have q2 : (preZ 0 [0, 1]).length = 2 := rfl
   refine V.r0 jhS ?_
   refine .inl ?_
   (conv => whnf)
   refine ⟨0, _, _, ⟨Tryz.func123, rfl, rfl, jia rfl⟩, ?_⟩
   refine V.r0 jhS ?_
   refine ⟨(V.tk [0,1,2,3,4,5,6,7,8] (.ev (.cons 9 [] (V.tk [10,11,12,13] (V.e1 14 [13,12,11,10] (V.tk [15] (V.e1 16 [13] (V.tk [17] .done))))) (.cons 14 [8,7,6,5,4,3,2,1,0] (V.e1 9 [] (V.tk [10,11,12,13,15] (V.e1 16 [13] (V.tk [17] .done)))) .nil)))), [], V.pok, ?_⟩
   refine jab [(8, .box 118 0), (7, .int .i64 b0), (9, .int .i64 0)] [(118, .box [.str (R 0).1, .str (R 0).2])] ?_ ?_
   ·exact V.d1 jhS sp0
   refine V.r0 jhS ?_
   refine ⟨(V.tk [0,1,2,3,4,5,6,7,8] (V.e1 9 [7,5,4,3] (V.tk [10] (V.e1 11 [] .done)))), [], V.pok, ?_⟩
   refine jab [] [(17, .arr .i64 (preZ 1 [b0, b1])), (20, .arr .i64 (preZ 1 [0, 1]))] ?_ ?_
   ·exact V.d0 jhS
   refine V.r0 jhS ?_
   exact ⟨1, by omega, by omega, V.wk⟩
  ·simp only [k1]
   have q1 : (preZ 1 [b0, b1]).length = 2 := rfl
   have q2 : (preZ 1 [0, 1]).length = 2 := rfl
   refine V.r0 jhS ?_
   refine .inl ?_
   (conv => whnf)
   refine ⟨0, _, _, ⟨Tryz.func123, rfl, rfl, jia rfl⟩, ?_⟩
   refine V.r0 jhS ?_
   refine ⟨(V.tk [0,1,2,3,4,5,6,7,8] (.ev (.cons 9 [] (V.tk [10,11,12,13] (V.e1 14 [13,12,11,10] (V.tk [15] (V.e1 16 [13] (V.tk [17] .done))))) (.cons 14 [8,7,6,5,4,3,2,1,0] (V.e1 9 [] (V.tk [10,11,12,13,15] (V.e1 16 [13] (V.tk [17] .done)))) .nil)))), [], V.pok, ?_⟩
   refine jab [(8, .box 118 0), (7, .int .i64 b1), (9, .int .i64 0)] [(118, .box [.str (R 1).1, .str (R 1).2])] ?_ ?_
   ·exact V.d1 jhS sp1
   refine V.r0 jhS ?_
   refine ⟨(V.tk [0,1,2,3,4,5,6,7,8] (V.e1 9 [7,5,4,3] (V.tk [10] (V.e1 11 [] .done)))), [], V.pok, ?_⟩
   refine jab [] [(17, .arr .i64 (preZ 2 [b0, b1])), (20, .arr .i64 (preZ 2 [0, 1]))] ?_ ?_
   ·exact V.d0 jhS
   refine V.r0 jhS ?_
   exact ⟨2, by omega, by omega, V.wk⟩
  ·simp only [k2]
   (conv => whnf)
   repeat ((fail_if_success (with_reducible refine Cnd.split ?_)); refine V.s1 ?_; (try simp only [jif]))
   refine V.s1 ?_
   (conv => whnf)
   repeat ((fail_if_success (with_reducible refine Cnd.split ?_)); refine V.s1 ?_; (try simp only [jif]))
   refine ja7 [(7, .ref [.slf 2 2 (fun j => List.take 2 (List.drop (j * 2) [.str (R 0).1, .str (R 0).2, .str (R 1).1, .str (R 1).2]))]), (22, .any), (26, .any), (27, .any)] [(7, .gone), (88, .gone)] (CondB.mk (fun h => absurd h (by decide)) (fun _ => ?_)) ?_
   ·(conv => whnf)
    refine Wk.pub 88 ?_
    (conv => whnf)
    refine Wk.pub 7 ?_
    (conv => whnf)
    simp only [jif]
    exact V.wk
   refine V.r0 @jif ?_
   refine .inl ?_
   (conv => whnf)
   refine ⟨0, _, _, ⟨Tryz.func125, rfl, rfl, jia rfl⟩, ?_⟩
   refine V.r0 @jif ?_
   refine .inl ?_
   (conv => whnf)
   refine ⟨0, _, _, ⟨Tryz.func163, rfl, rfl, jia rfl⟩, ?_⟩
   refine V.r0 @jif ?_
   refine jac (0) (fun k => k = 0) (fun k => k) (fun k => [(7, .int .i64 0), (8, .int .i64 20)]) (fun k => []) ?_ ?_ ?_
   ·exact V.wk
   ·rfl
   intro k hk
   refine V.r0 @jif ?_
   refine .inl ?_
   (conv => whnf)
   refine ⟨0, _, _, ⟨Tryz.func193, rfl, rfl, jia rfl⟩, ?_⟩
   refine V.r0 @jif ?_
   refine jac (0) (fun k => k + 1 ≤ 2) (fun k => 2 - k) (fun k => [(8, .int .i64 ((k + 1 : Nat) : Int))]) (fun k => [(20, .arr .i64 (isoK w [0, 1] k))]) ?_ ?_ ?_
   ·exact V.wk
   ·omega
   clear hk
   intro k hk
   have hB := jgo w (n := 2) (xs := [0, 1]) ⟨rfl, fun i hi => by
    have : i = 0 ∨ i = 1 ∨ i = 2 := by omega
    rcases this with e | e | e <;> subst e <;> first | decide | omega⟩ k (by omega)
   refine V.r0 @jif ?_
   refine V.br (fun hq => ?_) (fun hq => ?_)
   ·have hk2 : k + 1 < 2 := by simp at hq; omega
    refine V.r0 @jif ?_
    refine jac ((k + 1, isoK w [0, 1] k) : Nat × List Int) (fun s => s.1 ≤ k + 1 ∧ Bel 2 s.2 ∧ insJ w s.1 s.2 = isoK w [0, 1] (k + 1)) (fun s => s.1) (fun s => [(9, .int .i64 s.1)]) (fun s => [(20, .arr .i64 s.2)]) ?_ ?_ ?_
    ·exact V.wk
    ·exact ⟨jii _, hB, rfl⟩
    rintro ⟨j, xs⟩ ⟨h1, h2, h3⟩
    dsimp only at h1 h2 h3 ⊢
    have hl := h2.1
    refine V.r0 @jif ?_
    have c1 : (decide ((j : Int) > 0) = true) → Called Tryz.prog 126 [.int .i64 (xs.getD j 0), .int .i64 (xs.getD (j - 1) 0), .ref [.slf 2 2 (fun j => List.take 2 (List.drop (j * 2) [.str (R 0).1, .str (R 0).2, .str (R 1).1, .str (R 1).2]))]] (.int .i64 (w (xs.getD j 0) (xs.getD (j - 1) 0))) := fun h => by
     have hj : (j : Int) > 0 := of_decide_eq_true h
     have g1 := h2.2 j (by omega)
     have g2 := h2.2 (j - 1) (by omega)
     have c := cm (xs.getD j 0).toNat (xs.getD (j - 1) 0).toNat (by omega) (by omega)
     rw [jig g1.1, jig g2.1] at c
     exact c
    refine ⟨(V.tk [0,1,2,3,4,5,6,7,8,9,10,11,12,13] (V.e1 14 [] (V.tk [15,16] .done))), [], V.pok, ?_⟩
    refine jab [(34, .bool (decide ((j : Int) > 0) && decide (w (xs.getD j 0) (xs.getD (j - 1) 0) < 0)))] [] ?_ ?_
    ·(conv => whnf); (try simp only [jh0])
     repeat' (first | exact V.wk | ((with_reducible refine And.intro ?_ jaB); (conv => whnf); (try simp only [jh0])) | ((with_reducible first | refine jas ?_ ?_ | refine jay ?_ ?_) <;> (conv => whnf); (try simp only [jh0])) | ((first | refine V.s1 ?_ | ((with_reducible refine jap ?_ ?_); (focus ((conv => whnf); (try simp only [jh0]); (repeat ((first | refine V.s1 ?_ | ((refine ⟨_, c1, ?_⟩); (conv => whnf))); (try simp only [jh0]))); exact ⟨rfl⟩)); (conv => whnf)) | ((try ((with_reducible refine .ext ?_); (conv => whnf); (try simp only [jh0]))); (with_reducible refine jaa (r := ?_) ?_ ?_); rotate_left; (focus (first | fail)); (conv => whnf)) | ((refine ⟨_, c1, ?_⟩); (conv => whnf))); (try simp only [jh0])) | (refine And.intro ?_ ?_ <;> (conv => whnf); (try simp only [jh0])))
    refine V.r0 @jif ?_
    refine V.br (fun hq2 => ?_) (fun hq2 => ?_)
    ·have hj : 0 < j ∧ w (xs.getD j 0) (xs.getD (j - 1) 0) < 0 := by
      rw [jh9, decide_eq_true_eq, decide_eq_true_eq] at hq2
      omega
     obtain ⟨i, rfl⟩ : ∃ i, j = i + 1 := ⟨j - 1, by omega⟩
     rw [show i + 1 - 1 = i by omega] at hj
     have hw := jer h2 (show i + 1 < 2 by omega)
     have e1 : ((i + 1 : Nat) : Int).toNat = i + 1 := by omega
     have e2 : (((i + 1 : Nat) : Int) - 1).toNat = i := by omega
     have e3 : ((i + 1 : Nat) : Int) - 1 = (i : Int) := by omega
     have e4 : (i : Int).toNat = i := by omega
     have h3' : insJ w i ((xs.set (i + 1) (xs.getD i 0)).set i (xs.getD (i + 1) 0)) = isoK w [0, 1] (k + 1) := by
      rw [← h3]
      simp only [insJ]
      rw [if_pos hj.2]
     refine V.r0 @jif ?_
     refine ⟨(V.tk [0,1,2,3,4,5,6,7,8,9,10,11,12,13,14] (V.e1 15 [4,3,2] (V.tk [16] (V.e1 17 [] .done)))), [], V.pok, ?_⟩
     refine jab [] [(20, .arr .i64 ((xs.set (i + 1) (xs.getD i 0)).set i (xs.getD (i + 1) 0)))] ?_ ?_
     ·exact V.d0 (V.a5 zX13b_2 @e1 e2 e3 e4)
     refine V.r0 (V.a2 @jif e3) ?_
     exact ⟨(i, (xs.set (i + 1) (xs.getD i 0)).set i (xs.getD (i + 1) 0)), ⟨by dsimp only; omega, hw, h3'⟩, by dsimp only; omega, V.wk⟩
    ·have hx : isoK w [0, 1] (k + 1) = xs := by
      rw [← h3]
      cases j with
      | zero => rfl
      | succ i =>
       simp only [insJ]
       rw [if_neg]
       intro h
       rw [Bool.and_eq_false_iff, decide_eq_false_iff_not, decide_eq_false_iff_not, show i + 1 - 1 = i by omega] at hq2
       omega
     refine V.r0 @jif ?_
     refine ⟨k + 1, by omega, by omega, ?_⟩
     rw [hx]
     exact V.wk
   have hk2 : k + 1 = 2 := by simp at hq; omega
   have hk3 : k = 2 - 1 := by omega
   subst hk3
   refine V.r0 @jif ?_
   refine jac (0) (fun k => k = 0) (fun k => k) (fun k => [(6, .int .i64 20)]) (fun k => []) ?_ ?_ ?_
   ·exact V.wk
   ·rfl
   clear hk
   intro k hk
   refine V.r0 @jif ?_
   obtain ⟨xs, hxs⟩ : ∃ xs, isoK w [0, 1] (2 - 1) = xs := ⟨_, rfl⟩
   rw [hxs] at hB ⊢
   have hl := hB.1
   refine V.r1 @jif io ?_
   have hr : ∀ m, m < 2 → List.take 2 (List.drop (m * 2) ([.str (R 0).1, .str (R 0).2, .str (R 1).1, .str (R 1).2] : List D)) = [.str (R m).1, .str (R m).2] := fun m hm => by
    have : m = 0 ∨ m = 1 ∨ m = 2 := by omega
    rcases this with e | e | e <;> subst e <;> first | rfl | omega
   have e0 := hr (xs.getD 0 0).toNat (by have := hB.2 0 (by omega); omega)
   have g0 := hB.2 0 (by omega)
   have sb0 := sb 0 (by omega)
   have hb0 := hBf 0 (by omega)
   rw [hxs] at sb0 hb0
   have e1 := hr (xs.getD 1 0).toNat (by have := hB.2 1 (by omega); omega)
   have g1 := hB.2 1 (by omega)
   have sb1 := sb 1 (by omega)
   have hb1 := hBf 1 (by omega)
   rw [hxs] at sb1 hb1
   have hb' : (Bf 0).1 = o0 ∧ (Bf 0).2 = o1 := by rw [hBf0]; exact ⟨rfl, rfl⟩
   refine jac 0 (fun k => k ≤ 2) (fun k => 2 - k) (fun k => [(41, .int .i64 k)]) (fun k => (9, .box [.str (Bf k).1, .str (Bf k).2]) :: (6, .box [.ints .i64 [z0, z1], .int .i64 out, .ints .i64 data, .osl 17 0 2, .osl 20 0 2, wcl k]) :: wch W k) ?_ ?_ ?_
   ·rw [hb'.1, hb'.2]
    exact V.wk
   ·exact jib _
   clear hk
   intro k hk
   have hk4 : k = 0 ∨ k = 1 ∨ k = 2 := by omega
   rcases hk4 with e | e | e
   all_goals subst e
   ·simp only [k0, wcl, wch]
    refine V.r0 jhS ?_
    refine ⟨(V.tk [0,1,2,3,4] (.ev (.cons 5 [] (V.tk [6,7,8] (V.e1 9 [8,7,6] (V.e1 10 [8] (V.tk [11] .done)))) (.cons 9 [4,3,2,1,0] (V.e1 5 [] (V.tk [6,7,8] (V.e1 10 [8] (V.tk [11] .done)))) .nil)))), [], V.pok, ?_⟩
    refine jab [(12, .box 12 0), (13, .int .i64 0)] [(12, .box [.str (W 0).1, .str (W 0).2])] ?_ ?_
    ·(conv => whnf); (try simp only [jif])
     repeat' (first | exact V.wk | ((with_reducible refine And.intro ?_ jaB); (conv => whnf); (try simp only [jif])) | ((with_reducible first | refine jas ?_ ?_ | refine jay ?_ ?_) <;> (conv => whnf); (try simp only [jif])) | ((first | refine V.s1 ?_ | ((with_reducible refine jap ?_ ?_); (focus ((conv => whnf); (try simp only [jif]); (repeat ((first | refine V.s1 ?_ | ((simp only [e0]); (conv => whnf))); (try simp only [jif]))); exact ⟨rfl⟩)); (conv => whnf)) | ((try ((with_reducible refine .ext ?_); (conv => whnf); (try simp only [jif]))); (with_reducible refine jaa (r := ?_) ?_ ?_); rotate_left; (focus (first | exact (sb0))); (conv => whnf)) | ((simp only [e0]); (conv => whnf))); (try simp only [jif])) | (refine And.intro ?_ ?_ <;> (conv => whnf); (try simp only [jif])))
    (conv => whnf)
    (try simp only [jif])
    repeat ((first | refine V.s1 ?_ | ((try ((with_reducible refine .ext ?_); (conv => whnf); (try simp only [jif]))); (with_reducible refine jaa (r := ?_) ?_ ?_); rotate_left; (focus (first | fail)); (conv => whnf)) | ((simp only [e0]); (conv => whnf))); (try simp only [jif]))
    refine ⟨1, by omega, by omega, ?_⟩
    rw [hb0]
    exact V.wk
   ·simp only [k1, wcl, wch]
    refine V.r0 jhS ?_
    refine ⟨(V.tk [0,1,2,3,4] (.ev (.cons 5 [] (V.tk [6,7,8] (V.e1 9 [8,7,6] (V.e1 10 [8] (V.tk [11] .done)))) (.cons 9 [4,3,2,1,0] (V.e1 5 [] (V.tk [6,7,8] (V.e1 10 [8] (V.tk [11] .done)))) .nil)))), [], V.pok, ?_⟩
    refine jab [(12, .box 12 0), (13, .int .i64 0)] [(12, .box [.str (W 1).1, .str (W 1).2])] ?_ ?_
    ·(conv => whnf); (try simp only [jif])
     repeat' (first | exact V.wk | ((with_reducible refine And.intro ?_ jaB); (conv => whnf); (try simp only [jif])) | ((with_reducible first | refine jas ?_ ?_ | refine jay ?_ ?_) <;> (conv => whnf); (try simp only [jif])) | ((first | refine V.s1 ?_ | ((with_reducible refine jap ?_ ?_); (focus ((conv => whnf); (try simp only [jif]); (repeat ((first | refine V.s1 ?_ | ((simp only [e1]); (conv => whnf))); (try simp only [jif]))); exact ⟨rfl⟩)); (conv => whnf)) | ((try ((with_reducible refine .ext ?_); (conv => whnf); (try simp only [jif]))); (with_reducible refine jaa (r := ?_) ?_ ?_); rotate_left; (focus (first | exact (sb1))); (conv => whnf)) | ((simp only [e1]); (conv => whnf))); (try simp only [jif])) | (refine And.intro ?_ ?_ <;> (conv => whnf); (try simp only [jif])))
    (conv => whnf)
    (try simp only [jif])
    repeat ((first | refine V.s1 ?_ | ((try ((with_reducible refine .ext ?_); (conv => whnf); (try simp only [jif]))); (with_reducible refine jaa (r := ?_) ?_ ?_); rotate_left; (focus (first | fail)); (conv => whnf)) | ((simp only [e1]); (conv => whnf))); (try simp only [jif]))
    refine ⟨2, by omega, by omega, ?_⟩
    rw [hb1]
    exact V.wk
   ·simp only [k2, wcl, wch]
    have ht : List.take 2 xs = xs := jiZ (by omega)
    refine V.r0 (V.a2 @jif ht) ?_
    rw [← hxs]
    exact Fin.of rfl
end Go.Proofs.YtgjgpdceghjajaaGreatDoor
end
