/- What some functions of the program answer at values that mean given lists, texts and numbers, each proved of the program's own code: part 38. Conditions: those that each theorem names. -/
import Derived.Test.YtgjgpdceghjajaaGreatDoorSimplexKnownH37
import Derived.Test.YtgjgpdceghjajaaGreatDoorSimplexKnownH14
set_option linter.unusedSimpArgs false
set_option linter.unusedVariables false
set_option maxHeartbeats 8000000
set_option maxRecDepth 100000
section
namespace Go.Proofs.YtgjgpdceghjajaaGreatDoor
open Go Go.V Go.Nb Go.Gr
def ndX58_8_22 : List Nd := [⟨[0, 1, 2, 4, 5, 6, 7, 8, 9, 10, 11, 12, 13, 14, 15, 16], [], .ev (.cons 0 [] (.goto 15) (.cons 1 [] (.goto 13) (.cons 4 [] (.goto 1) (.nil))))⟩, ⟨[0, 1, 2, 5, 6, 7, 8, 9, 10, 11, 12, 13, 14, 15, 16], [], .ev (.cons 0 [] (.goto 12) (.cons 1 [] (.goto 10) (.cons 5 [] (.goto 2) (.nil))))⟩, ⟨[0, 1, 2, 6, 7, 8, 9, 10, 11, 12, 13, 14, 15, 16], [], .ev (.cons 0 [] (.goto 9) (.cons 1 [] (.goto 7) (.cons 6 [] (.goto 3) (.nil))))⟩, ⟨[0, 1, 2, 7, 8, 9, 10, 11, 12, 13, 14, 15, 16], [], .ev (.cons 0 [] (.goto 6) (.cons 1 [] (.goto 4) (.nil)))⟩, ⟨[0, 2, 7, 8, 9, 10, 11, 12, 13, 14, 15, 16], [], .ev (.cons 0 [] (.take 2 (.goto 5)) (.nil))⟩, ⟨[7, 8, 9, 10, 11, 12, 13, 14, 15, 16], [2], .ev (.cons 7 [] (.take 8 (.take 9 (.take 10 (.take 11 (.take 12 (.take 13 (.take 14 (.take 15 (.take 16 (.done)))))))))) (.nil))⟩, ⟨[1, 2, 7, 8, 9, 10, 11, 12, 13, 14, 15, 16], [], .ev (.cons 1 [] (.take 2 (.goto 5)) (.nil))⟩, ⟨[0, 2, 6, 7, 8, 9, 10, 11, 12, 13, 14, 15, 16], [], .ev (.cons 0 [] (.take 2 (.goto 8)) (.cons 6 [] (.goto 4) (.nil)))⟩, ⟨[6, 7, 8, 9, 10, 11, 12, 13, 14, 15, 16], [2], .ev (.cons 6 [2] (.goto 5) (.nil))⟩, ⟨[1, 2, 6, 7, 8, 9, 10, 11, 12, 13, 14, 15, 16], [], .ev (.cons 1 [] (.take 2 (.goto 8)) (.cons 6 [] (.goto 6) (.nil)))⟩, ⟨[0, 2, 5, 6, 7, 8, 9, 10, 11, 12, 13, 14, 15, 16], [], .ev (.cons 0 [] (.take 2 (.goto 11)) (.cons 5 [] (.goto 7) (.nil)))⟩, ⟨[5, 6, 7, 8, 9, 10, 11, 12, 13, 14, 15, 16], [2], .ev (.cons 5 [2] (.goto 8) (.nil))⟩, ⟨[1, 2, 5, 6, 7, 8, 9, 10, 11, 12, 13, 14, 15, 16], [], .ev (.cons 1 [] (.take 2 (.goto 11)) (.cons 5 [] (.goto 9) (.nil)))⟩, ⟨[0, 2, 4, 5, 6, 7, 8, 9, 10, 11, 12, 13, 14, 15, 16], [], .ev (.cons 0 [] (.take 2 (.goto 14)) (.cons 4 [] (.goto 10) (.nil)))⟩, ⟨[4, 5, 6, 7, 8, 9, 10, 11, 12, 13, 14, 15, 16], [2], .ev (.cons 4 [2] (.goto 11) (.nil))⟩, ⟨[1, 2, 4, 5, 6, 7, 8, 9, 10, 11, 12, 13, 14, 15, 16], [], .ev (.cons 1 [] (.take 2 (.goto 14)) (.cons 4 [] (.goto 12) (.nil)))⟩, ⟨[0, 2, 3, 4, 5, 6, 7, 8, 9, 10, 11, 12, 13, 14, 15, 16], [], .ev (.cons 0 [] (.take 2 (.goto 17)) (.cons 3 [] (.goto 13) (.nil)))⟩, ⟨[3, 4, 5, 6, 7, 8, 9, 10, 11, 12, 13, 14, 15, 16], [2], .ev (.cons 3 [2] (.goto 14) (.nil))⟩, ⟨[1, 2, 3, 4, 5, 6, 7, 8, 9, 10, 11, 12, 13, 14, 15, 16], [], .ev (.cons 1 [] (.take 2 (.goto 17)) (.cons 3 [] (.goto 15) (.nil)))⟩]
theorem jhn : type_of% @List.drop_zero.{0} ∧ type_of% @List.take_succ_cons.{0} ∧ type_of% @List.take_zero.{0} ∧ type_of% @jhC ∧ type_of% @tn0 ∧ type_of% @tn1 ∧ type_of% @tn2 ∧ type_of% @tn3 ∧ type_of% @xt4 := ⟨@List.drop_zero.{0}, @List.take_succ_cons.{0}, @List.take_zero.{0}, @jhC, @tn0, @tn1, @tn2, @tn3, @xt4⟩
theorem known_t (Q : Nat → Tx) (RD : List Int)
  (wk : Called Tryz.prog 10 [] (.bool true))
  (fo : Called Tryz.prog 31 [] (.agg [.ints .i64 [2, 2], .int .i64 1, .ints .i64 [0, 13107, 26214, 65535]]))
  (o0 : Called Tryz.prog 18 [.int .i64 1, .int .i64 2] (.agg [.str (Q 0).1, .str (Q 0).2]))
  (o1 : Called Tryz.prog 18 [.int .i64 1, .int .i64 4] (.agg [.str (Q 1).1, .str (Q 1).2]))
  (o4 : Called Tryz.prog 18 [.int .i64 1, .int .i64 1] (.agg [.str (Q 4).1, .str (Q 4).2]))
  (o5 : Called Tryz.prog 18 [.int .i64 0, .int .i64 1] (.agg [.str (Q 5).1, .str (Q 5).2]))
  (cb : Called Tryz.prog 17 [.agg [.ints .i64 [2, 2], .int .i64 2, .ints .i64 [0, 13107, 26214, 65535]], .nil] (.tup [.nil, .nil, .nil, .int .i64 100]))
  (el : Called Tryz.prog 15 [.agg [.ints .i64 [2, 2], .int .i64 1, .ints .i64 [0, 13107, 26214, 65535]], .slf 2 1 (fun j => List.take 2 (List.drop (j * 2) [.str [], .str []]))] (.tup [.nil, .int .i64 2]))
  (ef : Called Tryz.prog 15 [.agg [.ints .i64 [2, 2], .int .i64 1, .ints .i64 [0, 13107, 26214, 65535]], .slf 2 2 (fun j => List.take 2 (List.drop (j * 2) [.str (Q 4).1, .str (Q 4).2, .str [], .str []]))] (.tup [.nil, .int .i64 20]))
  (bb : Called Tryz.prog 29 [.agg [.ints .i64 [2, 2], .int .i64 2, .ints .i64 [0, 13107, 26214, 65535]], .nil] (.tup [.nil, .int .i64 100]))
  (bl : Called Tryz.prog 29 [.agg [.ints .i64 [2, 2], .int .i64 1, .ints .i64 [0, 13107, 26214, 65535]], .slf 2 1 (fun j => List.take 2 (List.drop (j * 2) [.int .i64 1, .int .i64 0]))] (.tup [.nil, .int .i64 2]))
  (bn : Called Tryz.prog 29 [.agg [.ints .i64 [2, 2], .int .i64 1, .ints .i64 [0, 13107, 26214, 65535]], .slf 2 2 (fun j => List.take 2 (List.drop (j * 2) [.int .i64 0, .int .i64 0, .int .i64 1, .int .i64 0]))] (.tup [.nil, .int .i64 30]))
  (sb : Called Tryz.prog 32 [.agg [.ints .i64 [2, 2], .int .i64 2, .ints .i64 [0, 13107, 26214, 65535]]] (.tup [.nil, .int .i64 100]))
  (rb : Called Tryz.prog 33 [.agg [.ints .i64 [2, 2], .int .i64 2, .ints .i64 [0, 13107, 26214, 65535]], .nil] (.tup [.agg [.nil, .int .i64 0, .nil], .int .i64 100]))
  (r1 : Called Tryz.prog 33 [.agg [.ints .i64 [2, 2], .int .i64 1, .ints .i64 [0, 13107, 26214, 65535]], .ints .i64 [2, 10]] (.tup [.agg [.nil, .int .i64 0, .nil], .int .i64 2]))
  (r2 : Called Tryz.prog 33 [.agg [.ints .i64 [2, 2], .int .i64 1, .ints .i64 [0, 13107, 26214, 65535]], .ints .i64 [1, 2]] (.tup [.agg [.nil, .int .i64 0, .nil], .int .i64 2]))
  (rw' : Called Tryz.prog 33 [.agg [.ints .i64 [2, 2, 2], .int .i64 4, .ints .i64 [0, 0, 0, 0, 0, 0, 0, 0, 0, 0, 0, 0, 0, 0, 0, 0, 0, 0, 0, 0, 0, 0, 0, 0, 0, 0, 0, 0, 0, 0, 0, 0]], .ints .i64 [9, 9, 9]] (.tup [.agg [.ints .i64 [9, 9, 9], .int .i64 4, .ints .i64 RD], .int .i64 0]))
  (rh : Called Tryz.prog 33 [.agg [.ints .i64 [2, 2, 2, 2], .int .i64 1, .ints .i64 [0, 0, 0, 0, 0, 0, 0, 0, 0, 0, 0, 0, 0, 0, 0, 0]], .ints .i64 [9, 9, 9, 9]] (.tup [.agg [.nil, .int .i64 0, .nil], .int .i64 3]))
  (c3 : Called Tryz.prog 17 [.agg [.ints .i64 [3, 3, 2], .int .i64 1, .ints .i64 [0, 0, 0, 0, 0, 0, 0, 0, 0, 0, 0, 0, 0, 0, 0, 0, 0, 0]], .slf 2 3 (fun j => List.take 2 (List.drop (j * 2) [.str (Q 1).1, .str (Q 1).2, .str (Q 4).1, .str (Q 4).2, .str (Q 0).1, .str (Q 0).2]))] (.tup [.ints .i64 [0, 1, 0], .ints .i64 [1, 0, 2], .slf 2 4 (fun j => List.take 2 (List.drop (j * 2) [.str (Q 5).1, .str (Q 5).2, .str (Q 0).1, .str (Q 0).2, .str (Q 5).1, .str (Q 5).2, .str (Q 0).1, .str (Q 0).2])), .int .i64 0]))
  (ba : Called Tryz.prog 29 [.agg [.ints .i64 [2, 2], .int .i64 1, .ints .i64 [0, 13107, 26214, 65535]], .slf 2 2 (fun j => List.take 2 (List.drop (j * 2) [.int .i64 (-5), .int .i64 2000000000000, .int .i64 0, .int .i64 1000000000000]))] (.tup [.slf 2 1 (fun j => List.take 2 (List.drop (j * 2) [.int .i64 0, .int .i64 1000000000000])), .int .i64 0]))
  (va : Called Tryz.prog 26 [.agg [.ints .i64 [2, 2], .int .i64 1, .ints .i64 [0, 13107, 26214, 65535]], .agg [.str (Q 0).1, .str (Q 0).2], .slf 2 2 (fun j => List.take 2 (List.drop (j * 2) [.str (Q 0).1, .str (Q 0).2, .str (Q 0).1, .str (Q 0).2]))] (.bool true)) :
  Called Tryz.prog 8 [] (.bool true) := by
 have q0 := jdu [0, 1, 0] [0, 1, 0] (by decide) (by decide)
 have q1 := jdu [1, 0, 2] [1, 0, 2] (by decide) (by decide)
 have f4 := eqf4 (fun k => if k = 0 ∨ k = 2 then Q 5 else Q 0)
 have g1 := eqb1 (fun _ => (0, 1000000000000))
 refine jaa tbOk 6 ⟨Tryz.func8, rfl, rfl, jhy rfl⟩ ?_
 (conv => whnf)
 refine V.r4 jhn wk fo cb el ?_
 refine ⟨(.take 0 (.take 2 (.ev (.cons 1 [2, 0] (.ev (.cons 3 [0] (.ev (.cons 4 [] (.take 5 (.take 6 (.take 7 (.take 8 (.take 9 (.done)))))) (.nil))) (.nil))) (.nil))))), [], ⟨by kernel_rfl, by kernel_rfl, by kernel_rfl, by kernel_rfl⟩, ?_⟩
 refine jac [(11, .int .i64 20)] [] ?_ ?_
 ·exact V.d2 jhn o4 ef
 (conv => whnf)
 (try simp only [jhn])
 repeat ((fail_if_success (with_reducible refine Cnd.split ?_)); (first | refine V.s1 ?_ | ((try ((with_reducible refine .ext ?_); (conv => whnf); (try simp only [jhn]))); (with_reducible refine jab (r := ?_) ?_ ?_); rotate_left; (focus (first | exact bb | exact bl | exact bn | exact sb | exact rb | exact r1 | exact r2 | exact rw' | exact rh)); (conv => whnf))); (try simp only [jhn]))
 refine V.cnd_to [(1, .box 1 0)] [(1, .box [.ints .i64 [2, 2], .int .i64 1, .ints .i64 [0, 13107, 26214, 65535]])] (CondB.mk (fun h => absurd h (by decide)) (fun _ => ?_)) ?_
 ·(conv => whnf)
  exact V.wk
 refine V.r0 jhn ?_
 refine ⟨(.ev (.cons 0 [] (.goto 18) (.cons 1 [] (.goto 16) (.cons 3 [] (.goto 0) (.nil))))), ndX58_8_22, ⟨by kernel_rfl, by kernel_rfl, by kernel_rfl, by kernel_rfl⟩, ?_⟩
 refine dag_meet [(32, .ints .i64 [0, 1, 0]), (33, .ints .i64 [1, 0, 2]), (34, .slf 2 4 (fun j => List.take 2 (List.drop (j * 2) [.str (Q 5).1, .str (Q 5).2, .str (Q 0).1, .str (Q 0).2, .str (Q 5).1, .str (Q 5).2, .str (Q 0).1, .str (Q 0).2]))), (35, .int .i64 0)] [] [(0, [(175, .osl 175 0 3)], [(175, .arr .i64 [3, 3, 2])]), (1, [(176, .osl 176 0 18)], [(176, .arr .i64 [0, 0, 0, 0, 0, 0, 0, 0, 0, 0, 0, 0, 0, 0, 0, 0, 0, 0])]), (2, [(177, .agg [.osl 175 0 3, .int .i64 1, .osl 176 0 18])], []), (3, [(178, .agg [.str (Q 1).1, .str (Q 1).2])], []), (4, [(179, .agg [.str (Q 4).1, .str (Q 4).2])], []), (5, [(180, .agg [.str (Q 0).1, .str (Q 0).2])], []), (6, [(181, .bsl 181 0 3 2)], [(181, .box [.str (Q 1).1, .str (Q 1).2, .str (Q 4).1, .str (Q 4).2, .str (Q 0).1, .str (Q 0).2])]), (7, [(182, .tup [.ints .i64 [0, 1, 0], .ints .i64 [1, 0, 2], .slf 2 4 (fun j => List.take 2 (List.drop (j * 2) [.str (Q 5).1, .str (Q 5).2, .str (Q 0).1, .str (Q 0).2, .str (Q 5).1, .str (Q 5).2, .str (Q 0).1, .str (Q 0).2])), .int .i64 0]), (175, .any), (176, .any), (177, .any), (181, .any)], [(175, .gone), (176, .gone), (181, .gone)]), (8, [(174, .tup [.ints .i64 [0, 1, 0], .ints .i64 [1, 0, 2], .slf 2 4 (fun j => List.take 2 (List.drop (j * 2) [.str (Q 5).1, .str (Q 5).2, .str (Q 0).1, .str (Q 0).2, .str (Q 5).1, .str (Q 5).2, .str (Q 0).1, .str (Q 0).2])), .int .i64 0])], []), (9, [(183, .ints .i64 [0, 1, 0])], []), (10, [(184, .ints .i64 [1, 0, 2])], []), (11, [(185, .slf 2 4 (fun j => List.take 2 (List.drop (j * 2) [.str (Q 5).1, .str (Q 5).2, .str (Q 0).1, .str (Q 0).2, .str (Q 5).1, .str (Q 5).2, .str (Q 0).1, .str (Q 0).2])))], []), (12, [(186, .int .i64 0)], []), (13, [(32, .ints .i64 [0, 1, 0])], []), (14, [(33, .ints .i64 [1, 0, 2])], []), (15, [(34, .slf 2 4 (fun j => List.take 2 (List.drop (j * 2) [.str (Q 5).1, .str (Q 5).2, .str (Q 0).1, .str (Q 0).2, .str (Q 5).1, .str (Q 5).2, .str (Q 0).1, .str (Q 0).2])))], []), (16, [(35, .int .i64 0)], [])] ?_ ?_ ?_
 ·exact V.d4 jhn o0 o1 o4 c3
 ·exact V.d4 jhn o0 o1 o4 c3
 refine V.r1 jhn ba ?_
 refine ⟨(.take 0 (.take 1 (.take 2 (.take 3 (.ev (.cons 4 [3] (.ev (.cons 5 [] (.take 6 (.take 7 (.take 8 (.ev (.cons 9 [8] (.ev (.cons 10 [] (.take 11 (.take 12 (.take 13 (.ev (.cons 14 [13] (.ev (.cons 15 [13] (.ev (.cons 16 [13] (.ev (.cons 17 [13] (.ev (.cons 18 [13] (.ev (.cons 19 [] (.take 20 (.take 21 (.take 22 (.take 23 (.take 24 (.take 25 (.take 26 (.take 27 (.ev (.cons 28 [26] (.ev (.cons 29 [] (.take 30 (.take 31 (.take 32 (.ev (.cons 33 [32] (.ev (.cons 34 [32] (.ev (.cons 35 [32] (.ev (.cons 36 [32] (.ev (.cons 37 [] (.take 38 (.take 39 (.done))) (.nil))) (.nil))) (.nil))) (.nil))) (.nil)))))) (.nil))) (.nil))))))))))) (.nil))) (.nil))) (.nil))) (.nil))) (.nil))) (.nil)))))) (.nil))) (.nil)))))) (.nil))) (.nil))))))), [], ⟨by kernel_rfl, by kernel_rfl, by kernel_rfl, by kernel_rfl⟩, ?_⟩
 refine jac [(0, .bool true)] [] ?_ ?_
 ·exact V.d7 jhn o0 o5 q0 q1 f4 g1 va
 refine V.r0 jhn ?_
 exact Fin.of rfl
def knQ : Nat → Rat
 | 0 => Rat.divInt 1 2
 | 1 => Rat.divInt 1 4
 | 4 => Rat.divInt 1 1
 | _ => Rat.divInt 0 1
theorem fq1_2 : Fq 40 (Rat.divInt 1 2) := ⟨by decide +kernel, by decide +kernel⟩
theorem fq1_4 : Fq 40 (Rat.divInt 1 4) := ⟨by decide +kernel, by decide +kernel⟩
theorem fq1_1 : Fq 40 (Rat.divInt 1 1) := ⟨by decide +kernel, by decide +kernel⟩
theorem four_bad : jan [2, 2] 2 [0, 13107, 26214, 65535] = false := by decide +kernel
theorem ck_bad : Called Tryz.prog 37 [gridD [2, 2] 2 [0, 13107, 26214, 65535]] (.int .i64 100) := Called.cast (jch [2, 2] 2 [0, 13107, 26214, 65535] (by decide) (by decide)) (by rw [four_bad]; first | done | rfl)
theorem jg7 : Called Tryz.prog 37 [gridD [2, 2] 1 [0, 13107, 26214, 65535]] (.int .i64 0) := Called.cast (jch [2, 2] 1 [0, 13107, 26214, 65535] (by decide) (by decide)) (by rw [jcv]; first | done | rfl)
theorem rg_bad : Called Tryz.prog 25 [gridD [2, 2] 2 [0, 13107, 26214, 65535]] (.tup [.ints .i64 [], .ints .i64 [], .int .i64 100]) := Called.cast (range_c [2, 2] 2 [0, 13107, 26214, 65535] (by decide) (by decide)) (by rw [four_bad]; rfl)
theorem none_bad : Called Tryz.prog 78 [.agg [.str [], .str []]] (.int .i64 20) := Called.cast (fcheck_c [] [] (by decide) (by decide)) (by rw [show okP [] [] = false from by decide +kernel]; rfl)
def knX (i : Nat) : Int × Int := if i = 0 then (0, 0) else (1, 0)
theorem clamp_bad : Called Tryz.prog 57 [.agg [.int .i64 1, .int .i64 0], .int .i64 0, .int .i64 1000000000000] (.tup [.agg [.int .i64 0, .int .i64 0], .int .i64 30]) := by
 have c := clamp_b 1 0 0 1000000000000
 rw [if_neg (by decide)] at c
 exact c
theorem huge_ok : jan [2, 2, 2, 2] 1 [0, 0, 0, 0, 0, 0, 0, 0, 0, 0, 0, 0, 0, 0, 0, 0] = true := by decide +kernel
theorem wide_ok : jan [2, 2, 2] 4 [0, 0, 0, 0, 0, 0, 0, 0, 0, 0, 0, 0, 0, 0, 0, 0, 0, 0, 0, 0, 0, 0, 0, 0, 0, 0, 0, 0, 0, 0, 0, 0] = true := by decide +kernel
theorem ties_ok : jan [3, 3, 2] 1 [0, 0, 0, 0, 0, 0, 0, 0, 0, 0, 0, 0, 0, 0, 0, 0, 0, 0] = true := by decide +kernel
theorem kn_ties : Called Tryz.prog 17 [gridD [3, 3, 2] 1 [0, 0, 0, 0, 0, 0, 0, 0, 0, 0, 0, 0, 0, 0, 0, 0, 0, 0], slQ (fun i => txq (rqN (Rat.divInt 1 4) (Rat.divInt 1 1) (Rat.divInt 1 2) i)) 3] (.tup [.ints .i64 [0, 1, 0], .ints .i64 [1, 0, 2], .slf 2 4 (fun j => List.take 2 (List.drop (j * 2) [.str (txq (Rat.divInt 0 1)).1, .str (txq (Rat.divInt 0 1)).2, .str (txq (Rat.divInt 1 2)).1, .str (txq (Rat.divInt 1 2)).2, .str (txq (Rat.divInt 0 1)).1, .str (txq (Rat.divInt 0 1)).2, .str (txq (Rat.divInt 1 2)).1, .str (txq (Rat.divInt 1 2)).2])), .int .i64 0]) := by
 have c := cellq3 ties_ok fq1_4 fq1_1 fq1_2
 have e0 : spB 3 (Rat.divInt 1 4) = 0 := by decide +kernel
 have e1 : spB 3 (Rat.divInt 1 1) = 1 := by decide +kernel
 have e2 : spB 2 (Rat.divInt 1 2) = 0 := by decide +kernel
 have e3 : ord3 (spR 3 (Rat.divInt 1 4)) (spR 3 (Rat.divInt 1 1)) (spR 2 (Rat.divInt 1 2)) = [1, 0, 2] := by decide +kernel
 rw [e0, e1, e2, e3] at c
 have w0 : wqN (rqN (spR 3 (Rat.divInt 1 4)) (spR 3 (Rat.divInt 1 1)) (spR 2 (Rat.divInt 1 2))) [1, 0, 2] 3 0 = Rat.divInt 0 1 := by decide +kernel
 have w1 : wqN (rqN (spR 3 (Rat.divInt 1 4)) (spR 3 (Rat.divInt 1 1)) (spR 2 (Rat.divInt 1 2))) [1, 0, 2] 3 1 = Rat.divInt 1 2 := by decide +kernel
 have w2 : wqN (rqN (spR 3 (Rat.divInt 1 4)) (spR 3 (Rat.divInt 1 1)) (spR 2 (Rat.divInt 1 2))) [1, 0, 2] 3 2 = Rat.divInt 0 1 := by decide +kernel
 have w3 : wqN (rqN (spR 3 (Rat.divInt 1 4)) (spR 3 (Rat.divInt 1 1)) (spR 2 (Rat.divInt 1 2))) [1, 0, 2] 3 3 = Rat.divInt 1 2 := by decide +kernel
 have hw : wce (fun k => txq (wqN (rqN (spR 3 (Rat.divInt 1 4)) (spR 3 (Rat.divInt 1 1)) (spR 2 (Rat.divInt 1 2))) [1, 0, 2] 3 k)) 4 = [.str (txq (Rat.divInt 0 1)).1, .str (txq (Rat.divInt 0 1)).2, .str (txq (Rat.divInt 1 2)).1, .str (txq (Rat.divInt 1 2)).2, .str (txq (Rat.divInt 0 1)).1, .str (txq (Rat.divInt 0 1)).2, .str (txq (Rat.divInt 1 2)).1, .str (txq (Rat.divInt 1 2)).2] := by
  simp only [wce, w0, w1, w2, w3]
  rfl
 unfold slQ at c
 rw [hw] at c
 exact c
theorem known_c : Called Tryz.prog 8 [] (.bool true) := by
 have rg := range_q jcv (by decide)
 have lf := loc_frac [2, 2] [0, 13107, 26214, 65535] 1 (txq (Rat.divInt 1 1)).1 (txq (Rat.divInt 1 1)).2 [] [] rfl jg7 (jcG fq1_1 (by decide)) none_bad
 have li := list2_err (F := 56) (0, 0) (jgh knX (0, 0) (jg6 (b := (0, 0)) (by decide))) (bands1_err knX clamp_bad)
 have ckh := Called.cast (jch [2, 2, 2, 2] 1 [0, 0, 0, 0, 0, 0, 0, 0, 0, 0, 0, 0, 0, 0, 0, 0] (by decide) (by decide)) (r' := .int .i64 0) (by rw [huge_ok]; first | done | rfl)
 exact known_t (fun k => txq (knQ k)) _ wakes_c lfour_c (lof_c (by omega) (by omega)) (lof_c (by omega) (by omega)) (lof_c (by omega) (by omega)) (lof_c (by omega) (by omega))
  (cell_bad _ _ _ ck_bad) (wk_len _) (eval_e _ _ _ 20 (by decide) 2 _ lf) (bands_bad _ _ _ _ _ rg_bad) (bands_len _ _ _ _ _ 1 _ (by decide) rg) (bands_list _ _ _ _ _ knX rfl rg li)
  (steep_bad _ _ _ ck_bad) (refine_bad _ _ _ ck_bad) (jfU _ _ _ rfl (by decide) jg7) (jfV _ _ _ rfl jg7) (refq3 wide_ok [9, 9, 9] rfl (by decide) (by decide)) (jgw _ _ _ rfl rfl ckh)
  kn_ties (jfd (by decide +kernel) (by decide +kernel)) (wk_ev (y := Rat.divInt 1 2) fq1_2 fq1_2 (by decide +kernel))
end Go.Proofs.YtgjgpdceghjajaaGreatDoor
end
