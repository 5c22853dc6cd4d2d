/- What some functions of the program answer at values that mean given lists, texts and numbers, each proved of the program's own code: part 6. Conditions: those that each theorem names. -/
import Derived.Test.YtlcaefokcnohnaaDoorH5
set_option linter.unusedSimpArgs false
set_option linter.unusedVariables false
set_option maxHeartbeats 8000000
set_option maxRecDepth 100000
section
namespace Go.Proofs.YtlcaefokcnohnaaDoor
open Go Go.V Go.Nb
def foldL : List Int := [0, 0, 0, 0, 0, 60000, 0, 60000, 0, 0, 60000, 60000, 60000, 0, 0, 60000, 0, 60000, 60000, 60000, 0, 60000, 60000, 60000, 0, 0, 0, 0, 0, 60000, 0, 60000, 0, 0, 60000, 60000]
def halfL : List Int := [0, 0, 0, 0, 0, 60000, 0, 60000, 0, 0, 60000, 60000, 0, 0, 0, 0, 0, 60000, 0, 60000, 0, 0, 60000, 60000, 60000, 0, 0, 60000, 0, 60000, 60000, 60000, 0, 60000, 60000, 60000]
def turnL : List Int := [0, 0, 0, 0, 0, 65535, 65535, 0, 0, 65535, 0, 65535, 0, 65535, 0, 0, 65535, 65535, 65535, 65535, 0, 65535, 65535, 65535]
def foldK (k : Nat) : List Int := foldL.take (3 * k)
def halfK (k : Nat) : List Int := halfL.take (3 * k)
def turnK : Nat → List Int
  | 0 => [0, 0, 0, 0, 0, 65535, 0, 65535, 0, 0, 65535, 65535, 65535, 0, 0, 65535, 0, 65535, 65535, 65535, 0, 65535, 65535, 65535]
  | 1 => [0, 0, 0, 0, 0, 65535, 0, 65535, 0, 0, 65535, 65535, 65535, 0, 0, 65535, 0, 65535, 65535, 65535, 0, 65535, 65535, 65535]
  | 2 => [0, 0, 0, 0, 0, 65535, 0, 65535, 0, 0, 65535, 65535, 65535, 0, 0, 65535, 0, 65535, 65535, 65535, 0, 65535, 65535, 65535]
  | 3 => [0, 0, 0, 0, 0, 65535, 65535, 0, 0, 0, 65535, 65535, 65535, 0, 0, 65535, 0, 65535, 65535, 65535, 0, 65535, 65535, 65535]
  | 4 => [0, 0, 0, 0, 0, 65535, 65535, 0, 0, 65535, 0, 65535, 65535, 0, 0, 65535, 0, 65535, 65535, 65535, 0, 65535, 65535, 65535]
  | 5 => [0, 0, 0, 0, 0, 65535, 65535, 0, 0, 65535, 0, 65535, 0, 65535, 0, 65535, 0, 65535, 65535, 65535, 0, 65535, 65535, 65535]
  | 6 => [0, 0, 0, 0, 0, 65535, 65535, 0, 0, 65535, 0, 65535, 0, 65535, 0, 0, 65535, 65535, 65535, 65535, 0, 65535, 65535, 65535]
  | 7 => [0, 0, 0, 0, 0, 65535, 65535, 0, 0, 65535, 0, 65535, 0, 65535, 0, 0, 65535, 65535, 65535, 65535, 0, 65535, 65535, 65535]
  | _ => turnL
theorem k9 : ((9 : Nat) : Int) = 9 := rfl
theorem k10 : ((10 : Nat) : Int) = 10 := rfl
theorem k11 : ((11 : Nat) : Int) = 11 := rfl
theorem k12 : ((12 : Nat) : Int) = 12 := rfl
theorem kn_fold : locR (sz3 3 2 2) 3 foldL (v3L (30000, 10000, 20000)) = .tup [.slf 2 3 (frF (Rat.divInt 1 4) (Rat.divInt 1 6) (Rat.divInt 1 3)), .int .i64 (1 : Nat), .int .i64 0] :=
  ex_some (a := 36000000000000) (b := 36000000000000) (e := 36000000000000) (d := 216000000000000) (by decide +kernel) (by decide +kernel) (by decide +kernel) (by decide +kernel) (by decide +kernel) (by decide +kernel)
theorem kn_half : locR (sz3 3 2 2) 3 halfL (v3L (0, 30000, 0)) = .tup [.slf 2 3 (frF (Rat.divInt 1 2) (Rat.divInt 1 2) (Rat.divInt 0 1)), .int .i64 (8 : Nat), .int .i64 0] :=
  ex_some (a := 108000000000000) (b := 0) (e := 0) (d := 216000000000000) (by decide +kernel) (by decide +kernel) (by decide +kernel) (by decide +kernel) (by decide +kernel) (by decide +kernel)
theorem kn_t1 : locR (sz3 2 2 2) 3 turnL (v3L (65535, 65535, 65535)) = .tup [.slf 2 3 (frF (Rat.divInt 1 1) (Rat.divInt 1 1) (Rat.divInt 1 1)), .int .i64 (0 : Nat), .int .i64 0] :=
  ex_some (a := 0) (b := 0) (e := 281462092005375) (d := 281462092005375) (by decide +kernel) (by decide +kernel) (by decide +kernel) (by decide +kernel) (by decide +kernel) (by decide +kernel)
theorem kn_t2 : locR (sz3 2 2 2) 3 turnL (v3L (13107, 26214, 39321)) = .tup [.slf 2 3 (frF (Rat.divInt 2 5) (Rat.divInt 1 5) (Rat.divInt 3 5)), .int .i64 (4 : Nat), .int .i64 0] :=
  ex_some (a := 56292418401075) (b := 56292418401075) (e := 56292418401075) (d := 281462092005375) (by decide +kernel) (by decide +kernel) (by decide +kernel) (by decide +kernel) (by decide +kernel) (by decide +kernel)
theorem kn_a : locR [] 0 [] [] = .tup [.nil, .int .i64 0, .int .i64 100] := by
  have h : chk [] 0 [] [] = 100 := by decide +kernel
  rw [locR_no (by rw [h]; decide), h]
theorem kn_b : hdsR [2, 2] 3 (List.replicate 12 0) [0, 0, 0] = .tup [.int .i64 0, .int .i64 2] := by
  have h : chk [2, 2] 3 (List.replicate 12 0) [0, 0, 0] = 2 := by decide +kernel
  rw [hdsR_no (by rw [h]; decide), h]
theorem kn_c : hdsR (sz3 2 2 2) 3 cubeL [0, -1, 0] = .tup [.int .i64 0, .int .i64 2] := by
  have h : chk (sz3 2 2 2) 3 cubeL [0, -1, 0] = 2 := by decide +kernel
  rw [hdsR_no (by rw [h]; decide), h]
theorem kn_d : locR [2, 2, 2] 2 (List.replicate 16 0) [0, 0, 0] = .tup [.nil, .int .i64 0, .int .i64 2] := by
  have h : chk [2, 2, 2] 2 (List.replicate 16 0) [0, 0, 0] = 2 := by decide +kernel
  rw [locR_no (by rw [h]; decide), h]
theorem kn_n : hdsR (sz3 3 2 2) 3 foldL [30000, 10000, 20000] = .tup [.int .i64 2, .int .i64 0] := by
  have h := hdsR_ok (s0 := 3) (s1 := 2) (s2 := 2) (data := foldL) (t := (30000, 10000, 20000)) (by decide +kernel)
  have e : cntN foldL 2 2 (6 * cellsN 3 2 2) (30000, 10000, 20000) = 2 := by decide +kernel
  rw [e] at h
  exact h
theorem den_nil_ints {E : Env} {h : Pub} {v : Value} (H : Den E h .nil v) : Den E h (.ints .i64 []) v := by
  simp only [Den] at H ⊢
  subst H
  exact ⟨none, 0, rfl, Nat.le_refl _, Nat.zero_le _, fun _ h => absurd h (by simp), rfl, rfl⟩
theorem zU32_0 : type_of% @List.cons_append.{0} ∧ type_of% @List.drop_zero.{0} ∧ type_of% @List.length_cons.{0} ∧ type_of% @List.length_nil.{0} ∧ type_of% @List.nil_append.{0} ∧ type_of% @List.take_succ_cons.{0} ∧ type_of% @List.take_zero.{0} ∧ type_of% @Nat.zero_add := ⟨@List.cons_append.{0}, @List.drop_zero.{0}, @List.length_cons.{0}, @List.length_nil.{0}, @List.nil_append.{0}, @List.take_succ_cons.{0}, @List.take_zero.{0}, @Nat.zero_add⟩
theorem zU32_1 : type_of% @List.drop_zero.{0} ∧ type_of% @Nat.zero_add ∧ type_of% @tn0 ∧ type_of% @tn1 ∧ type_of% @tn2 ∧ type_of% @tn3 := ⟨@List.drop_zero.{0}, @Nat.zero_add, @tn0, @tn1, @tn2, @tn3⟩
theorem zU32_2 : type_of% @List.length_set.{0} ∧ type_of% @Nat.zero_add := ⟨@List.length_set.{0}, @Nat.zero_add⟩
theorem known_c : Called Tryd.prog 3 [] (.bool true) := by
  have hworks := works_c
  have hcube := cube_c
  have f1 := finds_yes (t := (30000, 10000, 20000)) (dt' := .agg [.int .i64 30000, .int .i64 10000, .int .i64 20000]) .agg (by decide) (by decide) kn_fold
  have f2 := finds_yes (t := (0, 30000, 0)) (dt' := .agg [.int .i64 0, .int .i64 30000, .int .i64 0]) .agg (by decide) (by decide) kn_half
  have f3 := finds_yes (t := (65535, 65535, 65535)) (dt' := .agg [.int .i64 65535, .int .i64 65535, .int .i64 65535]) .agg (by decide) (by decide) kn_t1
  have f4 := finds_yes (t := (13107, 26214, 39321)) (dt' := .agg [.int .i64 13107, .int .i64 26214, .int .i64 39321]) .agg (by decide) (by decide) kn_t2
  have o14 := lawof_c 1 4 (by omega) (by omega)
  have o16 := lawof_c 1 6 (by omega) (by omega)
  have o13 := lawof_c 1 3 (by omega) (by omega)
  have o12 := lawof_c 1 2 (by omega) (by omega)
  have o01 := lawof_c 0 1 (by omega) (by omega)
  have o11 := lawof_c 1 1 (by omega) (by omega)
  have o25 := lawof_c 2 5 (by omega) (by omega)
  have o15 := lawof_c 1 5 (by omega) (by omega)
  have o35 := lawof_c 3 5 (by omega) (by omega)
  have ga := locate_c [] 0 [] [] (by decide) (by decide) (by decide)
  rw [kn_a] at ga
  have gb := holds_c [2, 2] 3 (List.replicate 12 0) [0, 0, 0] (by decide) (by decide) (by decide)
  rw [kn_b] at gb
  have gc := holds_c (sz3 2 2 2) 3 cubeL [0, -1, 0] (by decide) (by decide) (by decide)
  rw [kn_c] at gc
  have gd := locate_c [2, 2, 2] 2 (List.replicate 16 0) [0, 0, 0] (by decide) (by decide) (by decide)
  rw [kn_d] at gd
  have gn := holds_c (sz3 3 2 2) 3 foldL [30000, 10000, 20000] (by decide) (by decide) (by decide)
  rw [kn_n] at gn
  generalize Rat.divInt 1 4 = q14 at *
  generalize Rat.divInt 1 6 = q16 at *
  generalize Rat.divInt 1 3 = q13 at *
  generalize Rat.divInt 1 2 = q12 at *
  generalize Rat.divInt 0 1 = q01 at *
  generalize Rat.divInt 1 1 = q11 at *
  generalize Rat.divInt 2 5 = q25 at *
  generalize Rat.divInt 1 5 = q15 at *
  generalize Rat.divInt 3 5 = q35 at *
  unfold frF frC at f1 f2 f3 f4
  unfold frC at o14 o16 o13 o12 o01 o11 o25 o15 o35
  simp only [List.cons_append, List.nil_append] at f1 f2 f3 f4
  unfold gridD at ga gb gc gd gn hcube f1 f2 f3 f4
  have ga' : Called Tryd.prog 7 [.agg [.nil, .int .i64 0, .nil], .nil] (.tup [.nil, .int .i64 0, .int .i64 100]) := Called.conv ga fun h vs H => by
    simp only [DenL] at H ⊢
    obtain ⟨v, r, e, k1, v2, r2, e2, k2, e3⟩ := H
    refine ⟨v, r, e, ?_, v2, r2, e2, den_nil_ints k2, e3⟩
    simp only [Den, DenL] at k1
    obtain ⟨us, e4, ⟨u1, s1, e5, j1, u2, s2, e6, j2, u3, s3', e7, j3, e8⟩, k4⟩ := k1
    simp only [Den, DenL]
    exact ⟨us, e4, ⟨u1, s1, e5, den_nil_ints (E := Env.dummy) (by simp only [Den]; exact j1), u2, s2, e6, j2, u3, s3', e7, den_nil_ints (E := Env.dummy) (by simp only [Den]; exact j3), e8⟩, k4⟩
  unfold sz3 at hcube gc gn f1 f2 f3 f4
  obtain ⟨c24, hc24⟩ : ∃ c, cubeL = c := ⟨_, rfl⟩
  rw [hc24] at hcube gc
  refine called_of_run tbOk 6 ⟨Tryd.func3, rfl, rfl, Nat.le_of_ble_eq_true rfl⟩ ?_
  (conv => whnf)
  (conv => whnf)
  (try simp only [Nat.zero_add])
  repeat ((first | refine V.s1 ?_ | ((try ((with_reducible refine .ext ?_); (conv => whnf); (try simp only [Nat.zero_add]))); (with_reducible refine call_intro (r := ?_) ?_ ?_); rotate_left; (focus (first | exact (hworks) | exact (ga') | exact (gb) | exact (hcube) | exact (gc) | exact (gd))); (conv => whnf))); (try simp only [Nat.zero_add]))
  refine Lp.ghostBox 74 11 2 .i64 (by decide) (by decide) ?_
  (conv => whnf)
  refine lp_any (0) (fun k => k ≤ 12) (fun k => 12 - k) (fun k => [(57, .int .i64 k)]) (fun k => [(11, .box [.osl 55 0 3, .int .i64 3, .osl 74 0 (3 * k)]), (74, .arr .i64 (foldK k))]) ?_ ?_ ?_
  · exact V.wk
  · exact Nat.zero_le _
  intro k hk
  have hkn : k = 0 ∨ k = 1 ∨ k = 2 ∨ k = 3 ∨ k = 4 ∨ k = 5 ∨ k = 6 ∨ k = 7 ∨ k = 8 ∨ k = 9 ∨ k = 10 ∨ k = 11 ∨ k = 12 := by omega
  rcases hkn with e | e | e | e | e | e | e | e | e | e | e | e | e
  · subst e
    rw [show foldK 0 = ([] : List Int) from rfl, show 3 * 0 = 0 from rfl]
    simp only [k0]
    (conv => whnf)
    (try simp only [zU32_0])
    repeat ((first | refine V.s1 ?_); (try simp only [zU32_0]))
    refine ⟨(.take 0 (.take 1 (.take 2 (.take 3 (.take 4 (.take 5 (.take 6 (.take 7 (.take 8 (.take 9 (.take 10 (.take 11 (.take 12 (.ev (.cons 13 [1, 0] (.ev (.cons 14 [] (.take 15 (.ev (.cons 16 [] (.done) (.nil)))) (.nil))) (.nil)))))))))))))))), ⟨by kernel_rfl, by kernel_rfl, by kernel_rfl⟩, .go ?_⟩
    (conv => whnf)
    (try simp only [zU32_0])
    repeat ((first | refine V.s1 ?_); (try simp only [zU32_0]))
    try refine And.intro (fun _ => ⟨rfl, by simp⟩) ?_
    (conv => whnf)
    (try simp only [zU32_0])
    repeat ((first | refine V.s1 ?_); (try simp only [zU32_0]))
    exact ⟨1, by omega, by omega, V.wk⟩
  · subst e
    rw [show foldK 1 = [0, 0, 0] from rfl, show 3 * 1 = 3 from rfl]
    simp only [k1]
    (conv => whnf)
    (try simp only [zU32_0])
    repeat ((first | refine V.s1 ?_); (try simp only [zU32_0]))
    refine ⟨(.take 0 (.take 1 (.take 2 (.take 3 (.take 4 (.take 5 (.take 6 (.take 7 (.take 8 (.take 9 (.take 10 (.take 11 (.take 12 (.ev (.cons 13 [1, 0] (.ev (.cons 14 [] (.take 15 (.ev (.cons 16 [] (.done) (.nil)))) (.nil))) (.nil)))))))))))))))), ⟨by kernel_rfl, by kernel_rfl, by kernel_rfl⟩, .go ?_⟩
    (conv => whnf)
    (try simp only [zU32_0])
    repeat ((first | refine V.s1 ?_); (try simp only [zU32_0]))
    try refine And.intro (fun _ => ⟨rfl, by simp⟩) ?_
    (conv => whnf)
    (try simp only [zU32_0])
    repeat ((first | refine V.s1 ?_); (try simp only [zU32_0]))
    exact ⟨2, by omega, by omega, V.wk⟩
  · subst e
    rw [show foldK 2 = [0, 0, 0, 0, 0, 60000] from rfl, show 3 * 2 = 6 from rfl]
    simp only [k2]
    (conv => whnf)
    (try simp only [zU32_0])
    repeat ((first | refine V.s1 ?_); (try simp only [zU32_0]))
    refine ⟨(.take 0 (.take 1 (.take 2 (.take 3 (.take 4 (.take 5 (.take 6 (.take 7 (.take 8 (.take 9 (.take 10 (.take 11 (.take 12 (.ev (.cons 13 [1, 0] (.ev (.cons 14 [] (.take 15 (.ev (.cons 16 [] (.done) (.nil)))) (.nil))) (.nil)))))))))))))))), ⟨by kernel_rfl, by kernel_rfl, by kernel_rfl⟩, .go ?_⟩
    (conv => whnf)
    (try simp only [zU32_0])
    repeat ((first | refine V.s1 ?_); (try simp only [zU32_0]))
    try refine And.intro (fun _ => ⟨rfl, by simp⟩) ?_
    (conv => whnf)
    (try simp only [zU32_0])
    repeat ((first | refine V.s1 ?_); (try simp only [zU32_0]))
    exact ⟨3, by omega, by omega, V.wk⟩
  · subst e
    rw [show foldK 3 = [0, 0, 0, 0, 0, 60000, 0, 60000, 0] from rfl, show 3 * 3 = 9 from rfl]
    simp only [k3]
    (conv => whnf)
    (try simp only [zU32_0])
    repeat ((first | refine V.s1 ?_); (try simp only [zU32_0]))
    refine ⟨(.take 0 (.take 1 (.take 2 (.take 3 (.take 4 (.take 5 (.take 6 (.take 7 (.take 8 (.take 9 (.take 10 (.take 11 (.take 12 (.ev (.cons 13 [1, 0] (.ev (.cons 14 [] (.take 15 (.ev (.cons 16 [] (.done) (.nil)))) (.nil))) (.nil)))))))))))))))), ⟨by kernel_rfl, by kernel_rfl, by kernel_rfl⟩, .go ?_⟩
    (conv => whnf)
    (try simp only [zU32_0])
    repeat ((first | refine V.s1 ?_); (try simp only [zU32_0]))
    try refine And.intro (fun _ => ⟨rfl, by simp⟩) ?_
    (conv => whnf)
    (try simp only [zU32_0])
    repeat ((first | refine V.s1 ?_); (try simp only [zU32_0]))
    exact ⟨4, by omega, by omega, V.wk⟩
  · subst e
    rw [show foldK 4 = [0, 0, 0, 0, 0, 60000, 0, 60000, 0, 0, 60000, 60000] from rfl, show 3 * 4 = 12 from rfl]
    simp only [k4]
    (conv => whnf)
    (try simp only [zU32_0])
    repeat ((first | refine V.s1 ?_); (try simp only [zU32_0]))
    refine ⟨(.take 0 (.take 1 (.take 2 (.take 3 (.take 4 (.take 5 (.take 6 (.take 7 (.take 8 (.take 9 (.take 10 (.take 11 (.take 12 (.ev (.cons 13 [1, 0] (.ev (.cons 14 [] (.take 15 (.ev (.cons 16 [] (.done) (.nil)))) (.nil))) (.nil)))))))))))))))), ⟨by kernel_rfl, by kernel_rfl, by kernel_rfl⟩, .go ?_⟩
    (conv => whnf)
    (try simp only [zU32_0])
    repeat ((first | refine V.s1 ?_); (try simp only [zU32_0]))
    try refine And.intro (fun _ => ⟨rfl, by simp⟩) ?_
    (conv => whnf)
    (try simp only [zU32_0])
    repeat ((first | refine V.s1 ?_); (try simp only [zU32_0]))
    exact ⟨5, by omega, by omega, V.wk⟩
  · subst e
    rw [show foldK 5 = [0, 0, 0, 0, 0, 60000, 0, 60000, 0, 0, 60000, 60000, 60000, 0, 0] from rfl, show 3 * 5 = 15 from rfl]
    simp only [k5]
    (conv => whnf)
    (try simp only [zU32_0])
    repeat ((first | refine V.s1 ?_); (try simp only [zU32_0]))
    refine ⟨(.take 0 (.take 1 (.take 2 (.take 3 (.take 4 (.take 5 (.take 6 (.take 7 (.take 8 (.take 9 (.take 10 (.take 11 (.take 12 (.ev (.cons 13 [1, 0] (.ev (.cons 14 [] (.take 15 (.ev (.cons 16 [] (.done) (.nil)))) (.nil))) (.nil)))))))))))))))), ⟨by kernel_rfl, by kernel_rfl, by kernel_rfl⟩, .go ?_⟩
    (conv => whnf)
    (try simp only [zU32_0])
    repeat ((first | refine V.s1 ?_); (try simp only [zU32_0]))
    try refine And.intro (fun _ => ⟨rfl, by simp⟩) ?_
    (conv => whnf)
    (try simp only [zU32_0])
    repeat ((first | refine V.s1 ?_); (try simp only [zU32_0]))
    exact ⟨6, by omega, by omega, V.wk⟩
  · subst e
    rw [show foldK 6 = [0, 0, 0, 0, 0, 60000, 0, 60000, 0, 0, 60000, 60000, 60000, 0, 0, 60000, 0, 60000] from rfl, show 3 * 6 = 18 from rfl]
    simp only [k6]
    (conv => whnf)
    (try simp only [zU32_0])
    repeat ((first | refine V.s1 ?_); (try simp only [zU32_0]))
    refine ⟨(.take 0 (.take 1 (.take 2 (.take 3 (.take 4 (.take 5 (.take 6 (.take 7 (.take 8 (.take 9 (.take 10 (.take 11 (.take 12 (.ev (.cons 13 [1, 0] (.ev (.cons 14 [] (.take 15 (.ev (.cons 16 [] (.done) (.nil)))) (.nil))) (.nil)))))))))))))))), ⟨by kernel_rfl, by kernel_rfl, by kernel_rfl⟩, .go ?_⟩
    (conv => whnf)
    (try simp only [zU32_0])
    repeat ((first | refine V.s1 ?_); (try simp only [zU32_0]))
    try refine And.intro (fun _ => ⟨rfl, by simp⟩) ?_
    (conv => whnf)
    (try simp only [zU32_0])
    repeat ((first | refine V.s1 ?_); (try simp only [zU32_0]))
    exact ⟨7, by omega, by omega, V.wk⟩
  · subst e
    rw [show foldK 7 = [0, 0, 0, 0, 0, 60000, 0, 60000, 0, 0, 60000, 60000, 60000, 0, 0, 60000, 0, 60000, 60000, 60000, 0] from rfl, show 3 * 7 = 21 from rfl]
    simp only [k7]
    (conv => whnf)
    (try simp only [zU32_0])
    repeat ((first | refine V.s1 ?_); (try simp only [zU32_0]))
    refine ⟨(.take 0 (.take 1 (.take 2 (.take 3 (.take 4 (.take 5 (.take 6 (.take 7 (.take 8 (.take 9 (.take 10 (.take 11 (.take 12 (.ev (.cons 13 [1, 0] (.ev (.cons 14 [] (.take 15 (.ev (.cons 16 [] (.done) (.nil)))) (.nil))) (.nil)))))))))))))))), ⟨by kernel_rfl, by kernel_rfl, by kernel_rfl⟩, .go ?_⟩
    (conv => whnf)
    (try simp only [zU32_0])
    repeat ((first | refine V.s1 ?_); (try simp only [zU32_0]))
    try refine And.intro (fun _ => ⟨rfl, by simp⟩) ?_
    (conv => whnf)
    (try simp only [zU32_0])
    repeat ((first | refine V.s1 ?_); (try simp only [zU32_0]))
    exact ⟨8, by omega, by omega, V.wk⟩
  · subst e
    rw [show foldK 8 = [0, 0, 0, 0, 0, 60000, 0, 60000, 0, 0, 60000, 60000, 60000, 0, 0, 60000, 0, 60000, 60000, 60000, 0, 60000, 60000, 60000] from rfl, show 3 * 8 = 24 from rfl]
    simp only [k8]
    (conv => whnf)
    (try simp only [zU32_0])
    repeat ((first | refine V.s1 ?_); (try simp only [zU32_0]))
    refine ⟨(.take 0 (.take 1 (.take 2 (.take 3 (.take 4 (.take 5 (.take 6 (.take 7 (.take 8 (.take 9 (.take 10 (.take 11 (.take 12 (.ev (.cons 13 [1, 0] (.ev (.cons 14 [] (.take 15 (.ev (.cons 16 [] (.done) (.nil)))) (.nil))) (.nil)))))))))))))))), ⟨by kernel_rfl, by kernel_rfl, by kernel_rfl⟩, .go ?_⟩
    (conv => whnf)
    (try simp only [zU32_0])
    repeat ((first | refine V.s1 ?_); (try simp only [zU32_0]))
    try refine And.intro (fun _ => ⟨rfl, by simp⟩) ?_
    (conv => whnf)
    (try simp only [zU32_0])
    repeat ((first | refine V.s1 ?_); (try simp only [zU32_0]))
    exact ⟨9, by omega, by omega, V.wk⟩
  · subst e
    rw [show foldK 9 = [0, 0, 0, 0, 0, 60000, 0, 60000, 0, 0, 60000, 60000, 60000, 0, 0, 60000, 0, 60000, 60000, 60000, 0, 60000, 60000, 60000, 0, 0, 0] from rfl, show 3 * 9 = 27 from rfl]
    simp only [k9]
    (conv => whnf)
    (try simp only [zU32_0])
    repeat ((first | refine V.s1 ?_); (try simp only [zU32_0]))
    refine ⟨(.take 0 (.take 1 (.take 2 (.take 3 (.take 4 (.take 5 (.take 6 (.take 7 (.take 8 (.take 9 (.take 10 (.take 11 (.take 12 (.ev (.cons 13 [1, 0] (.ev (.cons 14 [] (.take 15 (.ev (.cons 16 [] (.done) (.nil)))) (.nil))) (.nil)))))))))))))))), ⟨by kernel_rfl, by kernel_rfl, by kernel_rfl⟩, .go ?_⟩
    (conv => whnf)
    (try simp only [zU32_0])
    repeat ((first | refine V.s1 ?_); (try simp only [zU32_0]))
    try refine And.intro (fun _ => ⟨rfl, by simp⟩) ?_
    (conv => whnf)
    (try simp only [zU32_0])
    repeat ((first | refine V.s1 ?_); (try simp only [zU32_0]))
    exact ⟨10, by omega, by omega, V.wk⟩
  · subst e
    rw [show foldK 10 = [0, 0, 0, 0, 0, 60000, 0, 60000, 0, 0, 60000, 60000, 60000, 0, 0, 60000, 0, 60000, 60000, 60000, 0, 60000, 60000, 60000, 0, 0, 0, 0, 0, 60000] from rfl, show 3 * 10 = 30 from rfl]
    simp only [k10]
    (conv => whnf)
    (try simp only [zU32_0])
    repeat ((first | refine V.s1 ?_); (try simp only [zU32_0]))
    refine ⟨(.take 0 (.take 1 (.take 2 (.take 3 (.take 4 (.take 5 (.take 6 (.take 7 (.take 8 (.take 9 (.take 10 (.take 11 (.take 12 (.ev (.cons 13 [1, 0] (.ev (.cons 14 [] (.take 15 (.ev (.cons 16 [] (.done) (.nil)))) (.nil))) (.nil)))))))))))))))), ⟨by kernel_rfl, by kernel_rfl, by kernel_rfl⟩, .go ?_⟩
    (conv => whnf)
    (try simp only [zU32_0])
    repeat ((first | refine V.s1 ?_); (try simp only [zU32_0]))
    try refine And.intro (fun _ => ⟨rfl, by simp⟩) ?_
    (conv => whnf)
    (try simp only [zU32_0])
    repeat ((first | refine V.s1 ?_); (try simp only [zU32_0]))
    exact ⟨11, by omega, by omega, V.wk⟩
  · subst e
    rw [show foldK 11 = [0, 0, 0, 0, 0, 60000, 0, 60000, 0, 0, 60000, 60000, 60000, 0, 0, 60000, 0, 60000, 60000, 60000, 0, 60000, 60000, 60000, 0, 0, 0, 0, 0, 60000, 0, 60000, 0] from rfl, show 3 * 11 = 33 from rfl]
    simp only [k11]
    (conv => whnf)
    (try simp only [zU32_0])
    repeat ((first | refine V.s1 ?_); (try simp only [zU32_0]))
    refine ⟨(.take 0 (.take 1 (.take 2 (.take 3 (.take 4 (.take 5 (.take 6 (.take 7 (.take 8 (.take 9 (.take 10 (.take 11 (.take 12 (.ev (.cons 13 [1, 0] (.ev (.cons 14 [] (.take 15 (.ev (.cons 16 [] (.done) (.nil)))) (.nil))) (.nil)))))))))))))))), ⟨by kernel_rfl, by kernel_rfl, by kernel_rfl⟩, .go ?_⟩
    (conv => whnf)
    (try simp only [zU32_0])
    repeat ((first | refine V.s1 ?_); (try simp only [zU32_0]))
    try refine And.intro (fun _ => ⟨rfl, by simp⟩) ?_
    (conv => whnf)
    (try simp only [zU32_0])
    repeat ((first | refine V.s1 ?_); (try simp only [zU32_0]))
    exact ⟨12, by omega, by omega, V.wk⟩
  subst e
  have tf : List.take (3 * 12) (foldK 12) = foldL := rfl
  have th : List.take (3 * 12) (halfK 12) = halfL := rfl
  have tt : List.take (3 * 8) (turnK 8) = turnL := rfl
  (conv => whnf)
  (try simp only [Nat.zero_add, k12, List.drop_zero, tf])
  repeat ((first | refine V.s1 ?_ | ((try ((with_reducible refine .ext ?_); (conv => whnf); (try simp only [Nat.zero_add, k12, List.drop_zero, tf]))); (with_reducible refine call_intro (r := ?_) ?_ ?_); rotate_left; (focus (first | exact (gn))); (conv => whnf))); (try simp only [Nat.zero_add, k12, List.drop_zero, tf]))
  refine ⟨(.take 0 (.take 1 (.ev (.cons 2 [1, 0] (.ev (.cons 3 [1, 0] (.ev (.cons 4 [1, 0] (.ev (.cons 5 [1, 0] (.ev (.cons 6 [] (.take 7 (.take 8 (.take 9 (.take 10 (.take 11 (.take 12 (.take 13 (.take 14 (.take 15 (.done)))))))))) (.nil))) (.nil))) (.nil))) (.nil))) (.nil))))), ⟨by kernel_rfl, by kernel_rfl, by kernel_rfl⟩, ?_⟩
  refine drw_meet [(15, .bool true)] [] ?_ ?_
  · (conv => whnf); (try simp only [zU32_1, tf])
    repeat' (first | exact V.wk | ((first | refine V.s1 ?_ | ((with_reducible refine recheck_and ?_ ?_); (focus ((conv => whnf); (try simp only [zU32_1, tf]); (repeat (refine V.s1 ?_; (try simp only [zU32_1, tf]))); exact ⟨rfl⟩)); (conv => whnf)) | ((try ((with_reducible refine .ext ?_); (conv => whnf); (try simp only [zU32_1, tf]))); (with_reducible refine call_intro (r := ?_) ?_ ?_); rotate_left; (focus (first | exact (o14) | exact (o16) | exact (o13) | exact (o12) | exact (o01) | exact (o11) | exact (o25) | exact (o15) | exact (o35) | exact (f1))); (conv => whnf))); (try simp only [zU32_1, tf])) | (refine And.intro ?_ ?_ <;> (conv => whnf); (try simp only [zU32_1, tf])))
  (conv => whnf)
  (try simp only [Nat.zero_add])
  repeat ((first | refine V.s1 ?_); (try simp only [Nat.zero_add]))
  refine Lp.ghostBox 117 16 2 .i64 (by decide) (by decide) ?_
  (conv => whnf)
  refine lp_any (0) (fun k => k ≤ 12) (fun k => 12 - k) (fun k => [(100, .int .i64 k)]) (fun k => [(16, .box [.osl 98 0 3, .int .i64 3, .osl 117 0 (3 * k)]), (117, .arr .i64 (halfK k))]) ?_ ?_ ?_
  · exact V.wk
  · exact Nat.zero_le _
  intro k hk
  have hkn : k = 0 ∨ k = 1 ∨ k = 2 ∨ k = 3 ∨ k = 4 ∨ k = 5 ∨ k = 6 ∨ k = 7 ∨ k = 8 ∨ k = 9 ∨ k = 10 ∨ k = 11 ∨ k = 12 := by omega
  rcases hkn with e | e | e | e | e | e | e | e | e | e | e | e | e
  · subst e
    rw [show halfK 0 = ([] : List Int) from rfl, show 3 * 0 = 0 from rfl]
    simp only [k0]
    (conv => whnf)
    (try simp only [zU32_0])
    repeat ((first | refine V.s1 ?_); (try simp only [zU32_0]))
    refine ⟨(.take 0 (.take 1 (.take 2 (.take 3 (.take 4 (.take 5 (.take 6 (.take 7 (.take 8 (.take 9 (.take 10 (.take 11 (.take 12 (.ev (.cons 13 [1, 0] (.ev (.cons 14 [] (.take 15 (.ev (.cons 16 [] (.done) (.nil)))) (.nil))) (.nil)))))))))))))))), ⟨by kernel_rfl, by kernel_rfl, by kernel_rfl⟩, .go ?_⟩
    (conv => whnf)
    (try simp only [zU32_0])
    repeat ((first | refine V.s1 ?_); (try simp only [zU32_0]))
    try refine And.intro (fun _ => ⟨rfl, by simp⟩) ?_
    (conv => whnf)
    (try simp only [zU32_0])
    repeat ((first | refine V.s1 ?_); (try simp only [zU32_0]))
    exact ⟨1, by omega, by omega, V.wk⟩
  · subst e
    rw [show halfK 1 = [0, 0, 0] from rfl, show 3 * 1 = 3 from rfl]
    simp only [k1]
    (conv => whnf)
    (try simp only [zU32_0])
    repeat ((first | refine V.s1 ?_); (try simp only [zU32_0]))
    refine ⟨(.take 0 (.take 1 (.take 2 (.take 3 (.take 4 (.take 5 (.take 6 (.take 7 (.take 8 (.take 9 (.take 10 (.take 11 (.take 12 (.ev (.cons 13 [1, 0] (.ev (.cons 14 [] (.take 15 (.ev (.cons 16 [] (.done) (.nil)))) (.nil))) (.nil)))))))))))))))), ⟨by kernel_rfl, by kernel_rfl, by kernel_rfl⟩, .go ?_⟩
    (conv => whnf)
    (try simp only [zU32_0])
    repeat ((first | refine V.s1 ?_); (try simp only [zU32_0]))
    try refine And.intro (fun _ => ⟨rfl, by simp⟩) ?_
    (conv => whnf)
    (try simp only [zU32_0])
    repeat ((first | refine V.s1 ?_); (try simp only [zU32_0]))
    exact ⟨2, by omega, by omega, V.wk⟩
  · subst e
    rw [show halfK 2 = [0, 0, 0, 0, 0, 60000] from rfl, show 3 * 2 = 6 from rfl]
    simp only [k2]
    (conv => whnf)
    (try simp only [zU32_0])
    repeat ((first | refine V.s1 ?_); (try simp only [zU32_0]))
    refine ⟨(.take 0 (.take 1 (.take 2 (.take 3 (.take 4 (.take 5 (.take 6 (.take 7 (.take 8 (.take 9 (.take 10 (.take 11 (.take 12 (.ev (.cons 13 [1, 0] (.ev (.cons 14 [] (.take 15 (.ev (.cons 16 [] (.done) (.nil)))) (.nil))) (.nil)))))))))))))))), ⟨by kernel_rfl, by kernel_rfl, by kernel_rfl⟩, .go ?_⟩
    (conv => whnf)
    (try simp only [zU32_0])
    repeat ((first | refine V.s1 ?_); (try simp only [zU32_0]))
    try refine And.intro (fun _ => ⟨rfl, by simp⟩) ?_
    (conv => whnf)
    (try simp only [zU32_0])
    repeat ((first | refine V.s1 ?_); (try simp only [zU32_0]))
    exact ⟨3, by omega, by omega, V.wk⟩
  · subst e
    rw [show halfK 3 = [0, 0, 0, 0, 0, 60000, 0, 60000, 0] from rfl, show 3 * 3 = 9 from rfl]
    simp only [k3]
    (conv => whnf)
    (try simp only [zU32_0])
    repeat ((first | refine V.s1 ?_); (try simp only [zU32_0]))
    refine ⟨(.take 0 (.take 1 (.take 2 (.take 3 (.take 4 (.take 5 (.take 6 (.take 7 (.take 8 (.take 9 (.take 10 (.take 11 (.take 12 (.ev (.cons 13 [1, 0] (.ev (.cons 14 [] (.take 15 (.ev (.cons 16 [] (.done) (.nil)))) (.nil))) (.nil)))))))))))))))), ⟨by kernel_rfl, by kernel_rfl, by kernel_rfl⟩, .go ?_⟩
    (conv => whnf)
    (try simp only [zU32_0])
    repeat ((first | refine V.s1 ?_); (try simp only [zU32_0]))
    try refine And.intro (fun _ => ⟨rfl, by simp⟩) ?_
    (conv => whnf)
    (try simp only [zU32_0])
    repeat ((first | refine V.s1 ?_); (try simp only [zU32_0]))
    exact ⟨4, by omega, by omega, V.wk⟩
  · subst e
    rw [show halfK 4 = [0, 0, 0, 0, 0, 60000, 0, 60000, 0, 0, 60000, 60000] from rfl, show 3 * 4 = 12 from rfl]
    simp only [k4]
    (conv => whnf)
    (try simp only [zU32_0])
    repeat ((first | refine V.s1 ?_); (try simp only [zU32_0]))
    refine ⟨(.take 0 (.take 1 (.take 2 (.take 3 (.take 4 (.take 5 (.take 6 (.take 7 (.take 8 (.take 9 (.take 10 (.take 11 (.take 12 (.ev (.cons 13 [1, 0] (.ev (.cons 14 [] (.take 15 (.ev (.cons 16 [] (.done) (.nil)))) (.nil))) (.nil)))))))))))))))), ⟨by kernel_rfl, by kernel_rfl, by kernel_rfl⟩, .go ?_⟩
    (conv => whnf)
    (try simp only [zU32_0])
    repeat ((first | refine V.s1 ?_); (try simp only [zU32_0]))
    try refine And.intro (fun _ => ⟨rfl, by simp⟩) ?_
    (conv => whnf)
    (try simp only [zU32_0])
    repeat ((first | refine V.s1 ?_); (try simp only [zU32_0]))
    exact ⟨5, by omega, by omega, V.wk⟩
  · subst e
    rw [show halfK 5 = [0, 0, 0, 0, 0, 60000, 0, 60000, 0, 0, 60000, 60000, 0, 0, 0] from rfl, show 3 * 5 = 15 from rfl]
    simp only [k5]
    (conv => whnf)
    (try simp only [zU32_0])
    repeat ((first | refine V.s1 ?_); (try simp only [zU32_0]))
    refine ⟨(.take 0 (.take 1 (.take 2 (.take 3 (.take 4 (.take 5 (.take 6 (.take 7 (.take 8 (.take 9 (.take 10 (.take 11 (.take 12 (.ev (.cons 13 [1, 0] (.ev (.cons 14 [] (.take 15 (.ev (.cons 16 [] (.done) (.nil)))) (.nil))) (.nil)))))))))))))))), ⟨by kernel_rfl, by kernel_rfl, by kernel_rfl⟩, .go ?_⟩
    (conv => whnf)
    (try simp only [zU32_0])
    repeat ((first | refine V.s1 ?_); (try simp only [zU32_0]))
    try refine And.intro (fun _ => ⟨rfl, by simp⟩) ?_
    (conv => whnf)
    (try simp only [zU32_0])
    repeat ((first | refine V.s1 ?_); (try simp only [zU32_0]))
    exact ⟨6, by omega, by omega, V.wk⟩
  · subst e
    rw [show halfK 6 = [0, 0, 0, 0, 0, 60000, 0, 60000, 0, 0, 60000, 60000, 0, 0, 0, 0, 0, 60000] from rfl, show 3 * 6 = 18 from rfl]
    simp only [k6]
    (conv => whnf)
    (try simp only [zU32_0])
    repeat ((first | refine V.s1 ?_); (try simp only [zU32_0]))
    refine ⟨(.take 0 (.take 1 (.take 2 (.take 3 (.take 4 (.take 5 (.take 6 (.take 7 (.take 8 (.take 9 (.take 10 (.take 11 (.take 12 (.ev (.cons 13 [1, 0] (.ev (.cons 14 [] (.take 15 (.ev (.cons 16 [] (.done) (.nil)))) (.nil))) (.nil)))))))))))))))), ⟨by kernel_rfl, by kernel_rfl, by kernel_rfl⟩, .go ?_⟩
    (conv => whnf)
    (try simp only [zU32_0])
    repeat ((first | refine V.s1 ?_); (try simp only [zU32_0]))
    try refine And.intro (fun _ => ⟨rfl, by simp⟩) ?_
    (conv => whnf)
    (try simp only [zU32_0])
    repeat ((first | refine V.s1 ?_); (try simp only [zU32_0]))
    exact ⟨7, by omega, by omega, V.wk⟩
  · subst e
    rw [show halfK 7 = [0, 0, 0, 0, 0, 60000, 0, 60000, 0, 0, 60000, 60000, 0, 0, 0, 0, 0, 60000, 0, 60000, 0] from rfl, show 3 * 7 = 21 from rfl]
    simp only [k7]
    (conv => whnf)
    (try simp only [zU32_0])
    repeat ((first | refine V.s1 ?_); (try simp only [zU32_0]))
    refine ⟨(.take 0 (.take 1 (.take 2 (.take 3 (.take 4 (.take 5 (.take 6 (.take 7 (.take 8 (.take 9 (.take 10 (.take 11 (.take 12 (.ev (.cons 13 [1, 0] (.ev (.cons 14 [] (.take 15 (.ev (.cons 16 [] (.done) (.nil)))) (.nil))) (.nil)))))))))))))))), ⟨by kernel_rfl, by kernel_rfl, by kernel_rfl⟩, .go ?_⟩
    (conv => whnf)
    (try simp only [zU32_0])
    repeat ((first | refine V.s1 ?_); (try simp only [zU32_0]))
    try refine And.intro (fun _ => ⟨rfl, by simp⟩) ?_
    (conv => whnf)
    (try simp only [zU32_0])
    repeat ((first | refine V.s1 ?_); (try simp only [zU32_0]))
    exact ⟨8, by omega, by omega, V.wk⟩
  · subst e
    rw [show halfK 8 = [0, 0, 0, 0, 0, 60000, 0, 60000, 0, 0, 60000, 60000, 0, 0, 0, 0, 0, 60000, 0, 60000, 0, 0, 60000, 60000] from rfl, show 3 * 8 = 24 from rfl]
    simp only [k8]
    (conv => whnf)
    (try simp only [zU32_0])
    repeat ((first | refine V.s1 ?_); (try simp only [zU32_0]))
    refine ⟨(.take 0 (.take 1 (.take 2 (.take 3 (.take 4 (.take 5 (.take 6 (.take 7 (.take 8 (.take 9 (.take 10 (.take 11 (.take 12 (.ev (.cons 13 [1, 0] (.ev (.cons 14 [] (.take 15 (.ev (.cons 16 [] (.done) (.nil)))) (.nil))) (.nil)))))))))))))))), ⟨by kernel_rfl, by kernel_rfl, by kernel_rfl⟩, .go ?_⟩
    (conv => whnf)
    (try simp only [zU32_0])
    repeat ((first | refine V.s1 ?_); (try simp only [zU32_0]))
    try refine And.intro (fun _ => ⟨rfl, by simp⟩) ?_
    (conv => whnf)
    (try simp only [zU32_0])
    repeat ((first | refine V.s1 ?_); (try simp only [zU32_0]))
    exact ⟨9, by omega, by omega, V.wk⟩
  · subst e
    rw [show halfK 9 = [0, 0, 0, 0, 0, 60000, 0, 60000, 0, 0, 60000, 60000, 0, 0, 0, 0, 0, 60000, 0, 60000, 0, 0, 60000, 60000, 60000, 0, 0] from rfl, show 3 * 9 = 27 from rfl]
    simp only [k9]
    (conv => whnf)
    (try simp only [zU32_0])
    repeat ((first | refine V.s1 ?_); (try simp only [zU32_0]))
    refine ⟨(.take 0 (.take 1 (.take 2 (.take 3 (.take 4 (.take 5 (.take 6 (.take 7 (.take 8 (.take 9 (.take 10 (.take 11 (.take 12 (.ev (.cons 13 [1, 0] (.ev (.cons 14 [] (.take 15 (.ev (.cons 16 [] (.done) (.nil)))) (.nil))) (.nil)))))))))))))))), ⟨by kernel_rfl, by kernel_rfl, by kernel_rfl⟩, .go ?_⟩
    (conv => whnf)
    (try simp only [zU32_0])
    repeat ((first | refine V.s1 ?_); (try simp only [zU32_0]))
    try refine And.intro (fun _ => ⟨rfl, by simp⟩) ?_
    (conv => whnf)
    (try simp only [zU32_0])
    repeat ((first | refine V.s1 ?_); (try simp only [zU32_0]))
    exact ⟨10, by omega, by omega, V.wk⟩
  · subst e
    rw [show halfK 10 = [0, 0, 0, 0, 0, 60000, 0, 60000, 0, 0, 60000, 60000, 0, 0, 0, 0, 0, 60000, 0, 60000, 0, 0, 60000, 60000, 60000, 0, 0, 60000, 0, 60000] from rfl, show 3 * 10 = 30 from rfl]
    simp only [k10]
    (conv => whnf)
    (try simp only [zU32_0])
    repeat ((first | refine V.s1 ?_); (try simp only [zU32_0]))
    refine ⟨(.take 0 (.take 1 (.take 2 (.take 3 (.take 4 (.take 5 (.take 6 (.take 7 (.take 8 (.take 9 (.take 10 (.take 11 (.take 12 (.ev (.cons 13 [1, 0] (.ev (.cons 14 [] (.take 15 (.ev (.cons 16 [] (.done) (.nil)))) (.nil))) (.nil)))))))))))))))), ⟨by kernel_rfl, by kernel_rfl, by kernel_rfl⟩, .go ?_⟩
    (conv => whnf)
    (try simp only [zU32_0])
    repeat ((first | refine V.s1 ?_); (try simp only [zU32_0]))
    try refine And.intro (fun _ => ⟨rfl, by simp⟩) ?_
    (conv => whnf)
    (try simp only [zU32_0])
    repeat ((first | refine V.s1 ?_); (try simp only [zU32_0]))
    exact ⟨11, by omega, by omega, V.wk⟩
  · subst e
    rw [show halfK 11 = [0, 0, 0, 0, 0, 60000, 0, 60000, 0, 0, 60000, 60000, 0, 0, 0, 0, 0, 60000, 0, 60000, 0, 0, 60000, 60000, 60000, 0, 0, 60000, 0, 60000, 60000, 60000, 0] from rfl, show 3 * 11 = 33 from rfl]
    simp only [k11]
    (conv => whnf)
    (try simp only [zU32_0])
    repeat ((first | refine V.s1 ?_); (try simp only [zU32_0]))
    refine ⟨(.take 0 (.take 1 (.take 2 (.take 3 (.take 4 (.take 5 (.take 6 (.take 7 (.take 8 (.take 9 (.take 10 (.take 11 (.take 12 (.ev (.cons 13 [1, 0] (.ev (.cons 14 [] (.take 15 (.ev (.cons 16 [] (.done) (.nil)))) (.nil))) (.nil)))))))))))))))), ⟨by kernel_rfl, by kernel_rfl, by kernel_rfl⟩, .go ?_⟩
    (conv => whnf)
    (try simp only [zU32_0])
    repeat ((first | refine V.s1 ?_); (try simp only [zU32_0]))
    try refine And.intro (fun _ => ⟨rfl, by simp⟩) ?_
    (conv => whnf)
    (try simp only [zU32_0])
    repeat ((first | refine V.s1 ?_); (try simp only [zU32_0]))
    exact ⟨12, by omega, by omega, V.wk⟩
  subst e
  (conv => whnf)
  (try simp only [Nat.zero_add, k12, List.drop_zero, th])
  repeat ((first | refine V.s1 ?_); (try simp only [Nat.zero_add, k12, List.drop_zero, th]))
  refine ⟨(.take 0 (.take 1 (.ev (.cons 2 [1, 0] (.ev (.cons 3 [1, 0] (.ev (.cons 4 [1, 0] (.ev (.cons 5 [1, 0] (.ev (.cons 6 [] (.take 7 (.done)) (.nil))) (.nil))) (.nil))) (.nil))) (.nil))))), ⟨by kernel_rfl, by kernel_rfl, by kernel_rfl⟩, ?_⟩
  refine drw_meet [(18, .bool true), (98, .ints .i64 [3, 2, 2]), (99, .agg [.ints .i64 [3, 2, 2], .int .i64 3, .nil])] [(16, .box [.ints .i64 [3, 2, 2], .int .i64 3, .ints .i64 halfL]), (117, .gone), (98, .gone)] ?_ ?_
  · (conv => whnf); (try simp only [zU32_1, th])
    repeat' (first | exact V.wk | ((first | refine V.s1 ?_ | ((with_reducible refine recheck_and ?_ ?_); (focus ((conv => whnf); (try simp only [zU32_1, th]); (repeat (refine V.s1 ?_; (try simp only [zU32_1, th]))); exact ⟨rfl⟩)); (conv => whnf)) | ((try ((with_reducible refine .ext ?_); (conv => whnf); (try simp only [zU32_1, th]))); (with_reducible refine call_intro (r := ?_) ?_ ?_); rotate_left; (focus (first | exact (o14) | exact (o16) | exact (o13) | exact (o12) | exact (o01) | exact (o11) | exact (o25) | exact (o15) | exact (o35) | exact (f2))); (conv => whnf))); (try simp only [zU32_1, th])) | (refine And.intro ?_ ?_ <;> (conv => whnf); (try simp only [zU32_1, th])))
  (conv => whnf)
  (try simp only [Nat.zero_add])
  repeat ((first | refine V.s1 ?_); (try simp only [Nat.zero_add]))
  refine .inl ?_
  (conv => whnf)
  refine ⟨0, _, _, ⟨Tryd.func9, rfl, rfl, Nat.le_of_ble_eq_true rfl⟩, ?_⟩
  (conv => whnf)
  (conv => whnf)
  (try simp only [Nat.zero_add])
  repeat ((first | refine V.s1 ?_); (try simp only [Nat.zero_add]))
  refine Lp.ghostBox 217 197 2 .i64 (by decide) (by decide) ?_
  (conv => whnf)
  refine lp_any (0) (fun k => k ≤ 8) (fun k => 8 - k) (fun k => [(5, .int .i64 k)]) (fun k => [(197, .box [.osl 199 0 3, .int .i64 3, .osl 217 0 (3 * k)]), (217, .arr .i64 (cubeK k))]) ?_ ?_ ?_
  · exact V.wk
  · exact Nat.zero_le _
  intro k hk
  have hkn : k = 0 ∨ k = 1 ∨ k = 2 ∨ k = 3 ∨ k = 4 ∨ k = 5 ∨ k = 6 ∨ k = 7 ∨ k = 8 := by omega
  rcases hkn with e | e | e | e | e | e | e | e | e
  · subst e
    rw [show cubeK 0 = ([] : List Int) from rfl, show 3 * 0 = 0 from rfl]
    simp only [k0]
    (conv => whnf)
    (try simp only [zU32_0])
    repeat ((first | refine V.s1 ?_); (try simp only [zU32_0]))
    try refine And.intro (fun _ => ⟨rfl, by simp⟩) ?_
    (conv => whnf)
    (try simp only [zU32_0])
    repeat ((first | refine V.s1 ?_); (try simp only [zU32_0]))
    exact ⟨1, by omega, by omega, V.wk⟩
  · subst e
    rw [show cubeK 1 = [0, 0, 0] from rfl, show 3 * 1 = 3 from rfl]
    simp only [k1]
    (conv => whnf)
    (try simp only [zU32_0])
    repeat ((first | refine V.s1 ?_); (try simp only [zU32_0]))
    try refine And.intro (fun _ => ⟨rfl, by simp⟩) ?_
    (conv => whnf)
    (try simp only [zU32_0])
    repeat ((first | refine V.s1 ?_); (try simp only [zU32_0]))
    exact ⟨2, by omega, by omega, V.wk⟩
  · subst e
    rw [show cubeK 2 = [0, 0, 0, 0, 0, 65535] from rfl, show 3 * 2 = 6 from rfl]
    simp only [k2]
    (conv => whnf)
    (try simp only [zU32_0])
    repeat ((first | refine V.s1 ?_); (try simp only [zU32_0]))
    try refine And.intro (fun _ => ⟨rfl, by simp⟩) ?_
    (conv => whnf)
    (try simp only [zU32_0])
    repeat ((first | refine V.s1 ?_); (try simp only [zU32_0]))
    exact ⟨3, by omega, by omega, V.wk⟩
  · subst e
    rw [show cubeK 3 = [0, 0, 0, 0, 0, 65535, 0, 65535, 0] from rfl, show 3 * 3 = 9 from rfl]
    simp only [k3]
    (conv => whnf)
    (try simp only [zU32_0])
    repeat ((first | refine V.s1 ?_); (try simp only [zU32_0]))
    try refine And.intro (fun _ => ⟨rfl, by simp⟩) ?_
    (conv => whnf)
    (try simp only [zU32_0])
    repeat ((first | refine V.s1 ?_); (try simp only [zU32_0]))
    exact ⟨4, by omega, by omega, V.wk⟩
  · subst e
    rw [show cubeK 4 = [0, 0, 0, 0, 0, 65535, 0, 65535, 0, 0, 65535, 65535] from rfl, show 3 * 4 = 12 from rfl]
    simp only [k4]
    (conv => whnf)
    (try simp only [zU32_0])
    repeat ((first | refine V.s1 ?_); (try simp only [zU32_0]))
    try refine And.intro (fun _ => ⟨rfl, by simp⟩) ?_
    (conv => whnf)
    (try simp only [zU32_0])
    repeat ((first | refine V.s1 ?_); (try simp only [zU32_0]))
    exact ⟨5, by omega, by omega, V.wk⟩
  · subst e
    rw [show cubeK 5 = [0, 0, 0, 0, 0, 65535, 0, 65535, 0, 0, 65535, 65535, 65535, 0, 0] from rfl, show 3 * 5 = 15 from rfl]
    simp only [k5]
    (conv => whnf)
    (try simp only [zU32_0])
    repeat ((first | refine V.s1 ?_); (try simp only [zU32_0]))
    try refine And.intro (fun _ => ⟨rfl, by simp⟩) ?_
    (conv => whnf)
    (try simp only [zU32_0])
    repeat ((first | refine V.s1 ?_); (try simp only [zU32_0]))
    exact ⟨6, by omega, by omega, V.wk⟩
  · subst e
    rw [show cubeK 6 = [0, 0, 0, 0, 0, 65535, 0, 65535, 0, 0, 65535, 65535, 65535, 0, 0, 65535, 0, 65535] from rfl, show 3 * 6 = 18 from rfl]
    simp only [k6]
    (conv => whnf)
    (try simp only [zU32_0])
    repeat ((first | refine V.s1 ?_); (try simp only [zU32_0]))
    try refine And.intro (fun _ => ⟨rfl, by simp⟩) ?_
    (conv => whnf)
    (try simp only [zU32_0])
    repeat ((first | refine V.s1 ?_); (try simp only [zU32_0]))
    exact ⟨7, by omega, by omega, V.wk⟩
  · subst e
    rw [show cubeK 7 = [0, 0, 0, 0, 0, 65535, 0, 65535, 0, 0, 65535, 65535, 65535, 0, 0, 65535, 0, 65535, 65535, 65535, 0] from rfl, show 3 * 7 = 21 from rfl]
    simp only [k7]
    (conv => whnf)
    (try simp only [zU32_0])
    repeat ((first | refine V.s1 ?_); (try simp only [zU32_0]))
    try refine And.intro (fun _ => ⟨rfl, by simp⟩) ?_
    (conv => whnf)
    (try simp only [zU32_0])
    repeat ((first | refine V.s1 ?_); (try simp only [zU32_0]))
    exact ⟨8, by omega, by omega, V.wk⟩
  subst e
  have e8 : cubeK 8 = turnK 0 := rfl
  rw [e8]
  (conv => whnf)
  (try simp only [Nat.zero_add, k8])
  repeat ((first | refine V.s1 ?_); (try simp only [Nat.zero_add, k8]))
  refine lp_any (0) (fun k => k ≤ 8) (fun k => 8 - k) (fun k => [(128, .int .i64 k)]) (fun k => [(217, .arr .i64 (turnK k))]) ?_ ?_ ?_
  · exact V.wk
  · exact Nat.zero_le _
  intro k hk
  have hkn : k = 0 ∨ k = 1 ∨ k = 2 ∨ k = 3 ∨ k = 4 ∨ k = 5 ∨ k = 6 ∨ k = 7 ∨ k = 8 := by omega
  rcases hkn with e | e | e | e | e | e | e | e | e
  · subst e
    simp only [k0]
    (conv => whnf)
    (try simp only [Nat.zero_add])
    repeat ((first | refine V.s1 ?_); (try simp only [Nat.zero_add]))
    refine ⟨(.take 0 (.take 1 (.take 2 (.take 3 (.take 4 (.take 5 (.take 6 (.take 7 (.take 8 (.take 9 (.take 10 (.take 11 (.take 12 (.take 13 (.take 14 (.take 15 (.take 16 (.take 17 (.take 18 (.take 19 (.take 20 (.take 21 (.take 22 (.ev (.cons 23 [8, 7, 6, 5, 4] (.take 24 (.ev (.cons 25 [] (.done) (.nil)))) (.nil)))))))))))))))))))))))))), ⟨by kernel_rfl, by kernel_rfl, by kernel_rfl⟩, .go ?_⟩
    have hl : (turnK 0).length = 24 := rfl
    (conv => whnf)
    (try simp only [zU32_2, hl])
    repeat ((first | refine V.s1 ?_); (try simp only [zU32_2, hl]))
    exact ⟨1, by omega, by omega, V.wk⟩
  · subst e
    simp only [k1]
    (conv => whnf)
    (try simp only [Nat.zero_add])
    repeat ((first | refine V.s1 ?_); (try simp only [Nat.zero_add]))
    refine ⟨(.take 0 (.take 1 (.take 2 (.take 3 (.take 4 (.take 5 (.take 6 (.take 7 (.take 8 (.take 9 (.take 10 (.take 11 (.take 12 (.take 13 (.take 14 (.take 15 (.take 16 (.take 17 (.take 18 (.take 19 (.take 20 (.take 21 (.take 22 (.ev (.cons 23 [8, 7, 6, 5, 4] (.take 24 (.ev (.cons 25 [] (.done) (.nil)))) (.nil)))))))))))))))))))))))))), ⟨by kernel_rfl, by kernel_rfl, by kernel_rfl⟩, .go ?_⟩
    have hl : (turnK 1).length = 24 := rfl
    (conv => whnf)
    (try simp only [zU32_2, hl])
    repeat ((first | refine V.s1 ?_); (try simp only [zU32_2, hl]))
    exact ⟨2, by omega, by omega, V.wk⟩
  · subst e
    simp only [k2]
    (conv => whnf)
    (try simp only [Nat.zero_add])
    repeat ((first | refine V.s1 ?_); (try simp only [Nat.zero_add]))
    refine ⟨(.take 0 (.take 1 (.take 2 (.take 3 (.take 4 (.take 5 (.take 6 (.take 7 (.take 8 (.take 9 (.take 10 (.take 11 (.take 12 (.take 13 (.take 14 (.take 15 (.take 16 (.take 17 (.take 18 (.take 19 (.take 20 (.take 21 (.take 22 (.ev (.cons 23 [8, 7, 6, 5, 4] (.take 24 (.ev (.cons 25 [] (.done) (.nil)))) (.nil)))))))))))))))))))))))))), ⟨by kernel_rfl, by kernel_rfl, by kernel_rfl⟩, .go ?_⟩
    have hl : (turnK 2).length = 24 := rfl
    (conv => whnf)
    (try simp only [zU32_2, hl])
    repeat ((first | refine V.s1 ?_); (try simp only [zU32_2, hl]))
    exact ⟨3, by omega, by omega, V.wk⟩
  · subst e
    simp only [k3]
    (conv => whnf)
    (try simp only [Nat.zero_add])
    repeat ((first | refine V.s1 ?_); (try simp only [Nat.zero_add]))
    refine ⟨(.take 0 (.take 1 (.take 2 (.take 3 (.take 4 (.take 5 (.take 6 (.take 7 (.take 8 (.take 9 (.take 10 (.take 11 (.take 12 (.take 13 (.take 14 (.take 15 (.take 16 (.take 17 (.take 18 (.take 19 (.take 20 (.take 21 (.take 22 (.ev (.cons 23 [8, 7, 6, 5, 4] (.take 24 (.ev (.cons 25 [] (.done) (.nil)))) (.nil)))))))))))))))))))))))))), ⟨by kernel_rfl, by kernel_rfl, by kernel_rfl⟩, .go ?_⟩
    have hl : (turnK 3).length = 24 := rfl
    (conv => whnf)
    (try simp only [zU32_2, hl])
    repeat ((first | refine V.s1 ?_); (try simp only [zU32_2, hl]))
    exact ⟨4, by omega, by omega, V.wk⟩
  · subst e
    simp only [k4]
    (conv => whnf)
    (try simp only [Nat.zero_add])
    repeat ((first | refine V.s1 ?_); (try simp only [Nat.zero_add]))
    refine ⟨(.take 0 (.take 1 (.take 2 (.take 3 (.take 4 (.take 5 (.take 6 (.take 7 (.take 8 (.take 9 (.take 10 (.take 11 (.take 12 (.take 13 (.take 14 (.take 15 (.take 16 (.take 17 (.take 18 (.take 19 (.take 20 (.take 21 (.take 22 (.ev (.cons 23 [8, 7, 6, 5, 4] (.take 24 (.ev (.cons 25 [] (.done) (.nil)))) (.nil)))))))))))))))))))))))))), ⟨by kernel_rfl, by kernel_rfl, by kernel_rfl⟩, .go ?_⟩
    have hl : (turnK 4).length = 24 := rfl
    (conv => whnf)
    (try simp only [zU32_2, hl])
    repeat ((first | refine V.s1 ?_); (try simp only [zU32_2, hl]))
    exact ⟨5, by omega, by omega, V.wk⟩
  · subst e
    simp only [k5]
    (conv => whnf)
    (try simp only [Nat.zero_add])
    repeat ((first | refine V.s1 ?_); (try simp only [Nat.zero_add]))
    refine ⟨(.take 0 (.take 1 (.take 2 (.take 3 (.take 4 (.take 5 (.take 6 (.take 7 (.take 8 (.take 9 (.take 10 (.take 11 (.take 12 (.take 13 (.take 14 (.take 15 (.take 16 (.take 17 (.take 18 (.take 19 (.take 20 (.take 21 (.take 22 (.ev (.cons 23 [8, 7, 6, 5, 4] (.take 24 (.ev (.cons 25 [] (.done) (.nil)))) (.nil)))))))))))))))))))))))))), ⟨by kernel_rfl, by kernel_rfl, by kernel_rfl⟩, .go ?_⟩
    have hl : (turnK 5).length = 24 := rfl
    (conv => whnf)
    (try simp only [zU32_2, hl])
    repeat ((first | refine V.s1 ?_); (try simp only [zU32_2, hl]))
    exact ⟨6, by omega, by omega, V.wk⟩
  · subst e
    simp only [k6]
    (conv => whnf)
    (try simp only [Nat.zero_add])
    repeat ((first | refine V.s1 ?_); (try simp only [Nat.zero_add]))
    refine ⟨(.take 0 (.take 1 (.take 2 (.take 3 (.take 4 (.take 5 (.take 6 (.take 7 (.take 8 (.take 9 (.take 10 (.take 11 (.take 12 (.take 13 (.take 14 (.take 15 (.take 16 (.take 17 (.take 18 (.take 19 (.take 20 (.take 21 (.take 22 (.ev (.cons 23 [8, 7, 6, 5, 4] (.take 24 (.ev (.cons 25 [] (.done) (.nil)))) (.nil)))))))))))))))))))))))))), ⟨by kernel_rfl, by kernel_rfl, by kernel_rfl⟩, .go ?_⟩
    have hl : (turnK 6).length = 24 := rfl
    (conv => whnf)
    (try simp only [zU32_2, hl])
    repeat ((first | refine V.s1 ?_); (try simp only [zU32_2, hl]))
    exact ⟨7, by omega, by omega, V.wk⟩
  · subst e
    simp only [k7]
    (conv => whnf)
    (try simp only [Nat.zero_add])
    repeat ((first | refine V.s1 ?_); (try simp only [Nat.zero_add]))
    refine ⟨(.take 0 (.take 1 (.take 2 (.take 3 (.take 4 (.take 5 (.take 6 (.take 7 (.take 8 (.take 9 (.take 10 (.take 11 (.take 12 (.take 13 (.take 14 (.take 15 (.take 16 (.take 17 (.take 18 (.take 19 (.take 20 (.take 21 (.take 22 (.ev (.cons 23 [8, 7, 6, 5, 4] (.take 24 (.ev (.cons 25 [] (.done) (.nil)))) (.nil)))))))))))))))))))))))))), ⟨by kernel_rfl, by kernel_rfl, by kernel_rfl⟩, .go ?_⟩
    have hl : (turnK 7).length = 24 := rfl
    (conv => whnf)
    (try simp only [zU32_2, hl])
    repeat ((first | refine V.s1 ?_); (try simp only [zU32_2, hl]))
    exact ⟨8, by omega, by omega, V.wk⟩
  subst e
  (conv => whnf)
  (try simp only [Nat.zero_add, k8, List.drop_zero, tt])
  repeat ((first | refine V.s1 ?_); (try simp only [Nat.zero_add, k8, List.drop_zero, tt]))
  refine ⟨(.take 0 (.take 1 (.ev (.cons 2 [1, 0] (.ev (.cons 3 [1, 0] (.ev (.cons 4 [1, 0] (.ev (.cons 5 [1, 0] (.ev (.cons 6 [] (.take 7 (.take 8 (.take 9 (.ev (.cons 10 [9, 8] (.ev (.cons 11 [9, 8] (.ev (.cons 12 [9, 8] (.ev (.cons 13 [9, 8] (.ev (.cons 14 [] (.take 15 (.take 16 (.done))) (.nil))) (.nil))) (.nil))) (.nil))) (.nil)))))) (.nil))) (.nil))) (.nil))) (.nil))) (.nil))))), ⟨by kernel_rfl, by kernel_rfl, by kernel_rfl⟩, ?_⟩
  refine drw_meet [(21, .bool true), (127, .agg [.ints .i64 [2, 2, 2], .int .i64 3, .ints .i64 turnL])] [(19, .box [.ints .i64 [2, 2, 2], .int .i64 3, .ints .i64 turnL]), (217, .gone), (199, .gone), (197, .box [.ints .i64 [2, 2, 2], .int .i64 3, .ints .i64 turnL]), (196, .box [.ints .i64 [2, 2, 2], .int .i64 3, .ints .i64 turnL])] ?_ ?_
  · (conv => whnf); (try simp only [zU32_1, tt])
    repeat' (first | exact V.wk | ((first | refine V.s1 ?_ | ((with_reducible refine recheck_and ?_ ?_); (focus ((conv => whnf); (try simp only [zU32_1, tt]); (repeat (refine V.s1 ?_; (try simp only [zU32_1, tt]))); exact ⟨rfl⟩)); (conv => whnf)) | ((try ((with_reducible refine .ext ?_); (conv => whnf); (try simp only [zU32_1, tt]))); (with_reducible refine call_intro (r := ?_) ?_ ?_); rotate_left; (focus (first | exact (o14) | exact (o16) | exact (o13) | exact (o12) | exact (o01) | exact (o11) | exact (o25) | exact (o15) | exact (o35) | exact (f3) | exact (f4))); (conv => whnf))); (try simp only [zU32_1, tt])) | (refine And.intro ?_ ?_ <;> (conv => whnf); (try simp only [zU32_1, tt])))
  (conv => whnf)
  (try simp only [Nat.zero_add])
  repeat ((first | refine V.s1 ?_); (try simp only [Nat.zero_add]))
  exact Fin.of rfl
end Go.Proofs.YtlcaefokcnohnaaDoor
end
