/- What some functions of the program answer at values that mean given lists, texts and numbers, each proved of the program's own code: part 7. Conditions: those that each theorem names. -/
import Derived.Test.YtlcaefokcnohnaaGreatDoorH6
import Derived.Test.YtlcaefokcnohnaaGreatDoorH2
import Derived.Test.YtlcaefokcnohnaaGreatDoorW9
import Derived.Test.YtlcaefokcnohnaaGreatDoorH5
set_option linter.unusedSimpArgs false
set_option linter.unusedVariables false
set_option maxHeartbeats 8000000
set_option maxRecDepth 100000
section
namespace Go.Proofs.YtlcaefokcnohnaaGreatDoor
open Go Go.V Go.Nb
def fl7 (k : Nat) : List Int := List.replicate k 7 ++ cubeL.drop k
theorem fl7_len {k : Nat} (h : k ≤ 24) : (fl7 k).length = 24 := by
  unfold fl7
  simp [cubeL]
  omega
theorem fl7_set {k : Nat} (h : k < 24) : (fl7 k).set k 7 = fl7 (k + 1) := by
  unfold fl7
  rw [List.set_append_right _ _ (by simp), List.length_replicate, Nat.sub_self, List.replicate_succ', List.append_assoc]
  congr 1
  have hl : k < cubeL.length := by simpa [cubeL] using h
  rw [List.drop_eq_getElem_cons hl]
  rfl
theorem ex_none : locR (sz3 2 2 2) 3 (fl7 24) [7, 7, 7] = .tup [.nil, .int .i64 0, .int .i64 4] :=
  locR_none (t := (7, 7, 7)) (by decide +kernel) (by decide +kernel)
theorem ex_a : locR (sz3 2 2 2) 3 cubeL [0, 0, 65536] = .tup [.nil, .int .i64 0, .int .i64 2] := by
  have h : chk (sz3 2 2 2) 3 cubeL [0, 0, 65536] = 2 := by decide +kernel
  rw [locR_no (by rw [h]; decide), h]
theorem ex_b : locR (sz3 2 2 2) 3 cubeL [0, 0] = .tup [.nil, .int .i64 0, .int .i64 2] := by
  have h : chk (sz3 2 2 2) 3 cubeL [0, 0] = 2 := by decide +kernel
  rw [locR_no (by rw [h]; decide), h]
theorem ex_n : hdsR (sz3 2 2 2) 3 cubeL [0, 0, 0] = .tup [.int .i64 6, .int .i64 0] := by
  have h := hdsR_ok (s0 := 2) (s1 := 2) (s2 := 2) (data := cubeL) (t := (0, 0, 0)) (by decide +kernel)
  have e : cntN cubeL 2 2 (6 * cellsN 2 2 2) (0, 0, 0) = 6 := by decide +kernel
  rw [e] at h
  exact h
theorem ex_some {s0 s1 s2 n : Nat} {data : List Int} {t : V3} {a b e d : Int} {q0 q1 q2 : Rat} (h : chk (sz3 s0 s1 s2) 3 data (v3L t) = 0) (hf : fndN data s0 s1 s2 t = some n) (hr : hldN data s1 s2 n t = some (a, b, e, d))
    (h0 : frq (cellN s1 s2 n).1 (rs3 (n % 6) a b e).1 d s0 = q0) (h1 : frq (cellN s1 s2 n).2.1 (rs3 (n % 6) a b e).2.1 d s1 = q1) (h2 : frq (cellN s1 s2 n).2.2 (rs3 (n % 6) a b e).2.2 d s2 = q2) :
    locR (sz3 s0 s1 s2) 3 data (v3L t) = .tup [.slf 2 3 (frF q0 q1 q2), .int .i64 n, .int .i64 0] := by
  rw [locR_some h hf hr]
  unfold resF
  rw [h0, h1, h2]
theorem ex_f1 : locR (sz3 2 2 2) 3 cubeL (v3L (13107, 26214, 39321)) = .tup [.slf 2 3 (frF (Rat.divInt 1 5) (Rat.divInt 2 5) (Rat.divInt 3 5)), .int .i64 (5 : Nat), .int .i64 0] :=
  ex_some (a := 56292418401075) (b := 56292418401075) (e := 56292418401075) (d := 281462092005375) (by decide +kernel) (by decide +kernel) (by decide +kernel) (by decide +kernel) (by decide +kernel) (by decide +kernel)
theorem ex_f2 : locR (sz3 2 2 2) 3 cubeL (v3L (0, 0, 0)) = .tup [.slf 2 3 (frF (Rat.divInt 0 1) (Rat.divInt 0 1) (Rat.divInt 0 1)), .int .i64 (0 : Nat), .int .i64 0] :=
  ex_some (a := 0) (b := 0) (e := 0) (d := 281462092005375) (by decide +kernel) (by decide +kernel) (by decide +kernel) (by decide +kernel) (by decide +kernel) (by decide +kernel)
theorem ex_f3 : locR (sz3 2 2 2) 3 cubeL (v3L (65535, 1, 0)) = .tup [.slf 2 3 (frF (Rat.divInt 1 1) (Rat.divInt 1 65535) (Rat.divInt 0 1)), .int .i64 (0 : Nat), .int .i64 0] :=
  ex_some (a := 281457797169150) (b := 4294836225) (e := 0) (d := 281462092005375) (by decide +kernel) (by decide +kernel) (by decide +kernel) (by decide +kernel) (by decide +kernel) (by decide +kernel)
theorem zU27_0 : type_of% @List.cons_append.{0} ∧ type_of% @List.drop_zero.{0} ∧ type_of% @List.length_cons.{0} ∧ type_of% @List.length_nil.{0} ∧ type_of% @List.nil_append.{0} ∧ type_of% @List.take_succ_cons.{0} ∧ type_of% @List.take_zero.{0} ∧ type_of% @Nat.zero_add := ⟨@List.cons_append.{0}, @List.drop_zero.{0}, @List.length_cons.{0}, @List.length_nil.{0}, @List.nil_append.{0}, @List.take_succ_cons.{0}, @List.take_zero.{0}, @Nat.zero_add⟩
theorem zU27_1 : type_of% @List.drop_zero.{0} ∧ type_of% @Nat.zero_add ∧ type_of% @tn0 ∧ type_of% @tn1 ∧ type_of% @tn2 ∧ type_of% @tn3 := ⟨@List.drop_zero.{0}, @Nat.zero_add, @tn0, @tn1, @tn2, @tn3⟩
theorem works_c : Called Tryz.prog 13 [] (.bool true) := by
  have hcube := cube_c
  have l24 := fl7_len (k := 24) (Nat.le_refl _)
  have f1 := finds_yes (t := (13107, 26214, 39321)) (dt' := .agg [.int .i64 13107, .int .i64 26214, .int .i64 39321]) .agg (by decide) (by decide) ex_f1
  have f2 := finds_yes (t := (0, 0, 0)) (dt' := .agg [.int .i64 0, .int .i64 0, .int .i64 0]) .agg (by decide) (by decide) ex_f2
  have f3 := finds_yes (t := (65535, 1, 0)) (dt' := .agg [.int .i64 65535, .int .i64 1, .int .i64 0]) .agg (by decide) (by decide) ex_f3
  have o15 := lawof_c 1 5 (by omega) (by omega)
  have o25 := lawof_c 2 5 (by omega) (by omega)
  have o35 := lawof_c 3 5 (by omega) (by omega)
  have o01 := lawof_c 0 1 (by omega) (by omega)
  have o11 := lawof_c 1 1 (by omega) (by omega)
  have o1m := lawof_c 1 65535 (by omega) (by omega)
  have g1 := locate_c (sz3 2 2 2) 3 (fl7 24) [7, 7, 7] (by decide) (by omega) (by decide)
  rw [ex_none] at g1
  have g2 := locate_c (sz3 2 2 2) 3 cubeL [0, 0, 65536] (by decide) (by decide) (by decide)
  rw [ex_a] at g2
  have g3 := locate_c (sz3 2 2 2) 3 cubeL [0, 0] (by decide) (by decide) (by decide)
  rw [ex_b] at g3
  have g4 := holds_c (sz3 2 2 2) 3 cubeL [0, 0, 0] (by decide) (by decide) (by decide)
  rw [ex_n] at g4
  generalize Rat.divInt 1 5 = q15 at *
  generalize Rat.divInt 2 5 = q25 at *
  generalize Rat.divInt 3 5 = q35 at *
  generalize Rat.divInt 0 1 = q01 at *
  generalize Rat.divInt 1 1 = q11 at *
  generalize Rat.divInt 1 65535 = q1m at *
  unfold frF frC at f1 f2 f3
  unfold frC at o15 o25 o35 o01 o11 o1m
  simp only [List.cons_append, List.nil_append] at f1 f2 f3
  have hset := @fl7_set
  have hlen := @fl7_len
  have h0 : cubeL = fl7 0 := rfl
  unfold gridD sz3 at hcube g1 g2 g3 g4 f1 f2 f3
  obtain ⟨c24, hc24⟩ : ∃ c, cubeL = c := ⟨_, rfl⟩
  rw [hc24] at hcube g2 g3 g4 f1 f2 f3
  refine called_of_run tbOk 6 ⟨Tryz.func13, rfl, rfl, Nat.le_of_ble_eq_true rfl⟩ ?_
  (conv => whnf)
  (conv => whnf)
  (try simp only [Nat.zero_add])
  repeat ((first | refine V.s1 ?_); (try simp only [Nat.zero_add]))
  refine .ext ?_
  (conv => whnf)
  refine call_intro (r := ?_) ?_ ?_
  rotate_left
  · exact hcube
  (conv => whnf)
  (conv => whnf)
  (try simp only [Nat.zero_add])
  repeat ((first | refine V.s1 ?_); (try simp only [Nat.zero_add]))
  refine .inl ?_
  (conv => whnf)
  refine ⟨0, _, _, ⟨Tryz.func25, rfl, rfl, Nat.le_of_ble_eq_true rfl⟩, ?_⟩
  (conv => whnf)
  (conv => whnf)
  (try simp only [Nat.zero_add])
  repeat ((first | refine V.s1 ?_); (try simp only [Nat.zero_add]))
  refine Lp.ghostBox 124 104 2 .i64 (by decide) (by decide) ?_
  (conv => whnf)
  refine lp_any (0) (fun k => k ≤ 8) (fun k => 8 - k) (fun k => [(5, .int .i64 k)]) (fun k => [(104, .box [.osl 106 0 3, .int .i64 3, .osl 124 0 (3 * k)]), (124, .arr .i64 (cubeK k))]) ?_ ?_ ?_
  · exact V.wk
  · exact Nat.zero_le _
  intro k hk
  have hk9 : k = 0 ∨ k = 1 ∨ k = 2 ∨ k = 3 ∨ k = 4 ∨ k = 5 ∨ k = 6 ∨ k = 7 ∨ k = 8 := by omega
  rcases hk9 with e | e | e | e | e | e | e | e | e
  · subst e
    rw [show cubeK 0 = ([] : List Int) from rfl, show 3 * 0 = 0 from rfl]
    simp only [k0]
    (conv => whnf)
    (try simp only [zU27_0])
    repeat ((first | refine V.s1 ?_); (try simp only [zU27_0]))
    try refine And.intro (fun _ => ⟨rfl, by simp⟩) ?_
    (conv => whnf)
    (try simp only [zU27_0])
    repeat ((first | refine V.s1 ?_); (try simp only [zU27_0]))
    exact ⟨1, by omega, by omega, V.wk⟩
  · subst e
    rw [show cubeK 1 = [0, 0, 0] from rfl, show 3 * 1 = 3 from rfl]
    simp only [k1]
    (conv => whnf)
    (try simp only [zU27_0])
    repeat ((first | refine V.s1 ?_); (try simp only [zU27_0]))
    try refine And.intro (fun _ => ⟨rfl, by simp⟩) ?_
    (conv => whnf)
    (try simp only [zU27_0])
    repeat ((first | refine V.s1 ?_); (try simp only [zU27_0]))
    exact ⟨2, by omega, by omega, V.wk⟩
  · subst e
    rw [show cubeK 2 = [0, 0, 0, 0, 0, 65535] from rfl, show 3 * 2 = 6 from rfl]
    simp only [k2]
    (conv => whnf)
    (try simp only [zU27_0])
    repeat ((first | refine V.s1 ?_); (try simp only [zU27_0]))
    try refine And.intro (fun _ => ⟨rfl, by simp⟩) ?_
    (conv => whnf)
    (try simp only [zU27_0])
    repeat ((first | refine V.s1 ?_); (try simp only [zU27_0]))
    exact ⟨3, by omega, by omega, V.wk⟩
  · subst e
    rw [show cubeK 3 = [0, 0, 0, 0, 0, 65535, 0, 65535, 0] from rfl, show 3 * 3 = 9 from rfl]
    simp only [k3]
    (conv => whnf)
    (try simp only [zU27_0])
    repeat ((first | refine V.s1 ?_); (try simp only [zU27_0]))
    try refine And.intro (fun _ => ⟨rfl, by simp⟩) ?_
    (conv => whnf)
    (try simp only [zU27_0])
    repeat ((first | refine V.s1 ?_); (try simp only [zU27_0]))
    exact ⟨4, by omega, by omega, V.wk⟩
  · subst e
    rw [show cubeK 4 = [0, 0, 0, 0, 0, 65535, 0, 65535, 0, 0, 65535, 65535] from rfl, show 3 * 4 = 12 from rfl]
    simp only [k4]
    (conv => whnf)
    (try simp only [zU27_0])
    repeat ((first | refine V.s1 ?_); (try simp only [zU27_0]))
    try refine And.intro (fun _ => ⟨rfl, by simp⟩) ?_
    (conv => whnf)
    (try simp only [zU27_0])
    repeat ((first | refine V.s1 ?_); (try simp only [zU27_0]))
    exact ⟨5, by omega, by omega, V.wk⟩
  · subst e
    rw [show cubeK 5 = [0, 0, 0, 0, 0, 65535, 0, 65535, 0, 0, 65535, 65535, 65535, 0, 0] from rfl, show 3 * 5 = 15 from rfl]
    simp only [k5]
    (conv => whnf)
    (try simp only [zU27_0])
    repeat ((first | refine V.s1 ?_); (try simp only [zU27_0]))
    try refine And.intro (fun _ => ⟨rfl, by simp⟩) ?_
    (conv => whnf)
    (try simp only [zU27_0])
    repeat ((first | refine V.s1 ?_); (try simp only [zU27_0]))
    exact ⟨6, by omega, by omega, V.wk⟩
  · subst e
    rw [show cubeK 6 = [0, 0, 0, 0, 0, 65535, 0, 65535, 0, 0, 65535, 65535, 65535, 0, 0, 65535, 0, 65535] from rfl, show 3 * 6 = 18 from rfl]
    simp only [k6]
    (conv => whnf)
    (try simp only [zU27_0])
    repeat ((first | refine V.s1 ?_); (try simp only [zU27_0]))
    try refine And.intro (fun _ => ⟨rfl, by simp⟩) ?_
    (conv => whnf)
    (try simp only [zU27_0])
    repeat ((first | refine V.s1 ?_); (try simp only [zU27_0]))
    exact ⟨7, by omega, by omega, V.wk⟩
  · subst e
    rw [show cubeK 7 = [0, 0, 0, 0, 0, 65535, 0, 65535, 0, 0, 65535, 65535, 65535, 0, 0, 65535, 0, 65535, 65535, 65535, 0] from rfl, show 3 * 7 = 21 from rfl]
    simp only [k7]
    (conv => whnf)
    (try simp only [zU27_0])
    repeat ((first | refine V.s1 ?_); (try simp only [zU27_0]))
    try refine And.intro (fun _ => ⟨rfl, by simp⟩) ?_
    (conv => whnf)
    (try simp only [zU27_0])
    repeat ((first | refine V.s1 ?_); (try simp only [zU27_0]))
    exact ⟨8, by omega, by omega, V.wk⟩
  subst e
  have e8 : cubeK 8 = fl7 0 := rfl
  rw [e8]
  (conv => whnf)
  (try simp only [Nat.zero_add, k8])
  repeat ((first | refine V.s1 ?_); (try simp only [Nat.zero_add, k8]))
  refine lp_any (0) (fun k => k ≤ 24) (fun k => 24 - k) (fun k => [(21, .int .i64 k)]) (fun k => [(124, .arr .i64 (fl7 k))]) ?_ ?_ ?_
  · exact V.wk
  · exact Nat.zero_le _
  intro k hk
  have hlk := hlen hk
  (conv => whnf)
  (try simp only [Nat.zero_add])
  repeat ((first | refine V.s1 ?_); (try simp only [Nat.zero_add]))
  refine Cnd.split (CondB.mk (fun hq => ?_) (fun hq => ?_))
  · have hk2 : k < 24 := by
      simp at hq
      omega
    have hs := hset hk2
    (conv => whnf)
    (try simp only [Nat.zero_add, Int.toNat_natCast, hs])
    repeat ((first | refine V.s1 ?_); (try simp only [Nat.zero_add, Int.toNat_natCast, hs]))
    exact ⟨k + 1, by omega, by omega, V.wk⟩
  have hk2 : k = 24 := by
    simp at hq
    omega
  subst hk2
  have ht1 : List.take 24 (fl7 24) = fl7 24 := List.take_of_length_le (by omega)
  have ht2 : List.take (3 * 8) (fl7 24) = fl7 24 := List.take_of_length_le (by omega)
  (conv => whnf)
  (try simp only [zU27_1, ht1, ht2])
  repeat ((first | refine V.s1 ?_ | ((try ((with_reducible refine .ext ?_); (conv => whnf); (try simp only [zU27_1, ht1, ht2]))); (with_reducible refine call_intro (r := ?_) ?_ ?_); rotate_left; (focus (first | exact (g1) | exact (g2) | exact (g3) | exact (g4))); (conv => whnf))); (try simp only [zU27_1, ht1, ht2]))
  refine ⟨(.take 0 (.take 1 (.ev (.cons 2 [1, 0] (.ev (.cons 3 [1, 0] (.ev (.cons 4 [1, 0] (.ev (.cons 5 [1, 0] (.ev (.cons 6 [] (.take 7 (.take 8 (.take 9 (.ev (.cons 10 [9, 8] (.ev (.cons 11 [9, 8] (.ev (.cons 12 [9, 8] (.ev (.cons 13 [9, 8] (.ev (.cons 14 [] (.take 15 (.take 16 (.take 17 (.take 18 (.ev (.cons 19 [18, 17] (.ev (.cons 20 [18, 17] (.ev (.cons 21 [18, 17] (.ev (.cons 22 [18, 17] (.ev (.cons 23 [] (.take 24 (.take 25 (.done))) (.nil))) (.nil))) (.nil))) (.nil))) (.nil))))))) (.nil))) (.nil))) (.nil))) (.nil))) (.nil)))))) (.nil))) (.nil))) (.nil))) (.nil))) (.nil))))), ⟨by kernel_rfl, by kernel_rfl, by kernel_rfl⟩, ?_⟩
  refine drw_meet [(15, .bool true)] [] ?_ ?_
  · (conv => whnf); (try simp only [zU27_1, ht1, ht2])
    repeat' (first | exact V.wk | ((first | refine V.s1 ?_ | ((with_reducible refine recheck_and ?_ ?_); (focus ((conv => whnf); (try simp only [zU27_1, ht1, ht2]); (repeat (refine V.s1 ?_; (try simp only [zU27_1, ht1, ht2]))); exact ⟨rfl⟩)); (conv => whnf)) | ((try ((with_reducible refine .ext ?_); (conv => whnf); (try simp only [zU27_1, ht1, ht2]))); (with_reducible refine call_intro (r := ?_) ?_ ?_); rotate_left; (focus (first | exact (o15) | exact (o25) | exact (o35) | exact (o01) | exact (o11) | exact (o1m) | exact (f1) | exact (f2) | exact (f3))); (conv => whnf))); (try simp only [zU27_1, ht1, ht2])) | (refine And.intro ?_ ?_ <;> (conv => whnf); (try simp only [zU27_1, ht1, ht2])))
  (conv => whnf)
  (try simp only [Nat.zero_add])
  repeat ((first | refine V.s1 ?_); (try simp only [Nat.zero_add]))
  exact Fin.of rfl
end Go.Proofs.YtlcaefokcnohnaaGreatDoor
end
section
namespace Go.Proofs.YtlcaefokcnohnaaGreatDoor
open Go Go.V
def nrI (data : List Int) (n : Nat) (a : Int) (k : Nat) : Int := data.getD (3 * (a % (n : Int)) + (k : Int)).toNat 0
def nrS (data : List Int) (n : Nat) (a0 a1 a2 a3 : Int) (k : Nat) : Nat → Int
  | 0 => 0
  | 1 => nrI data n a0 k
  | 2 => nrI data n a0 k + nrI data n a1 k
  | 3 => nrI data n a0 k + nrI data n a1 k + nrI data n a2 k
  | _ => nrI data n a0 k + nrI data n a1 k + nrI data n a2 k + nrI data n a3 k
def nrV (data : List Int) (n : Nat) (a0 a1 a2 a3 : Int) (k : Nat) (o : Int) : Int := nrS data n a0 a1 a2 a3 k 4 / 4 + o
def nrP (v0 v1 s : Int) : Nat → List Int
  | 0 => [s, 0, 0]
  | 1 => [v0, s, 0]
  | _ => [v0, v1, s]
def nrL (v0 v1 v2 : Int) : Nat → List Int
  | 0 => [0, 0, 0]
  | 1 => [v0, 0, 0]
  | 2 => [v0, v1, 0]
  | _ => [v0, v1, v2]
theorem m4_0 {a n : Int} (ha : 0 ≤ a) : a.tmod n = a % n := Int.tmod_eq_emod_of_nonneg ha
theorem zU23_0 : type_of% @Int.add_zero ∧ type_of% @Int.zero_add ∧ type_of% @Nat.zero_add ∧ type_of% @g3_0 ∧ type_of% @g3_1 ∧ type_of% @g3_2 ∧ type_of% @g4_0 ∧ type_of% @g4_1 ∧ type_of% @g4_2 ∧ type_of% @g4_3 ∧ type_of% @i3_0 ∧ type_of% @i3_1 ∧ type_of% @i3_2 ∧ type_of% @i4_0 ∧ type_of% @i4_1 ∧ type_of% @i4_2 ∧ type_of% @i4_3 ∧ type_of% @s3_0 ∧ type_of% @s3_1 ∧ type_of% @s3_2 ∧ type_of% @tn0 ∧ type_of% @tn1 ∧ type_of% @tn2 ∧ type_of% @tn3 := ⟨@Int.add_zero, @Int.zero_add, @Nat.zero_add, @g3_0, @g3_1, @g3_2, @g4_0, @g4_1, @g4_2, @g4_3, @i3_0, @i3_1, @i3_2, @i4_0, @i4_1, @i4_2, @i4_3, @s3_0, @s3_1, @s3_2, @tn0, @tn1, @tn2, @tn3⟩
theorem zU23_1 : type_of% @Int.add_zero ∧ type_of% @Int.zero_add ∧ type_of% @Nat.zero_add ∧ type_of% @g3_0 ∧ type_of% @g3_1 ∧ type_of% @g3_2 ∧ type_of% @i3_0 ∧ type_of% @i3_1 ∧ type_of% @i3_2 ∧ type_of% @s3_0 ∧ type_of% @s3_1 ∧ type_of% @s3_2 ∧ type_of% @tn0 ∧ type_of% @tn1 ∧ type_of% @tn2 ∧ type_of% @tn3 := ⟨@Int.add_zero, @Int.zero_add, @Nat.zero_add, @g3_0, @g3_1, @g3_2, @i3_0, @i3_1, @i3_2, @s3_0, @s3_1, @s3_2, @tn0, @tn1, @tn2, @tn3⟩
theorem near_c {size : List Int} {data : List Int} {n : Nat} (hn : data.length = 3 * n) (hn0 : 0 < n) (hnl : n ≤ 10000) (hd : ∀ v ∈ data, 0 ≤ v ∧ v ≤ 65535) {a0 a1 a2 a3 o0 o1 o2 : Int} (ha : (0 ≤ a0 ∧ a0 ≤ 255) ∧ (0 ≤ a1 ∧ a1 ≤ 255) ∧ (0 ≤ a2 ∧ a2 ≤ 255) ∧ (0 ≤ a3 ∧ a3 ≤ 255)) (ho : (-32768 ≤ o0 ∧ o0 ≤ 32767) ∧ (-32768 ≤ o1 ∧ o1 ≤ 32767) ∧ (-32768 ≤ o2 ∧ o2 ≤ 32767)) :
    Called Tryz.prog 7 [gridD size 3 data, .iarr .u8 [a0, a1, a2, a3], .iarr .i16 [o0, o1, o2]] (.ints .i64 [nrV data n a0 a1 a2 a3 0 o0, nrV data n a0 a1 a2 a3 1 o1, nrV data n a0 a1 a2 a3 2 o2]) := by
  have hx : ∀ a (k : Nat), 0 ≤ a → 0 ≤ nrI data n a k ∧ nrI data n a k ≤ 65535 := fun a k _ => by
    unfold nrI
    rw [List.getD_eq_getElem?_getD]
    cases h : data[(3 * (a % (n : Int)) + (k : Int)).toNat]? with
    | none => simp
    | some v => exact hd v (List.mem_of_getElem? h)
  have hr : ∀ a, 0 ≤ a → 0 ≤ a % (n : Int) ∧ a % (n : Int) < n := fun a h => ⟨Int.emod_nonneg _ (by omega), Int.emod_lt_of_pos _ (by omega)⟩
  have hl1 : (data.length : Int) / 3 = (n : Int) := by omega
  have hl2 : (data.length : Int).tdiv 3 = (n : Int) := by rw [Int.tdiv_eq_ediv_of_nonneg (by omega)]; omega
  have ht0 := m4_0 (n := (n : Int)) ha.1.1
  have ht1 := m4_0 (n := (n : Int)) ha.2.1.1
  have ht2 := m4_0 (n := (n : Int)) ha.2.2.1.1
  have ht3 := m4_0 (n := (n : Int)) ha.2.2.2.1
  obtain ⟨v0, e0⟩ : ∃ v, nrV data n a0 a1 a2 a3 0 o0 = v := ⟨_, rfl⟩
  obtain ⟨v1, e1⟩ : ∃ v, nrV data n a0 a1 a2 a3 1 o1 = v := ⟨_, rfl⟩
  obtain ⟨v2, e2⟩ : ∃ v, nrV data n a0 a1 a2 a3 2 o2 = v := ⟨_, rfl⟩
  rw [e0, e1, e2]
  unfold gridD
  refine called_of_run tbOk 6 ⟨Tryz.func7, rfl, rfl, Nat.le_of_ble_eq_true rfl⟩ ?_
  (conv => whnf)
  (conv => whnf)
  (try simp only [Nat.zero_add, hl1, hl2])
  repeat ((first | refine V.s1 ?_); (try simp only [Nat.zero_add, hl1, hl2]))
  refine lp_any (0) (fun k => k ≤ 3) (fun k => 3 - k) (fun k => [(19, .int .i64 k)]) (fun k => [(12, .arr .i64 (nrL v0 v1 v2 k))]) ?_ ?_ ?_
  · exact V.wk
  · exact Nat.zero_le _
  intro k hk
  have hk4 : k = 0 ∨ k = 1 ∨ k = 2 ∨ k = 3 := by omega
  rcases hk4 with e | e | e | e
  all_goals subst e
  · simp only [nrL, k0]
    (conv => whnf)
    (try simp only [Nat.zero_add])
    repeat ((first | refine V.s1 ?_); (try simp only [Nat.zero_add]))
    refine lp_any (0) (fun k => k ≤ 4) (fun k => 4 - k) (fun k => [(23, .int .i64 k)]) (fun k => [(12, .arr .i64 (nrP v0 v1 (nrS data n a0 a1 a2 a3 0 k) 0))]) ?_ ?_ ?_
    exact V.wk
    exact Nat.zero_le _
    intro m hm
    have hm5 : m = 0 ∨ m = 1 ∨ m = 2 ∨ m = 3 ∨ m = 4 := by omega
    rcases hm5 with e | e | e | e | e
    · subst e
      have b0 := hx a0 0 ha.1.1
      have b1 := hx a1 0 ha.2.1.1
      have b2 := hx a2 0 ha.2.2.1.1
      have b3 := hx a3 0 ha.2.2.2.1
      have q0 := hr a0 ha.1.1
      simp only [nrP, nrS, k0]
      unfold nrI at *
      simp only [k0, Int.add_zero] at b0 b1 b2 b3 ⊢
      (conv => whnf)
      (try simp only [zU23_0, hl1, hl2, ht0, ht1, ht2, ht3])
      repeat ((first | refine V.s1 ?_); (try simp only [zU23_0, hl1, hl2, ht0, ht1, ht2, ht3]))
      refine ⟨(.take 0 (.take 1 (.take 2 (.take 3 (.take 4 (.take 5 (.take 6 (.take 7 (.take 8 (.take 9 (.take 10 (.take 11 (.take 12 (.take 13 (.take 14 (.take 15 (.take 16 (.ev (.cons 17 [] (.done) (.nil)))))))))))))))))))), ⟨by kernel_rfl, by kernel_rfl, by kernel_rfl⟩, .go ?_⟩
      (conv => whnf)
      (try simp only [zU23_0, hl1, hl2, ht0, ht1, ht2, ht3])
      repeat ((first | refine V.s1 ?_); (try simp only [zU23_0, hl1, hl2, ht0, ht1, ht2, ht3]))
      exact ⟨1, by omega, by omega, V.wk⟩
    · subst e
      have b0 := hx a0 0 ha.1.1
      have b1 := hx a1 0 ha.2.1.1
      have b2 := hx a2 0 ha.2.2.1.1
      have b3 := hx a3 0 ha.2.2.2.1
      have q0 := hr a1 ha.2.1.1
      simp only [nrP, nrS, k1]
      unfold nrI at *
      simp only [k0, Int.add_zero] at b0 b1 b2 b3 ⊢
      (conv => whnf)
      (try simp only [zU23_0, hl1, hl2, ht0, ht1, ht2, ht3])
      repeat ((first | refine V.s1 ?_); (try simp only [zU23_0, hl1, hl2, ht0, ht1, ht2, ht3]))
      refine ⟨(.take 0 (.take 1 (.take 2 (.take 3 (.take 4 (.take 5 (.take 6 (.take 7 (.take 8 (.take 9 (.take 10 (.take 11 (.take 12 (.take 13 (.take 14 (.take 15 (.take 16 (.ev (.cons 17 [] (.done) (.nil)))))))))))))))))))), ⟨by kernel_rfl, by kernel_rfl, by kernel_rfl⟩, .go ?_⟩
      (conv => whnf)
      (try simp only [zU23_0, hl1, hl2, ht0, ht1, ht2, ht3])
      repeat ((first | refine V.s1 ?_); (try simp only [zU23_0, hl1, hl2, ht0, ht1, ht2, ht3]))
      exact ⟨2, by omega, by omega, V.wk⟩
    · subst e
      have b0 := hx a0 0 ha.1.1
      have b1 := hx a1 0 ha.2.1.1
      have b2 := hx a2 0 ha.2.2.1.1
      have b3 := hx a3 0 ha.2.2.2.1
      have q0 := hr a2 ha.2.2.1.1
      simp only [nrP, nrS, k2]
      unfold nrI at *
      simp only [k0, Int.add_zero] at b0 b1 b2 b3 ⊢
      (conv => whnf)
      (try simp only [zU23_0, hl1, hl2, ht0, ht1, ht2, ht3])
      repeat ((first | refine V.s1 ?_); (try simp only [zU23_0, hl1, hl2, ht0, ht1, ht2, ht3]))
      refine ⟨(.take 0 (.take 1 (.take 2 (.take 3 (.take 4 (.take 5 (.take 6 (.take 7 (.take 8 (.take 9 (.take 10 (.take 11 (.take 12 (.take 13 (.take 14 (.take 15 (.take 16 (.ev (.cons 17 [] (.done) (.nil)))))))))))))))))))), ⟨by kernel_rfl, by kernel_rfl, by kernel_rfl⟩, .go ?_⟩
      (conv => whnf)
      (try simp only [zU23_0, hl1, hl2, ht0, ht1, ht2, ht3])
      repeat ((first | refine V.s1 ?_); (try simp only [zU23_0, hl1, hl2, ht0, ht1, ht2, ht3]))
      exact ⟨3, by omega, by omega, V.wk⟩
    · subst e
      have b0 := hx a0 0 ha.1.1
      have b1 := hx a1 0 ha.2.1.1
      have b2 := hx a2 0 ha.2.2.1.1
      have b3 := hx a3 0 ha.2.2.2.1
      have q0 := hr a3 ha.2.2.2.1
      simp only [nrP, nrS, k3]
      unfold nrI at *
      simp only [k0, Int.add_zero] at b0 b1 b2 b3 ⊢
      (conv => whnf)
      (try simp only [zU23_0, hl1, hl2, ht0, ht1, ht2, ht3])
      repeat ((first | refine V.s1 ?_); (try simp only [zU23_0, hl1, hl2, ht0, ht1, ht2, ht3]))
      refine ⟨(.take 0 (.take 1 (.take 2 (.take 3 (.take 4 (.take 5 (.take 6 (.take 7 (.take 8 (.take 9 (.take 10 (.take 11 (.take 12 (.take 13 (.take 14 (.take 15 (.take 16 (.ev (.cons 17 [] (.done) (.nil)))))))))))))))))))), ⟨by kernel_rfl, by kernel_rfl, by kernel_rfl⟩, .go ?_⟩
      (conv => whnf)
      (try simp only [zU23_0, hl1, hl2, ht0, ht1, ht2, ht3])
      repeat ((first | refine V.s1 ?_); (try simp only [zU23_0, hl1, hl2, ht0, ht1, ht2, ht3]))
      exact ⟨4, by omega, by omega, V.wk⟩
    · subst e
      have b0 := hx a0 0 ha.1.1
      have b1 := hx a1 0 ha.2.1.1
      have b2 := hx a2 0 ha.2.2.1.1
      have b3 := hx a3 0 ha.2.2.2.1
      have ev := e0
      unfold nrV at ev
      simp only [nrP, nrS] at ev ⊢
      unfold nrI at *
      simp only [k0, Int.add_zero] at b0 b1 b2 b3 ev ⊢
      obtain ⟨S, hS⟩ : ∃ S, data.getD (3 * (a0 % (n : Int)) + 0).toNat 0 + data.getD (3 * (a1 % (n : Int)) + 0).toNat 0 + data.getD (3 * (a2 % (n : Int)) + 0).toNat 0 + data.getD (3 * (a3 % (n : Int)) + 0).toNat 0 = S := ⟨_, rfl⟩
      try simp only [Int.add_zero] at hS
      have hSb : 0 ≤ S ∧ S ≤ 262140 := by omega
      rw [hS] at ev ⊢
      have hq1 : S.tdiv 4 = S / 4 := Int.tdiv_eq_ediv_of_nonneg hSb.1
      (conv => whnf)
      (try simp only [zU23_1])
      repeat ((first | refine V.s1 ?_); (try simp only [zU23_1]))
      refine ⟨(.take 0 (.take 1 (.take 2 (.take 3 (.take 4 (.take 5 (.take 6 (.take 7 (.take 8 (.take 9 (.take 10 (.take 11 (.take 12 (.ev (.cons 13 [] (.done) (.nil)))))))))))))))), ⟨by kernel_rfl, by kernel_rfl, by kernel_rfl⟩, .go ?_⟩
      (conv => whnf)
      (try simp only [zU23_1, hq1, ev])
      repeat ((first | refine V.s1 ?_); (try simp only [zU23_1, hq1, ev]))
      exact ⟨1, by omega, by omega, V.wk⟩
  · simp only [nrL, k1]
    (conv => whnf)
    (try simp only [Nat.zero_add])
    repeat ((first | refine V.s1 ?_); (try simp only [Nat.zero_add]))
    refine lp_any (0) (fun k => k ≤ 4) (fun k => 4 - k) (fun k => [(23, .int .i64 k)]) (fun k => [(12, .arr .i64 (nrP v0 v1 (nrS data n a0 a1 a2 a3 1 k) 1))]) ?_ ?_ ?_
    exact V.wk
    exact Nat.zero_le _
    intro m hm
    have hm5 : m = 0 ∨ m = 1 ∨ m = 2 ∨ m = 3 ∨ m = 4 := by omega
    rcases hm5 with e | e | e | e | e
    · subst e
      have b0 := hx a0 1 ha.1.1
      have b1 := hx a1 1 ha.2.1.1
      have b2 := hx a2 1 ha.2.2.1.1
      have b3 := hx a3 1 ha.2.2.2.1
      have q0 := hr a0 ha.1.1
      simp only [nrP, nrS, k0]
      unfold nrI at *
      simp only [k1, Int.add_zero] at b0 b1 b2 b3 ⊢
      (conv => whnf)
      (try simp only [zU23_0, hl1, hl2, ht0, ht1, ht2, ht3])
      repeat ((first | refine V.s1 ?_); (try simp only [zU23_0, hl1, hl2, ht0, ht1, ht2, ht3]))
      refine ⟨(.take 0 (.take 1 (.take 2 (.take 3 (.take 4 (.take 5 (.take 6 (.take 7 (.take 8 (.take 9 (.take 10 (.take 11 (.take 12 (.take 13 (.take 14 (.take 15 (.take 16 (.ev (.cons 17 [] (.done) (.nil)))))))))))))))))))), ⟨by kernel_rfl, by kernel_rfl, by kernel_rfl⟩, .go ?_⟩
      (conv => whnf)
      (try simp only [zU23_0, hl1, hl2, ht0, ht1, ht2, ht3])
      repeat ((first | refine V.s1 ?_); (try simp only [zU23_0, hl1, hl2, ht0, ht1, ht2, ht3]))
      exact ⟨1, by omega, by omega, V.wk⟩
    · subst e
      have b0 := hx a0 1 ha.1.1
      have b1 := hx a1 1 ha.2.1.1
      have b2 := hx a2 1 ha.2.2.1.1
      have b3 := hx a3 1 ha.2.2.2.1
      have q0 := hr a1 ha.2.1.1
      simp only [nrP, nrS, k1]
      unfold nrI at *
      simp only [k1, Int.add_zero] at b0 b1 b2 b3 ⊢
      (conv => whnf)
      (try simp only [zU23_0, hl1, hl2, ht0, ht1, ht2, ht3])
      repeat ((first | refine V.s1 ?_); (try simp only [zU23_0, hl1, hl2, ht0, ht1, ht2, ht3]))
      refine ⟨(.take 0 (.take 1 (.take 2 (.take 3 (.take 4 (.take 5 (.take 6 (.take 7 (.take 8 (.take 9 (.take 10 (.take 11 (.take 12 (.take 13 (.take 14 (.take 15 (.take 16 (.ev (.cons 17 [] (.done) (.nil)))))))))))))))))))), ⟨by kernel_rfl, by kernel_rfl, by kernel_rfl⟩, .go ?_⟩
      (conv => whnf)
      (try simp only [zU23_0, hl1, hl2, ht0, ht1, ht2, ht3])
      repeat ((first | refine V.s1 ?_); (try simp only [zU23_0, hl1, hl2, ht0, ht1, ht2, ht3]))
      exact ⟨2, by omega, by omega, V.wk⟩
    · subst e
      have b0 := hx a0 1 ha.1.1
      have b1 := hx a1 1 ha.2.1.1
      have b2 := hx a2 1 ha.2.2.1.1
      have b3 := hx a3 1 ha.2.2.2.1
      have q0 := hr a2 ha.2.2.1.1
      simp only [nrP, nrS, k2]
      unfold nrI at *
      simp only [k1, Int.add_zero] at b0 b1 b2 b3 ⊢
      (conv => whnf)
      (try simp only [zU23_0, hl1, hl2, ht0, ht1, ht2, ht3])
      repeat ((first | refine V.s1 ?_); (try simp only [zU23_0, hl1, hl2, ht0, ht1, ht2, ht3]))
      refine ⟨(.take 0 (.take 1 (.take 2 (.take 3 (.take 4 (.take 5 (.take 6 (.take 7 (.take 8 (.take 9 (.take 10 (.take 11 (.take 12 (.take 13 (.take 14 (.take 15 (.take 16 (.ev (.cons 17 [] (.done) (.nil)))))))))))))))))))), ⟨by kernel_rfl, by kernel_rfl, by kernel_rfl⟩, .go ?_⟩
      (conv => whnf)
      (try simp only [zU23_0, hl1, hl2, ht0, ht1, ht2, ht3])
      repeat ((first | refine V.s1 ?_); (try simp only [zU23_0, hl1, hl2, ht0, ht1, ht2, ht3]))
      exact ⟨3, by omega, by omega, V.wk⟩
    · subst e
      have b0 := hx a0 1 ha.1.1
      have b1 := hx a1 1 ha.2.1.1
      have b2 := hx a2 1 ha.2.2.1.1
      have b3 := hx a3 1 ha.2.2.2.1
      have q0 := hr a3 ha.2.2.2.1
      simp only [nrP, nrS, k3]
      unfold nrI at *
      simp only [k1, Int.add_zero] at b0 b1 b2 b3 ⊢
      (conv => whnf)
      (try simp only [zU23_0, hl1, hl2, ht0, ht1, ht2, ht3])
      repeat ((first | refine V.s1 ?_); (try simp only [zU23_0, hl1, hl2, ht0, ht1, ht2, ht3]))
      refine ⟨(.take 0 (.take 1 (.take 2 (.take 3 (.take 4 (.take 5 (.take 6 (.take 7 (.take 8 (.take 9 (.take 10 (.take 11 (.take 12 (.take 13 (.take 14 (.take 15 (.take 16 (.ev (.cons 17 [] (.done) (.nil)))))))))))))))))))), ⟨by kernel_rfl, by kernel_rfl, by kernel_rfl⟩, .go ?_⟩
      (conv => whnf)
      (try simp only [zU23_0, hl1, hl2, ht0, ht1, ht2, ht3])
      repeat ((first | refine V.s1 ?_); (try simp only [zU23_0, hl1, hl2, ht0, ht1, ht2, ht3]))
      exact ⟨4, by omega, by omega, V.wk⟩
    · subst e
      have b0 := hx a0 1 ha.1.1
      have b1 := hx a1 1 ha.2.1.1
      have b2 := hx a2 1 ha.2.2.1.1
      have b3 := hx a3 1 ha.2.2.2.1
      have ev := e1
      unfold nrV at ev
      simp only [nrP, nrS] at ev ⊢
      unfold nrI at *
      simp only [k1, Int.add_zero] at b0 b1 b2 b3 ev ⊢
      obtain ⟨S, hS⟩ : ∃ S, data.getD (3 * (a0 % (n : Int)) + 1).toNat 0 + data.getD (3 * (a1 % (n : Int)) + 1).toNat 0 + data.getD (3 * (a2 % (n : Int)) + 1).toNat 0 + data.getD (3 * (a3 % (n : Int)) + 1).toNat 0 = S := ⟨_, rfl⟩
      try simp only [Int.add_zero] at hS
      have hSb : 0 ≤ S ∧ S ≤ 262140 := by omega
      rw [hS] at ev ⊢
      have hq1 : S.tdiv 4 = S / 4 := Int.tdiv_eq_ediv_of_nonneg hSb.1
      (conv => whnf)
      (try simp only [zU23_1])
      repeat ((first | refine V.s1 ?_); (try simp only [zU23_1]))
      refine ⟨(.take 0 (.take 1 (.take 2 (.take 3 (.take 4 (.take 5 (.take 6 (.take 7 (.take 8 (.take 9 (.take 10 (.take 11 (.take 12 (.ev (.cons 13 [] (.done) (.nil)))))))))))))))), ⟨by kernel_rfl, by kernel_rfl, by kernel_rfl⟩, .go ?_⟩
      (conv => whnf)
      (try simp only [zU23_1, hq1, ev])
      repeat ((first | refine V.s1 ?_); (try simp only [zU23_1, hq1, ev]))
      exact ⟨2, by omega, by omega, V.wk⟩
  · simp only [nrL, k2]
    (conv => whnf)
    (try simp only [Nat.zero_add])
    repeat ((first | refine V.s1 ?_); (try simp only [Nat.zero_add]))
    refine lp_any (0) (fun k => k ≤ 4) (fun k => 4 - k) (fun k => [(23, .int .i64 k)]) (fun k => [(12, .arr .i64 (nrP v0 v1 (nrS data n a0 a1 a2 a3 2 k) 2))]) ?_ ?_ ?_
    exact V.wk
    exact Nat.zero_le _
    intro m hm
    have hm5 : m = 0 ∨ m = 1 ∨ m = 2 ∨ m = 3 ∨ m = 4 := by omega
    rcases hm5 with e | e | e | e | e
    · subst e
      have b0 := hx a0 2 ha.1.1
      have b1 := hx a1 2 ha.2.1.1
      have b2 := hx a2 2 ha.2.2.1.1
      have b3 := hx a3 2 ha.2.2.2.1
      have q0 := hr a0 ha.1.1
      simp only [nrP, nrS, k0]
      unfold nrI at *
      simp only [k2, Int.add_zero] at b0 b1 b2 b3 ⊢
      (conv => whnf)
      (try simp only [zU23_0, hl1, hl2, ht0, ht1, ht2, ht3])
      repeat ((first | refine V.s1 ?_); (try simp only [zU23_0, hl1, hl2, ht0, ht1, ht2, ht3]))
      refine ⟨(.take 0 (.take 1 (.take 2 (.take 3 (.take 4 (.take 5 (.take 6 (.take 7 (.take 8 (.take 9 (.take 10 (.take 11 (.take 12 (.take 13 (.take 14 (.take 15 (.take 16 (.ev (.cons 17 [] (.done) (.nil)))))))))))))))))))), ⟨by kernel_rfl, by kernel_rfl, by kernel_rfl⟩, .go ?_⟩
      (conv => whnf)
      (try simp only [zU23_0, hl1, hl2, ht0, ht1, ht2, ht3])
      repeat ((first | refine V.s1 ?_); (try simp only [zU23_0, hl1, hl2, ht0, ht1, ht2, ht3]))
      exact ⟨1, by omega, by omega, V.wk⟩
    · subst e
      have b0 := hx a0 2 ha.1.1
      have b1 := hx a1 2 ha.2.1.1
      have b2 := hx a2 2 ha.2.2.1.1
      have b3 := hx a3 2 ha.2.2.2.1
      have q0 := hr a1 ha.2.1.1
      simp only [nrP, nrS, k1]
      unfold nrI at *
      simp only [k2, Int.add_zero] at b0 b1 b2 b3 ⊢
      (conv => whnf)
      (try simp only [zU23_0, hl1, hl2, ht0, ht1, ht2, ht3])
      repeat ((first | refine V.s1 ?_); (try simp only [zU23_0, hl1, hl2, ht0, ht1, ht2, ht3]))
      refine ⟨(.take 0 (.take 1 (.take 2 (.take 3 (.take 4 (.take 5 (.take 6 (.take 7 (.take 8 (.take 9 (.take 10 (.take 11 (.take 12 (.take 13 (.take 14 (.take 15 (.take 16 (.ev (.cons 17 [] (.done) (.nil)))))))))))))))))))), ⟨by kernel_rfl, by kernel_rfl, by kernel_rfl⟩, .go ?_⟩
      (conv => whnf)
      (try simp only [zU23_0, hl1, hl2, ht0, ht1, ht2, ht3])
      repeat ((first | refine V.s1 ?_); (try simp only [zU23_0, hl1, hl2, ht0, ht1, ht2, ht3]))
      exact ⟨2, by omega, by omega, V.wk⟩
    · subst e
      have b0 := hx a0 2 ha.1.1
      have b1 := hx a1 2 ha.2.1.1
      have b2 := hx a2 2 ha.2.2.1.1
      have b3 := hx a3 2 ha.2.2.2.1
      have q0 := hr a2 ha.2.2.1.1
      simp only [nrP, nrS, k2]
      unfold nrI at *
      simp only [k2, Int.add_zero] at b0 b1 b2 b3 ⊢
      (conv => whnf)
      (try simp only [zU23_0, hl1, hl2, ht0, ht1, ht2, ht3])
      repeat ((first | refine V.s1 ?_); (try simp only [zU23_0, hl1, hl2, ht0, ht1, ht2, ht3]))
      refine ⟨(.take 0 (.take 1 (.take 2 (.take 3 (.take 4 (.take 5 (.take 6 (.take 7 (.take 8 (.take 9 (.take 10 (.take 11 (.take 12 (.take 13 (.take 14 (.take 15 (.take 16 (.ev (.cons 17 [] (.done) (.nil)))))))))))))))))))), ⟨by kernel_rfl, by kernel_rfl, by kernel_rfl⟩, .go ?_⟩
      (conv => whnf)
      (try simp only [zU23_0, hl1, hl2, ht0, ht1, ht2, ht3])
      repeat ((first | refine V.s1 ?_); (try simp only [zU23_0, hl1, hl2, ht0, ht1, ht2, ht3]))
      exact ⟨3, by omega, by omega, V.wk⟩
    · subst e
      have b0 := hx a0 2 ha.1.1
      have b1 := hx a1 2 ha.2.1.1
      have b2 := hx a2 2 ha.2.2.1.1
      have b3 := hx a3 2 ha.2.2.2.1
      have q0 := hr a3 ha.2.2.2.1
      simp only [nrP, nrS, k3]
      unfold nrI at *
      simp only [k2, Int.add_zero] at b0 b1 b2 b3 ⊢
      (conv => whnf)
      (try simp only [zU23_0, hl1, hl2, ht0, ht1, ht2, ht3])
      repeat ((first | refine V.s1 ?_); (try simp only [zU23_0, hl1, hl2, ht0, ht1, ht2, ht3]))
      refine ⟨(.take 0 (.take 1 (.take 2 (.take 3 (.take 4 (.take 5 (.take 6 (.take 7 (.take 8 (.take 9 (.take 10 (.take 11 (.take 12 (.take 13 (.take 14 (.take 15 (.take 16 (.ev (.cons 17 [] (.done) (.nil)))))))))))))))))))), ⟨by kernel_rfl, by kernel_rfl, by kernel_rfl⟩, .go ?_⟩
      (conv => whnf)
      (try simp only [zU23_0, hl1, hl2, ht0, ht1, ht2, ht3])
      repeat ((first | refine V.s1 ?_); (try simp only [zU23_0, hl1, hl2, ht0, ht1, ht2, ht3]))
      exact ⟨4, by omega, by omega, V.wk⟩
    · subst e
      have b0 := hx a0 2 ha.1.1
      have b1 := hx a1 2 ha.2.1.1
      have b2 := hx a2 2 ha.2.2.1.1
      have b3 := hx a3 2 ha.2.2.2.1
      have ev := e2
      unfold nrV at ev
      simp only [nrP, nrS] at ev ⊢
      unfold nrI at *
      simp only [k2, Int.add_zero] at b0 b1 b2 b3 ev ⊢
      obtain ⟨S, hS⟩ : ∃ S, data.getD (3 * (a0 % (n : Int)) + 2).toNat 0 + data.getD (3 * (a1 % (n : Int)) + 2).toNat 0 + data.getD (3 * (a2 % (n : Int)) + 2).toNat 0 + data.getD (3 * (a3 % (n : Int)) + 2).toNat 0 = S := ⟨_, rfl⟩
      try simp only [Int.add_zero] at hS
      have hSb : 0 ≤ S ∧ S ≤ 262140 := by omega
      rw [hS] at ev ⊢
      have hq1 : S.tdiv 4 = S / 4 := Int.tdiv_eq_ediv_of_nonneg hSb.1
      (conv => whnf)
      (try simp only [zU23_1])
      repeat ((first | refine V.s1 ?_); (try simp only [zU23_1]))
      refine ⟨(.take 0 (.take 1 (.take 2 (.take 3 (.take 4 (.take 5 (.take 6 (.take 7 (.take 8 (.take 9 (.take 10 (.take 11 (.take 12 (.ev (.cons 13 [] (.done) (.nil)))))))))))))))), ⟨by kernel_rfl, by kernel_rfl, by kernel_rfl⟩, .go ?_⟩
      (conv => whnf)
      (try simp only [zU23_1, hq1, ev])
      repeat ((first | refine V.s1 ?_); (try simp only [zU23_1, hq1, ev]))
      exact ⟨3, by omega, by omega, V.wk⟩
  · simp only [nrL, k3]
    (conv => whnf)
    (try simp only [Nat.zero_add])
    repeat ((first | refine V.s1 ?_); (try simp only [Nat.zero_add]))
    exact Fin.of rfl
end Go.Proofs.YtlcaefokcnohnaaGreatDoor
end
section
namespace Go.Proofs.YtlcaefokcnohnaaGreatDoor
open Go Go.V
def pz (z : List (Int × Int)) : Int := z.foldl (fun p a => p * a.1 + a.2) 0
def okIdx (size xs : List Int) : Bool := decide (xs.length = size.length) && (size.zip xs).all fun a => decide (0 ≤ a.2 ∧ a.2 ≤ a.1 - 1)
def pad4 (xs : List Int) : List Int := xs ++ List.replicate (4 - xs.length) 0
theorem pad4_length {xs : List Int} (h : xs.length ≤ 4) : (pad4 xs).length = 4 := by simp [pad4]; omega
theorem pad4_set {xs : List Int} {k : Nat} {x : Int} (h : xs[k]? = some x) (hl : xs.length ≤ 4) : (pad4 (xs.take k)).set k x = pad4 (xs.take (k + 1)) := by
  have hk : k < xs.length := (List.getElem?_eq_some_iff.1 h).1
  refine List.ext_getElem? fun j => ?_
  rw [List.getElem?_set]
  have h1 : (xs.take k).length = k := by simp; omega
  have h2 : (xs.take (k + 1)).length = k + 1 := by simp; omega
  have hp : (pad4 (xs.take k)).length = 4 := pad4_length (by omega)
  by_cases e : k = j
  · subst e
    rw [if_pos rfl, if_pos (by omega)]
    unfold pad4
    rw [List.getElem?_append_left (by omega), List.getElem?_take_of_lt (by omega), h]
  · rw [if_neg e]
    unfold pad4
    rw [h1, h2]
    by_cases hj : j < k
    · rw [List.getElem?_append_left (by omega), List.getElem?_append_left (by omega), List.getElem?_take_of_lt hj, List.getElem?_take_of_lt (by omega)]
    · rw [List.getElem?_append_right (by omega), List.getElem?_append_right (by omega), h1, h2]
      simp only [List.getElem?_replicate]
      by_cases hj4 : j < 4
      · rw [if_pos (by omega), if_pos (by omega)]
      · rw [if_neg (by omega), if_neg (by omega)]
theorem pz_bd_aux (z : List (Int × Int)) : ∀ (p q : Int), (∀ a ∈ z, 0 ≤ a.2 ∧ a.2 ≤ a.1 - 1) → 0 ≤ p → p + 1 ≤ q →
    0 ≤ z.foldl (fun p a => p * a.1 + a.2) p ∧ z.foldl (fun p a => p * a.1 + a.2) p + 1 ≤ (z.map (·.1)).foldl (· * ·) q := by
  induction z with
  | nil => intro p q _ h1 h2; exact ⟨h1, h2⟩
  | cons a z ih =>
    intro p q h h1 h2
    have ha := h a (by simp)
    simp only [List.foldl_cons, List.map_cons]
    have h3 : 0 ≤ p * a.1 := Int.mul_nonneg h1 (by omega)
    have h4 : (p + 1) * a.1 ≤ q * a.1 := Int.mul_le_mul_of_nonneg_right h2 (by omega)
    rw [Int.add_mul] at h4
    exact ih _ _ (fun b hb => h b (by simp [hb])) (by omega) (by omega)
theorem pz_bd {z : List (Int × Int)} (h : ∀ a ∈ z, 0 ≤ a.2 ∧ a.2 ≤ a.1 - 1) : 0 ≤ pz z ∧ pz z + 1 ≤ prod (z.map (·.1)) := pz_bd_aux z 0 1 h (by omega) (by omega)
theorem okIdx_iff {size xs : List Int} : okIdx size xs = true ↔ xs.length = size.length ∧ ∀ (k : Nat) (n x : Int), size[k]? = some n → xs[k]? = some x → 0 ≤ x ∧ x ≤ n - 1 := by
  unfold okIdx
  rw [Bool.and_eq_true, decide_eq_true_eq, List.all_eq_true]
  constructor
  · rintro ⟨h1, h2⟩
    refine ⟨h1, fun k n x hn hx => ?_⟩
    have := h2 (n, x) (List.mem_of_getElem? (i := k) (by rw [List.getElem?_zip_eq_some]; exact ⟨hn, hx⟩))
    simpa using this
  · rintro ⟨h1, h2⟩
    refine ⟨h1, fun a ha => ?_⟩
    obtain ⟨k, hk⟩ := List.getElem?_of_mem ha
    rw [List.getElem?_zip_eq_some] at hk
    simpa using h2 k _ _ hk.1 hk.2
theorem okGrid_iff {size : List Int} {out : Int} {data : List Int} (h : okGrid size out data = true) : 1 ≤ size.length ∧ size.length ≤ 4 ∧ 1 ≤ out ∧ out ≤ 4 ∧ size.all (fun n => decide (2 ≤ n ∧ n ≤ 9)) = true ∧ (data.length : Int) ≤ 4096 ∧ (data.length : Int) = prod size * out ∧ data.all (fun v => decide (0 ≤ v ∧ v ≤ 65535)) = true := by
  unfold okGrid at h
  simp only [Bool.and_eq_true] at h
  obtain ⟨⟨⟨⟨h1, h2⟩, h3⟩, h4⟩, h5⟩ := h
  simp only [decide_eq_true_eq] at h1 h2 h4
  exact ⟨h1.1, h1.2, h2.1, h2.2, h3, h4.1, h4.2, h5⟩
theorem okIdx_step {size xs : List Int} {n x : Int} (h : okIdx size xs = true) (hl : size.length = xs.length) (hx : 0 ≤ x ∧ x ≤ n - 1) : okIdx (size ++ [n].toArray.toList) (xs ++ [x].toArray.toList) = true := by
  unfold okIdx at *
  rw [List.zip_append hl]
  simp at *
  exact ⟨by omega, h.2, by omega⟩
theorem pz_last {size : List Int} {out : Int} {data xs : List Int} (hg : okGrid size out data = true) (hx : size.length ≤ xs.length) (hi : ∀ (k : Nat) (n x : Int), size[k]? = some n → xs[k]? = some x → 0 ≤ x ∧ x ≤ n - 1) :
    0 ≤ pz (size.zip xs) * out ∧ pz (size.zip xs) * out + out ≤ data.length := by
  have hG := okGrid_iff hg
  have h1 := pz_bd (z := size.zip xs) (fun a ha => by
    obtain ⟨j, hj⟩ := List.getElem?_of_mem ha
    rw [List.getElem?_zip_eq_some] at hj
    exact hi j _ _ hj.1 hj.2)
  rw [List.map_fst_zip (by omega)] at h1
  refine ⟨Int.mul_nonneg h1.1 (by omega), ?_⟩
  have h2 : (pz (size.zip xs) + 1) * out ≤ prod size * out := Int.mul_le_mul_of_nonneg_right h1.2 (by omega)
  rw [Int.add_mul] at h2
  omega
def slot (data : List Int) (p out : Int) : List Int := (data.drop p.toNat).take out.toNat
theorem slot_copy {data : List Int} {p out : Int} (h1 : 0 ≤ p) (h2 : 0 ≤ out) (h3 : p + out ≤ data.length) :
    List.take out.toNat (V.setAt (List.replicate out.toNat 0) 0 (List.take out.toNat (List.drop p.toNat (List.take (p + out).toNat data)))) = slot data p out := by
  have e1 : List.take out.toNat (List.drop p.toNat (List.take (p + out).toNat data)) = slot data p out := by
    have : (p + out).toNat = p.toNat + out.toNat := by omega
    rw [this, List.drop_take, List.take_take]
    simp [slot]
  rw [e1]
  have hl : (slot data p out).length = out.toNat := by simp [slot]; omega
  unfold V.setAt
  rw [List.take_zero, List.nil_append, List.take_append_of_le_length (by omega), List.take_of_length_le (by omega)]
theorem slot_length {data : List Int} {p out : Int} (h1 : 0 ≤ p) (h2 : 0 ≤ out) (h3 : p + out ≤ data.length) : (slot data p out).length = out.toNat := by
  simp [slot]; omega
end Go.Proofs.YtlcaefokcnohnaaGreatDoor
end
section
namespace Go.Proofs.YtlcaefokcnohnaaGreatDoor
open Go Go.V
theorem okIdx_pad {size xs : List Int} (h : okIdx size xs = true) (h4 : size.length ≤ 4) : (pad4 xs).length = 4 ∧ ∀ (k : Nat) (n x : Int), size[k]? = some n → (pad4 xs)[k]? = some x → 0 ≤ x ∧ x ≤ n - 1 := by
  obtain ⟨h1, h2⟩ := okIdx_iff.1 h
  refine ⟨pad4_length (by omega), fun k n x hn hx => ?_⟩
  have hk := (List.getElem?_eq_some_iff.1 hn).1
  unfold pad4 at hx
  rw [List.getElem?_append_left (by omega)] at hx
  exact h2 k n x hn hx
theorem zip_pad {size xs : List Int} (h : okIdx size xs = true) : size.zip (pad4 xs) = size.zip xs := by
  obtain ⟨h1, h2⟩ := okIdx_iff.1 h
  unfold pad4
  have := List.zip_append (l₁ := size) (r₁ := ([] : List Int)) (l₂ := xs) (r₂ := List.replicate (4 - xs.length) 0) h1.symm
  simpa using this
theorem okIdx_take {size xs : List Int} (h : okIdx size xs = true) : ∀ a ∈ size.zip xs, 0 ≤ a.2 ∧ a.2 ≤ a.1 - 1 := fun a ha => by
  unfold okIdx at h
  simp only [Bool.and_eq_true, List.all_eq_true, decide_eq_true_eq] at h
  exact h.2 a ha
theorem take_zip2 {α β : Type} (a : List α) (b : List β) (j : Nat) : (a.zip b).take j = (a.take j).zip (b.take j) := by
  simp [List.zip_eq_zipWith, List.take_zipWith]
theorem slot_app {data : List Int} {p out : Int} (h1 : 0 ≤ p) (h2 : 0 ≤ out) (h3 : p + out ≤ data.length) :
    ([] ++ List.drop p.toNat (List.take (p + out).toNat data) : List Int) = slot data p out := by
  have : (p + out).toNat = p.toNat + out.toNat := by omega
  rw [this, List.drop_take]
  simp [slot]
end Go.Proofs.YtlcaefokcnohnaaGreatDoor
end
section
namespace Go.Gr
def PR : List Nat → Nat
  | [] => 1
  | n :: r => n * PR r
def ixl : List Nat → Nat → List Int
  | [], _ => []
  | n :: r, m => ((m / PR r % n : Nat) : Int) :: ixl r m
theorem PR_pos {ns : List Nat} (h : ∀ n ∈ ns, 0 < n) : 0 < PR ns := by
  induction ns with
  | nil => decide
  | cons n r ih => exact Nat.mul_pos (h n (by simp)) (ih fun x hx => h x (by simp [hx]))
theorem ixl_length (ns : List Nat) (m : Nat) : (ixl ns m).length = ns.length := by
  induction ns with
  | nil => rfl
  | cons n r ih => simp [ixl, ih]
theorem ixl_get (ns : List Nat) (m i n : Nat) (h : ns[i]? = some n) : (ixl ns m)[i]? = some ((m / PR (ns.drop (i + 1)) % n : Nat) : Int) := by
  induction ns generalizing i with
  | nil => simp at h
  | cons a r ih =>
    cases i with
    | zero => simp at h; subst h; simp [ixl]
    | succ i => simpa [ixl] using ih i (by simpa using h)
theorem ixl_mod (ns : List Nat) (hp : ∀ n ∈ ns, 0 < n) (m : Nat) : ixl ns (m % PR ns) = ixl ns m := by
  induction ns generalizing m with
  | nil => rfl
  | cons n r ih =>
    have hr : ∀ x ∈ r, 0 < x := fun x hx => hp x (by simp [hx])
    have h1 := PR_pos hr
    simp only [ixl, PR]
    have e1 : m % (n * PR r) / PR r % n = m / PR r % n := by
      rw [Nat.mul_comm, Nat.mod_mul_right_div_self, Nat.mod_mod]
    have e2 : ixl r (m % (n * PR r)) = ixl r m := by
      rw [← ih hr (m % (n * PR r)), Nat.mod_mul_left_mod, ih hr]
    rw [e1, e2]
theorem last_mod (ns : List Nat) (hp : ∀ n ∈ ns, 0 < n) (m : Nat) (h : m % PR ns = PR ns - 1) : ixl ns m = ns.map fun n : Nat => (n : Int) - 1 := by
  induction ns generalizing m with
  | nil => rfl
  | cons n r ih =>
    have hr : ∀ x ∈ r, 0 < x := fun x hx => hp x (by simp [hx])
    have hn : 0 < n := hp n (by simp)
    have h1 := PR_pos hr
    simp only [PR] at h
    rw [Nat.mul_comm, Nat.mod_mul] at h
    have h2 := Nat.mod_lt m h1
    have h3 := Nat.mod_lt (m / PR r) hn
    have h4 : PR r * (m / PR r % n) + m % PR r = PR r * (n - 1) + (PR r - 1) := by
      have : PR r * n = PR r * (n - 1) + PR r := by
        obtain ⟨k, rfl⟩ : ∃ k, n = k + 1 := ⟨n - 1, by omega⟩
        simp [Nat.mul_add]
      omega
    have h5 : m / PR r % n = n - 1 := by
      have e := congrArg (· / PR r) h4
      simp only [Nat.mul_add_div h1] at e
      rw [Nat.div_eq_of_lt h2, Nat.div_eq_of_lt (by omega : PR r - 1 < PR r)] at e
      omega
    have h6 : m % PR r = PR r - 1 := by rw [h5] at h4; omega
    simp only [ixl, List.map_cons, h5, ih hr m h6]
    congr 1
    omega
theorem mod_last (ns : List Nat) (hp : ∀ n ∈ ns, 0 < n) (m : Nat) (h : ixl ns m = ns.map fun n : Nat => (n : Int) - 1) : m % PR ns = PR ns - 1 := by
  induction ns generalizing m with
  | nil => simp [PR, Nat.mod_one]
  | cons n r ih =>
    have hr : ∀ x ∈ r, 0 < x := fun x hx => hp x (by simp [hx])
    have hn : 0 < n := hp n (by simp)
    have h1 := PR_pos hr
    simp only [ixl, List.map_cons, List.cons.injEq] at h
    have h2 := ih hr m h.2
    have h3 : m / PR r % n = n - 1 := by omega
    simp only [PR]
    rw [Nat.mul_comm, Nat.mod_mul, h2, h3]
    obtain ⟨k, rfl⟩ : ∃ k, n = k + 1 := ⟨n - 1, by omega⟩
    simp [Nat.mul_add]; omega
theorem ixl_zero_mod (ns : List Nat) (hp : ∀ n ∈ ns, 0 < n) (m : Nat) (h : m % PR ns = 0) : ixl ns m = List.replicate ns.length 0 := by
  rw [← ixl_mod ns hp m, h]
  clear h
  induction ns with
  | nil => rfl
  | cons n r ih => simp only [ixl, Nat.zero_div, Nat.zero_mod, List.length_cons, List.replicate_succ, ih fun x hx => hp x (by simp [hx])]; rfl
theorem succ_div {m P : Nat} (hP : 0 < P) (h : m % P ≠ P - 1) : (m + 1) / P = m / P := by
  have h2 := Nat.mod_lt m hP
  have h3 := Nat.div_add_mod m P
  have : m + 1 = P * (m / P) + (m % P + 1) := by omega
  rw [this, Nat.mul_add_div hP, Nat.div_eq_of_lt (by omega : m % P + 1 < P)]
  omega
theorem succ_div_last {m P : Nat} (hP : 0 < P) (h : m % P = P - 1) : (m + 1) / P = m / P + 1 ∧ (m + 1) % P = 0 := by
  have h3 := Nat.div_add_mod m P
  have : m + 1 = P * (m / P + 1) := by rw [Nat.mul_add]; omega
  rw [this, Nat.mul_div_cancel_left _ hP, Nat.mul_mod_right]
  exact ⟨rfl, rfl⟩
theorem mod_succ {a n : Nat} (hn : 0 < n) (h : a % n ≠ n - 1) : (a + 1) % n = a % n + 1 := by
  have h2 := Nat.mod_lt a hn
  have h3 := Nat.div_add_mod a n
  have : a + 1 = n * (a / n) + (a % n + 1) := by omega
  rw [this, Nat.mul_add_mod, Nat.mod_eq_of_lt (by omega : a % n + 1 < n)]
theorem ixl_succ (ns : List Nat) (hp : ∀ n ∈ ns, 0 < n) (m j n : Nat) (hj : ns[j]? = some n) (x : Int) (hx : (ixl ns m)[j]? = some x)
    (h1 : (ixl ns m).drop (j + 1) = (ns.drop (j + 1)).map fun n : Nat => (n : Int) - 1) (h2 : x ≠ (n : Int) - 1) : ixl ns (m + 1) = (ixl ns m).take j ++ (x + 1) :: List.replicate (ns.length - (j + 1)) 0 := by
  induction ns generalizing j with
  | nil => simp at hj
  | cons a r ih =>
    have hr : ∀ y ∈ r, 0 < y := fun y hy => hp y (by simp [hy])
    have ha : 0 < a := hp a (by simp)
    have hP := PR_pos hr
    cases j with
    | zero =>
      simp at hj hx
      subst hj
      simp [ixl] at h1 hx
      have h3 := mod_last r hr m h1
      have h4 := succ_div_last hP h3
      have h5 := ixl_zero_mod r hr _ h4.2
      simp only [ixl, h4.1, h5]
      have h6 : m / PR r % a ≠ a - 1 := fun e => by
        apply h2
        rw [← hx, ← Int.natCast_ediv, ← Int.natCast_emod, e]
        omega
      rw [mod_succ ha h6]
      subst hx
      simp
    | succ j =>
      have hj' : r[j]? = some n := by simpa using hj
      have hx' : (ixl r m)[j]? = some x := by simpa [ixl] using hx
      have h1' : (ixl r m).drop (j + 1) = (r.drop (j + 1)).map fun n : Nat => (n : Int) - 1 := by simpa [ixl] using h1
      have h3 : m % PR r ≠ PR r - 1 := fun e => by
        have := last_mod r hr m e
        rw [this] at hx'
        simp [hj'] at hx'
        omega
      have h4 := ih hr j hj' hx' h1'
      simp only [ixl, succ_div hP h3, h4, List.take_succ_cons, List.cons_append, List.length_cons]
      congr 2
      simp
theorem pz_ixl_aux (ns : List Nat) (hp : ∀ n ∈ ns, 0 < n) (m : Nat) (p : Int) : ((ns.map fun n : Nat => (n : Int)).zip (ixl ns m)).foldl (fun p a => p * a.1 + a.2) p = p * (PR ns : Int) + ((m % PR ns : Nat) : Int) := by
  induction ns generalizing p with
  | nil => simp [ixl, PR, Nat.mod_one]
  | cons n r ih =>
    have hr : ∀ x ∈ r, 0 < x := fun x hx => hp x (by simp [hx])
    simp only [ixl, List.map_cons, List.zip_cons_cons, List.foldl_cons, PR]
    rw [ih hr, Nat.mul_comm n, Nat.mod_mul]
    simp only [Int.natCast_add, Int.natCast_mul, Int.add_mul, Int.mul_assoc]
    rw [Int.mul_comm (PR r : Int) (n : Int), Int.mul_comm (PR r : Int) _]
    omega
end Go.Gr
end
section
namespace Go.Gr
def swp (l : List Int) (a b : Nat) : List Int := (l.set a (l.getD b 0)).set b (l.getD a 0)
def swn (l : List Nat) (a b : Nat) : List Nat := (l.set a (l.getD b 0)).set b (l.getD a 0)
theorem swp_length (l : List Int) (a b : Nat) : (swp l a b).length = l.length := by simp [swp]
theorem swn_length (l : List Nat) (a b : Nat) : (swn l a b).length = l.length := by simp [swn]
theorem swp_get {l : List Int} {a b : Nat} (ha : a < l.length) (hb : b < l.length) (k : Nat) : (swp l a b)[k]? = if k = b then l[a]? else if k = a then l[b]? else l[k]? := by
  unfold swp
  rw [List.getElem?_set, List.getElem?_set]
  by_cases e1 : k = b
  · subst e1
    simp [hb, ha, List.getD_eq_getElem?_getD]
  · rw [if_neg (fun e => e1 e.symm), if_neg e1]
    by_cases e2 : k = a
    · subst e2
      simp [ha, hb, List.getD_eq_getElem?_getD]
    · rw [if_neg (fun e => e2 e.symm), if_neg e2]
theorem swn_get {l : List Nat} {a b : Nat} (ha : a < l.length) (hb : b < l.length) (k : Nat) : (swn l a b)[k]? = if k = b then l[a]? else if k = a then l[b]? else l[k]? := by
  unfold swn
  rw [List.getElem?_set, List.getElem?_set]
  by_cases e1 : k = b
  · subst e1
    simp [hb, ha, List.getD_eq_getElem?_getD]
  · rw [if_neg (fun e => e1 e.symm), if_neg e1]
    by_cases e2 : k = a
    · subst e2
      simp [ha, hb, List.getD_eq_getElem?_getD]
    · rw [if_neg (fun e => e2 e.symm), if_neg e2]
theorem swp_map {l : List Nat} {a b : Nat} (ha : a < l.length) (hb : b < l.length) : swp (l.map fun n : Nat => (n : Int)) a b = (swn l a b).map fun n : Nat => (n : Int) := by
  refine List.ext_getElem? fun k => ?_
  rw [swp_get (by simpa using ha) (by simpa using hb), List.getElem?_map, List.getElem?_map, List.getElem?_map, List.getElem?_map, swn_get ha hb]
  by_cases e1 : k = b
  · simp [e1]
  · by_cases e2 : k = a
    · subst e2; simp [e1]
    · simp [e1, e2]
theorem mem_swn {l : List Nat} {a b : Nat} (ha : a < l.length) (hb : b < l.length) {n : Nat} (hn : n ∈ swn l a b) : n ∈ l := by
  obtain ⟨k, hk⟩ := List.getElem?_of_mem hn
  rw [swn_get ha hb] at hk
  split at hk
  · exact List.mem_of_getElem? hk
  · split at hk <;> exact List.mem_of_getElem? hk
theorem swp_app {l r : List Int} {a b : Nat} (ha : a < l.length) (hb : b < l.length) : swp (l ++ r) a b = swp l a b ++ r := by
  unfold swp
  have e1 : (l ++ r).getD b 0 = l.getD b 0 := by
    rw [List.getD_eq_getElem?_getD, List.getD_eq_getElem?_getD, List.getElem?_append_left hb]
  have e2 : (l ++ r).getD a 0 = l.getD a 0 := by
    rw [List.getD_eq_getElem?_getD, List.getD_eq_getElem?_getD, List.getElem?_append_left ha]
  rw [e1, e2, List.set_append_left _ _ ha, List.set_append_left _ _ (by simpa using hb)]
theorem swp_swp {l : List Int} {a b : Nat} (ha : a < l.length) (hb : b < l.length) : swp (swp l a b) a b = l := by
  refine List.ext_getElem? fun k => ?_
  rw [swp_get (by rw [swp_length]; exact ha) (by rw [swp_length]; exact hb), swp_get ha hb, swp_get ha hb, swp_get ha hb]
  by_cases e1 : k = b
  · subst e1
    by_cases e2 : a = k
    · subst e2; simp
    · simp [e2]
  · by_cases e2 : k = a
    · subst e2; simp [e1]
    · simp [e1, e2]
theorem swp_comm {l : List Int} {a b : Nat} (ha : a < l.length) (hb : b < l.length) : swp l a b = swp l b a := by
  refine List.ext_getElem? fun k => ?_
  rw [swp_get ha hb, swp_get hb ha]
  by_cases e1 : k = b
  · subst e1
    by_cases e2 : k = a
    · subst e2; simp
    · simp [e2]
  · simp [e1]
theorem swp_bd {size l : List Int} {a b : Nat} (ha : a < size.length) (hb : b < size.length) (hl : l.length = size.length) (h : ∀ (k : Nat) (n x : Int), (swp size a b)[k]? = some n → l[k]? = some x → 0 ≤ x ∧ x ≤ n - 1) :
    ∀ (k : Nat) (n x : Int), size[k]? = some n → (swp l a b)[k]? = some x → 0 ≤ x ∧ x ≤ n - 1 := by
  intro k n x hn hx
  rw [swp_get (by omega) (by omega)] at hx
  split at hx
  · rename_i e; subst e
    refine h a n x ?_ hx
    rw [swp_get ha hb]
    split
    · rename_i e; subst e; exact hn
    · simp [hn]
  · rename_i e1
    split at hx
    · rename_i e2; subst e2
      refine h b n x ?_ hx
      rw [swp_get ha hb]; simp [hn]
    · rename_i e2
      refine h k n x ?_ hx
      rw [swp_get ha hb]; simp [e1, e2, hn]
end Go.Gr
end
section
namespace Go.Proofs.YtlcaefokcnohnaaGreatDoor
open Go Go.V Go.Gr
def nz (ns : List Nat) : List Int := ns.map fun n : Nat => (n : Int)
theorem prod_nz (ns : List Nat) : prod (nz ns) = (PR ns : Nat) := by
  have h : ∀ (l : List Nat) (q : Int), (nz l).foldl (· * ·) q = q * (PR l : Nat) := by
    intro l
    induction l with
    | nil => intro q; simp [nz, PR]
    | cons x l ih =>
      intro q
      have := ih (q * x)
      simp only [nz, List.map_cons, List.foldl_cons, PR] at this ⊢
      rw [this, Int.natCast_mul, Int.mul_assoc]
  have := h ns 1
  simpa [prod] using this
theorem PR_app (l r : List Nat) : PR (l ++ r) = PR l * PR r := by
  induction l with
  | nil => simp [PR]
  | cons x l ih => simp [PR, ih, Nat.mul_assoc]
theorem PR_set {l : List Nat} {a : Nat} {x y : Nat} (h : l[a]? = some x) : PR (l.set a y) * x = PR l * y := by
  induction l generalizing a with
  | nil => simp at h
  | cons z l ih =>
    cases a with
    | zero => simp at h; subst h; simp only [List.set_cons_zero, PR]; rw [Nat.mul_assoc, Nat.mul_comm, Nat.mul_comm z, Nat.mul_comm (PR l)]
    | succ a =>
      have := ih (a := a) (by simpa using h)
      simp only [List.set_cons_succ, PR]
      rw [Nat.mul_assoc, this, Nat.mul_assoc]
theorem PR_swn {l : List Nat} {a b : Nat} (ha : a < l.length) (hb : b < l.length) : PR (swn l a b) = PR l := by
  by_cases e : a = b
  · subst e
    congr 1
    refine List.ext_getElem? fun k => ?_
    rw [swn_get ha hb]
    split
    · rename_i e; rw [e]
    · rfl
  obtain ⟨x, hx⟩ : ∃ x, l[a]? = some x := ⟨_, List.getElem?_eq_getElem ha⟩
  obtain ⟨y, hy⟩ : ∃ y, l[b]? = some y := ⟨_, List.getElem?_eq_getElem hb⟩
  unfold swn
  rw [List.getD_eq_getElem?_getD, List.getD_eq_getElem?_getD, hx, hy]
  simp only [Option.getD_some]
  have h1 := PR_set (y := y) hx
  have h2 := PR_set (l := l.set a y) (a := b) (x := y) (y := x) (by rw [List.getElem?_set]; simp [e, hy])
  rcases Nat.eq_zero_or_pos x with hx0 | hx0
  · subst hx0
    have e1 : PR l = 0 := by
      have := PR_set (y := 1) hx
      simpa using this.symm
    have e2 : PR ((l.set a y).set b 0) = 0 := by
      have : ((l.set a y).set b 0)[b]? = some 0 := by simp [List.getElem?_set, hb]
      have := PR_set (y := 1) this
      simpa using this.symm
    rw [e1, e2]
  · rcases Nat.eq_zero_or_pos y with hy0 | hy0
    · subst hy0
      have e1 : PR l = 0 := by
        have := PR_set (y := 1) hy
        simpa using this.symm
      have e2 : PR ((l.set a 0).set b x) = 0 := by
        have : ((l.set a 0).set b x)[a]? = some 0 := by
          rw [List.getElem?_set, if_neg (fun h => e h.symm), List.getElem?_set]; simp [ha]
        have := PR_set (y := 1) this
        simpa using this.symm
      rw [e1, e2]
    · have h3 : PR ((l.set a y).set b x) * (y * x) = PR l * (y * x) := by
        rw [← Nat.mul_assoc, h2, Nat.mul_assoc, Nat.mul_comm x x, ← Nat.mul_assoc, h1, Nat.mul_assoc]
      exact Nat.eq_of_mul_eq_mul_right (Nat.mul_pos hy0 hx0) h3
def rl (lt : Int → Int → Bool) (data : List Int) (w : Nat) : Nat → List Int
  | 0 => slot data 0 w
  | i + 1 => (rl lt data w i).set (i % w) (if lt (data.getD i 0) ((rl lt data w i).getD (i % w) 0) then data.getD i 0 else (rl lt data w i).getD (i % w) 0)
theorem rl_length {lt : Int → Int → Bool} {data : List Int} {w : Nat} (h : w ≤ data.length) (i : Nat) : (rl lt data w i).length = w := by
  induction i with
  | zero => simp [rl, slot]; omega
  | succ i ih => simp [rl, ih]
end Go.Proofs.YtlcaefokcnohnaaGreatDoor
end
section
namespace Go.Proofs.YtlcaefokcnohnaaGreatDoor
open Go Go.V Go.Gr
theorem index_step {ns : List Nat} {m p n : Nat} (hn : ns[p]? = some n) (hp : p < ns.length) :
    (List.replicate (p + 1) (0 : Int) ++ (ixl ns m).drop (p + 1)).set p ((m / PR (ns.drop (p + 1)) % n : Nat) : Int) = List.replicate p 0 ++ (ixl ns m).drop p ∧ m / PR (ns.drop (p + 1)) / n = m / PR (ns.drop p) := by
  have hx := ixl_get ns m p n hn
  constructor
  · rw [List.set_append_left _ _ (by simp), List.replicate_succ', List.set_append_right _ _ (by simp)]
    rw [List.drop_eq_getElem_cons (i := p) (by rw [ixl_length]; exact hp)]
    have := (List.getElem?_eq_some_iff.1 hx).2
    rw [this]
    simp
  · have hd : ns.drop p = n :: ns.drop (p + 1) := by
      rw [List.drop_eq_getElem_cons hp]
      rw [(List.getElem?_eq_some_iff.1 hn).2]
    rw [hd, PR, Nat.div_div_eq_div_mul, Nat.mul_comm]
theorem rindex_c (ns : List Nat) (m : Nat) (hp : ∀ n ∈ ns, 0 < n ∧ n ≤ 1000000) (hl : ns.length ≤ 10000) (hm : m ≤ 1000000000) : Called Tryz.prog 29 [.ints .i64 (nz ns), .int .i64 m] (.ints .i64 (ixl ns m)) := by
  have hlen : (nz ns).length = ns.length := by simp [nz]
  refine called_of_run tbOk 6 ⟨Tryz.func29, rfl, rfl, Nat.le_of_ble_eq_true rfl⟩ ?_
  (conv => whnf)
  (conv => whnf)
  (try simp only [hlen, Int.toNat_natCast])
  repeat ((first | refine V.s1 ?_ | ((with_reducible refine recheck_and ?_ ?_); (focus ((conv => whnf); (try simp only [hlen, Int.toNat_natCast]); (repeat (refine V.s1 ?_; (try simp only [hlen, Int.toNat_natCast]))); exact ⟨rfl⟩)); (conv => whnf))); (try simp only [hlen, Int.toNat_natCast]))
  have e0 : List.replicate ns.length (0 : Int) = List.replicate ns.length 0 ++ (ixl ns m).drop ns.length := by
    rw [List.drop_of_length_le (by rw [ixl_length]; omega), List.append_nil]
  have e1 : (m : Int) = ((m / PR (ns.drop ns.length) : Nat) : Int) := by simp [PR]
  refine lp_any (ns.length) (fun k => k ≤ ns.length) (fun k => k) (fun k => [(1, .int .i64 ((m / PR (ns.drop k) : Nat) : Int)), (6, .int .i64 ((k : Int) - 1))]) (fun k => [(9, .arr .i64 (List.replicate k 0 ++ (ixl ns m).drop k))]) ?_ ?_ ?_
  · rw [← e0, ← e1]
    exact V.wk
  · exact Nat.le_refl _
  intro p hpl
  (conv => whnf)
  refine V.st ?_
  refine Cnd.split (CondB.mk (fun h => ?_) (fun h => ?_))
  · have hp0 : 0 < p := by simp at h; omega
    obtain ⟨p, rfl⟩ : ∃ q, p = q + 1 := ⟨p - 1, by omega⟩
    have hp1 : p < ns.length := by omega
    obtain ⟨n, hn⟩ : ∃ n, ns[p]? = some n := ⟨ns[p], List.getElem?_eq_getElem hp1⟩
    have hn0 := hp n (List.mem_of_getElem? hn)
    have en : (nz ns).getD p 0 = n := by simp [nz, List.getD_eq_getElem?_getD, hn]
    have e2 : (((p + 1 : Nat) : Int) - 1) = (p : Int) := by omega
    have hst := index_step (m := m) hn hp1
    have e3 : ((m / PR (ns.drop (p + 1)) : Nat) : Int) % (n : Int) = ((m / PR (ns.drop (p + 1)) % n : Nat) : Int) := by simp
    have e4 : ((m / PR (ns.drop (p + 1)) : Nat) : Int) / (n : Int) = ((m / PR (ns.drop p) : Nat) : Int) := by rw [← hst.2]; simp
    have hl2 : (List.replicate (p + 1) (0 : Int) ++ (ixl ns m).drop (p + 1)).length = ns.length := by simp [ixl_length]; omega
    have hl3 : m / PR (ns.drop (p + 1)) ≤ m := Nat.div_le_self _ _
    generalize hq : m / PR (ns.drop (p + 1)) = q at *
    (conv => whnf)
    (try simp only [hlen, e2, en, Int.toNat_natCast, Nat.zero_add])
    repeat ((first | refine V.s1 ?_ | ((with_reducible refine recheck_and ?_ ?_); (focus ((conv => whnf); (try simp only [hlen, e2, en, Int.toNat_natCast, Nat.zero_add]); (repeat (refine V.s1 ?_; (try simp only [hlen, e2, en, Int.toNat_natCast, Nat.zero_add]))); exact ⟨rfl⟩)); (conv => whnf))); (try simp only [hlen, e2, en, Int.toNat_natCast, Nat.zero_add]))
    rw [e3, hst.1]
    refine V.st ?_
    rw [e4]
    exact ⟨p, by omega, by omega, V.wk⟩
  · have hp0 : p = 0 := by simp at h; omega
    subst hp0
    (conv => whnf)
    refine V.st ?_
    have h0 : (List.replicate 0 (0 : Int) ++ (ixl ns m).drop 0) = ixl ns m := by simp
    have hli := ixl_length ns m
    rw [h0]
    refine Fin.of ?_
    rw [List.take_of_length_le (by rw [hli]; simp)]
end Go.Proofs.YtlcaefokcnohnaaGreatDoor
end
section
namespace Go.Proofs.YtlcaefokcnohnaaGreatDoor
open Go Go.V Go.Gr
def lastL (ns : List Nat) : List Int := ns.map fun n : Nat => (n : Int) - 1
def flat (ns : List Nat) (f : Nat → List Int) (m : Nat) : List Int := (List.range m).flatMap f
theorem flat_succ (ns : List Nat) (f : Nat → List Int) (m : Nat) : flat ns f (m + 1) = flat ns f m ++ f m := by
  simp [flat, List.range_succ]
theorem flat_len {ns : List Nat} {f : Nat → List Int} {m : Nat} (h : ∀ j, j < m → (f j).length ≤ 4) : (flat ns f m).length ≤ 4 * m := by
  induction m with
  | zero => simp [flat]
  | succ m ih =>
    rw [flat_succ, List.length_append]
    have h1 := ih fun j hj => h j (by omega)
    have h2 := h m (by omega)
    omega
theorem PR_le {ns : List Nat} (h1 : ns.length ≤ 4) (h2 : ∀ n ∈ ns, 2 ≤ n ∧ n ≤ 9) : PR ns ≤ 6561 := by
  have hb : ∀ l : List Nat, (∀ n ∈ l, 2 ≤ n ∧ n ≤ 9) → PR l ≤ 9 ^ l.length := by
    intro l
    induction l with
    | nil => intro _; decide
    | cons x l ih =>
      intro hl
      have h3 := ih fun n hn => hl n (by simp [hn])
      have h4 := hl x (by simp)
      rw [PR, List.length_cons, Nat.pow_succ, Nat.mul_comm]
      exact Nat.mul_le_mul h3 h4.2
  exact Nat.le_trans (hb ns h2) (Nat.pow_le_pow_right (by omega) h1)
theorem ixl_pad0 {ns : List Nat} (h1 : 1 ≤ ns.length ∧ ns.length ≤ 4) (h2 : ∀ n ∈ ns, 2 ≤ n ∧ n ≤ 9) : pad4 (ixl ns 0) = [0, 0, 0, 0] := by
  rw [ixl_zero_mod ns (fun n hn => by have := h2 n hn; omega) 0 (Nat.zero_mod _)]
  unfold pad4
  rw [List.length_replicate, ← List.replicate_append_replicate.symm]
  have : ns.length + (4 - ns.length) = 4 := by omega
  simp [this]
theorem pad4_inj {a b : List Int} (h : a.length = b.length) (e : pad4 a = pad4 b) : a = b := (List.append_inj e h).1
theorem pad4_get {l : List Int} {p k : Nat} {x : Int} (h : l[p]? = some x) (hk : p < k) (hl : l.length ≤ 4) : (pad4 (l.take k)).getD p 0 = x := by
  have hp := (List.getElem?_eq_some_iff.1 h).1
  unfold pad4
  rw [List.getD_eq_getElem?_getD, List.getElem?_append_left (by simp; omega), List.getElem?_take_of_lt hk, h]
  rfl
theorem pad4_incr {l : List Int} {p : Nat} {x y : Int} (h : l[p]? = some x) (h1 : p < l.length) (hl : l.length ≤ 4) : (pad4 (l.take (p + 1))).set p y = pad4 (l.take p ++ y :: List.replicate (l.length - (p + 1)) 0) := by
  unfold pad4
  have e1 : (l.take (p + 1)).length = p + 1 := by simp; omega
  have e2 : (l.take p ++ y :: List.replicate (l.length - (p + 1)) 0).length = l.length := by simp; omega
  have e4 : (l.take p).length = p := by simp; omega
  rw [e1, e2, List.set_append_left _ _ (by omega), List.take_add_one, h]
  have e3 : (l.take p ++ (some x).toList).set p y = l.take p ++ [y] := by
    rw [List.set_append_right _ _ (by omega), e4, Nat.sub_self]
    rfl
  rw [e3, List.append_assoc, List.append_assoc]
  congr 1
  rw [List.singleton_append, List.cons_append, List.replicate_append_replicate]
  congr 2
  omega
theorem pad4_zero {l : List Int} {p : Nat} {x : Int} (h : l[p]? = some x) (hl : l.length ≤ 4) : (pad4 (l.take (p + 1))).set p 0 = pad4 (l.take p) := by
  have h1 := (List.getElem?_eq_some_iff.1 h).1
  rw [pad4_incr h h1 hl]
  unfold pad4
  have e2 : (l.take p ++ (0 : Int) :: List.replicate (l.length - (p + 1)) 0).length = l.length := by simp; omega
  have e3 : (l.take p).length = p := by simp; omega
  rw [e2, e3, List.append_assoc]
  congr 1
  rw [← List.replicate_succ, List.replicate_append_replicate]
  congr 1
  omega
theorem ixl_bd {ns : List Nat} {m p n : Nat} {x : Int} (hpos : ∀ n ∈ ns, 0 < n) (hn : ns[p]? = some n) (hx : (ixl ns m)[p]? = some x) : 0 ≤ x ∧ x ≤ (n : Int) - 1 := by
  rw [ixl_get ns m p n hn] at hx
  cases hx
  have := Nat.mod_lt (m / PR (ns.drop (p + 1))) (hpos n (List.mem_of_getElem? hn))
  omega
end Go.Proofs.YtlcaefokcnohnaaGreatDoor
end
section
namespace Go.Proofs.YtlcaefokcnohnaaGreatDoor
open Go Go.V Go.Gr
def mkV0 (vals : List Int) (w m k : Nat) : Int := if 0 < vals.length then vals.getD ((m * w + k) % vals.length) 0 else 0
def mkV (vals : List Int) (sm : Bool) (ns : List Nat) (w m k : Nat) : Int :=
  if sm then 60000 * (ixl ns m).getD (k % ns.length) 0 / ((nz ns).getD (k % ns.length) 0 - 1) + mkV0 vals w m k % 5000 else mkV0 vals w m k
def mkF (vals : List Int) (sm : Bool) (ns : List Nat) (w m : Nat) : List Int := (List.range w).map (mkV vals sm ns w m)
theorem getD_mem {xs : List Int} {i : Nat} (h : i < xs.length) : xs.getD i 0 ∈ xs := by
  rw [List.getD_eq_getElem?_getD, List.getElem?_eq_getElem h]; simp
theorem mkV0_bd {vals : List Int} {w m k : Nat} (hv : ∀ v ∈ vals, 0 ≤ v ∧ v ≤ 65535) : 0 ≤ mkV0 vals w m k ∧ mkV0 vals w m k ≤ 65535 := by
  unfold mkV0
  split
  · rename_i h
    exact hv _ (getD_mem (Nat.mod_lt _ h))
  · omega
theorem mk_sm {ns : List Nat} {m k : Nat} (h1 : 1 ≤ ns.length) (h2 : ∀ n ∈ ns, 2 ≤ n ∧ n ≤ 9) : 0 ≤ (ixl ns m).getD (k % ns.length) 0 ∧ (ixl ns m).getD (k % ns.length) 0 ≤ 8 ∧ 1 ≤ (nz ns).getD (k % ns.length) 0 - 1 ∧ (nz ns).getD (k % ns.length) 0 - 1 ≤ 8 ∧
    0 ≤ 60000 * (ixl ns m).getD (k % ns.length) 0 / ((nz ns).getD (k % ns.length) 0 - 1) ∧ 60000 * (ixl ns m).getD (k % ns.length) 0 / ((nz ns).getD (k % ns.length) 0 - 1) ≤ 60000 := by
  have hlt : k % ns.length < ns.length := Nat.mod_lt _ (by omega)
  generalize k % ns.length = i at *
  obtain ⟨n, hn⟩ : ∃ n, ns[i]? = some n := ⟨_, List.getElem?_eq_getElem hlt⟩
  obtain ⟨x, hx⟩ : ∃ x, (ixl ns m)[i]? = some x := ⟨_, List.getElem?_eq_getElem (by rw [ixl_length]; exact hlt)⟩
  have hnb := h2 n (List.mem_of_getElem? hn)
  have hxb := ixl_bd (fun n hn => by have := h2 n hn; omega) hn hx
  have e1 : (nz ns).getD i 0 = n := by simp [nz, List.getD_eq_getElem?_getD, hn]
  have e2 : (ixl ns m).getD i 0 = x := by rw [List.getD_eq_getElem?_getD, hx]; rfl
  rw [e1, e2]
  refine ⟨hxb.1, by omega, by omega, by omega, Int.ediv_nonneg (by omega) (by omega), ?_⟩
  exact Int.ediv_le_of_le_mul (by omega) (by omega)
theorem mkV_bd {vals : List Int} {sm : Bool} {ns : List Nat} {w m k : Nat} (hv : ∀ v ∈ vals, 0 ≤ v ∧ v ≤ 65535) (h1 : 1 ≤ ns.length) (h2 : ∀ n ∈ ns, 2 ≤ n ∧ n ≤ 9) : 0 ≤ mkV vals sm ns w m k ∧ mkV vals sm ns w m k ≤ 65535 := by
  have h3 := mkV0_bd (w := w) (m := m) (k := k) hv
  have h4 := mk_sm (m := m) (k := k) h1 h2
  unfold mkV
  split <;> omega
theorem made_c (ds : List Int) (o : Int) (vals : List Int) (sm : Bool) (ns : List Nat) (w : Nat) (hv : ∀ v ∈ vals, 0 ≤ v ∧ v ≤ 65535) (hvl : vals.length ≤ 281474976710656) (h1 : 1 ≤ ns.length ∧ ns.length ≤ 4) (h2 : ∀ n ∈ ns, 2 ≤ n ∧ n ≤ 9) (hw : 1 ≤ w ∧ w ≤ 4) :
    Called Tryz.prog 14 [.agg [.ints .u8 ds, .int .u8 o, .ints .u16 vals, .bool sm], .ints .i64 (nz ns), .int .i64 w] (gridD (nz ns) w (flat ns (mkF vals sm ns w) (PR ns))) := by
  have hlen : (nz ns).length = ns.length := by simp [nz]
  have hPR := PR_le h1.2 h2
  have hprod : prod (nz ns) = (PR ns : Nat) := prod_nz ns
  have hpz : ∀ k, InR .i64 (prod ((nz ns).take k)) := fun k => (prod_bd (size := nz ns) (by
    rw [List.all_eq_true]
    intro x hx
    obtain ⟨n, hn, rfl⟩ := List.mem_map.1 hx
    have := h2 n hn
    simp; omega) k).2.2 (by omega)
  have hfl : ∀ j, (mkF vals sm ns w j).length ≤ 4 := fun j => by simp [mkF]; omega
  refine called_of_run tbOk 6 ⟨Tryz.func14, rfl, rfl, Nat.le_of_ble_eq_true rfl⟩ ?_
  (conv => whnf)
  (conv => whnf)
  (try simp only [Nat.zero_add])
  repeat ((first | refine V.s1 ?_ | ((with_reducible refine recheck_and ?_ ?_); (focus ((conv => whnf); (try simp only [Nat.zero_add]); (repeat (refine V.s1 ?_; (try simp only [Nat.zero_add]))); exact ⟨rfl⟩)); (conv => whnf))); (try simp only [Nat.zero_add]))
  refine Lp.ghostBox 72 7 2 .i64 (by decide) (by decide) ?_
  (conv => whnf)
  refine lp_any (0) (fun k => k ≤ PR ns) (fun k => PR ns - k) (fun k => [(8, .int .i64 k)]) (fun k => [(7, .box [.ints .i64 (nz ns), .int .i64 w, .osl 72 0 (flat ns (mkF vals sm ns w) k).length]), (72, .arr .i64 (flat ns (mkF vals sm ns w) k))]) ?_ ?_ ?_
  · exact V.wk
  · exact Nat.zero_le _
  intro m hm
  have hfm := flat_len (ns := ns) (m := m) (fun j _ => hfl j)
  (conv => whnf)
  (try simp only [hprod])
  repeat ((first | refine V.s1 ?_ | ((with_reducible refine recheck_and ?_ ?_); (focus ((conv => whnf); (try simp only [hprod]); (repeat (refine V.s1 ?_; (try simp only [hprod]))); exact ⟨rfl⟩)); (conv => whnf)) | ((try ((with_reducible refine .ext ?_); (conv => whnf); (try simp only [hprod]))); (with_reducible refine call_intro (r := ?_) ?_ ?_); rotate_left; (focus (first | exact (points_c _ (fun k _ => hpz k) (by omega)))); (conv => whnf))); (try simp only [hprod]))
  refine Cnd.split (CondB.mk (fun hq => ?_) (fun hq => ?_))
  · rw [decide_eq_true_eq] at hq
    have hm1 : m < PR ns := by omega
    (conv => whnf)
    refine V.st ?_
    repeat ((try ((with_reducible refine .ext ?_); (conv => whnf))); (with_reducible refine call_intro (r := ?_) ?_ ?_); rotate_left; (focus (first | exact (rindex_c ns m (fun n hn => by have := h2 n hn; omega) (by omega) (by omega)))); (conv => whnf); refine V.st ?_)
    refine lp_any (0) (fun k => k ≤ w) (fun k => w - k) (fun k => [(10, .int .i64 k)]) (fun k => [(7, .box [.ints .i64 (nz ns), .int .i64 w, .osl 72 0 (flat ns (mkF vals sm ns w) m ++ (List.range k).map (mkV vals sm ns w m)).length]), (72, .arr .i64 (flat ns (mkF vals sm ns w) m ++ (List.range k).map (mkV vals sm ns w m)))]) ?_ ?_ ?_
    · simp only [List.range_zero, List.map_nil, List.append_nil]
      exact V.wk
    · exact Nat.zero_le _
    intro k hk
    have hb0 := mkV0_bd (w := w) (m := m) (k := k) hv
    have hbs := mk_sm (m := m) (k := k) h1.1 h2
    have hmw : (m : Int) * w = ((m * w : Nat) : Int) := by simp
    have hmw2 : m * w ≤ 6561 * 4 := Nat.mul_le_mul (by omega) (by omega)
    (conv => whnf)
    refine V.st ?_
    refine Cnd.split (CondB.mk (fun hq2 => ?_) (fun hq2 => ?_))
    · rw [decide_eq_true_eq] at hq2
      (conv => whnf)
      refine V.st ?_
      refine cnd_meet [(11, .int .i64 (mkV0 vals w m k))] [] (CondB.mk (fun hq3 => ?_) (fun hq3 => ?_)) ?_
      · rw [decide_eq_true_eq] at hq3
        have hvp : 0 < vals.length := by omega
        have e1 : ((((m * w : Nat) : Int) + k) % vals.length).toNat = (m * w + k) % vals.length := by
          rw [← Int.natCast_add, ← Int.natCast_emod, Int.toNat_natCast]
        have e2 : vals.getD ((m * w + k) % vals.length) 0 = mkV0 vals w m k := by unfold mkV0; rw [if_pos hvp]
        have e3 := Int.emod_nonneg (((m * w : Nat) : Int) + k) (b := vals.length) (by omega)
        have e4 := Int.emod_lt_of_pos (((m * w : Nat) : Int) + k) (b := vals.length) (by omega)
        (conv => whnf)
        refine V.st ?_
        refine ⟨(.take 0 (.take 1 (.take 2 (.take 3 (.take 4 (.take 5 (.take 6 (.take 7 (.take 8 (.take 9 (.take 10 (.take 11 (.take 12 (.take 13 (.take 14 (.done)))))))))))))))), ⟨by kernel_rfl, by kernel_rfl, by kernel_rfl⟩, .go ?_⟩
        (conv => whnf)
        (try simp only [hmw, e1, e2])
        repeat ((first | refine V.s1 ?_ | ((with_reducible refine recheck_and ?_ ?_); (focus ((conv => whnf); (try simp only [hmw, e1, e2]); (repeat (refine V.s1 ?_; (try simp only [hmw, e1, e2]))); exact ⟨rfl⟩)); (conv => whnf))); (try simp only [hmw, e1, e2]))
        exact V.wk
      · rw [decide_eq_false_iff_not] at hq3
        have e2 : mkV0 vals w m k = 0 := by unfold mkV0; rw [if_neg (by omega)]
        rw [e2]
        (conv => whnf)
        refine V.st ?_
        exact V.wk
      (conv => whnf)
      refine V.st ?_
      refine cnd_meet [(11, .int .i64 (mkV vals sm ns w m k))] [] (CondB.mk (fun hq3 => ?_) (fun hq3 => ?_)) ?_
      · have hli := ixl_length ns m
        have hki : (k : Int) % (ns.length : Int) = ((k % ns.length : Nat) : Int) := by simp
        have hkl : k % ns.length < ns.length := Nat.mod_lt _ (by omega)
        have e2 : mkV vals sm ns w m k = 60000 * (ixl ns m).getD (k % ns.length) 0 / ((nz ns).getD (k % ns.length) 0 - 1) + mkV0 vals w m k % 5000 := by unfold mkV; rw [hq3]; rfl
        rw [e2]
        generalize mkV0 vals w m k = v0 at *
        generalize hgi : k % ns.length = i at *
        (conv => whnf)
        (try simp only [hlen, hki, Int.toNat_natCast])
        repeat ((first | refine V.s1 ?_ | ((with_reducible refine recheck_and ?_ ?_); (focus ((conv => whnf); (try simp only [hlen, hki, Int.toNat_natCast]); (repeat (refine V.s1 ?_; (try simp only [hlen, hki, Int.toNat_natCast]))); exact ⟨rfl⟩)); (conv => whnf))); (try simp only [hlen, hki, Int.toNat_natCast]))
        refine ⟨(.take 0 (.take 1 (.take 2 (.take 3 (.take 4 (.take 5 (.take 6 (.take 7 (.take 8 (.take 9 (.take 10 (.take 11 (.take 12 (.take 13 (.ev (.cons 14 [] (.done) (.nil))))))))))))))))), ⟨by kernel_rfl, by kernel_rfl, by kernel_rfl⟩, .go ?_⟩
        (conv => whnf)
        (try simp only [hlen, hki, Int.toNat_natCast])
        repeat ((first | refine V.s1 ?_ | ((with_reducible refine recheck_and ?_ ?_); (focus ((conv => whnf); (try simp only [hlen, hki, Int.toNat_natCast]); (repeat (refine V.s1 ?_; (try simp only [hlen, hki, Int.toNat_natCast]))); exact ⟨rfl⟩)); (conv => whnf))); (try simp only [hlen, hki, Int.toNat_natCast]))
        exact V.wk
      · have e2 : mkV vals sm ns w m k = mkV0 vals w m k := by unfold mkV; rw [hq3]; rfl
        rw [e2]
        (conv => whnf)
        refine V.st ?_
        exact V.wk
      have hst : flat ns (mkF vals sm ns w) m ++ (List.range k).map (mkV vals sm ns w m) ++ [mkV vals sm ns w m k] = flat ns (mkF vals sm ns w) m ++ (List.range (k + 1)).map (mkV vals sm ns w m) := by
        rw [List.range_succ]; simp
      have hst2 : (flat ns (mkF vals sm ns w) m ++ (List.range k).map (mkV vals sm ns w m)).length + 1 = (flat ns (mkF vals sm ns w) m ++ (List.range (k + 1)).map (mkV vals sm ns w m)).length := by rw [← hst]; simp; omega
      (conv => whnf)
      refine V.st ?_
      try refine And.intro (fun _ => ⟨rfl, by simp; omega⟩) ?_
      (conv => whnf)
      (try simp only [Nat.zero_add, List.drop_zero, List.take_succ_cons, List.take_zero, List.length_cons, List.length_nil, hst, hst2])
      repeat ((first | refine V.s1 ?_ | ((with_reducible refine recheck_and ?_ ?_); (focus ((conv => whnf); (try simp only [Nat.zero_add, List.drop_zero, List.take_succ_cons, List.take_zero, List.length_cons, List.length_nil, hst, hst2]); (repeat (refine V.s1 ?_; (try simp only [Nat.zero_add, List.drop_zero, List.take_succ_cons, List.take_zero, List.length_cons, List.length_nil, hst, hst2]))); exact ⟨rfl⟩)); (conv => whnf))); (try simp only [Nat.zero_add, List.drop_zero, List.take_succ_cons, List.take_zero, List.length_cons, List.length_nil, hst, hst2]))
      exact ⟨k + 1, by omega, by omega, V.wk⟩
    · rw [decide_eq_false_iff_not] at hq2
      have hkw : k = w := by omega
      subst hkw
      have hfs : flat ns (mkF vals sm ns k) m ++ (List.range k).map (mkV vals sm ns k m) = flat ns (mkF vals sm ns k) (m + 1) := (flat_succ _ _ _).symm
      rw [hfs]
      (conv => whnf)
      refine V.st ?_
      exact ⟨m + 1, by omega, by omega, V.wk⟩
  · rw [decide_eq_false_iff_not] at hq
    have hm1 : m = PR ns := by omega
    subst hm1
    (conv => whnf)
    refine V.st ?_
    rw [List.take_of_length_le (Nat.le_refl _)]
    exact Fin.of rfl
end Go.Proofs.YtlcaefokcnohnaaGreatDoor
end
section
namespace Go.Proofs.YtlcaefokcnohnaaGreatDoor
open Go Go.V Go.Gr
def nsD (ds : List Int) : List Nat := if ds = [] then [2] else (ds.take 3).map fun x => (2 + x % 3).toNat
def wD (o : Int) : Nat := (1 + o % 3).toNat
def draftD (ds : List Int) (o : Int) (vals : List Int) (sm : Bool) : D := .agg [.ints .u8 ds, .int .u8 o, .ints .u16 vals, .bool sm]
def dData (ds : List Int) (o : Int) (vals : List Int) (sm : Bool) : List Int := flat (nsD ds) (mkF vals sm (nsD ds) (wD o)) (PR (nsD ds))
theorem nsD_bd (ds : List Int) : (1 ≤ (nsD ds).length ∧ (nsD ds).length ≤ 3) ∧ ∀ n ∈ nsD ds, 2 ≤ n ∧ n ≤ 4 := by
  unfold nsD
  split
  · simp
  · rename_i h
    have : 0 < ds.length := List.length_pos_iff.2 h
    refine ⟨by simp; omega, fun n hn => ?_⟩
    obtain ⟨x, _, rfl⟩ := List.mem_map.1 hn
    omega
theorem wD_bd (o : Int) : 1 ≤ wD o ∧ wD o ≤ 3 := by unfold wD; omega
theorem nz_nsD {ds : List Int} (h : ds ≠ []) : (ds.take 3).map (fun x => 2 + x % 3) = nz (nsD ds) := by
  unfold nsD nz
  rw [if_neg h, List.map_map]
  refine List.map_congr_left fun x _ => ?_
  simp
  omega
theorem zT15_0 : type_of% @List.take_succ_cons.{0} ∧ type_of% @List.take_zero.{0} ∧ type_of% @Nat.zero_add ∧ type_of% @List.drop_zero.{0} := ⟨@List.take_succ_cons.{0}, @List.take_zero.{0}, @Nat.zero_add, @List.drop_zero.{0}⟩
theorem draft_c (ds : List Int) (o : Int) (vals : List Int) (sm : Bool) (hd : ∀ v ∈ ds, 0 ≤ v ∧ v ≤ 255) (hdl : ds.length ≤ 281474976710656) (ho : 0 ≤ o ∧ o ≤ 255) (hv : ∀ v ∈ vals, 0 ≤ v ∧ v ≤ 65535) (hvl : vals.length ≤ 281474976710656) :
    Called Tryz.prog 6 [draftD ds o vals sm] (gridD (nz (nsD ds)) (wD o) (dData ds o vals sm)) := by
  have hb := nsD_bd ds
  have hwb := wD_bd o
  have hmade := made_c ds o vals sm (nsD ds) (wD o) hv hvl (by omega) (fun n hn => by have := hb.2 n hn; omega) (by omega)
  have hwD : 1 + o % 3 = (wD o : Int) := by unfold wD; omega
  refine called_of_run tbOk 6 ⟨Tryz.func6, rfl, rfl, Nat.le_of_ble_eq_true rfl⟩ ?_
  (conv => whnf)
  (conv => whnf)
  (try simp only [Nat.zero_add])
  repeat ((first | refine V.s1 ?_ | ((with_reducible refine recheck_and ?_ ?_); (focus ((conv => whnf); (try simp only [Nat.zero_add]); (repeat (refine V.s1 ?_; (try simp only [Nat.zero_add]))); exact ⟨rfl⟩)); (conv => whnf))); (try simp only [Nat.zero_add]))
  refine Lp.ghostSlot 26 3 .i64 (by decide) ?_
  (conv => whnf)
  refine lp_any (0) (fun k => k ≤ ds.length ∧ k ≤ 3) (fun k => 3 - k) (fun k => [(4, .int .i64 k), (3, .osl 26 0 ((ds.take k).map fun x => 2 + x % 3).length)]) (fun k => [(26, .arr .i64 ((ds.take k).map fun x => 2 + x % 3))]) ?_ ?_ ?_
  · exact V.wk
  · omega
  intro k hk
  (conv => whnf)
  refine V.st ?_
  refine Cnd.split (CondB.mk (fun hq => ?_) (fun hq => ?_))
  · simp only [Bool.and_eq_true, decide_eq_true_eq] at hq
    obtain ⟨x, hx, ex⟩ := getxn (xs := ds) (k := k) (by omega)
    have hxb := hd x (List.mem_of_getElem? hx)
    have hst : (ds.take k).map (fun x => 2 + x % 3) ++ [2 + x % 3] = (ds.take (k + 1)).map fun x => 2 + x % 3 := by
      rw [List.take_add_one, hx]; simp
    have hst2 : ((ds.take k).map fun x => 2 + x % 3).length + 1 = ((ds.take (k + 1)).map fun x => 2 + x % 3).length := by rw [← hst]; simp
    have hml : ((ds.take k).map fun x => 2 + x % 3).length ≤ 3 := by simp; omega
    (conv => whnf)
    (try simp only [Int.toNat_natCast, ex])
    repeat ((first | refine V.s1 ?_ | ((with_reducible refine recheck_and ?_ ?_); (focus ((conv => whnf); (try simp only [Int.toNat_natCast, ex]); (repeat (refine V.s1 ?_; (try simp only [Int.toNat_natCast, ex]))); exact ⟨rfl⟩)); (conv => whnf))); (try simp only [Int.toNat_natCast, ex]))
    try refine And.intro (fun _ => ⟨trivial, by simp; omega⟩) ?_
    (conv => whnf)
    (try simp only [Nat.zero_add, List.drop_zero, List.take_succ_cons, List.take_zero, List.length_cons, List.length_nil, hst, hst2])
    repeat ((first | refine V.s1 ?_ | ((with_reducible refine recheck_and ?_ ?_); (focus ((conv => whnf); (try simp only [Nat.zero_add, List.drop_zero, List.take_succ_cons, List.take_zero, List.length_cons, List.length_nil, hst, hst2]); (repeat (refine V.s1 ?_; (try simp only [Nat.zero_add, List.drop_zero, List.take_succ_cons, List.take_zero, List.length_cons, List.length_nil, hst, hst2]))); exact ⟨rfl⟩)); (conv => whnf))); (try simp only [Nat.zero_add, List.drop_zero, List.take_succ_cons, List.take_zero, List.length_cons, List.length_nil, hst, hst2]))
    exact ⟨k + 1, by omega, by omega, V.wk⟩
  · have hq2 : ¬ ((k : Int) < ds.length ∧ (k : Int) < 3) := by
      intro h
      rw [decide_eq_true h.1, decide_eq_true h.2] at hq
      cases hq
    have htk : ds.take k = ds.take 3 := by
      rcases Nat.lt_or_ge k 3 with h | h
      · rw [List.take_of_length_le (by omega), List.take_of_length_le (by omega)]
      · congr 1; omega
    have hml : ((ds.take 3).map fun x => 2 + x % 3).length ≤ 3 := by simp; omega
    rw [htk]
    (conv => whnf)
    refine V.st ?_
    by_cases hds : ds = []
    · subst hds
      have hnd : nsD [] = [2] := rfl
      refine Cnd.split (CondB.mk (fun hq3 => ?_) (fun hq3 => ?_))
      · (conv => whnf)
        (try simp only [zT15_0, hwD])
        repeat ((first | refine V.s1 ?_ | ((with_reducible refine recheck_and ?_ ?_); (focus ((conv => whnf); (try simp only [zT15_0, hwD]); (repeat (refine V.s1 ?_; (try simp only [zT15_0, hwD]))); exact ⟨rfl⟩)); (conv => whnf)) | ((try ((with_reducible refine .ext ?_); (conv => whnf); (try simp only [zT15_0, hwD]))); (with_reducible refine call_intro (r := ?_) ?_ ?_); rotate_left; (focus (first | exact (hmade))); (conv => whnf))); (try simp only [zT15_0, hwD]))
        exact Fin.of rfl
      · simp at hq3
    · have hnd := nz_nsD hds
      have hlp : 0 < ds.length := List.length_pos_iff.2 hds
      refine Cnd.split (CondB.mk (fun hq3 => ?_) (fun hq3 => ?_))
      · simp at hq3
        exact absurd hq3 hds
      · rw [hnd] at hml ⊢
        (conv => whnf)
        (try simp only [hwD, List.take_length])
        repeat ((first | refine V.s1 ?_ | ((with_reducible refine recheck_and ?_ ?_); (focus ((conv => whnf); (try simp only [hwD, List.take_length]); (repeat (refine V.s1 ?_; (try simp only [hwD, List.take_length]))); exact ⟨rfl⟩)); (conv => whnf)) | ((try ((with_reducible refine .ext ?_); (conv => whnf); (try simp only [hwD, List.take_length]))); (with_reducible refine call_intro (r := ?_) ?_ ?_); rotate_left; (focus (first | exact (hmade))); (conv => whnf))); (try simp only [hwD, List.take_length]))
        exact Fin.of rfl
theorem flat_length {ns : List Nat} {f : Nat → List Int} {w m : Nat} (h : ∀ j, (f j).length = w) : (flat ns f m).length = m * w := by
  induction m with
  | zero => simp [flat]
  | succ m ih => rw [flat_succ, List.length_append, ih, h, Nat.add_mul, Nat.one_mul]
theorem mem_flat {ns : List Nat} {f : Nat → List Int} {m : Nat} {x : Int} (h : x ∈ flat ns f m) : ∃ j, j < m ∧ x ∈ f j := by
  unfold flat at h
  rw [List.mem_flatMap] at h
  obtain ⟨j, h1, h2⟩ := h
  exact ⟨j, List.mem_range.1 h1, h2⟩
theorem draft_ok (ds : List Int) (o : Int) (vals : List Int) (sm : Bool) (hv : ∀ v ∈ vals, 0 ≤ v ∧ v ≤ 65535) : okGrid (nz (nsD ds)) (wD o) (dData ds o vals sm) = true := by
  have hb := nsD_bd ds
  have hwb := wD_bd o
  have hl : (dData ds o vals sm).length = PR (nsD ds) * wD o := flat_length fun j => by simp [mkF]
  have hP : PR (nsD ds) ≤ 64 := by
    have hbb : ∀ l : List Nat, (∀ n ∈ l, 2 ≤ n ∧ n ≤ 4) → PR l ≤ 4 ^ l.length := by
      intro l
      induction l with
      | nil => intro _; decide
      | cons x l ih =>
        intro hl
        have h3 := ih fun n hn => hl n (by simp [hn])
        have h4 := hl x (by simp)
        rw [PR, List.length_cons, Nat.pow_succ, Nat.mul_comm]
        exact Nat.mul_le_mul h3 h4.2
    exact Nat.le_trans (hbb _ hb.2) (Nat.pow_le_pow_right (by omega) hb.1.2)
  have hl2 : PR (nsD ds) * wD o ≤ 64 * 3 := Nat.mul_le_mul hP hwb.2
  unfold okGrid
  have e1 : (nz (nsD ds)).length = (nsD ds).length := by simp [nz]
  have e2 : (nz (nsD ds)).all (fun n => decide (2 ≤ n ∧ n ≤ 9)) = true := by
    rw [List.all_eq_true]
    intro x hx
    obtain ⟨n, hn, rfl⟩ := List.mem_map.1 hx
    have := hb.2 n hn
    simp; omega
  have e3 : (dData ds o vals sm).all (fun v => decide (0 ≤ v ∧ v ≤ 65535)) = true := by
    rw [List.all_eq_true]
    intro x hx
    obtain ⟨j, _, hj⟩ := mem_flat hx
    unfold mkF at hj
    obtain ⟨k, _, rfl⟩ := List.mem_map.1 hj
    have := mkV_bd (sm := sm) (w := wD o) (m := j) (k := k) hv hb.1.1 (fun n hn => by have := hb.2 n hn; omega)
    simpa using this
  rw [e2, e3, prod_nz]
  simp only [Bool.and_true, Bool.and_eq_true, decide_eq_true_eq]
  refine ⟨⟨by omega, by omega⟩, by omega, ?_⟩
  rw [hl]; simp
end Go.Proofs.YtlcaefokcnohnaaGreatDoor
end
section
namespace Go.Proofs.YtlcaefokcnohnaaGreatDoor
open Go Go.V Go.Gr
def th1 (ds : List Int) (i : Nat) : Nat := if i < ds.length then (2 + ds.getD i 0 % 2).toNat else 2
def thrD (ds : List Int) : List Nat := [th1 ds 0, th1 ds 1, th1 ds 2]
theorem th1_bd (ds : List Int) (i : Nat) : 2 ≤ th1 ds i ∧ th1 ds i ≤ 3 := by
  unfold th1
  split <;> omega
theorem th1_in {ds : List Int} {i : Nat} (h : i < ds.length) : 2 + ds.getD i 0 % 2 = (th1 ds i : Int) := by
  unfold th1
  rw [if_pos h]
  omega
theorem th1_out {ds : List Int} {i : Nat} (h : ¬ i < ds.length) : (th1 ds i : Int) = 2 := by
  unfold th1
  rw [if_neg h]
  rfl
def thL (a b c : Int) : Nat → List Int
  | 0 => [2, 2, 2]
  | 1 => [a, 2, 2]
  | 2 => [a, b, 2]
  | _ => [a, b, c]
def thData (ds vals : List Int) (sm : Bool) : List Int := flat (thrD ds) (mkF vals sm (thrD ds) 3) (PR (thrD ds))
theorem three_c (ds : List Int) (o : Int) (vals : List Int) (sm : Bool) (hd : ∀ v ∈ ds, 0 ≤ v ∧ v ≤ 255) (hdl : ds.length ≤ 281474976710656) (ho : 0 ≤ o ∧ o ≤ 255) (hv : ∀ v ∈ vals, 0 ≤ v ∧ v ≤ 65535) (hvl : vals.length ≤ 281474976710656) :
    Called Tryz.prog 5 [draftD ds o vals sm] (gridD (nz (thrD ds)) 3 (thData ds vals sm)) := by
  have b0 := th1_bd ds 0
  have b1 := th1_bd ds 1
  have b2 := th1_bd ds 2
  have hmade := made_c ds o vals sm (thrD ds) 3 hv hvl ⟨by simp [thrD], by simp [thrD]⟩ (fun n hn => by
    simp only [thrD, List.mem_cons, List.not_mem_nil, or_false] at hn
    rcases hn with rfl | rfl | rfl <;> omega) (by omega)
  unfold thData
  generalize flat (thrD ds) (mkF vals sm (thrD ds) 3) (PR (thrD ds)) = FD at *
  simp only [thrD, nz, List.map_cons, List.map_nil] at hmade ⊢
  have i0 := th1_in (ds := ds) (i := 0)
  have i1 := th1_in (ds := ds) (i := 1)
  have i2 := th1_in (ds := ds) (i := 2)
  have j0 := th1_out (ds := ds) (i := 0)
  have j1 := th1_out (ds := ds) (i := 1)
  have j2 := th1_out (ds := ds) (i := 2)
  have hbd : ∀ i, 0 ≤ ds.getD i 0 ∧ ds.getD i 0 ≤ 255 := fun i => by
    rw [List.getD_eq_getElem?_getD]
    cases h : ds[i]? with
    | none => simp
    | some v => exact hd v (List.mem_of_getElem? h)
  have d0 := hbd 0
  have d1 := hbd 1
  have d2 := hbd 2
  generalize th1 ds 0 = a at *
  generalize th1 ds 1 = b at *
  generalize th1 ds 2 = c at *
  unfold draftD
  refine called_of_run tbOk 6 ⟨Tryz.func5, rfl, rfl, Nat.le_of_ble_eq_true rfl⟩ ?_
  (conv => whnf)
  (conv => whnf)
  (try simp only [Nat.zero_add])
  repeat ((first | refine V.s1 ?_); (try simp only [Nat.zero_add]))
  refine lp_any (0) (fun k => k ≤ 3 ∧ k ≤ ds.length) (fun k => 3 - k) (fun k => [(4, .int .i64 k)]) (fun k => [(5, .arr .i64 (thL a b c k))]) ?_ ?_ ?_
  · exact V.wk
  · omega
  intro k hk
  (conv => whnf)
  (try simp only [Nat.zero_add])
  repeat ((first | refine V.s1 ?_); (try simp only [Nat.zero_add]))
  refine Cnd.split (CondB.mk (fun hq => ?_) (fun hq => ?_))
  · simp only [Bool.and_eq_true, decide_eq_true_eq] at hq
    have hk4 : k = 0 ∨ k = 1 ∨ k = 2 := by omega
    rcases hk4 with e | e | e
    · subst e
      have i0 := i0 (by omega)
      simp only [k0, thL]
      (conv => whnf)
      (try simp only [Nat.zero_add, tn0, tn1, tn2, s3_0, s3_1, s3_2, i0])
      repeat ((first | refine V.s1 ?_); (try simp only [Nat.zero_add, tn0, tn1, tn2, s3_0, s3_1, s3_2, i0]))
      exact ⟨1, by omega, by omega, V.wk⟩
    · subst e
      have i1 := i1 (by omega)
      simp only [k1, thL]
      (conv => whnf)
      (try simp only [Nat.zero_add, tn0, tn1, tn2, s3_0, s3_1, s3_2, i1])
      repeat ((first | refine V.s1 ?_); (try simp only [Nat.zero_add, tn0, tn1, tn2, s3_0, s3_1, s3_2, i1]))
      exact ⟨2, by omega, by omega, V.wk⟩
    · subst e
      have i2 := i2 (by omega)
      simp only [k2, thL]
      (conv => whnf)
      (try simp only [Nat.zero_add, tn0, tn1, tn2, s3_0, s3_1, s3_2, i2])
      repeat ((first | refine V.s1 ?_); (try simp only [Nat.zero_add, tn0, tn1, tn2, s3_0, s3_1, s3_2, i2]))
      exact ⟨3, by omega, by omega, V.wk⟩
  · have hq2 : ¬ ((k : Int) < ds.length ∧ (k : Int) < 3) := by
      intro h
      rw [decide_eq_true h.1, decide_eq_true h.2] at hq
      cases hq
    have hL : thL a b c k = [(a : Int), b, c] := by
      have hk4 : k = 0 ∨ k = 1 ∨ k = 2 ∨ k = 3 := by omega
      rcases hk4 with e | e | e | e
      · subst e
        rw [j0 (by omega), j1 (by omega), j2 (by omega)]
        rfl
      · subst e
        rw [j1 (by omega), j2 (by omega)]
        rfl
      · subst e
        rw [j2 (by omega)]
        rfl
      · subst e
        rfl
    rw [hL]
    (conv => whnf)
    (try simp only [Nat.zero_add])
    repeat ((first | refine V.s1 ?_ | ((try ((with_reducible refine .ext ?_); (conv => whnf); (try simp only [Nat.zero_add]))); (with_reducible refine call_intro (r := ?_) ?_ ?_); rotate_left; (focus (first | exact (hmade))); (conv => whnf))); (try simp only [Nat.zero_add]))
    exact Fin.of rfl
end Go.Proofs.YtlcaefokcnohnaaGreatDoor
end
section
namespace Go.Proofs.YtlcaefokcnohnaaGreatDoor
open Go Go.V Go.Gr
theorem num3 {B C i j k o : Nat} (hj : j < B) (hk : k < C) (ho : o < 3) :
    (((i * B + j) * C + k) * 3 + o) % 3 = o ∧ (((i * B + j) * C + k) * 3 + o) / 3 / C / B = i ∧ (((i * B + j) * C + k) * 3 + o) / 3 / C % B = j ∧ (((i * B + j) * C + k) * 3 + o) / 3 % C = k := by
  have h6 : (((i * B + j) * C + k) * 3 + o) / 3 = (i * B + j) * C + k := by omega
  have hC : 0 < C := by omega
  have hB : 0 < B := by omega
  have e1 : ((i * B + j) * C + k) / C = i * B + j := by
    rw [Nat.mul_comm, Nat.mul_add_div hC, Nat.div_eq_of_lt hk, Nat.add_zero]
  rw [h6, e1]
  refine ⟨by omega, ?_, ?_, ?_⟩
  · rw [Nat.mul_comm, Nat.mul_add_div hB, Nat.div_eq_of_lt hj, Nat.add_zero]
  · rw [Nat.mul_comm, Nat.mul_add_mod, Nat.mod_eq_of_lt hj]
  · rw [Nat.mul_comm, Nat.mul_add_mod, Nat.mod_eq_of_lt hk]
def cbS (m : List Int) (o i j k : Nat) : Nat → Int
  | 0 => 0
  | 1 => m.getD (3 * o) 0 % 7000 * (i : Int)
  | 2 => m.getD (3 * o) 0 % 7000 * (i : Int) + m.getD (3 * o + 1) 0 % 7000 * (j : Int)
  | _ => m.getD (3 * o) 0 % 7000 * (i : Int) + m.getD (3 * o + 1) 0 % 7000 * (j : Int) + m.getD (3 * o + 2) 0 % 7000 * (k : Int)
def cbW (m off : List Int) (o i j k p : Nat) : Int := if p < off.length then cbS m o i j k 3 + off.getD p 0 else cbS m o i j k 3
def clp (v : Int) : Int := max 0 (min 65535 v)
def cbV (m off : List Int) (B C p : Nat) : Int := clp (cbW m off (p % 3) (p / 3 / C / B) (p / 3 / C % B) (p / 3 % C) p)
theorem clp_bd (v : Int) : 0 ≤ clp v ∧ clp v ≤ 65535 := by unfold clp; omega
theorem cbV_of {m off : List Int} {B C i j k o : Nat} (hj : j < B) (hk : k < C) (ho : o < 3) : cbV m off B C (((i * B + j) * C + k) * 3 + o) = clp (cbW m off o i j k (((i * B + j) * C + k) * 3 + o)) := by
  obtain ⟨h1, h2, h3, h4⟩ := num3 (i := i) hj hk ho
  unfold cbV
  rw [h1, h2, h3, h4]
def cbL (m off : List Int) (B C p : Nat) : List Int := (List.range p).map (cbV m off B C)
theorem cbL_len (m off : List Int) (B C p : Nat) : (cbL m off B C p).length = p := by unfold cbL; simp
theorem cbL_succ (m off : List Int) (B C p : Nat) : cbL m off B C (p + 1) = cbL m off B C p ++ [cbV m off B C p] := by unfold cbL; rw [List.range_succ, List.map_append]; rfl
theorem cbL_bd (m off : List Int) (B C p : Nat) : ∀ v ∈ cbL m off B C p, 0 ≤ v ∧ v ≤ 65535 := fun v hv => by
  unfold cbL at hv
  obtain ⟨q, _, rfl⟩ := List.mem_map.1 hv
  exact clp_bd _
def s3 (a : Int) : Nat := (2 + a % 3).toNat
theorem s3_bd (a : Int) : 2 ≤ s3 a ∧ s3 a ≤ 4 := by unfold s3; omega
theorem s3_eq (a : Int) : 2 + a % 3 = (s3 a : Int) := by unfold s3; omega
theorem stp_bd (x : Int) {i : Nat} (hi : i < 4) : 0 ≤ x % 7000 * (i : Int) ∧ x % 7000 * (i : Int) ≤ 20997 := by
  have h1 := Int.emod_nonneg x (show (7000 : Int) ≠ 0 by decide)
  have h2 := Int.emod_lt_of_pos x (show (0 : Int) < 7000 by decide)
  refine ⟨Int.mul_nonneg h1 (by omega), ?_⟩
  have := Int.mul_le_mul (show x % 7000 ≤ 6999 by omega) (show (i : Int) ≤ 3 by omega) (by omega) (by omega)
  omega
def cubeD (a b c m0 m1 m2 m3 m4 m5 m6 m7 m8 : Int) (off : List Int) : D := .agg [.int .u8 a, .int .u8 b, .int .u8 c, .int .u16 m0, .int .u16 m1, .int .u16 m2, .int .u16 m3, .int .u16 m4, .int .u16 m5, .int .u16 m6, .int .u16 m7, .int .u16 m8, .ints .i16 off]
theorem num3_j (B C i j : Nat) : (i * B + (j + 1)) * C * 3 = ((i * B + j) * C + C) * 3 := by
  rw [← Nat.add_assoc, Nat.add_mul (i * B + j), Nat.one_mul]
theorem num3_i (B C i : Nat) : (i + 1) * B * C * 3 = (i * B + B) * C * 3 := by
  rw [Nat.add_mul i, Nat.one_mul]
theorem zU25_0 : type_of% @Int.zero_add ∧ type_of% @Nat.zero_add ∧ type_of% @g3_0 ∧ type_of% @g3_1 ∧ type_of% @g3_2 ∧ type_of% @i3_0 ∧ type_of% @i3_1 ∧ type_of% @i3_2 ∧ type_of% @s3_0 ∧ type_of% @s3_1 ∧ type_of% @s3_2 ∧ type_of% @tn0 ∧ type_of% @tn1 ∧ type_of% @tn2 ∧ type_of% @tn3 := ⟨@Int.zero_add, @Nat.zero_add, @g3_0, @g3_1, @g3_2, @i3_0, @i3_1, @i3_2, @s3_0, @s3_1, @s3_2, @tn0, @tn1, @tn2, @tn3⟩
theorem cgrid_c (a b c m0 m1 m2 m3 m4 m5 m6 m7 m8 : Int) (off : List Int) (ha : 0 ≤ a ∧ a ≤ 255) (hb : 0 ≤ b ∧ b ≤ 255) (hc : 0 ≤ c ∧ c ≤ 255) (hm : ∀ x ∈ [m0, m1, m2, m3, m4, m5, m6, m7, m8], 0 ≤ x ∧ x ≤ 65535) (ho : ∀ x ∈ off, -32768 ≤ x ∧ x ≤ 32767) (hol : off.length ≤ 281474976710656) :
    Called Tryz.prog 4 [cubeD a b c m0 m1 m2 m3 m4 m5 m6 m7 m8 off] (gridD (sz3 (s3 a) (s3 b) (s3 c)) 3 (cbL [m0, m1, m2, m3, m4, m5, m6, m7, m8] off (s3 b) (s3 c) (s3 a * s3 b * s3 c * 3))) := by
  have ea := s3_eq a
  have eb := s3_eq b
  have ec := s3_eq c
  have ba := s3_bd a
  have bb := s3_bd b
  have bc := s3_bd c
  have ta : a.tmod 3 = a % 3 := Int.tmod_eq_emod_of_nonneg ha.1
  have tb : b.tmod 3 = b % 3 := Int.tmod_eq_emod_of_nonneg hb.1
  have tc : c.tmod 3 = c % 3 := Int.tmod_eq_emod_of_nonneg hc.1
  simp only [List.mem_cons, List.not_mem_nil, or_false, forall_eq_or_imp, forall_eq] at hm
  have hoff : ∀ i, -32768 ≤ off.getD i 0 ∧ off.getD i 0 ≤ 32767 := fun i => by
    rw [List.getD_eq_getElem?_getD]
    cases h : off[i]? with
    | none => simp
    | some v => exact ho v (List.mem_of_getElem? h)
  have hlen := cbL_len [m0, m1, m2, m3, m4, m5, m6, m7, m8] off (s3 b) (s3 c)
  have hsucc := cbL_succ [m0, m1, m2, m3, m4, m5, m6, m7, m8] off (s3 b) (s3 c)
  have hval : ∀ {i j k o : Nat}, j < s3 b → k < s3 c → o < 3 → _ := fun {i j k o} hj hk h3 => cbV_of (m := [m0, m1, m2, m3, m4, m5, m6, m7, m8]) (off := off) (i := i) hj hk h3
  obtain ⟨cl, hcl⟩ : ∃ cl, cbL [m0, m1, m2, m3, m4, m5, m6, m7, m8] off (s3 b) (s3 c) = cl := ⟨_, rfl⟩
  obtain ⟨cv, hcv⟩ : ∃ cv, cbV [m0, m1, m2, m3, m4, m5, m6, m7, m8] off (s3 b) (s3 c) = cv := ⟨_, rfl⟩
  have hcl0 : cl 0 = [] := hcl ▸ rfl
  rw [hcl] at hlen hsucc ⊢
  rw [hcv] at hsucc
  rw [hcv] at hval
  clear hcl hcv
  have t0 : m0.tmod 7000 = m0 % 7000 := Int.tmod_eq_emod_of_nonneg (by omega)
  have t1 : m1.tmod 7000 = m1 % 7000 := Int.tmod_eq_emod_of_nonneg (by omega)
  have t2 : m2.tmod 7000 = m2 % 7000 := Int.tmod_eq_emod_of_nonneg (by omega)
  have t3 : m3.tmod 7000 = m3 % 7000 := Int.tmod_eq_emod_of_nonneg (by omega)
  have t4 : m4.tmod 7000 = m4 % 7000 := Int.tmod_eq_emod_of_nonneg (by omega)
  have t5 : m5.tmod 7000 = m5 % 7000 := Int.tmod_eq_emod_of_nonneg (by omega)
  have t6 : m6.tmod 7000 = m6 % 7000 := Int.tmod_eq_emod_of_nonneg (by omega)
  have t7 : m7.tmod 7000 = m7 % 7000 := Int.tmod_eq_emod_of_nonneg (by omega)
  have t8 : m8.tmod 7000 = m8 % 7000 := Int.tmod_eq_emod_of_nonneg (by omega)
  generalize s3 a = A at *
  generalize s3 b = B at *
  generalize s3 c = Cc at *
  unfold cubeD
  refine called_of_run tbOk 6 ⟨Tryz.func4, rfl, rfl, Nat.le_of_ble_eq_true rfl⟩ ?_
  (conv => whnf)
  (conv => whnf)
  (try simp only [Nat.zero_add, ta, tb, tc, ea, eb, ec, tn0, tn1, tn2, g3_0, g3_1, g3_2, i3_0, i3_1, i3_2])
  repeat ((first | refine V.s1 ?_); (try simp only [Nat.zero_add, ta, tb, tc, ea, eb, ec, tn0, tn1, tn2, g3_0, g3_1, g3_2, i3_0, i3_1, i3_2]))
  refine Lp.ghostBox 106 4 2 .i64 (by decide) (by decide) ?_
  (conv => whnf)
  refine lp_any (0) (fun k => k ≤ A) (fun k => A - k) (fun k => [(5, .int .i64 k)]) (fun k => [(4, .box [.osl 37 0 3, .int .i64 3, .osl 106 0 (k * B * Cc * 3)]), (106, .arr .i64 (cl (k * B * Cc * 3)))]) ?_ ?_ ?_
  · simp only [Nat.zero_mul, hcl0]
    exact V.wk
  · exact Nat.zero_le _
  intro i hi
  (conv => whnf)
  (try simp only [zU25_0])
  repeat ((first | refine V.s1 ?_); (try simp only [zU25_0]))
  refine Cnd.split (CondB.mk (fun hq => ?_) (fun hq => ?_))
  · rw [decide_eq_true_eq] at hq
    have hi4 : i < 4 := by omega
    (conv => whnf)
    (try simp only [zU25_0])
    repeat ((first | refine V.s1 ?_); (try simp only [zU25_0]))
    refine lp_any (0) (fun k => k ≤ B) (fun k => B - k) (fun k => [(6, .int .i64 k)]) (fun k => [(4, .box [.osl 37 0 3, .int .i64 3, .osl 106 0 ((i * B + k) * Cc * 3)]), (106, .arr .i64 (cl ((i * B + k) * Cc * 3)))]) ?_ ?_ ?_
    · simp only [Nat.add_zero]
      exact V.wk
    · exact Nat.zero_le _
    intro j hj
    (conv => whnf)
    (try simp only [zU25_0])
    repeat ((first | refine V.s1 ?_); (try simp only [zU25_0]))
    refine Cnd.split (CondB.mk (fun hq2 => ?_) (fun hq2 => ?_))
    · rw [decide_eq_true_eq] at hq2
      have hj2 : j < B := by omega
      have hj4 : j < 4 := by omega
      (conv => whnf)
      (try simp only [zU25_0])
      repeat ((first | refine V.s1 ?_); (try simp only [zU25_0]))
      refine lp_any (0) (fun k => k ≤ Cc) (fun k => Cc - k) (fun k => [(7, .int .i64 k)]) (fun k => [(4, .box [.osl 37 0 3, .int .i64 3, .osl 106 0 (((i * B + j) * Cc + k) * 3)]), (106, .arr .i64 (cl (((i * B + j) * Cc + k) * 3)))]) ?_ ?_ ?_
      · simp only [Nat.add_zero]
        exact V.wk
      · exact Nat.zero_le _
      intro kx hk
      (conv => whnf)
      (try simp only [zU25_0])
      repeat ((first | refine V.s1 ?_); (try simp only [zU25_0]))
      refine Cnd.split (CondB.mk (fun hq3 => ?_) (fun hq3 => ?_))
      · rw [decide_eq_true_eq] at hq3
        have hk2 : kx < Cc := by omega
        have hk4 : kx < 4 := by omega
        have hp : ((i * B + j) * Cc + kx) * 3 < 3000 := by
          have h1 : i * B ≤ 3 * 4 := Nat.mul_le_mul (by omega) (by omega)
          have h2 : (i * B + j) * Cc ≤ 16 * 4 := Nat.mul_le_mul (by omega) (by omega)
          omega
        (conv => whnf)
        (try simp only [zU25_0])
        repeat ((first | refine V.s1 ?_); (try simp only [zU25_0]))
        refine lp_any (0 : Nat) (fun o => o ≤ 3) (fun o => 3 - o) (fun o => [(9, .int .i64 (o : Int))]) (fun o => [(4, .box [.osl 37 0 3, .int .i64 3, .osl 106 0 (((i * B + j) * Cc + kx) * 3 + o)]), (106, .arr .i64 (cl (((i * B + j) * Cc + kx) * 3 + o)))]) ?_ ?_ ?_
        · simp only [Nat.add_zero]
          exact V.wk
        · exact Nat.zero_le _
        intro o ho
        have ho4 : o = 0 ∨ o = 1 ∨ o = 2 ∨ o = 3 := by omega
        rcases ho4 with eo | eo | eo | eo
        · subst eo
          have hvo := hval (i := i) (j := j) (k := kx) (o := 0) hj2 hk2 (by decide)
          have hlo := hlen (((i * B + j) * Cc + kx) * 3 + 0)
          have hso := hsucc (((i * B + j) * Cc + kx) * 3 + 0)
          rw [hvo] at hso
          have qa : [m0, m1, m2, m3, m4, m5, m6, m7, m8].getD (3 * 0) 0 = m0 := rfl
          have qb : [m0, m1, m2, m3, m4, m5, m6, m7, m8].getD (3 * 0 + 1) 0 = m1 := rfl
          have qc : [m0, m1, m2, m3, m4, m5, m6, m7, m8].getD (3 * 0 + 2) 0 = m2 := rfl
          have sa := stp_bd m0 hi4
          have sb' := stp_bd m1 hj4
          have sc := stp_bd m2 hk4
          (conv => whnf)
          (try simp only [Nat.zero_add, k0])
          repeat ((first | refine V.s1 ?_); (try simp only [Nat.zero_add, k0]))
          refine lp_any (0) (fun k => k ≤ 3) (fun k => 3 - k) (fun k => [(11, .int .i64 k), (10, .int .i64 (cbS [m0, m1, m2, m3, m4, m5, m6, m7, m8] 0 i j kx k))]) (fun k => []) ?_ ?_ ?_
          exact V.wk
          exact Nat.zero_le _
          intro m hm9
          have hm4 : m = 0 ∨ m = 1 ∨ m = 2 ∨ m = 3 := by omega
          rcases hm4 with e | e | e | e
          · subst e
            simp only [cbS, qa, qb, qc, k0]
            (conv => whnf)
            (try simp only [zU25_0, t0, t1, t2, t3, t4, t5, t6, t7, t8])
            repeat ((first | refine V.s1 ?_); (try simp only [zU25_0, t0, t1, t2, t3, t4, t5, t6, t7, t8]))
            refine ⟨(.take 0 (.take 1 (.take 2 (.take 3 (.take 4 (.take 5 (.take 6 (.take 7 (.take 8 (.take 9 (.take 10 (.take 11 (.take 12 (.take 13 (.ev (.cons 14 [] (.done) (.nil))))))))))))))))), ⟨by kernel_rfl, by kernel_rfl, by kernel_rfl⟩, .go ?_⟩
            (conv => whnf)
            (try simp only [zU25_0, t0, t1, t2, t3, t4, t5, t6, t7, t8])
            repeat ((first | refine V.s1 ?_); (try simp only [zU25_0, t0, t1, t2, t3, t4, t5, t6, t7, t8]))
            exact ⟨1, by omega, by omega, V.wk⟩
          · subst e
            simp only [cbS, qa, qb, qc, k1]
            (conv => whnf)
            (try simp only [zU25_0, t0, t1, t2, t3, t4, t5, t6, t7, t8])
            repeat ((first | refine V.s1 ?_); (try simp only [zU25_0, t0, t1, t2, t3, t4, t5, t6, t7, t8]))
            refine ⟨(.take 0 (.take 1 (.take 2 (.take 3 (.take 4 (.take 5 (.take 6 (.take 7 (.take 8 (.take 9 (.take 10 (.take 11 (.take 12 (.take 13 (.ev (.cons 14 [] (.done) (.nil))))))))))))))))), ⟨by kernel_rfl, by kernel_rfl, by kernel_rfl⟩, .go ?_⟩
            (conv => whnf)
            (try simp only [zU25_0, t0, t1, t2, t3, t4, t5, t6, t7, t8])
            repeat ((first | refine V.s1 ?_); (try simp only [zU25_0, t0, t1, t2, t3, t4, t5, t6, t7, t8]))
            exact ⟨2, by omega, by omega, V.wk⟩
          · subst e
            simp only [cbS, qa, qb, qc, k2]
            (conv => whnf)
            (try simp only [zU25_0, t0, t1, t2, t3, t4, t5, t6, t7, t8])
            repeat ((first | refine V.s1 ?_); (try simp only [zU25_0, t0, t1, t2, t3, t4, t5, t6, t7, t8]))
            refine ⟨(.take 0 (.take 1 (.take 2 (.take 3 (.take 4 (.take 5 (.take 6 (.take 7 (.take 8 (.take 9 (.take 10 (.take 11 (.take 12 (.take 13 (.ev (.cons 14 [] (.done) (.nil))))))))))))))))), ⟨by kernel_rfl, by kernel_rfl, by kernel_rfl⟩, .go ?_⟩
            (conv => whnf)
            (try simp only [zU25_0, t0, t1, t2, t3, t4, t5, t6, t7, t8])
            repeat ((first | refine V.s1 ?_); (try simp only [zU25_0, t0, t1, t2, t3, t4, t5, t6, t7, t8]))
            exact ⟨3, by omega, by omega, V.wk⟩
          · subst e
            obtain ⟨sv, hsv⟩ : ∃ sv, cbS [m0, m1, m2, m3, m4, m5, m6, m7, m8] 0 i j kx 3 = sv := ⟨_, rfl⟩
            have hsv2 := hsv
            simp only [cbS, qa, qb, qc] at hsv2
            have hsb : 0 ≤ sv ∧ sv ≤ 62991 := by omega
            have hw : cbW [m0, m1, m2, m3, m4, m5, m6, m7, m8] off 0 i j kx (((i * B + j) * Cc + kx) * 3 + 0) = if ((i * B + j) * Cc + kx) * 3 + 0 < off.length then sv + off.getD (((i * B + j) * Cc + kx) * 3 + 0) 0 else sv := by unfold cbW; rw [hsv]
            rw [hsv]
            clear hsv hsv2 qa qb qc
            obtain ⟨wv, hwv⟩ : ∃ wv, cbW [m0, m1, m2, m3, m4, m5, m6, m7, m8] off 0 i j kx (((i * B + j) * Cc + kx) * 3 + 0) = wv := ⟨_, rfl⟩
            rw [hwv] at hw hso
            have hwb : -40000 ≤ wv ∧ wv ≤ 100000 := by
              rw [hw]
              split
              · have := hoff (((i * B + j) * Cc + kx) * 3 + 0)
                omega
              · omega
            (conv => whnf)
            (try simp only [zU25_0, hlo])
            repeat ((first | refine V.s1 ?_); (try simp only [zU25_0, hlo]))
            refine cnd_meet [(10, .int .i64 wv)] [] (CondB.mk (fun hc => ?_) (fun hc => ?_)) ?_
            · simp only [decide_eq_true_eq] at hc
              rw [if_pos (by omega)] at hw
              have := hoff (((i * B + j) * Cc + kx) * 3 + 0)
              (conv => whnf)
              (try simp only [Nat.zero_add, Int.zero_add, tn0, tn1, tn2, tn3, s3_0, s3_1, s3_2, g3_0, g3_1, g3_2, i3_0, i3_1, i3_2, hlo, Int.toNat_natCast, ← hw])
              repeat ((first | refine V.s1 ?_); (try simp only [Nat.zero_add, Int.zero_add, tn0, tn1, tn2, tn3, s3_0, s3_1, s3_2, g3_0, g3_1, g3_2, i3_0, i3_1, i3_2, hlo, Int.toNat_natCast, ← hw]))
              exact V.wk
            · simp only [decide_eq_false_iff_not] at hc
              rw [if_neg (by omega)] at hw
              rw [hw]
              (conv => whnf)
              refine V.st ?_
              exact V.wk
            (conv => whnf)
            (try simp only [zU25_0, hlo])
            repeat ((first | refine V.s1 ?_); (try simp only [zU25_0, hlo]))
            have hso2 := hso.symm
            unfold clp at hso2
            have hl1 : List.length [max 0 (min 65535 wv)] = 1 := rfl
            simp only [List.drop_zero, List.take_succ_cons, List.take_zero, hl1, hso2]
            exact ⟨0 + 1, by omega, by omega, V.wk⟩
        · subst eo
          have hvo := hval (i := i) (j := j) (k := kx) (o := 1) hj2 hk2 (by decide)
          have hlo := hlen (((i * B + j) * Cc + kx) * 3 + 1)
          have hso := hsucc (((i * B + j) * Cc + kx) * 3 + 1)
          rw [hvo] at hso
          have qa : [m0, m1, m2, m3, m4, m5, m6, m7, m8].getD (3 * 1) 0 = m3 := rfl
          have qb : [m0, m1, m2, m3, m4, m5, m6, m7, m8].getD (3 * 1 + 1) 0 = m4 := rfl
          have qc : [m0, m1, m2, m3, m4, m5, m6, m7, m8].getD (3 * 1 + 2) 0 = m5 := rfl
          have sa := stp_bd m3 hi4
          have sb' := stp_bd m4 hj4
          have sc := stp_bd m5 hk4
          (conv => whnf)
          (try simp only [Nat.zero_add, k1])
          repeat ((first | refine V.s1 ?_); (try simp only [Nat.zero_add, k1]))
          refine lp_any (0) (fun k => k ≤ 3) (fun k => 3 - k) (fun k => [(11, .int .i64 k), (10, .int .i64 (cbS [m0, m1, m2, m3, m4, m5, m6, m7, m8] 1 i j kx k))]) (fun k => []) ?_ ?_ ?_
          exact V.wk
          exact Nat.zero_le _
          intro m hm9
          have hm4 : m = 0 ∨ m = 1 ∨ m = 2 ∨ m = 3 := by omega
          rcases hm4 with e | e | e | e
          · subst e
            simp only [cbS, qa, qb, qc, k0]
            (conv => whnf)
            (try simp only [zU25_0, t0, t1, t2, t3, t4, t5, t6, t7, t8])
            repeat ((first | refine V.s1 ?_); (try simp only [zU25_0, t0, t1, t2, t3, t4, t5, t6, t7, t8]))
            refine ⟨(.take 0 (.take 1 (.take 2 (.take 3 (.take 4 (.take 5 (.take 6 (.take 7 (.take 8 (.take 9 (.take 10 (.take 11 (.take 12 (.take 13 (.ev (.cons 14 [] (.done) (.nil))))))))))))))))), ⟨by kernel_rfl, by kernel_rfl, by kernel_rfl⟩, .go ?_⟩
            (conv => whnf)
            (try simp only [zU25_0, t0, t1, t2, t3, t4, t5, t6, t7, t8])
            repeat ((first | refine V.s1 ?_); (try simp only [zU25_0, t0, t1, t2, t3, t4, t5, t6, t7, t8]))
            exact ⟨1, by omega, by omega, V.wk⟩
          · subst e
            simp only [cbS, qa, qb, qc, k1]
            (conv => whnf)
            (try simp only [zU25_0, t0, t1, t2, t3, t4, t5, t6, t7, t8])
            repeat ((first | refine V.s1 ?_); (try simp only [zU25_0, t0, t1, t2, t3, t4, t5, t6, t7, t8]))
            refine ⟨(.take 0 (.take 1 (.take 2 (.take 3 (.take 4 (.take 5 (.take 6 (.take 7 (.take 8 (.take 9 (.take 10 (.take 11 (.take 12 (.take 13 (.ev (.cons 14 [] (.done) (.nil))))))))))))))))), ⟨by kernel_rfl, by kernel_rfl, by kernel_rfl⟩, .go ?_⟩
            (conv => whnf)
            (try simp only [zU25_0, t0, t1, t2, t3, t4, t5, t6, t7, t8])
            repeat ((first | refine V.s1 ?_); (try simp only [zU25_0, t0, t1, t2, t3, t4, t5, t6, t7, t8]))
            exact ⟨2, by omega, by omega, V.wk⟩
          · subst e
            simp only [cbS, qa, qb, qc, k2]
            (conv => whnf)
            (try simp only [zU25_0, t0, t1, t2, t3, t4, t5, t6, t7, t8])
            repeat ((first | refine V.s1 ?_); (try simp only [zU25_0, t0, t1, t2, t3, t4, t5, t6, t7, t8]))
            refine ⟨(.take 0 (.take 1 (.take 2 (.take 3 (.take 4 (.take 5 (.take 6 (.take 7 (.take 8 (.take 9 (.take 10 (.take 11 (.take 12 (.take 13 (.ev (.cons 14 [] (.done) (.nil))))))))))))))))), ⟨by kernel_rfl, by kernel_rfl, by kernel_rfl⟩, .go ?_⟩
            (conv => whnf)
            (try simp only [zU25_0, t0, t1, t2, t3, t4, t5, t6, t7, t8])
            repeat ((first | refine V.s1 ?_); (try simp only [zU25_0, t0, t1, t2, t3, t4, t5, t6, t7, t8]))
            exact ⟨3, by omega, by omega, V.wk⟩
          · subst e
            obtain ⟨sv, hsv⟩ : ∃ sv, cbS [m0, m1, m2, m3, m4, m5, m6, m7, m8] 1 i j kx 3 = sv := ⟨_, rfl⟩
            have hsv2 := hsv
            simp only [cbS, qa, qb, qc] at hsv2
            have hsb : 0 ≤ sv ∧ sv ≤ 62991 := by omega
            have hw : cbW [m0, m1, m2, m3, m4, m5, m6, m7, m8] off 1 i j kx (((i * B + j) * Cc + kx) * 3 + 1) = if ((i * B + j) * Cc + kx) * 3 + 1 < off.length then sv + off.getD (((i * B + j) * Cc + kx) * 3 + 1) 0 else sv := by unfold cbW; rw [hsv]
            rw [hsv]
            clear hsv hsv2 qa qb qc
            obtain ⟨wv, hwv⟩ : ∃ wv, cbW [m0, m1, m2, m3, m4, m5, m6, m7, m8] off 1 i j kx (((i * B + j) * Cc + kx) * 3 + 1) = wv := ⟨_, rfl⟩
            rw [hwv] at hw hso
            have hwb : -40000 ≤ wv ∧ wv ≤ 100000 := by
              rw [hw]
              split
              · have := hoff (((i * B + j) * Cc + kx) * 3 + 1)
                omega
              · omega
            (conv => whnf)
            (try simp only [zU25_0, hlo])
            repeat ((first | refine V.s1 ?_); (try simp only [zU25_0, hlo]))
            refine cnd_meet [(10, .int .i64 wv)] [] (CondB.mk (fun hc => ?_) (fun hc => ?_)) ?_
            · simp only [decide_eq_true_eq] at hc
              rw [if_pos (by omega)] at hw
              have := hoff (((i * B + j) * Cc + kx) * 3 + 1)
              (conv => whnf)
              (try simp only [Nat.zero_add, Int.zero_add, tn0, tn1, tn2, tn3, s3_0, s3_1, s3_2, g3_0, g3_1, g3_2, i3_0, i3_1, i3_2, hlo, Int.toNat_natCast, ← hw])
              repeat ((first | refine V.s1 ?_); (try simp only [Nat.zero_add, Int.zero_add, tn0, tn1, tn2, tn3, s3_0, s3_1, s3_2, g3_0, g3_1, g3_2, i3_0, i3_1, i3_2, hlo, Int.toNat_natCast, ← hw]))
              exact V.wk
            · simp only [decide_eq_false_iff_not] at hc
              rw [if_neg (by omega)] at hw
              rw [hw]
              (conv => whnf)
              refine V.st ?_
              exact V.wk
            (conv => whnf)
            (try simp only [zU25_0, hlo])
            repeat ((first | refine V.s1 ?_); (try simp only [zU25_0, hlo]))
            have hso2 := hso.symm
            unfold clp at hso2
            have hl1 : List.length [max 0 (min 65535 wv)] = 1 := rfl
            simp only [List.drop_zero, List.take_succ_cons, List.take_zero, hl1, hso2]
            exact ⟨1 + 1, by omega, by omega, V.wk⟩
        · subst eo
          have hvo := hval (i := i) (j := j) (k := kx) (o := 2) hj2 hk2 (by decide)
          have hlo := hlen (((i * B + j) * Cc + kx) * 3 + 2)
          have hso := hsucc (((i * B + j) * Cc + kx) * 3 + 2)
          rw [hvo] at hso
          have qa : [m0, m1, m2, m3, m4, m5, m6, m7, m8].getD (3 * 2) 0 = m6 := rfl
          have qb : [m0, m1, m2, m3, m4, m5, m6, m7, m8].getD (3 * 2 + 1) 0 = m7 := rfl
          have qc : [m0, m1, m2, m3, m4, m5, m6, m7, m8].getD (3 * 2 + 2) 0 = m8 := rfl
          have sa := stp_bd m6 hi4
          have sb' := stp_bd m7 hj4
          have sc := stp_bd m8 hk4
          (conv => whnf)
          (try simp only [Nat.zero_add, k2])
          repeat ((first | refine V.s1 ?_); (try simp only [Nat.zero_add, k2]))
          refine lp_any (0) (fun k => k ≤ 3) (fun k => 3 - k) (fun k => [(11, .int .i64 k), (10, .int .i64 (cbS [m0, m1, m2, m3, m4, m5, m6, m7, m8] 2 i j kx k))]) (fun k => []) ?_ ?_ ?_
          exact V.wk
          exact Nat.zero_le _
          intro m hm9
          have hm4 : m = 0 ∨ m = 1 ∨ m = 2 ∨ m = 3 := by omega
          rcases hm4 with e | e | e | e
          · subst e
            simp only [cbS, qa, qb, qc, k0]
            (conv => whnf)
            (try simp only [zU25_0, t0, t1, t2, t3, t4, t5, t6, t7, t8])
            repeat ((first | refine V.s1 ?_); (try simp only [zU25_0, t0, t1, t2, t3, t4, t5, t6, t7, t8]))
            refine ⟨(.take 0 (.take 1 (.take 2 (.take 3 (.take 4 (.take 5 (.take 6 (.take 7 (.take 8 (.take 9 (.take 10 (.take 11 (.take 12 (.take 13 (.ev (.cons 14 [] (.done) (.nil))))))))))))))))), ⟨by kernel_rfl, by kernel_rfl, by kernel_rfl⟩, .go ?_⟩
            (conv => whnf)
            (try simp only [zU25_0, t0, t1, t2, t3, t4, t5, t6, t7, t8])
            repeat ((first | refine V.s1 ?_); (try simp only [zU25_0, t0, t1, t2, t3, t4, t5, t6, t7, t8]))
            exact ⟨1, by omega, by omega, V.wk⟩
          · subst e
            simp only [cbS, qa, qb, qc, k1]
            (conv => whnf)
            (try simp only [zU25_0, t0, t1, t2, t3, t4, t5, t6, t7, t8])
            repeat ((first | refine V.s1 ?_); (try simp only [zU25_0, t0, t1, t2, t3, t4, t5, t6, t7, t8]))
            refine ⟨(.take 0 (.take 1 (.take 2 (.take 3 (.take 4 (.take 5 (.take 6 (.take 7 (.take 8 (.take 9 (.take 10 (.take 11 (.take 12 (.take 13 (.ev (.cons 14 [] (.done) (.nil))))))))))))))))), ⟨by kernel_rfl, by kernel_rfl, by kernel_rfl⟩, .go ?_⟩
            (conv => whnf)
            (try simp only [zU25_0, t0, t1, t2, t3, t4, t5, t6, t7, t8])
            repeat ((first | refine V.s1 ?_); (try simp only [zU25_0, t0, t1, t2, t3, t4, t5, t6, t7, t8]))
            exact ⟨2, by omega, by omega, V.wk⟩
          · subst e
            simp only [cbS, qa, qb, qc, k2]
            (conv => whnf)
            (try simp only [zU25_0, t0, t1, t2, t3, t4, t5, t6, t7, t8])
            repeat ((first | refine V.s1 ?_); (try simp only [zU25_0, t0, t1, t2, t3, t4, t5, t6, t7, t8]))
            refine ⟨(.take 0 (.take 1 (.take 2 (.take 3 (.take 4 (.take 5 (.take 6 (.take 7 (.take 8 (.take 9 (.take 10 (.take 11 (.take 12 (.take 13 (.ev (.cons 14 [] (.done) (.nil))))))))))))))))), ⟨by kernel_rfl, by kernel_rfl, by kernel_rfl⟩, .go ?_⟩
            (conv => whnf)
            (try simp only [zU25_0, t0, t1, t2, t3, t4, t5, t6, t7, t8])
            repeat ((first | refine V.s1 ?_); (try simp only [zU25_0, t0, t1, t2, t3, t4, t5, t6, t7, t8]))
            exact ⟨3, by omega, by omega, V.wk⟩
          · subst e
            obtain ⟨sv, hsv⟩ : ∃ sv, cbS [m0, m1, m2, m3, m4, m5, m6, m7, m8] 2 i j kx 3 = sv := ⟨_, rfl⟩
            have hsv2 := hsv
            simp only [cbS, qa, qb, qc] at hsv2
            have hsb : 0 ≤ sv ∧ sv ≤ 62991 := by omega
            have hw : cbW [m0, m1, m2, m3, m4, m5, m6, m7, m8] off 2 i j kx (((i * B + j) * Cc + kx) * 3 + 2) = if ((i * B + j) * Cc + kx) * 3 + 2 < off.length then sv + off.getD (((i * B + j) * Cc + kx) * 3 + 2) 0 else sv := by unfold cbW; rw [hsv]
            rw [hsv]
            clear hsv hsv2 qa qb qc
            obtain ⟨wv, hwv⟩ : ∃ wv, cbW [m0, m1, m2, m3, m4, m5, m6, m7, m8] off 2 i j kx (((i * B + j) * Cc + kx) * 3 + 2) = wv := ⟨_, rfl⟩
            rw [hwv] at hw hso
            have hwb : -40000 ≤ wv ∧ wv ≤ 100000 := by
              rw [hw]
              split
              · have := hoff (((i * B + j) * Cc + kx) * 3 + 2)
                omega
              · omega
            (conv => whnf)
            (try simp only [zU25_0, hlo])
            repeat ((first | refine V.s1 ?_); (try simp only [zU25_0, hlo]))
            refine cnd_meet [(10, .int .i64 wv)] [] (CondB.mk (fun hc => ?_) (fun hc => ?_)) ?_
            · simp only [decide_eq_true_eq] at hc
              rw [if_pos (by omega)] at hw
              have := hoff (((i * B + j) * Cc + kx) * 3 + 2)
              (conv => whnf)
              (try simp only [Nat.zero_add, Int.zero_add, tn0, tn1, tn2, tn3, s3_0, s3_1, s3_2, g3_0, g3_1, g3_2, i3_0, i3_1, i3_2, hlo, Int.toNat_natCast, ← hw])
              repeat ((first | refine V.s1 ?_); (try simp only [Nat.zero_add, Int.zero_add, tn0, tn1, tn2, tn3, s3_0, s3_1, s3_2, g3_0, g3_1, g3_2, i3_0, i3_1, i3_2, hlo, Int.toNat_natCast, ← hw]))
              exact V.wk
            · simp only [decide_eq_false_iff_not] at hc
              rw [if_neg (by omega)] at hw
              rw [hw]
              (conv => whnf)
              refine V.st ?_
              exact V.wk
            (conv => whnf)
            (try simp only [zU25_0, hlo])
            repeat ((first | refine V.s1 ?_); (try simp only [zU25_0, hlo]))
            have hso2 := hso.symm
            unfold clp at hso2
            have hl1 : List.length [max 0 (min 65535 wv)] = 1 := rfl
            simp only [List.drop_zero, List.take_succ_cons, List.take_zero, hl1, hso2]
            exact ⟨2 + 1, by omega, by omega, V.wk⟩
        · subst eo
          have e9 : ((i * B + j) * Cc + kx) * 3 + 3 = ((i * B + j) * Cc + (kx + 1)) * 3 := by omega
          rw [e9]
          (conv => whnf)
          (try simp only [Nat.zero_add, cs1])
          repeat ((first | refine V.s1 ?_); (try simp only [Nat.zero_add, cs1]))
          exact ⟨kx + 1, by omega, by omega, V.wk⟩
      · rw [decide_eq_false_iff_not] at hq3
        have hk2 : kx = Cc := by omega
        subst hk2
        rw [← num3_j]
        (conv => whnf)
        (try simp only [Nat.zero_add, cs1])
        repeat ((first | refine V.s1 ?_); (try simp only [Nat.zero_add, cs1]))
        exact ⟨j + 1, by omega, by omega, V.wk⟩
    · rw [decide_eq_false_iff_not] at hq2
      have hj2 : j = B := by omega
      subst hj2
      rw [← num3_i]
      (conv => whnf)
      (try simp only [Nat.zero_add, cs1])
      repeat ((first | refine V.s1 ?_); (try simp only [Nat.zero_add, cs1]))
      exact ⟨i + 1, by omega, by omega, V.wk⟩
  · rw [decide_eq_false_iff_not] at hq
    have hi2 : i = A := by omega
    subst hi2
    (conv => whnf)
    (try simp only [Nat.zero_add])
    repeat ((first | refine V.s1 ?_); (try simp only [Nat.zero_add]))
    have e9 : List.take (i * B * Cc * 3) (cl (i * B * Cc * 3)) = cl (i * B * Cc * 3) := List.take_of_length_le (by rw [hlen]; exact Nat.le_refl _)
    rw [e9]
    exact Fin.of rfl
end Go.Proofs.YtlcaefokcnohnaaGreatDoor
end
section
namespace Go.Proofs.YtlcaefokcnohnaaGreatDoor
open Go Go.V Go.Nb
theorem rholds_c (size : List Int) (out : Int) (data ts : List Int) (hs : size.length ≤ 281474976710656) (hd : data.length ≤ 281474976710656) (ht : ts.length ≤ 281474976710656) :
    Called Tryz.prog 11 [gridD size out data, .ints .i64 ts] (hdsR size out data ts) := by
  have hch := rchecked_c size out data ts hs hd ht
  rcases Decidable.em (chk size out data ts = 0) with h0 | h0
  rotate_left
  · rw [hdsR_no h0]
    have hr := chk_r size out data ts
    generalize chk size out data ts = z at *
    unfold gridD at hch ⊢
    refine called_of_run tbOk 6 ⟨Tryz.func11, rfl, rfl, Nat.le_of_ble_eq_true rfl⟩ ?_
    (conv => whnf)
    (conv => whnf)
    (try simp only [Nat.zero_add])
    repeat ((first | refine V.s1 ?_ | ((try ((with_reducible refine .ext ?_); (conv => whnf); (try simp only [Nat.zero_add]))); (with_reducible refine call_intro (r := ?_) ?_ ?_); rotate_left; (focus (first | exact (hch))); (conv => whnf))); (try simp only [Nat.zero_add]))
    refine Cnd.split (CondB.mk (fun hq => ?_) (fun hq => ?_))
    · (conv => whnf)
      (try simp only [Nat.zero_add])
      repeat ((first | refine V.s1 ?_); (try simp only [Nat.zero_add]))
      exact Fin.of rfl
    · exfalso
      simp at hq
      omega
  rw [h0] at hch
  obtain ⟨s0, s1, s2, t, rfl, rfl, rfl, C, hv⟩ := chk_ok h0
  rw [hdsR_ok h0]
  have hle := cells_le C
  have hcells := rcells_c C
  have hheld : ∀ n, n < 6 * cellsN s0 s1 s2 → _ := fun n hn => rheld_c C hn hv
  have hcnt := cnt_succ data s1 s2
  have hcl : ∀ m, cntN data s1 s2 m t ≤ m := fun m => cnt_le data s1 s2 m t
  unfold v3L at hch ⊢
  unfold gridD at hch hcells hheld ⊢
  obtain ⟨M, hM⟩ : ∃ M, cellsN s0 s1 s2 = M := ⟨_, rfl⟩
  rw [hM] at hcells hheld hle ⊢
  generalize sz3 s0 s1 s2 = sz at *
  refine called_of_run tbOk 6 ⟨Tryz.func11, rfl, rfl, Nat.le_of_ble_eq_true rfl⟩ ?_
  (conv => whnf)
  (conv => whnf)
  (try simp only [Nat.zero_add])
  repeat ((first | refine V.s1 ?_ | ((try ((with_reducible refine .ext ?_); (conv => whnf); (try simp only [Nat.zero_add]))); (with_reducible refine call_intro (r := ?_) ?_ ?_); rotate_left; (focus (first | exact (hch))); (conv => whnf))); (try simp only [Nat.zero_add]))
  refine lp_any (0) (fun k => k ≤ 6 * M) (fun k => 6 * M - k) (fun k => [(8, .int .i64 k), (7, .int .i64 (cntN data s1 s2 k t))]) (fun k => []) ?_ ?_ ?_
  · exact V.wk
  · omega
  intro k hk
  (conv => whnf)
  (try simp only [Nat.zero_add])
  repeat ((first | refine V.s1 ?_ | ((try ((with_reducible refine .ext ?_); (conv => whnf); (try simp only [Nat.zero_add]))); (with_reducible refine call_intro (r := ?_) ?_ ?_); rotate_left; (focus (first | exact (hcells))); (conv => whnf))); (try simp only [Nat.zero_add]))
  refine Cnd.split (CondB.mk (fun hq => ?_) (fun hq => ?_))
  · rw [decide_eq_true_eq] at hq
    obtain ⟨a, b, e, d, hc, _⟩ := hheld k (by omega)
    (conv => whnf)
    (try simp only [Nat.zero_add])
    repeat ((first | refine V.s1 ?_); (try simp only [Nat.zero_add]))
    refine ⟨(.take 0 (.take 1 (.take 2 (.take 3 (.take 4 (.take 5 (.take 6 (.take 7 (.take 8 (.take 9 (.take 10 (.take 11 (.ev (.cons 12 [] (.take 13 (.take 14 (.take 15 (.take 16 (.ev (.cons 17 [16, 15, 14, 13] (.ev (.cons 18 [16, 15] (.take 19 (.take 20 (.done))) (.nil))) (.nil))))))) (.cons 17 [11, 10, 9, 8, 7, 6, 5, 4, 3, 2, 1, 0] (.ev (.cons 12 [] (.take 13 (.take 14 (.take 15 (.take 16 (.ev (.cons 18 [16, 15] (.take 19 (.take 20 (.done))) (.nil))))))) (.nil))) (.nil)))))))))))))))), ⟨by kernel_rfl, by kernel_rfl, by kernel_rfl⟩, ?_⟩
    refine drw_meet [(11, .bool (hldN data s1 s2 k t).isSome)] [] ?_ ?_
    · (conv => whnf); (try simp only [Nat.zero_add, i3_0, i3_1, i3_2, g3_0, g3_1, g3_2])
      repeat' (first | exact V.wk | ((first | refine V.s1 ?_ | ((with_reducible refine recheck_and ?_ ?_); (focus ((conv => whnf); (try simp only [Nat.zero_add, i3_0, i3_1, i3_2, g3_0, g3_1, g3_2]); (repeat (refine V.s1 ?_; (try simp only [Nat.zero_add, i3_0, i3_1, i3_2, g3_0, g3_1, g3_2]))); exact ⟨rfl⟩)); (conv => whnf)) | ((try ((with_reducible refine .ext ?_); (conv => whnf); (try simp only [Nat.zero_add, i3_0, i3_1, i3_2, g3_0, g3_1, g3_2]))); (with_reducible refine call_intro (r := ?_) ?_ ?_); rotate_left; (focus (first | exact (hc _ .agg) | exact (hc _ .mkD) | exact (hc _ .mkI))); (conv => whnf))); (try simp only [Nat.zero_add, i3_0, i3_1, i3_2, g3_0, g3_1, g3_2])) | (refine And.intro ?_ ?_ <;> (conv => whnf); (try simp only [Nat.zero_add, i3_0, i3_1, i3_2, g3_0, g3_1, g3_2])))
    (conv => whnf)
    (try simp only [Nat.zero_add])
    repeat ((first | refine V.s1 ?_); (try simp only [Nat.zero_add]))
    refine cnd_meet [(7, .int .i64 (cntN data s1 s2 (k + 1) t))] [] (CondB.mk (fun hq2 => ?_) (fun hq2 => ?_)) ?_
    · have e1 := hcnt k t
      rw [hq2, if_pos rfl] at e1
      have e2 : ((cntN data s1 s2 k t : Nat) : Int) + 1 = (cntN data s1 s2 (k + 1) t : Nat) := by omega
      have e3 := hcl k
      (conv => whnf)
      (try simp only [Nat.zero_add, e2])
      repeat ((first | refine V.s1 ?_); (try simp only [Nat.zero_add, e2]))
      exact V.wk
    · have e1 := hcnt k t
      rw [hq2, if_neg (by decide), Nat.add_zero] at e1
      rw [e1]
      (conv => whnf)
      refine V.st ?_
      exact V.wk
    (conv => whnf)
    (try simp only [Nat.zero_add, cs1])
    repeat ((first | refine V.s1 ?_); (try simp only [Nat.zero_add, cs1]))
    exact ⟨k + 1, by omega, by omega, V.wk⟩
  · rw [decide_eq_false_iff_not] at hq
    have hk2 : k = 6 * M := by omega
    subst hk2
    (conv => whnf)
    (try simp only [Nat.zero_add])
    repeat ((first | refine V.s1 ?_); (try simp only [Nat.zero_add]))
    exact Fin.of rfl
end Go.Proofs.YtlcaefokcnohnaaGreatDoor
end
