/- What some functions of the program answer at values that mean given lists, texts and numbers, each proved of the program's own code: part 32. Conditions: those that each theorem names. -/
import Derived.Test.YtgjgpdceghjajaaGreatDoorSimplexKnownH31
import Derived.Test.YtgjgpdceghjajaaGreatDoorSimplexKnownH25
import Derived.Test.YtgjgpdceghjajaaGreatDoorSimplexKnownH26
import Derived.Test.YtgjgpdceghjajaaGreatDoorSimplexKnownH13
import Derived.Test.YtgjgpdceghjajaaGreatDoorSimplexKnownH14
set_option linter.unusedSimpArgs false
set_option linter.unusedVariables false
set_option maxHeartbeats 8000000
set_option maxRecDepth 100000
section
namespace Go.Proofs.YtgjgpdceghjajaaGreatDoor
open Go Go.V Go.Nb
theorem eval_t (zs data B O : List Int) (out : Int) (n m e0 : Nat) (X F Y : Nat → List D) (lo : Called Tryz.prog 44 [.agg [.ints .i64 zs, .int .i64 out, .ints .i64 data], .slf 2 n X] (.tup [.agg [.ints .i64 zs, .int .i64 out, .ints .i64 data, .ints .i64 B, .ints .i64 O, .slf 2 m F], .int .i64 0])) (va : Called Tryz.prog 45 [.agg [.ints .i64 zs, .int .i64 out, .ints .i64 data, .ints .i64 B, .ints .i64 O, .slf 2 m F]] (.tup [.slf 2 e0 Y, .int .i64 0])) :
  Called Tryz.prog 15 [.agg [.ints .i64 zs, .int .i64 out, .ints .i64 data], .slf 2 n X] (.tup [.slf 2 e0 Y, .int .i64 0]) := by
 refine jaa tbOk 6 ⟨Tryz.func15, rfl, rfl, jhy rfl⟩ ?_
 (conv => whnf)
 refine V.r2 @jhC lo va ?_
 exact Fin.of rfl
theorem cell_t (zs data B O : List Int) (out : Int) (n m : Nat) (X F : Nat → List D) (lo : Called Tryz.prog 44 [.agg [.ints .i64 zs, .int .i64 out, .ints .i64 data], .slf 2 n X] (.tup [.agg [.ints .i64 zs, .int .i64 out, .ints .i64 data, .ints .i64 B, .ints .i64 O, .slf 2 m F], .int .i64 0])) :
  Called Tryz.prog 17 [.agg [.ints .i64 zs, .int .i64 out, .ints .i64 data], .slf 2 n X] (.tup [.ints .i64 B, .ints .i64 O, .slf 2 m F, .int .i64 0]) := by
 refine jaa tbOk 6 ⟨Tryz.func17, rfl, rfl, jhy rfl⟩ ?_
 (conv => whnf)
 refine V.r1 @jhC lo ?_
 refine ⟨(.take 0 (.take 1 (.take 2 (.take 3 (.take 4 (.take 5 (.take 6 (.take 7 (.take 8 (.take 9 (.done))))))))))), [], ⟨by kernel_rfl, by kernel_rfl, by kernel_rfl, by kernel_rfl⟩, ?_⟩
 refine jac [(4, .ints .i64 B), (5, .ints .i64 O), (6, .slf 2 m F), (7, .int .i64 0)] [] ?_ ?_
 ·exact V.d0 @jhC
 refine V.r0 @jhC ?_
 exact Fin.of rfl
theorem loc_len (zs data : List Int) (out : Int) (n : Nat) (X : Nat → List D) (h : n ≠ zs.length) (ck : Called Tryz.prog 37 [.agg [.ints .i64 zs, .int .i64 out, .ints .i64 data]] (.int .i64 0)) :
  Called Tryz.prog 44 [.agg [.ints .i64 zs, .int .i64 out, .ints .i64 data], .slf 2 n X] (.tup [.agg [.nil, .int .i64 0, .nil, .nil, .nil, .nil], .int .i64 2]) := by
 refine jaa tbOk 6 ⟨Tryz.func44, rfl, rfl, jhy rfl⟩ ?_
 (conv => whnf)
 refine V.r1 @jhC ck ?_
 refine Cnd.split (CondB.mk (fun _ => ?_) (fun g => absurd (decide_eq_true (show ((n : Int) ≠ (zs.length : Int)) from by omega)) (by rw [g]; decide)))
 refine V.r0 @jhC ?_
 exact Fin.of rfl
theorem eval_e (zs data : List Int) (out e : Int) (he : e ≠ 0) (n : Nat) (X : Nat → List D) (lo : Called Tryz.prog 44 [.agg [.ints .i64 zs, .int .i64 out, .ints .i64 data], .slf 2 n X] (.tup [.agg [.nil, .int .i64 0, .nil, .nil, .nil, .nil], .int .i64 e])) :
  Called Tryz.prog 15 [.agg [.ints .i64 zs, .int .i64 out, .ints .i64 data], .slf 2 n X] (.tup [.nil, .int .i64 e]) := by
 refine jaa tbOk 6 ⟨Tryz.func15, rfl, rfl, jhy rfl⟩ ?_
 (conv => whnf)
 refine V.r1 @jhC lo ?_
 refine Cnd.split (CondB.mk (fun _ => ?_) (fun g => absurd (decide_eq_true he) (by rw [g]; decide)))
 refine V.r0 @jhC ?_
 exact Fin.of rfl
theorem jcG {n : Nat} {q : Rat} (h : Fq n q) (h0 : 0 < n ∧ n ≤ 600) : Called Tryz.prog 78 [frT q] (.int .i64 0) := by
 have o := ja5 (h.ok h0.1 h0.2)
 have b := h.ok h0.1 h0.2
 unfold okF at b
 simp only [jhx, decide_eq_true_eq] at b
 have c := fcheck_c (decZ q.num) (dec q.den) (by unfold decZ; split <;> (try simp only [List.length_cons]) <;> omega) (by omega)
 rw [o.1] at c
 exact c
theorem jeq {zs : List Int} {out : Int} {data : List Int} (hg : jan zs out data = true) (hl : zs.length ≤ 4) : Called Tryz.prog 37 [gridD zs out data] (.int .i64 0) := by
 have o := jaI hg
 have c := jch zs out data (by omega) (by omega)
 rw [hg] at c
 exact c
theorem locq2 {x0 x1 : Rat} {z0 z1 out : Int} {data : List Int} (hg : jan [z0, z1] out data = true) (h0 : Fq 40 x0) (h1 : Fq 40 x1) : Called Tryz.prog 44 [gridD [z0, z1] out data, slQ (fun i => txq (rqN x0 x1 0 i)) 2] (.tup [.agg [.ints .i64 [z0, z1], .int .i64 out, .ints .i64 data, .ints .i64 [spB z0 x0, spB z1 x1], .ints .i64 (ord2 (spR z0 x0) (spR z1 x1)), slQ (fun k => txq (wqN (rqN (spR z0 x0) (spR z1 x1) 0) (ord2 (spR z0 x0) (spR z1 x1)) 2 k)) 3], .int .i64 0]) := by
 have og := jaI hg
 have s0 := og.2.1 z0 (by simp)
 have s1 := og.2.1 z1 (by simp)
 have fc : ∀ k, k < 2 → Called Tryz.prog 78 [frT (rqN x0 x1 0 k)] (.int .i64 0) := fun k hk => by
  have h : k = 0 ∨ k = 1 := by omega
  rcases h with rfl | rfl
  ·exact jcG h0 (by decide)
  ·exact jcG h1 (by decide)
 exact loc2_t z0 z1 out data _ _ (fun i => txq (rqN x0 x1 0 i)) _ _ (jeq hg (by simp)) fc (find2_q out data h0 h1 s0 s1)
theorem evalq2 {x0 x1 : Rat} {z0 z1 out : Int} {data : List Int} (hg : jan [z0, z1] out data = true) (h0 : Fq 40 x0) (h1 : Fq 40 x1) : Called Tryz.prog 15 [gridD [z0, z1] out data, slQ (fun i => txq (rqN x0 x1 0 i)) 2] (.tup [slQ (fun j => txq (evQ [z0, z1] out data x0 x1 0 j)) out.toNat, .int .i64 0]) :=
 eval_t _ _ _ _ _ _ _ _ _ _ _ (locq2 hg h0 h1) (valq2 hg h0 h1)
theorem cellq2 {x0 x1 : Rat} {z0 z1 out : Int} {data : List Int} (hg : jan [z0, z1] out data = true) (h0 : Fq 40 x0) (h1 : Fq 40 x1) : Called Tryz.prog 17 [gridD [z0, z1] out data, slQ (fun i => txq (rqN x0 x1 0 i)) 2] (.tup [.ints .i64 [spB z0 x0, spB z1 x1], .ints .i64 (ord2 (spR z0 x0) (spR z1 x1)), slQ (fun k => txq (wqN (rqN (spR z0 x0) (spR z1 x1) 0) (ord2 (spR z0 x0) (spR z1 x1)) 2 k)) 3, .int .i64 0]) :=
 cell_t _ _ _ _ _ _ _ _ _ (locq2 hg h0 h1)
theorem locq3 {x0 x1 x2 : Rat} {z0 z1 z2 out : Int} {data : List Int} (hg : jan [z0, z1, z2] out data = true) (h0 : Fq 40 x0) (h1 : Fq 40 x1) (h2 : Fq 40 x2) : Called Tryz.prog 44 [gridD [z0, z1, z2] out data, slQ (fun i => txq (rqN x0 x1 x2 i)) 3] (.tup [.agg [.ints .i64 [z0, z1, z2], .int .i64 out, .ints .i64 data, .ints .i64 [spB z0 x0, spB z1 x1, spB z2 x2], .ints .i64 (ord3 (spR z0 x0) (spR z1 x1) (spR z2 x2)), slQ (fun k => txq (wqN (rqN (spR z0 x0) (spR z1 x1) (spR z2 x2)) (ord3 (spR z0 x0) (spR z1 x1) (spR z2 x2)) 3 k)) 4], .int .i64 0]) := by
 have og := jaI hg
 have s0 := og.2.1 z0 (by simp)
 have s1 := og.2.1 z1 (by simp)
 have s2 := og.2.1 z2 (by simp)
 have fc : ∀ k, k < 3 → Called Tryz.prog 78 [frT (rqN x0 x1 x2 k)] (.int .i64 0) := fun k hk => by
  have h : k = 0 ∨ k = 1 ∨ k = 2 := by omega
  rcases h with rfl | rfl | rfl
  ·exact jcG h0 (by decide)
  ·exact jcG h1 (by decide)
  ·exact jcG h2 (by decide)
 exact loc3_t z0 z1 z2 out data _ _ (fun i => txq (rqN x0 x1 x2 i)) _ _ (jeq hg (by simp)) fc (find3_q out data h0 h1 h2 s0 s1 s2)
theorem evalq3 {x0 x1 x2 : Rat} {z0 z1 z2 out : Int} {data : List Int} (hg : jan [z0, z1, z2] out data = true) (h0 : Fq 40 x0) (h1 : Fq 40 x1) (h2 : Fq 40 x2) : Called Tryz.prog 15 [gridD [z0, z1, z2] out data, slQ (fun i => txq (rqN x0 x1 x2 i)) 3] (.tup [slQ (fun j => txq (evQ [z0, z1, z2] out data x0 x1 x2 j)) out.toNat, .int .i64 0]) :=
 eval_t _ _ _ _ _ _ _ _ _ _ _ (locq3 hg h0 h1 h2) (valq3 hg h0 h1 h2)
theorem cellq3 {x0 x1 x2 : Rat} {z0 z1 z2 out : Int} {data : List Int} (hg : jan [z0, z1, z2] out data = true) (h0 : Fq 40 x0) (h1 : Fq 40 x1) (h2 : Fq 40 x2) : Called Tryz.prog 17 [gridD [z0, z1, z2] out data, slQ (fun i => txq (rqN x0 x1 x2 i)) 3] (.tup [.ints .i64 [spB z0 x0, spB z1 x1, spB z2 x2], .ints .i64 (ord3 (spR z0 x0) (spR z1 x1) (spR z2 x2)), slQ (fun k => txq (wqN (rqN (spR z0 x0) (spR z1 x1) (spR z2 x2)) (ord3 (spR z0 x0) (spR z1 x1) (spR z2 x2)) 3 k)) 4, .int .i64 0]) :=
 cell_t _ _ _ _ _ _ _ _ _ (locq3 hg h0 h1 h2)
theorem mul_sgn {k l d : Rat} (hk : 0 ≤ k) (hl : 0 ≤ l) : 0 ≤ k * d * (l * d) := by
 have h1 := Rat.mul_nonneg hk hl
 have h2 : 0 ≤ d * d := by
  by_cases h : 0 ≤ d
  ·exact Rat.mul_nonneg h h
  ·have h3 : 0 ≤ -d := by grind
   have h4 := Rat.mul_nonneg h3 h3
   grind
 have h3 := Rat.mul_nonneg h1 h2
 grind
theorem between {p q r k l : Rat} (hk : 0 ≤ k) (hl : 0 ≤ l) (h1 : q - p = k * (r - p)) (h2 : r - q = l * (r - p)) : 0 ≤ ordQ p q * ordQ q r := by
 have h3 := mul_sgn (d := r - p) hk hl
 rw [← h1, ← h2] at h3
 unfold ordQ
 by_cases a : p < q
 ·by_cases b : q < r
  ·simp [a, b]
  ·by_cases c : q = r
   ·simp [c]
   ·exfalso
    have e1 : 0 < q - p := by grind
    have e2 : 0 < q - r := by grind
    have := Rat.mul_pos e1 e2
    grind
 ·by_cases a2 : p = q
  ·simp [a2]
  ·by_cases b : q < r
   ·exfalso
    have e1 : 0 < p - q := by grind
    have e2 : 0 < r - q := by grind
    have := Rat.mul_pos e1 e2
    grind
   ·by_cases c : q = r
    ·simp [c]
    ·simp [a, a2, b, c]
theorem lof_c {n m : Int} (hn : -9223372036854775807 ≤ n ∧ n ≤ 9223372036854775807) (hm : 1 ≤ m ∧ m ≤ 9223372036854775807) : Called Tryz.prog 18 [.int .i64 n, .int .i64 m] (frT (Rat.divInt n m)) := by
 have c := y_rof hn hm
 unfold frT at *
 generalize Rat.divInt n m = q at *
 refine jaa tbOk 6 ⟨Tryz.func18, rfl, rfl, jhy rfl⟩ ?_
 (conv => whnf)
 refine V.st ?_
 repeat ((try ((with_reducible refine .ext ?_); (conv => whnf))); (with_reducible refine jab (r := ?_) ?_ ?_); rotate_left; (focus (first | exact (c))); (conv => whnf); refine V.st ?_)
 exact Fin.of rfl
theorem lfour_c : Called Tryz.prog 31 [] (gridD [2, 2] 1 [0, 13107, 26214, 65535]) := by
 refine jaa tbOk 6 ⟨Tryz.func31, rfl, rfl, jhy rfl⟩ ?_
 (conv => whnf)
 refine V.r0 @jhC ?_
 exact Fin.of rfl
theorem jhf : type_of% @jhC ∧ type_of% @tn0 ∧ type_of% @tn1 ∧ type_of% @tn2 ∧ type_of% @tn3 ∧ type_of% @xt4 := ⟨@jhC, @tn0, @tn1, @tn2, @tn3, @xt4⟩
theorem eqf1 (Y : Nat → Tx) : Called Tryz.prog 16 [.slf 2 1 (fun j => List.take 2 (List.drop (j * 2) [.str (Y 0).1, .str (Y 0).2])), .slf 2 1 (fun j => List.take 2 (List.drop (j * 2) [.str (Y 0).1, .str (Y 0).2]))] (.bool true) := by
 refine jaa tbOk 6 ⟨Tryz.func16, rfl, rfl, jhy rfl⟩ ?_
 (conv => whnf)
 refine V.r0 @jhC ?_
 refine jah (0) (fun k => k ≤ 1) (fun k => 1 - k) (fun k => [(13, .int .i64 k)]) (fun k => []) ?_ ?_ ?_
 ·exact V.wk
 ·exact jhz _
 intro k hk
 have hk4 : k = 0 ∨ k = 1 := by omega
 rcases hk4 with e | e
 all_goals subst e
 ·simp only [k0]
  refine V.r0 jhf ?_
  refine ⟨(.take 0 (.take 1 (.take 2 (.take 3 (.take 4 (.take 5 (.take 6 (.take 7 (.take 8 (.done)))))))))), [], ⟨by kernel_rfl, by kernel_rfl, by kernel_rfl, by kernel_rfl⟩, ?_⟩
  refine jac [(24, .bool false)] [] ?_ ?_
  ·exact V.d0 (V.a4 jhf @decide_true @Bool.and_self @Bool.not_true)
  refine V.r0 jhf ?_
  exact ⟨1, by omega, by omega, V.wk⟩
 ·simp only [k1]
  refine V.r0 @jhC ?_
  exact Fin.of rfl
theorem eqf3 (Y : Nat → Tx) : Called Tryz.prog 16 [.slf 2 3 (fun j => List.take 2 (List.drop (j * 2) [.str (Y 0).1, .str (Y 0).2, .str (Y 1).1, .str (Y 1).2, .str (Y 2).1, .str (Y 2).2])), .slf 2 3 (fun j => List.take 2 (List.drop (j * 2) [.str (Y 0).1, .str (Y 0).2, .str (Y 1).1, .str (Y 1).2, .str (Y 2).1, .str (Y 2).2]))] (.bool true) := by
 refine jaa tbOk 6 ⟨Tryz.func16, rfl, rfl, jhy rfl⟩ ?_
 (conv => whnf)
 refine V.r0 @jhC ?_
 refine jah (0) (fun k => k ≤ 3) (fun k => 3 - k) (fun k => [(13, .int .i64 k)]) (fun k => []) ?_ ?_ ?_
 ·exact V.wk
 ·exact jhz _
 intro k hk
 have hk4 : k = 0 ∨ k = 1 ∨ k = 2 ∨ k = 3 := by omega
 rcases hk4 with e | e | e | e
 all_goals subst e
 ·simp only [k0]
  refine V.r0 jhf ?_
  refine ⟨(.take 0 (.take 1 (.take 2 (.take 3 (.take 4 (.take 5 (.take 6 (.take 7 (.take 8 (.done)))))))))), [], ⟨by kernel_rfl, by kernel_rfl, by kernel_rfl, by kernel_rfl⟩, ?_⟩
  refine jac [(24, .bool false)] [] ?_ ?_
  ·exact V.d0 (V.a4 jhf @decide_true @Bool.and_self @Bool.not_true)
  refine V.r0 jhf ?_
  exact ⟨1, by omega, by omega, V.wk⟩
 ·simp only [k1]
  refine V.r0 jhf ?_
  refine ⟨(.take 0 (.take 1 (.take 2 (.take 3 (.take 4 (.take 5 (.take 6 (.take 7 (.take 8 (.done)))))))))), [], ⟨by kernel_rfl, by kernel_rfl, by kernel_rfl, by kernel_rfl⟩, ?_⟩
  refine jac [(24, .bool false)] [] ?_ ?_
  ·exact V.d0 (V.a4 jhf @decide_true @Bool.and_self @Bool.not_true)
  refine V.r0 jhf ?_
  exact ⟨2, by omega, by omega, V.wk⟩
 ·simp only [k2]
  refine V.r0 jhf ?_
  refine ⟨(.take 0 (.take 1 (.take 2 (.take 3 (.take 4 (.take 5 (.take 6 (.take 7 (.take 8 (.done)))))))))), [], ⟨by kernel_rfl, by kernel_rfl, by kernel_rfl, by kernel_rfl⟩, ?_⟩
  refine jac [(24, .bool false)] [] ?_ ?_
  ·exact V.d0 (V.a4 jhf @decide_true @Bool.and_self @Bool.not_true)
  refine V.r0 jhf ?_
  exact ⟨3, by omega, by omega, V.wk⟩
 ·simp only [k3]
  refine V.r0 @jhC ?_
  exact Fin.of rfl
theorem eqf4 (Y : Nat → Tx) : Called Tryz.prog 16 [.slf 2 4 (fun j => List.take 2 (List.drop (j * 2) [.str (Y 0).1, .str (Y 0).2, .str (Y 1).1, .str (Y 1).2, .str (Y 2).1, .str (Y 2).2, .str (Y 3).1, .str (Y 3).2])), .slf 2 4 (fun j => List.take 2 (List.drop (j * 2) [.str (Y 0).1, .str (Y 0).2, .str (Y 1).1, .str (Y 1).2, .str (Y 2).1, .str (Y 2).2, .str (Y 3).1, .str (Y 3).2]))] (.bool true) := by
 refine jaa tbOk 6 ⟨Tryz.func16, rfl, rfl, jhy rfl⟩ ?_
 (conv => whnf)
 refine V.r0 @jhC ?_
 refine jah (0) (fun k => k ≤ 4) (fun k => 4 - k) (fun k => [(13, .int .i64 k)]) (fun k => []) ?_ ?_ ?_
 ·exact V.wk
 ·exact jhz _
 intro k hk
 have hk4 : k = 0 ∨ k = 1 ∨ k = 2 ∨ k = 3 ∨ k = 4 := by omega
 rcases hk4 with e | e | e | e | e
 all_goals subst e
 ·simp only [k0]
  refine V.r0 jhf ?_
  refine ⟨(.take 0 (.take 1 (.take 2 (.take 3 (.take 4 (.take 5 (.take 6 (.take 7 (.take 8 (.done)))))))))), [], ⟨by kernel_rfl, by kernel_rfl, by kernel_rfl, by kernel_rfl⟩, ?_⟩
  refine jac [(24, .bool false)] [] ?_ ?_
  ·exact V.d0 (V.a4 jhf @decide_true @Bool.and_self @Bool.not_true)
  refine V.r0 jhf ?_
  exact ⟨1, by omega, by omega, V.wk⟩
 ·simp only [k1]
  refine V.r0 jhf ?_
  refine ⟨(.take 0 (.take 1 (.take 2 (.take 3 (.take 4 (.take 5 (.take 6 (.take 7 (.take 8 (.done)))))))))), [], ⟨by kernel_rfl, by kernel_rfl, by kernel_rfl, by kernel_rfl⟩, ?_⟩
  refine jac [(24, .bool false)] [] ?_ ?_
  ·exact V.d0 (V.a4 jhf @decide_true @Bool.and_self @Bool.not_true)
  refine V.r0 jhf ?_
  exact ⟨2, by omega, by omega, V.wk⟩
 ·simp only [k2]
  refine V.r0 jhf ?_
  refine ⟨(.take 0 (.take 1 (.take 2 (.take 3 (.take 4 (.take 5 (.take 6 (.take 7 (.take 8 (.done)))))))))), [], ⟨by kernel_rfl, by kernel_rfl, by kernel_rfl, by kernel_rfl⟩, ?_⟩
  refine jac [(24, .bool false)] [] ?_ ?_
  ·exact V.d0 (V.a4 jhf @decide_true @Bool.and_self @Bool.not_true)
  refine V.r0 jhf ?_
  exact ⟨3, by omega, by omega, V.wk⟩
 ·simp only [k3]
  refine V.r0 jhf ?_
  refine ⟨(.take 0 (.take 1 (.take 2 (.take 3 (.take 4 (.take 5 (.take 6 (.take 7 (.take 8 (.done)))))))))), [], ⟨by kernel_rfl, by kernel_rfl, by kernel_rfl, by kernel_rfl⟩, ?_⟩
  refine jac [(24, .bool false)] [] ?_ ?_
  ·exact V.d0 (V.a4 jhf @decide_true @Bool.and_self @Bool.not_true)
  refine V.r0 jhf ?_
  exact ⟨4, by omega, by omega, V.wk⟩
 ·simp only [xk4]
  refine V.r0 @jhC ?_
  exact Fin.of rfl
theorem eqb1 (Y : Nat → Int × Int) : Called Tryz.prog 35 [.slf 2 1 (fun j => List.take 2 (List.drop (j * 2) [.int .i64 (Y 0).1, .int .i64 (Y 0).2])), .slf 2 1 (fun j => List.take 2 (List.drop (j * 2) [.int .i64 (Y 0).1, .int .i64 (Y 0).2]))] (.bool true) := by
 refine jaa tbOk 6 ⟨Tryz.func35, rfl, rfl, jhy rfl⟩ ?_
 (conv => whnf)
 refine V.r0 @jhC ?_
 refine jah (0) (fun k => k ≤ 1) (fun k => 1 - k) (fun k => [(13, .int .i64 k)]) (fun k => []) ?_ ?_ ?_
 ·exact V.wk
 ·exact jhz _
 intro k hk
 have hk4 : k = 0 ∨ k = 1 := by omega
 rcases hk4 with e | e
 all_goals subst e
 ·simp only [k0]
  refine V.r0 jhf ?_
  refine ⟨(.take 0 (.take 1 (.take 2 (.take 3 (.take 4 (.take 5 (.take 6 (.take 7 (.take 8 (.done)))))))))), [], ⟨by kernel_rfl, by kernel_rfl, by kernel_rfl, by kernel_rfl⟩, ?_⟩
  refine jac [(24, .bool false)] [] ?_ ?_
  ·exact V.d0 (V.a4 jhf @decide_true @Bool.and_self @Bool.not_true)
  refine V.r0 jhf ?_
  exact ⟨1, by omega, by omega, V.wk⟩
 ·simp only [k1]
  refine V.r0 @jhC ?_
  exact Fin.of rfl
theorem value_t (zs data : List Int) (out : Int) (n : Nat) (X : Nat → List D) (Y : Nat → Tx) (ev : Called Tryz.prog 15 [.agg [.ints .i64 zs, .int .i64 out, .ints .i64 data], .slf 2 n X] (.tup [.slf 2 1 (fun j => List.take 2 (List.drop (j * 2) [.str (Y 0).1, .str (Y 0).2])), .int .i64 0])) :
  Called Tryz.prog 26 [.agg [.ints .i64 zs, .int .i64 out, .ints .i64 data], .agg [.str (Y 0).1, .str (Y 0).2], .slf 2 n X] (.bool true) := by
 have q := eqf1 Y
 refine jaa tbOk 6 ⟨Tryz.func26, rfl, rfl, jhy rfl⟩ ?_
 (conv => whnf)
 refine V.r2 @jhC ev q ?_
 exact Fin.of rfl
end Go.Proofs.YtgjgpdceghjajaaGreatDoor
end
section
namespace Go.Gr
def PR : List Nat → Nat
 | [] => 1
 | n :: r => n * PR r
def ixl : List Nat → Nat → List Int
 | [], _ => []
 | n :: r, m => ((m / PR r % n : Nat) : Int) :: ixl r m
theorem jdG {ns : List Nat} (h : ∀ n ∈ ns, 0 < n) : 0 < PR ns := by
 induction ns with
 | nil => decide
 | cons n r ih => exact Nat.mul_pos (h n (by simp)) (ih fun x hx => h x (by simp [hx]))
theorem jau (ns : List Nat) (m : Nat) : (ixl ns m).length = ns.length := by
 induction ns with
 | nil => rfl
 | cons n r ih => simp [ixl, ih]
theorem jfB (ns : List Nat) (m i n : Nat) (h : ns[i]? = some n) : (ixl ns m)[i]? = some ((m / PR (ns.drop (i + 1)) % n : Nat) : Int) := by
 induction ns generalizing i with
 | nil => simp at h
 | cons a r ih =>
  cases i with
  | zero => simp at h; subst h; simp [ixl]
  | succ i => simpa [ixl] using ih i (by simpa using h)
theorem jgO (ns : List Nat) (hp : ∀ n ∈ ns, 0 < n) (m : Nat) : ixl ns (m % PR ns) = ixl ns m := by
 induction ns generalizing m with
 | nil => rfl
 | cons n r ih =>
  have hr : ∀ x ∈ r, 0 < x := fun x hx => hp x (by simp [hx])
  have h1 := jdG hr
  simp only [ixl, PR]
  have e1 : m % (n * PR r) / PR r % n = m / PR r % n := by
   rw [jhG, Nat.mod_mul_right_div_self, Nat.mod_mod]
  have e2 : ixl r (m % (n * PR r)) = ixl r m := by
   rw [← ih hr (m % (n * PR r)), Nat.mod_mul_left_mod, ih hr]
  rw [e1, e2]
theorem jdc (ns : List Nat) (hp : ∀ n ∈ ns, 0 < n) (m : Nat) (h : m % PR ns = PR ns - 1) : ixl ns m = ns.map fun n : Nat => (n : Int) - 1 := by
 induction ns generalizing m with
 | nil => rfl
 | cons n r ih =>
  have hr : ∀ x ∈ r, 0 < x := fun x hx => hp x (by simp [hx])
  have hn : 0 < n := hp n (by simp)
  have h1 := jdG hr
  simp only [PR] at h
  rw [jhG, Nat.mod_mul] at h
  have h2 := Nat.mod_lt m h1
  have h3 := Nat.mod_lt (m / PR r) hn
  have h4 : PR r * (m / PR r % n) + m % PR r = PR r * (n - 1) + (PR r - 1) := by
   have : PR r * n = PR r * (n - 1) + PR r := by
    obtain ⟨k, rfl⟩ : ∃ k, n = k + 1 := ⟨n - 1, by omega⟩
    simp [Nat.mul_add]
   omega
  have h5 : m / PR r % n = n - 1 := by
   have e := congrArg (· / PR r) h4
   simp only [Nat.mul_add_div h1] at e
   rw [Nat.div_eq_of_lt h2, Nat.div_eq_of_lt (by omega : PR r - 1 < PR r)] at e
   omega
  have h6 : m % PR r = PR r - 1 := by rw [h5] at h4; omega
  simp only [ixl, List.map_cons, h5, ih hr m h6]
  congr 1
  omega
theorem jc9 (ns : List Nat) (hp : ∀ n ∈ ns, 0 < n) (m : Nat) (h : ixl ns m = ns.map fun n : Nat => (n : Int) - 1) : m % PR ns = PR ns - 1 := by
 induction ns generalizing m with
 | nil => simp [PR, Nat.mod_one]
 | cons n r ih =>
  have hr : ∀ x ∈ r, 0 < x := fun x hx => hp x (by simp [hx])
  have hn : 0 < n := hp n (by simp)
  have h1 := jdG hr
  simp only [ixl, List.map_cons, List.cons.injEq] at h
  have h2 := ih hr m h.2
  have h3 : m / PR r % n = n - 1 := by omega
  simp only [PR]
  rw [jhG, Nat.mod_mul, h2, h3]
  obtain ⟨k, rfl⟩ : ∃ k, n = k + 1 := ⟨n - 1, by omega⟩
  simp [Nat.mul_add]; omega
theorem jdB (ns : List Nat) (hp : ∀ n ∈ ns, 0 < n) (m : Nat) (h : m % PR ns = 0) : ixl ns m = List.replicate ns.length 0 := by
 rw [← jgO ns hp m, h]
 clear h
 induction ns with
 | nil => rfl
 | cons n r ih => simp only [ixl, Nat.zero_div, Nat.zero_mod, List.length_cons, List.replicate_succ, ih fun x hx => hp x (by simp [hx])]; rfl
theorem succ_div {m P : Nat} (hP : 0 < P) (h : m % P ≠ P - 1) : (m + 1) / P = m / P := by
 have h2 := Nat.mod_lt m hP
 have h3 := Nat.div_add_mod m P
 have : m + 1 = P * (m / P) + (m % P + 1) := by omega
 rw [this, Nat.mul_add_div hP, Nat.div_eq_of_lt (by omega : m % P + 1 < P)]
 omega
theorem jfj {m P : Nat} (hP : 0 < P) (h : m % P = P - 1) : (m + 1) / P = m / P + 1 ∧ (m + 1) % P = 0 := by
 have h3 := Nat.div_add_mod m P
 have : m + 1 = P * (m / P + 1) := by rw [Nat.mul_add]; omega
 rw [this, Nat.mul_div_cancel_left _ hP, Nat.mul_mod_right]
 exact ⟨rfl, rfl⟩
theorem mod_succ {a n : Nat} (hn : 0 < n) (h : a % n ≠ n - 1) : (a + 1) % n = a % n + 1 := by
 have h2 := Nat.mod_lt a hn
 have h3 := Nat.div_add_mod a n
 have : a + 1 = n * (a / n) + (a % n + 1) := by omega
 rw [this, Nat.mul_add_mod, jhH (by omega : a % n + 1 < n)]
theorem jdS (ns : List Nat) (hp : ∀ n ∈ ns, 0 < n) (m j n : Nat) (hj : ns[j]? = some n) (x : Int) (hx : (ixl ns m)[j]? = some x)
  (h1 : (ixl ns m).drop (j + 1) = (ns.drop (j + 1)).map fun n : Nat => (n : Int) - 1) (h2 : x ≠ (n : Int) - 1) : ixl ns (m + 1) = (ixl ns m).take j ++ (x + 1) :: List.replicate (ns.length - (j + 1)) 0 := by
 induction ns generalizing j with
 | nil => simp at hj
 | cons a r ih =>
  have hr : ∀ y ∈ r, 0 < y := fun y hy => hp y (by simp [hy])
  have ha : 0 < a := hp a (by simp)
  have hP := jdG hr
  cases j with
  | zero =>
   simp at hj hx
   subst hj
   simp [ixl] at h1 hx
   have h3 := jc9 r hr m h1
   have h4 := jfj hP h3
   have h5 := jdB r hr _ h4.2
   simp only [ixl, h4.1, h5]
   have h6 : m / PR r % a ≠ a - 1 := fun e => by
    apply h2
    rw [← hx, ← Int.natCast_ediv, ← Int.natCast_emod, e]
    omega
   rw [mod_succ ha h6]
   subst hx
   simp
  | succ j =>
   have hj' : r[j]? = some n := by simpa using hj
   have hx' : (ixl r m)[j]? = some x := by simpa [ixl] using hx
   have h1' : (ixl r m).drop (j + 1) = (r.drop (j + 1)).map fun n : Nat => (n : Int) - 1 := by simpa [ixl] using h1
   have h3 : m % PR r ≠ PR r - 1 := fun e => by
    have := jdc r hr m e
    rw [this] at hx'
    simp [hj'] at hx'
    omega
   have h4 := ih hr j hj' hx' h1'
   simp only [ixl, succ_div hP h3, h4, List.take_succ_cons, List.cons_append, List.length_cons]
   congr 2
   simp
theorem pz_ixl_aux (ns : List Nat) (hp : ∀ n ∈ ns, 0 < n) (m : Nat) (p : Int) : ((ns.map fun n : Nat => (n : Int)).zip (ixl ns m)).foldl (fun p a => p * a.1 + a.2) p = p * (PR ns : Int) + ((m % PR ns : Nat) : Int) := by
 induction ns generalizing p with
 | nil => simp [ixl, PR, Nat.mod_one]
 | cons n r ih =>
  have hr : ∀ x ∈ r, 0 < x := fun x hx => hp x (by simp [hx])
  simp only [ixl, List.map_cons, List.zip_cons_cons, List.foldl_cons, PR]
  rw [ih hr, jhG n, Nat.mod_mul]
  simp only [Int.natCast_add, jhM, jhX, jhP]
  rw [jhO (PR r : Int) (n : Int), jhO (PR r : Int) _]
  omega
def swp (l : List Int) (a b : Nat) : List Int := (l.set a (l.getD b 0)).set b (l.getD a 0)
def swn (l : List Nat) (a b : Nat) : List Nat := (l.set a (l.getD b 0)).set b (l.getD a 0)
end Go.Gr
end
section
namespace Go.Proofs.YtgjgpdceghjajaaGreatDoor
open Go Go.V Go.Gr
def nz (ns : List Nat) : List Int := ns.map fun n : Nat => (n : Int)
theorem jgy (ns : List Nat) : prod (nz ns) = (PR ns : Nat) := by
 have h : ∀ (l : List Nat) (q : Int), (nz l).foldl (· * ·) q = q * (PR l : Nat) := by
  intro l
  induction l with
  | nil => intro q; simp [nz, PR]
  | cons x l ih =>
   intro q
   have := ih (q * x)
   simp only [nz, List.map_cons, List.foldl_cons, PR] at this ⊢
   rw [this, jhM, jhP]
 have := h ns 1
 simpa [prod] using this
def rl (lt : Int → Int → Bool) (data : List Int) (w : Nat) : Nat → List Int
 | 0 => slot data 0 w
 | i + 1 => (rl lt data w i).set (i % w) (if lt (data.getD i 0) ((rl lt data w i).getD (i % w) 0) then data.getD i 0 else (rl lt data w i).getD (i % w) 0)
theorem jd6 {lt : Int → Int → Bool} {data : List Int} {w : Nat} (h : w ≤ data.length) (i : Nat) : (rl lt data w i).length = w := by
 induction i with
 | zero => simp [rl, slot]; omega
 | succ i ih => simp [rl, ih]
def lastL (ns : List Nat) : List Int := ns.map fun n : Nat => (n : Int) - 1
def flat (ns : List Nat) (f : Nat → List Int) (m : Nat) : List Int := (List.range m).flatMap f
theorem jes (ns : List Nat) (f : Nat → List Int) (m : Nat) : flat ns f (m + 1) = flat ns f m ++ f m := by
 simp [flat, List.range_succ]
theorem flat_len {ns : List Nat} {f : Nat → List Int} {m : Nat} (h : ∀ j, j < m → (f j).length ≤ 4) : (flat ns f m).length ≤ 4 * m := by
 induction m with
 | zero => simp [flat]
 | succ m ih =>
  rw [jes, List.length_append]
  have h1 := ih fun j hj => h j (by omega)
  have h2 := h m (by omega)
  omega
theorem PR_le {ns : List Nat} (h1 : ns.length ≤ 4) (h2 : ∀ n ∈ ns, 2 ≤ n ∧ n ≤ 9) : PR ns ≤ 6561 := by
 have hb : ∀ l : List Nat, (∀ n ∈ l, 2 ≤ n ∧ n ≤ 9) → PR l ≤ 9 ^ l.length := by
  intro l
  induction l with
  | nil => intro _; decide
  | cons x l ih =>
   intro hl
   have h3 := ih fun n hn => hl n (by simp [hn])
   have h4 := hl x (by simp)
   rw [PR, List.length_cons, Nat.pow_succ, jhG]
   exact Nat.mul_le_mul h3 h4.2
 exact jhL (hb ns h2) (jhS (by omega) h1)
theorem jfA {ns : List Nat} (h1 : 1 ≤ ns.length ∧ ns.length ≤ 4) (h2 : ∀ n ∈ ns, 2 ≤ n ∧ n ≤ 9) : pad4 (ixl ns 0) = [0, 0, 0, 0] := by
 rw [jdB ns (fun n hn => by have := h2 n hn; omega) 0 (Nat.zero_mod _)]
 unfold pad4
 rw [List.length_replicate, ← List.replicate_append_replicate.symm]
 have : ns.length + (4 - ns.length) = 4 := by omega
 simp [this]
theorem jdP {a b : List Int} (h : a.length = b.length) (e : pad4 a = pad4 b) : a = b := (List.append_inj e h).1
theorem jbl {l : List Int} {p k : Nat} {x : Int} (h : l[p]? = some x) (hk : p < k) (hl : l.length ≤ 4) : (pad4 (l.take k)).getD p 0 = x := by
 have hp := (List.getElem?_eq_some_iff.1 h).1
 unfold pad4
 rw [List.getD_eq_getElem?_getD, List.getElem?_append_left (by simp; omega), List.getElem?_take_of_lt hk, h]
 rfl
theorem jcp {l : List Int} {p : Nat} {x y : Int} (h : l[p]? = some x) (h1 : p < l.length) (hl : l.length ≤ 4) : (pad4 (l.take (p + 1))).set p y = pad4 (l.take p ++ y :: List.replicate (l.length - (p + 1)) 0) := by
 unfold pad4
 have e1 : (l.take (p + 1)).length = p + 1 := by simp; omega
 have e2 : (l.take p ++ y :: List.replicate (l.length - (p + 1)) 0).length = l.length := by simp; omega
 have e4 : (l.take p).length = p := by simp; omega
 rw [e1, e2, List.set_append_left _ _ (by omega), List.take_add_one, h]
 have e3 : (l.take p ++ (some x).toList).set p y = l.take p ++ [y] := by
  rw [List.set_append_right _ _ (by omega), e4, Nat.sub_self]
  rfl
 rw [e3, List.append_assoc, List.append_assoc]
 congr 1
 rw [List.singleton_append, List.cons_append, List.replicate_append_replicate]
 congr 2
 omega
theorem jc8 {l : List Int} {p : Nat} {x : Int} (h : l[p]? = some x) (hl : l.length ≤ 4) : (pad4 (l.take (p + 1))).set p 0 = pad4 (l.take p) := by
 have h1 := (List.getElem?_eq_some_iff.1 h).1
 rw [jcp h h1 hl]
 unfold pad4
 have e2 : (l.take p ++ (0 : Int) :: List.replicate (l.length - (p + 1)) 0).length = l.length := by simp; omega
 have e3 : (l.take p).length = p := by simp; omega
 rw [e2, e3, List.append_assoc]
 congr 1
 rw [← List.replicate_succ, List.replicate_append_replicate]
 congr 1
 omega
theorem jdC {ns : List Nat} {m p n : Nat} {x : Int} (hpos : ∀ n ∈ ns, 0 < n) (hn : ns[p]? = some n) (hx : (ixl ns m)[p]? = some x) : 0 ≤ x ∧ x ≤ (n : Int) - 1 := by
 rw [jfB ns m p n hn] at hx
 cases hx
 have := Nat.mod_lt (m / PR (ns.drop (p + 1))) (hpos n (List.mem_of_getElem? hn))
 omega
end Go.Proofs.YtgjgpdceghjajaaGreatDoor
end
