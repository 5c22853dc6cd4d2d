/- What functions of the program answer at given values, part 8. Conditions: those that each theorem names. -/
import Derived.Test.YtbnghipgicmpdaaGreatDoorSimplexCellsH6
import Derived.Test.YtbnghipgicmpdaaGreatDoorSimplexCellsH7
import Derived.Lib.BitFns
import Derived.Laws.Bits64b
import Derived.Test.YtbnghipgicmpdaaGreatDoorSimplexCellsH5
import Derived.Lib.LaidTab
import Derived.Stop.LaidErr
import Derived.LaidMore
import Derived.Test.YtbnghipgicmpdaaGreatDoorSimplexCellsH4
set_option linter.unusedSimpArgs false
set_option linter.unusedVariables false
set_option maxHeartbeats 8000000
set_option maxRecDepth 100000
section
namespace Go.Proofs.YtbnghipgicmpdaaGreatDoor
open Go Go.V Go.Nb
theorem plus_m (a b : Nat) (ha : (mg 1000000000 a).length ≤ 100000000) (hb : (mg 1000000000 b).length ≤ 100000000) : Cl 206 [.ints .u32 (mg 1000000000 a), .ints .u32 (mg 1000000000 b)] (.ints .u32 (mg 1000000000 (a + b))) := by
  have hdx := mg_dg (B := 1000000000) (by omega) a
  have hdy := mg_dg (B := 1000000000) (by omega) b
  have hvx := jaG (B := 1000000000) (by omega) a
  have hvy := jaG (B := 1000000000) (by omega) b
  have hpx := fun h => jcK (B := 1000000000) (n := a) (by omega) h
  have hpy := fun h => jcK (B := 1000000000) (n := b) (by omega) h
  have hex := jb6 (B := 1000000000) (n := a) (by omega)
  have hey := jb6 (B := 1000000000) (n := b) (by omega)
  generalize mg 1000000000 a = xs at *
  generalize mg 1000000000 b = ys at *
  refine V.en tbOk Tryz.func206 ?_
  (conv => whnf)
  refine V.st ?_
  refine V.br (fun hl => ?_) (fun hl => ?_)
  · rw [decide_eq_true_eq] at hl
    obtain ⟨N, hN⟩ : ∃ N, N = ys.length + 1 := ⟨_, rfl⟩
    have e1 : (ys.length : Int) + 1 = (N : Int) := by omega
    rw [Nat.add_comm a b]
    (conv => whnf)
    (try simp only [e1, ji0])
    repeat ((first | refine V.s1 ?_); (try simp only [e1, ji0]))
    (obtain ⟨hdx, hdy⟩ := And.intro hdy hdx)
    refine jad ((false, 0, [], 0) : Bool × Nat × List Int × Int) (fun s => s.2.2.1.length = s.2.1 ∧ Dg 1000000000 s.2.2.1 ∧ (0 ≤ s.2.2.2 ∧ s.2.2.2 ≤ 1) ∧ val 1000000000 s.2.2.1 + s.2.2.2 * ((1000000000 : Nat) : Int) ^ s.2.1 = val 1000000000 ((ys).take s.2.1) + val 1000000000 ((xs).take s.2.1) ∧ s.2.1 ≤ (ys).length ∧ (s.1 = false → s.2.2.1 = [])) (fun s => (ys).length - s.2.1)
      (fun s => match s.1 with | false => [(22, .int .i64 s.2.1), (6, .int .u32 s.2.2.2), (5, .osl 19 0 0)] | true => [(22, .int .i64 s.2.1), (6, .int .u32 s.2.2.2), (5, .osl 47 0 s.2.2.1.length)]) (fun s => match s.1 with | false => [(19, .arr .u32 [])] | true => [(47, .arr .u32 s.2.2.1), (19, .gone)]) ?_ ?_ ?_
    · exact V.wk
    · exact ⟨rfl, fun x hx => by simp at hx, by simp, by simp [val], jiT _, fun _ => rfl⟩
    rintro ⟨_ | _, k, out, c⟩ ⟨h1, h2, h3, h4, h5, h6⟩
    · dsimp only at h1 h2 h3 h4 h5 h6 ⊢
      have h7 := h6 rfl
      clear h6
      subst h7
      have vx := jaj 1000000000 ys k
      have vy := jaj 1000000000 xs k
      have bx := jan (by omega) hdx k
      have by' := jan (by omega) hdy k
      have gy := jce (xs := xs) (k := k)
      generalize hx0 : (ys).getD k 0 = x at *
      generalize hy0 : (xs).getD k 0 = y at *
      refine V.r0 @ji0 ?_
      refine V.br (fun hq => ?_) (fun hq => ?_)
      · rw [decide_eq_true_eq] at hq
        refine V.r0 (V.a2 @ji0 hx0) ?_
        refine V.br (fun hy => ?_) (fun hy => ?_)
        · rw [decide_eq_true_eq] at hy
          refine V.r0 (V.a2 @ji0 hy0) ?_
          refine V.br (fun hz => ?_) (fun hz => ?_)
          · rw [decide_eq_true_eq] at hz
            have hst := jaC (B := 1000000000) (x := x) (y := y) (d := (x + c + y - 1000000000)) (c' := 1) h1 h4 (by omega)
            rw [← vx, ← vy] at hst
            have hdg : Dg 1000000000 (([] : List Int) ++ [(x + c + y - 1000000000)]) := jai h2 (jax (by omega))
            have hl2 : (([] : List Int) ++ [(x + c + y - 1000000000)]).length = k + 1 := by simp [h1]
            have hl3 : (([] : List Int)).length + (List.take 1 (List.drop 0 [(x + c + y - 1000000000)])).length = (([] : List Int) ++ [(x + c + y - 1000000000)]).length := by simp
            have hkc : ((k : Int) + 1) = ((k + 1 : Nat) : Int) := by omega
            refine V.r0 (V.a3 hl3 hkc @jiX) ?_
            try refine And.intro (fun _ => ⟨trivial, by omega⟩) ?_
            refine V.r0 (V.a3 hl3 hkc @jiX) ?_
            exact ⟨(true, k + 1, ([] : List Int) ++ [(x + c + y - 1000000000)], 1), ⟨hl2, hdg, by dsimp only; omega, hst, by dsimp only; omega, fun h => by cases h⟩, by dsimp only; omega, V.wk⟩
          · rw [decide_eq_false_iff_not] at hz
            have hst := jaC (B := 1000000000) (x := x) (y := y) (d := (x + c + y)) (c' := 0) h1 h4 (by omega)
            rw [← vx, ← vy] at hst
            have hdg : Dg 1000000000 (([] : List Int) ++ [(x + c + y)]) := jai h2 (jax (by omega))
            have hl2 : (([] : List Int) ++ [(x + c + y)]).length = k + 1 := by simp [h1]
            have hl3 : (([] : List Int)).length + (List.take 1 (List.drop 0 [(x + c + y)])).length = (([] : List Int) ++ [(x + c + y)]).length := by simp
            have hkc : ((k : Int) + 1) = ((k + 1 : Nat) : Int) := by omega
            refine V.r0 (V.a3 hl3 hkc @jiX) ?_
            try refine And.intro (fun _ => ⟨trivial, by omega⟩) ?_
            refine V.r0 (V.a3 hl3 hkc @jiX) ?_
            exact ⟨(true, k + 1, ([] : List Int) ++ [(x + c + y)], 0), ⟨hl2, hdg, by dsimp only; omega, hst, by dsimp only; omega, fun h => by cases h⟩, by dsimp only; omega, V.wk⟩
        · rw [decide_eq_false_iff_not] at hy
          have := gy (by omega)
          refine V.r0 @ji0 ?_
          refine V.br (fun hz => ?_) (fun hz => ?_)
          · rw [decide_eq_true_eq] at hz
            have hst := jaC (B := 1000000000) (x := x) (y := y) (d := (x + c - 1000000000)) (c' := 1) h1 h4 (by omega)
            rw [← vx, ← vy] at hst
            have hdg : Dg 1000000000 (([] : List Int) ++ [(x + c - 1000000000)]) := jai h2 (jax (by omega))
            have hl2 : (([] : List Int) ++ [(x + c - 1000000000)]).length = k + 1 := by simp [h1]
            have hl3 : (([] : List Int)).length + (List.take 1 (List.drop 0 [(x + c - 1000000000)])).length = (([] : List Int) ++ [(x + c - 1000000000)]).length := by simp
            have hkc : ((k : Int) + 1) = ((k + 1 : Nat) : Int) := by omega
            refine V.r0 (V.a3 hl3 hkc @jiX) ?_
            try refine And.intro (fun _ => ⟨trivial, by omega⟩) ?_
            refine V.r0 (V.a3 hl3 hkc @jiX) ?_
            exact ⟨(true, k + 1, ([] : List Int) ++ [(x + c - 1000000000)], 1), ⟨hl2, hdg, by dsimp only; omega, hst, by dsimp only; omega, fun h => by cases h⟩, by dsimp only; omega, V.wk⟩
          · rw [decide_eq_false_iff_not] at hz
            have hst := jaC (B := 1000000000) (x := x) (y := y) (d := (x + c)) (c' := 0) h1 h4 (by omega)
            rw [← vx, ← vy] at hst
            have hdg : Dg 1000000000 (([] : List Int) ++ [(x + c)]) := jai h2 (jax (by omega))
            have hl2 : (([] : List Int) ++ [(x + c)]).length = k + 1 := by simp [h1]
            have hl3 : (([] : List Int)).length + (List.take 1 (List.drop 0 [(x + c)])).length = (([] : List Int) ++ [(x + c)]).length := by simp
            have hkc : ((k : Int) + 1) = ((k + 1 : Nat) : Int) := by omega
            refine V.r0 (V.a3 hl3 hkc @jiX) ?_
            try refine And.intro (fun _ => ⟨trivial, by omega⟩) ?_
            refine V.r0 (V.a3 hl3 hkc @jiX) ?_
            exact ⟨(true, k + 1, ([] : List Int) ++ [(x + c)], 0), ⟨hl2, hdg, by dsimp only; omega, hst, by dsimp only; omega, fun h => by cases h⟩, by dsimp only; omega, V.wk⟩
      · rw [decide_eq_false_iff_not] at hq
        have h7 : k = 0 := by simpa using h1.symm
        have h8 : (ys).length = 0 := by omega
        have e2 := hey.mp (jjs.mp h8)
        have e3 := hex.mp (jjs.mp (by omega))
        have e4 : c = 0 := by
          rw [jjI (by omega), jjI (by omega), hvy, hvx, e2, e3, h7] at h4
          simpa [val] using h4
        subst e4 h7
        rw [e2, e3]
        (conv => whnf)
        refine V.st ?_
        exact Fin.of rfl
    · clear h6
      dsimp only at h1 h2 h3 h4 h5 ⊢
      have vx := jaj 1000000000 ys k
      have vy := jaj 1000000000 xs k
      have bx := jan (by omega) hdx k
      have by' := jan (by omega) hdy k
      have gy := jce (xs := xs) (k := k)
      generalize hx0 : (ys).getD k 0 = x at *
      generalize hy0 : (xs).getD k 0 = y at *
      refine V.r0 @ji0 ?_
      refine V.br (fun hq => ?_) (fun hq => ?_)
      · rw [decide_eq_true_eq] at hq
        refine V.r0 (V.a2 @ji0 hx0) ?_
        refine V.br (fun hy => ?_) (fun hy => ?_)
        · rw [decide_eq_true_eq] at hy
          refine V.r0 (V.a2 @ji0 hy0) ?_
          refine V.br (fun hz => ?_) (fun hz => ?_)
          · rw [decide_eq_true_eq] at hz
            have hst := jaC (B := 1000000000) (x := x) (y := y) (d := (x + c + y - 1000000000)) (c' := 1) h1 h4 (by omega)
            rw [← vx, ← vy] at hst
            have hdg : Dg 1000000000 (out ++ [(x + c + y - 1000000000)]) := jai h2 (jax (by omega))
            have hl2 : (out ++ [(x + c + y - 1000000000)]).length = k + 1 := by simp [h1]
            have hl3 : (out).length + (List.take 1 (List.drop 0 [(x + c + y - 1000000000)])).length = (out ++ [(x + c + y - 1000000000)]).length := by simp
            have hkc : ((k : Int) + 1) = ((k + 1 : Nat) : Int) := by omega
            refine V.r0 (V.a3 hl3 hkc @jiX) ?_
            try refine And.intro (fun _ => ⟨trivial, by omega⟩) ?_
            refine V.r0 (V.a3 hl3 hkc @jiX) ?_
            exact ⟨(true, k + 1, out ++ [(x + c + y - 1000000000)], 1), ⟨hl2, hdg, by dsimp only; omega, hst, by dsimp only; omega, fun h => by cases h⟩, by dsimp only; omega, V.wk⟩
          · rw [decide_eq_false_iff_not] at hz
            have hst := jaC (B := 1000000000) (x := x) (y := y) (d := (x + c + y)) (c' := 0) h1 h4 (by omega)
            rw [← vx, ← vy] at hst
            have hdg : Dg 1000000000 (out ++ [(x + c + y)]) := jai h2 (jax (by omega))
            have hl2 : (out ++ [(x + c + y)]).length = k + 1 := by simp [h1]
            have hl3 : (out).length + (List.take 1 (List.drop 0 [(x + c + y)])).length = (out ++ [(x + c + y)]).length := by simp
            have hkc : ((k : Int) + 1) = ((k + 1 : Nat) : Int) := by omega
            refine V.r0 (V.a3 hl3 hkc @jiX) ?_
            try refine And.intro (fun _ => ⟨trivial, by omega⟩) ?_
            refine V.r0 (V.a3 hl3 hkc @jiX) ?_
            exact ⟨(true, k + 1, out ++ [(x + c + y)], 0), ⟨hl2, hdg, by dsimp only; omega, hst, by dsimp only; omega, fun h => by cases h⟩, by dsimp only; omega, V.wk⟩
        · rw [decide_eq_false_iff_not] at hy
          have := gy (by omega)
          refine V.r0 @ji0 ?_
          refine V.br (fun hz => ?_) (fun hz => ?_)
          · rw [decide_eq_true_eq] at hz
            have hst := jaC (B := 1000000000) (x := x) (y := y) (d := (x + c - 1000000000)) (c' := 1) h1 h4 (by omega)
            rw [← vx, ← vy] at hst
            have hdg : Dg 1000000000 (out ++ [(x + c - 1000000000)]) := jai h2 (jax (by omega))
            have hl2 : (out ++ [(x + c - 1000000000)]).length = k + 1 := by simp [h1]
            have hl3 : (out).length + (List.take 1 (List.drop 0 [(x + c - 1000000000)])).length = (out ++ [(x + c - 1000000000)]).length := by simp
            have hkc : ((k : Int) + 1) = ((k + 1 : Nat) : Int) := by omega
            refine V.r0 (V.a3 hl3 hkc @jiX) ?_
            try refine And.intro (fun _ => ⟨trivial, by omega⟩) ?_
            refine V.r0 (V.a3 hl3 hkc @jiX) ?_
            exact ⟨(true, k + 1, out ++ [(x + c - 1000000000)], 1), ⟨hl2, hdg, by dsimp only; omega, hst, by dsimp only; omega, fun h => by cases h⟩, by dsimp only; omega, V.wk⟩
          · rw [decide_eq_false_iff_not] at hz
            have hst := jaC (B := 1000000000) (x := x) (y := y) (d := (x + c)) (c' := 0) h1 h4 (by omega)
            rw [← vx, ← vy] at hst
            have hdg : Dg 1000000000 (out ++ [(x + c)]) := jai h2 (jax (by omega))
            have hl2 : (out ++ [(x + c)]).length = k + 1 := by simp [h1]
            have hl3 : (out).length + (List.take 1 (List.drop 0 [(x + c)])).length = (out ++ [(x + c)]).length := by simp
            have hkc : ((k : Int) + 1) = ((k + 1 : Nat) : Int) := by omega
            refine V.r0 (V.a3 hl3 hkc @jiX) ?_
            try refine And.intro (fun _ => ⟨trivial, by omega⟩) ?_
            refine V.r0 (V.a3 hl3 hkc @jiX) ?_
            exact ⟨(true, k + 1, out ++ [(x + c)], 0), ⟨hl2, hdg, by dsimp only; omega, hst, by dsimp only; omega, fun h => by cases h⟩, by dsimp only; omega, V.wk⟩
      · rw [decide_eq_false_iff_not] at hq
        have hk : k = (ys).length := by omega
        rw [jjI (by omega), jjI (by omega), hvy, hvx] at h4
        (conv => whnf)
        refine V.st ?_
        refine V.br (fun hc => ?_) (fun hc => ?_)
        · rw [decide_eq_true_eq] at hc
          have hc1 : c = 1 := by omega
          subst hc1
          have h8 : out ++ [1] = mg 1000000000 (b + a) := by
            have h9 : val 1000000000 (out ++ [1]) = ((b + a : Nat) : Int) := by rw [ja0, h1]; omega
            have h10 := jdz (B := 1000000000) (l := out ++ [1]) (by omega) (jai h2 (jax (by omega))) (by
              rw [ja0, jjx, List.length_singleton, Nat.add_sub_cancel]
              have := jap h2
              omega)
            rw [h10, h9]; rfl
          (conv => whnf)
          refine V.st ?_
          exact Fin.of (by rw [← h8]; exact congrArg _ (jjI (by simp)))
        · rw [decide_eq_false_iff_not] at hc
          have hc1 : c = 0 := by omega
          subst hc1
          have h8 : out = mg 1000000000 (b + a) := by
            have h9 : val 1000000000 out = ((b + a : Nat) : Int) := by omega
            rcases ji3 b with h0 | h0
            · have h10 : (ys).length = 0 := by rw [hey.mpr h0]; rfl
              have e3 := hex.mp (jjs.mp (by omega))
              rw [h0, e3, jjs.mp (by omega : out.length = 0)]; rfl
            · have h10 := jdz (B := 1000000000) (l := out) (by omega) h2 (by
                have h11 := hpy h0
                rw [h1, h9, hk]
                have h12 : ((1000000000 ^ ((ys).length - 1) : Nat) : Int) ≤ (b : Int) := by exact_mod_cast h11
                rw [jjk] at h12
                omega)
              rw [h10, h9]; rfl
          (conv => whnf)
          refine V.st ?_
          exact Fin.of (by rw [← h8, jjI (by simp)])
  · rw [decide_eq_false_iff_not] at hl
    obtain ⟨N, hN⟩ : ∃ N, N = xs.length + 1 := ⟨_, rfl⟩
    have e1 : (xs.length : Int) + 1 = (N : Int) := by omega
    (conv => whnf)
    (try simp only [e1, ji0])
    repeat ((first | refine V.s1 ?_); (try simp only [e1, ji0]))
    refine jad ((false, 0, [], 0) : Bool × Nat × List Int × Int) (fun s => s.2.2.1.length = s.2.1 ∧ Dg 1000000000 s.2.2.1 ∧ (0 ≤ s.2.2.2 ∧ s.2.2.2 ≤ 1) ∧ val 1000000000 s.2.2.1 + s.2.2.2 * ((1000000000 : Nat) : Int) ^ s.2.1 = val 1000000000 ((xs).take s.2.1) + val 1000000000 ((ys).take s.2.1) ∧ s.2.1 ≤ (xs).length ∧ (s.1 = false → s.2.2.1 = [])) (fun s => (xs).length - s.2.1)
      (fun s => match s.1 with | false => [(22, .int .i64 s.2.1), (6, .int .u32 s.2.2.2), (5, .osl 19 0 0)] | true => [(22, .int .i64 s.2.1), (6, .int .u32 s.2.2.2), (5, .osl 47 0 s.2.2.1.length)]) (fun s => match s.1 with | false => [(19, .arr .u32 [])] | true => [(47, .arr .u32 s.2.2.1), (19, .gone)]) ?_ ?_ ?_
    · exact V.wk
    · exact ⟨rfl, fun x hx => by simp at hx, by simp, by simp [val], jiT _, fun _ => rfl⟩
    rintro ⟨_ | _, k, out, c⟩ ⟨h1, h2, h3, h4, h5, h6⟩
    · dsimp only at h1 h2 h3 h4 h5 h6 ⊢
      have h7 := h6 rfl
      clear h6
      subst h7
      have vx := jaj 1000000000 xs k
      have vy := jaj 1000000000 ys k
      have bx := jan (by omega) hdx k
      have by' := jan (by omega) hdy k
      have gy := jce (xs := ys) (k := k)
      generalize hx0 : (xs).getD k 0 = x at *
      generalize hy0 : (ys).getD k 0 = y at *
      refine V.r0 @ji0 ?_
      refine V.br (fun hq => ?_) (fun hq => ?_)
      · rw [decide_eq_true_eq] at hq
        refine V.r0 (V.a2 @ji0 hx0) ?_
        refine V.br (fun hy => ?_) (fun hy => ?_)
        · rw [decide_eq_true_eq] at hy
          refine V.r0 (V.a2 @ji0 hy0) ?_
          refine V.br (fun hz => ?_) (fun hz => ?_)
          · rw [decide_eq_true_eq] at hz
            have hst := jaC (B := 1000000000) (x := x) (y := y) (d := (x + c + y - 1000000000)) (c' := 1) h1 h4 (by omega)
            rw [← vx, ← vy] at hst
            have hdg : Dg 1000000000 (([] : List Int) ++ [(x + c + y - 1000000000)]) := jai h2 (jax (by omega))
            have hl2 : (([] : List Int) ++ [(x + c + y - 1000000000)]).length = k + 1 := by simp [h1]
            have hl3 : (([] : List Int)).length + (List.take 1 (List.drop 0 [(x + c + y - 1000000000)])).length = (([] : List Int) ++ [(x + c + y - 1000000000)]).length := by simp
            have hkc : ((k : Int) + 1) = ((k + 1 : Nat) : Int) := by omega
            refine V.r0 (V.a3 hl3 hkc @jiX) ?_
            try refine And.intro (fun _ => ⟨trivial, by omega⟩) ?_
            refine V.r0 (V.a3 hl3 hkc @jiX) ?_
            exact ⟨(true, k + 1, ([] : List Int) ++ [(x + c + y - 1000000000)], 1), ⟨hl2, hdg, by dsimp only; omega, hst, by dsimp only; omega, fun h => by cases h⟩, by dsimp only; omega, V.wk⟩
          · rw [decide_eq_false_iff_not] at hz
            have hst := jaC (B := 1000000000) (x := x) (y := y) (d := (x + c + y)) (c' := 0) h1 h4 (by omega)
            rw [← vx, ← vy] at hst
            have hdg : Dg 1000000000 (([] : List Int) ++ [(x + c + y)]) := jai h2 (jax (by omega))
            have hl2 : (([] : List Int) ++ [(x + c + y)]).length = k + 1 := by simp [h1]
            have hl3 : (([] : List Int)).length + (List.take 1 (List.drop 0 [(x + c + y)])).length = (([] : List Int) ++ [(x + c + y)]).length := by simp
            have hkc : ((k : Int) + 1) = ((k + 1 : Nat) : Int) := by omega
            refine V.r0 (V.a3 hl3 hkc @jiX) ?_
            try refine And.intro (fun _ => ⟨trivial, by omega⟩) ?_
            refine V.r0 (V.a3 hl3 hkc @jiX) ?_
            exact ⟨(true, k + 1, ([] : List Int) ++ [(x + c + y)], 0), ⟨hl2, hdg, by dsimp only; omega, hst, by dsimp only; omega, fun h => by cases h⟩, by dsimp only; omega, V.wk⟩
        · rw [decide_eq_false_iff_not] at hy
          have := gy (by omega)
          refine V.r0 @ji0 ?_
          refine V.br (fun hz => ?_) (fun hz => ?_)
          · rw [decide_eq_true_eq] at hz
            have hst := jaC (B := 1000000000) (x := x) (y := y) (d := (x + c - 1000000000)) (c' := 1) h1 h4 (by omega)
            rw [← vx, ← vy] at hst
            have hdg : Dg 1000000000 (([] : List Int) ++ [(x + c - 1000000000)]) := jai h2 (jax (by omega))
            have hl2 : (([] : List Int) ++ [(x + c - 1000000000)]).length = k + 1 := by simp [h1]
            have hl3 : (([] : List Int)).length + (List.take 1 (List.drop 0 [(x + c - 1000000000)])).length = (([] : List Int) ++ [(x + c - 1000000000)]).length := by simp
            have hkc : ((k : Int) + 1) = ((k + 1 : Nat) : Int) := by omega
            refine V.r0 (V.a3 hl3 hkc @jiX) ?_
            try refine And.intro (fun _ => ⟨trivial, by omega⟩) ?_
            refine V.r0 (V.a3 hl3 hkc @jiX) ?_
            exact ⟨(true, k + 1, ([] : List Int) ++ [(x + c - 1000000000)], 1), ⟨hl2, hdg, by dsimp only; omega, hst, by dsimp only; omega, fun h => by cases h⟩, by dsimp only; omega, V.wk⟩
          · rw [decide_eq_false_iff_not] at hz
            have hst := jaC (B := 1000000000) (x := x) (y := y) (d := (x + c)) (c' := 0) h1 h4 (by omega)
            rw [← vx, ← vy] at hst
            have hdg : Dg 1000000000 (([] : List Int) ++ [(x + c)]) := jai h2 (jax (by omega))
            have hl2 : (([] : List Int) ++ [(x + c)]).length = k + 1 := by simp [h1]
            have hl3 : (([] : List Int)).length + (List.take 1 (List.drop 0 [(x + c)])).length = (([] : List Int) ++ [(x + c)]).length := by simp
            have hkc : ((k : Int) + 1) = ((k + 1 : Nat) : Int) := by omega
            refine V.r0 (V.a3 hl3 hkc @jiX) ?_
            try refine And.intro (fun _ => ⟨trivial, by omega⟩) ?_
            refine V.r0 (V.a3 hl3 hkc @jiX) ?_
            exact ⟨(true, k + 1, ([] : List Int) ++ [(x + c)], 0), ⟨hl2, hdg, by dsimp only; omega, hst, by dsimp only; omega, fun h => by cases h⟩, by dsimp only; omega, V.wk⟩
      · rw [decide_eq_false_iff_not] at hq
        have h7 : k = 0 := by simpa using h1.symm
        have h8 : (xs).length = 0 := by omega
        have e2 := hex.mp (jjs.mp h8)
        have e3 := hey.mp (jjs.mp (by omega))
        have e4 : c = 0 := by
          rw [jjI (by omega), jjI (by omega), hvx, hvy, e2, e3, h7] at h4
          simpa [val] using h4
        subst e4 h7
        rw [e2, e3]
        (conv => whnf)
        refine V.st ?_
        exact Fin.of rfl
    · clear h6
      dsimp only at h1 h2 h3 h4 h5 ⊢
      have vx := jaj 1000000000 xs k
      have vy := jaj 1000000000 ys k
      have bx := jan (by omega) hdx k
      have by' := jan (by omega) hdy k
      have gy := jce (xs := ys) (k := k)
      generalize hx0 : (xs).getD k 0 = x at *
      generalize hy0 : (ys).getD k 0 = y at *
      refine V.r0 @ji0 ?_
      refine V.br (fun hq => ?_) (fun hq => ?_)
      · rw [decide_eq_true_eq] at hq
        refine V.r0 (V.a2 @ji0 hx0) ?_
        refine V.br (fun hy => ?_) (fun hy => ?_)
        · rw [decide_eq_true_eq] at hy
          refine V.r0 (V.a2 @ji0 hy0) ?_
          refine V.br (fun hz => ?_) (fun hz => ?_)
          · rw [decide_eq_true_eq] at hz
            have hst := jaC (B := 1000000000) (x := x) (y := y) (d := (x + c + y - 1000000000)) (c' := 1) h1 h4 (by omega)
            rw [← vx, ← vy] at hst
            have hdg : Dg 1000000000 (out ++ [(x + c + y - 1000000000)]) := jai h2 (jax (by omega))
            have hl2 : (out ++ [(x + c + y - 1000000000)]).length = k + 1 := by simp [h1]
            have hl3 : (out).length + (List.take 1 (List.drop 0 [(x + c + y - 1000000000)])).length = (out ++ [(x + c + y - 1000000000)]).length := by simp
            have hkc : ((k : Int) + 1) = ((k + 1 : Nat) : Int) := by omega
            refine V.r0 (V.a3 hl3 hkc @jiX) ?_
            try refine And.intro (fun _ => ⟨trivial, by omega⟩) ?_
            refine V.r0 (V.a3 hl3 hkc @jiX) ?_
            exact ⟨(true, k + 1, out ++ [(x + c + y - 1000000000)], 1), ⟨hl2, hdg, by dsimp only; omega, hst, by dsimp only; omega, fun h => by cases h⟩, by dsimp only; omega, V.wk⟩
          · rw [decide_eq_false_iff_not] at hz
            have hst := jaC (B := 1000000000) (x := x) (y := y) (d := (x + c + y)) (c' := 0) h1 h4 (by omega)
            rw [← vx, ← vy] at hst
            have hdg : Dg 1000000000 (out ++ [(x + c + y)]) := jai h2 (jax (by omega))
            have hl2 : (out ++ [(x + c + y)]).length = k + 1 := by simp [h1]
            have hl3 : (out).length + (List.take 1 (List.drop 0 [(x + c + y)])).length = (out ++ [(x + c + y)]).length := by simp
            have hkc : ((k : Int) + 1) = ((k + 1 : Nat) : Int) := by omega
            refine V.r0 (V.a3 hl3 hkc @jiX) ?_
            try refine And.intro (fun _ => ⟨trivial, by omega⟩) ?_
            refine V.r0 (V.a3 hl3 hkc @jiX) ?_
            exact ⟨(true, k + 1, out ++ [(x + c + y)], 0), ⟨hl2, hdg, by dsimp only; omega, hst, by dsimp only; omega, fun h => by cases h⟩, by dsimp only; omega, V.wk⟩
        · rw [decide_eq_false_iff_not] at hy
          have := gy (by omega)
          refine V.r0 @ji0 ?_
          refine V.br (fun hz => ?_) (fun hz => ?_)
          · rw [decide_eq_true_eq] at hz
            have hst := jaC (B := 1000000000) (x := x) (y := y) (d := (x + c - 1000000000)) (c' := 1) h1 h4 (by omega)
            rw [← vx, ← vy] at hst
            have hdg : Dg 1000000000 (out ++ [(x + c - 1000000000)]) := jai h2 (jax (by omega))
            have hl2 : (out ++ [(x + c - 1000000000)]).length = k + 1 := by simp [h1]
            have hl3 : (out).length + (List.take 1 (List.drop 0 [(x + c - 1000000000)])).length = (out ++ [(x + c - 1000000000)]).length := by simp
            have hkc : ((k : Int) + 1) = ((k + 1 : Nat) : Int) := by omega
            refine V.r0 (V.a3 hl3 hkc @jiX) ?_
            try refine And.intro (fun _ => ⟨trivial, by omega⟩) ?_
            refine V.r0 (V.a3 hl3 hkc @jiX) ?_
            exact ⟨(true, k + 1, out ++ [(x + c - 1000000000)], 1), ⟨hl2, hdg, by dsimp only; omega, hst, by dsimp only; omega, fun h => by cases h⟩, by dsimp only; omega, V.wk⟩
          · rw [decide_eq_false_iff_not] at hz
            have hst := jaC (B := 1000000000) (x := x) (y := y) (d := (x + c)) (c' := 0) h1 h4 (by omega)
            rw [← vx, ← vy] at hst
            have hdg : Dg 1000000000 (out ++ [(x + c)]) := jai h2 (jax (by omega))
            have hl2 : (out ++ [(x + c)]).length = k + 1 := by simp [h1]
            have hl3 : (out).length + (List.take 1 (List.drop 0 [(x + c)])).length = (out ++ [(x + c)]).length := by simp
            have hkc : ((k : Int) + 1) = ((k + 1 : Nat) : Int) := by omega
            refine V.r0 (V.a3 hl3 hkc @jiX) ?_
            try refine And.intro (fun _ => ⟨trivial, by omega⟩) ?_
            refine V.r0 (V.a3 hl3 hkc @jiX) ?_
            exact ⟨(true, k + 1, out ++ [(x + c)], 0), ⟨hl2, hdg, by dsimp only; omega, hst, by dsimp only; omega, fun h => by cases h⟩, by dsimp only; omega, V.wk⟩
      · rw [decide_eq_false_iff_not] at hq
        have hk : k = (xs).length := by omega
        rw [jjI (by omega), jjI (by omega), hvx, hvy] at h4
        (conv => whnf)
        refine V.st ?_
        refine V.br (fun hc => ?_) (fun hc => ?_)
        · rw [decide_eq_true_eq] at hc
          have hc1 : c = 1 := by omega
          subst hc1
          have h8 : out ++ [1] = mg 1000000000 (a + b) := by
            have h9 : val 1000000000 (out ++ [1]) = ((a + b : Nat) : Int) := by rw [ja0, h1]; omega
            have h10 := jdz (B := 1000000000) (l := out ++ [1]) (by omega) (jai h2 (jax (by omega))) (by
              rw [ja0, jjx, List.length_singleton, Nat.add_sub_cancel]
              have := jap h2
              omega)
            rw [h10, h9]; rfl
          (conv => whnf)
          refine V.st ?_
          exact Fin.of (by rw [← h8]; exact congrArg _ (jjI (by simp)))
        · rw [decide_eq_false_iff_not] at hc
          have hc1 : c = 0 := by omega
          subst hc1
          have h8 : out = mg 1000000000 (a + b) := by
            have h9 : val 1000000000 out = ((a + b : Nat) : Int) := by omega
            rcases ji3 a with h0 | h0
            · have h10 : (xs).length = 0 := by rw [hex.mpr h0]; rfl
              have e3 := hey.mp (jjs.mp (by omega))
              rw [h0, e3, jjs.mp (by omega : out.length = 0)]; rfl
            · have h10 := jdz (B := 1000000000) (l := out) (by omega) h2 (by
                have h11 := hpx h0
                rw [h1, h9, hk]
                have h12 : ((1000000000 ^ ((xs).length - 1) : Nat) : Int) ≤ (a : Int) := by exact_mod_cast h11
                rw [jjk] at h12
                omega)
              rw [h10, h9]; rfl
          (conv => whnf)
          refine V.st ?_
          exact Fin.of (by rw [← h8, jjI (by simp)])
theorem jgo {out:List Int}{n k:Nat}{d:Int}(h:out.length=k)(hk:k<n):(out++List.replicate (n-k) 0).set k d=(out++[d])++List.replicate (n-(k+1)) 0:=by
 subst h
 have e:n-out.length=(n-(out.length+1))+1:=by omega
 rw[e,List.replicate_succ,List.set_append_right _ _ (ji1 _),Nat.sub_self,List.set_cons_zero]
 simp
theorem jiO:type_of% @ji0∧type_of% @jiX:=⟨@ji0,@jiX⟩
theorem minus_m (a b:Nat)(hba:b≤a)(ha:(mg 1000000000 a).length≤100000000):Cl 207 [.ints .u32 (mg 1000000000 a),.ints .u32 (mg 1000000000 b)] (.ints .u32 (mg 1000000000 (a-b))):=by
 have hdx:=mg_dg (B:=1000000000) (by omega) a
 have hdy:=mg_dg (B:=1000000000) (by omega) b
 have hvx:=jaG (B:=1000000000) (by omega) a
 have hvy:=jaG (B:=1000000000) (by omega) b
 have hlen:=jah (B:=1000000000) (by omega) hba
 generalize mg 1000000000 a=xs at *
 generalize mg 1000000000 b=ys at *
 refine V.en tbOk Tryz.func207 ?_
 refine V.r0 @ji0 ?_
 refine jad ((0,[],0):Nat×List Int×Int) (fun s=>s.2.1.length=s.1∧Dg 1000000000 s.2.1∧(0≤s.2.2∧s.2.2≤1)∧val 1000000000 s.2.1-s.2.2*((1000000000:Nat):Int)^s.1=val 1000000000 (xs.take s.1)-val 1000000000 (ys.take s.1)∧s.1≤xs.length) (fun s=>xs.length-s.1)
  (fun s=>[(15,.int .i64 s.1),(6,.int .u32 s.2.2),(5,.osl 12 0 xs.length)]) (fun s=>[(12,.arr .u32 (s.2.1++List.replicate (xs.length-s.1) 0))]) ?_ ?_ ?_
 ·exact V.wk
 ·exact⟨rfl,fun x hx=>by simp at hx,by simp,by simp[val],jiT _⟩
 rintro⟨k,out,c⟩ ⟨h1,h2,h3,h4,h5⟩
 dsimp only at h1 h2 h3 h4 h5 ⊢
 have vx:=jaj 1000000000 xs k
 have vy:=jaj 1000000000 ys k
 have bx:=jan (by omega) hdx k
 have by':=jan (by omega) hdy k
 have gy:=jce (xs:=ys) (k:=k)
 generalize hx0:xs.getD k 0=x at *
 generalize hy0:ys.getD k 0=y at *
 refine V.r0 @ji0 ?_
 refine V.br (fun hq=>?_) (fun hq=>?_)
 ·rw[decide_eq_true_eq] at hq
  refine V.r0 (V.a2 @ji0 hx0) ?_
  refine V.br (fun hy=>?_) (fun hy=>?_)
  ·rw[decide_eq_true_eq] at hy
   refine V.r0 (V.a2 @ji0 hy0) ?_
   refine V.br (fun hz=>?_) (fun hz=>?_)
   ·rw[decide_eq_true_eq] at hz
    have hst:=jb1 (B:=1000000000) (x:=x) (y:=y) (d:=(x+1000000000-(c+y))) (b':=1) h1 h4 (by omega)
    rw[← vx,← vy] at hst
    have hdg:Dg 1000000000 (out++[(x+1000000000-(c+y))]):=jai h2 (jax (by omega))
    have hps:=jgo (d:=(x+1000000000-(c+y))) (n:=xs.length) h1 (by omega)
    have hkc:((k:Int)+1)=((k+1:Nat):Int):=by omega
    refine V.r0 (V.a3 jiO hps hkc) ?_
    refine V.r0 (V.a3 jiO hps hkc) ?_
    exact⟨(k+1,out++[(x+1000000000-(c+y))],1),⟨by dsimp only;simp[h1],hdg,by dsimp only;omega,hst,by dsimp only;omega⟩,by dsimp only;omega,V.wk⟩
   ·rw[decide_eq_false_iff_not] at hz
    have hst:=jb1 (B:=1000000000) (x:=x) (y:=y) (d:=(x-(c+y))) (b':=0) h1 h4 (by omega)
    rw[← vx,← vy] at hst
    have hdg:Dg 1000000000 (out++[(x-(c+y))]):=jai h2 (jax (by omega))
    have hps:=jgo (d:=(x-(c+y))) (n:=xs.length) h1 (by omega)
    have hkc:((k:Int)+1)=((k+1:Nat):Int):=by omega
    refine V.r0 (V.a3 jiO hps hkc) ?_
    refine V.r0 (V.a3 jiO hps hkc) ?_
    exact⟨(k+1,out++[(x-(c+y))],0),⟨by dsimp only;simp[h1],hdg,by dsimp only;omega,hst,by dsimp only;omega⟩,by dsimp only;omega,V.wk⟩
  ·rw[decide_eq_false_iff_not] at hy
   have:=gy (by omega)
   refine V.r0 @ji0 ?_
   refine V.br (fun hz=>?_) (fun hz=>?_)
   ·rw[decide_eq_true_eq] at hz
    have hst:=jb1 (B:=1000000000) (x:=x) (y:=y) (d:=(x+1000000000-c)) (b':=1) h1 h4 (by omega)
    rw[← vx,← vy] at hst
    have hdg:Dg 1000000000 (out++[(x+1000000000-c)]):=jai h2 (jax (by omega))
    have hps:=jgo (d:=(x+1000000000-c)) (n:=xs.length) h1 (by omega)
    have hkc:((k:Int)+1)=((k+1:Nat):Int):=by omega
    refine V.r0 (V.a3 jiO hps hkc) ?_
    refine V.r0 (V.a3 jiO hps hkc) ?_
    exact⟨(k+1,out++[(x+1000000000-c)],1),⟨by dsimp only;simp[h1],hdg,by dsimp only;omega,hst,by dsimp only;omega⟩,by dsimp only;omega,V.wk⟩
   ·rw[decide_eq_false_iff_not] at hz
    have hst:=jb1 (B:=1000000000) (x:=x) (y:=y) (d:=(x-c)) (b':=0) h1 h4 (by omega)
    rw[← vx,← vy] at hst
    have hdg:Dg 1000000000 (out++[(x-c)]):=jai h2 (jax (by omega))
    have hps:=jgo (d:=(x-c)) (n:=xs.length) h1 (by omega)
    have hkc:((k:Int)+1)=((k+1:Nat):Int):=by omega
    refine V.r0 (V.a3 jiO hps hkc) ?_
    refine V.r0 (V.a3 jiO hps hkc) ?_
    exact⟨(k+1,out++[(x-c)],0),⟨by dsimp only;simp[h1],hdg,by dsimp only;omega,hst,by dsimp only;omega⟩,by dsimp only;omega,V.wk⟩
 ·rw[decide_eq_false_iff_not] at hq
  have hk:k=xs.length:=by omega
  rw[jjI (by omega),jjI (by omega),hvx,hvy] at h4
  have h0:=jap h2
  have h6:=jch h2
  have hc:c=0:=by
   rw[h1] at h6
   rcases (by omega:c=0∨c=1) with e|e
   ·exact e
   ·subst e;omega
  subst hc
  have htr:=jfC out h2 (by omega)
  rw[(by omega:(val 1000000000 out).toNat=a-b)] at htr
  have hrep:out++List.replicate (xs.length-k) 0=out:=by rw[hk,Nat.sub_self];simp
  rw[hrep]
  rw[← jjT (l:=out),h1,hk] at htr
  (conv=>whnf)
  refine V.st ?_
  repeat ((try ((with_reducible refine .ext ?_);(conv=>whnf)));(with_reducible refine jaa (r:=?_) ?_ ?_);rotate_left;(focus (first|exact(htr)));(conv=>whnf);refine V.st ?_)
  exact Fin.of rfl
theorem jeS (x y:Rat):(x.num*y.den + -(y.num*x.den)).sign=(if x<y then -1 else if x=y then 0 else 1:Int):=by
 have h1:x<y↔x.num*y.den<y.num*x.den:=Rat.lt_iff x y
 have h2:x=y↔x.num*y.den=y.num*x.den:=by
  conv=>lhs;rw[← jjp x,← jjp y]
  exact Rat.divInt_eq_divInt_iff (by have:=x.den_pos;omega) (by have:=y.den_pos;omega)
 by_cases a1:x<y
 ·rw[if_pos a1];exact jjn (by have:=h1.1 a1;omega)
 ·rw[if_neg a1]
  by_cases a2:x=y
  ·rw[if_pos a2,show x.num*y.den + -(y.num*x.den)=0 by have:=h2.1 a2;omega];rfl
  ·rw[if_neg a2]
   refine jjo ?_
   have b1:¬ (x.num*y.den<y.num*x.den):=fun h=>a1 (h1.2 h)
   have b2:¬ (x.num*y.den=y.num*x.den):=fun h=>a2 (h2.2 h)
   omega
def ordQ (x y:Rat):Int:=if x<y then -1 else if x=y then 0 else 1
def S9 (k:Nat)(z:Int):Prop:=(mg 1000000000 z.natAbs).length≤k
theorem S9.mono {k l:Nat}{z:Int}(h:S9 k z)(hl:k≤l):S9 l z:=ji2 h hl
theorem S9.neg {k:Nat}{z:Int}(h:S9 k z):S9 k (-z):=by unfold S9 at *; rw[Int.natAbs_neg];exact h
theorem S9.le {k:Nat}{y z:Int}(h:S9 k z)(hy:y.natAbs≤z.natAbs):S9 k y:=ji2 (jah (by omega) hy) h
theorem S9.mul {k l:Nat}{y z:Int}(h:S9 k y)(h2:S9 l z):S9 (k+l) (y*z):=by
 unfold S9 at *
 rw[Int.natAbs_mul]
 have:=jbT (B:=1000000000) (by omega) y.natAbs z.natAbs
 omega
theorem S9.add {k:Nat}{y z:Int}(h:S9 k y)(h2:S9 k z):S9 (k+1) (y+z):=by
 unfold S9 at *
 have h3:=jc1 (B:=1000000000) (by omega) y.natAbs z.natAbs
 have h4:=jah (B:=1000000000) (by omega) (Int.natAbs_add_le y z)
 omega
theorem S9.lit {k:Nat}{z:Int}(h:z.natAbs<1000000000^k):S9 k z:=jaz (by omega) h
theorem S9.nat {k:Nat}{n:Nat} : S9 k (n:Int)↔(mg 1000000000 n).length≤k:=by unfold S9;rw[jjf]
theorem sum_c9 (x y:Int)(hx:S9 90000000 x)(hy:S9 90000000 y):Cl 166 [itD x,itD y] (itD (x+y)):=by
 unfold S9 at hx hy
 have hl:=jc1 (B:=1000000000) (by omega) x.natAbs y.natAbs
 have hs:=plus_m x.natAbs y.natAbs (by omega) (by omega)
 have ho:=jcn x.natAbs y.natAbs (by omega) (by omega)
 rw[show itD x = .agg [.ints .u32 (mg 1000000000 x.natAbs),.bool (decide (x<0))] from rfl,show itD y = .agg [.ints .u32 (mg 1000000000 y.natAbs),.bool (decide (y<0))] from rfl]
 refine V.en tbOk Tryz.func166 ?_
 (conv=>whnf)
 refine V.st ?_
 refine V.br (fun hq=>?_) (fun hq=>?_)
 ·rw[beq_iff_eq,decide_eq_decide] at hq
  have hm:=ja4 (x.natAbs+y.natAbs) (decide (x<0))
  have e:(if decide (x<0)=true then -((x.natAbs+y.natAbs:Nat):Int) else ((x.natAbs+y.natAbs:Nat):Int))=x+y:=by
   by_cases h:x<0
   ·simp[h];omega
   ·simp[h];omega
  rw[e] at hm
  (conv=>whnf)
  refine V.st ?_
  refine⟨Pq52z,[],V.pok,.go (jac ?_)⟩
  (conv=>whnf)
  refine V.st ?_
  repeat ((try ((with_reducible refine .ext ?_);(conv=>whnf)));(with_reducible refine jaa (r:=?_) ?_ ?_);rotate_left;(focus (first|exact(hs)|exact(hm)));(conv=>whnf);refine V.st ?_)
  exact Fin.of rfl
 ·have hq':¬ (x<0↔y<0):=fun h=>by rw[beq_eq_false_iff_ne] at hq;exact hq (decide_eq_decide.2 h)
  (conv=>whnf)
  refine V.st ?_
  repeat ((try ((with_reducible refine .ext ?_);(conv=>whnf)));(with_reducible refine jaa (r:=?_) ?_ ?_);rotate_left;(focus (first|exact(ho)));(conv=>whnf);refine V.st ?_)
  refine V.br (fun hq2=>?_) (fun hq2=>?_)
  ·rw[decide_eq_true_eq] at hq2
   have hq3:=Int.neg_of_sign_eq_neg_one (a:=((x.natAbs:Int)-y.natAbs)) (by have:=Int.sign_trichotomy ((x.natAbs:Int)-y.natAbs);omega)
   have hd:=minus_m y.natAbs x.natAbs (by omega) (by omega)
   have hm:=ja4 (y.natAbs-x.natAbs) (decide (y<0))
   have e:(if decide (y<0)=true then -((y.natAbs-x.natAbs:Nat):Int) else ((y.natAbs-x.natAbs:Nat):Int))=x+y:=by
    by_cases h:y<0
    ·simp[h];omega
    ·simp[h];omega
   rw[e] at hm
   (conv=>whnf)
   refine V.st ?_
   refine⟨Pq52z,[],V.pok,.go (jac ?_)⟩
   (conv=>whnf)
   refine V.st ?_
   repeat ((try ((with_reducible refine .ext ?_);(conv=>whnf)));(with_reducible refine jaa (r:=?_) ?_ ?_);rotate_left;(focus (first|exact(hd)|exact(hm)));(conv=>whnf);refine V.st ?_)
   exact Fin.of rfl
  ·rw[decide_eq_false_iff_not] at hq2
   have hq3:¬ ((x.natAbs:Int)-y.natAbs)<0:=fun h=>hq2 (by rw[jjn h];decide)
   have hd:=minus_m x.natAbs y.natAbs (by omega) (by omega)
   have hm:=ja4 (x.natAbs-y.natAbs) (decide (x<0))
   have e:(if decide (x<0)=true then -((x.natAbs-y.natAbs:Nat):Int) else ((x.natAbs-y.natAbs:Nat):Int))=x+y:=by
    by_cases h:x<0
    ·simp[h];omega
    ·simp[h];omega
   rw[e] at hm
   (conv=>whnf)
   refine V.st ?_
   refine⟨Pq52z,[],V.pok,.go (jac ?_)⟩
   (conv=>whnf)
   refine V.st ?_
   repeat ((try ((with_reducible refine .ext ?_);(conv=>whnf)));(with_reducible refine jaa (r:=?_) ?_ ?_);rotate_left;(focus (first|exact(hd)|exact(hm)));(conv=>whnf);refine V.st ?_)
   exact Fin.of rfl
theorem jdm (x:Int)(d:Nat)(hx:S9 90000000 x)(hd:(mg 1000000000 d).length≤90000000):Cl 164 [itD x,.ints .u32 (mg 1000000000 d)] (itD (x*d)):=by
 unfold S9 at hx
 have ht:=jcF x.natAbs d (by omega) (by omega)
 have hm:=ja4 (x.natAbs*d) (decide (x<0))
 have e:(if decide (x<0)=true then -((x.natAbs*d:Nat):Int) else ((x.natAbs*d:Nat):Int))=x*d:=by
  rw[jja]
  by_cases h:x<0
  ·have e2:(x.natAbs:Int) = -x:=by omega
   rw[e2,decide_eq_true h,if_pos rfl,Int.neg_mul,Int.neg_neg]
  ·have e2:(x.natAbs:Int)=x:=by omega
   rw[e2];simp[h]
 rw[e] at hm
 refine V.en tbOk Tryz.func164 ?_
 (conv=>whnf)
 refine V.st ?_
 refine⟨(V.tk [0,1,2,4,5] (V.e1 3 [5,4] (V.e1 6 [] (V.e1 7 [] .done)))),[],V.pok,.go (jac ?_)⟩
 (conv=>whnf)
 refine V.st ?_
 repeat ((try ((with_reducible refine .ext ?_);(conv=>whnf)));(with_reducible refine jaa (r:=?_) ?_ ?_);rotate_left;(focus (first|exact(ht)|exact(hm)));(conv=>whnf);refine V.st ?_)
 exact Fin.of rfl
theorem jfO (x:Int):Cl 218 [itD x] (itD (-x)):=by
 have hm:=ja4 x.natAbs (!decide (x<0))
 have e:(if (!decide (x<0))=true then -(x.natAbs:Int) else (x.natAbs:Int)) = -x:=by
  by_cases h:x<0
  ·simp[h];omega
  ·simp[h];omega
 rw[e] at hm
 refine V.en tbOk Tryz.func218 ?_
 (conv=>whnf)
 refine V.st ?_
 repeat ((try ((with_reducible refine .ext ?_);(conv=>whnf)));(with_reducible refine jaa (r:=?_) ?_ ?_);rotate_left;(focus (first|exact(hm)));(conv=>whnf);refine V.st ?_)
 exact Fin.of rfl
theorem sign_c (x:Int):Cl 160 [itD x] (.int .i64 x.sign):=by
 have hz:=jdi x.natAbs
 refine V.en tbOk Tryz.func160 ?_
 (conv=>whnf)
 refine V.st ?_
 repeat ((try ((with_reducible refine .ext ?_);(conv=>whnf)));(with_reducible refine jaa (r:=?_) ?_ ?_);rotate_left;(focus (first|exact(hz)));(conv=>whnf);refine V.st ?_)
 refine V.br (fun hq=>?_) (fun hq=>?_)
 ·rw[decide_eq_true_eq] at hq
  (conv=>whnf)
  refine V.st ?_
  exact Fin.of (by rw[show x=0 by omega];rfl)
 ·rw[decide_eq_false_iff_not] at hq
  (conv=>whnf)
  refine V.st ?_
  refine V.br (fun hq2=>?_) (fun hq2=>?_)
  ·rw[decide_eq_true_eq] at hq2
   (conv=>whnf)
   refine V.st ?_
   exact Fin.of (by rw[jjn hq2])
  ·rw[decide_eq_false_iff_not] at hq2
   (conv=>whnf)
   refine V.st ?_
   exact Fin.of (by rw[jjo (by omega)])
theorem jgr (x y:Rat)(hx:S9 40000000 x.num)(hy:S9 40000000 y.num)(hxd:(mg 1000000000 x.den).length≤40000000)(hyd:(mg 1000000000 y.den).length≤40000000):Cl 184 [rtD x,rtD y] (.int .i64 (ordQ x y)):=by
 have s1:=jdm x.num y.den (hx.mono (by omega)) (by omega)
 have s2:=jdm y.num x.den (hy.mono (by omega)) (by omega)
 have s3:=jfO (y.num*x.den)
 have z1:S9 80000000 (x.num*y.den):=hx.mul (S9.nat.2 hyd)
 have z2:S9 80000000 (y.num*x.den):=hy.mul (S9.nat.2 hxd)
 have s4:=sum_c9 (x.num*y.den) (-(y.num*x.den)) (z1.mono (by omega)) (z2.neg.mono (by omega))
 have s5:=sign_c (x.num*y.den + -(y.num*x.den))
 rw[jeS] at s5
 refine V.en tbOk Tryz.func184 ?_
 (conv=>whnf)
 refine V.st ?_
 refine⟨(V.tk [0,1,2,3,5,6,7,8] (V.e1 4 [8,7,6,5] (V.e1 9 [] (V.e1 10 [] (V.e1 11 [] (V.e1 12 [] (V.tk [13] .done))))))),[],V.pok,.go (jac ?_)⟩
 (conv=>whnf)
 refine V.st ?_
 repeat ((try ((with_reducible refine .ext ?_);(conv=>whnf)));(with_reducible refine jaa (r:=?_) ?_ ?_);rotate_left;(focus (first|exact(s1)|exact(s2)|exact(s3)|exact(s4)|exact(s5)));(conv=>whnf);refine V.st ?_)
 exact Fin.of rfl
theorem floor_neg (x:Int)(d:Nat)(hx:x<0)(hd:0<d):x/(d:Int)=if x.natAbs%d=0 then -((x.natAbs/d:Nat):Int) else -((x.natAbs/d+1:Nat):Int):=by
 have h1:=Nat.div_add_mod x.natAbs d
 have h2:=Nat.mod_lt x.natAbs hd
 have e:x = -(x.natAbs:Int):=by omega
 generalize x.natAbs=n at *
 generalize hq:n/d=q at *
 generalize hr:n%d=r at *
 subst e
 have h3:((d*q+r:Nat):Int)=(n:Int):=by rw[h1]
 rw[Int.natCast_add,jja] at h3
 split
 ·rename_i h
  subst h
  rw[← h3,Int.natCast_zero,jjj,← Int.mul_neg,Int.mul_ediv_cancel_left _ (by omega)]
 ·rw[Int.natCast_add,Int.natCast_one]
  refine(Int.ediv_eq_iff_of_pos (by omega)).2 ⟨?_,?_⟩
  ·rw[← h3,Int.neg_mul,jjl,jjc (q:Int)];omega
  ·rw[← h3,Int.neg_mul,jjl,jjc (q:Int)];omega
theorem floor_c (x:Int)(d:Nat)(hd:0<d)(hx:S9 80000000 x)(hdl:(mg 1000000000 d).length≤80000000):Cl 168 [itD x,.ints .u32 (mg 1000000000 d)] (itD (x/d)):=by
 unfold S9 at hx
 have h1:=jbg x.natAbs d hd (by omega) (by omega)
 have h2:=jdi (x.natAbs%d)
 have hl2:=jah (B:=1000000000) (by omega) (jjh x.natAbs d)
 have h3:=plus_m (x.natAbs/d) 1 (by omega) (by decide)
 have h4:=ja4 (x.natAbs/d+1) (decide (x<0))
 have h5:=ja4 (x.natAbs/d) (decide (x<0))
 by_cases hx0:x<0
 ·rw[floor_neg x d hx0 hd]
  rw[show itD x = .agg [.ints .u32 (mg 1000000000 x.natAbs),.bool (decide (x<0))] from rfl]
  rw[decide_eq_true hx0] at h4 h5 ⊢
  rw[if_pos rfl] at h4 h5
  refine V.en tbOk Tryz.func168 ?_
  (conv=>whnf)
  refine V.st ?_
  repeat ((try ((with_reducible refine .ext ?_);(conv=>whnf)));(with_reducible refine jaa (r:=?_) ?_ ?_);rotate_left;(focus (first|exact(h1)|exact(h2)));(conv=>whnf);refine V.st ?_)
  refine V.br (fun hq=>?_) (fun hq=>?_)
  ·simp only[Bool.true_and,Bool.not_eq_true',decide_eq_false_iff_not] at hq
   rw[if_neg hq]
   (conv=>whnf)
   refine V.st ?_
   repeat ((try ((with_reducible refine .ext ?_);(conv=>whnf)));(with_reducible refine jaa (r:=?_) ?_ ?_);rotate_left;(focus (first|exact(h3)|exact(h4)));(conv=>whnf);refine V.st ?_)
   exact Fin.of rfl
  ·simp only[Bool.true_and,Bool.not_eq_false',decide_eq_true_eq] at hq
   rw[if_pos hq]
   (conv=>whnf)
   refine V.st ?_
   repeat ((try ((with_reducible refine .ext ?_);(conv=>whnf)));(with_reducible refine jaa (r:=?_) ?_ ?_);rotate_left;(focus (first|exact(h5)));(conv=>whnf);refine V.st ?_)
   exact Fin.of rfl
 ·have e:x/(d:Int)=((x.natAbs/d:Nat):Int):=by
   rw[Int.natCast_ediv];congr 1;omega
  rw[e]
  rw[show itD x = .agg [.ints .u32 (mg 1000000000 x.natAbs),.bool (decide (x<0))] from rfl]
  rw[decide_eq_false hx0] at h5 ⊢
  rw[if_neg (by simp)] at h5
  refine V.en tbOk Tryz.func168 ?_
  (conv=>whnf)
  refine V.st ?_
  repeat ((try ((with_reducible refine .ext ?_);(conv=>whnf)));(with_reducible refine jaa (r:=?_) ?_ ?_);rotate_left;(focus (first|exact(h1)|exact(h2)));(conv=>whnf);refine V.st ?_)
  refine V.br (fun hq=>?_) (fun hq=>?_)
  ·simp at hq
  ·(conv=>whnf)
   refine V.st ?_
   repeat ((try ((with_reducible refine .ext ?_);(conv=>whnf)));(with_reducible refine jaa (r:=?_) ?_ ?_);rotate_left;(focus (first|exact(h5)));(conv=>whnf);refine V.st ?_)
   exact Fin.of rfl
def nearZ (q:Rat)(s:Nat):Int:=(q.num*((s*2:Nat):Int)+q.den)/((q.den*2:Nat):Int)
theorem near_r (x:Rat)(s:Nat)(hx:S9 30000000 x.num)(hxd:(mg 1000000000 x.den).length≤30000000)(hs:(mg 1000000000 s).length≤30000000):Cl 117 [rtD x,.ints .u32 (mg 1000000000 s)] (itD (nearZ x s)):=by
 have h2:(mg 1000000000 2).length≤1:=by decide
 have t1:=jcF s 2 (by omega) (by omega)
 have l1:=jbT (B:=1000000000) (by omega) s 2
 have s1:=jdm x.num (s*2) (hx.mono (by omega)) (by omega)
 have s2:=ja4 x.den false
 rw[if_neg (by simp)] at s2
 have z1:S9 60000001 (x.num*((s*2:Nat):Int)):=hx.mul (l:=30000001) (S9.nat.2 (by omega))
 have z2:S9 60000001 (x.den:Int):=S9.nat.2 (by omega)
 have s3:=sum_c9 _ _ (z1.mono (by omega)) (z2.mono (by omega))
 have t2:=jcF x.den 2 (by omega) (by omega)
 have l2:=jbT (B:=1000000000) (by omega) x.den 2
 have s4:=floor_c (x.num*((s*2:Nat):Int)+x.den) (x.den*2) (by have:=x.den_pos;omega) ((z1.add z2).mono (by omega)) (by omega)
 unfold nearZ
 clear z1 z2
 generalize x.num*((s*2:Nat):Int)+x.den=top at *
 refine V.en tbOk Tryz.func117 ?_
 (conv=>whnf)
 refine V.st ?_
 refine⟨(V.tk [0,1,2,3,6,7] (.ev (.cons 4 [7,6,1,0] (.ev (.cons 5 [7,6] (.ev (.cons 8 [] (.ev (.cons 9 [] (V.e1 10 [] (V.e1 11 [] .done)) (.cons 10 [] (V.e1 9 [] (V.e1 11 [] .done)) .nil))) (.cons 10 [7,6] (V.e1 8 [] (V.e1 9 [] (V.e1 11 [] .done))) .nil))) (.cons 10 [7,6,1,0] (V.e1 5 [7,6] (V.e1 8 [] (V.e1 9 [] (V.e1 11 [] .done)))) .nil))) (.cons 10 [7,6,3,2,1,0] (V.e1 4 [7,6,1,0] (V.e1 5 [7,6] (V.e1 8 [] (V.e1 9 [] (V.e1 11 [] .done))))) .nil)))),[],V.pok,?_⟩
 refine jab [(6,.box 6 0),(5,.ints .u32 [2]),(7,.ints .u32 [2])] [(6,.box [.ints .u32 (mg 1000000000 top.natAbs),.bool (decide (top<0))]),(7,.gone)] ?_ ?_
 ·exact V.d4 @jiX t1 s1 s2 s3
 refine V.st ?_
 refine⟨(V.tk [0,1,2,3] (V.e1 4 [0] (V.e1 5 [] (V.e1 6 [] .done)))),[],V.pok,.go (jac ?_)⟩
 (conv=>whnf)
 refine V.st ?_
 repeat ((try ((with_reducible refine .ext ?_);(conv=>whnf)));(with_reducible refine jaa (r:=?_) ?_ ?_);rotate_left;(focus (first|exact(t2)|exact(s4)));(conv=>whnf);refine V.st ?_)
 exact Fin.of rfl
theorem jc4 (n:Int)(d:Nat)(hd:0<d)(h:Nat.Coprime n.natAbs d):(Rat.divInt n d).num=n∧(Rat.divInt n d).den=d:=by
 have h1:Int.gcd (d:Int) n=1:=by rw[Int.gcd_comm];exact h
 rw[Rat.num_divInt,Rat.den_divInt,if_neg (by omega),jjo (by omega),jjm,h1]
 simp
theorem jfp {a b c:Nat}(h:Nat.Coprime a b)(hc:c ∣ a):Nat.Coprime c b:=Nat.Coprime.coprime_dvd_left hc h
theorem cop_dvd' {a b c:Nat}(h:Nat.Coprime a b)(hc:c ∣ b):Nat.Coprime a c:=Nat.Coprime.coprime_dvd_right hc h
theorem sum_cop {xn yn:Int}{R L xb:Nat}(hx:Nat.Coprime xn.natAbs xb)(hR:R ∣ xb)(hRL:Nat.Coprime R L):Nat.Coprime (xn*L+yn*R).natAbs R:=by
 have h1:Nat.gcd (xn*L+yn*R).natAbs R ∣ R:=Nat.gcd_dvd_right _ _
 have h2:Nat.gcd (xn*L+yn*R).natAbs R ∣ (xn*L+yn*R).natAbs:=Nat.gcd_dvd_left _ _
 obtain⟨d,hd⟩:∃ d,d=Nat.gcd (xn*L+yn*R).natAbs R:=⟨_,rfl⟩
 rw[← hd] at h1 h2
 have h3:(d:Int) ∣ xn*L+yn*R:=Int.ofNat_dvd_left.2 h2
 have h4:(d:Int) ∣ yn*R:=Int.dvd_trans (Int.ofNat_dvd.2 h1) (Int.dvd_mul_left _ _)
 have h5:(d:Int) ∣ xn*L:=by
  have:=Int.dvd_sub h3 h4
  rwa [Int.add_sub_cancel] at this
 have h6:d ∣ xn.natAbs*L:=by
  have:=Int.ofNat_dvd_left.1 h5
  rwa [Int.natAbs_mul,jjf] at this
 have h7:Nat.Coprime d L:=jfp hRL h1
 have h8:d ∣ xn.natAbs:=Nat.Coprime.dvd_of_dvd_mul_right h7 h6
 have h9:d ∣ Nat.gcd xn.natAbs xb:=Nat.dvd_gcd h8 (Nat.dvd_trans h1 hR)
 rw[hx.gcd_eq_one] at h9
 show Nat.gcd _ _=1
 rw[← hd]
 exact Nat.dvd_one.1 h9
theorem add_parts (x y:Rat) :
  let g:=Nat.gcd x.den y.den;let L:=y.den/g;let R:=x.den/g;let top:=x.num*L+y.num*R;let h:=Nat.gcd top.natAbs g
  (x+y).num=top/h∧(x+y).den=R*(y.den/h):=by
 intro g L R top h
 have hg:0<g:=Nat.gcd_pos_of_pos_left _ x.den_pos
 have ex:x.den=R*g:=(Nat.div_mul_cancel (Nat.gcd_dvd_left _ _)).symm
 have ey:y.den=L*g:=(Nat.div_mul_cancel (Nat.gcd_dvd_right _ _)).symm
 have hRL:Nat.Coprime R L:=Nat.coprime_div_gcd_div_gcd hg
 have c1:Nat.Coprime top.natAbs R:=sum_cop x.reduced (by rw[ex];exact Nat.dvd_mul_right _ _) hRL
 have c2:Nat.Coprime top.natAbs L:=by
  have:=sum_cop (xn:=y.num) (yn:=x.num) (R:=L) (L:=R) y.reduced (by rw[ey];exact Nat.dvd_mul_right _ _) hRL.symm
  rwa [Int.add_comm] at this
 have hh:0<h:=Nat.gcd_pos_of_pos_right _ hg
 have hht:h ∣ top.natAbs:=Nat.gcd_dvd_left _ _
 have hhg:h ∣ g:=Nat.gcd_dvd_right _ _
 have hT:((h:Nat):Int) ∣ top:=Int.ofNat_dvd_left.2 hht
 obtain⟨t,ht⟩:=hT
 obtain⟨q,hq⟩:=hhg
 have hyq:y.den/h=L*q:=by
  rw[ey,hq,ji4 h q,← Nat.mul_assoc,Nat.mul_div_cancel _ hh]
 have htn:top.natAbs=h*t.natAbs:=by rw[ht,Int.natAbs_mul,jjf]
 have hcq:Nat.Coprime t.natAbs q:=by
  have h1:Nat.Coprime (top.natAbs/h) (g/h):=Nat.coprime_div_gcd_div_gcd hh
  rwa [htn,hq,Nat.mul_div_cancel_left _ hh,Nat.mul_div_cancel_left _ hh] at h1
 have htd:t.natAbs ∣ top.natAbs:=by rw[htn];exact Nat.dvd_mul_left _ _
 have hcop:Nat.Coprime t.natAbs (R*(y.den/h)):=by
  rw[hyq]
  exact Nat.Coprime.mul_right (jfp c1 htd) (Nat.Coprime.mul_right (jfp c2 htd) hcq)
 have hqp:0<q:=Nat.pos_of_ne_zero fun e=>by rw[e] at hq;omega
 have hLp:0<L:=Nat.pos_of_ne_zero fun e=>by have:=y.den_pos;rw[ey,e] at this;omega
 have hRp:0<R:=Nat.pos_of_ne_zero fun e=>by have:=x.den_pos;rw[ex,e] at this;omega
 have hsum:x+y=Rat.divInt t ((R*(y.den/h):Nat):Int):=by
  conv=>lhs;rw[← jjp x,← jjp y]
  rw[Rat.divInt_add_divInt _ _ (by have:=x.den_pos;omega) (by have:=y.den_pos;omega)]
  have hyp:=y.den_pos
  have hxp:=x.den_pos
  rw[Rat.divInt_eq_divInt_iff (by have:=Nat.mul_pos hxp hyp;rw[← jja];omega) (by have:0<R*(y.den/h):=by { rw[hyq];exact Nat.mul_pos hRp (Nat.mul_pos hLp hqp) }; omega)]
  rw[hyq,ex,ey,hq]
  have e1:x.num*((L*(h*q):Nat):Int)+y.num*((R*(h*q):Nat):Int)=(h*q:Nat)*top:=by
   show _=((h*q:Nat):Int)*(x.num*(L:Int)+y.num*(R:Int))
   simp only[jja,jjb]
   congr 1<;>ac_rfl
  rw[e1,ht]
  simp only[jja]
  ac_rfl
 have hp:0<R*(y.den/h):=by rw[hyq];exact Nat.mul_pos hRp (Nat.mul_pos hLp hqp)
 obtain⟨p1,p2⟩:=jc4 t (R*(y.den/h)) hp hcop
 rw[hsum,p1,p2,ht,Int.mul_ediv_cancel_left _ (by omega)]
 exact⟨rfl,rfl⟩
theorem mul_parts (x y:Rat) :
  let g:=Nat.gcd x.num.natAbs y.den;let h:=Nat.gcd y.num.natAbs x.den
  (x*y).num.natAbs=(x.num.natAbs/g)*(y.num.natAbs/h)∧(x*y).den=(x.den/h)*(y.den/g):=by
 intro g h
 have hg:0<g:=Nat.gcd_pos_of_pos_right _ y.den_pos
 have hh:0<h:=Nat.gcd_pos_of_pos_right _ x.den_pos
 obtain⟨a,ha⟩:g ∣ x.num.natAbs:=Nat.gcd_dvd_left _ _
 obtain⟨b,hb⟩:g ∣ y.den:=Nat.gcd_dvd_right _ _
 obtain⟨c,hc⟩:h ∣ y.num.natAbs:=Nat.gcd_dvd_left _ _
 obtain⟨d,hd⟩:h ∣ x.den:=Nat.gcd_dvd_right _ _
 have k1:x.num.natAbs/g=a:=by rw[ha,Nat.mul_div_cancel_left _ hg]
 have k2:y.den/g=b:=by rw[hb,Nat.mul_div_cancel_left _ hg]
 have k3:y.num.natAbs/h=c:=by rw[hc,Nat.mul_div_cancel_left _ hh]
 have k4:x.den/h=d:=by rw[hd,Nat.mul_div_cancel_left _ hh]
 have c1:Nat.Coprime a b:=by
  have:Nat.Coprime (x.num.natAbs/g) (y.den/g):=Nat.coprime_div_gcd_div_gcd hg
  rwa [k1,k2] at this
 have c2:Nat.Coprime c d:=by
  have:Nat.Coprime (y.num.natAbs/h) (x.den/h):=Nat.coprime_div_gcd_div_gcd hh
  rwa [k3,k4] at this
 have c3:Nat.Coprime a d:=jfp (cop_dvd' x.reduced (by rw[hd];exact Nat.dvd_mul_left _ _)) (by rw[ha];exact Nat.dvd_mul_left _ _)
 have c4:Nat.Coprime c b:=jfp (cop_dvd' y.reduced (by rw[hb];exact Nat.dvd_mul_left _ _)) (by rw[hc];exact Nat.dvd_mul_left _ _)
 have hcop:Nat.Coprime (a*c) (d*b):=Nat.Coprime.mul_right (Nat.Coprime.mul_left c3 c2) (Nat.Coprime.mul_left c1 c4)
 obtain⟨u,hu⟩:((g:Nat):Int) ∣ x.num:=Int.ofNat_dvd_left.2 ⟨a,ha⟩
 obtain⟨v,hv⟩:((h:Nat):Int) ∣ y.num:=Int.ofNat_dvd_left.2 ⟨c,hc⟩
 have hua:u.natAbs=a:=by
  have:=ha;rw[hu,Int.natAbs_mul,jjf] at this
  exact Nat.eq_of_mul_eq_mul_left hg this
 have hvc:v.natAbs=c:=by
  have:=hc;rw[hv,Int.natAbs_mul,jjf] at this
  exact Nat.eq_of_mul_eq_mul_left hh this
 have hbp:0<b:=Nat.pos_of_ne_zero fun e=>by have:=y.den_pos;rw[hb,e] at this;omega
 have hdp:0<d:=Nat.pos_of_ne_zero fun e=>by have:=x.den_pos;rw[hd,e] at this;omega
 have hp:0<d*b:=Nat.mul_pos hdp hbp
 have hprod:x*y=Rat.divInt (u*v) ((d*b:Nat):Int):=by
  conv=>lhs;rw[← jjp x,← jjp y]
  rw[Rat.divInt_mul_divInt]
  have hyp:=y.den_pos
  have hxp:=x.den_pos
  rw[Rat.divInt_eq_divInt_iff (by have:=Nat.mul_pos hxp hyp;rw[← jja];omega) (by omega),hb,hd]
  conv=>lhs;rw[hu,hv]
  simp only[jja]
  ac_rfl
 obtain⟨p1,p2⟩:=jc4 (u*v) (d*b) hp (by rw[Int.natAbs_mul,hua,hvc];exact hcop)
 rw[hprod,p1,p2,Int.natAbs_mul,hua,hvc,k1,k2,k3,k4]
 exact⟨rfl,rfl⟩
theorem mul_sign (x y:Rat):decide ((x*y).num<0)=((decide (x.num<0) != decide (y.num<0)) && !decide ((x*y).num=0)):=by
 have hg:0<Nat.gcd (x.num*y.num).natAbs (x.den*y.den):=Nat.gcd_pos_of_pos_right _ (Nat.mul_pos x.den_pos y.den_pos)
 obtain⟨t,ht⟩:((Nat.gcd (x.num*y.num).natAbs (x.den*y.den):Nat):Int) ∣ x.num*y.num:=Int.ofNat_dvd_left.2 (Nat.gcd_dvd_left _ _)
 have key:(x*y).num=t:=by
  rw[Rat.mul_def,Rat.normalize_eq]
  show x.num*y.num/((Nat.gcd (x.num*y.num).natAbs (x.den*y.den):Nat):Int)=t
  conv=>lhs;lhs;rw[ht]
  exact Int.mul_ediv_cancel_left _ (by omega)
 rw[key]
 generalize Nat.gcd (x.num*y.num).natAbs (x.den*y.den)=g at *
 have hs:(t<0↔x.num*y.num<0)∧(t=0↔x.num*y.num=0):=by
  rw[ht]
  constructor
  ·constructor
   ·intro h;exact Int.mul_neg_of_pos_of_neg (by omega) h
   ·intro h
    rcases Int.lt_or_le t 0 with h2|h2
    ·exact h2
    ·have:=jiW (a:=(g:Int)) (by omega) h2;omega
  ·constructor
   ·intro h;rw[h,Int.mul_zero]
   ·intro h;rcases Int.mul_eq_zero.1 h with h2|h2<;>omega
 by_cases h1:x.num<0<;>by_cases h2:y.num<0<;>by_cases h3:t=0
 all_goals
  have h4:=hs.1
  have h5:=hs.2
  simp only[h1,h2,h3,decide_true,decide_false,bne_self_eq_false,Bool.false_and,Bool.not_true,Bool.and_false,Bool.not_false,Bool.and_true]
 ·rfl
 ·rw[decide_eq_false_iff_not,h4]
  have:=Int.mul_pos_of_neg_of_neg h1 h2;omega
 ·simp
 ·have h6:x.num*y.num≠0:=fun e=>h3 (h5.2 e)
  have h7:x.num*y.num≤0:=Int.mul_nonpos_of_nonpos_of_nonneg (by omega) (by omega)
  simp only[h4]
  simp;omega
 ·simp
 ·have h6:x.num*y.num≠0:=fun e=>h3 (h5.2 e)
  have h7:x.num*y.num≤0:=Int.mul_nonpos_of_nonneg_of_nonpos (by omega) (by omega)
  simp only[h4]
  simp;omega
 ·rfl
 ·rw[decide_eq_false_iff_not,h4]
  have:=jiW (a:=x.num) (b:=y.num) (by omega) (by omega);omega
def Q9 (k:Nat)(q:Rat):Prop:=S9 k q.num∧(mg 1000000000 q.den).length≤k
theorem Q9.mono {k l:Nat}{q:Rat}(h:Q9 k q)(hl:k≤l):Q9 l q:=⟨h.1.mono hl,ji2 h.2 hl⟩
theorem Q9.neg {k:Nat}{q:Rat}(h:Q9 k q):Q9 k (-q):=⟨by rw[Rat.neg_num];exact h.1.neg,by rw[Rat.neg_den];exact h.2⟩
theorem div_sign (t:Int)(h:Nat)(hd:h ∣ t.natAbs):(if decide (t<0)=true then -((t.natAbs/h:Nat):Int) else ((t.natAbs/h:Nat):Int))=t/h:=by
 have e:t=t.sign*(t.natAbs:Int):=(Int.sign_mul_natAbs t).symm
 by_cases hz:t<0
 ·rw[decide_eq_true hz,if_pos rfl]
  have e2:t = -(t.natAbs:Int):=by omega
  conv=>rhs;rw[e2]
  rw[Int.neg_ediv_of_dvd (Int.ofNat_dvd.2 hd),Int.natCast_ediv]
 ·rw[decide_eq_false hz,if_neg (by simp)]
  have e2:t=(t.natAbs:Int):=by omega
  conv=>rhs;rw[e2]
  rw[Int.natCast_ediv]
theorem negated_c (q:Rat):Cl 193 [rtD q] (rtD (-q)):=by
 have h1:=jfO q.num
 have e:rtD (-q) = .agg [.ints .u32 (mg 1000000000 (-q.num).natAbs),.bool (decide (-q.num<0)),.ints .u32 (mg 1000000000 q.den)]:=by unfold rtD;rw[Rat.neg_num,Rat.neg_den]
 rw[e]
 refine V.en tbOk Tryz.func193 ?_
 (conv=>whnf)
 refine V.st ?_
 refine⟨(V.tk [0,1,3,4] (V.e1 2 [4,3] (V.tk [5] (V.e1 6 [] .done)))),[],V.pok,.go (jac ?_)⟩
 (conv=>whnf)
 refine V.st ?_
 repeat ((try ((with_reducible refine .ext ?_);(conv=>whnf)));(with_reducible refine jaa (r:=?_) ?_ ?_);rotate_left;(focus (first|exact(h1)));(conv=>whnf);refine V.st ?_)
 exact Fin.of rfl
theorem add_c (x y:Rat)(hx:Q9 20000000 x)(hy:Q9 20000000 y):Cl 155 [rtD x,rtD y] (rtD (x+y)):=by
 obtain⟨p1,p2⟩:=add_parts x y
 have g1:=gcd_c x.den y.den (by have:=hx.2;omega) (by have:=hy.2;omega)
 have hg:0<Nat.gcd x.den y.den:=Nat.gcd_pos_of_pos_left _ x.den_pos
 have lg:=jah (B:=1000000000) (by omega) (Nat.gcd_le_left y.den x.den_pos)
 generalize Nat.gcd x.den y.den=g at *
 have hx1:=hx.1
 have hy1:=hy.1
 have hx2:=hx.2
 have hy2:=hy.2
 have d1:=jbg y.den g hg (by omega) (by omega)
 have d2:=jbg x.den g hg (by omega) (by omega)
 have lL:=jah (B:=1000000000) (by omega) (jjh y.den g)
 have lR:=jah (B:=1000000000) (by omega) (jjh x.den g)
 have s1:=jdm x.num (y.den/g) (hx1.mono (by omega)) (by omega)
 have s2:=jdm y.num (x.den/g) (hy1.mono (by omega)) (by omega)
 have z1:S9 40000000 (x.num*((y.den/g:Nat):Int)):=hx1.mul (l:=20000000) (S9.nat.2 (by omega))
 have z2:S9 40000000 (y.num*((x.den/g:Nat):Int)):=hy1.mul (l:=20000000) (S9.nat.2 (by omega))
 have s3:=sum_c9 _ _ (z1.mono (by omega)) (z2.mono (by omega))
 have z3:=z1.add z2
 generalize x.num*((y.den/g:Nat):Int)+y.num*((x.den/g:Nat):Int)=top at *
 unfold S9 at z3
 have g2:=gcd_c top.natAbs g (by omega) (by omega)
 have hh:0<Nat.gcd top.natAbs g:=Nat.gcd_pos_of_pos_right _ hg
 have lh:=jah (B:=1000000000) (by omega) (Nat.gcd_le_right top.natAbs hg)
 have hdv:Nat.gcd top.natAbs g ∣ top.natAbs:=Nat.gcd_dvd_left _ _
 generalize Nat.gcd top.natAbs g=h at *
 have d3:=jbg top.natAbs h hh (by omega) (by omega)
 have d4:=jbg y.den h hh (by omega) (by omega)
 have lT:=jah (B:=1000000000) (by omega) (jjh y.den h)
 have t1:=jcF (x.den/g) (y.den/h) (by omega) (by omega)
 have m1:=ja4 (top.natAbs/h) (decide (top<0))
 rw[div_sign top h hdv,← p1] at m1
 rw[← p2] at t1
 refine V.en tbOk Tryz.func155 ?_
 (conv=>whnf)
 refine V.st ?_
 repeat ((try ((with_reducible refine .ext ?_);(conv=>whnf)));(with_reducible refine jaa (r:=?_) ?_ ?_);rotate_left;(focus (first|exact(g1)|exact(d1)|exact(d2)));(conv=>whnf);refine V.st ?_)
 refine⟨(V.tk [0,1,2,4,5,6] (.ev (.cons 3 [6,5,4] (.ev (.cons 7 [] (.ev (.cons 8 [] (V.e1 9 [] (V.e1 10 [] .done)) (.cons 9 [] (V.e1 8 [] (V.e1 10 [] .done)) .nil))) (.cons 9 [6,5,4] (V.e1 7 [] (V.e1 8 [] (V.e1 10 [] .done))) .nil))) (.cons 9 [6,5,4,2,1,0] (V.e1 3 [6,5,4] (V.e1 7 [] (V.e1 8 [] (V.e1 10 [] .done)))) .nil)))),[],V.pok,?_⟩
 refine jab [(10,.box 10 0)] [(10,.box [.ints .u32 (mg 1000000000 top.natAbs),.bool (decide (top<0))])] ?_ ?_
 ·exact V.d3 @jiX s1 s2 s3
 (conv=>whnf)
 refine V.st ?_
 repeat ((try ((with_reducible refine .ext ?_);(conv=>whnf)));(with_reducible refine jaa (r:=?_) ?_ ?_);rotate_left;(focus (first|exact(g2)|exact(d3)|exact(d4)|exact(m1)|exact(t1)));(conv=>whnf);refine V.st ?_)
 exact Fin.of rfl
theorem sub_c (x y:Rat)(hx:Q9 20000000 x)(hy:Q9 20000000 y):Cl 154 [rtD x,rtD y] (rtD (x-y)):=by
 have h1:=negated_c y
 have h2:=add_c x (-y) hx hy.neg
 rw[← Rat.sub_eq_add_neg] at h2
 refine V.en tbOk Tryz.func154 ?_
 (conv=>whnf)
 refine V.st ?_
 refine⟨Pq73z,[],V.pok,.go (jac ?_)⟩
 (conv=>whnf)
 refine V.st ?_
 repeat ((try ((with_reducible refine .ext ?_);(conv=>whnf)));(with_reducible refine jaa (r:=?_) ?_ ?_);rotate_left;(focus (first|exact(h1)|exact(h2)));(conv=>whnf);refine V.st ?_)
 exact Fin.of rfl
theorem mul_num (x y:Rat):(if (decide (x.num<0) != decide (y.num<0))=true then -((x*y).num.natAbs:Int) else ((x*y).num.natAbs:Int))=(x*y).num:=by
 have h:=mul_sign x y
 by_cases h0:(x*y).num=0
 ·rw[h0];simp
 ·rw[decide_eq_false h0,Bool.not_false,Bool.and_true] at h
  rw[← h]
  by_cases h1:(x*y).num<0
  ·rw[decide_eq_true h1,if_pos rfl];omega
  ·rw[decide_eq_false h1,if_neg (by simp)];omega
theorem mul_c (x y:Rat)(hx:Q9 20000000 x)(hy:Q9 20000000 y):Cl 144 [rtD x,rtD y] (rtD (x*y)):=by
 obtain⟨p1,p2⟩:=mul_parts x y
 have pn:=mul_num x y
 have hx1:=hx.1
 have hy1:=hy.1
 have hx2:=hx.2
 have hy2:=hy.2
 unfold S9 at hx1 hy1
 have g1:=gcd_c x.num.natAbs y.den (by omega) (by omega)
 have g2:=gcd_c y.num.natAbs x.den (by omega) (by omega)
 have hg:0<Nat.gcd x.num.natAbs y.den:=Nat.gcd_pos_of_pos_right _ y.den_pos
 have hh:0<Nat.gcd y.num.natAbs x.den:=Nat.gcd_pos_of_pos_right _ x.den_pos
 have lg:=jah (B:=1000000000) (by omega) (Nat.gcd_le_right x.num.natAbs y.den_pos)
 have lh:=jah (B:=1000000000) (by omega) (Nat.gcd_le_right y.num.natAbs x.den_pos)
 generalize Nat.gcd x.num.natAbs y.den=g at *
 generalize Nat.gcd y.num.natAbs x.den=h at *
 have d1:=jbg x.num.natAbs g hg (by omega) (by omega)
 have d2:=jbg x.den h hh (by omega) (by omega)
 have d3:=jbg y.num.natAbs h hh (by omega) (by omega)
 have d4:=jbg y.den g hg (by omega) (by omega)
 have l1:=jah (B:=1000000000) (by omega) (jjh x.num.natAbs g)
 have l2:=jah (B:=1000000000) (by omega) (jjh x.den h)
 have l3:=jah (B:=1000000000) (by omega) (jjh y.num.natAbs h)
 have l4:=jah (B:=1000000000) (by omega) (jjh y.den g)
 have t1:=jcF (x.num.natAbs/g) (y.num.natAbs/h) (by omega) (by omega)
 have t2:=jcF (x.den/h) (y.den/g) (by omega) (by omega)
 rw[← p1] at t1
 rw[← p2] at t2
 have m1:=ja4 (x*y).num.natAbs (decide (x.num<0) != decide (y.num<0))
 rw[pn] at m1
 refine V.en tbOk Tryz.func144 ?_
 (conv=>whnf)
 refine V.st ?_
 repeat ((try ((with_reducible refine .ext ?_);(conv=>whnf)));(with_reducible refine jaa (r:=?_) ?_ ?_);rotate_left;(focus (first|exact(g1)|exact(g2)|exact(d1)|exact(d2)|exact(d3)|exact(d4)));(conv=>whnf);refine V.st ?_)
 refine⟨(V.tk [0,1,3,4,5,6,7,8,9,11,12] (V.e1 2 [12,11,9,8,7,6,5,4,3] (V.e1 10 [12,11] (V.e1 13 [] (V.tk [14] (V.e1 15 [] .done)))))),[],V.pok,.go (jac ?_)⟩
 (conv=>whnf)
 refine V.st ?_
 repeat ((try ((with_reducible refine .ext ?_);(conv=>whnf)));(with_reducible refine jaa (r:=?_) ?_ ?_);rotate_left;(focus (first|exact(t1)|exact(m1)|exact(t2)));(conv=>whnf);refine V.st ?_)
 exact Fin.of rfl
theorem jg3 (q:Rat)(hq:q.num≠0):q⁻¹.num=(if decide (q.num<0)=true then -(q.den:Int) else (q.den:Int))∧q⁻¹.den=q.num.natAbs:=by
 have hd:=q.den_pos
 have hc:Nat.Coprime (if decide (q.num<0)=true then -(q.den:Int) else (q.den:Int)).natAbs q.num.natAbs:=by
  have e:(if decide (q.num<0)=true then -(q.den:Int) else (q.den:Int)).natAbs=q.den:=by
   split<;>simp
  rw[e]
  exact q.reduced.symm
 have e:q⁻¹=Rat.divInt (if decide (q.num<0)=true then -(q.den:Int) else (q.den:Int)) (q.num.natAbs:Nat):=by
  rw[Rat.inv_def,Rat.divInt_eq_divInt_iff hq (by omega)]
  by_cases h:q.num<0
  ·rw[decide_eq_true h,if_pos rfl,show (q.num.natAbs:Int) = -q.num by omega,Int.mul_neg,Int.neg_mul]
  ·rw[decide_eq_false h,if_neg (by simp),show (q.num.natAbs:Int)=q.num by omega]
 obtain⟨h1,h2⟩:=jc4 _ q.num.natAbs (by omega) hc
 rw[e]
 exact⟨h1,h2⟩
theorem inverse_c (q:Rat)(hq:q.num≠0):Cl 146 [rtD q] (rtD q⁻¹):=by
 obtain⟨p1,p2⟩:=jg3 q hq
 have m1:=ja4 q.den (decide (q.num<0))
 rw[← p1] at m1
 have e:rtD q⁻¹ = .agg [.ints .u32 (mg 1000000000 q⁻¹.num.natAbs),.bool (decide (q⁻¹.num<0)),.ints .u32 (mg 1000000000 q.num.natAbs)]:=by unfold rtD;rw[p2]
 rw[e]
 refine V.en tbOk Tryz.func146 ?_
 (conv=>whnf)
 refine V.st ?_
 refine⟨(V.tk [0,1,2,3,4,6,7,8] (V.e1 5 [8,7,6] (V.tk [9] (V.e1 10 [] .done)))),[],V.pok,.go (jac ?_)⟩
 (conv=>whnf)
 refine V.st ?_
 repeat ((try ((with_reducible refine .ext ?_);(conv=>whnf)));(with_reducible refine jaa (r:=?_) ?_ ?_);rotate_left;(focus (first|exact(m1)));(conv=>whnf);refine V.st ?_)
 exact Fin.of rfl
theorem lesser_c (x y:Rat)(hx:Q9 20000000 x)(hy:Q9 20000000 y):Cl 214 [rtD x,rtD y] (rtD (if y<x then y else x)):=by
 have h1:=jgr x y (hx.1.mono (by omega)) (hy.1.mono (by omega)) (ji2 hx.2 (by omega)) (ji2 hy.2 (by omega))
 have e:ordQ x y>0↔y<x:=by
  unfold ordQ
  by_cases a:x<y
  ·rw[if_pos a];exact⟨fun h=>by omega,fun h=>absurd h (Rat.not_lt.2 (Rat.le_of_lt a))⟩
  ·rw[if_neg a]
   by_cases b:x=y
   ·rw[if_pos b,b];exact⟨fun h=>by omega,fun h=>absurd h (Rat.lt_irrefl)⟩
   ·rw[if_neg b];exact⟨fun _=>Rat.lt_of_le_of_ne (Rat.not_lt.1 a) (Ne.symm b),fun _=>by omega⟩
 refine V.en tbOk Tryz.func214 ?_
 (conv=>whnf)
 refine V.st ?_
 repeat ((try ((with_reducible refine .ext ?_);(conv=>whnf)));(with_reducible refine jaa (r:=?_) ?_ ?_);rotate_left;(focus (first|exact(h1)));(conv=>whnf);refine V.st ?_)
 refine V.br (fun hq=>?_) (fun hq=>?_)
 ·rw[decide_eq_true_eq] at hq
  rw[if_pos (e.1 hq)]
  (conv=>whnf)
  refine V.st ?_
  exact Fin.of rfl
 ·rw[decide_eq_false_iff_not] at hq
  rw[if_neg (fun h=>hq (e.2 h))]
  (conv=>whnf)
  refine V.st ?_
  exact Fin.of rfl
theorem greater_c (x y:Rat)(hx:Q9 20000000 x)(hy:Q9 20000000 y):Cl 213 [rtD x,rtD y] (rtD (if x<y then y else x)):=by
 have h1:=jgr x y (hx.1.mono (by omega)) (hy.1.mono (by omega)) (ji2 hx.2 (by omega)) (ji2 hy.2 (by omega))
 have e:ordQ x y<0↔x<y:=by
  unfold ordQ
  by_cases a:x<y
  ·rw[if_pos a];exact⟨fun _=>a,fun _=>by omega⟩
  ·rw[if_neg a]
   by_cases b:x=y
   ·rw[if_pos b];exact⟨fun h=>by omega,fun h=>absurd h a⟩
   ·rw[if_neg b];exact⟨fun h=>by omega,fun h=>absurd h a⟩
 refine V.en tbOk Tryz.func213 ?_
 (conv=>whnf)
 refine V.st ?_
 repeat ((try ((with_reducible refine .ext ?_);(conv=>whnf)));(with_reducible refine jaa (r:=?_) ?_ ?_);rotate_left;(focus (first|exact(h1)));(conv=>whnf);refine V.st ?_)
 refine V.br (fun hq=>?_) (fun hq=>?_)
 ·rw[decide_eq_true_eq] at hq
  rw[if_pos (e.1 hq)]
  (conv=>whnf)
  refine V.st ?_
  exact Fin.of rfl
 ·rw[decide_eq_false_iff_not] at hq
  rw[if_neg (fun h=>hq (e.2 h))]
  (conv=>whnf)
  refine V.st ?_
  exact Fin.of rfl
theorem off {p:Go.Program}{f:Nat}{ys:List D}{c:Bool}(hc:c=false):c=true→Called p f ys (.int .i64 0):=fun h=>by rw[hc] at h;cases h
def okP (s t:List UInt8):Bool:=okW s && okW t && decide (0<wval t) && decide (Nat.gcd (wval s).natAbs (wval t).natAbs=1)
def qv (s t:List UInt8):Rat:=Rat.divInt (wval s) (wval t)
theorem jeV {s t:List UInt8}(h:okP s t=true):okW s=true∧okW t=true∧0<wval t∧Nat.gcd (wval s).natAbs (wval t).natAbs=1:=by
 unfold okP at h
 simp only[jiR,decide_eq_true_eq] at h
 exact⟨h.1.1.1,h.1.1.2,h.1.2,h.2⟩
theorem jds {s t:List UInt8}(h:okP s t=true):(qv s t).num=wval s∧(qv s t).den=(wval t).natAbs:=by
 obtain⟨h1,h2,h3,h4⟩:=jeV h
 have e:qv s t=Rat.divInt (wval s) ((wval t).natAbs:Nat):=by unfold qv;congr 1;omega
 rw[e]
 exact jc4 _ _ (by omega) h4
theorem jgj {s t:List UInt8}(h:okP s t=true):Q9 67 (qv s t):=by
 obtain⟨h1,h2,h3,h4⟩:=jeV h
 obtain⟨p1,p2⟩:=jds h
 exact⟨by rw[p1];exact len9 (jcd h1).2,by rw[p2];exact len9 (jcd h2).2⟩
theorem rtD_qv {s t:List UInt8}(h:okP s t=true):rtD (qv s t) = .agg [.ints .u32 (mg 1000000000 (wval s).natAbs),.bool (decide (wval s<0)),.ints .u32 (mg 1000000000 (wval t).natAbs)]:=by
 obtain⟨p1,p2⟩:=jds h
 unfold rtD
 rw[p1,p2]
theorem jby (s t:List UInt8)(h:okP s t=true):Cl 115 [.agg [.str s,.str t]] (.tup [rtD (qv s t),.bool true]):=by
 obtain⟨h1,h2,h3,h4⟩:=jeV h
 have l1:=jcd h1
 have l2:=jcd h2
 have k1:=len9 l1.2
 have k2:=len9 l2.2
 have c1:=jco s (by omega)
 have c2:=jco t (by omega)
 rw[h1,if_pos rfl] at c1
 rw[h2,if_pos rfl] at c2
 have n1:=jcZ s h1
 have n2:=jcZ t h2
 have s1:=sign_c (wval t)
 rw[jjo h3] at s1
 have g1:=gcd_c (wval s).natAbs (wval t).natAbs (by omega) (by omega)
 rw[h4] at g1
 have o1:=jcn 1 1 (by decide) (by decide)
 rw[rtD_qv h]
 refine V.en tbOk Tryz.func115 ?_
 (conv=>whnf)
 refine V.st ?_
 repeat ((try ((with_reducible refine .ext ?_);(conv=>whnf)));(with_reducible refine jaa (r:=?_) ?_ ?_);rotate_left;(focus (first|exact(c1)|exact(c2)));(conv=>whnf);refine V.st ?_)
 refine⟨Pq66z,[],V.pok,?_⟩
 refine jab [(4,.box 4 0),(5,.box 5 0)] [(4,.box [.ints .u32 (mg 1000000000 (wval s).natAbs),.bool (decide (wval s<0))]),(5,.box [.ints .u32 (mg 1000000000 (wval t).natAbs),.bool (decide (wval t<0))])] ?_ ?_
 ·exact V.d2 @jiX n1 n2
 (conv=>whnf)
 refine V.st ?_
 repeat ((try ((with_reducible refine .ext ?_);(conv=>whnf)));(with_reducible refine jaa (r:=?_) ?_ ?_);rotate_left;(focus (first|exact(s1)|exact(g1)|exact(o1)));(conv=>whnf);refine V.st ?_)
 exact Fin.of rfl
theorem read_no (s t:List UInt8)(h:okP s t=false)(hs:s.length≤281474976710656)(ht:t.length≤281474976710656):Cl 115 [.agg [.str s,.str t]] (.tup [.agg [.any,.any,.any],.bool false]):=by
 have c1:=jco s hs
 have c2:=jco t ht
 by_cases h1:okW s=true
 ·rw[h1,if_pos rfl] at c1
  by_cases h2:okW t=true
  ·rw[h2,if_pos rfl] at c2
   have l1:=jcd h1
   have l2:=jcd h2
   have k1:=len9 l1.2
   have k2:=len9 l2.2
   have n1:=jcZ s h1
   have n2:=jcZ t h2
   have s1:=sign_c (wval t)
   have g1:=gcd_c (wval s).natAbs (wval t).natAbs (by omega) (by omega)
   have gl:(mg 1000000000 (Nat.gcd (wval s).natAbs (wval t).natAbs)).length≤67:=by
    rcases ji3 (wval t).natAbs with e|e
    ·rw[e,Nat.gcd_zero_right];exact k1
    ·exact ji2 (jah (by omega) (Nat.gcd_le_right _ e)) k2
   have o1:=jcn (Nat.gcd (wval s).natAbs (wval t).natAbs) 1 (by omega) (by decide)
   unfold okP at h
   rw[h1,h2,Bool.true_and,Bool.true_and] at h
   by_cases hp:0<wval t
   ·rw[decide_eq_true hp,Bool.true_and,decide_eq_false_iff_not] at h
    rw[jjo hp] at s1
    refine V.en tbOk Tryz.func115 ?_
    (conv=>whnf)
    refine V.st ?_
    repeat ((try ((with_reducible refine .ext ?_);(conv=>whnf)));(with_reducible refine jaa (r:=?_) ?_ ?_);rotate_left;(focus (first|exact(c1)|exact(c2)));(conv=>whnf);refine V.st ?_)
    refine⟨Pq66z,[],V.pok,?_⟩
    refine jab [(4,.box 4 0),(5,.box 5 0)] [(4,.box [.ints .u32 (mg 1000000000 (wval s).natAbs),.bool (decide (wval s<0))]),(5,.box [.ints .u32 (mg 1000000000 (wval t).natAbs),.bool (decide (wval t<0))])] ?_ ?_
    ·exact V.d2 @jiX n1 n2
    (conv=>whnf)
    refine V.st ?_
    repeat ((try ((with_reducible refine .ext ?_);(conv=>whnf)));(with_reducible refine jaa (r:=?_) ?_ ?_);rotate_left;(focus (first|exact(s1)|exact(g1)|exact(o1)));(conv=>whnf);refine V.st ?_)
    refine V.br (fun hq=>?_) (fun hq=>?_)
    ·(conv=>whnf)
     refine V.st ?_
     exact Fin.tup ⟨Fin.agg ⟨Fin.any' _,Fin.any' _,Fin.any' _,trivial⟩,Fin.of rfl,trivial⟩
    ·exfalso
     simp only[ji9,decide_eq_false_iff_not,Decidable.not_not] at hq
     apply h
     have h9:=Int.sign_eq_zero_iff_zero.1 hq.2
     omega
   ·have hs1:(wval t).sign=0∨(wval t).sign = -1:=by
     rcases (by omega:wval t=0∨wval t<0) with e|e
     ·rw[e];exact .inl rfl
     ·exact .inr (jjn e)
    rcases hs1 with e|e
    all_goals
     rw[e] at s1
     refine V.en tbOk Tryz.func115 ?_
     (conv=>whnf)
     refine V.st ?_
     repeat ((try ((with_reducible refine .ext ?_);(conv=>whnf)));(with_reducible refine jaa (r:=?_) ?_ ?_);rotate_left;(focus (first|exact(c1)|exact(c2)));(conv=>whnf);refine V.st ?_)
     refine⟨Pq66z,[],V.pok,?_⟩
     refine jab [(4,.box 4 0),(5,.box 5 0)] [(4,.box [.ints .u32 (mg 1000000000 (wval s).natAbs),.bool (decide (wval s<0))]),(5,.box [.ints .u32 (mg 1000000000 (wval t).natAbs),.bool (decide (wval t<0))])] ?_ ?_
     ·exact V.d2 @jiX n1 n2
     (conv=>whnf)
     refine V.st ?_
     repeat ((try ((with_reducible refine .ext ?_);(conv=>whnf)));(with_reducible refine jaa (r:=?_) ?_ ?_);rotate_left;(focus (first|exact(s1)|exact(g1)|exact(o1)));(conv=>whnf);refine V.st ?_)
     refine⟨.int .i64 0,off rfl,?_⟩
     (conv=>whnf)
     refine V.st ?_
     exact Fin.tup ⟨Fin.agg ⟨Fin.any' _,Fin.any' _,Fin.any' _,trivial⟩,Fin.of rfl,trivial⟩
  ·rw[if_neg h2] at c2
   refine V.en tbOk Tryz.func115 ?_
   (conv=>whnf)
   refine V.st ?_
   repeat ((try ((with_reducible refine .ext ?_);(conv=>whnf)));(with_reducible refine jaa (r:=?_) ?_ ?_);rotate_left;(focus (first|exact(c1)|exact(c2)));(conv=>whnf);refine V.st ?_)
   exact Fin.tup ⟨Fin.agg ⟨Fin.any' _,Fin.any' _,Fin.any' _,trivial⟩,Fin.of rfl,trivial⟩
 ·rw[if_neg h1] at c1
  refine V.en tbOk Tryz.func115 ?_
  (conv=>whnf)
  refine V.st ?_
  repeat ((try ((with_reducible refine .ext ?_);(conv=>whnf)));(with_reducible refine jaa (r:=?_) ?_ ?_);rotate_left;(focus (first|exact(c1)|exact(c2)));(conv=>whnf);refine V.st ?_)
  refine V.br (fun hq=>?_) (fun hq=>?_)
  ·(conv=>whnf)
   refine V.st ?_
   exact Fin.tup ⟨Fin.agg ⟨Fin.any' _,Fin.any' _,Fin.any' _,trivial⟩,Fin.of rfl,trivial⟩
  ·simp at hq
theorem fcheck_c (s t:List UInt8)(hs:s.length≤281474976710656)(ht:t.length≤281474976710656):Cl 72 [.agg [.str s,.str t]] (.int .i64 (if okP s t then 0 else 20)):=by
 by_cases h:okP s t=true
 ·have r1:=jby s t h
  rw[h,if_pos rfl]
  refine V.en tbOk Tryz.func72 ?_
  (conv=>whnf)
  refine V.st ?_
  repeat ((try ((with_reducible refine .ext ?_);(conv=>whnf)));(with_reducible refine jaa (r:=?_) ?_ ?_);rotate_left;(focus (first|exact(r1)));(conv=>whnf);refine V.st ?_)
  exact Fin.of rfl
 ·have r1:=read_no s t (by simpa using h) hs ht
  rw[if_neg h]
  refine V.en tbOk Tryz.func72 ?_
  (conv=>whnf)
  refine V.st ?_
  repeat ((try ((with_reducible refine .ext ?_);(conv=>whnf)));(with_reducible refine jaa (r:=?_) ?_ ?_);rotate_left;(focus (first|exact(r1)));(conv=>whnf);refine V.st ?_)
  exact Fin.of rfl
theorem qsize {s t:List UInt8}(h:okP s t=true):Q9 20000000 (qv s t):=(jgj h).mono (by omega)
theorem qordS {s t:List UInt8}(h:okP s t=true):S9 40000000 (qv s t).num∧(mg 1000000000 (qv s t).den).length≤40000000:=⟨(jgj h).1.mono (by omega),ji2 (jgj h).2 (by omega)⟩
theorem fcmp_ok (s t u v:List UInt8)(h:okP s t=true)(g:okP u v=true):Cl 135 [.agg [.str s,.str t],.agg [.str u,.str v]] (.tup [.int .i64 (ordQ (qv s t) (qv u v)),.int .i64 0]):=by
 have r1:=jby s t h
 have r2:=jby u v g
 have o:=jgr (qv s t) (qv u v) (qordS h).1 (qordS g).1 (qordS h).2 (qordS g).2
 have ap:Cl 183 [.agg [.str s,.str t],.agg [.str u,.str v],.fn 184 [] []] (.tup [.int .i64 (ordQ (qv s t) (qv u v)),.int .i64 0]):=by
  refine V.en tbOk Tryz.func183 ?_
  (conv=>whnf)
  refine V.st ?_
  repeat ((try ((with_reducible refine .ext ?_);(conv=>whnf)));(with_reducible refine jaa (r:=?_) ?_ ?_);rotate_left;(focus (first|exact(r1)|exact(r2)|exact(o)));(conv=>whnf);refine V.st ?_)
  exact Fin.of rfl
 refine V.en tbOk Tryz.func135 ?_
 (conv=>whnf)
 refine V.st ?_
 repeat ((try ((with_reducible refine .ext ?_);(conv=>whnf)));(with_reducible refine jaa (r:=?_) ?_ ?_);rotate_left;(focus (first|exact(ap)));(conv=>whnf);refine V.st ?_)
 exact Fin.of rfl
def vb (lo hi:Int):Bool:=decide (-1000000000000000000≤lo) && decide (lo≤hi) && decide (hi≤1000000000000000000)
def bD (r:Int×Int×Int):D := .tup [.agg [.int .i64 r.1,.int .i64 r.2.1],.int .i64 r.2.2]
def mk (lo hi:Int):Int×Int×Int:=if vb lo hi=true then (lo,hi,0) else (0,0,6)
theorem jbJ {lo hi:Int} : vb lo hi=true ↔ -1000000000000000000≤lo∧lo≤hi∧hi≤1000000000000000000:=by
 unfold vb;simp only[jiR,decide_eq_true_eq,and_assoc]
theorem jcE (lo hi:Int):Cl 100 [.int .i64 lo,.int .i64 hi] (.bool (vb lo hi)):=by
 refine V.en tbOk Tryz.func100 ?_
 (conv=>whnf)
 refine V.st ?_
 exact Fin.of rfl
theorem made_b (lo hi:Int):Cl 101 [.int .i64 lo,.int .i64 hi] (bD (mk lo hi)):=by
 have h:=jcE lo hi
 unfold mk
 generalize vb lo hi=v at *
 refine V.en tbOk Tryz.func101 ?_
 (conv=>whnf)
 refine V.st ?_
 repeat ((try ((with_reducible refine .ext ?_);(conv=>whnf)));(with_reducible refine jaa (r:=?_) ?_ ?_);rotate_left;(focus (first|exact(h)));(conv=>whnf);refine V.st ?_)
 refine V.br (fun hq=>?_) (fun hq=>?_)
 ·simp only[Bool.not_eq_true'] at hq
  subst hq
  (conv=>whnf)
  refine V.st ?_
  exact Fin.of rfl
 ·simp only[Bool.not_eq_false'] at hq
  subst hq
  (conv=>whnf)
  refine V.st ?_
  exact Fin.of rfl
theorem ckb3_ok (g:Nat)(p q m n0:Int)(x y e:Int)(n:Nat)(f:Nat→List D)(a c:Nat→Int)(hf:∀ j,j<n→f j=[.int .i64 (a j),.int .i64 (c j)])(hn:n<1000)
  (hv:∀ j,j<n→vb (a j) (c j)=true) (hg:Cl g [.ref [.int .i64 m],.ref [.int .i64 n0],.ref [.int .i64 p,.int .i64 q]] (bD (x,y,e))) :
  Cl 98 [.fn g [] [.ref [.int .i64 m],.ref [.int .i64 n0],.ref [.int .i64 p,.int .i64 q]],.slf 2 n f] (bD (x,y,e)):=by
 refine V.en tbOk Tryz.func98 ?_
 (conv=>whnf)
 refine V.st ?_
 refine jad (0:Nat) (fun k=>k≤n) (fun k=>n-k) (fun k=>[(11,.int .i64 k)]) (fun _=>[]) ?_ ?_ ?_
 ·exact V.wk
 ·exact jiT _
 intro k hk
 have hkc:((k:Int)+1)=((k+1:Nat):Int):=by omega
 have hfk:=hf k
 have hvk:=hv k
 have hvc:=jcE (a k) (c k)
 (conv=>whnf)
 refine V.st ?_
 refine V.br (fun hq=>?_) (fun hq=>?_)
 ·rw[decide_eq_true_eq] at hq
  rw[hvk (by omega)] at hvc
  (conv=>whnf)
  (try simp only[ji0,hfk (by omega),hkc])
  repeat ((first|refine V.s1 ?_);(try simp only[ji0,hfk (by omega),hkc]))
  (conv=>whnf)
  refine And.intro (fun _=>⟨by omega,by omega⟩) ?_
  refine V.r1 hkc hvc ?_
  exact⟨k+1,by omega,by omega,V.wk⟩
 ·rw[decide_eq_false_iff_not] at hq
  (conv=>whnf)
  refine V.st ?_
  repeat ((try ((with_reducible refine .ext ?_);(conv=>whnf)));(with_reducible refine jaa (r:=?_) ?_ ?_);rotate_left;(focus (first|exact(hg)));(conv=>whnf);refine V.st ?_)
  exact Fin.of rfl
theorem ckb3_no (g:Nat)(p q m n0:Int)(x y e:Int)(n:Nat)(f:Nat→List D)(a c:Nat→Int)(hf:∀ j,j<n→f j=[.int .i64 (a j),.int .i64 (c j)])(hn:n<1000)
  (hv:∃ j,j<n∧vb (a j) (c j)=false) :
  Cl 98 [.fn g [] [.ref [.int .i64 m],.ref [.int .i64 n0],.ref [.int .i64 p,.int .i64 q]],.slf 2 n f] (bD (0,0,30)):=by
 refine V.en tbOk Tryz.func98 ?_
 (conv=>whnf)
 refine V.st ?_
 refine jad (0:Nat) (fun k=>k≤n ∧ ∀ j,j<k→vb (a j) (c j)=true) (fun k=>n-k) (fun k=>[(11,.int .i64 k)]) (fun _=>[]) ?_ ?_ ?_
 ·exact V.wk
 ·exact⟨jiT _,fun j hj=>by omega⟩
 intro k hk
 have hkc:((k:Int)+1)=((k+1:Nat):Int):=by omega
 have hfk:=hf k
 have hvc:=jcE (a k) (c k)
 (conv=>whnf)
 refine V.st ?_
 refine V.br (fun hq=>?_) (fun hq=>?_)
 ·rw[decide_eq_true_eq] at hq
  generalize hvv:vb (a k) (c k)=v at *
  (conv=>whnf)
  (try simp only[ji0,hfk (by omega),hkc])
  repeat ((first|refine V.s1 ?_);(try simp only[ji0,hfk (by omega),hkc]))
  (conv=>whnf)
  refine And.intro (fun _=>⟨by omega,by omega⟩) ?_
  refine V.r1 hkc hvc ?_
  refine V.br (fun hz=>?_) (fun hz=>?_)
  ·refine V.r0 hkc ?_
   exact Fin.of rfl
  ·simp only[Bool.not_eq_false'] at hz
   refine V.r0 hkc ?_
   exact⟨k+1,⟨by omega,fun j hj=>by
    rcases ji8 j k with h|h
    ·exact hk.2 j h
    ·rw[show j=k by omega,hvv,hz]⟩,by omega,V.wk⟩
 ·rw[decide_eq_false_iff_not] at hq
  obtain⟨j,hj,hv⟩:=hv
  rw[hk.2 j (by omega)] at hv
  cases hv
theorem ckb4_ok (g:Nat)(p q p2 q2 m:Int)(x y e:Int)(n:Nat)(f:Nat→List D)(a c:Nat→Int)(hf:∀ j,j<n→f j=[.int .i64 (a j),.int .i64 (c j)])(hn:n<1000)
  (hv:∀ j,j<n→vb (a j) (c j)=true) (hg:Cl g [.ref [.int .i64 p,.int .i64 q],.ref [.int .i64 p2,.int .i64 q2],.ref [.int .i64 m]] (bD (x,y,e))) :
  Cl 98 [.fn g [] [.ref [.int .i64 p,.int .i64 q],.ref [.int .i64 p2,.int .i64 q2],.ref [.int .i64 m]],.slf 2 n f] (bD (x,y,e)):=by
 refine V.en tbOk Tryz.func98 ?_
 (conv=>whnf)
 refine V.st ?_
 refine jad (0:Nat) (fun k=>k≤n) (fun k=>n-k) (fun k=>[(11,.int .i64 k)]) (fun _=>[]) ?_ ?_ ?_
 ·exact V.wk
 ·exact jiT _
 intro k hk
 have hkc:((k:Int)+1)=((k+1:Nat):Int):=by omega
 have hfk:=hf k
 have hvk:=hv k
 have hvc:=jcE (a k) (c k)
 (conv=>whnf)
 refine V.st ?_
 refine V.br (fun hq=>?_) (fun hq=>?_)
 ·rw[decide_eq_true_eq] at hq
  rw[hvk (by omega)] at hvc
  (conv=>whnf)
  (try simp only[ji0,hfk (by omega),hkc])
  repeat ((first|refine V.s1 ?_);(try simp only[ji0,hfk (by omega),hkc]))
  (conv=>whnf)
  refine And.intro (fun _=>⟨by omega,by omega⟩) ?_
  refine V.r1 hkc hvc ?_
  exact⟨k+1,by omega,by omega,V.wk⟩
 ·rw[decide_eq_false_iff_not] at hq
  (conv=>whnf)
  refine V.st ?_
  repeat ((try ((with_reducible refine .ext ?_);(conv=>whnf)));(with_reducible refine jaa (r:=?_) ?_ ?_);rotate_left;(focus (first|exact(hg)));(conv=>whnf);refine V.st ?_)
  exact Fin.of rfl
theorem ckb4_no (g:Nat)(p q p2 q2 m:Int)(x y e:Int)(n:Nat)(f:Nat→List D)(a c:Nat→Int)(hf:∀ j,j<n→f j=[.int .i64 (a j),.int .i64 (c j)])(hn:n<1000)
  (hv:∃ j,j<n∧vb (a j) (c j)=false) :
  Cl 98 [.fn g [] [.ref [.int .i64 p,.int .i64 q],.ref [.int .i64 p2,.int .i64 q2],.ref [.int .i64 m]],.slf 2 n f] (bD (0,0,30)):=by
 refine V.en tbOk Tryz.func98 ?_
 (conv=>whnf)
 refine V.st ?_
 refine jad (0:Nat) (fun k=>k≤n ∧ ∀ j,j<k→vb (a j) (c j)=true) (fun k=>n-k) (fun k=>[(11,.int .i64 k)]) (fun _=>[]) ?_ ?_ ?_
 ·exact V.wk
 ·exact⟨jiT _,fun j hj=>by omega⟩
 intro k hk
 have hkc:((k:Int)+1)=((k+1:Nat):Int):=by omega
 have hfk:=hf k
 have hvc:=jcE (a k) (c k)
 (conv=>whnf)
 refine V.st ?_
 refine V.br (fun hq=>?_) (fun hq=>?_)
 ·rw[decide_eq_true_eq] at hq
  generalize hvv:vb (a k) (c k)=v at *
  (conv=>whnf)
  (try simp only[ji0,hfk (by omega),hkc])
  repeat ((first|refine V.s1 ?_);(try simp only[ji0,hfk (by omega),hkc]))
  (conv=>whnf)
  refine And.intro (fun _=>⟨by omega,by omega⟩) ?_
  refine V.r1 hkc hvc ?_
  refine V.br (fun hz=>?_) (fun hz=>?_)
  ·refine V.r0 hkc ?_
   exact Fin.of rfl
  ·simp only[Bool.not_eq_false'] at hz
   refine V.r0 hkc ?_
   exact⟨k+1,⟨by omega,fun j hj=>by
    rcases ji8 j k with h|h
    ·exact hk.2 j h
    ·rw[show j=k by omega,hvv,hz]⟩,by omega,V.wk⟩
 ·rw[decide_eq_false_iff_not] at hq
  obtain⟨j,hj,hv⟩:=hv
  rw[hk.2 j (by omega)] at hv
  cases hv
def bA (p q:Int):D := .agg [.int .i64 p,.int .i64 q]
def l1 (p q:Int):Nat→List D:=fun j=>List.take 2 (List.drop (0+j*2) [.int .i64 p,.int .i64 q])
def l2 (p q p2 q2:Int):Nat→List D:=fun j=>List.take 2 (List.drop (0+j*2) [.int .i64 p,.int .i64 q,.int .i64 p2,.int .i64 q2])
theorem l1_c (p q:Int):∀ j,j<1→l1 p q j=[.int .i64 ((fun _=>p) j),.int .i64 ((fun _=>q) j)]:=fun j hj=>by
 have h0:j=0:=by omega
 subst h0;rfl
def sel_o (x y:Int):Nat→Int:=fun j=>if j=0 then x else y
theorem l2_c (p q p2 q2:Int):∀ j,j<2→l2 p q p2 q2 j=[.int .i64 (sel_o p p2 j),.int .i64 (sel_o q q2 j)]:=fun j hj=>by
 rcases (by omega:j=0∨j=1) with e|e
 ·subst e;rfl
 ·subst e;rfl
theorem sel_ok {p q p2 q2:Int}(h:vb p q=true)(h2:vb p2 q2=true):∀ j,j<2→vb (sel_o p p2 j) (sel_o q q2 j)=true:=fun j hj=>by
 rcases (by omega:j=0∨j=1) with e|e
 ·subst e;exact h
 ·subst e;exact h2
theorem sel_no {p q p2 q2:Int}(h:¬ (vb p q=true∧vb p2 q2=true)):∃ j,j<2∧vb (sel_o p p2 j) (sel_o q q2 j)=false:=by
 by_cases h1:vb p q=true
 ·have h3:¬ vb p2 q2=true:=fun h2=>h ⟨h1,h2⟩
  exact⟨1,by omega,Bool.eq_false_iff.2 h3⟩
 ·exact⟨0,by omega,Bool.eq_false_iff.2 h1⟩
theorem one_no {p q:Int}(h:¬ vb p q=true):∃ j,j<1∧vb ((fun _=>p) j) ((fun _=>q) j)=false:=⟨0,by omega,Bool.eq_false_iff.2 h⟩
def mx:List Int→Int
 | []=>0
 | x::xs=>xs.foldl max x
theorem jfG {op:Int→Int→Int}{x:Int}{xs:List Int}{k:Nat}(h:k<xs.length):(xs.take (k+1)).foldl op x=op ((xs.take k).foldl op x) (xs.getD k 0):=by
 rw[jjS,List.foldl_append,jjr,jju h]
 rfl
theorem jiP:type_of% @List.getD_cons_succ.{0} ∧ type_of% @jjG := ⟨@List.getD_cons_succ.{0},@jjG⟩
theorem minS_c (x:Int)(xs:List Int)(hl:xs.length<1000):Cl 222 [.ints .i64 (x::xs)] (.int .i64 (xs.foldl min x)):=by
 refine V.en tbOk Tryz.func222 ?_
 (conv=>whnf)
 refine V.st ?_
 refine V.br (fun h0=>?_) (fun h0=>?_)
 ·rw[decide_eq_true_eq,jjG] at h0
  omega
 ·refine V.r0 @jjG ?_
  refine jad (0:Nat) (fun k=>k≤xs.length) (fun k=>xs.length-k) (fun k=>[(4,.int .i64 ((k+1:Nat):Int)),(3,.int .i64 ((xs.take k).foldl min x))]) (fun _=>[]) ?_ ?_ ?_
  ·exact V.wk
  ·exact jiT _
  intro k hk
  have hkc:(((k+1:Nat):Int)+1)=((k+1+1:Nat):Int):=by omega
  have hi:((k+1:Nat):Int).toNat=k+1:=by omega
  (conv=>whnf)
  (try simp only[jiP,hkc,hi])
  repeat ((first|refine V.s1 ?_);(try simp only[jiP,hkc,hi]))
  refine V.br (fun hq=>?_) (fun hq=>?_)
  ·rw[decide_eq_true_eq] at hq
   have ht:=jfG (op:=min) (x:=x) (xs:=xs) (k:=k) (by omega)
   (conv=>whnf)
   (try simp only[jiP,hkc,hi])
   repeat ((first|refine V.s1 ?_);(try simp only[jiP,hkc,hi]))
   refine⟨k+1,by omega,by omega,?_⟩
   rw[ht]
   exact V.wk
  ·rw[decide_eq_false_iff_not] at hq
   have hk2:k=xs.length:=by omega
   refine V.r0 (V.a2 hk2 @jjT) ?_
   exact Fin.of rfl
theorem maxS_c (x:Int)(xs:List Int)(hl:xs.length<1000):Cl 223 [.ints .i64 (x::xs)] (.int .i64 (xs.foldl max x)):=by
 refine V.en tbOk Tryz.func223 ?_
 (conv=>whnf)
 refine V.st ?_
 refine V.br (fun h0=>?_) (fun h0=>?_)
 ·rw[decide_eq_true_eq,jjG] at h0
  omega
 ·refine V.r0 @jjG ?_
  refine jad (0:Nat) (fun k=>k≤xs.length) (fun k=>xs.length-k) (fun k=>[(4,.int .i64 ((k+1:Nat):Int)),(3,.int .i64 ((xs.take k).foldl max x))]) (fun _=>[]) ?_ ?_ ?_
  ·exact V.wk
  ·exact jiT _
  intro k hk
  have hkc:(((k+1:Nat):Int)+1)=((k+1+1:Nat):Int):=by omega
  have hi:((k+1:Nat):Int).toNat=k+1:=by omega
  (conv=>whnf)
  (try simp only[jiP,hkc,hi])
  repeat ((first|refine V.s1 ?_);(try simp only[jiP,hkc,hi]))
  refine V.br (fun hq=>?_) (fun hq=>?_)
  ·rw[decide_eq_true_eq] at hq
   have ht:=jfG (op:=max) (x:=x) (xs:=xs) (k:=k) (by omega)
   (conv=>whnf)
   (try simp only[jiP,hkc,hi])
   repeat ((first|refine V.s1 ?_);(try simp only[jiP,hkc,hi]))
   refine⟨k+1,by omega,by omega,?_⟩
   rw[ht]
   exact V.wk
  ·rw[decide_eq_false_iff_not] at hq
   have hk2:k=xs.length:=by omega
   refine V.r0 (V.a2 hk2 @jjT) ?_
   exact Fin.of rfl
theorem least_c (x:Int)(xs:List Int)(hl:xs.length<1000):Cl 195 [.ints .i64 (x::xs)] (.int .i64 (xs.foldl min x)):=by
 have h:=minS_c x xs hl
 refine V.en tbOk Tryz.func195 ?_
 (conv=>whnf)
 refine V.st ?_
 repeat ((try ((with_reducible refine .ext ?_);(conv=>whnf)));(with_reducible refine jaa (r:=?_) ?_ ?_);rotate_left;(focus (first|exact(h)));(conv=>whnf);refine V.st ?_)
 exact Fin.of rfl
theorem greatest_c (x:Int)(xs:List Int)(hl:xs.length<1000):Cl 196 [.ints .i64 (x::xs)] (.int .i64 (xs.foldl max x)):=by
 have h:=maxS_c x xs hl
 refine V.en tbOk Tryz.func196 ?_
 (conv=>whnf)
 refine V.st ?_
 repeat ((try ((with_reducible refine .ext ?_);(conv=>whnf)));(with_reducible refine jaa (r:=?_) ?_ ?_);rotate_left;(focus (first|exact(h)));(conv=>whnf);refine V.st ?_)
 exact Fin.of rfl
theorem of_b (p q:Int):Cl 109 [.int .i64 p,.int .i64 q] (bD (if vb p q=true then (p,q,0) else (0,0,30))):=by
 have h:=jcE p q
 generalize vb p q=v at *
 refine V.en tbOk Tryz.func109 ?_
 (conv=>whnf)
 refine V.st ?_
 repeat ((try ((with_reducible refine .ext ?_);(conv=>whnf)));(with_reducible refine jaa (r:=?_) ?_ ?_);rotate_left;(focus (first|exact(h)));(conv=>whnf);refine V.st ?_)
 refine V.br (fun hq=>?_) (fun hq=>?_)
 ·simp at hq
  subst hq
  (conv=>whnf)
  refine V.st ?_
  exact Fin.of rfl
 ·simp at hq
  subst hq
  (conv=>whnf)
  refine V.st ?_
  exact Fin.of rfl
theorem near_f (s t:List UInt8)(sc:Nat)(h:okP s t=true)(h1:1≤sc)(h2:sc≤1000000000000)(hz : -9223372036854775808≤nearZ (qv s t) sc∧nearZ (qv s t) sc≤9223372036854775807) :
  Cl 61 [.agg [.str s,.str t],.int .i64 sc] (.tup [.int .i64 (nearZ (qv s t) sc),.int .i64 0]):=by
 have r1:=jby s t h
 have q1:=jgj h
 have f1:=jde sc (by omega)
 have lsc:(mg 1000000000 sc).length≤2:=jaz (by omega) (by omega)
 have n1:=near_r (qv s t) sc (q1.1.mono (by omega)) (ji2 q1.2 (by omega)) (by omega)
 clear q1
 generalize nearZ (qv s t) sc=z at *
 have lz:(mg 1000000000 z.natAbs).length≤3:=jaz (by omega) (by omega)
 have x1:=jhS z (by omega)
 have i1:=int_c z hz.1 hz.2
 clear lz lsc
 unfold rtD at *
 refine V.en tbOk Tryz.func61 ?_
 (conv=>whnf)
 refine V.st ?_
 repeat ((try ((with_reducible refine .ext ?_);(conv=>whnf)));(with_reducible refine jaa (r:=?_) ?_ ?_);rotate_left;(focus (first|exact(r1)));(conv=>whnf);refine V.st ?_)
 refine V.br (fun g1=>?_) (fun g1=>?_)
 ·simp at g1
  omega
 ·(conv=>whnf)
  refine V.st ?_
  refine⟨(V.tk [0,1,2] (V.e1 3 [0] (V.e1 4 [] (V.e1 5 [] (V.e1 6 [] (V.tk [7,8,9,10,11] .done)))))),[],V.pok,.go (jac ?_)⟩
  (conv=>whnf)
  refine V.st ?_
  repeat ((try ((with_reducible refine .ext ?_);(conv=>whnf)));(with_reducible refine jaa (r:=?_) ?_ ?_);rotate_left;(focus (first|exact(f1)|exact(n1)|exact(x1)|exact(i1)));(conv=>whnf);refine V.st ?_)
  exact Fin.of rfl
theorem okP_dec_o {q:Rat}(h:okF q=true):okP (decZ q.num) (dec q.den)=true∧qv (decZ q.num) (dec q.den)=q:=by
 unfold okF at h
 simp only[jiR,decide_eq_true_eq] at h
 have hdz:dec q.den=decZ (q.den:Int):=by unfold decZ;rw[if_neg (by omega),jjf]
 have w1:wval (decZ q.num)=q.num:=jba _
 have w2:wval (dec q.den)=(q.den:Int):=by rw[hdz];exact jba _
 have o1:=jbN q.num h.1
 have o2:okW (dec q.den)=true:=by rw[hdz];exact jbN _ (by rw[jjf];exact h.2)
 have hp:=q.den_pos
 constructor
 ·unfold okP
  rw[o1,o2,w1,w2]
  simp only[jiR,decide_eq_true_eq,Bool.true_and,jjf]
  exact⟨by omega,q.reduced⟩
 ·unfold qv
  rw[w1,w2]
  exact jjp q
theorem okF_small {q:Rat}(h1:q.num.natAbs<10^20)(h2:q.den<10^20):okF q=true:=by
 unfold okF
 simp only[jiR,decide_eq_true_eq]
 exact⟨ji2 (ja2 20 _ (by omega) h1).1 (by omega),ji2 (ja2 20 _ (by omega) h2).1 (by omega)⟩
theorem jfh (n:Int)(d:Nat)(hd:0<d):(Rat.divInt n d).num.natAbs≤n.natAbs∧(Rat.divInt n d).den≤d:=by
 obtain⟨h1,_,h3⟩:=jcT n d hd
 rw[h1,h3]
 exact⟨jjh _ _,jjh _ _⟩
theorem okF_unit (n:Int)(h : -9223372036854775808≤n∧n≤9223372036854775807):okF (Rat.divInt n 1000000000000)=true:=by
 have:=jfh n 1000000000000 (by omega)
 have e:Rat.divInt n 1000000000000=Rat.divInt n ((1000000000000:Nat):Int):=rfl
 rw[e]
 refine okF_small ?_ ?_
 ·exact Nat.lt_of_le_of_lt this.1 (by omega)
 ·exact Nat.lt_of_le_of_lt this.2 (by omega)
def unit (n:Int):Rat:=Rat.divInt n 1000000000000
theorem of_unit (n:Int)(h : -9223372036854775808≤n∧n≤9223372036854775807):Cl 102 [.int .i64 n,.int .i64 1000000000000] (.tup [.agg [.str (decZ (unit n).num),.str (dec (unit n).den)],.int .i64 0]):=by
 have h1:=of_c n 1000000000000 (by simp only[InR,V.lo,V.hi];omega) (by constructor<;>decide) (by decide)
 have h2:=okF_unit n h
 unfold frR at h1
 rw[h2] at h1
 exact h1
def jdh (x:Rat):Int×Int×Int:=if vb (nearZ x 1000000000000) (nearZ x 1000000000000)=true then mk (nearZ x 1000000000000+min (ordQ x (unit (nearZ x 1000000000000))) 0) (nearZ x 1000000000000+max (ordQ x (unit (nearZ x 1000000000000))) 0) else (0,0,6)
theorem ordQ_r (x y:Rat) : -1≤ordQ x y∧ordQ x y≤1:=by
 unfold ordQ;split
 ·omega
 ·split<;>omega
theorem around_b (s t:List UInt8)(h:okP s t=true)(hz : -9223372036854775808≤nearZ (qv s t) 1000000000000∧nearZ (qv s t) 1000000000000≤9223372036854775807) :
  Cl 107 [.agg [.str s,.str t]] (bD (jdh (qv s t))):=by
 have n1:=near_f s t 1000000000000 h (by omega) (by omega) hz
 unfold jdh
 generalize nearZ (qv s t) 1000000000000=n at *
 have o1:=of_unit n hz
 obtain⟨p1,p2⟩:=okP_dec_o (okF_unit n hz)
 have c1:=fcmp_ok s t (decZ (unit n).num) (dec (unit n).den) h p1
 rw[show qv (decZ (unit n).num) (dec (unit n).den)=unit n from p2] at c1
 have hr:=ordQ_r (qv s t) (unit n)
 generalize ordQ (qv s t) (unit n)=o at *
 generalize decZ (unit n).num=u at *
 generalize dec (unit n).den=v at *
 clear p1 p2 h
 have v1:=jcE n n
 have m1:=made_b (n+min o 0) (n+max o 0)
 by_cases hv:vb n n=true
 ·rw[if_pos hv]
  rw[hv] at v1
  have hb:=jbJ.1 hv
  generalize mk (n+min o 0) (n+max o 0)=r at *
  refine V.en tbOk Tryz.func107 ?_
  (conv=>whnf)
  refine V.st ?_
  repeat ((try ((with_reducible refine .ext ?_);(conv=>whnf)));(with_reducible refine jaa (r:=?_) ?_ ?_);rotate_left;(focus (first|exact(n1)|exact(o1)|exact(c1)|exact(v1)|exact(m1)));(conv=>whnf);refine V.st ?_)
  exact Fin.of rfl
 ·rw[if_neg hv]
  rw[Bool.eq_false_iff.2 hv] at v1
  refine V.en tbOk Tryz.func107 ?_
  (conv=>whnf)
  refine V.st ?_
  repeat ((try ((with_reducible refine .ext ?_);(conv=>whnf)));(with_reducible refine jaa (r:=?_) ?_ ?_);rotate_left;(focus (first|exact(n1)|exact(o1)|exact(c1)|exact(v1)));(conv=>whnf);refine V.st ?_)
  exact Fin.of rfl
def lw (a b c d:Int):Nat→List Int
 | 0=>[0,0,0,0]
 | 1=>[a,0,0,0]
 | 2=>[a,b,0,0]
 | 3=>[a,b,c,0]
 | _=>[a,b,c,d]
end Go.Proofs.YtbnghipgicmpdaaGreatDoor
end
section
namespace Go.Nb
structure Tr (B top v2 head u2:Int):Prop where
 hB:2≤B
 t1:1≤top
 tB:top<B
 v0:0≤v2
 vB:v2<B
 u0:0≤u2
 uB:u2<B
 h0:0≤head
 lt:head*B+u2<B*(top*B+v2)
section
variable {B top v2 head u2 : Int}
theorem Tr.kn (T:Tr B top v2 head u2):Kn B top v2 0 u2 0 head (head*B+u2) (top*B+v2) 1:=
 { hB:=T.hB,hP:=by omega,ht:=T.t1,hv:=by omega,hu:=by omega,v20:=T.v0,v2B:=T.vB,u20:=T.u0,u2B:=T.uB,vr0:=by omega,vrP:=by omega,ur0:=by omega,urP:=by omega,hh:=T.h0,htB:=T.tB,lt:=T.lt }
theorem Tr.vpos (T:Tr B top v2 head u2):0<top*B+v2:=T.kn.vpos
theorem Tr.qnn (T:Tr B top v2 head u2):0≤(head*B+u2)/(top*B+v2):=by
 have h1:0≤head*B:=jiW T.h0 (by have:=T.hB;omega)
 exact Int.ediv_nonneg (by have:=T.u0;omega) (by have:=T.vpos;omega)
theorem Tr.qmul (T:Tr B top v2 head u2):(head*B+u2)/(top*B+v2)*(top*B+v2)≤head*B+u2:=Int.ediv_mul_le _ (by have:=T.vpos;omega)
theorem Tr.init (T:Tr B top v2 head u2):(head*B+u2)/(top*B+v2)≤head/top:=T.kn.init T.qnn T.qmul
theorem Tr.step (T:Tr B top v2 head u2){q r:Int}(hq:(head*B+u2)/(top*B+v2)≤q)(hr:head=q*top+r)(hc:B≤q∨r*B+u2<q*v2) :
  (head*B+u2)/(top*B+v2)≤q-1∧head=(q-1)*top+(r+top):=
 ⟨T.kn.step T.qnn T.qmul hq hr hc,by rw[Int.sub_mul,jjm];omega⟩
theorem Tr.fin (T:Tr B top v2 head u2){q:Int}(hq:(head*B+u2)/(top*B+v2)≤q)(h:q*(top*B+v2)≤head*B+u2):q=(head*B+u2)/(top*B+v2):=by
 have:=(Int.le_ediv_iff_mul_le T.vpos).2 h
 omega
theorem Tr.lt' (T:Tr B top v2 head u2):(head*B+u2)/(top*B+v2)<B:=T.kn.qlt T.qmul
end
structure Tq (B top v2 head u2 Q:Int):Prop where
 T:Tr B top v2 head u2
 e:(head*B+u2)/(top*B+v2)=Q
section
variable {B top v2 head u2 Q : Int}
theorem Tq.init (T:Tq B top v2 head u2 Q):Q≤head/top:=by rw[← T.e];exact T.T.init
theorem Tq.step (T:Tq B top v2 head u2 Q){q r:Int}(hq:Q≤q)(hr:head=q*top+r)(hc:B≤q∨r*B+u2<q*v2):Q≤q-1∧head=(q-1)*top+(r+top):=by
 rw[← T.e] at hq ⊢; exact T.T.step hq hr hc
theorem Tq.lt (T:Tq B top v2 head u2 Q):Q<B:=by rw[← T.e];exact T.T.lt'
end
end Go.Nb
end
section
namespace Go.Proofs.YtbnghipgicmpdaaGreatDoor
open Go Go.V Go.Nb
theorem clamp_b (p q lo hi:Int):Cl 50 [bA p q,.int .i64 lo,.int .i64 hi] (bD (if vb p q=true then (if vb lo hi=true then mk (min (max p lo) hi) (min (max q lo) hi) else (0,0,2)) else (0,0,30))):=by
 by_cases hv:vb p q=true
 ·rw[if_pos hv]
  have hc:Cl 99 [.ref [.int .i64 lo],.ref [.int .i64 hi],.ref [.int .i64 p,.int .i64 q]] (bD (if vb lo hi=true then mk (min (max p lo) hi) (min (max q lo) hi) else (0,0,2))):=by
   have hvl:=jcE lo hi
   have hm:=made_b (min (max p lo) hi) (min (max q lo) hi)
   generalize vb lo hi=v at *
   generalize mk (min (max p lo) hi) (min (max q lo) hi)=r at *
   refine V.en tbOk Tryz.func99 ?_
   (conv=>whnf)
   refine V.st ?_
   repeat ((try ((with_reducible refine .ext ?_);(conv=>whnf)));(with_reducible refine jaa (r:=?_) ?_ ?_);rotate_left;(focus (first|exact(hvl)));(conv=>whnf);refine V.st ?_)
   refine V.br (fun hq=>?_) (fun hq=>?_)
   ·simp at hq
    subst hq
    (conv=>whnf)
    refine V.st ?_
    exact Fin.of rfl
   ·simp at hq
    subst hq
    (conv=>whnf)
    refine V.st ?_
    repeat ((try ((with_reducible refine .ext ?_);(conv=>whnf)));(with_reducible refine jaa (r:=?_) ?_ ?_);rotate_left;(focus (first|exact(hm)));(conv=>whnf);refine V.st ?_)
    exact Fin.of rfl
  generalize (if vb lo hi=true then mk (min (max p lo) hi) (min (max q lo) hi) else (0,0,2))=r at *
  have hk:=ckb3_ok 99 p q lo hi r.1 r.2.1 r.2.2 1 (l1 p q) (fun _=>p) (fun _=>q) (l1_c p q) (by omega) (fun _ _=>hv) hc
  refine V.en tbOk Tryz.func50 ?_
  (conv=>whnf)
  refine V.st ?_
  repeat ((try ((with_reducible refine .ext ?_);(conv=>whnf)));(with_reducible refine jaa (r:=?_) ?_ ?_);rotate_left;(focus (first|exact(hk)));(conv=>whnf);refine V.st ?_)
  exact Fin.of rfl
 ·rw[if_neg hv]
  have hk:=ckb3_no 99 p q lo hi 0 0 0 1 (l1 p q) (fun _=>p) (fun _=>q) (l1_c p q) (by omega) (one_no hv)
  refine V.en tbOk Tryz.func50 ?_
  (conv=>whnf)
  refine V.st ?_
  repeat ((try ((with_reducible refine .ext ?_);(conv=>whnf)));(with_reducible refine jaa (r:=?_) ?_ ?_);rotate_left;(focus (first|exact(hk)));(conv=>whnf);refine V.st ?_)
  exact Fin.of rfl
theorem hull_b (p q p2 q2:Int):Cl 108 [bA p q,bA p2 q2] (bD (if vb p q=true∧vb p2 q2=true then (if p=p2∧q=q2 then (p,q,0) else if max q q2<min p p2 then (0,0,4) else (min p p2,max q q2,0)) else (0,0,30))):=by
 have ch:Cl 156 [.int .i64 2,bA p q,bA p2 q2] (bD (if vb p q=true∧vb p2 q2=true then (if p=p2∧q=q2 then (p,q,0) else if max q q2<min p p2 then (0,0,4) else (min p p2,max q q2,0)) else (0,0,30))):=by
  by_cases hv:vb p q=true∧vb p2 q2=true
  ·rw[if_pos hv]
   have hc:Cl 194 [.ref [.int .i64 p,.int .i64 q],.ref [.int .i64 p2,.int .i64 q2],.ref [.int .i64 2]] (bD (if p=p2∧q=q2 then (p,q,0) else if max q q2<min p p2 then (0,0,4) else (min p p2,max q q2,0))):=by
    have k1:=least_c p [p2] (by simp)
    have k2:=greatest_c q [q2] (by simp)
    rw[show [p2].foldl min p=min p p2 from rfl] at k1
    rw[show [q2].foldl max q=max q q2 from rfl] at k2
    generalize min p p2=lo at *
    generalize max q q2=hi at *
    refine V.en tbOk Tryz.func194 ?_
    (conv=>whnf)
    refine V.st ?_
    refine V.br (fun h1=>?_) (fun h1=>?_)
    ·simp only[Bool.and_true,jiR,decide_eq_true_eq] at h1
     rw[if_pos h1]
     (conv=>whnf)
     refine V.st ?_
     exact Fin.of rfl
    ·rw[if_neg (fun h=>by simp only[Bool.and_true,Bool.and_eq_false_iff,decide_eq_false_iff_not] at h1;omega)]
     (conv=>whnf)
     refine V.st ?_
     refine⟨(V.tk [0,1,2,3,4,5,8,9,10,11,12,13] (.ev (.cons 6 [13,12,11,10,9,8,1,0] (.ev (.cons 7 [13,12,11,10,9,8] (V.e1 14 [9,8] (V.e1 15 [] (V.tk [16,17] .done))) (.cons 14 [9,8,1,0] (V.e1 7 [9,8] (V.e1 15 [] (V.tk [16,17] .done))) .nil))) (.cons 14 [9,8,5,4,3,2,1,0] (V.e1 6 [9,8,1,0] (V.e1 7 [9,8] (V.e1 15 [] (V.tk [16,17] .done)))) .nil)))),[],V.pok,?_⟩
     refine jab [(7,.int .i64 lo),(8,.int .i64 hi)] [] ?_ ?_
     ·exact V.d2 @jiX k1 k2
     (conv=>whnf)
     refine V.st ?_
     refine V.br (fun h2=>?_) (fun h2=>?_)
     ·rw[decide_eq_true_eq] at h2
      rw[if_pos h2]
      (conv=>whnf)
      refine V.st ?_
      exact Fin.of rfl
     ·rw[decide_eq_false_iff_not] at h2
      rw[if_neg h2]
      (conv=>whnf)
      refine V.st ?_
      exact Fin.of rfl
   generalize (if p=p2∧q=q2 then (p,q,(0:Int)) else if max q q2<min p p2 then (0,0,4) else (min p p2,max q q2,0))=r at *
   have hk:=ckb4_ok 194 p q p2 q2 2 r.1 r.2.1 r.2.2 2 (l2 p q p2 q2) (sel_o p p2) (sel_o q q2) (l2_c p q p2 q2) (by omega) (sel_ok hv.1 hv.2) hc
   refine V.en tbOk Tryz.func156 ?_
   (conv=>whnf)
   refine V.st ?_
   repeat ((try ((with_reducible refine .ext ?_);(conv=>whnf)));(with_reducible refine jaa (r:=?_) ?_ ?_);rotate_left;(focus (first|exact(hk)));(conv=>whnf);refine V.st ?_)
   exact Fin.of rfl
  ·rw[if_neg hv]
   have hk:=ckb4_no 194 p q p2 q2 2 0 0 0 2 (l2 p q p2 q2) (sel_o p p2) (sel_o q q2) (l2_c p q p2 q2) (by omega) (sel_no hv)
   refine V.en tbOk Tryz.func156 ?_
   (conv=>whnf)
   refine V.st ?_
   repeat ((try ((with_reducible refine .ext ?_);(conv=>whnf)));(with_reducible refine jaa (r:=?_) ?_ ?_);rotate_left;(focus (first|exact(hk)));(conv=>whnf);refine V.st ?_)
   exact Fin.of rfl
 generalize (if vb p q=true∧vb p2 q2=true then (if p=p2∧q=q2 then (p,q,(0:Int)) else if max q q2<min p p2 then (0,0,4) else (min p p2,max q q2,0)) else (0,0,30))=r at *
 refine V.en tbOk Tryz.func108 ?_
 (conv=>whnf)
 refine V.st ?_
 repeat ((try ((with_reducible refine .ext ?_);(conv=>whnf)));(with_reducible refine jaa (r:=?_) ?_ ?_);rotate_left;(focus (first|exact(ch)));(conv=>whnf);refine V.st ?_)
 exact Fin.of rfl
theorem mk_ok {p q:Int}(h : -1000000000000000000≤p∧p≤q∧q≤1000000000000000000):mk p q=(p,q,0):=by
 unfold mk;rw[if_pos (jbJ.2 h)]
end Go.Proofs.YtbnghipgicmpdaaGreatDoor
end
section
namespace Go.Proofs.YtbnghipgicmpdaaGreatDoor
open Go Go.V Go.Nb Go.RowKit
theorem okWide_one {P : Program} {w : World} {r : Reach} {base : Nat} {t : TypeId} {v : Value} (ht : (match P.underlying t with | some (.struct _) => false | some (.array _ _) => false | _ => true) = true) (h : Value.okWide P w r base t v) : v.cells.toList = [v] := by
  unfold Value.okWide at h
  split at h
  · rename_i e
    rw [e] at ht
    cases ht
  · rename_i e
    rw [e] at ht
    cases ht
  · cases v <;> first | rfl | skip
    exfalso
    unfold Cell.okWide at h
    split at h
    all_goals first
      | (rename_i h1; simp at h1; done)
      | skip
    unfold Cell.ok at h
    split at h <;> simp_all
theorem glW_of_tab {w:World}(h:Lib.TabIs Tryz.prog w "internal/strconv.uint64pow10" .u64 Lib.pow10Tab){tp:TypeId}{p:Value}(h2:w.var? Tryz.prog "strconv.ErrRange" = some #[.iface tp p]):GlW w:=by
 refine⟨?_,?_⟩
 rotate_left
 ·intro g hg
  simp only[glbE,jjt,List.not_mem_nil,or_false] at hg
  subst hg
  unfold World.var? at h2
  have hn:Tryz.prog.globalNamed "strconv.ErrRange" = some 1:=by kernel_rfl
  rw[hn] at h2
  simp only[Option.bind_some] at h2
  split at h2
  ·rename_i cs T f he
   cases h2
   exact⟨tp,p,T,f,he⟩
  ·cases h2
 intro g vs hg
 simp only[glb,jjt,List.not_mem_nil,or_false,Prod.mk.injEq] at hg
 obtain⟨rfl,rfl⟩:=hg
 refine⟨by simp,?_⟩
 unfold Lib.TabIs World.var? at h
 have hg:Tryz.prog.globalNamed "internal/strconv.uint64pow10" = some 2:=by kernel_rfl
 rw[hg] at h
 simp only[Option.bind_some] at h
 split at h
 ·rename_i cs T f he
  cases h
  exact⟨T,f,he⟩
 ·cases h
def gdraftL:List Lf:=[.ints .u8,.int .u8,.ints .u16,.bool]
theorem gdraft_den {w:World}{cs:Array Value}(h:leavesOk w gdraftL cs.toList):∃ ds o vals sm,Den Env.dummy (pubOf w) (.agg [.ints .u8 ds,.int .u8 o,.ints .u16 vals,.bool sm]) (.agg cs) ∧
  (∀ v∈ds,0≤v∧v≤255)∧ds.length≤281474976710656∧(0≤o∧o≤255)∧(∀ v∈vals,0≤v∧v≤65535)∧vals.length≤281474976710656:=by
 obtain⟨v0,r0,e0,⟨ds,h0⟩,v1,r1,e1,⟨o,h1,h1'⟩,v2,r2,e2,⟨vals,h2⟩,v3,r3,e3,⟨sm,h3⟩,e4⟩:=h
 subst e4 e3 e2 e1
 obtain rfl:cs = #[v0,v1,v2,v3]:=by cases cs;simp_all
 subst h1 h3
 have g0:=h0
 have g2:=h2
 obtain⟨a0,c0,x0,_,y0,z0,_⟩:=g0
 obtain⟨a2,c2,x2,_,y2,z2,_⟩:=g2
 refine⟨ds,o,vals,sm,⟨[v0,.int .u8 o,v2,.bool sm],rfl,⟨v0,_,rfl,h0,_,_,rfl,⟨rfl,h1'⟩,_,_,rfl,h2,_,_,rfl,rfl,rfl⟩,?_⟩,?_,y0,?_,?_,y2⟩
 ·subst x0 x2
  intro v hv
  simp only[jjt,List.not_mem_nil,or_false] at hv
  rcases hv with rfl|rfl|rfl|rfl<;>rfl
 ·intro v hv
  simpa [InR,V.lo,V.hi] using z0 v hv
 ·simpa [InR,V.lo,V.hi] using h1'
 ·intro v hv
  simpa [InR,V.lo,V.hi] using z2 v hv
def colorL:List Lf:=[.int .i16,.int .i16,.int .i16,.int .i16,.bool,.ints .u16,.int .u16,.bool,.ints .u16,.int .u16,.bool,.ints .u16,.int .u16,.bool,.ints .u16,.int .u16,.bool,.ints .u16,.int .u16,.bool,.ints .u16,.int .u16,.bool,.ints .u16,.int .u16,.bool,.ints .u16,.int .u16]
theorem color_den {w:World}{cs:Array Value}(h:leavesOk w colorL cs.toList):∃ a0 a1 a2 a3 b0 p0 z0 c0 q0 y0 b1 p1 z1 c1 q1 y1 b2 p2 z2 c2 q2 y2 b3 p3 z3 c3 q3 y3,Den Env.dummy (pubOf w) (.agg [.int .i16 a0,.int .i16 a1,.int .i16 a2,.int .i16 a3,.bool b0,.ints .u16 p0,.int .u16 z0,.bool c0,.ints .u16 q0,.int .u16 y0,.bool b1,.ints .u16 p1,.int .u16 z1,.bool c1,.ints .u16 q1,.int .u16 y1,.bool b2,.ints .u16 p2,.int .u16 z2,.bool c2,.ints .u16 q2,.int .u16 y2,.bool b3,.ints .u16 p3,.int .u16 z3,.bool c3,.ints .u16 q3,.int .u16 y3]) (.agg cs) ∧
  (-32768≤a0∧a0≤32767)∧(-32768≤a1∧a1≤32767)∧(-32768≤a2∧a2≤32767)∧(-32768≤a3∧a3≤32767)∧(0≤z0∧z0≤65535)∧(0≤y0∧y0≤65535)∧(0≤z1∧z1≤65535)∧(0≤y1∧y1≤65535)∧(0≤z2∧z2≤65535)∧(0≤y2∧y2≤65535)∧(0≤z3∧z3≤65535)∧(0≤y3∧y3≤65535):=by
 obtain⟨v0,r0,e0,⟨a0,h0,g0⟩,v1,r1,e1,⟨a1,h1,g1⟩,v2,r2,e2,⟨a2,h2,g2⟩,v3,r3,e3,⟨a3,h3,g3⟩,v4,r4,e4,⟨b0,h4⟩,v5,r5,e5,⟨p0,h5⟩,v6,r6,e6,⟨z0,h6,g6⟩,v7,r7,e7,⟨c0,h7⟩,v8,r8,e8,⟨q0,h8⟩,v9,r9,e9,⟨y0,h9,g9⟩,v10,r10,e10,⟨b1,h10⟩,v11,r11,e11,⟨p1,h11⟩,v12,r12,e12,⟨z1,h12,g12⟩,v13,r13,e13,⟨c1,h13⟩,v14,r14,e14,⟨q1,h14⟩,v15,r15,e15,⟨y1,h15,g15⟩,v16,r16,e16,⟨b2,h16⟩,v17,r17,e17,⟨p2,h17⟩,v18,r18,e18,⟨z2,h18,g18⟩,v19,r19,e19,⟨c2,h19⟩,v20,r20,e20,⟨q2,h20⟩,v21,r21,e21,⟨y2,h21,g21⟩,v22,r22,e22,⟨b3,h22⟩,v23,r23,e23,⟨p3,h23⟩,v24,r24,e24,⟨z3,h24,g24⟩,v25,r25,e25,⟨c3,h25⟩,v26,r26,e26,⟨q3,h26⟩,v27,r27,e27,⟨y3,h27,g27⟩,e28⟩:=h
 subst e28 e27 e26 e25 e24 e23 e22 e21 e20 e19 e18 e17 e16 e15 e14 e13 e12 e11 e10 e9 e8 e7 e6 e5 e4 e3 e2 e1
 obtain rfl:cs = #[v0,v1,v2,v3,v4,v5,v6,v7,v8,v9,v10,v11,v12,v13,v14,v15,v16,v17,v18,v19,v20,v21,v22,v23,v24,v25,v26,v27]:=by cases cs;simp_all
 subst h0 h1 h2 h3 h4 h6 h7 h9 h10 h12 h13 h15 h16 h18 h19 h21 h22 h24 h25 h27
 have i5:=h5
 have i8:=h8
 have i11:=h11
 have i14:=h14
 have i17:=h17
 have i20:=h20
 have i23:=h23
 have i26:=h26
 obtain⟨_,_,x5,_⟩:=i5
 obtain⟨_,_,x8,_⟩:=i8
 obtain⟨_,_,x11,_⟩:=i11
 obtain⟨_,_,x14,_⟩:=i14
 obtain⟨_,_,x17,_⟩:=i17
 obtain⟨_,_,x20,_⟩:=i20
 obtain⟨_,_,x23,_⟩:=i23
 obtain⟨_,_,x26,_⟩:=i26
 refine⟨a0,a1,a2,a3,b0,p0,z0,c0,q0,y0,b1,p1,z1,c1,q1,y1,b2,p2,z2,c2,q2,y2,b3,p3,z3,c3,q3,y3,⟨[.int .i16 a0,.int .i16 a1,.int .i16 a2,.int .i16 a3,.bool b0,v5,.int .u16 z0,.bool c0,v8,.int .u16 y0,.bool b1,v11,.int .u16 z1,.bool c1,v14,.int .u16 y1,.bool b2,v17,.int .u16 z2,.bool c2,v20,.int .u16 y2,.bool b3,v23,.int .u16 z3,.bool c3,v26,.int .u16 y3],rfl,⟨_,_,rfl,⟨rfl,g0⟩,_,_,rfl,⟨rfl,g1⟩,_,_,rfl,⟨rfl,g2⟩,_,_,rfl,⟨rfl,g3⟩,_,_,rfl,rfl,v5,_,rfl,h5,_,_,rfl,⟨rfl,g6⟩,_,_,rfl,rfl,v8,_,rfl,h8,_,_,rfl,⟨rfl,g9⟩,_,_,rfl,rfl,v11,_,rfl,h11,_,_,rfl,⟨rfl,g12⟩,_,_,rfl,rfl,v14,_,rfl,h14,_,_,rfl,⟨rfl,g15⟩,_,_,rfl,rfl,v17,_,rfl,h17,_,_,rfl,⟨rfl,g18⟩,_,_,rfl,rfl,v20,_,rfl,h20,_,_,rfl,⟨rfl,g21⟩,_,_,rfl,rfl,v23,_,rfl,h23,_,_,rfl,⟨rfl,g24⟩,_,_,rfl,rfl,v26,_,rfl,h26,_,_,rfl,⟨rfl,g27⟩,rfl⟩,?_⟩,by simpa [InR,V.lo,V.hi] using g0,by simpa [InR,V.lo,V.hi] using g1,by simpa [InR,V.lo,V.hi] using g2,by simpa [InR,V.lo,V.hi] using g3,by simpa [InR,V.lo,V.hi] using g6,by simpa [InR,V.lo,V.hi] using g9,by simpa [InR,V.lo,V.hi] using g12,by simpa [InR,V.lo,V.hi] using g15,by simpa [InR,V.lo,V.hi] using g18,by simpa [InR,V.lo,V.hi] using g21,by simpa [InR,V.lo,V.hi] using g24,by simpa [InR,V.lo,V.hi] using g27⟩
 subst x5 x8 x11 x14 x17 x20 x23 x26
 intro v hv
 simp only[jjt,List.not_mem_nil,or_false] at hv
 rcases hv with rfl|rfl|rfl|rfl|rfl|rfl|rfl|rfl|rfl|rfl|rfl|rfl|rfl|rfl|rfl|rfl|rfl|rfl|rfl|rfl|rfl|rfl|rfl|rfl|rfl|rfl|rfl|rfl<;>rfl
def s4 {α:Type}(a b c d:α):Nat→α
 | 0=>a
 | 1=>b
 | 2=>c
 | _=>d
theorem s4_all {α:Type}{p:α→Prop}{a b c d:α}(ha:p a)(hb:p b)(hc:p c)(hd:p d):∀ i,p (s4 a b c d i)
 | 0=>ha
 | 1=>hb
 | 2=>hc
 | _+3=>hd
theorem color_fn {w:World}{cs:Array Value}(h:leavesOk w colorL cs.toList):∃ (at' z1 z2:Nat→Int) (b1 b2:Nat→Bool) (p1 p2:Nat→List Int),Den Env.dummy (pubOf w) ((colD at' z1 z2 b1 b2 p1 p2)) (.agg cs) ∧
  (∀ i, -32768≤at' i∧at' i≤32767)∧(∀ i,0≤z1 i∧z1 i≤65535)∧(∀ i,0≤z2 i∧z2 i≤65535):=by
 obtain⟨a0,a1,a2,a3,b0,p0,z0,c0,q0,y0,b1,p1,z1,c1,q1,y1,b2,p2,z2,c2,q2,y2,b3,p3,z3,c3,q3,y3,dn,k0,k1,k2,k3,m0,n0,m1,n1,m2,n2,m3,n3⟩:=color_den h
 exact⟨s4 a0 a1 a2 a3,s4 z0 z1 z2 z3,s4 y0 y1 y2 y3,s4 b0 b1 b2 b3,s4 c0 c1 c2 c3,s4 p0 p1 p2 p3,s4 q0 q1 q2 q3,dn,s4_all (p:=fun v => -32768≤v∧v≤32767) k0 k1 k2 k3,s4_all (p:=fun v=>0≤v∧v≤65535) m0 m1 m2 m3,s4_all (p:=fun v=>0≤v∧v≤65535) n0 n1 n2 n3⟩
def u8L:List Lf:=[.int .u8]
theorem u8_den {w:World}{v:Value}(h:leavesOk w u8L [v]):∃ n,Den Env.dummy (pubOf w) (.int .u8 n) v∧(0≤n∧n≤255):=by
 obtain⟨v0,r0,e0,⟨n,h0,h0'⟩,e1⟩:=h
 subst e1
 simp only[List.cons.injEq,and_true] at e0
 subst e0 h0
 exact⟨n,⟨rfl,h0'⟩,by simpa [InR,V.lo,V.hi] using h0'⟩
end Go.Proofs.YtbnghipgicmpdaaGreatDoor
end
section
namespace Go.Proofs.YtbnghipgicmpdaaGreatDoor
open Go Go.V Go.Nb
def Fq (n:Nat)(q:Rat):Prop:=q.num.natAbs<10^n∧q.den<10^n
theorem Fq.mono {m n:Nat}{q:Rat}(h:Fq m q)(hl:m≤n):Fq n q:=
 ⟨ji7 h.1 (jjg (by decide) hl),ji7 h.2 (jjg (by decide) hl)⟩
theorem Fq.ok {n:Nat}{q:Rat}(h:Fq n q)(h0:0<n)(h6:n≤600):okF q=true:=by
 unfold okF
 simp only[jiR,decide_eq_true_eq]
 exact⟨ji2 (ja2 n _ h0 h.1).1 h6,ji2 (ja2 n _ h0 h.2).1 h6⟩
theorem jfA (n:Int)(d:Nat)(hd:0<d):(Rat.divInt n d).num.natAbs≤n.natAbs∧(Rat.divInt n d).den≤d:=by
 rw[Rat.num_divInt,Rat.den_divInt,if_neg (by omega),jjo (by omega),jjm]
 refine⟨?_,?_⟩
 ·rw[Int.natAbs_ediv_of_dvd (by exact Int.gcd_dvd_right ..)]
  exact jjh _ _
 ·rw[jjf]
  exact jjh _ _
theorem jaX {n:Nat}{x:Int}{d:Nat}(hd:0<d)(h1:x.natAbs<10^n)(h2:d<10^n):Fq n (Rat.divInt x d):=
 ⟨Nat.lt_of_le_of_lt (jfA x d hd).1 h1,Nat.lt_of_le_of_lt (jfA x d hd).2 h2⟩
theorem jey {a b x y:Nat}(h1:x<10^a)(h2:y<10^b):x*y<10^(a+b):=by
 rw[Nat.pow_add]
 rcases ji3 y with e|e
 ·rw[e,Nat.mul_zero]
  exact Nat.mul_pos (Nat.pow_pos (by decide)) (Nat.pow_pos (by decide))
 ·exact ji7 (Nat.mul_lt_mul_of_pos_right h1 e) (Nat.mul_le_mul_left _ (Nat.le_of_lt h2))
theorem Fq.add {a b:Nat}{p q:Rat}(h:Fq a p)(g:Fq b q):Fq (a+b+1) (p+q):=by
 have hp:=p.den_pos
 have hq:=q.den_pos
 have e:p+q=Rat.divInt (p.num*q.den+q.num*p.den) ((p.den*q.den:Nat):Int):=by
  conv=>lhs;rw[← jjp p,← jjp q]
  rw[Rat.divInt_add_divInt _ _ (by omega) (by omega),jja]
 rw[e]
 have m1:=jey h.1 g.2
 have m2:=jey g.1 h.2
 have m3:=jey h.2 g.2
 rw[Nat.add_comm b a] at m2
 have e10:10^(a+b+1)=10*10^(a+b):=by rw[Nat.pow_succ,ji4]
 refine jaX (Nat.mul_pos hp hq) ?_ ?_
 ·have t:=Int.natAbs_add_le (p.num*q.den) (q.num*p.den)
  rw[Int.natAbs_mul,Int.natAbs_mul,jjf,jjf] at t
  omega
 ·omega
theorem Fq.neg {a:Nat}{p:Rat}(h:Fq a p):Fq a (-p):=⟨by rw[Rat.neg_num,Int.natAbs_neg];exact h.1,by rw[Rat.neg_den];exact h.2⟩
theorem Fq.sub {a b:Nat}{p q:Rat}(h:Fq a p)(g:Fq b q):Fq (a+b+1) (p-q):=by
 rw[Rat.sub_eq_add_neg]
 exact h.add g.neg
theorem Fq.mul {a b:Nat}{p q:Rat}(h:Fq a p)(g:Fq b q):Fq (a+b) (p*q):=by
 have e:p*q=Rat.divInt (p.num*q.num) ((p.den*q.den:Nat):Int):=by
  conv=>lhs;rw[← jjp p,← jjp q]
  rw[Rat.divInt_mul_divInt,jja]
 rw[e]
 refine jaX (Nat.mul_pos p.den_pos q.den_pos) ?_ (jey h.2 g.2)
 rw[Int.natAbs_mul]
 exact jey h.1 g.1
theorem Fq.inv {a:Nat}{p:Rat}(h:Fq a p)(h0:p.num≠0):Fq a p⁻¹:=by
 rw[Rat.inv_def]
 rcases Int.lt_or_gt_of_ne h0 with hn|hn
 ·have e:Rat.divInt (p.den:Int) p.num=Rat.divInt (-(p.den:Int)) ((p.num.natAbs:Nat):Int):=by
   rw[Rat.divInt_eq_divInt_iff h0 (by omega)]
   have:((p.num.natAbs:Nat):Int) = -p.num:=by omega
   rw[this]
   grind
  rw[e]
  exact jaX (by omega) (by rw[Int.natAbs_neg,jjf];exact h.2) h.1
 ·have e:p.num=((p.num.natAbs:Nat):Int):=by omega
  rw[e]
  exact jaX (by omega) (by rw[jjf];exact h.2) h.1
theorem Fq.div {a b:Nat}{p q:Rat}(h:Fq a p)(g:Fq b q)(h0:q.num≠0):Fq (a+b) (p/q):=by
 rw[Rat.div_def]
 exact h.mul (g.inv h0)
theorem dec_rdv:∀ (n:Nat) (d:List UInt8),d.length=n→d≠[]→(∀ c∈d,isDig c=true)→(d.getD 0 0≠48∨d.length=1)→dec (rdv d)=d
 | 0,d,h,h0,_,_=>absurd (jjs.1 h) h0
 | n+1,d,h,h0,hd,hz=>by
  obtain⟨e,c,rfl⟩:∃ e c,d=e++[c]:=⟨d.dropLast,d.getLast h0,(List.dropLast_concat_getLast h0).symm⟩
  have hc:=hd c (by simp)
  simp only[isDig,decide_eq_true_eq] at hc
  have hu:UInt8.ofNat (48+(c.toNat-48))=c:=by
   have:48+(c.toNat-48)=c.toNat:=by omega
   rw[this]
   exact UInt8.ofNat_toNat
  rw[ja6,jda,List.length_singleton,Nat.pow_one]
  by_cases he:e=[]
  ·subst he
   rw[jjE,show rdv []=0 from rfl,Nat.zero_mul,jiX,jbd (by omega),hu]
  ·have hl:e.length=n:=by simpa using h
   have hpos:0<e.length:=List.length_pos_iff.2 he
   have hg:(e++[c]).getD 0 0=e.getD 0 0:=by
    rw[jjr,jjr,jjA hpos]
   have hz':e.getD 0 0≠48:=by
    rcases hz with hz|hz
    ·rwa [hg] at hz
    ·simp at hz
     exact absurd hz he
   have ih:=dec_rdv n e hl he (fun x hx=>hd x (by simp[hx])) (.inl hz')
   have hr:0<rdv e:=by
    rcases ji3 (rdv e) with h1|h1
    ·rw[h1,jbd (by omega)] at ih
     rw[← ih] at hz'
     exact absurd rfl hz'
    ·exact h1
   have e1:(rdv e*10+(c.toNat-48))/10=rdv e:=by omega
   have e2:(rdv e*10+(c.toNat-48))%10=c.toNat-48:=by omega
   rw[jcg (by omega),e1,e2,ih,hu]
theorem jhf {s:List UInt8}(h:okW s=true):decZ (wval s)=s:=by
 have key:∀ (d:List UInt8) (neg:Bool),okD d neg=true→dec (rdv d)=d∧(neg=true→0<rdv d):=by
  intro d neg h
  have h':=h
  unfold okD at h
  simp only[jiR,Bool.not_eq_true',ji9,decide_eq_false_iff_not,jjq,Bool.and_eq_false_iff] at h
  refine⟨dec_rdv _ d rfl (fun e=>h.1.1.1 (by rw[e];rfl)) h.1.2 ?_,fun e=>okD_nz (by rw[e] at h';exact h')⟩
  rcases h.2 with h2|h2
  ·exact .inl h2
  ·refine .inr ?_
   have h3:=h.1.1.1
   have h4:=h2.2
   omega
 unfold okW at h
 obtain⟨k1,k2⟩:=key _ _ h
 unfold wval
 cases hn:Go.Lib.hasPrefix s [45] with
 | true=>
  have hs:s=45::Go.Lib.trimPrefix s [45]:=by
   unfold Go.Lib.trimPrefix
   rw[if_pos hn]
   match s,hn with
   | c::r,hn=>
    unfold Go.Lib.hasPrefix at hn
    simp at hn
    simp[hn]
  have h0:=k2 hn
  simp only[if_true]
  unfold decZ
  rw[if_pos (by omega)]
  rw[show (-((rdv (Go.Lib.trimPrefix s [45]):Nat):Int)).natAbs=rdv (Go.Lib.trimPrefix s [45]) by omega,k1]
  exact hs.symm
 | false=>
  have hs:Go.Lib.trimPrefix s [45]=s:=by
   unfold Go.Lib.trimPrefix
   rw[hn]
   rfl
  simp only[Bool.false_eq_true,if_false]
  rw[hs] at k1 ⊢
  unfold decZ
  rw[if_neg (by omega),jjf,k1]
theorem fadd_ok (s t u v:List UInt8)(h:okP s t=true)(g:okP u v=true)(hn:(mg 1000000000 (qv s t+qv u v).num.natAbs).length≤90000000)(hd:(mg 1000000000 (qv s t+qv u v).den).length≤90000000):Cl 105 [.agg [.str s,.str t],.agg [.str u,.str v]] (frR (qv s t+qv u v)):=by
 have r1:=jby s t h
 have r2:=jby u v g
 have o:=add_c (qv s t) (qv u v) (qsize h) (qsize g)
 have w:=jdR (qv s t+qv u v) hn hd
 generalize qv s t+qv u v=q at *
 have ap:Cl 143 [.agg [.str s,.str t],.agg [.str u,.str v],.fn 155 [] []] (.tup [rtD q,.int .i64 0]):=by
  refine V.en tbOk Tryz.func143 ?_
  (conv=>whnf)
  refine V.st ?_
  repeat ((try ((with_reducible refine .ext ?_);(conv=>whnf)));(with_reducible refine jaa (r:=?_) ?_ ?_);rotate_left;(focus (first|exact(r1)|exact(r2)|exact(o)));(conv=>whnf);refine V.st ?_)
  exact Fin.of rfl
 have rs:Cl 142 [rtD q,.int .i64 0] (frR q):=by
  refine V.en tbOk Tryz.func142 ?_
  (conv=>whnf)
  refine V.st ?_
  repeat ((try ((with_reducible refine .ext ?_);(conv=>whnf)));(with_reducible refine jaa (r:=?_) ?_ ?_);rotate_left;(focus (first|exact(w)));(conv=>whnf);refine V.st ?_)
  exact Fin.of rfl
 refine V.en tbOk Tryz.func105 ?_
 (conv=>whnf)
 refine V.st ?_
 repeat ((try ((with_reducible refine .ext ?_);(conv=>whnf)));(with_reducible refine jaa (r:=?_) ?_ ?_);rotate_left;(focus (first|exact(ap)|exact(rs)));(conv=>whnf);refine V.st ?_)
 exact Fin.of rfl
theorem fsub_ok (s t u v:List UInt8)(h:okP s t=true)(g:okP u v=true)(hn:(mg 1000000000 (qv s t-qv u v).num.natAbs).length≤90000000)(hd:(mg 1000000000 (qv s t-qv u v).den).length≤90000000):Cl 104 [.agg [.str s,.str t],.agg [.str u,.str v]] (frR (qv s t-qv u v)):=by
 have r1:=jby s t h
 have r2:=jby u v g
 have o:=sub_c (qv s t) (qv u v) (qsize h) (qsize g)
 have w:=jdR (qv s t-qv u v) hn hd
 generalize qv s t-qv u v=q at *
 have ap:Cl 143 [.agg [.str s,.str t],.agg [.str u,.str v],.fn 154 [] []] (.tup [rtD q,.int .i64 0]):=by
  refine V.en tbOk Tryz.func143 ?_
  (conv=>whnf)
  refine V.st ?_
  repeat ((try ((with_reducible refine .ext ?_);(conv=>whnf)));(with_reducible refine jaa (r:=?_) ?_ ?_);rotate_left;(focus (first|exact(r1)|exact(r2)|exact(o)));(conv=>whnf);refine V.st ?_)
  exact Fin.of rfl
 have rs:Cl 142 [rtD q,.int .i64 0] (frR q):=by
  refine V.en tbOk Tryz.func142 ?_
  (conv=>whnf)
  refine V.st ?_
  repeat ((try ((with_reducible refine .ext ?_);(conv=>whnf)));(with_reducible refine jaa (r:=?_) ?_ ?_);rotate_left;(focus (first|exact(w)));(conv=>whnf);refine V.st ?_)
  exact Fin.of rfl
 refine V.en tbOk Tryz.func104 ?_
 (conv=>whnf)
 refine V.st ?_
 repeat ((try ((with_reducible refine .ext ?_);(conv=>whnf)));(with_reducible refine jaa (r:=?_) ?_ ?_);rotate_left;(focus (first|exact(ap)|exact(rs)));(conv=>whnf);refine V.st ?_)
 exact Fin.of rfl
theorem fmul_ok (s t u v:List UInt8)(h:okP s t=true)(g:okP u v=true)(hn:(mg 1000000000 (qv s t*qv u v).num.natAbs).length≤90000000)(hd:(mg 1000000000 (qv s t*qv u v).den).length≤90000000):Cl 87 [.agg [.str s,.str t],.agg [.str u,.str v]] (frR (qv s t*qv u v)):=by
 have r1:=jby s t h
 have r2:=jby u v g
 have o:=mul_c (qv s t) (qv u v) (qsize h) (qsize g)
 have w:=jdR (qv s t*qv u v) hn hd
 generalize qv s t*qv u v=q at *
 have ap:Cl 143 [.agg [.str s,.str t],.agg [.str u,.str v],.fn 144 [] []] (.tup [rtD q,.int .i64 0]):=by
  refine V.en tbOk Tryz.func143 ?_
  (conv=>whnf)
  refine V.st ?_
  repeat ((try ((with_reducible refine .ext ?_);(conv=>whnf)));(with_reducible refine jaa (r:=?_) ?_ ?_);rotate_left;(focus (first|exact(r1)|exact(r2)|exact(o)));(conv=>whnf);refine V.st ?_)
  exact Fin.of rfl
 have rs:Cl 142 [rtD q,.int .i64 0] (frR q):=by
  refine V.en tbOk Tryz.func142 ?_
  (conv=>whnf)
  refine V.st ?_
  repeat ((try ((with_reducible refine .ext ?_);(conv=>whnf)));(with_reducible refine jaa (r:=?_) ?_ ?_);rotate_left;(focus (first|exact(w)));(conv=>whnf);refine V.st ?_)
  exact Fin.of rfl
 refine V.en tbOk Tryz.func87 ?_
 (conv=>whnf)
 refine V.st ?_
 repeat ((try ((with_reducible refine .ext ?_);(conv=>whnf)));(with_reducible refine jaa (r:=?_) ?_ ?_);rotate_left;(focus (first|exact(ap)|exact(rs)));(conv=>whnf);refine V.st ?_)
 exact Fin.of rfl
theorem Q9.inv {k:Nat}{q:Rat}(h:Q9 k q)(h0:q.num≠0):Q9 k q⁻¹:=by
 obtain⟨p1,p2⟩:=jg3 q h0
 constructor
 ·rw[p1]
  unfold S9
  have e:(if decide (q.num<0)=true then -(q.den:Int) else (q.den:Int)).natAbs=q.den:=by
   split<;>simp
  rw[e]
  exact h.2
 ·rw[p2];exact h.1
theorem fdiv_ok (s t u v:List UInt8)(h:okP s t=true)(g:okP u v=true)(h0:(qv u v).num≠0)(hn:(mg 1000000000 (qv s t/qv u v).num.natAbs).length≤90000000)(hd:(mg 1000000000 (qv s t/qv u v).den).length≤90000000):Cl 90 [.agg [.str s,.str t],.agg [.str u,.str v]] (frR (qv s t/qv u v)):=by
 have r1:=jby s t h
 have r2:=jby u v g
 have z1:=jdi (qv u v).num.natAbs
 rw[decide_eq_false (show ¬ (qv u v).num.natAbs=0 by omega)] at z1
 have i1:=inverse_c (qv u v) h0
 have o:=mul_c (qv s t) (qv u v)⁻¹ (qsize h) ((qsize g).inv h0)
 have w:=jdR (qv s t/qv u v) hn hd
 rw[Rat.div_def] at w ⊢
 unfold frR at *
 generalize qv s t*(qv u v)⁻¹=q at *
 generalize (qv u v)⁻¹=y at *
 refine V.en tbOk Tryz.func90 ?_
 (conv=>whnf)
 refine V.st ?_
 repeat ((try ((with_reducible refine .ext ?_);(conv=>whnf)));(with_reducible refine jaa (r:=?_) ?_ ?_);rotate_left;(focus (first|exact(r1)|exact(r2)|exact(z1)));(conv=>whnf);refine V.st ?_)
 refine⟨(V.tk [0,1] (V.e1 2 [0] (V.e1 3 [] (V.e1 4 [] (V.tk [5,6] (V.e1 7 [] (V.tk [8] .done))))))),[],V.pok,.go (jac ?_)⟩
 (conv=>whnf)
 refine V.st ?_
 repeat ((try ((with_reducible refine .ext ?_);(conv=>whnf)));(with_reducible refine jaa (r:=?_) ?_ ?_);rotate_left;(focus (first|exact(i1)|exact(o)|exact(w)));(conv=>whnf);refine V.st ?_)
 exact Fin.of rfl
def frT (x:Rat):D := .agg [.str (decZ x.num),.str (dec x.den)]
theorem jaB {q:Rat}(h:okF q=true):okP (decZ q.num) (dec q.den)=true∧qv (decZ q.num) (dec q.den)=q:=by
 unfold okF at h
 simp only[jiR,decide_eq_true_eq] at h
 have hdz:dec q.den=decZ (q.den:Int):=by unfold decZ;rw[if_neg (by omega),jjf]
 have w1:wval (decZ q.num)=q.num:=jba _
 have w2:wval (dec q.den)=(q.den:Int):=by rw[hdz];exact jba _
 have o1:=jbN q.num h.1
 have o2:okW (dec q.den)=true:=by rw[hdz];exact jbN _ (by rw[jjf];exact h.2)
 have hp:=q.den_pos
 constructor
 ·unfold okP
  rw[o1,o2,w1,w2]
  simp only[jiR,decide_eq_true_eq,Bool.true_and,jjf]
  exact⟨by omega,q.reduced⟩
 ·unfold qv
  rw[w1,w2]
  exact jjp q
theorem jcS {q:Rat}(h:okF q=true):frR q = .tup [frT q,.int .i64 0]:=by
 unfold frR
 rw[h]
 rfl
theorem jcx {s t:List UInt8}(h:okP s t=true):decZ (qv s t).num=s∧dec (qv s t).den=t:=by
 obtain⟨h1,h2,h3,h4⟩:=jeV h
 obtain⟨p1,p2⟩:=jds h
 have e2:=jhf h2
 unfold decZ at e2
 rw[if_neg (by omega)] at e2
 rw[p1,p2]
 exact⟨jhf h1,e2⟩
theorem mg_fq {n:Nat}{q:Rat}(h:Fq n q)(h6:n≤600):(mg 1000000000 q.num.natAbs).length≤90000000∧(mg 1000000000 q.den).length≤90000000:=
 ⟨ji2 (len9 (h.mono h6).1) (by omega),ji2 (len9 (h.mono h6).2) (by omega)⟩
theorem zadd {a b:Nat}{p q:Rat}(h:Fq a p)(g:Fq b q)(ha:0<a)(hb:0<b)(hab:a+b+1≤600):Cl 105 [frT p,frT q] (.tup [frT (p+q),.int .i64 0]):=by
 obtain⟨o1,e1⟩:=jaB (h.ok ha (by omega))
 obtain⟨o2,e2⟩:=jaB (g.ok hb (by omega))
 have hs:=h.add g
 have hm:=mg_fq hs (by omega)
 have c:=fadd_ok _ _ _ _ o1 o2 (by rw[e1,e2];exact hm.1) (by rw[e1,e2];exact hm.2)
 rw[e1,e2,jcS (hs.ok (by omega) (by omega))] at c
 exact c
theorem zsub {a b:Nat}{p q:Rat}(h:Fq a p)(g:Fq b q)(ha:0<a)(hb:0<b)(hab:a+b+1≤600):Cl 104 [frT p,frT q] (.tup [frT (p-q),.int .i64 0]):=by
 obtain⟨o1,e1⟩:=jaB (h.ok ha (by omega))
 obtain⟨o2,e2⟩:=jaB (g.ok hb (by omega))
 have hs:=h.sub g
 have hm:=mg_fq hs (by omega)
 have c:=fsub_ok _ _ _ _ o1 o2 (by rw[e1,e2];exact hm.1) (by rw[e1,e2];exact hm.2)
 rw[e1,e2,jcS (hs.ok (by omega) (by omega))] at c
 exact c
theorem zmul {a b:Nat}{p q:Rat}(h:Fq a p)(g:Fq b q)(ha:0<a)(hb:0<b)(hab:a+b+1≤600):Cl 87 [frT p,frT q] (.tup [frT (p*q),.int .i64 0]):=by
 obtain⟨o1,e1⟩:=jaB (h.ok ha (by omega))
 obtain⟨o2,e2⟩:=jaB (g.ok hb (by omega))
 have hs:=h.mul g
 have hm:=mg_fq hs (by omega)
 have c:=fmul_ok _ _ _ _ o1 o2 (by rw[e1,e2];exact hm.1) (by rw[e1,e2];exact hm.2)
 rw[e1,e2,jcS (hs.ok (by omega) (by omega))] at c
 exact c
theorem zdiv {a b:Nat}{p q:Rat}(h:Fq a p)(g:Fq b q)(h0:q.num≠0)(ha:0<a)(hb:0<b)(hab:a+b+1≤600):Cl 90 [frT p,frT q] (.tup [frT (p/q),.int .i64 0]):=by
 obtain⟨o1,e1⟩:=jaB (h.ok ha (by omega))
 obtain⟨o2,e2⟩:=jaB (g.ok hb (by omega))
 have hs:=h.div g h0
 have hm:=mg_fq hs (by omega)
 have c:=fdiv_ok _ _ _ _ o1 o2 (by rw[e2];exact h0) (by rw[e1,e2];exact hm.1) (by rw[e1,e2];exact hm.2)
 rw[e1,e2,jcS (hs.ok (by omega) (by omega))] at c
 exact c
theorem zcmp {a b:Nat}{p q:Rat}(h:Fq a p)(g:Fq b q)(ha:0<a∧a≤600)(hb:0<b∧b≤600):Cl 135 [frT p,frT q] (.tup [.int .i64 (ordQ p q),.int .i64 0]):=by
 obtain⟨o1,e1⟩:=jaB (h.ok ha.1 ha.2)
 obtain⟨o2,e2⟩:=jaB (g.ok hb.1 hb.2)
 have c:=fcmp_ok _ _ _ _ o1 o2
 rw[e1,e2] at c
 exact c
abbrev Tx:=List UInt8×List UInt8
def okX (x:Tx):Bool:=okP x.1 x.2
def qX (x:Tx):Rat:=qv x.1 x.2
def BdX (n:Nat)(x:Tx):Prop:=(x.1.length≤281474976710656∧x.2.length≤281474976710656)∧(okX x=true→Fq n (qX x))
theorem BdX.mono {m n:Nat}{x:Tx}(h:BdX m x)(hl:m≤n):BdX n x:=⟨h.1,fun g=>(h.2 g).mono hl⟩
end Go.Proofs.YtbnghipgicmpdaaGreatDoor
end
