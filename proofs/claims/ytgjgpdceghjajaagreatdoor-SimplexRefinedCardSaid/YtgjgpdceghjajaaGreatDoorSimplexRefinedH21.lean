/- What functions of the program answer at given values, part 21. Conditions: those that each theorem names. -/
import Derived.Test.YtgjgpdceghjajaaGreatDoorSimplexRefinedH17
import Derived.Test.YtgjgpdceghjajaaGreatDoorSimplexRefinedH15
import Derived.Test.YtgjgpdceghjajaaGreatDoorSimplexRefinedH20
import Derived.Test.YtgjgpdceghjajaaGreatDoorSimplexRefinedH13
set_option linter.unusedSimpArgs false
set_option linter.unusedVariables false
set_option maxHeartbeats 8000000
set_option maxRecDepth 100000
section
namespace Go.Proofs.YtgjgpdceghjajaaGreatDoor
open Go Go.V Go.Nb
theorem plus_m (a b : Nat) (ha : (mg 1000000000 a).length ≤ 100000000) (hb : (mg 1000000000 b).length ≤ 100000000) : Called Tryz.prog 184 [.ints .u32 (mg 1000000000 a), .ints .u32 (mg 1000000000 b)] (.ints .u32 (mg 1000000000 (a + b))) := by
  have hdx := mg_dg (B := 1000000000) (by omega) a
  have hdy := mg_dg (B := 1000000000) (by omega) b
  have hvx := jaC (B := 1000000000) (by omega) a
  have hvy := jaC (B := 1000000000) (by omega) b
  have hpx := fun h => jcz (B := 1000000000) (n := a) (by omega) h
  have hpy := fun h => jcz (B := 1000000000) (n := b) (by omega) h
  have hex := jb8 (B := 1000000000) (n := a) (by omega)
  have hey := jb8 (B := 1000000000) (n := b) (by omega)
  generalize mg 1000000000 a = xs at *
  generalize mg 1000000000 b = ys at *
  refine V.en tbOk Tryz.func184 ?_
  (conv => whnf)
  refine V.st ?_
  refine V.br (fun hl => ?_) (fun hl => ?_)
  · rw [decide_eq_true_eq] at hl
    obtain ⟨N, hN⟩ : ∃ N, N = ys.length + 1 := ⟨_, rfl⟩
    have e1 : (ys.length : Int) + 1 = (N : Int) := by omega
    rw [Nat.add_comm a b]
    refine V.r0 (V.a2 @e1 @jih) ?_
    (obtain ⟨hdx, hdy⟩ := And.intro hdy hdx)
    refine jac ((false, 0, [], 0) : Bool × Nat × List Int × Int) (fun s => s.2.2.1.length = s.2.1 ∧ Dg 1000000000 s.2.2.1 ∧ (0 ≤ s.2.2.2 ∧ s.2.2.2 ≤ 1) ∧ val 1000000000 s.2.2.1 + s.2.2.2 * ((1000000000 : Nat) : Int) ^ s.2.1 = val 1000000000 ((ys).take s.2.1) + val 1000000000 ((xs).take s.2.1) ∧ s.2.1 ≤ (ys).length ∧ (s.1 = false → s.2.2.1 = [])) (fun s => (ys).length - s.2.1)
      (fun s => match s.1 with | false => [(22, .int .i64 s.2.1), (6, .int .u32 s.2.2.2), (5, .osl 19 0 0)] | true => [(22, .int .i64 s.2.1), (6, .int .u32 s.2.2.2), (5, .osl 47 0 s.2.2.1.length)]) (fun s => match s.1 with | false => [(19, .arr .u32 [])] | true => [(47, .arr .u32 s.2.2.1), (19, .gone)]) ?_ ?_ ?_
    · exact V.wk
    · exact ⟨rfl, fun x hx => by simp at hx, by simp, by simp [val], jib _, fun _ => rfl⟩
    rintro ⟨_ | _, k, out, c⟩ ⟨h1, h2, h3, h4, h5, h6⟩
    · dsimp only at h1 h2 h3 h4 h5 h6 ⊢
      have h7 := h6 rfl
      clear h6
      subst h7
      have vx := jai 1000000000 ys k
      have vy := jai 1000000000 xs k
      have bx := jam (by omega) hdx k
      have by' := jam (by omega) hdy k
      have gy := jb0 (xs := xs) (k := k)
      generalize hx0 : (ys).getD k 0 = x at *
      generalize hy0 : (xs).getD k 0 = y at *
      refine V.r0 @jih ?_
      refine V.br (fun hq => ?_) (fun hq => ?_)
      · rw [decide_eq_true_eq] at hq
        refine V.r0 (V.a2 @jih hx0) ?_
        refine V.br (fun hy => ?_) (fun hy => ?_)
        · rw [decide_eq_true_eq] at hy
          refine V.r0 (V.a2 @jih hy0) ?_
          refine V.br (fun hz => ?_) (fun hz => ?_)
          · rw [decide_eq_true_eq] at hz
            have hst := jax (B := 1000000000) (x := x) (y := y) (d := (x + c + y - 1000000000)) (c' := 1) h1 h4 (by omega)
            rw [← vx, ← vy] at hst
            have hdg : Dg 1000000000 (([] : List Int) ++ [(x + c + y - 1000000000)]) := jah h2 (jau (by omega))
            have hl2 : (([] : List Int) ++ [(x + c + y - 1000000000)]).length = k + 1 := by simp [h1]
            have hl3 : (([] : List Int)).length + (List.take 1 (List.drop 0 [(x + c + y - 1000000000)])).length = (([] : List Int) ++ [(x + c + y - 1000000000)]).length := by simp
            have hkc : ((k : Int) + 1) = ((k + 1 : Nat) : Int) := by omega
            refine V.r0 (V.a3 hl3 hkc @jif) ?_
            try refine And.intro (fun _ => ⟨trivial, by omega⟩) ?_
            refine V.r0 (V.a3 hl3 hkc @jif) ?_
            exact ⟨(true, k + 1, ([] : List Int) ++ [(x + c + y - 1000000000)], 1), ⟨hl2, hdg, by dsimp only; omega, hst, by dsimp only; omega, fun h => by cases h⟩, by dsimp only; omega, V.wk⟩
          · rw [decide_eq_false_iff_not] at hz
            have hst := jax (B := 1000000000) (x := x) (y := y) (d := (x + c + y)) (c' := 0) h1 h4 (by omega)
            rw [← vx, ← vy] at hst
            have hdg : Dg 1000000000 (([] : List Int) ++ [(x + c + y)]) := jah h2 (jau (by omega))
            have hl2 : (([] : List Int) ++ [(x + c + y)]).length = k + 1 := by simp [h1]
            have hl3 : (([] : List Int)).length + (List.take 1 (List.drop 0 [(x + c + y)])).length = (([] : List Int) ++ [(x + c + y)]).length := by simp
            have hkc : ((k : Int) + 1) = ((k + 1 : Nat) : Int) := by omega
            refine V.r0 (V.a3 hl3 hkc @jif) ?_
            try refine And.intro (fun _ => ⟨trivial, by omega⟩) ?_
            refine V.r0 (V.a3 hl3 hkc @jif) ?_
            exact ⟨(true, k + 1, ([] : List Int) ++ [(x + c + y)], 0), ⟨hl2, hdg, by dsimp only; omega, hst, by dsimp only; omega, fun h => by cases h⟩, by dsimp only; omega, V.wk⟩
        · rw [decide_eq_false_iff_not] at hy
          have := gy (by omega)
          refine V.r0 @jih ?_
          refine V.br (fun hz => ?_) (fun hz => ?_)
          · rw [decide_eq_true_eq] at hz
            have hst := jax (B := 1000000000) (x := x) (y := y) (d := (x + c - 1000000000)) (c' := 1) h1 h4 (by omega)
            rw [← vx, ← vy] at hst
            have hdg : Dg 1000000000 (([] : List Int) ++ [(x + c - 1000000000)]) := jah h2 (jau (by omega))
            have hl2 : (([] : List Int) ++ [(x + c - 1000000000)]).length = k + 1 := by simp [h1]
            have hl3 : (([] : List Int)).length + (List.take 1 (List.drop 0 [(x + c - 1000000000)])).length = (([] : List Int) ++ [(x + c - 1000000000)]).length := by simp
            have hkc : ((k : Int) + 1) = ((k + 1 : Nat) : Int) := by omega
            refine V.r0 (V.a3 hl3 hkc @jif) ?_
            try refine And.intro (fun _ => ⟨trivial, by omega⟩) ?_
            refine V.r0 (V.a3 hl3 hkc @jif) ?_
            exact ⟨(true, k + 1, ([] : List Int) ++ [(x + c - 1000000000)], 1), ⟨hl2, hdg, by dsimp only; omega, hst, by dsimp only; omega, fun h => by cases h⟩, by dsimp only; omega, V.wk⟩
          · rw [decide_eq_false_iff_not] at hz
            have hst := jax (B := 1000000000) (x := x) (y := y) (d := (x + c)) (c' := 0) h1 h4 (by omega)
            rw [← vx, ← vy] at hst
            have hdg : Dg 1000000000 (([] : List Int) ++ [(x + c)]) := jah h2 (jau (by omega))
            have hl2 : (([] : List Int) ++ [(x + c)]).length = k + 1 := by simp [h1]
            have hl3 : (([] : List Int)).length + (List.take 1 (List.drop 0 [(x + c)])).length = (([] : List Int) ++ [(x + c)]).length := by simp
            have hkc : ((k : Int) + 1) = ((k + 1 : Nat) : Int) := by omega
            refine V.r0 (V.a3 hl3 hkc @jif) ?_
            try refine And.intro (fun _ => ⟨trivial, by omega⟩) ?_
            refine V.r0 (V.a3 hl3 hkc @jif) ?_
            exact ⟨(true, k + 1, ([] : List Int) ++ [(x + c)], 0), ⟨hl2, hdg, by dsimp only; omega, hst, by dsimp only; omega, fun h => by cases h⟩, by dsimp only; omega, V.wk⟩
      · rw [decide_eq_false_iff_not] at hq
        have h7 : k = 0 := by simpa using h1.symm
        have h8 : (ys).length = 0 := by omega
        have e2 := hey.mp (jiK.mp h8)
        have e3 := hex.mp (jiK.mp (by omega))
        have e4 : c = 0 := by
          rw [jiZ (by omega), jiZ (by omega), hvy, hvx, e2, e3, h7] at h4
          simpa [val] using h4
        subst e4 h7
        rw [e2, e3]
        (conv => whnf)
        refine V.st ?_
        exact Fin.of rfl
    · clear h6
      dsimp only at h1 h2 h3 h4 h5 ⊢
      have vx := jai 1000000000 ys k
      have vy := jai 1000000000 xs k
      have bx := jam (by omega) hdx k
      have by' := jam (by omega) hdy k
      have gy := jb0 (xs := xs) (k := k)
      generalize hx0 : (ys).getD k 0 = x at *
      generalize hy0 : (xs).getD k 0 = y at *
      refine V.r0 @jih ?_
      refine V.br (fun hq => ?_) (fun hq => ?_)
      · rw [decide_eq_true_eq] at hq
        refine V.r0 (V.a2 @jih hx0) ?_
        refine V.br (fun hy => ?_) (fun hy => ?_)
        · rw [decide_eq_true_eq] at hy
          refine V.r0 (V.a2 @jih hy0) ?_
          refine V.br (fun hz => ?_) (fun hz => ?_)
          · rw [decide_eq_true_eq] at hz
            have hst := jax (B := 1000000000) (x := x) (y := y) (d := (x + c + y - 1000000000)) (c' := 1) h1 h4 (by omega)
            rw [← vx, ← vy] at hst
            have hdg : Dg 1000000000 (out ++ [(x + c + y - 1000000000)]) := jah h2 (jau (by omega))
            have hl2 : (out ++ [(x + c + y - 1000000000)]).length = k + 1 := by simp [h1]
            have hl3 : (out).length + (List.take 1 (List.drop 0 [(x + c + y - 1000000000)])).length = (out ++ [(x + c + y - 1000000000)]).length := by simp
            have hkc : ((k : Int) + 1) = ((k + 1 : Nat) : Int) := by omega
            refine V.r0 (V.a3 hl3 hkc @jif) ?_
            try refine And.intro (fun _ => ⟨trivial, by omega⟩) ?_
            refine V.r0 (V.a3 hl3 hkc @jif) ?_
            exact ⟨(true, k + 1, out ++ [(x + c + y - 1000000000)], 1), ⟨hl2, hdg, by dsimp only; omega, hst, by dsimp only; omega, fun h => by cases h⟩, by dsimp only; omega, V.wk⟩
          · rw [decide_eq_false_iff_not] at hz
            have hst := jax (B := 1000000000) (x := x) (y := y) (d := (x + c + y)) (c' := 0) h1 h4 (by omega)
            rw [← vx, ← vy] at hst
            have hdg : Dg 1000000000 (out ++ [(x + c + y)]) := jah h2 (jau (by omega))
            have hl2 : (out ++ [(x + c + y)]).length = k + 1 := by simp [h1]
            have hl3 : (out).length + (List.take 1 (List.drop 0 [(x + c + y)])).length = (out ++ [(x + c + y)]).length := by simp
            have hkc : ((k : Int) + 1) = ((k + 1 : Nat) : Int) := by omega
            refine V.r0 (V.a3 hl3 hkc @jif) ?_
            try refine And.intro (fun _ => ⟨trivial, by omega⟩) ?_
            refine V.r0 (V.a3 hl3 hkc @jif) ?_
            exact ⟨(true, k + 1, out ++ [(x + c + y)], 0), ⟨hl2, hdg, by dsimp only; omega, hst, by dsimp only; omega, fun h => by cases h⟩, by dsimp only; omega, V.wk⟩
        · rw [decide_eq_false_iff_not] at hy
          have := gy (by omega)
          refine V.r0 @jih ?_
          refine V.br (fun hz => ?_) (fun hz => ?_)
          · rw [decide_eq_true_eq] at hz
            have hst := jax (B := 1000000000) (x := x) (y := y) (d := (x + c - 1000000000)) (c' := 1) h1 h4 (by omega)
            rw [← vx, ← vy] at hst
            have hdg : Dg 1000000000 (out ++ [(x + c - 1000000000)]) := jah h2 (jau (by omega))
            have hl2 : (out ++ [(x + c - 1000000000)]).length = k + 1 := by simp [h1]
            have hl3 : (out).length + (List.take 1 (List.drop 0 [(x + c - 1000000000)])).length = (out ++ [(x + c - 1000000000)]).length := by simp
            have hkc : ((k : Int) + 1) = ((k + 1 : Nat) : Int) := by omega
            refine V.r0 (V.a3 hl3 hkc @jif) ?_
            try refine And.intro (fun _ => ⟨trivial, by omega⟩) ?_
            refine V.r0 (V.a3 hl3 hkc @jif) ?_
            exact ⟨(true, k + 1, out ++ [(x + c - 1000000000)], 1), ⟨hl2, hdg, by dsimp only; omega, hst, by dsimp only; omega, fun h => by cases h⟩, by dsimp only; omega, V.wk⟩
          · rw [decide_eq_false_iff_not] at hz
            have hst := jax (B := 1000000000) (x := x) (y := y) (d := (x + c)) (c' := 0) h1 h4 (by omega)
            rw [← vx, ← vy] at hst
            have hdg : Dg 1000000000 (out ++ [(x + c)]) := jah h2 (jau (by omega))
            have hl2 : (out ++ [(x + c)]).length = k + 1 := by simp [h1]
            have hl3 : (out).length + (List.take 1 (List.drop 0 [(x + c)])).length = (out ++ [(x + c)]).length := by simp
            have hkc : ((k : Int) + 1) = ((k + 1 : Nat) : Int) := by omega
            refine V.r0 (V.a3 hl3 hkc @jif) ?_
            try refine And.intro (fun _ => ⟨trivial, by omega⟩) ?_
            refine V.r0 (V.a3 hl3 hkc @jif) ?_
            exact ⟨(true, k + 1, out ++ [(x + c)], 0), ⟨hl2, hdg, by dsimp only; omega, hst, by dsimp only; omega, fun h => by cases h⟩, by dsimp only; omega, V.wk⟩
      · rw [decide_eq_false_iff_not] at hq
        have hk : k = (ys).length := by omega
        rw [jiZ (by omega), jiZ (by omega), hvy, hvx] at h4
        (conv => whnf)
        refine V.st ?_
        refine V.br (fun hc => ?_) (fun hc => ?_)
        · rw [decide_eq_true_eq] at hc
          have hc1 : c = 1 := by omega
          subst hc1
          have h8 : out ++ [1] = mg 1000000000 (b + a) := by
            have h9 : val 1000000000 (out ++ [1]) = ((b + a : Nat) : Int) := by rw [jaQ, h1]; omega
            have h10 := jds (B := 1000000000) (l := out ++ [1]) (by omega) (jah h2 (jau (by omega))) (by
              rw [jaQ, jiP, List.length_singleton, Nat.add_sub_cancel]
              have := jan h2
              omega)
            rw [h10, h9]; rfl
          (conv => whnf)
          refine V.st ?_
          exact Fin.of (by rw [← h8]; exact congrArg _ (jiZ (by simp)))
        · rw [decide_eq_false_iff_not] at hc
          have hc1 : c = 0 := by omega
          subst hc1
          have h8 : out = mg 1000000000 (b + a) := by
            have h9 : val 1000000000 out = ((b + a : Nat) : Int) := by omega
            rcases jij b with h0 | h0
            · have h10 : (ys).length = 0 := by rw [hey.mpr h0]; rfl
              have e3 := hex.mp (jiK.mp (by omega))
              rw [h0, e3, jiK.mp (by omega : out.length = 0)]; rfl
            · have h10 := jds (B := 1000000000) (l := out) (by omega) h2 (by
                have h11 := hpy h0
                rw [h1, h9, hk]
                have h12 : ((1000000000 ^ ((ys).length - 1) : Nat) : Int) ≤ (b : Int) := by exact_mod_cast h11
                rw [jiC] at h12
                omega)
              rw [h10, h9]; rfl
          (conv => whnf)
          refine V.st ?_
          exact Fin.of (by rw [← h8, jiZ (by simp)])
  · rw [decide_eq_false_iff_not] at hl
    obtain ⟨N, hN⟩ : ∃ N, N = xs.length + 1 := ⟨_, rfl⟩
    have e1 : (xs.length : Int) + 1 = (N : Int) := by omega
    refine V.r0 (V.a2 @e1 @jih) ?_
    refine jac ((false, 0, [], 0) : Bool × Nat × List Int × Int) (fun s => s.2.2.1.length = s.2.1 ∧ Dg 1000000000 s.2.2.1 ∧ (0 ≤ s.2.2.2 ∧ s.2.2.2 ≤ 1) ∧ val 1000000000 s.2.2.1 + s.2.2.2 * ((1000000000 : Nat) : Int) ^ s.2.1 = val 1000000000 ((xs).take s.2.1) + val 1000000000 ((ys).take s.2.1) ∧ s.2.1 ≤ (xs).length ∧ (s.1 = false → s.2.2.1 = [])) (fun s => (xs).length - s.2.1)
      (fun s => match s.1 with | false => [(22, .int .i64 s.2.1), (6, .int .u32 s.2.2.2), (5, .osl 19 0 0)] | true => [(22, .int .i64 s.2.1), (6, .int .u32 s.2.2.2), (5, .osl 47 0 s.2.2.1.length)]) (fun s => match s.1 with | false => [(19, .arr .u32 [])] | true => [(47, .arr .u32 s.2.2.1), (19, .gone)]) ?_ ?_ ?_
    · exact V.wk
    · exact ⟨rfl, fun x hx => by simp at hx, by simp, by simp [val], jib _, fun _ => rfl⟩
    rintro ⟨_ | _, k, out, c⟩ ⟨h1, h2, h3, h4, h5, h6⟩
    · dsimp only at h1 h2 h3 h4 h5 h6 ⊢
      have h7 := h6 rfl
      clear h6
      subst h7
      have vx := jai 1000000000 xs k
      have vy := jai 1000000000 ys k
      have bx := jam (by omega) hdx k
      have by' := jam (by omega) hdy k
      have gy := jb0 (xs := ys) (k := k)
      generalize hx0 : (xs).getD k 0 = x at *
      generalize hy0 : (ys).getD k 0 = y at *
      refine V.r0 @jih ?_
      refine V.br (fun hq => ?_) (fun hq => ?_)
      · rw [decide_eq_true_eq] at hq
        refine V.r0 (V.a2 @jih hx0) ?_
        refine V.br (fun hy => ?_) (fun hy => ?_)
        · rw [decide_eq_true_eq] at hy
          refine V.r0 (V.a2 @jih hy0) ?_
          refine V.br (fun hz => ?_) (fun hz => ?_)
          · rw [decide_eq_true_eq] at hz
            have hst := jax (B := 1000000000) (x := x) (y := y) (d := (x + c + y - 1000000000)) (c' := 1) h1 h4 (by omega)
            rw [← vx, ← vy] at hst
            have hdg : Dg 1000000000 (([] : List Int) ++ [(x + c + y - 1000000000)]) := jah h2 (jau (by omega))
            have hl2 : (([] : List Int) ++ [(x + c + y - 1000000000)]).length = k + 1 := by simp [h1]
            have hl3 : (([] : List Int)).length + (List.take 1 (List.drop 0 [(x + c + y - 1000000000)])).length = (([] : List Int) ++ [(x + c + y - 1000000000)]).length := by simp
            have hkc : ((k : Int) + 1) = ((k + 1 : Nat) : Int) := by omega
            refine V.r0 (V.a3 hl3 hkc @jif) ?_
            try refine And.intro (fun _ => ⟨trivial, by omega⟩) ?_
            refine V.r0 (V.a3 hl3 hkc @jif) ?_
            exact ⟨(true, k + 1, ([] : List Int) ++ [(x + c + y - 1000000000)], 1), ⟨hl2, hdg, by dsimp only; omega, hst, by dsimp only; omega, fun h => by cases h⟩, by dsimp only; omega, V.wk⟩
          · rw [decide_eq_false_iff_not] at hz
            have hst := jax (B := 1000000000) (x := x) (y := y) (d := (x + c + y)) (c' := 0) h1 h4 (by omega)
            rw [← vx, ← vy] at hst
            have hdg : Dg 1000000000 (([] : List Int) ++ [(x + c + y)]) := jah h2 (jau (by omega))
            have hl2 : (([] : List Int) ++ [(x + c + y)]).length = k + 1 := by simp [h1]
            have hl3 : (([] : List Int)).length + (List.take 1 (List.drop 0 [(x + c + y)])).length = (([] : List Int) ++ [(x + c + y)]).length := by simp
            have hkc : ((k : Int) + 1) = ((k + 1 : Nat) : Int) := by omega
            refine V.r0 (V.a3 hl3 hkc @jif) ?_
            try refine And.intro (fun _ => ⟨trivial, by omega⟩) ?_
            refine V.r0 (V.a3 hl3 hkc @jif) ?_
            exact ⟨(true, k + 1, ([] : List Int) ++ [(x + c + y)], 0), ⟨hl2, hdg, by dsimp only; omega, hst, by dsimp only; omega, fun h => by cases h⟩, by dsimp only; omega, V.wk⟩
        · rw [decide_eq_false_iff_not] at hy
          have := gy (by omega)
          refine V.r0 @jih ?_
          refine V.br (fun hz => ?_) (fun hz => ?_)
          · rw [decide_eq_true_eq] at hz
            have hst := jax (B := 1000000000) (x := x) (y := y) (d := (x + c - 1000000000)) (c' := 1) h1 h4 (by omega)
            rw [← vx, ← vy] at hst
            have hdg : Dg 1000000000 (([] : List Int) ++ [(x + c - 1000000000)]) := jah h2 (jau (by omega))
            have hl2 : (([] : List Int) ++ [(x + c - 1000000000)]).length = k + 1 := by simp [h1]
            have hl3 : (([] : List Int)).length + (List.take 1 (List.drop 0 [(x + c - 1000000000)])).length = (([] : List Int) ++ [(x + c - 1000000000)]).length := by simp
            have hkc : ((k : Int) + 1) = ((k + 1 : Nat) : Int) := by omega
            refine V.r0 (V.a3 hl3 hkc @jif) ?_
            try refine And.intro (fun _ => ⟨trivial, by omega⟩) ?_
            refine V.r0 (V.a3 hl3 hkc @jif) ?_
            exact ⟨(true, k + 1, ([] : List Int) ++ [(x + c - 1000000000)], 1), ⟨hl2, hdg, by dsimp only; omega, hst, by dsimp only; omega, fun h => by cases h⟩, by dsimp only; omega, V.wk⟩
          · rw [decide_eq_false_iff_not] at hz
            have hst := jax (B := 1000000000) (x := x) (y := y) (d := (x + c)) (c' := 0) h1 h4 (by omega)
            rw [← vx, ← vy] at hst
            have hdg : Dg 1000000000 (([] : List Int) ++ [(x + c)]) := jah h2 (jau (by omega))
            have hl2 : (([] : List Int) ++ [(x + c)]).length = k + 1 := by simp [h1]
            have hl3 : (([] : List Int)).length + (List.take 1 (List.drop 0 [(x + c)])).length = (([] : List Int) ++ [(x + c)]).length := by simp
            have hkc : ((k : Int) + 1) = ((k + 1 : Nat) : Int) := by omega
            refine V.r0 (V.a3 hl3 hkc @jif) ?_
            try refine And.intro (fun _ => ⟨trivial, by omega⟩) ?_
            refine V.r0 (V.a3 hl3 hkc @jif) ?_
            exact ⟨(true, k + 1, ([] : List Int) ++ [(x + c)], 0), ⟨hl2, hdg, by dsimp only; omega, hst, by dsimp only; omega, fun h => by cases h⟩, by dsimp only; omega, V.wk⟩
      · rw [decide_eq_false_iff_not] at hq
        have h7 : k = 0 := by simpa using h1.symm
        have h8 : (xs).length = 0 := by omega
        have e2 := hex.mp (jiK.mp h8)
        have e3 := hey.mp (jiK.mp (by omega))
        have e4 : c = 0 := by
          rw [jiZ (by omega), jiZ (by omega), hvx, hvy, e2, e3, h7] at h4
          simpa [val] using h4
        subst e4 h7
        rw [e2, e3]
        (conv => whnf)
        refine V.st ?_
        exact Fin.of rfl
    · clear h6
      dsimp only at h1 h2 h3 h4 h5 ⊢
      have vx := jai 1000000000 xs k
      have vy := jai 1000000000 ys k
      have bx := jam (by omega) hdx k
      have by' := jam (by omega) hdy k
      have gy := jb0 (xs := ys) (k := k)
      generalize hx0 : (xs).getD k 0 = x at *
      generalize hy0 : (ys).getD k 0 = y at *
      refine V.r0 @jih ?_
      refine V.br (fun hq => ?_) (fun hq => ?_)
      · rw [decide_eq_true_eq] at hq
        refine V.r0 (V.a2 @jih hx0) ?_
        refine V.br (fun hy => ?_) (fun hy => ?_)
        · rw [decide_eq_true_eq] at hy
          refine V.r0 (V.a2 @jih hy0) ?_
          refine V.br (fun hz => ?_) (fun hz => ?_)
          · rw [decide_eq_true_eq] at hz
            have hst := jax (B := 1000000000) (x := x) (y := y) (d := (x + c + y - 1000000000)) (c' := 1) h1 h4 (by omega)
            rw [← vx, ← vy] at hst
            have hdg : Dg 1000000000 (out ++ [(x + c + y - 1000000000)]) := jah h2 (jau (by omega))
            have hl2 : (out ++ [(x + c + y - 1000000000)]).length = k + 1 := by simp [h1]
            have hl3 : (out).length + (List.take 1 (List.drop 0 [(x + c + y - 1000000000)])).length = (out ++ [(x + c + y - 1000000000)]).length := by simp
            have hkc : ((k : Int) + 1) = ((k + 1 : Nat) : Int) := by omega
            refine V.r0 (V.a3 hl3 hkc @jif) ?_
            try refine And.intro (fun _ => ⟨trivial, by omega⟩) ?_
            refine V.r0 (V.a3 hl3 hkc @jif) ?_
            exact ⟨(true, k + 1, out ++ [(x + c + y - 1000000000)], 1), ⟨hl2, hdg, by dsimp only; omega, hst, by dsimp only; omega, fun h => by cases h⟩, by dsimp only; omega, V.wk⟩
          · rw [decide_eq_false_iff_not] at hz
            have hst := jax (B := 1000000000) (x := x) (y := y) (d := (x + c + y)) (c' := 0) h1 h4 (by omega)
            rw [← vx, ← vy] at hst
            have hdg : Dg 1000000000 (out ++ [(x + c + y)]) := jah h2 (jau (by omega))
            have hl2 : (out ++ [(x + c + y)]).length = k + 1 := by simp [h1]
            have hl3 : (out).length + (List.take 1 (List.drop 0 [(x + c + y)])).length = (out ++ [(x + c + y)]).length := by simp
            have hkc : ((k : Int) + 1) = ((k + 1 : Nat) : Int) := by omega
            refine V.r0 (V.a3 hl3 hkc @jif) ?_
            try refine And.intro (fun _ => ⟨trivial, by omega⟩) ?_
            refine V.r0 (V.a3 hl3 hkc @jif) ?_
            exact ⟨(true, k + 1, out ++ [(x + c + y)], 0), ⟨hl2, hdg, by dsimp only; omega, hst, by dsimp only; omega, fun h => by cases h⟩, by dsimp only; omega, V.wk⟩
        · rw [decide_eq_false_iff_not] at hy
          have := gy (by omega)
          refine V.r0 @jih ?_
          refine V.br (fun hz => ?_) (fun hz => ?_)
          · rw [decide_eq_true_eq] at hz
            have hst := jax (B := 1000000000) (x := x) (y := y) (d := (x + c - 1000000000)) (c' := 1) h1 h4 (by omega)
            rw [← vx, ← vy] at hst
            have hdg : Dg 1000000000 (out ++ [(x + c - 1000000000)]) := jah h2 (jau (by omega))
            have hl2 : (out ++ [(x + c - 1000000000)]).length = k + 1 := by simp [h1]
            have hl3 : (out).length + (List.take 1 (List.drop 0 [(x + c - 1000000000)])).length = (out ++ [(x + c - 1000000000)]).length := by simp
            have hkc : ((k : Int) + 1) = ((k + 1 : Nat) : Int) := by omega
            refine V.r0 (V.a3 hl3 hkc @jif) ?_
            try refine And.intro (fun _ => ⟨trivial, by omega⟩) ?_
            refine V.r0 (V.a3 hl3 hkc @jif) ?_
            exact ⟨(true, k + 1, out ++ [(x + c - 1000000000)], 1), ⟨hl2, hdg, by dsimp only; omega, hst, by dsimp only; omega, fun h => by cases h⟩, by dsimp only; omega, V.wk⟩
          · rw [decide_eq_false_iff_not] at hz
            have hst := jax (B := 1000000000) (x := x) (y := y) (d := (x + c)) (c' := 0) h1 h4 (by omega)
            rw [← vx, ← vy] at hst
            have hdg : Dg 1000000000 (out ++ [(x + c)]) := jah h2 (jau (by omega))
            have hl2 : (out ++ [(x + c)]).length = k + 1 := by simp [h1]
            have hl3 : (out).length + (List.take 1 (List.drop 0 [(x + c)])).length = (out ++ [(x + c)]).length := by simp
            have hkc : ((k : Int) + 1) = ((k + 1 : Nat) : Int) := by omega
            refine V.r0 (V.a3 hl3 hkc @jif) ?_
            try refine And.intro (fun _ => ⟨trivial, by omega⟩) ?_
            refine V.r0 (V.a3 hl3 hkc @jif) ?_
            exact ⟨(true, k + 1, out ++ [(x + c)], 0), ⟨hl2, hdg, by dsimp only; omega, hst, by dsimp only; omega, fun h => by cases h⟩, by dsimp only; omega, V.wk⟩
      · rw [decide_eq_false_iff_not] at hq
        have hk : k = (xs).length := by omega
        rw [jiZ (by omega), jiZ (by omega), hvx, hvy] at h4
        (conv => whnf)
        refine V.st ?_
        refine V.br (fun hc => ?_) (fun hc => ?_)
        · rw [decide_eq_true_eq] at hc
          have hc1 : c = 1 := by omega
          subst hc1
          have h8 : out ++ [1] = mg 1000000000 (a + b) := by
            have h9 : val 1000000000 (out ++ [1]) = ((a + b : Nat) : Int) := by rw [jaQ, h1]; omega
            have h10 := jds (B := 1000000000) (l := out ++ [1]) (by omega) (jah h2 (jau (by omega))) (by
              rw [jaQ, jiP, List.length_singleton, Nat.add_sub_cancel]
              have := jan h2
              omega)
            rw [h10, h9]; rfl
          (conv => whnf)
          refine V.st ?_
          exact Fin.of (by rw [← h8]; exact congrArg _ (jiZ (by simp)))
        · rw [decide_eq_false_iff_not] at hc
          have hc1 : c = 0 := by omega
          subst hc1
          have h8 : out = mg 1000000000 (a + b) := by
            have h9 : val 1000000000 out = ((a + b : Nat) : Int) := by omega
            rcases jij a with h0 | h0
            · have h10 : (xs).length = 0 := by rw [hex.mpr h0]; rfl
              have e3 := hey.mp (jiK.mp (by omega))
              rw [h0, e3, jiK.mp (by omega : out.length = 0)]; rfl
            · have h10 := jds (B := 1000000000) (l := out) (by omega) h2 (by
                have h11 := hpx h0
                rw [h1, h9, hk]
                have h12 : ((1000000000 ^ ((xs).length - 1) : Nat) : Int) ≤ (a : Int) := by exact_mod_cast h11
                rw [jiC] at h12
                omega)
              rw [h10, h9]; rfl
          (conv => whnf)
          refine V.st ?_
          exact Fin.of (by rw [← h8, jiZ (by simp)])
theorem jf5 {out : List Int} {n k : Nat} {d : Int} (h : out.length = k) (hk : k < n) : (out ++ List.replicate (n - k) 0).set k d = (out ++ [d]) ++ List.replicate (n - (k + 1)) 0 := by
 subst h
 have e : n - out.length = (n - (out.length + 1)) + 1 := by omega
 rw [e, List.replicate_succ, List.set_append_right _ _ (jii _), Nat.sub_self, List.set_cons_zero]
 simp
theorem jh8 : type_of% @jih ∧ type_of% @jif := ⟨@jih, @jif⟩
theorem minus_m (a b : Nat) (hba : b ≤ a) (ha : (mg 1000000000 a).length ≤ 100000000) : Called Tryz.prog 185 [.ints .u32 (mg 1000000000 a), .ints .u32 (mg 1000000000 b)] (.ints .u32 (mg 1000000000 (a - b))) := by
 have hdx := mg_dg (B := 1000000000) (by omega) a
 have hdy := mg_dg (B := 1000000000) (by omega) b
 have hvx := jaC (B := 1000000000) (by omega) a
 have hvy := jaC (B := 1000000000) (by omega) b
 have hlen := jaf (B := 1000000000) (by omega) hba
 generalize mg 1000000000 a = xs at *
 generalize mg 1000000000 b = ys at *
 refine V.en tbOk Tryz.func185 ?_
 refine V.r0 @jih ?_
 refine jac ((0, [], 0) : Nat × List Int × Int) (fun s => s.2.1.length = s.1 ∧ Dg 1000000000 s.2.1 ∧ (0 ≤ s.2.2 ∧ s.2.2 ≤ 1) ∧ val 1000000000 s.2.1 - s.2.2 * ((1000000000 : Nat) : Int) ^ s.1 = val 1000000000 (xs.take s.1) - val 1000000000 (ys.take s.1) ∧ s.1 ≤ xs.length) (fun s => xs.length - s.1)
  (fun s => [(15, .int .i64 s.1), (6, .int .u32 s.2.2), (5, .osl 12 0 xs.length)]) (fun s => [(12, .arr .u32 (s.2.1 ++ List.replicate (xs.length - s.1) 0))]) ?_ ?_ ?_
 ·exact V.wk
 ·exact ⟨rfl, fun x hx => by simp at hx, by simp, by simp [val], jib _⟩
 rintro ⟨k, out, c⟩ ⟨h1, h2, h3, h4, h5⟩
 dsimp only at h1 h2 h3 h4 h5 ⊢
 have vx := jai 1000000000 xs k
 have vy := jai 1000000000 ys k
 have bx := jam (by omega) hdx k
 have by' := jam (by omega) hdy k
 have gy := jb0 (xs := ys) (k := k)
 generalize hx0 : xs.getD k 0 = x at *
 generalize hy0 : ys.getD k 0 = y at *
 refine V.r0 @jih ?_
 refine V.br (fun hq => ?_) (fun hq => ?_)
 ·rw [decide_eq_true_eq] at hq
  refine V.r0 (V.a2 @jih hx0) ?_
  refine V.br (fun hy => ?_) (fun hy => ?_)
  ·rw [decide_eq_true_eq] at hy
   refine V.r0 (V.a2 @jih hy0) ?_
   refine V.br (fun hz => ?_) (fun hz => ?_)
   ·rw [decide_eq_true_eq] at hz
    have hst := jbN (B := 1000000000) (x := x) (y := y) (d := (x + 1000000000 - (c + y))) (b' := 1) h1 h4 (by omega)
    rw [← vx, ← vy] at hst
    have hdg : Dg 1000000000 (out ++ [(x + 1000000000 - (c + y))]) := jah h2 (jau (by omega))
    have hps := jf5 (d := (x + 1000000000 - (c + y))) (n := xs.length) h1 (by omega)
    have hkc : ((k : Int) + 1) = ((k + 1 : Nat) : Int) := by omega
    refine V.r0 (V.a3 jh8 hps hkc) ?_
    refine V.r0 (V.a3 jh8 hps hkc) ?_
    exact ⟨(k + 1, out ++ [(x + 1000000000 - (c + y))], 1), ⟨by dsimp only; simp [h1], hdg, by dsimp only; omega, hst, by dsimp only; omega⟩, by dsimp only; omega, V.wk⟩
   ·rw [decide_eq_false_iff_not] at hz
    have hst := jbN (B := 1000000000) (x := x) (y := y) (d := (x - (c + y))) (b' := 0) h1 h4 (by omega)
    rw [← vx, ← vy] at hst
    have hdg : Dg 1000000000 (out ++ [(x - (c + y))]) := jah h2 (jau (by omega))
    have hps := jf5 (d := (x - (c + y))) (n := xs.length) h1 (by omega)
    have hkc : ((k : Int) + 1) = ((k + 1 : Nat) : Int) := by omega
    refine V.r0 (V.a3 jh8 hps hkc) ?_
    refine V.r0 (V.a3 jh8 hps hkc) ?_
    exact ⟨(k + 1, out ++ [(x - (c + y))], 0), ⟨by dsimp only; simp [h1], hdg, by dsimp only; omega, hst, by dsimp only; omega⟩, by dsimp only; omega, V.wk⟩
  ·rw [decide_eq_false_iff_not] at hy
   have := gy (by omega)
   refine V.r0 @jih ?_
   refine V.br (fun hz => ?_) (fun hz => ?_)
   ·rw [decide_eq_true_eq] at hz
    have hst := jbN (B := 1000000000) (x := x) (y := y) (d := (x + 1000000000 - c)) (b' := 1) h1 h4 (by omega)
    rw [← vx, ← vy] at hst
    have hdg : Dg 1000000000 (out ++ [(x + 1000000000 - c)]) := jah h2 (jau (by omega))
    have hps := jf5 (d := (x + 1000000000 - c)) (n := xs.length) h1 (by omega)
    have hkc : ((k : Int) + 1) = ((k + 1 : Nat) : Int) := by omega
    refine V.r0 (V.a3 jh8 hps hkc) ?_
    refine V.r0 (V.a3 jh8 hps hkc) ?_
    exact ⟨(k + 1, out ++ [(x + 1000000000 - c)], 1), ⟨by dsimp only; simp [h1], hdg, by dsimp only; omega, hst, by dsimp only; omega⟩, by dsimp only; omega, V.wk⟩
   ·rw [decide_eq_false_iff_not] at hz
    have hst := jbN (B := 1000000000) (x := x) (y := y) (d := (x - c)) (b' := 0) h1 h4 (by omega)
    rw [← vx, ← vy] at hst
    have hdg : Dg 1000000000 (out ++ [(x - c)]) := jah h2 (jau (by omega))
    have hps := jf5 (d := (x - c)) (n := xs.length) h1 (by omega)
    have hkc : ((k : Int) + 1) = ((k + 1 : Nat) : Int) := by omega
    refine V.r0 (V.a3 jh8 hps hkc) ?_
    refine V.r0 (V.a3 jh8 hps hkc) ?_
    exact ⟨(k + 1, out ++ [(x - c)], 0), ⟨by dsimp only; simp [h1], hdg, by dsimp only; omega, hst, by dsimp only; omega⟩, by dsimp only; omega, V.wk⟩
 ·rw [decide_eq_false_iff_not] at hq
  have hk : k = xs.length := by omega
  rw [jiZ (by omega), jiZ (by omega), hvx, hvy] at h4
  have h0 := jan h2
  have h6 := jb2 h2
  have hc : c = 0 := by
   rw [h1] at h6
   rcases (by omega : c = 0 ∨ c = 1) with e | e
   ·exact e
   ·subst e; omega
  subst hc
  have htr := jfm out h2 (by omega)
  rw [(by omega : (val 1000000000 out).toNat = a - b)] at htr
  have hrep : out ++ List.replicate (xs.length - k) 0 = out := by rw [hk, Nat.sub_self]; simp
  rw [hrep]
  rw [← jja (l := out), h1, hk] at htr
  (conv => whnf)
  refine V.st ?_
  repeat ((try ((with_reducible refine .ext ?_); (conv => whnf))); (with_reducible refine jaa (r := ?_) ?_ ?_); rotate_left; (focus (first | exact (htr))); (conv => whnf); refine V.st ?_)
  exact Fin.of rfl
theorem jeG (x y : Rat) : (x.num * y.den + -(y.num * x.den)).sign = (if x < y then -1 else if x = y then 0 else 1 : Int) := by
 have h1 : x < y ↔ x.num * y.den < y.num * x.den := Rat.lt_iff x y
 have h2 : x = y ↔ x.num * y.den = y.num * x.den := by
  conv => lhs; rw [← jiH x, ← jiH y]
  exact Rat.divInt_eq_divInt_iff (by have := x.den_pos; omega) (by have := y.den_pos; omega)
 by_cases a1 : x < y
 ·rw [if_pos a1]; exact jiF (by have := h1.1 a1; omega)
 ·rw [if_neg a1]
  by_cases a2 : x = y
  ·rw [if_pos a2, show x.num * y.den + -(y.num * x.den) = 0 by have := h2.1 a2; omega]; rfl
  ·rw [if_neg a2]
   refine jiG ?_
   have b1 : ¬ (x.num * y.den < y.num * x.den) := fun h => a1 (h1.2 h)
   have b2 : ¬ (x.num * y.den = y.num * x.den) := fun h => a2 (h2.2 h)
   omega
def ordQ (x y : Rat) : Int := if x < y then -1 else if x = y then 0 else 1
def S9 (k : Nat) (z : Int) : Prop := (mg 1000000000 z.natAbs).length ≤ k
theorem S9.mono {k l : Nat} {z : Int} (h : S9 k z) (hl : k ≤ l) : S9 l z := jiq h hl
theorem S9.neg {k : Nat} {z : Int} (h : S9 k z) : S9 k (-z) := by unfold S9 at *; rw [Int.natAbs_neg]; exact h
theorem S9.le {k : Nat} {y z : Int} (h : S9 k z) (hy : y.natAbs ≤ z.natAbs) : S9 k y := jiq (jaf (by omega) hy) h
theorem S9.mul {k l : Nat} {y z : Int} (h : S9 k y) (h2 : S9 l z) : S9 (k + l) (y * z) := by
 unfold S9 at *
 rw [Int.natAbs_mul]
 have := jbE (B := 1000000000) (by omega) y.natAbs z.natAbs
 omega
theorem S9.add {k : Nat} {y z : Int} (h : S9 k y) (h2 : S9 k z) : S9 (k + 1) (y + z) := by
 unfold S9 at *
 have h3 := jcP (B := 1000000000) (by omega) y.natAbs z.natAbs
 have h4 := jaf (B := 1000000000) (by omega) (Int.natAbs_add_le y z)
 omega
theorem S9.lit {k : Nat} {z : Int} (h : z.natAbs < 1000000000 ^ k) : S9 k z := jav (by omega) h
theorem S9.nat {k : Nat} {n : Nat} : S9 k (n : Int) ↔ (mg 1000000000 n).length ≤ k := by unfold S9; rw [jix]
theorem sum_c9 (x y : Int) (hx : S9 90000000 x) (hy : S9 90000000 y) : Called Tryz.prog 152 [itD x, itD y] (itD (x + y)) := by
 unfold S9 at hx hy
 have hl := jcP (B := 1000000000) (by omega) x.natAbs y.natAbs
 have hs := plus_m x.natAbs y.natAbs (by omega) (by omega)
 have ho := jca x.natAbs y.natAbs (by omega) (by omega)
 rw [show itD x = .agg [.ints .u32 (mg 1000000000 x.natAbs), .bool (decide (x < 0))] from rfl, show itD y = .agg [.ints .u32 (mg 1000000000 y.natAbs), .bool (decide (y < 0))] from rfl]
 refine V.en tbOk Tryz.func152 ?_
 (conv => whnf)
 refine V.st ?_
 refine V.br (fun hq => ?_) (fun hq => ?_)
 ·rw [beq_iff_eq, decide_eq_decide] at hq
  have hm := jaW (x.natAbs + y.natAbs) (decide (x < 0))
  have e : (if decide (x < 0) = true then -((x.natAbs + y.natAbs : Nat) : Int) else ((x.natAbs + y.natAbs : Nat) : Int)) = x + y := by
   by_cases h : x < 0
   ·simp [h]; omega
   ·simp [h]; omega
  rw [e] at hm
  (conv => whnf)
  refine V.st ?_
  refine ⟨(V.tk [0,1,2,3,5,6] (V.e1 4 [6,5] (V.e1 7 [] (V.e1 8 [] .done)))), [], V.pok, .go (jad ?_)⟩
  (conv => whnf)
  refine V.st ?_
  repeat ((try ((with_reducible refine .ext ?_); (conv => whnf))); (with_reducible refine jaa (r := ?_) ?_ ?_); rotate_left; (focus (first | exact (hs) | exact (hm))); (conv => whnf); refine V.st ?_)
  exact Fin.of rfl
 ·have hq' : ¬ (x < 0 ↔ y < 0) := fun h => by rw [beq_eq_false_iff_ne] at hq; exact hq (decide_eq_decide.2 h)
  (conv => whnf)
  refine V.st ?_
  repeat ((try ((with_reducible refine .ext ?_); (conv => whnf))); (with_reducible refine jaa (r := ?_) ?_ ?_); rotate_left; (focus (first | exact (ho))); (conv => whnf); refine V.st ?_)
  refine V.br (fun hq2 => ?_) (fun hq2 => ?_)
  ·rw [decide_eq_true_eq] at hq2
   have hq3 := Int.neg_of_sign_eq_neg_one (a := ((x.natAbs : Int) - y.natAbs)) (by have := Int.sign_trichotomy ((x.natAbs : Int) - y.natAbs); omega)
   have hd := minus_m y.natAbs x.natAbs (by omega) (by omega)
   have hm := jaW (y.natAbs - x.natAbs) (decide (y < 0))
   have e : (if decide (y < 0) = true then -((y.natAbs - x.natAbs : Nat) : Int) else ((y.natAbs - x.natAbs : Nat) : Int)) = x + y := by
    by_cases h : y < 0
    ·simp [h]; omega
    ·simp [h]; omega
   rw [e] at hm
   (conv => whnf)
   refine V.st ?_
   refine ⟨(V.tk [0,1,2,3,5,6] (V.e1 4 [6,5] (V.e1 7 [] (V.e1 8 [] .done)))), [], V.pok, .go (jad ?_)⟩
   (conv => whnf)
   refine V.st ?_
   repeat ((try ((with_reducible refine .ext ?_); (conv => whnf))); (with_reducible refine jaa (r := ?_) ?_ ?_); rotate_left; (focus (first | exact (hd) | exact (hm))); (conv => whnf); refine V.st ?_)
   exact Fin.of rfl
  ·rw [decide_eq_false_iff_not] at hq2
   have hq3 : ¬ ((x.natAbs : Int) - y.natAbs) < 0 := fun h => hq2 (by rw [jiF h]; decide)
   have hd := minus_m x.natAbs y.natAbs (by omega) (by omega)
   have hm := jaW (x.natAbs - y.natAbs) (decide (x < 0))
   have e : (if decide (x < 0) = true then -((x.natAbs - y.natAbs : Nat) : Int) else ((x.natAbs - y.natAbs : Nat) : Int)) = x + y := by
    by_cases h : x < 0
    ·simp [h]; omega
    ·simp [h]; omega
   rw [e] at hm
   (conv => whnf)
   refine V.st ?_
   refine ⟨(V.tk [0,1,2,3,5,6] (V.e1 4 [6,5] (V.e1 7 [] (V.e1 8 [] .done)))), [], V.pok, .go (jad ?_)⟩
   (conv => whnf)
   refine V.st ?_
   repeat ((try ((with_reducible refine .ext ?_); (conv => whnf))); (with_reducible refine jaa (r := ?_) ?_ ?_); rotate_left; (focus (first | exact (hd) | exact (hm))); (conv => whnf); refine V.st ?_)
   exact Fin.of rfl
theorem jdg (x : Int) (d : Nat) (hx : S9 90000000 x) (hd : (mg 1000000000 d).length ≤ 90000000) : Called Tryz.prog 150 [itD x, .ints .u32 (mg 1000000000 d)] (itD (x * d)) := by
 unfold S9 at hx
 have ht := jcv x.natAbs d (by omega) (by omega)
 have hm := jaW (x.natAbs * d) (decide (x < 0))
 have e : (if decide (x < 0) = true then -((x.natAbs * d : Nat) : Int) else ((x.natAbs * d : Nat) : Int)) = x * d := by
  rw [jis]
  by_cases h : x < 0
  ·have e2 : (x.natAbs : Int) = -x := by omega
   rw [e2, decide_eq_true h, if_pos rfl, Int.neg_mul, Int.neg_neg]
  ·have e2 : (x.natAbs : Int) = x := by omega
   rw [e2]; simp [h]
 rw [e] at hm
 refine V.en tbOk Tryz.func150 ?_
 (conv => whnf)
 refine V.st ?_
 refine ⟨(V.tk [0,1,2,4,5] (V.e1 3 [5,4] (V.e1 6 [] (V.e1 7 [] .done)))), [], V.pok, .go (jad ?_)⟩
 (conv => whnf)
 refine V.st ?_
 repeat ((try ((with_reducible refine .ext ?_); (conv => whnf))); (with_reducible refine jaa (r := ?_) ?_ ?_); rotate_left; (focus (first | exact (ht) | exact (hm))); (conv => whnf); refine V.st ?_)
 exact Fin.of rfl
theorem jfy (x : Int) : Called Tryz.prog 195 [itD x] (itD (-x)) := by
 have hm := jaW x.natAbs (!decide (x < 0))
 have e : (if (!decide (x < 0)) = true then -(x.natAbs : Int) else (x.natAbs : Int)) = -x := by
  by_cases h : x < 0
  ·simp [h]; omega
  ·simp [h]; omega
 rw [e] at hm
 refine V.en tbOk Tryz.func195 ?_
 (conv => whnf)
 refine V.st ?_
 repeat ((try ((with_reducible refine .ext ?_); (conv => whnf))); (with_reducible refine jaa (r := ?_) ?_ ?_); rotate_left; (focus (first | exact (hm))); (conv => whnf); refine V.st ?_)
 exact Fin.of rfl
theorem sign_c (x : Int) : Called Tryz.prog 146 [itD x] (.int .i64 x.sign) := by
 have hz := jc9 x.natAbs
 refine V.en tbOk Tryz.func146 ?_
 (conv => whnf)
 refine V.st ?_
 repeat ((try ((with_reducible refine .ext ?_); (conv => whnf))); (with_reducible refine jaa (r := ?_) ?_ ?_); rotate_left; (focus (first | exact (hz))); (conv => whnf); refine V.st ?_)
 refine V.br (fun hq => ?_) (fun hq => ?_)
 ·rw [decide_eq_true_eq] at hq
  (conv => whnf)
  refine V.st ?_
  exact Fin.of (by rw [show x = 0 by omega]; rfl)
 ·rw [decide_eq_false_iff_not] at hq
  (conv => whnf)
  refine V.st ?_
  refine V.br (fun hq2 => ?_) (fun hq2 => ?_)
  ·rw [decide_eq_true_eq] at hq2
   (conv => whnf)
   refine V.st ?_
   exact Fin.of (by rw [jiF hq2])
  ·rw [decide_eq_false_iff_not] at hq2
   (conv => whnf)
   refine V.st ?_
   exact Fin.of (by rw [jiG (by omega)])
theorem jf6 (x y : Rat) (hx : S9 40000000 x.num) (hy : S9 40000000 y.num) (hxd : (mg 1000000000 x.den).length ≤ 40000000) (hyd : (mg 1000000000 y.den).length ≤ 40000000) : Called Tryz.prog 165 [rtD x, rtD y] (.int .i64 (ordQ x y)) := by
 have s1 := jdg x.num y.den (hx.mono (by omega)) (by omega)
 have s2 := jdg y.num x.den (hy.mono (by omega)) (by omega)
 have s3 := jfy (y.num * x.den)
 have z1 : S9 80000000 (x.num * y.den) := hx.mul (S9.nat.2 hyd)
 have z2 : S9 80000000 (y.num * x.den) := hy.mul (S9.nat.2 hxd)
 have s4 := sum_c9 (x.num * y.den) (-(y.num * x.den)) (z1.mono (by omega)) (z2.neg.mono (by omega))
 have s5 := sign_c (x.num * y.den + -(y.num * x.den))
 rw [jeG] at s5
 refine V.en tbOk Tryz.func165 ?_
 (conv => whnf)
 refine V.st ?_
 refine ⟨(V.tk [0,1,2,3,5,6,7,8] (V.e1 4 [8,7,6,5] (V.e1 9 [] (V.e1 10 [] (V.e1 11 [] (V.e1 12 [] (V.tk [13] .done))))))), [], V.pok, .go (jad ?_)⟩
 (conv => whnf)
 refine V.st ?_
 repeat ((try ((with_reducible refine .ext ?_); (conv => whnf))); (with_reducible refine jaa (r := ?_) ?_ ?_); rotate_left; (focus (first | exact (s1) | exact (s2) | exact (s3) | exact (s4) | exact (s5))); (conv => whnf); refine V.st ?_)
 exact Fin.of rfl
theorem floor_neg (x : Int) (d : Nat) (hx : x < 0) (hd : 0 < d) : x / (d : Int) = if x.natAbs % d = 0 then -((x.natAbs / d : Nat) : Int) else -((x.natAbs / d + 1 : Nat) : Int) := by
 have h1 := Nat.div_add_mod x.natAbs d
 have h2 := jik x.natAbs hd
 have e : x = -(x.natAbs : Int) := by omega
 generalize x.natAbs = n at *
 generalize hq : n / d = q at *
 generalize hr : n % d = r at *
 subst e
 have h3 : ((d * q + r : Nat) : Int) = (n : Int) := by rw [h1]
 rw [Int.natCast_add, jis] at h3
 split
 ·rename_i h
  subst h
  rw [← h3, Int.natCast_zero, jiB, ← Int.mul_neg, Int.mul_ediv_cancel_left _ (by omega)]
 ·rw [Int.natCast_add, Int.natCast_one]
  refine (Int.ediv_eq_iff_of_pos (by omega)).2 ⟨?_, ?_⟩
  ·rw [← h3, Int.neg_mul, jiD, jiu (q : Int)]; omega
  ·rw [← h3, Int.neg_mul, jiD, jiu (q : Int)]; omega
theorem floor_c (x : Int) (d : Nat) (hd : 0 < d) (hx : S9 80000000 x) (hdl : (mg 1000000000 d).length ≤ 80000000) : Called Tryz.prog 154 [itD x, .ints .u32 (mg 1000000000 d)] (itD (x / d)) := by
 unfold S9 at hx
 have h1 := ja6 x.natAbs d hd (by omega) (by omega)
 have h2 := jc9 (x.natAbs % d)
 have hl2 := jaf (B := 1000000000) (by omega) (jiz x.natAbs d)
 have h3 := plus_m (x.natAbs / d) 1 (by omega) (by decide)
 have h4 := jaW (x.natAbs / d + 1) (decide (x < 0))
 have h5 := jaW (x.natAbs / d) (decide (x < 0))
 by_cases hx0 : x < 0
 ·rw [floor_neg x d hx0 hd]
  rw [show itD x = .agg [.ints .u32 (mg 1000000000 x.natAbs), .bool (decide (x < 0))] from rfl]
  rw [decide_eq_true hx0] at h4 h5 ⊢
  rw [if_pos rfl] at h4 h5
  refine V.en tbOk Tryz.func154 ?_
  (conv => whnf)
  refine V.st ?_
  repeat ((try ((with_reducible refine .ext ?_); (conv => whnf))); (with_reducible refine jaa (r := ?_) ?_ ?_); rotate_left; (focus (first | exact (h1) | exact (h2))); (conv => whnf); refine V.st ?_)
  refine V.br (fun hq => ?_) (fun hq => ?_)
  ·simp only [Bool.true_and, Bool.not_eq_true', decide_eq_false_iff_not] at hq
   rw [if_neg hq]
   (conv => whnf)
   refine V.st ?_
   repeat ((try ((with_reducible refine .ext ?_); (conv => whnf))); (with_reducible refine jaa (r := ?_) ?_ ?_); rotate_left; (focus (first | exact (h3) | exact (h4))); (conv => whnf); refine V.st ?_)
   exact Fin.of rfl
  ·simp only [Bool.true_and, Bool.not_eq_false', decide_eq_true_eq] at hq
   rw [if_pos hq]
   (conv => whnf)
   refine V.st ?_
   repeat ((try ((with_reducible refine .ext ?_); (conv => whnf))); (with_reducible refine jaa (r := ?_) ?_ ?_); rotate_left; (focus (first | exact (h5))); (conv => whnf); refine V.st ?_)
   exact Fin.of rfl
 ·have e : x / (d : Int) = ((x.natAbs / d : Nat) : Int) := by
   rw [Int.natCast_ediv]; congr 1; omega
  rw [e]
  rw [show itD x = .agg [.ints .u32 (mg 1000000000 x.natAbs), .bool (decide (x < 0))] from rfl]
  rw [decide_eq_false hx0] at h5 ⊢
  rw [if_neg (by simp)] at h5
  refine V.en tbOk Tryz.func154 ?_
  (conv => whnf)
  refine V.st ?_
  repeat ((try ((with_reducible refine .ext ?_); (conv => whnf))); (with_reducible refine jaa (r := ?_) ?_ ?_); rotate_left; (focus (first | exact (h1) | exact (h2))); (conv => whnf); refine V.st ?_)
  refine V.br (fun hq => ?_) (fun hq => ?_)
  ·simp at hq
  ·(conv => whnf)
   refine V.st ?_
   repeat ((try ((with_reducible refine .ext ?_); (conv => whnf))); (with_reducible refine jaa (r := ?_) ?_ ?_); rotate_left; (focus (first | exact (h5))); (conv => whnf); refine V.st ?_)
   exact Fin.of rfl
end Go.Proofs.YtgjgpdceghjajaaGreatDoor
end
