/- What some functions of the program answer at values that mean given lists, texts and numbers, each proved of the program's own code: part 22. Conditions: those that each theorem names. -/
import Derived.Test.YtgjgpdceghjajaaGreatDoorSimplexKnownH17
import Derived.Test.YtgjgpdceghjajaaGreatDoorSimplexKnownH15
import Derived.Test.YtgjgpdceghjajaaGreatDoorSimplexKnownH14
set_option linter.unusedSimpArgs false
set_option linter.unusedVariables false
set_option maxHeartbeats 8000000
set_option maxRecDepth 100000
section
namespace Go.Proofs.YtgjgpdceghjajaaGreatDoor
open Go Go.V Go.Nb
theorem plus_m (a b : Nat) (ha : (mg 1000000000 a).length ≤ 100000000) (hb : (mg 1000000000 b).length ≤ 100000000) : Called Tryz.prog 184 [.ints .u32 (mg 1000000000 a), .ints .u32 (mg 1000000000 b)] (.ints .u32 (mg 1000000000 (a + b))) := by
  have hdx := mg_dg (B := 1000000000) (by omega) a
  have hdy := mg_dg (B := 1000000000) (by omega) b
  have hvx := jaD (B := 1000000000) (by omega) a
  have hvy := jaD (B := 1000000000) (by omega) b
  have hpx := fun h => jcn (B := 1000000000) (n := a) (by omega) h
  have hpy := fun h => jcn (B := 1000000000) (n := b) (by omega) h
  have hex := jcr (B := 1000000000) (n := a) (by omega)
  have hey := jcr (B := 1000000000) (n := b) (by omega)
  generalize mg 1000000000 a = xs at *
  generalize mg 1000000000 b = ys at *
  refine jaa tbOk 6 ⟨Tryz.func184, rfl, rfl, jhy rfl⟩ ?_
  (conv => whnf)
  refine V.st ?_
  refine Cnd.split (CondB.mk (fun hl => ?_) (fun hl => ?_))
  · rw [decide_eq_true_eq] at hl
    obtain ⟨N, hN⟩ : ∃ N, N = ys.length + 1 := ⟨_, rfl⟩
    have e1 : (ys.length : Int) + 1 = (N : Int) := by omega
    rw [Nat.add_comm a b]
    refine V.r0 (V.a2 e1 @jhD) ?_
    (obtain ⟨hdx, hdy⟩ := And.intro hdy hdx)
    refine jah ((false, 0, [], 0) : Bool × Nat × List Int × Int) (fun s => s.2.2.1.length = s.2.1 ∧ Dg 1000000000 s.2.2.1 ∧ (0 ≤ s.2.2.2 ∧ s.2.2.2 ≤ 1) ∧ val 1000000000 s.2.2.1 + s.2.2.2 * ((1000000000 : Nat) : Int) ^ s.2.1 = val 1000000000 ((ys).take s.2.1) + val 1000000000 ((xs).take s.2.1) ∧ s.2.1 ≤ (ys).length ∧ (s.1 = false → s.2.2.1 = [])) (fun s => (ys).length - s.2.1)
      (fun s => match s.1 with | false => [(22, .int .i64 s.2.1), (6, .int .u32 s.2.2.2), (5, .osl 19 0 0)] | true => [(22, .int .i64 s.2.1), (6, .int .u32 s.2.2.2), (5, .osl 47 0 s.2.2.1.length)]) (fun s => match s.1 with | false => [(19, .arr .u32 [])] | true => [(47, .arr .u32 s.2.2.1), (19, .gone)]) ?_ ?_ ?_
    · exact V.wk
    · exact ⟨rfl, fun x hx => by simp at hx, by simp, by simp [val], jhz _, fun _ => rfl⟩
    rintro ⟨_ | _, k, out, c⟩ ⟨h1, h2, h3, h4, h5, h6⟩
    · dsimp only at h1 h2 h3 h4 h5 h6 ⊢
      have h7 := h6 rfl
      clear h6
      subst h7
      have vx := jai 1000000000 ys k
      have vy := jai 1000000000 xs k
      have bx := jal (by omega) hdx k
      have by' := jal (by omega) hdy k
      have gy := jbU (xs := xs) (k := k)
      generalize hx0 : (ys).getD k 0 = x at *
      generalize hy0 : (xs).getD k 0 = y at *
      refine V.r0 @jhD ?_
      refine Cnd.split (CondB.mk (fun hq => ?_) (fun hq => ?_))
      · rw [decide_eq_true_eq] at hq
        refine V.r0 (V.a2 @jhD hx0) ?_
        refine Cnd.split (CondB.mk (fun hy => ?_) (fun hy => ?_))
        · rw [decide_eq_true_eq] at hy
          refine V.r0 (V.a2 @jhD hy0) ?_
          refine Cnd.split (CondB.mk (fun hz => ?_) (fun hz => ?_))
          · rw [decide_eq_true_eq] at hz
            have hst := jaw (B := 1000000000) (x := x) (y := y) (d := (x + c + y - 1000000000)) (c' := 1) h1 h4 (by omega)
            rw [← vx, ← vy] at hst
            have hdg : Dg 1000000000 (([] : List Int) ++ [(x + c + y - 1000000000)]) := jaj h2 (jas (by omega))
            have hl2 : (([] : List Int) ++ [(x + c + y - 1000000000)]).length = k + 1 := by simp [h1]
            have hl3 : (([] : List Int)).length + (List.take 1 (List.drop 0 [(x + c + y - 1000000000)])).length = (([] : List Int) ++ [(x + c + y - 1000000000)]).length := by simp
            have hkc : ((k : Int) + 1) = ((k + 1 : Nat) : Int) := by omega
            refine V.r0 (V.a3 hl3 hkc @jhC) ?_
            try refine And.intro (fun _ => ⟨trivial, by omega⟩) ?_
            refine V.r0 (V.a3 hl3 hkc @jhC) ?_
            exact ⟨(true, k + 1, ([] : List Int) ++ [(x + c + y - 1000000000)], 1), ⟨hl2, hdg, by dsimp only; omega, hst, by dsimp only; omega, fun h => by cases h⟩, by dsimp only; omega, V.wk⟩
          · rw [decide_eq_false_iff_not] at hz
            have hst := jaw (B := 1000000000) (x := x) (y := y) (d := (x + c + y)) (c' := 0) h1 h4 (by omega)
            rw [← vx, ← vy] at hst
            have hdg : Dg 1000000000 (([] : List Int) ++ [(x + c + y)]) := jaj h2 (jas (by omega))
            have hl2 : (([] : List Int) ++ [(x + c + y)]).length = k + 1 := by simp [h1]
            have hl3 : (([] : List Int)).length + (List.take 1 (List.drop 0 [(x + c + y)])).length = (([] : List Int) ++ [(x + c + y)]).length := by simp
            have hkc : ((k : Int) + 1) = ((k + 1 : Nat) : Int) := by omega
            refine V.r0 (V.a3 hl3 hkc @jhC) ?_
            try refine And.intro (fun _ => ⟨trivial, by omega⟩) ?_
            refine V.r0 (V.a3 hl3 hkc @jhC) ?_
            exact ⟨(true, k + 1, ([] : List Int) ++ [(x + c + y)], 0), ⟨hl2, hdg, by dsimp only; omega, hst, by dsimp only; omega, fun h => by cases h⟩, by dsimp only; omega, V.wk⟩
        · rw [decide_eq_false_iff_not] at hy
          have := gy (by omega)
          refine V.r0 @jhD ?_
          refine Cnd.split (CondB.mk (fun hz => ?_) (fun hz => ?_))
          · rw [decide_eq_true_eq] at hz
            have hst := jaw (B := 1000000000) (x := x) (y := y) (d := (x + c - 1000000000)) (c' := 1) h1 h4 (by omega)
            rw [← vx, ← vy] at hst
            have hdg : Dg 1000000000 (([] : List Int) ++ [(x + c - 1000000000)]) := jaj h2 (jas (by omega))
            have hl2 : (([] : List Int) ++ [(x + c - 1000000000)]).length = k + 1 := by simp [h1]
            have hl3 : (([] : List Int)).length + (List.take 1 (List.drop 0 [(x + c - 1000000000)])).length = (([] : List Int) ++ [(x + c - 1000000000)]).length := by simp
            have hkc : ((k : Int) + 1) = ((k + 1 : Nat) : Int) := by omega
            refine V.r0 (V.a3 hl3 hkc @jhC) ?_
            try refine And.intro (fun _ => ⟨trivial, by omega⟩) ?_
            refine V.r0 (V.a3 hl3 hkc @jhC) ?_
            exact ⟨(true, k + 1, ([] : List Int) ++ [(x + c - 1000000000)], 1), ⟨hl2, hdg, by dsimp only; omega, hst, by dsimp only; omega, fun h => by cases h⟩, by dsimp only; omega, V.wk⟩
          · rw [decide_eq_false_iff_not] at hz
            have hst := jaw (B := 1000000000) (x := x) (y := y) (d := (x + c)) (c' := 0) h1 h4 (by omega)
            rw [← vx, ← vy] at hst
            have hdg : Dg 1000000000 (([] : List Int) ++ [(x + c)]) := jaj h2 (jas (by omega))
            have hl2 : (([] : List Int) ++ [(x + c)]).length = k + 1 := by simp [h1]
            have hl3 : (([] : List Int)).length + (List.take 1 (List.drop 0 [(x + c)])).length = (([] : List Int) ++ [(x + c)]).length := by simp
            have hkc : ((k : Int) + 1) = ((k + 1 : Nat) : Int) := by omega
            refine V.r0 (V.a3 hl3 hkc @jhC) ?_
            try refine And.intro (fun _ => ⟨trivial, by omega⟩) ?_
            refine V.r0 (V.a3 hl3 hkc @jhC) ?_
            exact ⟨(true, k + 1, ([] : List Int) ++ [(x + c)], 0), ⟨hl2, hdg, by dsimp only; omega, hst, by dsimp only; omega, fun h => by cases h⟩, by dsimp only; omega, V.wk⟩
      · rw [decide_eq_false_iff_not] at hq
        have h7 : k = 0 := by simpa using h1.symm
        have h8 : (ys).length = 0 := by omega
        have e2 := hey.mp (List.length_eq_zero_iff.mp h8)
        have e3 := hex.mp (List.length_eq_zero_iff.mp (by omega))
        have e4 : c = 0 := by
          rw [List.take_of_length_le (by omega), List.take_of_length_le (by omega), hvy, hvx, e2, e3, h7] at h4
          simpa [val] using h4
        subst e4 h7
        rw [e2, e3]
        (conv => whnf)
        refine V.st ?_
        exact Fin.of rfl
    · clear h6
      dsimp only at h1 h2 h3 h4 h5 ⊢
      have vx := jai 1000000000 ys k
      have vy := jai 1000000000 xs k
      have bx := jal (by omega) hdx k
      have by' := jal (by omega) hdy k
      have gy := jbU (xs := xs) (k := k)
      generalize hx0 : (ys).getD k 0 = x at *
      generalize hy0 : (xs).getD k 0 = y at *
      refine V.r0 @jhD ?_
      refine Cnd.split (CondB.mk (fun hq => ?_) (fun hq => ?_))
      · rw [decide_eq_true_eq] at hq
        refine V.r0 (V.a2 @jhD hx0) ?_
        refine Cnd.split (CondB.mk (fun hy => ?_) (fun hy => ?_))
        · rw [decide_eq_true_eq] at hy
          refine V.r0 (V.a2 @jhD hy0) ?_
          refine Cnd.split (CondB.mk (fun hz => ?_) (fun hz => ?_))
          · rw [decide_eq_true_eq] at hz
            have hst := jaw (B := 1000000000) (x := x) (y := y) (d := (x + c + y - 1000000000)) (c' := 1) h1 h4 (by omega)
            rw [← vx, ← vy] at hst
            have hdg : Dg 1000000000 (out ++ [(x + c + y - 1000000000)]) := jaj h2 (jas (by omega))
            have hl2 : (out ++ [(x + c + y - 1000000000)]).length = k + 1 := by simp [h1]
            have hl3 : (out).length + (List.take 1 (List.drop 0 [(x + c + y - 1000000000)])).length = (out ++ [(x + c + y - 1000000000)]).length := by simp
            have hkc : ((k : Int) + 1) = ((k + 1 : Nat) : Int) := by omega
            refine V.r0 (V.a3 hl3 hkc @jhC) ?_
            try refine And.intro (fun _ => ⟨trivial, by omega⟩) ?_
            refine V.r0 (V.a3 hl3 hkc @jhC) ?_
            exact ⟨(true, k + 1, out ++ [(x + c + y - 1000000000)], 1), ⟨hl2, hdg, by dsimp only; omega, hst, by dsimp only; omega, fun h => by cases h⟩, by dsimp only; omega, V.wk⟩
          · rw [decide_eq_false_iff_not] at hz
            have hst := jaw (B := 1000000000) (x := x) (y := y) (d := (x + c + y)) (c' := 0) h1 h4 (by omega)
            rw [← vx, ← vy] at hst
            have hdg : Dg 1000000000 (out ++ [(x + c + y)]) := jaj h2 (jas (by omega))
            have hl2 : (out ++ [(x + c + y)]).length = k + 1 := by simp [h1]
            have hl3 : (out).length + (List.take 1 (List.drop 0 [(x + c + y)])).length = (out ++ [(x + c + y)]).length := by simp
            have hkc : ((k : Int) + 1) = ((k + 1 : Nat) : Int) := by omega
            refine V.r0 (V.a3 hl3 hkc @jhC) ?_
            try refine And.intro (fun _ => ⟨trivial, by omega⟩) ?_
            refine V.r0 (V.a3 hl3 hkc @jhC) ?_
            exact ⟨(true, k + 1, out ++ [(x + c + y)], 0), ⟨hl2, hdg, by dsimp only; omega, hst, by dsimp only; omega, fun h => by cases h⟩, by dsimp only; omega, V.wk⟩
        · rw [decide_eq_false_iff_not] at hy
          have := gy (by omega)
          refine V.r0 @jhD ?_
          refine Cnd.split (CondB.mk (fun hz => ?_) (fun hz => ?_))
          · rw [decide_eq_true_eq] at hz
            have hst := jaw (B := 1000000000) (x := x) (y := y) (d := (x + c - 1000000000)) (c' := 1) h1 h4 (by omega)
            rw [← vx, ← vy] at hst
            have hdg : Dg 1000000000 (out ++ [(x + c - 1000000000)]) := jaj h2 (jas (by omega))
            have hl2 : (out ++ [(x + c - 1000000000)]).length = k + 1 := by simp [h1]
            have hl3 : (out).length + (List.take 1 (List.drop 0 [(x + c - 1000000000)])).length = (out ++ [(x + c - 1000000000)]).length := by simp
            have hkc : ((k : Int) + 1) = ((k + 1 : Nat) : Int) := by omega
            refine V.r0 (V.a3 hl3 hkc @jhC) ?_
            try refine And.intro (fun _ => ⟨trivial, by omega⟩) ?_
            refine V.r0 (V.a3 hl3 hkc @jhC) ?_
            exact ⟨(true, k + 1, out ++ [(x + c - 1000000000)], 1), ⟨hl2, hdg, by dsimp only; omega, hst, by dsimp only; omega, fun h => by cases h⟩, by dsimp only; omega, V.wk⟩
          · rw [decide_eq_false_iff_not] at hz
            have hst := jaw (B := 1000000000) (x := x) (y := y) (d := (x + c)) (c' := 0) h1 h4 (by omega)
            rw [← vx, ← vy] at hst
            have hdg : Dg 1000000000 (out ++ [(x + c)]) := jaj h2 (jas (by omega))
            have hl2 : (out ++ [(x + c)]).length = k + 1 := by simp [h1]
            have hl3 : (out).length + (List.take 1 (List.drop 0 [(x + c)])).length = (out ++ [(x + c)]).length := by simp
            have hkc : ((k : Int) + 1) = ((k + 1 : Nat) : Int) := by omega
            refine V.r0 (V.a3 hl3 hkc @jhC) ?_
            try refine And.intro (fun _ => ⟨trivial, by omega⟩) ?_
            refine V.r0 (V.a3 hl3 hkc @jhC) ?_
            exact ⟨(true, k + 1, out ++ [(x + c)], 0), ⟨hl2, hdg, by dsimp only; omega, hst, by dsimp only; omega, fun h => by cases h⟩, by dsimp only; omega, V.wk⟩
      · rw [decide_eq_false_iff_not] at hq
        have hk : k = (ys).length := by omega
        rw [List.take_of_length_le (by omega), List.take_of_length_le (by omega), hvy, hvx] at h4
        (conv => whnf)
        refine V.st ?_
        refine Cnd.split (CondB.mk (fun hc => ?_) (fun hc => ?_))
        · rw [decide_eq_true_eq] at hc
          have hc1 : c = 1 := by omega
          subst hc1
          have h8 : out ++ [1] = mg 1000000000 (b + a) := by
            have h9 : val 1000000000 (out ++ [1]) = ((b + a : Nat) : Int) := by rw [jaN, h1]; omega
            have h10 := jda (B := 1000000000) (l := out ++ [1]) (by omega) (jaj h2 (jas (by omega))) (by
              rw [jaN, List.length_append, List.length_singleton, Nat.add_sub_cancel]
              have := jam h2
              omega)
            rw [h10, h9]; rfl
          (conv => whnf)
          refine V.st ?_
          exact Fin.of (by rw [← h8]; exact congrArg _ (List.take_of_length_le (by simp)))
        · rw [decide_eq_false_iff_not] at hc
          have hc1 : c = 0 := by omega
          subst hc1
          have h8 : out = mg 1000000000 (b + a) := by
            have h9 : val 1000000000 out = ((b + a : Nat) : Int) := by omega
            rcases jhF b with h0 | h0
            · have h10 : (ys).length = 0 := by rw [hey.mpr h0]; rfl
              have e3 := hex.mp (List.length_eq_zero_iff.mp (by omega))
              rw [h0, e3, List.length_eq_zero_iff.mp (by omega : out.length = 0)]; rfl
            · have h10 := jda (B := 1000000000) (l := out) (by omega) h2 (by
                have h11 := hpy h0
                rw [h1, h9, hk]
                have h12 : ((1000000000 ^ ((ys).length - 1) : Nat) : Int) ≤ (b : Int) := by exact_mod_cast h11
                rw [jhW] at h12
                omega)
              rw [h10, h9]; rfl
          (conv => whnf)
          refine V.st ?_
          exact Fin.of (by rw [← h8, List.take_of_length_le (by simp)])
  · rw [decide_eq_false_iff_not] at hl
    obtain ⟨N, hN⟩ : ∃ N, N = xs.length + 1 := ⟨_, rfl⟩
    have e1 : (xs.length : Int) + 1 = (N : Int) := by omega
    refine V.r0 (V.a2 e1 @jhD) ?_
    refine jah ((false, 0, [], 0) : Bool × Nat × List Int × Int) (fun s => s.2.2.1.length = s.2.1 ∧ Dg 1000000000 s.2.2.1 ∧ (0 ≤ s.2.2.2 ∧ s.2.2.2 ≤ 1) ∧ val 1000000000 s.2.2.1 + s.2.2.2 * ((1000000000 : Nat) : Int) ^ s.2.1 = val 1000000000 ((xs).take s.2.1) + val 1000000000 ((ys).take s.2.1) ∧ s.2.1 ≤ (xs).length ∧ (s.1 = false → s.2.2.1 = [])) (fun s => (xs).length - s.2.1)
      (fun s => match s.1 with | false => [(22, .int .i64 s.2.1), (6, .int .u32 s.2.2.2), (5, .osl 19 0 0)] | true => [(22, .int .i64 s.2.1), (6, .int .u32 s.2.2.2), (5, .osl 47 0 s.2.2.1.length)]) (fun s => match s.1 with | false => [(19, .arr .u32 [])] | true => [(47, .arr .u32 s.2.2.1), (19, .gone)]) ?_ ?_ ?_
    · exact V.wk
    · exact ⟨rfl, fun x hx => by simp at hx, by simp, by simp [val], jhz _, fun _ => rfl⟩
    rintro ⟨_ | _, k, out, c⟩ ⟨h1, h2, h3, h4, h5, h6⟩
    · dsimp only at h1 h2 h3 h4 h5 h6 ⊢
      have h7 := h6 rfl
      clear h6
      subst h7
      have vx := jai 1000000000 xs k
      have vy := jai 1000000000 ys k
      have bx := jal (by omega) hdx k
      have by' := jal (by omega) hdy k
      have gy := jbU (xs := ys) (k := k)
      generalize hx0 : (xs).getD k 0 = x at *
      generalize hy0 : (ys).getD k 0 = y at *
      refine V.r0 @jhD ?_
      refine Cnd.split (CondB.mk (fun hq => ?_) (fun hq => ?_))
      · rw [decide_eq_true_eq] at hq
        refine V.r0 (V.a2 @jhD hx0) ?_
        refine Cnd.split (CondB.mk (fun hy => ?_) (fun hy => ?_))
        · rw [decide_eq_true_eq] at hy
          refine V.r0 (V.a2 @jhD hy0) ?_
          refine Cnd.split (CondB.mk (fun hz => ?_) (fun hz => ?_))
          · rw [decide_eq_true_eq] at hz
            have hst := jaw (B := 1000000000) (x := x) (y := y) (d := (x + c + y - 1000000000)) (c' := 1) h1 h4 (by omega)
            rw [← vx, ← vy] at hst
            have hdg : Dg 1000000000 (([] : List Int) ++ [(x + c + y - 1000000000)]) := jaj h2 (jas (by omega))
            have hl2 : (([] : List Int) ++ [(x + c + y - 1000000000)]).length = k + 1 := by simp [h1]
            have hl3 : (([] : List Int)).length + (List.take 1 (List.drop 0 [(x + c + y - 1000000000)])).length = (([] : List Int) ++ [(x + c + y - 1000000000)]).length := by simp
            have hkc : ((k : Int) + 1) = ((k + 1 : Nat) : Int) := by omega
            refine V.r0 (V.a3 hl3 hkc @jhC) ?_
            try refine And.intro (fun _ => ⟨trivial, by omega⟩) ?_
            refine V.r0 (V.a3 hl3 hkc @jhC) ?_
            exact ⟨(true, k + 1, ([] : List Int) ++ [(x + c + y - 1000000000)], 1), ⟨hl2, hdg, by dsimp only; omega, hst, by dsimp only; omega, fun h => by cases h⟩, by dsimp only; omega, V.wk⟩
          · rw [decide_eq_false_iff_not] at hz
            have hst := jaw (B := 1000000000) (x := x) (y := y) (d := (x + c + y)) (c' := 0) h1 h4 (by omega)
            rw [← vx, ← vy] at hst
            have hdg : Dg 1000000000 (([] : List Int) ++ [(x + c + y)]) := jaj h2 (jas (by omega))
            have hl2 : (([] : List Int) ++ [(x + c + y)]).length = k + 1 := by simp [h1]
            have hl3 : (([] : List Int)).length + (List.take 1 (List.drop 0 [(x + c + y)])).length = (([] : List Int) ++ [(x + c + y)]).length := by simp
            have hkc : ((k : Int) + 1) = ((k + 1 : Nat) : Int) := by omega
            refine V.r0 (V.a3 hl3 hkc @jhC) ?_
            try refine And.intro (fun _ => ⟨trivial, by omega⟩) ?_
            refine V.r0 (V.a3 hl3 hkc @jhC) ?_
            exact ⟨(true, k + 1, ([] : List Int) ++ [(x + c + y)], 0), ⟨hl2, hdg, by dsimp only; omega, hst, by dsimp only; omega, fun h => by cases h⟩, by dsimp only; omega, V.wk⟩
        · rw [decide_eq_false_iff_not] at hy
          have := gy (by omega)
          refine V.r0 @jhD ?_
          refine Cnd.split (CondB.mk (fun hz => ?_) (fun hz => ?_))
          · rw [decide_eq_true_eq] at hz
            have hst := jaw (B := 1000000000) (x := x) (y := y) (d := (x + c - 1000000000)) (c' := 1) h1 h4 (by omega)
            rw [← vx, ← vy] at hst
            have hdg : Dg 1000000000 (([] : List Int) ++ [(x + c - 1000000000)]) := jaj h2 (jas (by omega))
            have hl2 : (([] : List Int) ++ [(x + c - 1000000000)]).length = k + 1 := by simp [h1]
            have hl3 : (([] : List Int)).length + (List.take 1 (List.drop 0 [(x + c - 1000000000)])).length = (([] : List Int) ++ [(x + c - 1000000000)]).length := by simp
            have hkc : ((k : Int) + 1) = ((k + 1 : Nat) : Int) := by omega
            refine V.r0 (V.a3 hl3 hkc @jhC) ?_
            try refine And.intro (fun _ => ⟨trivial, by omega⟩) ?_
            refine V.r0 (V.a3 hl3 hkc @jhC) ?_
            exact ⟨(true, k + 1, ([] : List Int) ++ [(x + c - 1000000000)], 1), ⟨hl2, hdg, by dsimp only; omega, hst, by dsimp only; omega, fun h => by cases h⟩, by dsimp only; omega, V.wk⟩
          · rw [decide_eq_false_iff_not] at hz
            have hst := jaw (B := 1000000000) (x := x) (y := y) (d := (x + c)) (c' := 0) h1 h4 (by omega)
            rw [← vx, ← vy] at hst
            have hdg : Dg 1000000000 (([] : List Int) ++ [(x + c)]) := jaj h2 (jas (by omega))
            have hl2 : (([] : List Int) ++ [(x + c)]).length = k + 1 := by simp [h1]
            have hl3 : (([] : List Int)).length + (List.take 1 (List.drop 0 [(x + c)])).length = (([] : List Int) ++ [(x + c)]).length := by simp
            have hkc : ((k : Int) + 1) = ((k + 1 : Nat) : Int) := by omega
            refine V.r0 (V.a3 hl3 hkc @jhC) ?_
            try refine And.intro (fun _ => ⟨trivial, by omega⟩) ?_
            refine V.r0 (V.a3 hl3 hkc @jhC) ?_
            exact ⟨(true, k + 1, ([] : List Int) ++ [(x + c)], 0), ⟨hl2, hdg, by dsimp only; omega, hst, by dsimp only; omega, fun h => by cases h⟩, by dsimp only; omega, V.wk⟩
      · rw [decide_eq_false_iff_not] at hq
        have h7 : k = 0 := by simpa using h1.symm
        have h8 : (xs).length = 0 := by omega
        have e2 := hex.mp (List.length_eq_zero_iff.mp h8)
        have e3 := hey.mp (List.length_eq_zero_iff.mp (by omega))
        have e4 : c = 0 := by
          rw [List.take_of_length_le (by omega), List.take_of_length_le (by omega), hvx, hvy, e2, e3, h7] at h4
          simpa [val] using h4
        subst e4 h7
        rw [e2, e3]
        (conv => whnf)
        refine V.st ?_
        exact Fin.of rfl
    · clear h6
      dsimp only at h1 h2 h3 h4 h5 ⊢
      have vx := jai 1000000000 xs k
      have vy := jai 1000000000 ys k
      have bx := jal (by omega) hdx k
      have by' := jal (by omega) hdy k
      have gy := jbU (xs := ys) (k := k)
      generalize hx0 : (xs).getD k 0 = x at *
      generalize hy0 : (ys).getD k 0 = y at *
      refine V.r0 @jhD ?_
      refine Cnd.split (CondB.mk (fun hq => ?_) (fun hq => ?_))
      · rw [decide_eq_true_eq] at hq
        refine V.r0 (V.a2 @jhD hx0) ?_
        refine Cnd.split (CondB.mk (fun hy => ?_) (fun hy => ?_))
        · rw [decide_eq_true_eq] at hy
          refine V.r0 (V.a2 @jhD hy0) ?_
          refine Cnd.split (CondB.mk (fun hz => ?_) (fun hz => ?_))
          · rw [decide_eq_true_eq] at hz
            have hst := jaw (B := 1000000000) (x := x) (y := y) (d := (x + c + y - 1000000000)) (c' := 1) h1 h4 (by omega)
            rw [← vx, ← vy] at hst
            have hdg : Dg 1000000000 (out ++ [(x + c + y - 1000000000)]) := jaj h2 (jas (by omega))
            have hl2 : (out ++ [(x + c + y - 1000000000)]).length = k + 1 := by simp [h1]
            have hl3 : (out).length + (List.take 1 (List.drop 0 [(x + c + y - 1000000000)])).length = (out ++ [(x + c + y - 1000000000)]).length := by simp
            have hkc : ((k : Int) + 1) = ((k + 1 : Nat) : Int) := by omega
            refine V.r0 (V.a3 hl3 hkc @jhC) ?_
            try refine And.intro (fun _ => ⟨trivial, by omega⟩) ?_
            refine V.r0 (V.a3 hl3 hkc @jhC) ?_
            exact ⟨(true, k + 1, out ++ [(x + c + y - 1000000000)], 1), ⟨hl2, hdg, by dsimp only; omega, hst, by dsimp only; omega, fun h => by cases h⟩, by dsimp only; omega, V.wk⟩
          · rw [decide_eq_false_iff_not] at hz
            have hst := jaw (B := 1000000000) (x := x) (y := y) (d := (x + c + y)) (c' := 0) h1 h4 (by omega)
            rw [← vx, ← vy] at hst
            have hdg : Dg 1000000000 (out ++ [(x + c + y)]) := jaj h2 (jas (by omega))
            have hl2 : (out ++ [(x + c + y)]).length = k + 1 := by simp [h1]
            have hl3 : (out).length + (List.take 1 (List.drop 0 [(x + c + y)])).length = (out ++ [(x + c + y)]).length := by simp
            have hkc : ((k : Int) + 1) = ((k + 1 : Nat) : Int) := by omega
            refine V.r0 (V.a3 hl3 hkc @jhC) ?_
            try refine And.intro (fun _ => ⟨trivial, by omega⟩) ?_
            refine V.r0 (V.a3 hl3 hkc @jhC) ?_
            exact ⟨(true, k + 1, out ++ [(x + c + y)], 0), ⟨hl2, hdg, by dsimp only; omega, hst, by dsimp only; omega, fun h => by cases h⟩, by dsimp only; omega, V.wk⟩
        · rw [decide_eq_false_iff_not] at hy
          have := gy (by omega)
          refine V.r0 @jhD ?_
          refine Cnd.split (CondB.mk (fun hz => ?_) (fun hz => ?_))
          · rw [decide_eq_true_eq] at hz
            have hst := jaw (B := 1000000000) (x := x) (y := y) (d := (x + c - 1000000000)) (c' := 1) h1 h4 (by omega)
            rw [← vx, ← vy] at hst
            have hdg : Dg 1000000000 (out ++ [(x + c - 1000000000)]) := jaj h2 (jas (by omega))
            have hl2 : (out ++ [(x + c - 1000000000)]).length = k + 1 := by simp [h1]
            have hl3 : (out).length + (List.take 1 (List.drop 0 [(x + c - 1000000000)])).length = (out ++ [(x + c - 1000000000)]).length := by simp
            have hkc : ((k : Int) + 1) = ((k + 1 : Nat) : Int) := by omega
            refine V.r0 (V.a3 hl3 hkc @jhC) ?_
            try refine And.intro (fun _ => ⟨trivial, by omega⟩) ?_
            refine V.r0 (V.a3 hl3 hkc @jhC) ?_
            exact ⟨(true, k + 1, out ++ [(x + c - 1000000000)], 1), ⟨hl2, hdg, by dsimp only; omega, hst, by dsimp only; omega, fun h => by cases h⟩, by dsimp only; omega, V.wk⟩
          · rw [decide_eq_false_iff_not] at hz
            have hst := jaw (B := 1000000000) (x := x) (y := y) (d := (x + c)) (c' := 0) h1 h4 (by omega)
            rw [← vx, ← vy] at hst
            have hdg : Dg 1000000000 (out ++ [(x + c)]) := jaj h2 (jas (by omega))
            have hl2 : (out ++ [(x + c)]).length = k + 1 := by simp [h1]
            have hl3 : (out).length + (List.take 1 (List.drop 0 [(x + c)])).length = (out ++ [(x + c)]).length := by simp
            have hkc : ((k : Int) + 1) = ((k + 1 : Nat) : Int) := by omega
            refine V.r0 (V.a3 hl3 hkc @jhC) ?_
            try refine And.intro (fun _ => ⟨trivial, by omega⟩) ?_
            refine V.r0 (V.a3 hl3 hkc @jhC) ?_
            exact ⟨(true, k + 1, out ++ [(x + c)], 0), ⟨hl2, hdg, by dsimp only; omega, hst, by dsimp only; omega, fun h => by cases h⟩, by dsimp only; omega, V.wk⟩
      · rw [decide_eq_false_iff_not] at hq
        have hk : k = (xs).length := by omega
        rw [List.take_of_length_le (by omega), List.take_of_length_le (by omega), hvx, hvy] at h4
        (conv => whnf)
        refine V.st ?_
        refine Cnd.split (CondB.mk (fun hc => ?_) (fun hc => ?_))
        · rw [decide_eq_true_eq] at hc
          have hc1 : c = 1 := by omega
          subst hc1
          have h8 : out ++ [1] = mg 1000000000 (a + b) := by
            have h9 : val 1000000000 (out ++ [1]) = ((a + b : Nat) : Int) := by rw [jaN, h1]; omega
            have h10 := jda (B := 1000000000) (l := out ++ [1]) (by omega) (jaj h2 (jas (by omega))) (by
              rw [jaN, List.length_append, List.length_singleton, Nat.add_sub_cancel]
              have := jam h2
              omega)
            rw [h10, h9]; rfl
          (conv => whnf)
          refine V.st ?_
          exact Fin.of (by rw [← h8]; exact congrArg _ (List.take_of_length_le (by simp)))
        · rw [decide_eq_false_iff_not] at hc
          have hc1 : c = 0 := by omega
          subst hc1
          have h8 : out = mg 1000000000 (a + b) := by
            have h9 : val 1000000000 out = ((a + b : Nat) : Int) := by omega
            rcases jhF a with h0 | h0
            · have h10 : (xs).length = 0 := by rw [hex.mpr h0]; rfl
              have e3 := hey.mp (List.length_eq_zero_iff.mp (by omega))
              rw [h0, e3, List.length_eq_zero_iff.mp (by omega : out.length = 0)]; rfl
            · have h10 := jda (B := 1000000000) (l := out) (by omega) h2 (by
                have h11 := hpx h0
                rw [h1, h9, hk]
                have h12 : ((1000000000 ^ ((xs).length - 1) : Nat) : Int) ≤ (a : Int) := by exact_mod_cast h11
                rw [jhW] at h12
                omega)
              rw [h10, h9]; rfl
          (conv => whnf)
          refine V.st ?_
          exact Fin.of (by rw [← h8, List.take_of_length_le (by simp)])
theorem jft {out : List Int} {n k : Nat} {d : Int} (h : out.length = k) (hk : k < n) : (out ++ List.replicate (n - k) 0).set k d = (out ++ [d]) ++ List.replicate (n - (k + 1)) 0 := by
 subst h
 have e : n - out.length = (n - (out.length + 1)) + 1 := by omega
 rw [e, List.replicate_succ, List.set_append_right _ _ (jhE _), Nat.sub_self, List.set_cons_zero]
 simp
theorem jhw : type_of% @jhD ∧ type_of% @jhC := ⟨@jhD, @jhC⟩
theorem minus_m (a b : Nat) (hba : b ≤ a) (ha : (mg 1000000000 a).length ≤ 100000000) : Called Tryz.prog 185 [.ints .u32 (mg 1000000000 a), .ints .u32 (mg 1000000000 b)] (.ints .u32 (mg 1000000000 (a - b))) := by
 have hdx := mg_dg (B := 1000000000) (by omega) a
 have hdy := mg_dg (B := 1000000000) (by omega) b
 have hvx := jaD (B := 1000000000) (by omega) a
 have hvy := jaD (B := 1000000000) (by omega) b
 have hlen := jae (B := 1000000000) (by omega) hba
 generalize mg 1000000000 a = xs at *
 generalize mg 1000000000 b = ys at *
 refine jaa tbOk 6 ⟨Tryz.func185, rfl, rfl, jhy rfl⟩ ?_
 (conv => whnf)
 refine V.r0 @jhD ?_
 refine jah ((0, [], 0) : Nat × List Int × Int) (fun s => s.2.1.length = s.1 ∧ Dg 1000000000 s.2.1 ∧ (0 ≤ s.2.2 ∧ s.2.2 ≤ 1) ∧ val 1000000000 s.2.1 - s.2.2 * ((1000000000 : Nat) : Int) ^ s.1 = val 1000000000 (xs.take s.1) - val 1000000000 (ys.take s.1) ∧ s.1 ≤ xs.length) (fun s => xs.length - s.1)
  (fun s => [(15, .int .i64 s.1), (6, .int .u32 s.2.2), (5, .osl 12 0 xs.length)]) (fun s => [(12, .arr .u32 (s.2.1 ++ List.replicate (xs.length - s.1) 0))]) ?_ ?_ ?_
 ·exact V.wk
 ·exact ⟨rfl, fun x hx => by simp at hx, by simp, by simp [val], jhz _⟩
 rintro ⟨k, out, c⟩ ⟨h1, h2, h3, h4, h5⟩
 dsimp only at h1 h2 h3 h4 h5 ⊢
 have vx := jai 1000000000 xs k
 have vy := jai 1000000000 ys k
 have bx := jal (by omega) hdx k
 have by' := jal (by omega) hdy k
 have gy := jbU (xs := ys) (k := k)
 generalize hx0 : xs.getD k 0 = x at *
 generalize hy0 : ys.getD k 0 = y at *
 refine V.r0 @jhD ?_
 refine Cnd.split (CondB.mk (fun hq => ?_) (fun hq => ?_))
 ·rw [decide_eq_true_eq] at hq
  refine V.r0 (V.a2 @jhD hx0) ?_
  refine Cnd.split (CondB.mk (fun hy => ?_) (fun hy => ?_))
  ·rw [decide_eq_true_eq] at hy
   refine V.r0 (V.a2 @jhD hy0) ?_
   refine Cnd.split (CondB.mk (fun hz => ?_) (fun hz => ?_))
   ·rw [decide_eq_true_eq] at hz
    have hst := jbJ (B := 1000000000) (x := x) (y := y) (d := (x + 1000000000 - (c + y))) (b' := 1) h1 h4 (by omega)
    rw [← vx, ← vy] at hst
    have hdg : Dg 1000000000 (out ++ [(x + 1000000000 - (c + y))]) := jaj h2 (jas (by omega))
    have hps := jft (d := (x + 1000000000 - (c + y))) (n := xs.length) h1 (by omega)
    have hkc : ((k : Int) + 1) = ((k + 1 : Nat) : Int) := by omega
    refine V.r0 (V.a3 jhw hps hkc) ?_
    refine V.r0 (V.a3 jhw hps hkc) ?_
    exact ⟨(k + 1, out ++ [(x + 1000000000 - (c + y))], 1), ⟨by dsimp only; simp [h1], hdg, by dsimp only; omega, hst, by dsimp only; omega⟩, by dsimp only; omega, V.wk⟩
   ·rw [decide_eq_false_iff_not] at hz
    have hst := jbJ (B := 1000000000) (x := x) (y := y) (d := (x - (c + y))) (b' := 0) h1 h4 (by omega)
    rw [← vx, ← vy] at hst
    have hdg : Dg 1000000000 (out ++ [(x - (c + y))]) := jaj h2 (jas (by omega))
    have hps := jft (d := (x - (c + y))) (n := xs.length) h1 (by omega)
    have hkc : ((k : Int) + 1) = ((k + 1 : Nat) : Int) := by omega
    refine V.r0 (V.a3 jhw hps hkc) ?_
    refine V.r0 (V.a3 jhw hps hkc) ?_
    exact ⟨(k + 1, out ++ [(x - (c + y))], 0), ⟨by dsimp only; simp [h1], hdg, by dsimp only; omega, hst, by dsimp only; omega⟩, by dsimp only; omega, V.wk⟩
  ·rw [decide_eq_false_iff_not] at hy
   have := gy (by omega)
   refine V.r0 @jhD ?_
   refine Cnd.split (CondB.mk (fun hz => ?_) (fun hz => ?_))
   ·rw [decide_eq_true_eq] at hz
    have hst := jbJ (B := 1000000000) (x := x) (y := y) (d := (x + 1000000000 - c)) (b' := 1) h1 h4 (by omega)
    rw [← vx, ← vy] at hst
    have hdg : Dg 1000000000 (out ++ [(x + 1000000000 - c)]) := jaj h2 (jas (by omega))
    have hps := jft (d := (x + 1000000000 - c)) (n := xs.length) h1 (by omega)
    have hkc : ((k : Int) + 1) = ((k + 1 : Nat) : Int) := by omega
    refine V.r0 (V.a3 jhw hps hkc) ?_
    refine V.r0 (V.a3 jhw hps hkc) ?_
    exact ⟨(k + 1, out ++ [(x + 1000000000 - c)], 1), ⟨by dsimp only; simp [h1], hdg, by dsimp only; omega, hst, by dsimp only; omega⟩, by dsimp only; omega, V.wk⟩
   ·rw [decide_eq_false_iff_not] at hz
    have hst := jbJ (B := 1000000000) (x := x) (y := y) (d := (x - c)) (b' := 0) h1 h4 (by omega)
    rw [← vx, ← vy] at hst
    have hdg : Dg 1000000000 (out ++ [(x - c)]) := jaj h2 (jas (by omega))
    have hps := jft (d := (x - c)) (n := xs.length) h1 (by omega)
    have hkc : ((k : Int) + 1) = ((k + 1 : Nat) : Int) := by omega
    refine V.r0 (V.a3 jhw hps hkc) ?_
    refine V.r0 (V.a3 jhw hps hkc) ?_
    exact ⟨(k + 1, out ++ [(x - c)], 0), ⟨by dsimp only; simp [h1], hdg, by dsimp only; omega, hst, by dsimp only; omega⟩, by dsimp only; omega, V.wk⟩
 ·rw [decide_eq_false_iff_not] at hq
  have hk : k = xs.length := by omega
  rw [List.take_of_length_le (by omega), List.take_of_length_le (by omega), hvx, hvy] at h4
  have h0 := jam h2
  have h6 := jbV h2
  have hc : c = 0 := by
   rw [h1] at h6
   rcases (by omega : c = 0 ∨ c = 1) with e | e
   ·exact e
   ·subst e; omega
  subst hc
  have htr := jeQ out h2 (by omega)
  rw [(by omega : (val 1000000000 out).toNat = a - b)] at htr
  have hrep : out ++ List.replicate (xs.length - k) 0 = out := by rw [hk, Nat.sub_self]; simp
  rw [hrep]
  rw [← List.take_length (l := out), h1, hk] at htr
  (conv => whnf)
  refine V.st ?_
  repeat ((try ((with_reducible refine .ext ?_); (conv => whnf))); (with_reducible refine jab (r := ?_) ?_ ?_); rotate_left; (focus (first | exact (htr))); (conv => whnf); refine V.st ?_)
  exact Fin.of rfl
theorem jgE (x y : Rat) : (x.num * y.den + -(y.num * x.den)).sign = (if x < y then -1 else if x = y then 0 else 1 : Int) := by
 have h1 : x < y ↔ x.num * y.den < y.num * x.den := Rat.lt_iff x y
 have h2 : x = y ↔ x.num * y.den = y.num * x.den := by
  conv => lhs; rw [← jh1 x, ← jh1 y]
  exact Rat.divInt_eq_divInt_iff (by have := x.den_pos; omega) (by have := y.den_pos; omega)
 by_cases a1 : x < y
 ·rw [if_pos a1]; exact jhZ (by have := h1.1 a1; omega)
 ·rw [if_neg a1]
  by_cases a2 : x = y
  ·rw [if_pos a2, show x.num * y.den + -(y.num * x.den) = 0 by have := h2.1 a2; omega]; rfl
  ·rw [if_neg a2]
   refine jh0 ?_
   have b1 : ¬ (x.num * y.den < y.num * x.den) := fun h => a1 (h1.2 h)
   have b2 : ¬ (x.num * y.den = y.num * x.den) := fun h => a2 (h2.2 h)
   omega
def ordQ (x y : Rat) : Int := if x < y then -1 else if x = y then 0 else 1
end Go.Proofs.YtgjgpdceghjajaaGreatDoor
end
