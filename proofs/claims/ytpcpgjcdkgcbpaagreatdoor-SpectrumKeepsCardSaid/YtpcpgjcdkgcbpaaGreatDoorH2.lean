/- What some functions of the program answer at values that mean given lists, texts and numbers, each proved of the program's own code: part 2. Conditions: those that each theorem names. -/
import Derived.Test.YtpcpgjcdkgcbpaaGreatDoorH1
set_option linter.unusedSimpArgs false
set_option linter.unusedVariables false
set_option maxHeartbeats 8000000
set_option maxRecDepth 100000
section
namespace Go.Proofs.YtpcpgjcdkgcbpaaGreatDoor
open Go Go.V Go.Nb
theorem plus_m (a b : Nat) (ha : (mg 1000000000 a).length ≤ 100000000) (hb : (mg 1000000000 b).length ≤ 100000000) : Called Tryz.prog 140 [.ints .u32 (mg 1000000000 a), .ints .u32 (mg 1000000000 b)] (.ints .u32 (mg 1000000000 (a + b))) := by
  have hdx := mg_dg (B := 1000000000) (by omega) a
  have hdy := mg_dg (B := 1000000000) (by omega) b
  have hvx := mg_val (B := 1000000000) (by omega) a
  have hvy := mg_val (B := 1000000000) (by omega) b
  have hpx := fun h => pow_le_mg (B := 1000000000) (n := a) (by omega) h
  have hpy := fun h => pow_le_mg (B := 1000000000) (n := b) (by omega) h
  have hex := mg_nil (B := 1000000000) (n := a) (by omega)
  have hey := mg_nil (B := 1000000000) (n := b) (by omega)
  generalize mg 1000000000 a = xs at *
  generalize mg 1000000000 b = ys at *
  refine called_of_run tbOk 6 ⟨Tryz.func140, rfl, rfl, Nat.le_of_ble_eq_true rfl⟩ ?_
  (conv => whnf)
  refine V.st ?_
  refine Cnd.split (CondB.mk (fun hl => ?_) (fun hl => ?_))
  · rw [decide_eq_true_eq] at hl
    obtain ⟨N, hN⟩ : ∃ N, N = ys.length + 1 := ⟨_, rfl⟩
    have e1 : (ys.length : Int) + 1 = (N : Int) := by omega
    rw [Nat.add_comm a b]
    (conv => whnf)
    (try simp only [e1, Int.toNat_natCast])
    repeat ((first | refine V.s1 ?_); (try simp only [e1, Int.toNat_natCast]))
    (obtain ⟨hdx, hdy⟩ := And.intro hdy hdx)
    refine lp_any ((false, 0, [], 0) : Bool × Nat × List Int × Int) (fun s => s.2.2.1.length = s.2.1 ∧ Dg 1000000000 s.2.2.1 ∧ (0 ≤ s.2.2.2 ∧ s.2.2.2 ≤ 1) ∧ val 1000000000 s.2.2.1 + s.2.2.2 * ((1000000000 : Nat) : Int) ^ s.2.1 = val 1000000000 ((ys).take s.2.1) + val 1000000000 ((xs).take s.2.1) ∧ s.2.1 ≤ (ys).length ∧ (s.1 = false → s.2.2.1 = [])) (fun s => (ys).length - s.2.1)
      (fun s => match s.1 with | false => [(22, .int .i64 s.2.1), (6, .int .u32 s.2.2.2), (5, .osl 19 0 0)] | true => [(22, .int .i64 s.2.1), (6, .int .u32 s.2.2.2), (5, .osl 47 0 s.2.2.1.length)]) (fun s => match s.1 with | false => [(19, .arr .u32 [])] | true => [(47, .arr .u32 s.2.2.1), (19, .gone)]) ?_ ?_ ?_
    · exact V.wk
    · exact ⟨rfl, fun x hx => by simp at hx, by simp, by simp [val], Nat.zero_le _, fun _ => rfl⟩
    rintro ⟨_ | _, k, out, c⟩ ⟨h1, h2, h3, h4, h5, h6⟩
    · dsimp only at h1 h2 h3 h4 h5 h6 ⊢
      have h7 := h6 rfl
      clear h6
      subst h7
      have vx := val_take_getD 1000000000 ys k
      have vy := val_take_getD 1000000000 xs k
      have bx := dg_getD (by omega) hdx k
      have by' := dg_getD (by omega) hdy k
      have gy := getD_ge (xs := xs) (k := k)
      generalize hx0 : (ys).getD k 0 = x at *
      generalize hy0 : (xs).getD k 0 = y at *
      (conv => whnf)
      (try simp only [Int.toNat_natCast])
      repeat ((first | refine V.s1 ?_); (try simp only [Int.toNat_natCast]))
      refine Cnd.split (CondB.mk (fun hq => ?_) (fun hq => ?_))
      · rw [decide_eq_true_eq] at hq
        (conv => whnf)
        (try simp only [Int.toNat_natCast, hx0])
        repeat ((first | refine V.s1 ?_); (try simp only [Int.toNat_natCast, hx0]))
        refine Cnd.split (CondB.mk (fun hy => ?_) (fun hy => ?_))
        · rw [decide_eq_true_eq] at hy
          (conv => whnf)
          (try simp only [Int.toNat_natCast, hy0])
          repeat ((first | refine V.s1 ?_); (try simp only [Int.toNat_natCast, hy0]))
          refine Cnd.split (CondB.mk (fun hz => ?_) (fun hz => ?_))
          · rw [decide_eq_true_eq] at hz
            have hst := add_step (B := 1000000000) (x := x) (y := y) (d := (x + c + y - 1000000000)) (c' := 1) h1 h4 (by omega)
            rw [← vx, ← vy] at hst
            have hdg : Dg 1000000000 (([] : List Int) ++ [(x + c + y - 1000000000)]) := dg_append h2 (dg_one (by omega))
            have hl2 : (([] : List Int) ++ [(x + c + y - 1000000000)]).length = k + 1 := by simp [h1]
            have hl3 : (([] : List Int)).length + (List.take 1 (List.drop 0 [(x + c + y - 1000000000)])).length = (([] : List Int) ++ [(x + c + y - 1000000000)]).length := by simp
            have hkc : ((k : Int) + 1) = ((k + 1 : Nat) : Int) := by omega
            (conv => whnf)
            (try simp only [hl3, hkc, Nat.zero_add])
            repeat ((first | refine V.s1 ?_); (try simp only [hl3, hkc, Nat.zero_add]))
            try refine And.intro (fun _ => ⟨trivial, by omega⟩) ?_
            (conv => whnf)
            (try simp only [hl3, hkc, Nat.zero_add])
            repeat ((first | refine V.s1 ?_); (try simp only [hl3, hkc, Nat.zero_add]))
            exact ⟨(true, k + 1, ([] : List Int) ++ [(x + c + y - 1000000000)], 1), ⟨hl2, hdg, by dsimp only; omega, hst, by dsimp only; omega, fun h => by cases h⟩, by dsimp only; omega, V.wk⟩
          · rw [decide_eq_false_iff_not] at hz
            have hst := add_step (B := 1000000000) (x := x) (y := y) (d := (x + c + y)) (c' := 0) h1 h4 (by omega)
            rw [← vx, ← vy] at hst
            have hdg : Dg 1000000000 (([] : List Int) ++ [(x + c + y)]) := dg_append h2 (dg_one (by omega))
            have hl2 : (([] : List Int) ++ [(x + c + y)]).length = k + 1 := by simp [h1]
            have hl3 : (([] : List Int)).length + (List.take 1 (List.drop 0 [(x + c + y)])).length = (([] : List Int) ++ [(x + c + y)]).length := by simp
            have hkc : ((k : Int) + 1) = ((k + 1 : Nat) : Int) := by omega
            (conv => whnf)
            (try simp only [hl3, hkc, Nat.zero_add])
            repeat ((first | refine V.s1 ?_); (try simp only [hl3, hkc, Nat.zero_add]))
            try refine And.intro (fun _ => ⟨trivial, by omega⟩) ?_
            (conv => whnf)
            (try simp only [hl3, hkc, Nat.zero_add])
            repeat ((first | refine V.s1 ?_); (try simp only [hl3, hkc, Nat.zero_add]))
            exact ⟨(true, k + 1, ([] : List Int) ++ [(x + c + y)], 0), ⟨hl2, hdg, by dsimp only; omega, hst, by dsimp only; omega, fun h => by cases h⟩, by dsimp only; omega, V.wk⟩
        · rw [decide_eq_false_iff_not] at hy
          have := gy (by omega)
          (conv => whnf)
          (try simp only [Int.toNat_natCast])
          repeat ((first | refine V.s1 ?_); (try simp only [Int.toNat_natCast]))
          refine Cnd.split (CondB.mk (fun hz => ?_) (fun hz => ?_))
          · rw [decide_eq_true_eq] at hz
            have hst := add_step (B := 1000000000) (x := x) (y := y) (d := (x + c - 1000000000)) (c' := 1) h1 h4 (by omega)
            rw [← vx, ← vy] at hst
            have hdg : Dg 1000000000 (([] : List Int) ++ [(x + c - 1000000000)]) := dg_append h2 (dg_one (by omega))
            have hl2 : (([] : List Int) ++ [(x + c - 1000000000)]).length = k + 1 := by simp [h1]
            have hl3 : (([] : List Int)).length + (List.take 1 (List.drop 0 [(x + c - 1000000000)])).length = (([] : List Int) ++ [(x + c - 1000000000)]).length := by simp
            have hkc : ((k : Int) + 1) = ((k + 1 : Nat) : Int) := by omega
            (conv => whnf)
            (try simp only [hl3, hkc, Nat.zero_add])
            repeat ((first | refine V.s1 ?_); (try simp only [hl3, hkc, Nat.zero_add]))
            try refine And.intro (fun _ => ⟨trivial, by omega⟩) ?_
            (conv => whnf)
            (try simp only [hl3, hkc, Nat.zero_add])
            repeat ((first | refine V.s1 ?_); (try simp only [hl3, hkc, Nat.zero_add]))
            exact ⟨(true, k + 1, ([] : List Int) ++ [(x + c - 1000000000)], 1), ⟨hl2, hdg, by dsimp only; omega, hst, by dsimp only; omega, fun h => by cases h⟩, by dsimp only; omega, V.wk⟩
          · rw [decide_eq_false_iff_not] at hz
            have hst := add_step (B := 1000000000) (x := x) (y := y) (d := (x + c)) (c' := 0) h1 h4 (by omega)
            rw [← vx, ← vy] at hst
            have hdg : Dg 1000000000 (([] : List Int) ++ [(x + c)]) := dg_append h2 (dg_one (by omega))
            have hl2 : (([] : List Int) ++ [(x + c)]).length = k + 1 := by simp [h1]
            have hl3 : (([] : List Int)).length + (List.take 1 (List.drop 0 [(x + c)])).length = (([] : List Int) ++ [(x + c)]).length := by simp
            have hkc : ((k : Int) + 1) = ((k + 1 : Nat) : Int) := by omega
            (conv => whnf)
            (try simp only [hl3, hkc, Nat.zero_add])
            repeat ((first | refine V.s1 ?_); (try simp only [hl3, hkc, Nat.zero_add]))
            try refine And.intro (fun _ => ⟨trivial, by omega⟩) ?_
            (conv => whnf)
            (try simp only [hl3, hkc, Nat.zero_add])
            repeat ((first | refine V.s1 ?_); (try simp only [hl3, hkc, Nat.zero_add]))
            exact ⟨(true, k + 1, ([] : List Int) ++ [(x + c)], 0), ⟨hl2, hdg, by dsimp only; omega, hst, by dsimp only; omega, fun h => by cases h⟩, by dsimp only; omega, V.wk⟩
      · rw [decide_eq_false_iff_not] at hq
        have h7 : k = 0 := by simpa using h1.symm
        have h8 : (ys).length = 0 := by omega
        have e2 := hey.mp (List.length_eq_zero_iff.mp h8)
        have e3 := hex.mp (List.length_eq_zero_iff.mp (by omega))
        have e4 : c = 0 := by
          rw [List.take_of_length_le (by omega), List.take_of_length_le (by omega), hvy, hvx, e2, e3, h7] at h4
          simpa [val] using h4
        subst e4 h7
        rw [e2, e3]
        (conv => whnf)
        refine V.st ?_
        exact Fin.of rfl
    · clear h6
      dsimp only at h1 h2 h3 h4 h5 ⊢
      have vx := val_take_getD 1000000000 ys k
      have vy := val_take_getD 1000000000 xs k
      have bx := dg_getD (by omega) hdx k
      have by' := dg_getD (by omega) hdy k
      have gy := getD_ge (xs := xs) (k := k)
      generalize hx0 : (ys).getD k 0 = x at *
      generalize hy0 : (xs).getD k 0 = y at *
      (conv => whnf)
      (try simp only [Int.toNat_natCast])
      repeat ((first | refine V.s1 ?_); (try simp only [Int.toNat_natCast]))
      refine Cnd.split (CondB.mk (fun hq => ?_) (fun hq => ?_))
      · rw [decide_eq_true_eq] at hq
        (conv => whnf)
        (try simp only [Int.toNat_natCast, hx0])
        repeat ((first | refine V.s1 ?_); (try simp only [Int.toNat_natCast, hx0]))
        refine Cnd.split (CondB.mk (fun hy => ?_) (fun hy => ?_))
        · rw [decide_eq_true_eq] at hy
          (conv => whnf)
          (try simp only [Int.toNat_natCast, hy0])
          repeat ((first | refine V.s1 ?_); (try simp only [Int.toNat_natCast, hy0]))
          refine Cnd.split (CondB.mk (fun hz => ?_) (fun hz => ?_))
          · rw [decide_eq_true_eq] at hz
            have hst := add_step (B := 1000000000) (x := x) (y := y) (d := (x + c + y - 1000000000)) (c' := 1) h1 h4 (by omega)
            rw [← vx, ← vy] at hst
            have hdg : Dg 1000000000 (out ++ [(x + c + y - 1000000000)]) := dg_append h2 (dg_one (by omega))
            have hl2 : (out ++ [(x + c + y - 1000000000)]).length = k + 1 := by simp [h1]
            have hl3 : (out).length + (List.take 1 (List.drop 0 [(x + c + y - 1000000000)])).length = (out ++ [(x + c + y - 1000000000)]).length := by simp
            have hkc : ((k : Int) + 1) = ((k + 1 : Nat) : Int) := by omega
            (conv => whnf)
            (try simp only [hl3, hkc, Nat.zero_add])
            repeat ((first | refine V.s1 ?_); (try simp only [hl3, hkc, Nat.zero_add]))
            try refine And.intro (fun _ => ⟨trivial, by omega⟩) ?_
            (conv => whnf)
            (try simp only [hl3, hkc, Nat.zero_add])
            repeat ((first | refine V.s1 ?_); (try simp only [hl3, hkc, Nat.zero_add]))
            exact ⟨(true, k + 1, out ++ [(x + c + y - 1000000000)], 1), ⟨hl2, hdg, by dsimp only; omega, hst, by dsimp only; omega, fun h => by cases h⟩, by dsimp only; omega, V.wk⟩
          · rw [decide_eq_false_iff_not] at hz
            have hst := add_step (B := 1000000000) (x := x) (y := y) (d := (x + c + y)) (c' := 0) h1 h4 (by omega)
            rw [← vx, ← vy] at hst
            have hdg : Dg 1000000000 (out ++ [(x + c + y)]) := dg_append h2 (dg_one (by omega))
            have hl2 : (out ++ [(x + c + y)]).length = k + 1 := by simp [h1]
            have hl3 : (out).length + (List.take 1 (List.drop 0 [(x + c + y)])).length = (out ++ [(x + c + y)]).length := by simp
            have hkc : ((k : Int) + 1) = ((k + 1 : Nat) : Int) := by omega
            (conv => whnf)
            (try simp only [hl3, hkc, Nat.zero_add])
            repeat ((first | refine V.s1 ?_); (try simp only [hl3, hkc, Nat.zero_add]))
            try refine And.intro (fun _ => ⟨trivial, by omega⟩) ?_
            (conv => whnf)
            (try simp only [hl3, hkc, Nat.zero_add])
            repeat ((first | refine V.s1 ?_); (try simp only [hl3, hkc, Nat.zero_add]))
            exact ⟨(true, k + 1, out ++ [(x + c + y)], 0), ⟨hl2, hdg, by dsimp only; omega, hst, by dsimp only; omega, fun h => by cases h⟩, by dsimp only; omega, V.wk⟩
        · rw [decide_eq_false_iff_not] at hy
          have := gy (by omega)
          (conv => whnf)
          (try simp only [Int.toNat_natCast])
          repeat ((first | refine V.s1 ?_); (try simp only [Int.toNat_natCast]))
          refine Cnd.split (CondB.mk (fun hz => ?_) (fun hz => ?_))
          · rw [decide_eq_true_eq] at hz
            have hst := add_step (B := 1000000000) (x := x) (y := y) (d := (x + c - 1000000000)) (c' := 1) h1 h4 (by omega)
            rw [← vx, ← vy] at hst
            have hdg : Dg 1000000000 (out ++ [(x + c - 1000000000)]) := dg_append h2 (dg_one (by omega))
            have hl2 : (out ++ [(x + c - 1000000000)]).length = k + 1 := by simp [h1]
            have hl3 : (out).length + (List.take 1 (List.drop 0 [(x + c - 1000000000)])).length = (out ++ [(x + c - 1000000000)]).length := by simp
            have hkc : ((k : Int) + 1) = ((k + 1 : Nat) : Int) := by omega
            (conv => whnf)
            (try simp only [hl3, hkc, Nat.zero_add])
            repeat ((first | refine V.s1 ?_); (try simp only [hl3, hkc, Nat.zero_add]))
            try refine And.intro (fun _ => ⟨trivial, by omega⟩) ?_
            (conv => whnf)
            (try simp only [hl3, hkc, Nat.zero_add])
            repeat ((first | refine V.s1 ?_); (try simp only [hl3, hkc, Nat.zero_add]))
            exact ⟨(true, k + 1, out ++ [(x + c - 1000000000)], 1), ⟨hl2, hdg, by dsimp only; omega, hst, by dsimp only; omega, fun h => by cases h⟩, by dsimp only; omega, V.wk⟩
          · rw [decide_eq_false_iff_not] at hz
            have hst := add_step (B := 1000000000) (x := x) (y := y) (d := (x + c)) (c' := 0) h1 h4 (by omega)
            rw [← vx, ← vy] at hst
            have hdg : Dg 1000000000 (out ++ [(x + c)]) := dg_append h2 (dg_one (by omega))
            have hl2 : (out ++ [(x + c)]).length = k + 1 := by simp [h1]
            have hl3 : (out).length + (List.take 1 (List.drop 0 [(x + c)])).length = (out ++ [(x + c)]).length := by simp
            have hkc : ((k : Int) + 1) = ((k + 1 : Nat) : Int) := by omega
            (conv => whnf)
            (try simp only [hl3, hkc, Nat.zero_add])
            repeat ((first | refine V.s1 ?_); (try simp only [hl3, hkc, Nat.zero_add]))
            try refine And.intro (fun _ => ⟨trivial, by omega⟩) ?_
            (conv => whnf)
            (try simp only [hl3, hkc, Nat.zero_add])
            repeat ((first | refine V.s1 ?_); (try simp only [hl3, hkc, Nat.zero_add]))
            exact ⟨(true, k + 1, out ++ [(x + c)], 0), ⟨hl2, hdg, by dsimp only; omega, hst, by dsimp only; omega, fun h => by cases h⟩, by dsimp only; omega, V.wk⟩
      · rw [decide_eq_false_iff_not] at hq
        have hk : k = (ys).length := by omega
        rw [List.take_of_length_le (by omega), List.take_of_length_le (by omega), hvy, hvx] at h4
        (conv => whnf)
        refine V.st ?_
        refine Cnd.split (CondB.mk (fun hc => ?_) (fun hc => ?_))
        · rw [decide_eq_true_eq] at hc
          have hc1 : c = 1 := by omega
          subst hc1
          have h8 : out ++ [1] = mg 1000000000 (b + a) := by
            have h9 : val 1000000000 (out ++ [1]) = ((b + a : Nat) : Int) := by rw [val_snoc, h1]; omega
            have h10 := mg_of_ge (B := 1000000000) (l := out ++ [1]) (by omega) (dg_append h2 (dg_one (by omega))) (by
              rw [val_snoc, List.length_append, List.length_singleton, Nat.add_sub_cancel]
              have := val_nonneg h2
              omega)
            rw [h10, h9]; rfl
          (conv => whnf)
          refine V.st ?_
          exact Fin.of (by rw [← h8]; exact congrArg _ (List.take_of_length_le (by simp)))
        · rw [decide_eq_false_iff_not] at hc
          have hc1 : c = 0 := by omega
          subst hc1
          have h8 : out = mg 1000000000 (b + a) := by
            have h9 : val 1000000000 out = ((b + a : Nat) : Int) := by omega
            rcases Nat.eq_zero_or_pos b with h0 | h0
            · have h10 : (ys).length = 0 := by rw [hey.mpr h0]; rfl
              have e3 := hex.mp (List.length_eq_zero_iff.mp (by omega))
              rw [h0, e3, List.length_eq_zero_iff.mp (by omega : out.length = 0)]; rfl
            · have h10 := mg_of_ge (B := 1000000000) (l := out) (by omega) h2 (by
                have h11 := hpy h0
                rw [h1, h9, hk]
                have h12 : ((1000000000 ^ ((ys).length - 1) : Nat) : Int) ≤ (b : Int) := by exact_mod_cast h11
                rw [Int.natCast_pow] at h12
                omega)
              rw [h10, h9]; rfl
          (conv => whnf)
          refine V.st ?_
          exact Fin.of (by rw [← h8, List.take_of_length_le (by simp)])
  · rw [decide_eq_false_iff_not] at hl
    obtain ⟨N, hN⟩ : ∃ N, N = xs.length + 1 := ⟨_, rfl⟩
    have e1 : (xs.length : Int) + 1 = (N : Int) := by omega
    (conv => whnf)
    (try simp only [e1, Int.toNat_natCast])
    repeat ((first | refine V.s1 ?_); (try simp only [e1, Int.toNat_natCast]))
    refine lp_any ((false, 0, [], 0) : Bool × Nat × List Int × Int) (fun s => s.2.2.1.length = s.2.1 ∧ Dg 1000000000 s.2.2.1 ∧ (0 ≤ s.2.2.2 ∧ s.2.2.2 ≤ 1) ∧ val 1000000000 s.2.2.1 + s.2.2.2 * ((1000000000 : Nat) : Int) ^ s.2.1 = val 1000000000 ((xs).take s.2.1) + val 1000000000 ((ys).take s.2.1) ∧ s.2.1 ≤ (xs).length ∧ (s.1 = false → s.2.2.1 = [])) (fun s => (xs).length - s.2.1)
      (fun s => match s.1 with | false => [(22, .int .i64 s.2.1), (6, .int .u32 s.2.2.2), (5, .osl 19 0 0)] | true => [(22, .int .i64 s.2.1), (6, .int .u32 s.2.2.2), (5, .osl 47 0 s.2.2.1.length)]) (fun s => match s.1 with | false => [(19, .arr .u32 [])] | true => [(47, .arr .u32 s.2.2.1), (19, .gone)]) ?_ ?_ ?_
    · exact V.wk
    · exact ⟨rfl, fun x hx => by simp at hx, by simp, by simp [val], Nat.zero_le _, fun _ => rfl⟩
    rintro ⟨_ | _, k, out, c⟩ ⟨h1, h2, h3, h4, h5, h6⟩
    · dsimp only at h1 h2 h3 h4 h5 h6 ⊢
      have h7 := h6 rfl
      clear h6
      subst h7
      have vx := val_take_getD 1000000000 xs k
      have vy := val_take_getD 1000000000 ys k
      have bx := dg_getD (by omega) hdx k
      have by' := dg_getD (by omega) hdy k
      have gy := getD_ge (xs := ys) (k := k)
      generalize hx0 : (xs).getD k 0 = x at *
      generalize hy0 : (ys).getD k 0 = y at *
      (conv => whnf)
      (try simp only [Int.toNat_natCast])
      repeat ((first | refine V.s1 ?_); (try simp only [Int.toNat_natCast]))
      refine Cnd.split (CondB.mk (fun hq => ?_) (fun hq => ?_))
      · rw [decide_eq_true_eq] at hq
        (conv => whnf)
        (try simp only [Int.toNat_natCast, hx0])
        repeat ((first | refine V.s1 ?_); (try simp only [Int.toNat_natCast, hx0]))
        refine Cnd.split (CondB.mk (fun hy => ?_) (fun hy => ?_))
        · rw [decide_eq_true_eq] at hy
          (conv => whnf)
          (try simp only [Int.toNat_natCast, hy0])
          repeat ((first | refine V.s1 ?_); (try simp only [Int.toNat_natCast, hy0]))
          refine Cnd.split (CondB.mk (fun hz => ?_) (fun hz => ?_))
          · rw [decide_eq_true_eq] at hz
            have hst := add_step (B := 1000000000) (x := x) (y := y) (d := (x + c + y - 1000000000)) (c' := 1) h1 h4 (by omega)
            rw [← vx, ← vy] at hst
            have hdg : Dg 1000000000 (([] : List Int) ++ [(x + c + y - 1000000000)]) := dg_append h2 (dg_one (by omega))
            have hl2 : (([] : List Int) ++ [(x + c + y - 1000000000)]).length = k + 1 := by simp [h1]
            have hl3 : (([] : List Int)).length + (List.take 1 (List.drop 0 [(x + c + y - 1000000000)])).length = (([] : List Int) ++ [(x + c + y - 1000000000)]).length := by simp
            have hkc : ((k : Int) + 1) = ((k + 1 : Nat) : Int) := by omega
            (conv => whnf)
            (try simp only [hl3, hkc, Nat.zero_add])
            repeat ((first | refine V.s1 ?_); (try simp only [hl3, hkc, Nat.zero_add]))
            try refine And.intro (fun _ => ⟨trivial, by omega⟩) ?_
            (conv => whnf)
            (try simp only [hl3, hkc, Nat.zero_add])
            repeat ((first | refine V.s1 ?_); (try simp only [hl3, hkc, Nat.zero_add]))
            exact ⟨(true, k + 1, ([] : List Int) ++ [(x + c + y - 1000000000)], 1), ⟨hl2, hdg, by dsimp only; omega, hst, by dsimp only; omega, fun h => by cases h⟩, by dsimp only; omega, V.wk⟩
          · rw [decide_eq_false_iff_not] at hz
            have hst := add_step (B := 1000000000) (x := x) (y := y) (d := (x + c + y)) (c' := 0) h1 h4 (by omega)
            rw [← vx, ← vy] at hst
            have hdg : Dg 1000000000 (([] : List Int) ++ [(x + c + y)]) := dg_append h2 (dg_one (by omega))
            have hl2 : (([] : List Int) ++ [(x + c + y)]).length = k + 1 := by simp [h1]
            have hl3 : (([] : List Int)).length + (List.take 1 (List.drop 0 [(x + c + y)])).length = (([] : List Int) ++ [(x + c + y)]).length := by simp
            have hkc : ((k : Int) + 1) = ((k + 1 : Nat) : Int) := by omega
            (conv => whnf)
            (try simp only [hl3, hkc, Nat.zero_add])
            repeat ((first | refine V.s1 ?_); (try simp only [hl3, hkc, Nat.zero_add]))
            try refine And.intro (fun _ => ⟨trivial, by omega⟩) ?_
            (conv => whnf)
            (try simp only [hl3, hkc, Nat.zero_add])
            repeat ((first | refine V.s1 ?_); (try simp only [hl3, hkc, Nat.zero_add]))
            exact ⟨(true, k + 1, ([] : List Int) ++ [(x + c + y)], 0), ⟨hl2, hdg, by dsimp only; omega, hst, by dsimp only; omega, fun h => by cases h⟩, by dsimp only; omega, V.wk⟩
        · rw [decide_eq_false_iff_not] at hy
          have := gy (by omega)
          (conv => whnf)
          (try simp only [Int.toNat_natCast])
          repeat ((first | refine V.s1 ?_); (try simp only [Int.toNat_natCast]))
          refine Cnd.split (CondB.mk (fun hz => ?_) (fun hz => ?_))
          · rw [decide_eq_true_eq] at hz
            have hst := add_step (B := 1000000000) (x := x) (y := y) (d := (x + c - 1000000000)) (c' := 1) h1 h4 (by omega)
            rw [← vx, ← vy] at hst
            have hdg : Dg 1000000000 (([] : List Int) ++ [(x + c - 1000000000)]) := dg_append h2 (dg_one (by omega))
            have hl2 : (([] : List Int) ++ [(x + c - 1000000000)]).length = k + 1 := by simp [h1]
            have hl3 : (([] : List Int)).length + (List.take 1 (List.drop 0 [(x + c - 1000000000)])).length = (([] : List Int) ++ [(x + c - 1000000000)]).length := by simp
            have hkc : ((k : Int) + 1) = ((k + 1 : Nat) : Int) := by omega
            (conv => whnf)
            (try simp only [hl3, hkc, Nat.zero_add])
            repeat ((first | refine V.s1 ?_); (try simp only [hl3, hkc, Nat.zero_add]))
            try refine And.intro (fun _ => ⟨trivial, by omega⟩) ?_
            (conv => whnf)
            (try simp only [hl3, hkc, Nat.zero_add])
            repeat ((first | refine V.s1 ?_); (try simp only [hl3, hkc, Nat.zero_add]))
            exact ⟨(true, k + 1, ([] : List Int) ++ [(x + c - 1000000000)], 1), ⟨hl2, hdg, by dsimp only; omega, hst, by dsimp only; omega, fun h => by cases h⟩, by dsimp only; omega, V.wk⟩
          · rw [decide_eq_false_iff_not] at hz
            have hst := add_step (B := 1000000000) (x := x) (y := y) (d := (x + c)) (c' := 0) h1 h4 (by omega)
            rw [← vx, ← vy] at hst
            have hdg : Dg 1000000000 (([] : List Int) ++ [(x + c)]) := dg_append h2 (dg_one (by omega))
            have hl2 : (([] : List Int) ++ [(x + c)]).length = k + 1 := by simp [h1]
            have hl3 : (([] : List Int)).length + (List.take 1 (List.drop 0 [(x + c)])).length = (([] : List Int) ++ [(x + c)]).length := by simp
            have hkc : ((k : Int) + 1) = ((k + 1 : Nat) : Int) := by omega
            (conv => whnf)
            (try simp only [hl3, hkc, Nat.zero_add])
            repeat ((first | refine V.s1 ?_); (try simp only [hl3, hkc, Nat.zero_add]))
            try refine And.intro (fun _ => ⟨trivial, by omega⟩) ?_
            (conv => whnf)
            (try simp only [hl3, hkc, Nat.zero_add])
            repeat ((first | refine V.s1 ?_); (try simp only [hl3, hkc, Nat.zero_add]))
            exact ⟨(true, k + 1, ([] : List Int) ++ [(x + c)], 0), ⟨hl2, hdg, by dsimp only; omega, hst, by dsimp only; omega, fun h => by cases h⟩, by dsimp only; omega, V.wk⟩
      · rw [decide_eq_false_iff_not] at hq
        have h7 : k = 0 := by simpa using h1.symm
        have h8 : (xs).length = 0 := by omega
        have e2 := hex.mp (List.length_eq_zero_iff.mp h8)
        have e3 := hey.mp (List.length_eq_zero_iff.mp (by omega))
        have e4 : c = 0 := by
          rw [List.take_of_length_le (by omega), List.take_of_length_le (by omega), hvx, hvy, e2, e3, h7] at h4
          simpa [val] using h4
        subst e4 h7
        rw [e2, e3]
        (conv => whnf)
        refine V.st ?_
        exact Fin.of rfl
    · clear h6
      dsimp only at h1 h2 h3 h4 h5 ⊢
      have vx := val_take_getD 1000000000 xs k
      have vy := val_take_getD 1000000000 ys k
      have bx := dg_getD (by omega) hdx k
      have by' := dg_getD (by omega) hdy k
      have gy := getD_ge (xs := ys) (k := k)
      generalize hx0 : (xs).getD k 0 = x at *
      generalize hy0 : (ys).getD k 0 = y at *
      (conv => whnf)
      (try simp only [Int.toNat_natCast])
      repeat ((first | refine V.s1 ?_); (try simp only [Int.toNat_natCast]))
      refine Cnd.split (CondB.mk (fun hq => ?_) (fun hq => ?_))
      · rw [decide_eq_true_eq] at hq
        (conv => whnf)
        (try simp only [Int.toNat_natCast, hx0])
        repeat ((first | refine V.s1 ?_); (try simp only [Int.toNat_natCast, hx0]))
        refine Cnd.split (CondB.mk (fun hy => ?_) (fun hy => ?_))
        · rw [decide_eq_true_eq] at hy
          (conv => whnf)
          (try simp only [Int.toNat_natCast, hy0])
          repeat ((first | refine V.s1 ?_); (try simp only [Int.toNat_natCast, hy0]))
          refine Cnd.split (CondB.mk (fun hz => ?_) (fun hz => ?_))
          · rw [decide_eq_true_eq] at hz
            have hst := add_step (B := 1000000000) (x := x) (y := y) (d := (x + c + y - 1000000000)) (c' := 1) h1 h4 (by omega)
            rw [← vx, ← vy] at hst
            have hdg : Dg 1000000000 (out ++ [(x + c + y - 1000000000)]) := dg_append h2 (dg_one (by omega))
            have hl2 : (out ++ [(x + c + y - 1000000000)]).length = k + 1 := by simp [h1]
            have hl3 : (out).length + (List.take 1 (List.drop 0 [(x + c + y - 1000000000)])).length = (out ++ [(x + c + y - 1000000000)]).length := by simp
            have hkc : ((k : Int) + 1) = ((k + 1 : Nat) : Int) := by omega
            (conv => whnf)
            (try simp only [hl3, hkc, Nat.zero_add])
            repeat ((first | refine V.s1 ?_); (try simp only [hl3, hkc, Nat.zero_add]))
            try refine And.intro (fun _ => ⟨trivial, by omega⟩) ?_
            (conv => whnf)
            (try simp only [hl3, hkc, Nat.zero_add])
            repeat ((first | refine V.s1 ?_); (try simp only [hl3, hkc, Nat.zero_add]))
            exact ⟨(true, k + 1, out ++ [(x + c + y - 1000000000)], 1), ⟨hl2, hdg, by dsimp only; omega, hst, by dsimp only; omega, fun h => by cases h⟩, by dsimp only; omega, V.wk⟩
          · rw [decide_eq_false_iff_not] at hz
            have hst := add_step (B := 1000000000) (x := x) (y := y) (d := (x + c + y)) (c' := 0) h1 h4 (by omega)
            rw [← vx, ← vy] at hst
            have hdg : Dg 1000000000 (out ++ [(x + c + y)]) := dg_append h2 (dg_one (by omega))
            have hl2 : (out ++ [(x + c + y)]).length = k + 1 := by simp [h1]
            have hl3 : (out).length + (List.take 1 (List.drop 0 [(x + c + y)])).length = (out ++ [(x + c + y)]).length := by simp
            have hkc : ((k : Int) + 1) = ((k + 1 : Nat) : Int) := by omega
            (conv => whnf)
            (try simp only [hl3, hkc, Nat.zero_add])
            repeat ((first | refine V.s1 ?_); (try simp only [hl3, hkc, Nat.zero_add]))
            try refine And.intro (fun _ => ⟨trivial, by omega⟩) ?_
            (conv => whnf)
            (try simp only [hl3, hkc, Nat.zero_add])
            repeat ((first | refine V.s1 ?_); (try simp only [hl3, hkc, Nat.zero_add]))
            exact ⟨(true, k + 1, out ++ [(x + c + y)], 0), ⟨hl2, hdg, by dsimp only; omega, hst, by dsimp only; omega, fun h => by cases h⟩, by dsimp only; omega, V.wk⟩
        · rw [decide_eq_false_iff_not] at hy
          have := gy (by omega)
          (conv => whnf)
          (try simp only [Int.toNat_natCast])
          repeat ((first | refine V.s1 ?_); (try simp only [Int.toNat_natCast]))
          refine Cnd.split (CondB.mk (fun hz => ?_) (fun hz => ?_))
          · rw [decide_eq_true_eq] at hz
            have hst := add_step (B := 1000000000) (x := x) (y := y) (d := (x + c - 1000000000)) (c' := 1) h1 h4 (by omega)
            rw [← vx, ← vy] at hst
            have hdg : Dg 1000000000 (out ++ [(x + c - 1000000000)]) := dg_append h2 (dg_one (by omega))
            have hl2 : (out ++ [(x + c - 1000000000)]).length = k + 1 := by simp [h1]
            have hl3 : (out).length + (List.take 1 (List.drop 0 [(x + c - 1000000000)])).length = (out ++ [(x + c - 1000000000)]).length := by simp
            have hkc : ((k : Int) + 1) = ((k + 1 : Nat) : Int) := by omega
            (conv => whnf)
            (try simp only [hl3, hkc, Nat.zero_add])
            repeat ((first | refine V.s1 ?_); (try simp only [hl3, hkc, Nat.zero_add]))
            try refine And.intro (fun _ => ⟨trivial, by omega⟩) ?_
            (conv => whnf)
            (try simp only [hl3, hkc, Nat.zero_add])
            repeat ((first | refine V.s1 ?_); (try simp only [hl3, hkc, Nat.zero_add]))
            exact ⟨(true, k + 1, out ++ [(x + c - 1000000000)], 1), ⟨hl2, hdg, by dsimp only; omega, hst, by dsimp only; omega, fun h => by cases h⟩, by dsimp only; omega, V.wk⟩
          · rw [decide_eq_false_iff_not] at hz
            have hst := add_step (B := 1000000000) (x := x) (y := y) (d := (x + c)) (c' := 0) h1 h4 (by omega)
            rw [← vx, ← vy] at hst
            have hdg : Dg 1000000000 (out ++ [(x + c)]) := dg_append h2 (dg_one (by omega))
            have hl2 : (out ++ [(x + c)]).length = k + 1 := by simp [h1]
            have hl3 : (out).length + (List.take 1 (List.drop 0 [(x + c)])).length = (out ++ [(x + c)]).length := by simp
            have hkc : ((k : Int) + 1) = ((k + 1 : Nat) : Int) := by omega
            (conv => whnf)
            (try simp only [hl3, hkc, Nat.zero_add])
            repeat ((first | refine V.s1 ?_); (try simp only [hl3, hkc, Nat.zero_add]))
            try refine And.intro (fun _ => ⟨trivial, by omega⟩) ?_
            (conv => whnf)
            (try simp only [hl3, hkc, Nat.zero_add])
            repeat ((first | refine V.s1 ?_); (try simp only [hl3, hkc, Nat.zero_add]))
            exact ⟨(true, k + 1, out ++ [(x + c)], 0), ⟨hl2, hdg, by dsimp only; omega, hst, by dsimp only; omega, fun h => by cases h⟩, by dsimp only; omega, V.wk⟩
      · rw [decide_eq_false_iff_not] at hq
        have hk : k = (xs).length := by omega
        rw [List.take_of_length_le (by omega), List.take_of_length_le (by omega), hvx, hvy] at h4
        (conv => whnf)
        refine V.st ?_
        refine Cnd.split (CondB.mk (fun hc => ?_) (fun hc => ?_))
        · rw [decide_eq_true_eq] at hc
          have hc1 : c = 1 := by omega
          subst hc1
          have h8 : out ++ [1] = mg 1000000000 (a + b) := by
            have h9 : val 1000000000 (out ++ [1]) = ((a + b : Nat) : Int) := by rw [val_snoc, h1]; omega
            have h10 := mg_of_ge (B := 1000000000) (l := out ++ [1]) (by omega) (dg_append h2 (dg_one (by omega))) (by
              rw [val_snoc, List.length_append, List.length_singleton, Nat.add_sub_cancel]
              have := val_nonneg h2
              omega)
            rw [h10, h9]; rfl
          (conv => whnf)
          refine V.st ?_
          exact Fin.of (by rw [← h8]; exact congrArg _ (List.take_of_length_le (by simp)))
        · rw [decide_eq_false_iff_not] at hc
          have hc1 : c = 0 := by omega
          subst hc1
          have h8 : out = mg 1000000000 (a + b) := by
            have h9 : val 1000000000 out = ((a + b : Nat) : Int) := by omega
            rcases Nat.eq_zero_or_pos a with h0 | h0
            · have h10 : (xs).length = 0 := by rw [hex.mpr h0]; rfl
              have e3 := hey.mp (List.length_eq_zero_iff.mp (by omega))
              rw [h0, e3, List.length_eq_zero_iff.mp (by omega : out.length = 0)]; rfl
            · have h10 := mg_of_ge (B := 1000000000) (l := out) (by omega) h2 (by
                have h11 := hpx h0
                rw [h1, h9, hk]
                have h12 : ((1000000000 ^ ((xs).length - 1) : Nat) : Int) ≤ (a : Int) := by exact_mod_cast h11
                rw [Int.natCast_pow] at h12
                omega)
              rw [h10, h9]; rfl
          (conv => whnf)
          refine V.st ?_
          exact Fin.of (by rw [← h8, List.take_of_length_le (by simp)])
theorem pad_set {out : List Int} {n k : Nat} {d : Int} (h : out.length = k) (hk : k < n) : (out ++ List.replicate (n - k) 0).set k d = (out ++ [d]) ++ List.replicate (n - (k + 1)) 0 := by
  subst h
  have e : n - out.length = (n - (out.length + 1)) + 1 := by omega
  rw [e, List.replicate_succ, List.set_append_right _ _ (Nat.le_refl _), Nat.sub_self, List.set_cons_zero]
  simp
theorem zM1_0 : type_of% @Int.toNat_natCast ∧ type_of% @Nat.zero_add := ⟨@Int.toNat_natCast, @Nat.zero_add⟩
theorem minus_m (a b : Nat) (hba : b ≤ a) (ha : (mg 1000000000 a).length ≤ 100000000) : Called Tryz.prog 141 [.ints .u32 (mg 1000000000 a), .ints .u32 (mg 1000000000 b)] (.ints .u32 (mg 1000000000 (a - b))) := by
  have hdx := mg_dg (B := 1000000000) (by omega) a
  have hdy := mg_dg (B := 1000000000) (by omega) b
  have hvx := mg_val (B := 1000000000) (by omega) a
  have hvy := mg_val (B := 1000000000) (by omega) b
  have hlen := mg_len_mono (B := 1000000000) (by omega) hba
  generalize mg 1000000000 a = xs at *
  generalize mg 1000000000 b = ys at *
  refine called_of_run tbOk 6 ⟨Tryz.func141, rfl, rfl, Nat.le_of_ble_eq_true rfl⟩ ?_
  (conv => whnf)
  (conv => whnf)
  (try simp only [Int.toNat_natCast])
  repeat ((first | refine V.s1 ?_); (try simp only [Int.toNat_natCast]))
  refine lp_any ((0, [], 0) : Nat × List Int × Int) (fun s => s.2.1.length = s.1 ∧ Dg 1000000000 s.2.1 ∧ (0 ≤ s.2.2 ∧ s.2.2 ≤ 1) ∧ val 1000000000 s.2.1 - s.2.2 * ((1000000000 : Nat) : Int) ^ s.1 = val 1000000000 (xs.take s.1) - val 1000000000 (ys.take s.1) ∧ s.1 ≤ xs.length) (fun s => xs.length - s.1)
    (fun s => [(15, .int .i64 s.1), (6, .int .u32 s.2.2), (5, .osl 12 0 xs.length)]) (fun s => [(12, .arr .u32 (s.2.1 ++ List.replicate (xs.length - s.1) 0))]) ?_ ?_ ?_
  · exact V.wk
  · exact ⟨rfl, fun x hx => by simp at hx, by simp, by simp [val], Nat.zero_le _⟩
  rintro ⟨k, out, c⟩ ⟨h1, h2, h3, h4, h5⟩
  dsimp only at h1 h2 h3 h4 h5 ⊢
  have vx := val_take_getD 1000000000 xs k
  have vy := val_take_getD 1000000000 ys k
  have bx := dg_getD (by omega) hdx k
  have by' := dg_getD (by omega) hdy k
  have gy := getD_ge (xs := ys) (k := k)
  generalize hx0 : xs.getD k 0 = x at *
  generalize hy0 : ys.getD k 0 = y at *
  (conv => whnf)
  (try simp only [Int.toNat_natCast])
  repeat ((first | refine V.s1 ?_); (try simp only [Int.toNat_natCast]))
  refine Cnd.split (CondB.mk (fun hq => ?_) (fun hq => ?_))
  · rw [decide_eq_true_eq] at hq
    (conv => whnf)
    (try simp only [Int.toNat_natCast, hx0])
    repeat ((first | refine V.s1 ?_); (try simp only [Int.toNat_natCast, hx0]))
    refine Cnd.split (CondB.mk (fun hy => ?_) (fun hy => ?_))
    · rw [decide_eq_true_eq] at hy
      (conv => whnf)
      (try simp only [Int.toNat_natCast, hy0])
      repeat ((first | refine V.s1 ?_); (try simp only [Int.toNat_natCast, hy0]))
      refine Cnd.split (CondB.mk (fun hz => ?_) (fun hz => ?_))
      · rw [decide_eq_true_eq] at hz
        have hst := sub_step (B := 1000000000) (x := x) (y := y) (d := (x + 1000000000 - (c + y))) (b' := 1) h1 h4 (by omega)
        rw [← vx, ← vy] at hst
        have hdg : Dg 1000000000 (out ++ [(x + 1000000000 - (c + y))]) := dg_append h2 (dg_one (by omega))
        have hps := pad_set (d := (x + 1000000000 - (c + y))) (n := xs.length) h1 (by omega)
        have hkc : ((k : Int) + 1) = ((k + 1 : Nat) : Int) := by omega
        (conv => whnf)
        (try simp only [zM1_0, hps, hkc])
        repeat ((first | refine V.s1 ?_); (try simp only [zM1_0, hps, hkc]))
        (conv => whnf)
        (try simp only [zM1_0, hps, hkc])
        repeat ((first | refine V.s1 ?_); (try simp only [zM1_0, hps, hkc]))
        exact ⟨(k + 1, out ++ [(x + 1000000000 - (c + y))], 1), ⟨by dsimp only; simp [h1], hdg, by dsimp only; omega, hst, by dsimp only; omega⟩, by dsimp only; omega, V.wk⟩
      · rw [decide_eq_false_iff_not] at hz
        have hst := sub_step (B := 1000000000) (x := x) (y := y) (d := (x - (c + y))) (b' := 0) h1 h4 (by omega)
        rw [← vx, ← vy] at hst
        have hdg : Dg 1000000000 (out ++ [(x - (c + y))]) := dg_append h2 (dg_one (by omega))
        have hps := pad_set (d := (x - (c + y))) (n := xs.length) h1 (by omega)
        have hkc : ((k : Int) + 1) = ((k + 1 : Nat) : Int) := by omega
        (conv => whnf)
        (try simp only [zM1_0, hps, hkc])
        repeat ((first | refine V.s1 ?_); (try simp only [zM1_0, hps, hkc]))
        (conv => whnf)
        (try simp only [zM1_0, hps, hkc])
        repeat ((first | refine V.s1 ?_); (try simp only [zM1_0, hps, hkc]))
        exact ⟨(k + 1, out ++ [(x - (c + y))], 0), ⟨by dsimp only; simp [h1], hdg, by dsimp only; omega, hst, by dsimp only; omega⟩, by dsimp only; omega, V.wk⟩
    · rw [decide_eq_false_iff_not] at hy
      have := gy (by omega)
      (conv => whnf)
      (try simp only [Int.toNat_natCast])
      repeat ((first | refine V.s1 ?_); (try simp only [Int.toNat_natCast]))
      refine Cnd.split (CondB.mk (fun hz => ?_) (fun hz => ?_))
      · rw [decide_eq_true_eq] at hz
        have hst := sub_step (B := 1000000000) (x := x) (y := y) (d := (x + 1000000000 - c)) (b' := 1) h1 h4 (by omega)
        rw [← vx, ← vy] at hst
        have hdg : Dg 1000000000 (out ++ [(x + 1000000000 - c)]) := dg_append h2 (dg_one (by omega))
        have hps := pad_set (d := (x + 1000000000 - c)) (n := xs.length) h1 (by omega)
        have hkc : ((k : Int) + 1) = ((k + 1 : Nat) : Int) := by omega
        (conv => whnf)
        (try simp only [zM1_0, hps, hkc])
        repeat ((first | refine V.s1 ?_); (try simp only [zM1_0, hps, hkc]))
        (conv => whnf)
        (try simp only [zM1_0, hps, hkc])
        repeat ((first | refine V.s1 ?_); (try simp only [zM1_0, hps, hkc]))
        exact ⟨(k + 1, out ++ [(x + 1000000000 - c)], 1), ⟨by dsimp only; simp [h1], hdg, by dsimp only; omega, hst, by dsimp only; omega⟩, by dsimp only; omega, V.wk⟩
      · rw [decide_eq_false_iff_not] at hz
        have hst := sub_step (B := 1000000000) (x := x) (y := y) (d := (x - c)) (b' := 0) h1 h4 (by omega)
        rw [← vx, ← vy] at hst
        have hdg : Dg 1000000000 (out ++ [(x - c)]) := dg_append h2 (dg_one (by omega))
        have hps := pad_set (d := (x - c)) (n := xs.length) h1 (by omega)
        have hkc : ((k : Int) + 1) = ((k + 1 : Nat) : Int) := by omega
        (conv => whnf)
        (try simp only [zM1_0, hps, hkc])
        repeat ((first | refine V.s1 ?_); (try simp only [zM1_0, hps, hkc]))
        (conv => whnf)
        (try simp only [zM1_0, hps, hkc])
        repeat ((first | refine V.s1 ?_); (try simp only [zM1_0, hps, hkc]))
        exact ⟨(k + 1, out ++ [(x - c)], 0), ⟨by dsimp only; simp [h1], hdg, by dsimp only; omega, hst, by dsimp only; omega⟩, by dsimp only; omega, V.wk⟩
  · rw [decide_eq_false_iff_not] at hq
    have hk : k = xs.length := by omega
    rw [List.take_of_length_le (by omega), List.take_of_length_le (by omega), hvx, hvy] at h4
    have h0 := val_nonneg h2
    have h6 := val_lt h2
    have hc : c = 0 := by
      rw [h1] at h6
      rcases (by omega : c = 0 ∨ c = 1) with e | e
      · exact e
      · subst e; omega
    subst hc
    have htr := trim_c out h2 (by omega)
    rw [(by omega : (val 1000000000 out).toNat = a - b)] at htr
    have hrep : out ++ List.replicate (xs.length - k) 0 = out := by rw [hk, Nat.sub_self]; simp
    rw [hrep]
    rw [← List.take_length (l := out), h1, hk] at htr
    (conv => whnf)
    refine V.st ?_
    repeat ((try ((with_reducible refine .ext ?_); (conv => whnf))); (with_reducible refine call_intro (r := ?_) ?_ ?_); rotate_left; (focus (first | exact (htr))); (conv => whnf); refine V.st ?_)
    exact Fin.of rfl
end Go.Proofs.YtpcpgjcdkgcbpaaGreatDoor
end
section
namespace Go.Proofs.YtpcpgjcdkgcbpaaGreatDoor
open Go Go.V Go.Nb
theorem order_parts (x y : Rat) : (x.num * y.den + -(y.num * x.den)).sign = (if x < y then -1 else if x = y then 0 else 1 : Int) := by
  have h1 : x < y ↔ x.num * y.den < y.num * x.den := Rat.lt_iff x y
  have h2 : x = y ↔ x.num * y.den = y.num * x.den := by
    conv => lhs; rw [← Rat.num_divInt_den x, ← Rat.num_divInt_den y]
    exact Rat.divInt_eq_divInt_iff (by have := x.den_pos; omega) (by have := y.den_pos; omega)
  by_cases a1 : x < y
  · rw [if_pos a1]; exact Int.sign_eq_neg_one_of_neg (by have := h1.1 a1; omega)
  · rw [if_neg a1]
    by_cases a2 : x = y
    · rw [if_pos a2, show x.num * y.den + -(y.num * x.den) = 0 by have := h2.1 a2; omega]; rfl
    · rw [if_neg a2]
      refine Int.sign_eq_one_of_pos ?_
      have b1 : ¬ (x.num * y.den < y.num * x.den) := fun h => a1 (h1.2 h)
      have b2 : ¬ (x.num * y.den = y.num * x.den) := fun h => a2 (h2.2 h)
      omega
def ordQ (x y : Rat) : Int := if x < y then -1 else if x = y then 0 else 1
end Go.Proofs.YtpcpgjcdkgcbpaaGreatDoor
end
section
namespace Go.Proofs.YtpcpgjcdkgcbpaaGreatDoor
open Go Go.V Go.Nb
theorem wtrim_c (xs : List Int) (hd : Dg 1000000000 xs) (hl : xs.length ≤ 281474976710656) : Called Tryz.prog 179 [.ints .u32 xs] (.ints .u32 (mg 1000000000 (val 1000000000 xs).toNat)) := by
  refine called_of_run tbOk 6 ⟨Tryz.func179, rfl, rfl, Nat.le_of_ble_eq_true rfl⟩ ?_
  (conv => whnf)
  refine V.st ?_
  refine lp_any (xs.length) (fun k => k ≤ xs.length ∧ val 1000000000 (xs.take k) = val 1000000000 xs) (fun k => k) (fun k => [(0, .ints .u32 (xs.take k))]) (fun k => []) ?_ ?_ ?_
  · rw [List.take_length]
    exact V.wk
  · exact ⟨Nat.le_refl _, by rw [List.take_length]⟩
  intro k hk
  have hlt : (xs.take k).length = k := by rw [List.length_take]; omega
  (conv => whnf)
  (try simp only [hlt])
  repeat ((first | refine V.s1 ?_); (try simp only [hlt]))
  refine Cnd.split (CondB.mk (fun hq => ?_) (fun hq => ?_))
  · rw [Bool.and_eq_true, decide_eq_true_eq, decide_eq_true_eq] at hq
    have hk0 : 0 < k := by omega
    obtain ⟨j, rfl⟩ : ∃ j, k = j + 1 := ⟨k - 1, by omega⟩
    obtain ⟨x, hx, ex⟩ := getxn (xs := xs) (k := j) (by omega)
    have e1 : ((((j + 1 : Nat) : Int) - 1).toNat) = j := by omega
    have e2 : (((j + 1 : Nat) : Int) - 1) = (j : Int) := by omega
    have e3 : (xs.take (j + 1)).getD j 0 = x := by
      rw [List.getD_eq_getElem?_getD, List.getElem?_take_of_lt (by omega), hx]; rfl
    have e4 : (xs.take (j + 1)).take j = xs.take j := by rw [List.take_take, Nat.min_eq_left (by omega)]
    rw [e1, e3] at hq
    rw [hq.2] at hx
    (conv => whnf)
    (try simp only [e2, hlt, Int.toNat_natCast, e4])
    repeat ((first | refine V.s1 ?_); (try simp only [e2, hlt, Int.toNat_natCast, e4]))
    exact ⟨j, ⟨by omega, by rw [← hk.2, val_take_zero hx]⟩, by omega, V.wk⟩
  · have h3 : k = 0 ∨ ∃ x, xs[k - 1]? = some x ∧ x ≠ 0 := by
      rcases Nat.eq_zero_or_pos k with e | e
      · exact .inl e
      · refine .inr ?_
        obtain ⟨x, hx, ex⟩ := getxn (xs := xs) (k := (k - 1)) (by omega)
        refine ⟨x, hx, fun e0 => ?_⟩
        have e1 : (((k : Nat) : Int) - 1).toNat = k - 1 := by omega
        have e3 : (xs.take k).getD (k - 1) 0 = x := by
          rw [List.getD_eq_getElem?_getD, List.getElem?_take_of_lt (by omega), hx]; rfl
        rw [e1, e3, e0] at hq
        simp at hq
        omega
    (conv => whnf)
    refine V.st ?_
    exact Fin.of (by rw [take_mg (by omega) hd hk.2 hk.1 h3])
theorem rdv_snoc (s : List UInt8) (c : UInt8) : rdv (s ++ [c]) = rdv s * 10 + (c.toNat - 48) := by
  rw [rdv_append, rdv_one]; simp
theorem take_succ_drop {s : List UInt8} {a i : Nat} (ha : a ≤ i) (hi : i < s.length) : (s.take (i + 1)).drop a = (s.take i).drop a ++ [s.getD i 0] := by
  rw [List.take_add_one, List.getElem?_eq_getElem hi, List.drop_append_of_le_length (by rw [List.length_take]; omega)]
  simp [List.getD_eq_getElem?_getD, hi]
theorem take_split {s : List UInt8} {a e : Nat} (ha : a ≤ e) (he : e ≤ s.length) : s.take e = s.take a ++ (s.take e).drop a := by
  conv => lhs; rw [← List.take_append_drop a (s.take e)]
  rw [List.take_take, Nat.min_eq_left ha]
theorem gather_c (s : List UInt8) (hd : ∀ c ∈ s, isDig c = true) (hl : s.length ≤ 100000000) : Called Tryz.prog 145 [.str s] (.ints .u32 (mg 1000000000 (rdv s))) := by
  refine called_of_run tbOk 6 ⟨Tryz.func145, rfl, rfl, Nat.le_of_ble_eq_true rfl⟩ ?_
  (conv => whnf)
  refine V.st ?_
  refine Lp.ghostSlot 32 3 .u32 (by decide) ?_
  (conv => whnf)
  refine lp_any ((s.length, []) : Nat × List Int) (fun t => t.1 ≤ s.length ∧ t.2.length * 9 + t.1 = s.length ∧ Dg 1000000000 t.2 ∧ val 1000000000 t.2 + ((1000000000 : Nat) : Int) ^ t.2.length * (rdv (s.take t.1) : Nat) = (rdv s : Nat)) (fun t => t.1)
    (fun t => [(4, .int .i64 t.1), (3, .osl 32 0 t.2.length)]) (fun t => [(32, .arr .u32 t.2)]) ?_ ?_ ?_
  · exact V.wk
  · exact ⟨Nat.le_refl _, by simp, fun x hx => by simp at hx, by simp [val]⟩
  rintro ⟨e, m⟩ ⟨h1, h2, h3, h4⟩
  dsimp only at h1 h2 h3 h4 ⊢
  have hmax : max ((e : Int) - 9) 0 = ((e - 9 : Nat) : Int) := by omega
  (conv => whnf)
  (try simp only [hmax])
  repeat ((first | refine V.s1 ?_); (try simp only [hmax]))
  have hdig : ∀ i, i < s.length → 48 ≤ (s.getD i 0).toNat ∧ (s.getD i 0).toNat ≤ 57 := fun i hi => by
    have := hd (s.getD i 0) (by rw [List.getD_eq_getElem?_getD, List.getElem?_eq_getElem hi]; exact List.getElem_mem _)
    simpa [isDig] using this
  have hsub : ∀ i, ∀ c ∈ (s.take i).drop (e - 9), isDig c = true := fun i c hc => hd c (List.mem_of_mem_take (List.mem_of_mem_drop hc))
  have hlt : ∀ i k, i ≤ s.length → i - (e - 9) ≤ k → rdv ((s.take i).drop (e - 9)) < 10 ^ k := fun i k hi hk => by
    have h5 := rdv_lt (hsub i)
    rw [List.length_drop, List.length_take, Nat.min_eq_left hi] at h5
    exact Nat.lt_of_lt_of_le h5 (Nat.pow_le_pow_right (by omega) hk)
  refine lp_any (e - 9 : Nat) (fun i => e - 9 ≤ i ∧ i ≤ e) (fun i => e - i) (fun i => [(7, .int .i64 i), (6, .int .u32 (rdv ((s.take i).drop (e - 9)) : Nat))]) (fun _ => []) ?_ ?_ ?_
  · rw [show (s.take (e - 9)).drop (e - 9) = [] from List.drop_of_length_le (by rw [List.length_take]; omega), show ((rdv [] : Nat) : Int) = 0 from rfl]
    exact V.wk
  · exact ⟨Nat.le_refl _, by omega⟩
  intro i hi
  (conv => whnf)
  refine V.st ?_
  refine Cnd.split (CondB.mk (fun hq => ?_) (fun hq => ?_))
  · rw [decide_eq_true_eq] at hq
    have hdi := hdig i (by omega)
    have hv := rdv_snoc ((s.take i).drop (e - 9)) (s.getD i 0)
    rw [← take_succ_drop hi.1 (by omega)] at hv
    have hb := hlt i 8 (by omega) (by omega)
    generalize hc : s.getD i 0 = c at *
    have hv2 : ((rdv ((s.take i).drop (e - 9)) : Nat) : Int) * 10 + ((c.toNat : Int) - 48) = ((rdv ((s.take (i + 1)).drop (e - 9)) : Nat) : Int) := by omega
    have hkc : ((i : Int) + 1) = ((i + 1 : Nat) : Int) := by omega
    (conv => whnf)
    (try simp only [Int.toNat_natCast, hc, hv2, hkc])
    repeat ((first | refine V.s1 ?_); (try simp only [Int.toNat_natCast, hc, hv2, hkc]))
    exact ⟨i + 1, by omega, by omega, V.wk⟩
  · rw [decide_eq_false_iff_not] at hq
    obtain rfl : i = e := by omega
    have hb := hlt i 9 h1 (by omega)
    have hsp := take_split (s := s) (a := i - 9) (e := i) (by omega) h1
    have hra := rdv_append (s.take (i - 9)) ((s.take i).drop (i - 9))
    rw [← hsp, List.length_drop, List.length_take, Nat.min_eq_left h1] at hra
    generalize hv : rdv ((s.take i).drop (i - 9)) = v at *
    have hl2 : (m ++ [(v : Int)]).length = m.length + 1 := by simp
    have hl3 : m.length + (List.take 1 (List.drop 0 [(v : Int)])).length = (m ++ [(v : Int)]).length := by simp
    have hdg : Dg 1000000000 (m ++ [(v : Int)]) := dg_append h3 (dg_one (by omega))
    have hvs := val_snoc 1000000000 m (v : Int)
    (conv => whnf)
    (try simp only [hl3])
    repeat ((first | refine V.s1 ?_); (try simp only [hl3]))
    try refine And.intro (fun _ => ⟨trivial, by omega⟩) ?_
    (conv => whnf)
    (try simp only [hl3])
    repeat ((first | refine V.s1 ?_); (try simp only [hl3]))
    refine Cnd.split (CondB.mk (fun hq2 => ?_) (fun hq2 => ?_))
    · rw [decide_eq_true_eq] at hq2
      have e0 : i - 9 = 0 := by omega
      rw [e0] at hra
      have hz : rdv (s.take i) = v := by rw [hra]; simp [rdv]
      have hval : val 1000000000 (m ++ [(v : Int)]) = (rdv s : Nat) := by rw [hvs, ← hz]; exact h4
      have hc := trim_c (m ++ [(v : Int)]) hdg (by omega)
      rw [hval, Int.toNat_natCast, ← List.take_length (l := m ++ [(v : Int)])] at hc
      (conv => whnf)
      refine V.st ?_
      repeat ((try ((with_reducible refine .ext ?_); (conv => whnf))); (with_reducible refine call_intro (r := ?_) ?_ ?_); rotate_left; (focus (first | exact (hc))); (conv => whnf); refine V.st ?_)
      exact Fin.of rfl
    · rw [decide_eq_false_iff_not] at hq2
      have h9 : 10 ≤ i := by omega
      have ek : ((i : Int) - 9) = ((i - 9 : Nat) : Int) := by omega
      (conv => whnf)
      (try simp only [ek])
      repeat ((first | refine V.s1 ?_); (try simp only [ek]))
      refine ⟨(i - 9, m ++ [(v : Int)]), ⟨by dsimp only; omega, by dsimp only; omega, hdg, ?_⟩, by dsimp only; omega, V.wk⟩
      dsimp only
      rw [hvs, hl2, Int.pow_succ, ← h4, hra, show i - (i - 9) = 9 by omega, Int.natCast_add, Int.natCast_mul]
      generalize ((1000000000 : Nat) : Int) ^ m.length = P
      generalize (rdv (s.take (i - 9)) : Nat) = w
      have e1 : ((10 ^ 9 : Nat) : Int) = 1000000000 := by decide
      rw [e1, Int.mul_add, Int.mul_assoc]
      rw [Int.mul_comm (w : Int)]
      generalize (1000000000 : Int) * (w : Int) = Q
      omega
theorem wgather_c (s : List UInt8) (hd : ∀ c ∈ s, isDig c = true) (hl : s.length ≤ 100000000) : Called Tryz.prog 164 [.str s] (.ints .u32 (mg 1000000000 (rdv s))) := by
  refine called_of_run tbOk 6 ⟨Tryz.func164, rfl, rfl, Nat.le_of_ble_eq_true rfl⟩ ?_
  (conv => whnf)
  refine V.st ?_
  refine Lp.ghostSlot 32 3 .u32 (by decide) ?_
  (conv => whnf)
  refine lp_any ((s.length, []) : Nat × List Int) (fun t => t.1 ≤ s.length ∧ t.2.length * 9 + t.1 = s.length ∧ Dg 1000000000 t.2 ∧ val 1000000000 t.2 + ((1000000000 : Nat) : Int) ^ t.2.length * (rdv (s.take t.1) : Nat) = (rdv s : Nat)) (fun t => t.1)
    (fun t => [(4, .int .i64 t.1), (3, .osl 32 0 t.2.length)]) (fun t => [(32, .arr .u32 t.2)]) ?_ ?_ ?_
  · exact V.wk
  · exact ⟨Nat.le_refl _, by simp, fun x hx => by simp at hx, by simp [val]⟩
  rintro ⟨e, m⟩ ⟨h1, h2, h3, h4⟩
  dsimp only at h1 h2 h3 h4 ⊢
  have hmax : max ((e : Int) - 9) 0 = ((e - 9 : Nat) : Int) := by omega
  (conv => whnf)
  (try simp only [hmax])
  repeat ((first | refine V.s1 ?_); (try simp only [hmax]))
  have hdig : ∀ i, i < s.length → 48 ≤ (s.getD i 0).toNat ∧ (s.getD i 0).toNat ≤ 57 := fun i hi => by
    have := hd (s.getD i 0) (by rw [List.getD_eq_getElem?_getD, List.getElem?_eq_getElem hi]; exact List.getElem_mem _)
    simpa [isDig] using this
  have hsub : ∀ i, ∀ c ∈ (s.take i).drop (e - 9), isDig c = true := fun i c hc => hd c (List.mem_of_mem_take (List.mem_of_mem_drop hc))
  have hlt : ∀ i k, i ≤ s.length → i - (e - 9) ≤ k → rdv ((s.take i).drop (e - 9)) < 10 ^ k := fun i k hi hk => by
    have h5 := rdv_lt (hsub i)
    rw [List.length_drop, List.length_take, Nat.min_eq_left hi] at h5
    exact Nat.lt_of_lt_of_le h5 (Nat.pow_le_pow_right (by omega) hk)
  refine lp_any (e - 9 : Nat) (fun i => e - 9 ≤ i ∧ i ≤ e) (fun i => e - i) (fun i => [(7, .int .i64 i), (6, .int .u32 (rdv ((s.take i).drop (e - 9)) : Nat))]) (fun _ => []) ?_ ?_ ?_
  · rw [show (s.take (e - 9)).drop (e - 9) = [] from List.drop_of_length_le (by rw [List.length_take]; omega), show ((rdv [] : Nat) : Int) = 0 from rfl]
    exact V.wk
  · exact ⟨Nat.le_refl _, by omega⟩
  intro i hi
  (conv => whnf)
  refine V.st ?_
  refine Cnd.split (CondB.mk (fun hq => ?_) (fun hq => ?_))
  · rw [decide_eq_true_eq] at hq
    have hdi := hdig i (by omega)
    have hv := rdv_snoc ((s.take i).drop (e - 9)) (s.getD i 0)
    rw [← take_succ_drop hi.1 (by omega)] at hv
    have hb := hlt i 8 (by omega) (by omega)
    generalize hc : s.getD i 0 = c at *
    have hv2 : ((rdv ((s.take i).drop (e - 9)) : Nat) : Int) * 10 + ((c.toNat : Int) - 48) = ((rdv ((s.take (i + 1)).drop (e - 9)) : Nat) : Int) := by omega
    have hkc : ((i : Int) + 1) = ((i + 1 : Nat) : Int) := by omega
    (conv => whnf)
    (try simp only [Int.toNat_natCast, hc, hv2, hkc])
    repeat ((first | refine V.s1 ?_); (try simp only [Int.toNat_natCast, hc, hv2, hkc]))
    exact ⟨i + 1, by omega, by omega, V.wk⟩
  · rw [decide_eq_false_iff_not] at hq
    obtain rfl : i = e := by omega
    have hb := hlt i 9 h1 (by omega)
    have hsp := take_split (s := s) (a := i - 9) (e := i) (by omega) h1
    have hra := rdv_append (s.take (i - 9)) ((s.take i).drop (i - 9))
    rw [← hsp, List.length_drop, List.length_take, Nat.min_eq_left h1] at hra
    generalize hv : rdv ((s.take i).drop (i - 9)) = v at *
    have hl2 : (m ++ [(v : Int)]).length = m.length + 1 := by simp
    have hl3 : m.length + (List.take 1 (List.drop 0 [(v : Int)])).length = (m ++ [(v : Int)]).length := by simp
    have hdg : Dg 1000000000 (m ++ [(v : Int)]) := dg_append h3 (dg_one (by omega))
    have hvs := val_snoc 1000000000 m (v : Int)
    (conv => whnf)
    (try simp only [hl3])
    repeat ((first | refine V.s1 ?_); (try simp only [hl3]))
    try refine And.intro (fun _ => ⟨trivial, by omega⟩) ?_
    (conv => whnf)
    (try simp only [hl3])
    repeat ((first | refine V.s1 ?_); (try simp only [hl3]))
    refine Cnd.split (CondB.mk (fun hq2 => ?_) (fun hq2 => ?_))
    · rw [decide_eq_true_eq] at hq2
      have e0 : i - 9 = 0 := by omega
      rw [e0] at hra
      have hz : rdv (s.take i) = v := by rw [hra]; simp [rdv]
      have hval : val 1000000000 (m ++ [(v : Int)]) = (rdv s : Nat) := by rw [hvs, ← hz]; exact h4
      have hc := wtrim_c (m ++ [(v : Int)]) hdg (by omega)
      rw [hval, Int.toNat_natCast, ← List.take_length (l := m ++ [(v : Int)])] at hc
      (conv => whnf)
      refine V.st ?_
      repeat ((try ((with_reducible refine .ext ?_); (conv => whnf))); (with_reducible refine call_intro (r := ?_) ?_ ?_); rotate_left; (focus (first | exact (hc))); (conv => whnf); refine V.st ?_)
      exact Fin.of rfl
    · rw [decide_eq_false_iff_not] at hq2
      have h9 : 10 ≤ i := by omega
      have ek : ((i : Int) - 9) = ((i - 9 : Nat) : Int) := by omega
      (conv => whnf)
      (try simp only [ek])
      repeat ((first | refine V.s1 ?_); (try simp only [ek]))
      refine ⟨(i - 9, m ++ [(v : Int)]), ⟨by dsimp only; omega, by dsimp only; omega, hdg, ?_⟩, by dsimp only; omega, V.wk⟩
      dsimp only
      rw [hvs, hl2, Int.pow_succ, ← h4, hra, show i - (i - 9) = 9 by omega, Int.natCast_add, Int.natCast_mul]
      generalize ((1000000000 : Nat) : Int) ^ m.length = P
      generalize (rdv (s.take (i - 9)) : Nat) = w
      have e1 : ((10 ^ 9 : Nat) : Int) = 1000000000 := by decide
      rw [e1, Int.mul_add, Int.mul_assoc]
      rw [Int.mul_comm (w : Int)]
      generalize (1000000000 : Int) * (w : Int) = Q
      omega
end Go.Proofs.YtpcpgjcdkgcbpaaGreatDoor
end
section
namespace Go.Proofs.YtpcpgjcdkgcbpaaGreatDoor
open Go Go.V Go.Nb
theorem cut_mg (n : Nat) (h : (mg 10000 n).length ≤ 281474976710656) : Called Tryz.prog 171 [.ints .i64 (mg 10000 n)] (.ints .i64 (mg 10000 n)) := by
  have := cut_c _ (mg_dg (B := 10000) (by omega) n) h
  rw [mg_val (by omega), Int.toNat_natCast] at this
  exact this
theorem parts_one (a b : Nat) (ha : (mg 10000 a).length ≤ 100000000) (hb : 0 < b) (hb1 : b < 10000) : Called Tryz.prog 157 [.ints .i64 (mg 10000 a), .ints .i64 (mg 10000 b)] (.tup [.ints .i64 (mg 10000 (a / b)), .ints .i64 (mg 10000 (a % b))]) := by
  have hmb : mg 10000 b = [(b : Int)] := by
    rw [mg_pos (by omega) hb, Nat.mod_eq_of_lt hb1, Nat.div_eq_of_lt hb1]; rfl
  have ho := once_g (mg 10000 a) (b : Int) ha (mg_dg (by omega) a) (by omega) (by omega)
  rw [mg_val (by omega)] at ho
  have e1 : ((a : Int) / (b : Int)).toNat = a / b := by rw [← Int.natCast_ediv, Int.toNat_natCast]
  have e2 : ((a : Int) % (b : Int)) = ((a % b : Nat) : Int) := by rw [Int.natCast_emod]
  rw [e1, e2] at ho
  have hlt : a % b < b := Nat.mod_lt _ hb
  have hc := cut_c [((a % b : Nat) : Int)] (dg_one ⟨by omega, by omega⟩) (by simp)
  have e3 : (val 10000 [((a % b : Nat) : Int)]).toNat = a % b := by rw [val, val, Int.mul_zero, Int.add_zero, Int.toNat_natCast]
  rw [e3] at hc
  rw [hmb]
  refine called_of_run tbOk 6 ⟨Tryz.func157, rfl, rfl, Nat.le_of_ble_eq_true rfl⟩ ?_
  (conv => whnf)
  refine V.st ?_
  refine Cnd.yes (by simp) ?_
  (conv => whnf)
  refine V.st ?_
  repeat ((try ((with_reducible refine .ext ?_); (conv => whnf))); (with_reducible refine call_intro (r := ?_) ?_ ?_); rotate_left; (focus (first | exact (ho) | exact (hc))); (conv => whnf); refine V.st ?_)
  exact Fin.of rfl
theorem parts_short (a b : Nat) (ha : (mg 10000 a).length < (mg 10000 b).length) (hb : (mg 10000 b).length ≤ 100000000) (hb1 : 10000 ≤ b) : Called Tryz.prog 157 [.ints .i64 (mg 10000 a), .ints .i64 (mg 10000 b)] (.tup [.ints .i64 (mg 10000 (a / b)), .ints .i64 (mg 10000 (a % b))]) := by
  have hlt : a < b := Nat.lt_of_not_le fun h => by have := mg_len_mono (B := 10000) (by omega) h; omega
  have hl2 : 2 ≤ (mg 10000 b).length := by
    have := mg_len_mono (B := 10000) (by omega) hb1
    have e : mg 10000 10000 = [0, 1] := by rfl
    rw [e] at this; exact this
  rw [Nat.div_eq_of_lt hlt, Nat.mod_eq_of_lt hlt, mg_zero]
  generalize mg 10000 a = xs at *
  generalize mg 10000 b = ys at *
  refine called_of_run tbOk 6 ⟨Tryz.func157, rfl, rfl, Nat.le_of_ble_eq_true rfl⟩ ?_
  (conv => whnf)
  refine V.st ?_
  refine Cnd.no (by simp; omega) ?_
  (conv => whnf)
  refine V.st ?_
  refine Cnd.yes (by simp; omega) ?_
  (conv => whnf)
  refine V.st ?_
  exact Fin.tup ⟨Fin.nil _, Fin.of (by rw [List.nil_append, Nat.zero_add, List.take_length]), trivial⟩
theorem zJ10_0 : type_of% @Int.toNat_natCast ∧ type_of% @Nat.zero_add := ⟨@Int.toNat_natCast, @Nat.zero_add⟩
theorem parts_long (a b : Nat) (ha : (mg 10000 b).length ≤ (mg 10000 a).length) (hb : (mg 10000 a).length ≤ 90000000) (hb1 : 10000 ≤ b) : Called Tryz.prog 157 [.ints .i64 (mg 10000 a), .ints .i64 (mg 10000 b)] (.tup [.ints .i64 (mg 10000 (a / b)), .ints .i64 (mg 10000 (a % b))]) := by
  obtain ⟨n, hn⟩ : ∃ n, (mg 10000 b).length = n + 2 := by
    have := mg_len_mono (B := 10000) (by omega) hb1
    have e : mg 10000 10000 = [0, 1] := by rfl
    rw [e] at this
    exact ⟨(mg 10000 b).length - 2, by simp at this; omega⟩
  have hdx := mg_dg (B := 10000) (by omega) a
  have hdy := mg_dg (B := 10000) (by omega) b
  have hvx := mg_val (B := 10000) (by omega) a
  have hvy := mg_val (B := 10000) (by omega) b
  have hlx := mg_last (B := 10000) (n := a) (by omega)
  have hly := mg_last (B := 10000) (n := b) (by omega)
  generalize hxs : mg 10000 a = xs at *
  generalize hys : mg 10000 b = ys at *
  have e1 : ((ys.length : Int) - 1) = ((n + 1 : Nat) : Int) := by omega
  have e2 : (((n + 1 : Nat) : Int) - 1) = (n : Int) := by omega
  have e3 : ((xs.length : Int) - ((n + 1 : Nat) : Int)) = ((xs.length - (n + 1) : Nat) : Int) := by omega
  refine called_of_run tbOk 6 ⟨Tryz.func157, rfl, rfl, Nat.le_of_ble_eq_true rfl⟩ ?_
  (conv => whnf)
  refine V.st ?_
  refine Cnd.no (by simp; omega) ?_
  (conv => whnf)
  (try simp only [e1, e2, e3, Int.toNat_natCast])
  repeat ((first | refine V.s1 ?_); (try simp only [e1, e2, e3, Int.toNat_natCast]))
  refine Cnd.no (by simp; omega) ?_
  (conv => whnf)
  (try simp only [e1, e2, e3, Int.toNat_natCast])
  repeat ((first | refine V.s1 ?_); (try simp only [e1, e2, e3, Int.toNat_natCast]))
  refine ⟨(.take 0 (.take 1 (.take 2 (.take 3 (.take 4 (.take 5 (.take 6 (.take 7 (.take 8 (.take 9 (.take 10 (.take 11 (.done))))))))))))), [], ⟨by kernel_rfl, by kernel_rfl, by kernel_rfl, by kernel_rfl⟩, .go (drawD_one ?_)⟩
  have b1 := dg_getD (by omega) hdy (n + 1)
  have b0 := dg_getD (by omega) hdy n
  have htop : val 10000 (ys.drop n) = ys.getD (n + 1) 0 * 10000 + ys.getD n 0 := by
    rw [val_drop', val_drop', List.drop_eq_nil_of_le (by omega)]; simp [val]; omega
  have hy1 : ys.getD (n + 1) 0 ≠ 0 := by
    refine hly _ ?_
    rw [List.getLast?_eq_getElem?, hn, List.getD_eq_getElem?_getD]
    rw [show n + 2 - 1 = n + 1 by omega, List.getElem?_eq_getElem (by omega)]; rfl
  have hvye := val_ends (B := 10000) (by omega) hdy n
  rw [htop, hvy] at hvye
  have htop1 : 10000 ≤ ys.getD (n + 1) 0 * 10000 + ys.getD n 0 := by omega
  have hbpos : 0 < b := by omega
  have hPpos : (0 : Int) < ((10000 : Nat) : Int) ^ n := pow_pos' (by omega) n
  have hbB : b < 10000 ^ (n + 2) := by rw [← hn, ← hys]; exact mg_lt_pow (by omega)
  generalize hy1' : ys.getD (n + 1) 0 = y1 at *
  generalize hy0' : ys.getD n 0 = y0 at *
  obtain ⟨R0, hR0⟩ : ∃ R0 : Nat, xs.drop (xs.length - (n + 1)) = mg 10000 R0 := ⟨_, mg_of (by omega) (dg_drop hdx _) fun x hx => hlx x (by
    rw [List.getLast?_drop] at hx
    split at hx
    · cases hx
    · exact hx)⟩
  have hR0v := congrArg (val 10000) hR0
  rw [mg_val (by omega)] at hR0v
  have hR0b : R0 < b := by
    have h1 : R0 < 10000 ^ (n + 1) := by
      have := mg_lt_pow (B := 10000) (n := R0) (by omega)
      rw [← hR0, List.length_drop] at this
      exact Nat.lt_of_lt_of_le this (Nat.pow_le_pow_right (by omega) (by omega))
    have h2 := pow_le_mg (B := 10000) (n := b) (by omega) hbpos
    rw [hys, hn] at h2
    exact Nat.lt_of_lt_of_le h1 h2
  have hR0l : (mg 10000 R0).length = n + 1 := by rw [← hR0, List.length_drop]; omega
  generalize hL : xs.length - (n + 1) = L at *
  (conv => whnf)
  (try simp only [e1, e2, e3, Int.toNat_natCast, hy1', hy0', hR0, hR0l, Nat.zero_add, List.nil_append])
  repeat ((first | refine V.s1 ?_); (try simp only [e1, e2, e3, Int.toNat_natCast, hy1', hy0', hR0, hR0l, Nat.zero_add, List.nil_append]))
  refine Lp.pub 66 ?_
  (conv => whnf)
  have hR0t : List.take (n + 1) (mg 10000 R0) = mg 10000 R0 := by rw [← hR0l, List.take_length]
  try simp only [hR0t, List.take_length]
  refine lp_any ((L, List.replicate L 0, R0) : Nat × List Int × Nat) (fun s => s.1 ≤ L ∧ s.2.1.length = L ∧ Dg 10000 s.2.1 ∧ s.2.2 < b ∧ val 10000 (xs.drop s.1) = val 10000 (s.2.1.drop s.1) * b + s.2.2) (fun s => s.1)
    (fun s => [(12, .int .i64 ((s.1 : Int) - 1)), (11, .ints .i64 (mg 10000 s.2.2)), (10, .osl 58 0 L)]) (fun s => [(58, .arr .i64 s.2.1)]) ?_ ?_ ?_
  · exact V.wk
  · exact ⟨Nat.le_refl _, by simp, dg_zeros (by omega) _, hR0b, by rw [hR0v]; simp [val]⟩
  rintro ⟨k, q, R⟩ ⟨h1, h2, h3, h4, h5⟩
  dsimp only at h1 h2 h3 h4 h5 ⊢
  (conv => whnf)
  refine V.st ?_
  refine Cnd.split (CondB.mk (fun hq => ?_) (fun hq => ?_))
  · rw [decide_eq_true_eq] at hq
    obtain ⟨j, rfl⟩ : ∃ j, k = j + 1 := ⟨k - 1, by omega⟩
    have hj : j < xs.length := by omega
    have bx := dg_getD (by omega) hdx j
    generalize hx0 : xs.getD j 0 = x at *
    have f1 : (((j + 1 : Nat) : Int) - 1) = (j : Int) := by omega
    have hRl := mg_len_le (B := 10000) (n := R) (k := n + 2) (by omega) (by omega)
    obtain ⟨t, ht⟩ : ∃ t : Nat, x + 10000 * (R : Int) = t := ⟨(x + 10000 * (R : Int)).toNat, by omega⟩
    have hc1 := cut_c ([x] ++ mg 10000 R) (dg_append (dg_one bx) (mg_dg (by omega) R)) (by simp; omega)
    have hv1 : val 10000 ([x] ++ mg 10000 R) = t := by rw [List.singleton_append, val, mg_val (by omega)]; exact ht
    rw [hv1, Int.toNat_natCast] at hc1
    have hl1 : ([x] ++ mg 10000 R).length = 1 + (mg 10000 R).length := by simp; omega
    rw [← List.take_length (l := [x] ++ mg 10000 R), hl1] at hc1
    have htB : t < 10000 * b := by omega
    have htl := mg_len_le (B := 10000) (n := t) (k := n + 3) (by omega) (by rw [Nat.pow_succ]; omega)
    have hdt := mg_dg (B := 10000) (by omega) t
    have hvt := mg_val (B := 10000) (by omega) t
    have hst := once_step (B := 10000) (d := (b : Int)) hj (by omega) hx0 h5 (t := (t : Int)) (by omega)
    generalize hts : mg 10000 t = ts at *
    (conv => whnf)
    (try simp only [zJ10_0, f1, hx0])
    repeat ((first | refine V.s1 ?_ | ((try ((with_reducible refine .ext ?_); (conv => whnf); (try simp only [zJ10_0, f1, hx0]))); (with_reducible refine call_intro (r := ?_) ?_ ?_); rotate_left; (focus (first | exact (hc1))); (conv => whnf))); (try simp only [zJ10_0, f1, hx0]))
    have g1 : ((n + 1 : Nat) : Int) + 1 = (n : Int) + ((3 : Nat) : Int) - 1 := by omega
    try simp only [g1]
    refine lp_any (3 : Nat) (fun m => m ≤ 3) (fun m => m) (fun m => [(14, .int .i64 ((n : Int) + (m : Int) - 1)), (13, .int .i64 (val 10000 (ts.drop (n + m))))]) (fun _ => []) ?_ ?_ ?_
    · rw [show val 10000 (ts.drop (n + 3)) = 0 by rw [List.drop_eq_nil_of_le htl]; rfl]
      exact V.wk
    · exact Nat.le_refl _
    intro m hm
    have hF : ∀ k, n ≤ k → 0 ≤ val 10000 (ts.drop k) ∧ val 10000 (ts.drop k) < 1000000000000 := fun k hk => ⟨val_nonneg (dg_drop hdt k), by
      have h8 := val_lt (dg_drop hdt k)
      have h9 : (10000 : Nat) ^ (ts.drop k).length ≤ 10000 ^ 3 := Nat.pow_le_pow_right (by omega) (by rw [List.length_drop]; omega)
      have h7 : ((10000 ^ (ts.drop k).length : Nat) : Int) ≤ ((10000 ^ 3 : Nat) : Int) := by exact_mod_cast h9
      rw [Int.natCast_pow] at h7
      omega⟩
    (conv => whnf)
    refine V.st ?_
    refine Cnd.split (CondB.mk (fun hq1 => ?_) (fun hq1 => ?_))
    · rw [decide_eq_true_eq] at hq1
      obtain ⟨m, rfl⟩ : ∃ m', m = m' + 1 := ⟨m - 1, by omega⟩
      have g2 : (n : Int) + ((m + 1 : Nat) : Int) - 1 = ((n + m : Nat) : Int) := by omega
      have g3 : ((n + m : Nat) : Int) - 1 = (n : Int) + (m : Int) - 1 := by omega
      have hF1 := hF (n + (m + 1)) (by omega)
      have hF0 := hF (n + m) (by omega)
      have hd1 : val 10000 (ts.drop (n + (m + 1))) * 10000 + ts.getD (n + m) 0 = val 10000 (ts.drop (n + m)) := by
        rw [val_drop' 10000 ts (n + m), Int.mul_comm, Int.add_comm]; rfl
      (conv => whnf)
      (try simp only [g2])
      repeat ((first | refine V.s1 ?_); (try simp only [g2]))
      refine Cnd.split (CondB.mk (fun hq2 => ?_) (fun hq2 => ?_))
      · rw [decide_eq_true_eq] at hq2
        have bt := dg_getD (by omega) hdt (n + m)
        (conv => whnf)
        (try simp only [g2, g3, Int.toNat_natCast, hd1])
        repeat ((first | refine V.s1 ?_); (try simp only [g2, g3, Int.toNat_natCast, hd1]))
        exact ⟨m, by omega, by omega, V.wk⟩
      · rw [decide_eq_false_iff_not] at hq2
        rw [getD_ge (by omega), Int.add_zero] at hd1
        (conv => whnf)
        (try simp only [g2, g3, Int.toNat_natCast, hd1])
        repeat ((first | refine V.s1 ?_); (try simp only [g2, g3, Int.toNat_natCast, hd1]))
        exact ⟨m, by omega, by omega, V.wk⟩
    · rw [decide_eq_false_iff_not] at hq1
      obtain rfl : m = 0 := by omega
      have hte := val_ends (B := 10000) (by omega) hdt n
      rw [hvt] at hte
      have hFn := hF n (by omega)
      (conv => whnf)
      (try simp only [Nat.add_zero])
      repeat ((first | refine V.s1 ?_); (try simp only [Nat.add_zero]))
      refine ⟨(.take 0 (.take 1 (.take 2 (.take 3 (.take 4 (.take 5 (.take 6 (.take 7 (.take 8 (.take 9 (.done))))))))))), [], ⟨by kernel_rfl, by kernel_rfl, by kernel_rfl, by kernel_rfl⟩, .go (drawD_one ?_)⟩
      have hends := trial_ends (B := 10000) (F := val 10000 (ts.drop n)) (top := y1 * 10000 + y0) (P := ((10000 : Nat) : Int) ^ n) (R := (t : Int)) (b := (b : Int)) (by omega) hPpos htop1 hFn.1 hvye.1 hvye.2 hte.1 hte.2 (by omega)
      generalize hFv : val 10000 (ts.drop n) = F at *
      (conv => whnf)
      (try simp only [Nat.add_zero, hFv])
      repeat ((first | refine V.s1 ?_); (try simp only [Nat.add_zero, hFv]))
      have hFlo : 0 ≤ F / (y1 * 10000 + y0) := Int.ediv_nonneg (by omega) (by omega)
      refine lp_any ((F / (y1 * 10000 + y0 + 1), F / (y1 * 10000 + y0) + 1) : Int × Int) (fun s => 0 ≤ s.1 ∧ s.1 * b ≤ t ∧ t < s.2 * b ∧ s.2 ≤ 10001) (fun s => (s.2 - s.1).toNat) (fun s => [(16, .int .i64 s.2), (15, .int .i64 s.1)]) (fun _ => []) ?_ ?_ ?_
      · exact V.wk
      · exact ⟨hends.1, hends.2.1, hends.2.2.1, by dsimp only; omega⟩
      rintro ⟨low, high⟩ ⟨i1, i2, i3, i4⟩
      dsimp only at i1 i2 i3 i4 ⊢
      have hlh : low < high := Int.lt_of_mul_lt_mul_right (Int.lt_of_le_of_lt i2 i3) (by omega)
      (conv => whnf)
      refine V.st ?_
      refine Cnd.split (CondB.mk (fun hq3 => ?_) (fun hq3 => ?_))
      · rw [decide_eq_true_eq] at hq3
        obtain ⟨m, hm2⟩ : ∃ m : Nat, (low + high) / 2 = m := ⟨((low + high) / 2).toNat, by omega⟩
        have hp := product_g ys [(m : Int)] (by omega) (by simp) hdy (fun j => by
          cases j with
          | zero => simp; omega
          | succ j => simp)
        have hpv : (val 10000 ys * val 10000 [(m : Int)]).toNat = b * m := by
          rw [hvy, val, val, Int.mul_zero, Int.add_zero, ← Int.natCast_mul, Int.toNat_natCast]
        rw [hpv] at hp
        have hpl := mg_len_le (B := 10000) (n := b * m) (k := n + 4) (by omega) (by
          have h8 : b * m ≤ b * 10000 := Nat.mul_le_mul_left _ (by omega)
          rw [Nat.pow_succ, Nat.pow_succ]; omega)
        have hcm := cut_mg (b * m) (by omega)
        have ho := order_c (mg 10000 (b * m)) ts (by omega) (by omega) (mg_dg (by omega) _) hdt
        have hsg := ordV_sign (b * m) t
        rw [hts] at hsg
        generalize ordV (mg 10000 (b * m)) ts = od at *
        have hbm : (m : Int) * (b : Int) = ((b * m : Nat) : Int) := by rw [Nat.mul_comm, Int.natCast_mul]
        (conv => whnf)
        (try simp only [hm2])
        repeat ((first | refine V.s1 ?_ | ((try ((with_reducible refine .ext ?_); (conv => whnf); (try simp only [hm2]))); (with_reducible refine call_intro (r := ?_) ?_ ?_); rotate_left; (focus (first | exact (hp) | exact (hcm) | exact (ho))); (conv => whnf))); (try simp only [hm2]))
        refine Cnd.split (CondB.mk (fun hq4 => ?_) (fun hq4 => ?_))
        · rw [decide_eq_true_eq] at hq4
          (conv => whnf)
          refine V.st ?_
          exact ⟨((m : Int), high), ⟨by dsimp only; omega, by dsimp only; omega, i3, i4⟩, by dsimp only; omega, V.wk⟩
        · rw [decide_eq_false_iff_not] at hq4
          (conv => whnf)
          refine V.st ?_
          exact ⟨(low, (m : Int)), ⟨i1, i2, by dsimp only; omega, by dsimp only; omega⟩, by dsimp only; omega, V.wk⟩
      · rw [decide_eq_false_iff_not] at hq3
        have hout := trial_out (R := (t : Int)) (b := (b : Int)) (by omega) i2 i3 (by omega)
        obtain ⟨lw, rfl⟩ : ∃ lw : Nat, low = lw := ⟨low.toNat, by omega⟩
        have hlwB : lw < 10000 := by
          have h8 : (lw : Int) * b < 10000 * b := by omega
          have := Int.lt_of_mul_lt_mul_right h8 (by omega)
          omega
        have hp := product_g ys [(lw : Int)] (by omega) (by simp) hdy (fun j => by
          cases j with
          | zero => simp; omega
          | succ j => simp)
        have hpv : (val 10000 ys * val 10000 [(lw : Int)]).toNat = b * lw := by
          rw [hvy, val, val, Int.mul_zero, Int.add_zero, ← Int.natCast_mul, Int.toNat_natCast]
        rw [hpv] at hp
        have hble : b * lw ≤ t := by
          rw [← Int.natCast_mul] at i2
          have := Int.ofNat_le.1 i2
          rw [Nat.mul_comm]; exact this
        have hdf := difference_c t (b * lw) hble (by rw [hts]; omega)
        rw [hts] at hdf
        have hmod : ((t % b : Nat) : Int) = (t : Int) % (b : Int) := Int.natCast_emod _ _
        have hmod2 : t - b * lw = t % b := by
          have h8 := hout.2
          rw [← Int.natCast_mul] at h8
          omega
        rw [hmod2] at hdf
        (conv => whnf)
        (try simp only [zJ10_0, f1])
        repeat ((first | refine V.s1 ?_ | ((try ((with_reducible refine .ext ?_); (conv => whnf); (try simp only [zJ10_0, f1]))); (with_reducible refine call_intro (r := ?_) ?_ ?_); rotate_left; (focus (first | exact (hp) | exact (hdf))); (conv => whnf))); (try simp only [zJ10_0, f1]))
        rw [← hout.1, ← hmod] at hst
        exact ⟨(j, q.set j (lw : Int), t % b), ⟨by dsimp only; omega, by dsimp only; rw [List.length_set]; exact h2, dg_set h3 (by omega), Nat.mod_lt _ hbpos, hst⟩, by dsimp only; omega, V.wk⟩
  · rw [decide_eq_false_iff_not] at hq
    obtain rfl : k = 0 := by omega
    rw [List.drop_zero, List.drop_zero, hvx] at h5
    have hvq := val_nonneg h3
    obtain ⟨w, hw⟩ : ∃ w : Nat, val 10000 q = w := ⟨(val 10000 q).toNat, by omega⟩
    rw [hw, ← Int.natCast_mul] at h5
    have h6 : a = w * b + R := by omega
    have e8 : a / b = w := by rw [h6, Nat.add_comm, Nat.add_mul_div_right _ _ hbpos, Nat.div_eq_of_lt h4, Nat.zero_add]
    have e9 : a % b = R := by rw [h6, Nat.add_comm, Nat.add_mul_mod_self_right, Nat.mod_eq_of_lt h4]
    have hc := cut_c q h3 (by omega)
    rw [hw, Int.toNat_natCast, ← List.take_length (l := q), h2] at hc
    (conv => whnf)
    refine V.st ?_
    repeat ((try ((with_reducible refine .ext ?_); (conv => whnf))); (with_reducible refine call_intro (r := ?_) ?_ ?_); rotate_left; (focus (first | exact (hc))); (conv => whnf); refine V.st ?_)
    exact Fin.of (by rw [e8, e9])
theorem parts_c (a b : Nat) (ha : (mg 10000 a).length ≤ 90000000) (hb : (mg 10000 b).length ≤ 90000000) (hb0 : 0 < b) : Called Tryz.prog 157 [.ints .i64 (mg 10000 a), .ints .i64 (mg 10000 b)] (.tup [.ints .i64 (mg 10000 (a / b)), .ints .i64 (mg 10000 (a % b))]) := by
  rcases Nat.lt_or_ge b 10000 with h | h
  · exact parts_one a b (by omega) hb0 h
  · rcases Nat.lt_or_ge (mg 10000 a).length (mg 10000 b).length with h2 | h2
    · exact parts_short a b h2 (by omega) h
    · exact parts_long a b h2 ha h
end Go.Proofs.YtpcpgjcdkgcbpaaGreatDoor
end
section
namespace Go.Proofs.YtpcpgjcdkgcbpaaGreatDoor
open Go Go.V Go.Nb
def Sm (k : Nat) (z : Int) : Prop := (mg 10000 z.natAbs).length ≤ k
theorem mg_len_add {B : Nat} (hB : 2 ≤ B) (a b : Nat) : (mg B (a + b)).length ≤ max (mg B a).length (mg B b).length + 1 := by
  have h1 := mg_lt_pow (B := B) (n := a) hB
  have h2 := mg_lt_pow (B := B) (n := b) hB
  have h3 : B ^ (mg B a).length ≤ B ^ max (mg B a).length (mg B b).length := Nat.pow_le_pow_right (by omega) (by omega)
  have h4 : B ^ (mg B b).length ≤ B ^ max (mg B a).length (mg B b).length := Nat.pow_le_pow_right (by omega) (by omega)
  refine mg_len_le hB ?_
  rw [Nat.pow_succ]
  have h5 := Nat.mul_le_mul_left (B ^ max (mg B a).length (mg B b).length) hB
  omega
theorem mg_len_mul {B : Nat} (hB : 2 ≤ B) (a b : Nat) : (mg B (a * b)).length ≤ (mg B a).length + (mg B b).length := by
  have h1 := mg_lt_pow (B := B) (n := a) hB
  have h2 := mg_lt_pow (B := B) (n := b) hB
  refine mg_len_le hB ?_
  rw [Nat.pow_add]
  exact Nat.mul_lt_mul'' h1 h2
theorem Sm.mono {k l : Nat} {z : Int} (h : Sm k z) (hl : k ≤ l) : Sm l z := Nat.le_trans h hl
theorem Sm.neg {k : Nat} {z : Int} (h : Sm k z) : Sm k (-z) := by unfold Sm at *; rw [Int.natAbs_neg]; exact h
theorem Sm.le {k : Nat} {y z : Int} (h : Sm k z) (hy : y.natAbs ≤ z.natAbs) : Sm k y := Nat.le_trans (mg_len_mono (by omega) hy) h
theorem Sm.mul {k l : Nat} {y z : Int} (h : Sm k y) (h2 : Sm l z) : Sm (k + l) (y * z) := by
  unfold Sm at *
  rw [Int.natAbs_mul]
  have := mg_len_mul (B := 10000) (by omega) y.natAbs z.natAbs
  omega
theorem Sm.add {k : Nat} {y z : Int} (h : Sm k y) (h2 : Sm k z) : Sm (k + 1) (y + z) := by
  unfold Sm at *
  have h3 := mg_len_add (B := 10000) (by omega) y.natAbs z.natAbs
  have h4 := mg_len_mono (B := 10000) (by omega) (Int.natAbs_add_le y z)
  omega
theorem Sm.lit {k : Nat} {z : Int} (h : z.natAbs < 10000 ^ k) : Sm k z := mg_len_le (by omega) h
theorem made_mg (b : Bool) (n : Nat) (h : (mg 10000 n).length ≤ 200000000) : Called Tryz.prog 155 [.bool b, .ints .i64 (mg 10000 n)] (plD (if b then -(n : Int) else n)) := by
  have := madeP_c b (mg 10000 n) (mg_dg (by omega) n) (by omega)
  rw [mg_val (by omega)] at this
  exact this
theorem plus_c (x y : Int) (hx : Sm 90000000 x) (hy : Sm 90000000 y) : Called Tryz.prog 178 [plD x, plD y] (plD (x + y)) := by
  unfold Sm at hx hy
  have hl := mg_len_add (B := 10000) (by omega) x.natAbs y.natAbs
  have hs := sum_c x.natAbs y.natAbs (by omega) (by omega)
  have ho := order_c (mg 10000 x.natAbs) (mg 10000 y.natAbs) (by omega) (by omega) (mg_dg (by omega) _) (mg_dg (by omega) _)
  have hsg := ordV_sign x.natAbs y.natAbs
  generalize ordV (mg 10000 x.natAbs) (mg 10000 y.natAbs) = od at *
  rw [show plD x = .agg [.bool (decide (x < 0)), .ints .i64 (mg 10000 x.natAbs)] from rfl, show plD y = .agg [.bool (decide (y < 0)), .ints .i64 (mg 10000 y.natAbs)] from rfl]
  refine called_of_run tbOk 6 ⟨Tryz.func178, rfl, rfl, Nat.le_of_ble_eq_true rfl⟩ ?_
  (conv => whnf)
  refine V.st ?_
  refine Cnd.split (CondB.mk (fun hq => ?_) (fun hq => ?_))
  · rw [beq_iff_eq, decide_eq_decide] at hq
    have hm := made_mg (decide (x < 0)) (x.natAbs + y.natAbs) (by omega)
    have e : (if decide (x < 0) = true then -((x.natAbs + y.natAbs : Nat) : Int) else ((x.natAbs + y.natAbs : Nat) : Int)) = x + y := by
      by_cases h : x < 0
      · simp [h]; omega
      · simp [h]; omega
    rw [e] at hm
    (conv => whnf)
    refine V.st ?_
    refine ⟨(.take 0 (.take 1 (.take 2 (.take 3 (.take 4 (.take 5 (.ev (.cons 6 [1, 0] (.ev (.cons 7 [] (.ev (.cons 8 [] (.done) (.nil))) (.nil))) (.nil))))))))), [], ⟨by kernel_rfl, by kernel_rfl, by kernel_rfl, by kernel_rfl⟩, .go (drawD_one ?_)⟩
    (conv => whnf)
    refine V.st ?_
    repeat ((try ((with_reducible refine .ext ?_); (conv => whnf))); (with_reducible refine call_intro (r := ?_) ?_ ?_); rotate_left; (focus (first | exact (hs) | exact (hm))); (conv => whnf); refine V.st ?_)
    exact Fin.of rfl
  · have hq' : ¬ (x < 0 ↔ y < 0) := fun h => by rw [beq_eq_false_iff_ne] at hq; exact hq (decide_eq_decide.2 h)
    (conv => whnf)
    refine V.st ?_
    repeat ((try ((with_reducible refine .ext ?_); (conv => whnf))); (with_reducible refine call_intro (r := ?_) ?_ ?_); rotate_left; (focus (first | exact (ho))); (conv => whnf); refine V.st ?_)
    refine Cnd.split (CondB.mk (fun hq2 => ?_) (fun hq2 => ?_))
    · rw [decide_eq_true_eq] at hq2
      have hd := difference_c x.natAbs y.natAbs (by omega) (by omega)
      have hl2 := mg_len_mono (B := 10000) (by omega) (Nat.sub_le x.natAbs y.natAbs)
      have hm := made_mg (decide (x < 0)) (x.natAbs - y.natAbs) (by omega)
      have e : (if decide (x < 0) = true then -((x.natAbs - y.natAbs : Nat) : Int) else ((x.natAbs - y.natAbs : Nat) : Int)) = x + y := by
        by_cases h : x < 0
        · simp [h]; omega
        · simp [h]; omega
      rw [e] at hm
      (conv => whnf)
      refine V.st ?_
      refine ⟨(.take 0 (.take 1 (.take 2 (.take 3 (.take 4 (.take 5 (.ev (.cons 6 [1, 0] (.ev (.cons 7 [] (.ev (.cons 8 [] (.done) (.nil))) (.nil))) (.nil))))))))), [], ⟨by kernel_rfl, by kernel_rfl, by kernel_rfl, by kernel_rfl⟩, .go (drawD_one ?_)⟩
      (conv => whnf)
      refine V.st ?_
      repeat ((try ((with_reducible refine .ext ?_); (conv => whnf))); (with_reducible refine call_intro (r := ?_) ?_ ?_); rotate_left; (focus (first | exact (hd) | exact (hm))); (conv => whnf); refine V.st ?_)
      exact Fin.of rfl
    · rw [decide_eq_false_iff_not] at hq2
      have hd := difference_c y.natAbs x.natAbs (by omega) (by omega)
      have hl2 := mg_len_mono (B := 10000) (by omega) (Nat.sub_le y.natAbs x.natAbs)
      have hm := made_mg (decide (y < 0)) (y.natAbs - x.natAbs) (by omega)
      have e : (if decide (y < 0) = true then -((y.natAbs - x.natAbs : Nat) : Int) else ((y.natAbs - x.natAbs : Nat) : Int)) = x + y := by
        by_cases h : y < 0
        · simp [h]; omega
        · simp [h]; omega
      rw [e] at hm
      (conv => whnf)
      refine V.st ?_
      refine ⟨(.take 0 (.take 1 (.take 2 (.take 3 (.take 4 (.take 5 (.ev (.cons 6 [1, 0] (.ev (.cons 7 [] (.ev (.cons 8 [] (.done) (.nil))) (.nil))) (.nil))))))))), [], ⟨by kernel_rfl, by kernel_rfl, by kernel_rfl, by kernel_rfl⟩, .go (drawD_one ?_)⟩
      (conv => whnf)
      refine V.st ?_
      repeat ((try ((with_reducible refine .ext ?_); (conv => whnf))); (with_reducible refine call_intro (r := ?_) ?_ ?_); rotate_left; (focus (first | exact (hd) | exact (hm))); (conv => whnf); refine V.st ?_)
      exact Fin.of rfl
theorem minus_c (x y : Int) (hx : Sm 90000000 x) (hy : Sm 90000000 y) : Called Tryz.prog 176 [plD x, plD y] (plD (x - y)) := by
  have ht := turn_c y (by unfold Sm at hy; omega)
  have hp := plus_c x (-y) hx hy.neg
  rw [show x + -y = x - y by omega] at hp
  rw [show plD x = .agg [.bool (decide (x < 0)), .ints .i64 (mg 10000 x.natAbs)] from rfl, show plD y = .agg [.bool (decide (y < 0)), .ints .i64 (mg 10000 y.natAbs)] from rfl] at *
  refine called_of_run tbOk 6 ⟨Tryz.func176, rfl, rfl, Nat.le_of_ble_eq_true rfl⟩ ?_
  (conv => whnf)
  refine V.st ?_
  refine ⟨(.take 0 (.take 1 (.ev (.cons 2 [0] (.ev (.cons 3 [] (.ev (.cons 4 [] (.done) (.nil))) (.nil))) (.nil))))), [], ⟨by kernel_rfl, by kernel_rfl, by kernel_rfl, by kernel_rfl⟩, .go (drawD_one ?_)⟩
  (conv => whnf)
  refine V.st ?_
  repeat ((try ((with_reducible refine .ext ?_); (conv => whnf))); (with_reducible refine call_intro (r := ?_) ?_ ?_); rotate_left; (focus (first | exact (ht) | exact (hp))); (conv => whnf); refine V.st ?_)
  exact Fin.of rfl
end Go.Proofs.YtpcpgjcdkgcbpaaGreatDoor
end
section
namespace Go.Proofs.YtpcpgjcdkgcbpaaGreatDoor
open Go Go.V Go.Nb
theorem euclid_unique {a b X Y : Int} (hb : b ≠ 0) (h : a = Y + b * X) (h0 : 0 ≤ Y) (h1 : Y < b.natAbs) : a / b = X ∧ a % b = Y := by
  have hm : a % b = Y := by
    rw [h, Int.add_mul_emod_self_left]
    rcases Int.lt_or_lt_of_ne hb with h2 | h2
    · rw [← Int.emod_neg, Int.emod_eq_of_lt h0 (by omega)]
    · exact Int.emod_eq_of_lt h0 (by omega)
  refine ⟨?_, hm⟩
  have h3 := Int.emod_add_mul_ediv a b
  rw [hm] at h3
  exact Int.eq_of_mul_eq_mul_left hb (by omega)
theorem parts_plain (a b : Int) (hb : b ≠ 0) (x0 y0 : Int) (hx : x0 = if (decide (a < 0) != decide (b < 0)) = true then -((a.natAbs / b.natAbs : Nat) : Int) else ((a.natAbs / b.natAbs : Nat) : Int))
    (hy : y0 = if decide (a < 0) = true then -((a.natAbs % b.natAbs : Nat) : Int) else ((a.natAbs % b.natAbs : Nat) : Int)) :
    (y0 < 0 → a % b = y0 + b.natAbs ∧ (b < 0 → a / b = x0 + 1) ∧ (¬ b < 0 → a / b = x0 - 1)) ∧ (¬ y0 < 0 → a % b = y0 ∧ a / b = x0) := by
  have h1 := Nat.mod_add_div a.natAbs b.natAbs
  have h2 : a.natAbs % b.natAbs < b.natAbs := Nat.mod_lt _ (by omega)
  generalize a.natAbs % b.natAbs = r at *
  generalize a.natAbs / b.natAbs = q at *
  have h3 : (a.natAbs : Int) = r + (b.natAbs : Int) * q := by rw [← Int.natCast_mul, ← Int.natCast_add, h1]
  have hmul1 : b * ((q : Int) + 1) = b * q + b := by rw [Int.mul_add, Int.mul_one]
  have hmul2 : b * (-(q : Int) + 1) = -(b * q) + b := by rw [Int.mul_add, Int.mul_one, Int.mul_neg]
  have hmul3 : b * ((q : Int) - 1) = b * q - b := by rw [Int.mul_sub, Int.mul_one]
  have hmul4 : b * (-(q : Int) - 1) = -(b * q) - b := by rw [Int.mul_sub, Int.mul_one, Int.mul_neg]
  have hmul5 : b * (-(q : Int)) = -(b * q) := by rw [Int.mul_neg]
  by_cases ha : a < 0 <;> by_cases hbn : b < 0
  · have e1 : (b.natAbs : Int) = -b := by omega
    rw [e1, Int.neg_mul] at h3
    simp only [ha, hbn, decide_true, bne_self_eq_false, Bool.false_eq_true, if_false, if_true] at hx hy
    subst hx hy
    refine ⟨fun h => ?_, fun h => ?_⟩
    · have := euclid_unique (a := a) (b := b) (X := (q : Int) + 1) (Y := -(r : Int) + b.natAbs) hb (by omega) (by omega) (by omega)
      exact ⟨this.2, fun _ => this.1, fun h => absurd hbn h⟩
    · have := euclid_unique (a := a) (b := b) (X := (q : Int)) (Y := -(r : Int)) hb (by omega) (by omega) (by omega)
      exact ⟨this.2, this.1⟩
  · have e1 : (b.natAbs : Int) = b := by omega
    rw [e1] at h3
    simp only [ha, hbn, decide_true, decide_false, bne, beq_eq_false_iff_ne, ne_eq, Bool.true_eq_false, not_false_eq_true, if_true, Bool.not_false, beq_false] at hx hy
    have hx' : x0 = -(q : Int) := by simpa using hx
    subst hx' hy
    refine ⟨fun h => ?_, fun h => ?_⟩
    · have := euclid_unique (a := a) (b := b) (X := -(q : Int) - 1) (Y := -(r : Int) + b.natAbs) hb (by omega) (by omega) (by omega)
      exact ⟨this.2, fun h => absurd h hbn, fun _ => this.1⟩
    · have := euclid_unique (a := a) (b := b) (X := -(q : Int)) (Y := -(r : Int)) hb (by omega) (by omega) (by omega)
      exact ⟨this.2, this.1⟩
  · have e1 : (b.natAbs : Int) = -b := by omega
    rw [e1, Int.neg_mul] at h3
    have hx' : x0 = -(q : Int) := by simpa [ha, hbn] using hx
    have hy' : y0 = (r : Int) := by simpa [ha] using hy
    subst hx' hy'
    refine ⟨fun h => by omega, fun h => ?_⟩
    have := euclid_unique (a := a) (b := b) (X := -(q : Int)) (Y := (r : Int)) hb (by omega) (by omega) (by omega)
    exact ⟨this.2, this.1⟩
  · have e1 : (b.natAbs : Int) = b := by omega
    rw [e1] at h3
    have hx' : x0 = (q : Int) := by simpa [ha, hbn] using hx
    have hy' : y0 = (r : Int) := by simpa [ha] using hy
    subst hx' hy'
    refine ⟨fun h => by omega, fun h => ?_⟩
    have := euclid_unique (a := a) (b := b) (X := (q : Int)) (Y := (r : Int)) hb (by omega) (by omega) (by omega)
    exact ⟨this.2, this.1⟩
theorem partsP_c (x y : Int) (hx : Sm 80000000 x) (hy : Sm 80000000 y) (hy0 : y ≠ 0) : Called Tryz.prog 170 [plD x, plD y] (.tup [plD (x / y), plD (x % y)]) := by
  unfold Sm at hx hy
  have hp := parts_c x.natAbs y.natAbs (by omega) (by omega) (by omega)
  have hq := mg_len_mono (B := 10000) (by omega) (Nat.div_le_self x.natAbs y.natAbs)
  have hr := mg_len_mono (B := 10000) (by omega) (Nat.mod_le x.natAbs y.natAbs)
  have hm1 := made_mg (decide (x < 0) != decide (y < 0)) (x.natAbs / y.natAbs) (by omega)
  have hm2 := made_mg (decide (x < 0)) (x.natAbs % y.natAbs) (by omega)
  have hpl := parts_plain x y hy0 _ _ rfl rfl
  have hsx : Sm 80000000 (if (decide (x < 0) != decide (y < 0)) = true then -((x.natAbs / y.natAbs : Nat) : Int) else ((x.natAbs / y.natAbs : Nat) : Int)) := by
    unfold Sm; split <;> simp only [Int.natAbs_neg, Int.natAbs_natCast] <;> omega
  have hsy : Sm 80000000 (if decide (x < 0) = true then -((x.natAbs % y.natAbs : Nat) : Int) else ((x.natAbs % y.natAbs : Nat) : Int)) := by
    unfold Sm; split <;> simp only [Int.natAbs_neg, Int.natAbs_natCast] <;> omega
  generalize (if (decide (x < 0) != decide (y < 0)) = true then -((x.natAbs / y.natAbs : Nat) : Int) else ((x.natAbs / y.natAbs : Nat) : Int)) = x0 at *
  generalize (if decide (x < 0) = true then -((x.natAbs % y.natAbs : Nat) : Int) else ((x.natAbs % y.natAbs : Nat) : Int)) = y0 at *
  rw [show plD x = .agg [.bool (decide (x < 0)), .ints .i64 (mg 10000 x.natAbs)] from rfl, show plD y = .agg [.bool (decide (y < 0)), .ints .i64 (mg 10000 y.natAbs)] from rfl] at *
  refine called_of_run tbOk 6 ⟨Tryz.func170, rfl, rfl, Nat.le_of_ble_eq_true rfl⟩ ?_
  (conv => whnf)
  refine V.st ?_
  repeat ((try ((with_reducible refine .ext ?_); (conv => whnf))); (with_reducible refine call_intro (r := ?_) ?_ ?_); rotate_left; (focus (first | exact (hp))); (conv => whnf); refine V.st ?_)
  rw [show plD x0 = .agg [.bool (decide (x0 < 0)), .ints .i64 (mg 10000 x0.natAbs)] from rfl] at hm1
  rw [show plD y0 = .agg [.bool (decide (y0 < 0)), .ints .i64 (mg 10000 y0.natAbs)] from rfl] at hm2
  refine ⟨(.take 0 (.take 1 (.take 2 (.take 3 (.take 4 (.take 5 (.take 7 (.take 8 (.take 9 (.ev (.cons 6 [9, 8, 7] (.ev (.cons 10 [] (.ev (.cons 11 [] (.ev (.cons 12 [] (.ev (.cons 13 [] (.ev (.cons 14 [] (.done) (.nil))) (.nil))) (.nil))) (.cons 12 [] (.ev (.cons 11 [] (.ev (.cons 13 [] (.ev (.cons 14 [] (.done) (.nil))) (.nil))) (.nil))) (.nil)))) (.cons 11 [9, 8, 7] (.ev (.cons 10 [] (.ev (.cons 12 [] (.ev (.cons 13 [] (.ev (.cons 14 [] (.done) (.nil))) (.nil))) (.nil))) (.cons 12 [9, 8, 7] (.ev (.cons 10 [] (.ev (.cons 13 [] (.ev (.cons 14 [] (.done) (.nil))) (.nil))) (.nil))) (.nil)))) (.cons 12 [9, 8, 7] (.ev (.cons 10 [] (.ev (.cons 11 [] (.ev (.cons 13 [] (.ev (.cons 14 [] (.done) (.nil))) (.nil))) (.nil))) (.cons 11 [9, 8, 7] (.ev (.cons 10 [] (.ev (.cons 13 [] (.ev (.cons 14 [] (.done) (.nil))) (.nil))) (.nil))) (.nil)))) (.nil))))) (.cons 11 [9, 8, 7, 5, 4, 3, 2, 1, 0] (.ev (.cons 6 [9, 8, 7] (.ev (.cons 10 [] (.ev (.cons 12 [] (.ev (.cons 13 [] (.ev (.cons 14 [] (.done) (.nil))) (.nil))) (.nil))) (.cons 12 [9, 8, 7] (.ev (.cons 10 [] (.ev (.cons 13 [] (.ev (.cons 14 [] (.done) (.nil))) (.nil))) (.nil))) (.nil)))) (.cons 12 [9, 8, 7, 5, 4, 3, 2, 1, 0] (.ev (.cons 6 [9, 8, 7] (.ev (.cons 10 [] (.ev (.cons 13 [] (.ev (.cons 14 [] (.done) (.nil))) (.nil))) (.nil))) (.nil))) (.nil)))) (.cons 12 [9, 8, 7, 5, 4, 3, 2, 1, 0] (.ev (.cons 6 [9, 8, 7] (.ev (.cons 10 [] (.ev (.cons 11 [] (.ev (.cons 13 [] (.ev (.cons 14 [] (.done) (.nil))) (.nil))) (.nil))) (.cons 11 [9, 8, 7] (.ev (.cons 10 [] (.ev (.cons 13 [] (.ev (.cons 14 [] (.done) (.nil))) (.nil))) (.nil))) (.nil)))) (.cons 11 [9, 8, 7, 5, 4, 3, 2, 1, 0] (.ev (.cons 6 [9, 8, 7] (.ev (.cons 10 [] (.ev (.cons 13 [] (.ev (.cons 14 [] (.done) (.nil))) (.nil))) (.nil))) (.nil))) (.nil)))) (.nil)))))))))))))), [], ⟨by kernel_rfl, by kernel_rfl, by kernel_rfl, by kernel_rfl⟩, ?_⟩
  refine drw_meet [(8, .box 8 0), (9, .box 9 0)] [(8, .box [.bool (decide (x0 < 0)), .ints .i64 (mg 10000 x0.natAbs)]), (9, .box [.bool (decide (y0 < 0)), .ints .i64 (mg 10000 y0.natAbs)])] ?_ ?_
  · (conv => whnf); (try simp only [Nat.zero_add])
    repeat' (first | exact V.wk | ((with_reducible refine And.intro ?_ draw_nil); (conv => whnf); (try simp only [Nat.zero_add])) | ((with_reducible first | refine draw_split ?_ ?_ | refine nds_split ?_ ?_) <;> (conv => whnf); (try simp only [Nat.zero_add])) | ((first | refine V.s1 ?_ | ((with_reducible refine recheck_and ?_ ?_); (focus ((conv => whnf); (try simp only [Nat.zero_add]); (repeat ((first | refine V.s1 ?_); (try simp only [Nat.zero_add]))); exact ⟨rfl⟩)); (conv => whnf)) | ((try ((with_reducible refine .ext ?_); (conv => whnf); (try simp only [Nat.zero_add]))); (with_reducible refine call_intro (r := ?_) ?_ ?_); rotate_left; (focus (first | exact (hm1) | exact (hm2))); (conv => whnf))); (try simp only [Nat.zero_add])) | (refine And.intro ?_ ?_ <;> (conv => whnf); (try simp only [Nat.zero_add])))
  (conv => whnf)
  refine V.st ?_
  refine Cnd.split (CondB.mk (fun hq => ?_) (fun hq => ?_))
  · rw [decide_eq_true_eq] at hq
    have hpl := hpl.1 hq
    have hy1 : y0 + (y.natAbs : Int) = x % y := by omega
    have hc1 := plus_c y0 (y.natAbs : Int) (hsy.mono (by omega)) (by unfold Sm; rw [Int.natAbs_natCast]; omega)
    rw [hy1] at hc1
    rw [show plD y0 = .agg [.bool (decide (y0 < 0)), .ints .i64 (mg 10000 y0.natAbs)] from rfl, show plD (y.natAbs : Int) = .agg [.bool false, .ints .i64 (mg 10000 y.natAbs)] by unfold plD; rw [Int.natAbs_natCast, decide_eq_false (by omega)], show plD (x % y) = .agg [.bool (decide (x % y < 0)), .ints .i64 (mg 10000 (x % y).natAbs)] from rfl] at hc1
    have hi := integer_c 1 ⟨by decide, by decide⟩
    (conv => whnf)
    refine V.st ?_
    repeat ((try ((with_reducible refine .ext ?_); (conv => whnf))); (with_reducible refine call_intro (r := ?_) ?_ ?_); rotate_left; (focus (first | exact (hc1))); (conv => whnf); refine V.st ?_)
    refine Cnd.split (CondB.mk (fun hq2 => ?_) (fun hq2 => ?_))
    · rw [decide_eq_true_eq] at hq2
      have hc2 := plus_c x0 1 (hsx.mono (by omega)) ((Sm.lit (k := 1) (by decide)).mono (by omega))
      rw [← hpl.2.1 hq2, show plD x0 = .agg [.bool (decide (x0 < 0)), .ints .i64 (mg 10000 x0.natAbs)] from rfl, show plD (x / y) = .agg [.bool (decide (x / y < 0)), .ints .i64 (mg 10000 (x / y).natAbs)] from rfl] at hc2
      (conv => whnf)
      refine V.st ?_
      refine ⟨(.take 0 (.ev (.cons 1 [0] (.ev (.cons 2 [] (.ev (.cons 3 [] (.done) (.nil))) (.nil))) (.nil)))), [], ⟨by kernel_rfl, by kernel_rfl, by kernel_rfl, by kernel_rfl⟩, .go (drawD_one ?_)⟩
      (conv => whnf)
      refine V.st ?_
      repeat ((try ((with_reducible refine .ext ?_); (conv => whnf))); (with_reducible refine call_intro (r := ?_) ?_ ?_); rotate_left; (focus (first | exact (hi) | exact (hc2))); (conv => whnf); refine V.st ?_)
      refine ⟨(.take 0 (.take 1 (.ev (.cons 2 [1] (.ev (.cons 3 [] (.done) (.nil))) (.nil))))), [], ⟨by kernel_rfl, by kernel_rfl, by kernel_rfl, by kernel_rfl⟩, .go (drawD_one ?_)⟩
      (conv => whnf)
      refine V.st ?_
      exact Fin.of rfl
    · rw [decide_eq_false_iff_not] at hq2
      have hc2 := minus_c x0 1 (hsx.mono (by omega)) ((Sm.lit (k := 1) (by decide)).mono (by omega))
      rw [← hpl.2.2 hq2, show plD x0 = .agg [.bool (decide (x0 < 0)), .ints .i64 (mg 10000 x0.natAbs)] from rfl, show plD (x / y) = .agg [.bool (decide (x / y < 0)), .ints .i64 (mg 10000 (x / y).natAbs)] from rfl] at hc2
      (conv => whnf)
      refine V.st ?_
      refine ⟨(.take 0 (.ev (.cons 1 [0] (.ev (.cons 2 [] (.ev (.cons 3 [] (.done) (.nil))) (.nil))) (.nil)))), [], ⟨by kernel_rfl, by kernel_rfl, by kernel_rfl, by kernel_rfl⟩, .go (drawD_one ?_)⟩
      (conv => whnf)
      refine V.st ?_
      repeat ((try ((with_reducible refine .ext ?_); (conv => whnf))); (with_reducible refine call_intro (r := ?_) ?_ ?_); rotate_left; (focus (first | exact (hi) | exact (hc2))); (conv => whnf); refine V.st ?_)
      refine ⟨(.take 0 (.take 1 (.ev (.cons 2 [1] (.ev (.cons 3 [] (.done) (.nil))) (.nil))))), [], ⟨by kernel_rfl, by kernel_rfl, by kernel_rfl, by kernel_rfl⟩, .go (drawD_one ?_)⟩
      (conv => whnf)
      refine V.st ?_
      exact Fin.of rfl
  · rw [decide_eq_false_iff_not] at hq
    have hpl := hpl.2 hq
    rw [← hpl.1, ← hpl.2]
    (conv => whnf)
    refine V.st ?_
    refine ⟨(.take 0 (.take 1 (.ev (.cons 2 [1] (.ev (.cons 3 [] (.done) (.nil))) (.nil))))), [], ⟨by kernel_rfl, by kernel_rfl, by kernel_rfl, by kernel_rfl⟩, .go (drawD_one ?_)⟩
    (conv => whnf)
    refine V.st ?_
    exact Fin.of rfl
theorem divisor_c (x y : Int) (hx : Sm 80000000 x) (hy : Sm 80000000 y) : Called Tryz.prog 123 [plD x, plD y] (plD (Int.gcd x y)) := by
  unfold Sm at hx hy
  rw [show plD x = .agg [.bool (decide (x < 0)), .ints .i64 (mg 10000 x.natAbs)] from rfl, show plD y = .agg [.bool (decide (y < 0)), .ints .i64 (mg 10000 y.natAbs)] from rfl]
  refine called_of_run tbOk 6 ⟨Tryz.func123, rfl, rfl, Nat.le_of_ble_eq_true rfl⟩ ?_
  (conv => whnf)
  refine V.st ?_
  refine ⟨(.take 0 (.take 1 (.take 2 (.take 3 (.take 4 (.take 5 (.done))))))), [], ⟨by kernel_rfl, by kernel_rfl, by kernel_rfl, by kernel_rfl⟩, .go (drawD_one ?_)⟩
  refine V.st ?_
  refine lp_any ((x.natAbs, y.natAbs) : Nat × Nat) (fun s => Nat.gcd s.1 s.2 = Int.gcd x y ∧ (mg 10000 s.1).length ≤ 80000000 ∧ (mg 10000 s.2).length ≤ 80000000) (fun s => s.2)
    (fun s => [(6, .ints .i64 (mg 10000 s.2)), (5, .ints .i64 (mg 10000 s.1))]) (fun _ => []) ?_ ?_ ?_
  · exact V.wk
  · exact ⟨rfl, hx, hy⟩
  rintro ⟨a, b⟩ ⟨h1, h2, h3⟩
  dsimp only at h1 h2 h3 ⊢
  have hnil := mg_nil (B := 10000) (n := b) (by omega)
  rw [← List.length_eq_zero_iff] at hnil
  (conv => whnf)
  refine V.st ?_
  refine Cnd.split (CondB.mk (fun hq => ?_) (fun hq => ?_))
  · rw [decide_eq_true_eq] at hq
    have hb : 0 < b := by omega
    have hp := parts_c a b (by omega) (by omega) hb
    have hr := mg_len_mono (B := 10000) (by omega) (Nat.le_of_lt (Nat.mod_lt a hb))
    (conv => whnf)
    refine V.st ?_
    repeat ((try ((with_reducible refine .ext ?_); (conv => whnf))); (with_reducible refine call_intro (r := ?_) ?_ ?_); rotate_left; (focus (first | exact (hp))); (conv => whnf); refine V.st ?_)
    exact ⟨(b, a % b), ⟨by dsimp only; rw [Nat.gcd_comm, ← Nat.gcd_rec, Nat.gcd_comm]; exact h1, h3, by dsimp only; omega⟩, Nat.mod_lt _ hb, V.wk⟩
  · rw [decide_eq_false_iff_not] at hq
    obtain rfl : b = 0 := hnil.1 (by omega)
    rw [Nat.gcd_zero_right] at h1
    (conv => whnf)
    refine V.st ?_
    exact Fin.of (by unfold plD; rw [Int.natAbs_natCast, h1, decide_eq_false (by omega)])
end Go.Proofs.YtpcpgjcdkgcbpaaGreatDoor
end
section
namespace Go.Proofs.YtpcpgjcdkgcbpaaGreatDoor
open Go Go.V Go.Nb
theorem pad_append (k : Nat) : ∀ (l a b : Nat), b < 10 ^ l → pad k a ++ pad l b = pad (k + l) (a * 10 ^ l + b)
  | 0, a, b, h => by
    obtain rfl : b = 0 := by simp at h; omega
    simp [pad]
  | l + 1, a, b, h => by
    have hb : b / 10 < 10 ^ l := Nat.div_lt_of_lt_mul (by rw [Nat.pow_succ, Nat.mul_comm] at h; exact h)
    have e : a * 10 ^ (l + 1) + b = (a * 10 ^ l) * 10 + b := by rw [Nat.pow_succ, Nat.mul_assoc]
    have e1 : (a * 10 ^ (l + 1) + b) / 10 = a * 10 ^ l + b / 10 := by omega
    have e2 : (a * 10 ^ (l + 1) + b) % 10 = b % 10 := by omega
    rw [show k + (l + 1) = (k + l) + 1 by omega, pad, pad, e1, e2, ← pad_append k l a _ hb, List.append_assoc]
theorem dec_head (n : Nat) (h : 0 < n) : (dec n).getD 0 0 ≠ 48 := by
  induction n using Nat.strongRecOn with
  | _ n ih =>
    by_cases h1 : n < 10
    · rw [dec_small h1]
      intro e
      have := congrArg UInt8.toNat e
      simp only [List.getD_cons_zero] at this
      rw [dig_toNat h1] at this
      simp at this
      omega
    · rw [dec_big (by omega), List.getD_eq_getElem?_getD, List.getElem?_append_left (dec_length_pos _), ← List.getD_eq_getElem?_getD]
      exact ih _ (by omega) (by omega)
theorem four_c (n : Nat) (h : n < 10000) : Called Tryz.prog 156 [.int .i64 n] (.str (pad 4 n)) := by
  refine called_of_run tbOk 6 ⟨Tryz.func156, rfl, rfl, Nat.le_of_ble_eq_true rfl⟩ ?_
  (conv => whnf)
  refine V.st ?_
  exact Fin.of (by
    have e : ∀ m : Nat, (48 + (m : Int)).toNat = 48 + m := fun m => by omega
    simp only [pad, List.nil_append, List.append_assoc, List.cons_append, List.map_cons, List.map_nil]
    have e1 : (48 + (n : Int) / 1000).toNat = 48 + n / 10 / 10 / 10 % 10 := by omega
    have e2 : (48 + (n : Int) / 100 % 10).toNat = 48 + n / 10 / 10 % 10 := by omega
    have e3 : (48 + (n : Int) / 10 % 10).toNat = 48 + n / 10 % 10 := by omega
    have e4 : (48 + (n : Int) % 10).toNat = 48 + n % 10 := by omega
    rw [e1, e2, e3, e4])
theorem text_c (z : Int) (hz : Sm 90000000 z) : Called Tryz.prog 122 [plD z] (.str (decZ z)) := by
  unfold Sm at hz
  have hdx := mg_dg (B := 10000) (by omega) z.natAbs
  have hvx := mg_val (B := 10000) (by omega) z.natAbs
  have hnil := mg_nil (B := 10000) (n := z.natAbs) (by omega)
  have hltp := mg_lt_pow (B := 10000) (n := z.natAbs) (by omega)
  rw [show plD z = .agg [.bool (decide (z < 0)), .ints .i64 (mg 10000 z.natAbs)] from rfl]
  generalize mg 10000 z.natAbs = xs at *
  refine called_of_run tbOk 6 ⟨Tryz.func122, rfl, rfl, Nat.le_of_ble_eq_true rfl⟩ ?_
  (conv => whnf)
  refine V.st ?_
  refine lp_any ((xs.length, 0) : Nat × Nat) (fun s => s.1 ≤ xs.length ∧ val 10000 (xs.drop s.1) = s.2) (fun s => s.1)
    (fun s => [(4, .int .i64 ((s.1 : Int) - 1)), (3, .str (pad (4 * (xs.length - s.1)) s.2))]) (fun _ => []) ?_ ?_ ?_
  · rw [Nat.sub_self]
    exact V.wk
  · exact ⟨Nat.le_refl _, by simp [val]⟩
  rintro ⟨k, v⟩ ⟨h1, h2⟩
  dsimp only at h1 h2 ⊢
  have hpl := pad_length (4 * (xs.length - k)) v
  (conv => whnf)
  refine V.st ?_
  refine Cnd.split (CondB.mk (fun hq => ?_) (fun hq => ?_))
  · rw [decide_eq_true_eq] at hq
    obtain ⟨j, rfl⟩ : ∃ j, k = j + 1 := ⟨k - 1, by omega⟩
    have hj : j < xs.length := by omega
    have bx := dg_getD (by omega) hdx j
    have hd := val_drop (B := 10000) hj
    generalize hx0 : xs.getD j 0 = x at *
    obtain ⟨d, rfl⟩ : ∃ d : Nat, x = d := ⟨x.toNat, by omega⟩
    have e2 : (((j + 1 : Nat) : Int) - 1) = (j : Int) := by omega
    have hf := four_c d (by omega)
    have hp4 := pad_length 4 d
    have hpa := pad_append (4 * (xs.length - (j + 1))) 4 v d (by omega)
    have e4 : 4 * (xs.length - (j + 1)) + 4 = 4 * (xs.length - j) := by omega
    rw [e4] at hpa
    (conv => whnf)
    (try simp only [e2, Int.toNat_natCast, hx0, hpa])
    repeat ((first | refine V.s1 ?_ | ((try ((with_reducible refine .ext ?_); (conv => whnf); (try simp only [e2, Int.toNat_natCast, hx0, hpa]))); (with_reducible refine call_intro (r := ?_) ?_ ?_); rotate_left; (focus (first | exact (hf))); (conv => whnf))); (try simp only [e2, Int.toNat_natCast, hx0, hpa]))
    exact ⟨(j, v * 10 ^ 4 + d), ⟨by dsimp only; omega, by dsimp only; rw [hd, h2]; omega⟩, by dsimp only; omega, V.wk⟩
  · rw [decide_eq_false_iff_not] at hq
    obtain rfl : k = 0 := by omega
    rw [List.drop_zero, hvx] at h2
    have hv : v = z.natAbs := by omega
    subst hv
    have hK : z.natAbs < 10 ^ (4 * xs.length) := by rw [Nat.pow_mul]; exact hltp
    rw [Nat.sub_zero] at *
    generalize hs : pad (4 * xs.length) z.natAbs = t at *
    obtain ⟨Z, hZ, hZ1, hZ2⟩ : ∃ Z, Z ≤ t.length ∧ t.drop Z = (if z.natAbs = 0 then [] else dec z.natAbs) ∧ ∀ k, k ≤ Z → (k < t.length ∧ t.getD k 0 = 48 ↔ k < Z) := by
      by_cases h0 : z.natAbs = 0
      · have := hnil.2 h0
        subst this
        rw [if_pos h0]
        have ht : t = [] := List.length_eq_zero_iff.1 (by simpa using hpl)
        subst ht
        exact ⟨0, by simp, rfl, fun k hk => by simp⟩
      · rw [if_neg h0]
        have hne : 0 < xs.length := by
          rcases Nat.eq_zero_or_pos xs.length with e | e
          · exact absurd (hnil.1 (List.length_eq_zero_iff.1 e)) h0
          · exact e
        obtain ⟨p1, p2⟩ := pad_dec (4 * xs.length) z.natAbs (by omega) hK
        rw [hs] at p2
        have hdl := dec_length_pos z.natAbs
        refine ⟨4 * xs.length - (dec z.natAbs).length, by omega, ?_, fun k hk => ?_⟩
        · rw [p2, List.drop_append_of_le_length (by simp), List.drop_of_length_le (by simp)]; rfl
        · rw [p2]
          rcases Nat.lt_or_ge k (4 * xs.length - (dec z.natAbs).length) with hlt | hge
          · rw [List.getD_eq_getElem?_getD, List.getElem?_append_left (by simpa using hlt), List.getElem?_replicate, if_pos hlt]
            simp [hlt]; omega
          · have hke : k = 4 * xs.length - (dec z.natAbs).length := by omega
            rw [List.getD_eq_getElem?_getD, List.getElem?_append_right (by simp; omega), List.length_replicate, hke, Nat.sub_self, ← List.getD_eq_getElem?_getD]
            have := dec_head z.natAbs (by omega)
            simp only [Nat.lt_irrefl, iff_false, not_and]
            exact fun _ => this
    (conv => whnf)
    (try simp only [Int.toNat_natCast])
    repeat ((first | refine V.s1 ?_); (try simp only [Int.toNat_natCast]))
    refine lp_any (0) (fun k => k ≤ Z) (fun k => Z - k) (fun k => [(5, .int .i64 k)]) (fun k => []) ?_ ?_ ?_
    · exact V.wk
    · exact Nat.zero_le _
    intro k hk
    have hz2 := hZ2 k hk
    have hkc : ((k : Int) + 1) = ((k + 1 : Nat) : Int) := by omega
    have hu : (((t.getD k 0).toNat : Int) = 48) ↔ t.getD k 0 = 48 := ⟨fun h => UInt8.toNat_inj.1 (by have e : (48 : UInt8).toNat = 48 := rfl; rw [e]; omega), fun h => by rw [h]; rfl⟩
    (conv => whnf)
    (try simp only [Int.toNat_natCast])
    repeat ((first | refine V.s1 ?_); (try simp only [Int.toNat_natCast]))
    refine Cnd.split (CondB.mk (fun hq2 => ?_) (fun hq2 => ?_))
    · rw [Bool.and_eq_true, decide_eq_true_eq, decide_eq_true_eq, hu] at hq2
      have hkZ := hz2.1 ⟨by omega, hq2.2⟩
      (conv => whnf)
      (try simp only [hkc])
      repeat ((first | refine V.s1 ?_); (try simp only [hkc]))
      exact ⟨k + 1, by omega, by omega, V.wk⟩
    · have hkZ : k = Z := by
        rcases Nat.lt_or_ge k Z with h | h
        · have h3 := hz2.2 h
          rw [Bool.and_eq_false_iff, decide_eq_false_iff_not, decide_eq_false_iff_not, hu] at hq2
          rcases hq2 with h4 | h4
          · omega
          · exact absurd h3.2 h4
        · omega
      subst hkZ
      (conv => whnf)
      (try simp only [Int.toNat_natCast, hZ1])
      repeat ((first | refine V.s1 ?_); (try simp only [Int.toNat_natCast, hZ1]))
      by_cases h0 : z.natAbs = 0
      · rw [if_pos h0] at hZ1 ⊢
        have hz0 : z = 0 := by omega
        (conv => whnf)
        refine V.st ?_
        exact Fin.of (by rw [hz0]; rfl)
      · rw [if_neg h0] at hZ1 ⊢
        have hne := dec_length_pos z.natAbs
        have hne2 : dec z.natAbs ≠ [] := fun e => by rw [e] at hne; simp at hne
        have hdl : (dec z.natAbs).length ≤ t.length := by rw [← hZ1, List.length_drop]; omega
        (conv => whnf)
        refine V.st ?_
        refine Cnd.no (decide_eq_false hne2) ?_
        (conv => whnf)
        refine V.st ?_
        refine Cnd.split (CondB.mk (fun hneg => ?_) (fun hneg => ?_))
        · rw [decide_eq_true_eq] at hneg
          (conv => whnf)
          refine V.st ?_
          exact Fin.of (by unfold decZ; rw [if_pos hneg]; rfl)
        · rw [decide_eq_false_iff_not] at hneg
          (conv => whnf)
          refine V.st ?_
          exact Fin.of (by unfold decZ; rw [if_neg hneg])
theorem out_c (z : Int) (hz : Sm 90000000 z) : Called Tryz.prog 152 [plD z] (.tup [.str (if 600 < (dec z.natAbs).length then [] else decZ z), .int .i64 (if 600 < (dec z.natAbs).length then 6 else 0)]) := by
  have ht := text_c z hz
  rw [show plD z = .agg [.bool (decide (z < 0)), .ints .i64 (mg 10000 z.natAbs)] from rfl] at *
  have hl : (decZ z).length = (dec z.natAbs).length + (if z < 0 then 1 else 0) := by unfold decZ; split <;> simp
  generalize hzs : decZ z = s at *
  refine called_of_run tbOk 6 ⟨Tryz.func152, rfl, rfl, Nat.le_of_ble_eq_true rfl⟩ ?_
  (conv => whnf)
  refine V.st ?_
  repeat ((try ((with_reducible refine .ext ?_); (conv => whnf))); (with_reducible refine call_intro (r := ?_) ?_ ?_); rotate_left; (focus (first | exact (ht))); (conv => whnf); refine V.st ?_)
  refine Cnd.split (CondB.mk (fun hq => ?_) (fun hq => ?_))
  · rw [decide_eq_true_eq] at hq
    rw [if_pos hq] at hl
    (conv => whnf)
    refine V.st ?_
    refine Cnd.split (CondB.mk (fun hq2 => ?_) (fun hq2 => ?_))
    · rw [decide_eq_true_eq] at hq2
      rw [if_pos (by omega), if_pos (by omega)]
      (conv => whnf)
      refine V.st ?_
      exact Fin.of rfl
    · rw [decide_eq_false_iff_not] at hq2
      rw [if_neg (by omega), if_neg (by omega)]
      (conv => whnf)
      refine V.st ?_
      exact Fin.of rfl
  · rw [decide_eq_false_iff_not] at hq
    rw [if_neg hq] at hl
    (conv => whnf)
    refine V.st ?_
    refine Cnd.split (CondB.mk (fun hq2 => ?_) (fun hq2 => ?_))
    · rw [decide_eq_true_eq] at hq2
      rw [if_pos (by omega), if_pos (by omega)]
      (conv => whnf)
      refine V.st ?_
      exact Fin.of rfl
    · rw [decide_eq_false_iff_not] at hq2
      rw [if_neg (by omega), if_neg (by omega)]
      (conv => whnf)
      refine V.st ?_
      exact Fin.of rfl
end Go.Proofs.YtpcpgjcdkgcbpaaGreatDoor
end
section
namespace Go.Proofs.YtpcpgjcdkgcbpaaGreatDoor
open Go Go.V Go.Nb
def okD (d : List UInt8) (neg : Bool) : Bool := !(decide (d.length = 0) || decide (600 < d.length)) && d.all isDig && !(decide (d.getD 0 0 = 48) && (neg || decide (1 < d.length)))
def okW (s : List UInt8) : Bool := okD (Go.Lib.trimPrefix s [45]) (Go.Lib.hasPrefix s [45])
theorem dig_lo (c : UInt8) : (isDig c = true) ↔ ¬ (c.toNat : Int) < 48 ∧ ¬ (57 < (c.toNat : Int)) := by
  simp only [isDig, decide_eq_true_eq]; omega
theorem Fin.any' (r : D) : Fin .any r := ⟨fun _ _ _ => by simp [Den]⟩
theorem wread_g (s : List UInt8) (hs : s.length ≤ 281474976710656) : Called Tryz.prog 143 [.str s] (.tup [.agg [.any, .any], .bool (okW s)]) := by
  have hcp := cutPrefix_c s [45]
  unfold okW
  have hdl : (Go.Lib.trimPrefix s [45]).length ≤ s.length := by unfold Go.Lib.trimPrefix; split <;> simp
  generalize Go.Lib.trimPrefix s [45] = d at *
  generalize Go.Lib.hasPrefix s [45] = neg at *
  refine called_of_run tbOk 6 ⟨Tryz.func143, rfl, rfl, Nat.le_of_ble_eq_true rfl⟩ ?_
  (conv => whnf)
  refine V.st ?_
  repeat ((try ((with_reducible refine .ext ?_); (conv => whnf))); (with_reducible refine call_intro (r := ?_) ?_ ?_); rotate_left; (focus (first | exact (hcp))); (conv => whnf); refine V.st ?_)
  refine Cnd.split (CondB.mk (fun hq => ?_) (fun hq => ?_))
  · simp only [Bool.or_eq_true, decide_eq_true_eq] at hq
    have hf : okD d neg = false := by
      unfold okD
      rcases hq with h | h
      · rw [decide_eq_true (show d.length = 0 by omega)]; rfl
      · rw [decide_eq_true (show 600 < d.length by omega), Bool.or_true]; rfl
    rw [hf]
    (conv => whnf)
    refine V.st ?_
    exact Fin.tup ⟨Fin.agg ⟨Fin.any' _, Fin.any' _, trivial⟩, Fin.of rfl, trivial⟩
  · simp only [Bool.or_eq_false_iff, decide_eq_false_iff_not] at hq
    (conv => whnf)
    refine V.st ?_
    refine lp_any (0 : Nat) (fun k => k ≤ d.length ∧ ∀ i, i < k → isDig (d.getD i 0) = true) (fun k => d.length - k) (fun k => [(23, .int .i64 k)]) (fun _ => []) ?_ ?_ ?_
    · exact V.wk
    · exact ⟨Nat.zero_le _, fun i hi => by omega⟩
    intro k hk
    have hkc : ((k : Int) + 1) = ((k + 1 : Nat) : Int) := by omega
    (conv => whnf)
    refine V.st ?_
    refine Cnd.split (CondB.mk (fun hq2 => ?_) (fun hq2 => ?_))
    · rw [decide_eq_true_eq] at hq2
      have hdl := dig_lo (d.getD k 0)
      generalize hc : d.getD k 0 = c at *
      (conv => whnf)
      (try simp only [Int.toNat_natCast, hc, hkc])
      repeat ((first | refine V.s1 ?_); (try simp only [Int.toNat_natCast, hc, hkc]))
      refine Cnd.split (CondB.mk (fun hq3 => ?_) (fun hq3 => ?_))
      · rw [Bool.or_eq_true, decide_eq_true_eq, decide_eq_true_eq] at hq3
        have hf : okD d neg = false := by
          have h1 : d.all isDig = false := by
            rw [List.all_eq_false]
            refine ⟨c, ?_, fun h => by have := hdl.1 h; omega⟩
            rw [← hc, List.getD_eq_getElem?_getD, List.getElem?_eq_getElem (by omega)]
            exact List.getElem_mem _
          unfold okD
          rw [h1, Bool.and_false, Bool.false_and]
        rw [hf]
        (conv => whnf)
        refine V.st ?_
        exact Fin.tup ⟨Fin.agg ⟨Fin.any' _, Fin.any' _, trivial⟩, Fin.of rfl, trivial⟩
      · rw [Bool.or_eq_false_iff, decide_eq_false_iff_not, decide_eq_false_iff_not] at hq3
        (conv => whnf)
        (try simp only [hkc])
        repeat ((first | refine V.s1 ?_); (try simp only [hkc]))
        refine ⟨k + 1, ⟨by omega, fun i hi => ?_⟩, by omega, V.wk⟩
        rcases Nat.lt_or_ge i k with h | h
        · exact hk.2 i h
        · obtain rfl : i = k := by omega
          rw [hc]; exact hdl.2 (by omega)
    · rw [decide_eq_false_iff_not] at hq2
      obtain rfl : k = d.length := by omega
      have hall : ∀ c ∈ d, isDig c = true := fun c hc => by
        obtain ⟨i, hi, e⟩ := List.getElem_of_mem hc
        have := hk.2 i hi
        rw [List.getD_eq_getElem?_getD, List.getElem?_eq_getElem hi] at this
        rw [← e]; exact this
      have hok : okD d neg = !(decide (d.getD 0 0 = 48) && (neg || decide (1 < d.length))) := by
        unfold okD
        rw [List.all_eq_true.2 hall, decide_eq_false (show ¬ d.length = 0 by omega), decide_eq_false (show ¬ 600 < d.length by omega)]
        rfl
      have hu : decide ((((d.getD 0 0).toNat : Nat) : Int) = 48) = decide (d.getD 0 0 = 48) := decide_eq_decide.2 ⟨fun h => UInt8.toNat_inj.1 (by have e : (48 : UInt8).toNat = 48 := rfl; rw [e]; omega), fun h => by rw [h]; rfl⟩
      have hl : decide ((d.length : Int) > 1) = decide (1 < d.length) := decide_eq_decide.2 (by omega)
      have hg := wgather_c d hall (by omega)
      rw [hok]
      have e0 : (0 : Int).toNat = 0 := rfl
      (conv => whnf)
      (try simp only [e0, hu, hl])
      repeat ((first | refine V.s1 ?_); (try simp only [e0, hu, hl]))
      refine And.intro (fun h1 h2 => by rw [h1, h2]; rfl) ?_
      (conv => whnf)
      (try simp only [e0, hu, hl])
      repeat ((first | refine V.s1 ?_); (try simp only [e0, hu, hl]))
      refine Cnd.split (CondB.mk (fun hq4 => ?_) (fun hq4 => ?_))
      · rw [hq4]
        (conv => whnf)
        refine V.st ?_
        exact Fin.tup ⟨Fin.agg ⟨Fin.any' _, Fin.any' _, trivial⟩, Fin.of rfl, trivial⟩
      · rw [hq4]
        (conv => whnf)
        refine V.st ?_
        repeat ((try ((with_reducible refine .ext ?_); (conv => whnf))); (with_reducible refine call_intro (r := ?_) ?_ ?_); rotate_left; (focus (first | exact (hg))); (conv => whnf); refine V.st ?_)
        exact Fin.tup ⟨Fin.agg ⟨Fin.any' _, Fin.any' _, trivial⟩, Fin.of rfl, trivial⟩
theorem wcheck_c (s : List UInt8) (hs : s.length ≤ 281474976710656) : Called Tryz.prog 107 [.str s] (.int .i64 (if okW s then 0 else 10)) := by
  have h1 := wread_g s hs
  generalize okW s = b at *
  refine called_of_run tbOk 6 ⟨Tryz.func107, rfl, rfl, Nat.le_of_ble_eq_true rfl⟩ ?_
  (conv => whnf)
  refine V.st ?_
  repeat ((try ((with_reducible refine .ext ?_); (conv => whnf))); (with_reducible refine call_intro (r := ?_) ?_ ?_); rotate_left; (focus (first | exact (h1))); (conv => whnf); refine V.st ?_)
  refine Cnd.split (CondB.mk (fun hq => ?_) (fun hq => ?_))
  · obtain rfl : b = false := by simpa using hq
    (conv => whnf)
    refine V.st ?_
    exact Fin.of rfl
  · obtain rfl : b = true := by simpa using hq
    (conv => whnf)
    refine V.st ?_
    exact Fin.of rfl
def itD (z : Int) : D := .agg [.ints .u32 (mg 1000000000 z.natAbs), .bool (decide (z < 0))]
def wval (s : List UInt8) : Int := if Go.Lib.hasPrefix s [45] then -(rdv (Go.Lib.trimPrefix s [45]) : Nat) else (rdv (Go.Lib.trimPrefix s [45]) : Nat)
theorem okD_nz {d : List UInt8} (h : okD d true = true) : 0 < rdv d := by
  unfold okD at h
  simp only [Bool.and_eq_true, Bool.not_eq_true', Bool.or_eq_false_iff, decide_eq_false_iff_not, Bool.true_or, Bool.and_true, List.all_eq_true] at h
  obtain ⟨⟨⟨h1, _⟩, h2⟩, h3⟩ := h
  cases d with
  | nil => simp at h1
  | cons c r =>
    have h4 := h2 c (by simp)
    simp only [isDig, decide_eq_true_eq] at h4
    rw [List.getD_cons_zero] at h3
    have h5 : c.toNat ≠ 48 := fun e => h3 (UInt8.toNat_inj.1 e)
    have h6 := rdv_append [c] r
    rw [rdv_one] at h6
    rw [show c :: r = [c] ++ r from rfl, h6]
    have : 0 < (c.toNat - 48) * 10 ^ r.length := Nat.mul_pos (by omega) (Nat.pow_pos (by omega))
    omega
theorem number_c (s : List UInt8) (h : okW s = true) : Called Tryz.prog 108 [.str s] (itD (wval s)) := by
  have hcp := cutPrefix_c s [45]
  unfold wval itD
  unfold okW at h
  have hl : (Go.Lib.trimPrefix s [45]).length ≤ 600 ∧ ∀ c ∈ Go.Lib.trimPrefix s [45], isDig c = true := by
    unfold okD at h
    simp only [Bool.and_eq_true, Bool.not_eq_true', Bool.or_eq_false_iff, decide_eq_false_iff_not, List.all_eq_true] at h
    exact ⟨by omega, h.1.2⟩
  have hg := gather_c _ hl.2 (by omega)
  generalize Go.Lib.trimPrefix s [45] = d at *
  have e : (if Go.Lib.hasPrefix s [45] = true then -((rdv d : Nat) : Int) else ((rdv d : Nat) : Int)).natAbs = rdv d ∧ decide ((if Go.Lib.hasPrefix s [45] = true then -((rdv d : Nat) : Int) else ((rdv d : Nat) : Int)) < 0) = Go.Lib.hasPrefix s [45] := by
    cases hn : Go.Lib.hasPrefix s [45] with
    | true =>
      rw [hn] at h
      have := okD_nz h
      exact ⟨by simp, by simp; omega⟩
    | false => exact ⟨by simp, by simp⟩
  rw [e.1, e.2]
  generalize Go.Lib.hasPrefix s [45] = neg at *
  refine called_of_run tbOk 6 ⟨Tryz.func108, rfl, rfl, Nat.le_of_ble_eq_true rfl⟩ ?_
  (conv => whnf)
  refine V.st ?_
  repeat ((try ((with_reducible refine .ext ?_); (conv => whnf))); (with_reducible refine call_intro (r := ?_) ?_ ?_); rotate_left; (focus (first | exact (hcp) | exact (hg))); (conv => whnf); refine V.st ?_)
  exact Fin.of rfl
theorem decZ_head (z : Int) : Go.Lib.hasPrefix (decZ z) [45] = decide (z < 0) ∧ Go.Lib.trimPrefix (decZ z) [45] = dec z.natAbs := by
  unfold decZ Go.Lib.trimPrefix Go.Lib.hasPrefix
  by_cases h : z < 0
  · simp [h, List.isPrefixOf]
  · simp only [if_neg h, decide_eq_false h]
    have h1 := dec_dig z.natAbs
    have h2 := dec_length_pos z.natAbs
    cases hd : dec z.natAbs with
    | nil => rw [hd] at h2; simp at h2
    | cons c r =>
      have h3 := h1 c (by rw [hd]; simp)
      have h4 : ((45 : UInt8) == c) = false := by
        rw [beq_eq_false_iff_ne]; intro e; subst e; exact absurd h3 (by decide)
      simp [List.isPrefixOf, h4]
theorem okW_decZ (z : Int) (h : (dec z.natAbs).length ≤ 600) : okW (decZ z) = true := by
  unfold okW okD
  rw [(decZ_head z).1, (decZ_head z).2]
  have h2 := dec_length_pos z.natAbs
  have h3 : (dec z.natAbs).all isDig = true := List.all_eq_true.2 (dec_dig _)
  rw [h3, decide_eq_false (show ¬ (dec z.natAbs).length = 0 by omega), decide_eq_false (show ¬ 600 < (dec z.natAbs).length by omega)]
  by_cases h0 : z.natAbs = 0
  · have : z = 0 := by omega
    subst this
    rfl
  · have := dec_head z.natAbs (by omega)
    rw [decide_eq_false this]; rfl
theorem wval_decZ (z : Int) : wval (decZ z) = z := by
  unfold wval
  rw [(decZ_head z).1, (decZ_head z).2, rdv_dec]
  by_cases h : z < 0
  · simp [h]; omega
  · simp [h]; omega
end Go.Proofs.YtpcpgjcdkgcbpaaGreatDoor
end
section
namespace Go.Proofs.YtpcpgjcdkgcbpaaGreatDoor
open Go Go.V Go.Nb
theorem zero_c (n : Nat) : Called Tryz.prog 127 [.ints .u32 (mg 1000000000 n)] (.bool (decide (n = 0))) := by
  have hnil := mg_nil (B := 1000000000) (n := n) (by omega)
  rw [← List.length_eq_zero_iff] at hnil
  have e : decide (((mg 1000000000 n).length : Int) = 0) = decide (n = 0) := decide_eq_decide.2 (by rw [← hnil]; omega)
  refine called_of_run tbOk 6 ⟨Tryz.func127, rfl, rfl, Nat.le_of_ble_eq_true rfl⟩ ?_
  (conv => whnf)
  refine V.st ?_
  exact Fin.of (by rw [e])
theorem signed_c (n : Nat) (neg : Bool) : Called Tryz.prog 101 [.ints .u32 (mg 1000000000 n), .bool neg] (itD (if neg then -(n : Int) else n)) := by
  have h1 := zero_c n
  have e : (if neg = true then -(n : Int) else (n : Int)).natAbs = n := by cases neg <;> simp
  have e2 : decide ((if neg = true then -(n : Int) else (n : Int)) < 0) = (neg && !decide (n = 0)) := by
    cases neg with
    | false => simp
    | true =>
      by_cases h : n = 0
      · simp [h]
      · rw [decide_eq_false h, if_pos rfl, decide_eq_true (by omega)]; rfl
  unfold itD
  rw [e, e2]
  generalize decide (n = 0) = z at *
  refine called_of_run tbOk 6 ⟨Tryz.func101, rfl, rfl, Nat.le_of_ble_eq_true rfl⟩ ?_
  (conv => whnf)
  refine V.st ?_
  repeat ((try ((with_reducible refine .ext ?_); (conv => whnf))); (with_reducible refine call_intro (r := ?_) ?_ ?_); rotate_left; (focus (first | exact (h1))); (conv => whnf); refine V.st ?_)
  exact Fin.of rfl
theorem small_c (n : Nat) (h : n < 1000000000000000000) : Called Tryz.prog 135 [.ints .u32 (mg 1000000000 n)] (.int .u64 n) := by
  have hlen := mg_len_le (B := 1000000000) (n := n) (k := 2) (by omega) (by omega)
  have hdx := mg_dg (B := 1000000000) (by omega) n
  have hvx := mg_val (B := 1000000000) (by omega) n
  generalize mg 1000000000 n = xs at *
  refine called_of_run tbOk 6 ⟨Tryz.func135, rfl, rfl, Nat.le_of_ble_eq_true rfl⟩ ?_
  (conv => whnf)
  refine V.st ?_
  refine lp_any (xs.length : Nat) (fun k => k ≤ xs.length) (fun k => k) (fun k => [(4, .int .i64 ((k : Int) - 1)), (3, .int .u64 (val 1000000000 (xs.drop k)))]) (fun _ => []) ?_ ?_ ?_
  · rw [List.drop_length]
    exact V.wk
  · exact Nat.le_refl _
  intro k hk
  (conv => whnf)
  refine V.st ?_
  refine Cnd.split (CondB.mk (fun hq => ?_) (fun hq => ?_))
  · rw [decide_eq_true_eq] at hq
    obtain ⟨j, rfl⟩ : ∃ j, k = j + 1 := ⟨k - 1, by omega⟩
    have hd := val_drop (B := 1000000000) (l := xs) (k := j) (by omega)
    have bx := dg_getD (by omega) hdx j
    have h0 := val_nonneg (dg_drop hdx (j + 1))
    have h1 := val_lt (dg_drop hdx (j + 1))
    rw [List.length_drop] at h1
    have h2 : (1000000000 : Nat) ^ (xs.length - (j + 1)) ≤ 1000000000 ^ 1 := Nat.pow_le_pow_right (by omega) (by omega)
    have h3 : ((1000000000 ^ (xs.length - (j + 1)) : Nat) : Int) ≤ ((1000000000 ^ 1 : Nat) : Int) := by exact_mod_cast h2
    rw [Int.natCast_pow] at h3
    have e2 : (((j + 1 : Nat) : Int) - 1) = (j : Int) := by omega
    generalize hx0 : xs.getD j 0 = x at *
    have e3 : val 1000000000 (xs.drop (j + 1)) * 1000000000 + x = val 1000000000 (xs.drop j) := by omega
    (conv => whnf)
    (try simp only [e2, Int.toNat_natCast, hx0, e3])
    repeat ((first | refine V.s1 ?_); (try simp only [e2, Int.toNat_natCast, hx0, e3]))
    exact ⟨j, by omega, by omega, V.wk⟩
  · rw [decide_eq_false_iff_not] at hq
    obtain rfl : k = 0 := by omega
    rw [List.drop_zero, hvx]
    (conv => whnf)
    refine V.st ?_
    exact Fin.of rfl
theorem fromSmall_c (n : Nat) (hn : n < 18446744073709551616) : Called Tryz.prog 136 [.int .u64 n] (.ints .u32 (mg 1000000000 n)) := by
  have hlen := mg_len_le (B := 1000000000) (n := n) (k := 3) (by omega) (by omega)
  refine called_of_run tbOk 6 ⟨Tryz.func136, rfl, rfl, Nat.le_of_ble_eq_true rfl⟩ ?_
  (conv => whnf)
  refine V.st ?_
  refine Lp.ghostSlot 13 3 .u32 (by decide) ?_
  (conv => whnf)
  refine lp_any ((n, []) : Nat × List Int) (fun s => val 1000000000 s.2 + ((1000000000 : Nat) : Int) ^ s.2.length * s.1 = n ∧ Dg 1000000000 s.2 ∧ s.1 ≤ n ∧ s.2.length + (mg 1000000000 s.1).length = (mg 1000000000 n).length ∧ (s.1 = 0 → s.2 = mg 1000000000 n)) (fun s => s.1) (fun s => [(0, .int .u64 s.1), (3, .osl 13 0 s.2.length)]) (fun s => [(13, .arr .u32 s.2)]) ?_ ?_ ?_
  · exact V.wk
  · exact ⟨by simp [val], fun x hx => by simp at hx, Nat.le_refl _, by simp, fun h => by dsimp only at h; rw [h]; rfl⟩
  rintro ⟨q, out⟩ ⟨h1, h2, h3, h4, h5⟩
  dsimp only at h1 h2 h3 h4 h5 ⊢
  (conv => whnf)
  refine V.st ?_
  refine Cnd.split (CondB.mk (fun hq => ?_) (fun hq => ?_))
  · rw [decide_eq_true_eq] at hq
    have hq0 : 0 < q := by omega
    have hmg := mg_pos (B := 1000000000) (by omega) hq0
    have hst := dig_step (B := 1000000000) (by omega) h1
    have hlt : q / 1000000000 < q := Nat.div_lt_self hq0 (by omega)
    have hdg : Dg 1000000000 (out ++ [((q % 1000000000 : Nat) : Int)]) := dg_append h2 (dg_one ⟨by omega, by have := Nat.mod_lt q (by omega : 1000000000 > 0); omega⟩)
    have e1 : (q : Int) % 1000000000 = ((q % 1000000000 : Nat) : Int) := by omega
    have e2 : (q : Int) / 1000000000 = ((q / 1000000000 : Nat) : Int) := by omega
    have hl2 : (out ++ [((q % 1000000000 : Nat) : Int)]).length = out.length + 1 := by simp
    have hl3 : out.length + (List.take 1 (List.drop 0 [((q % 1000000000 : Nat) : Int)])).length = (out ++ [((q % 1000000000 : Nat) : Int)]).length := by simp
    rw [hmg, List.length_cons] at h4
    have hmr := Nat.mod_lt q (by omega : 1000000000 > 0)
    (conv => whnf)
    (try simp only [e1, e2, hl3])
    repeat ((first | refine V.s1 ?_); (try simp only [e1, e2, hl3]))
    try refine And.intro (fun _ => ⟨trivial, by omega⟩) ?_
    (conv => whnf)
    (try simp only [e1, e2, hl3])
    repeat ((first | refine V.s1 ?_); (try simp only [e1, e2, hl3]))
    refine ⟨(q / 1000000000, out ++ [((q % 1000000000 : Nat) : Int)]), ⟨hst, hdg, by dsimp only; omega, by dsimp only; omega, fun h0 => ?_⟩, hlt, V.wk⟩
    dsimp only at h0 ⊢
    rw [h0, Int.natCast_zero, Int.mul_zero, Int.add_zero] at hst
    have := mg_of (B := 1000000000) (by omega) hdg (fun x hx => by
      rw [List.getLast?_append] at hx
      simp at hx
      omega)
    rw [hst, Int.toNat_natCast] at this
    exact this
  · rw [decide_eq_false_iff_not] at hq
    obtain rfl : q = 0 := by omega
    (conv => whnf)
    refine V.st ?_
    exact Fin.of (by rw [List.take_length, h5 rfl])
theorem isNaNi_c (n : Int) : Called Tryz.prog 166 [.int .i64 n] (.bool false) := by
  refine called_of_run tbOk 6 ⟨Tryz.func166, rfl, rfl, Nat.le_of_ble_eq_true rfl⟩ ?_
  (conv => whnf)
  refine V.st ?_
  exact Fin.of (by simp)
theorem isNaNu_c (n : Int) : Called Tryz.prog 167 [.int .u32 n] (.bool false) := by
  refine called_of_run tbOk 6 ⟨Tryz.func167, rfl, rfl, Nat.le_of_ble_eq_true rfl⟩ ?_
  (conv => whnf)
  refine V.st ?_
  exact Fin.of (by simp)
theorem cmpi_c (m n : Int) : Called Tryz.prog 146 [.int .i64 m, .int .i64 n] (.int .i64 (m - n).sign) := by
  have h1 := isNaNi_c m
  have h2 := isNaNi_c n
  refine called_of_run tbOk 6 ⟨Tryz.func146, rfl, rfl, Nat.le_of_ble_eq_true rfl⟩ ?_
  (conv => whnf)
  refine V.st ?_
  repeat ((try ((with_reducible refine .ext ?_); (conv => whnf))); (with_reducible refine call_intro (r := ?_) ?_ ?_); rotate_left; (focus (first | exact (h1) | exact (h2))); (conv => whnf); refine V.st ?_)
  refine Cnd.split (CondB.mk (fun hq => ?_) (fun hq => ?_))
  · rw [decide_eq_true_eq] at hq
    (conv => whnf)
    refine V.st ?_
    exact Fin.of (by rw [Int.sign_eq_neg_one_of_neg (by omega)])
  · rw [decide_eq_false_iff_not] at hq
    (conv => whnf)
    refine V.st ?_
    refine Cnd.split (CondB.mk (fun hq2 => ?_) (fun hq2 => ?_))
    · rw [decide_eq_true_eq] at hq2
      (conv => whnf)
      refine V.st ?_
      exact Fin.of (by rw [Int.sign_eq_one_of_pos (by omega)])
    · rw [decide_eq_false_iff_not] at hq2
      (conv => whnf)
      refine V.st ?_
      exact Fin.of (by rw [show m - n = 0 by omega]; rfl)
theorem cmpu_c (m n : Int) : Called Tryz.prog 147 [.int .u32 m, .int .u32 n] (.int .i64 (m - n).sign) := by
  have h1 := isNaNu_c m
  have h2 := isNaNu_c n
  refine called_of_run tbOk 6 ⟨Tryz.func147, rfl, rfl, Nat.le_of_ble_eq_true rfl⟩ ?_
  (conv => whnf)
  refine V.st ?_
  repeat ((try ((with_reducible refine .ext ?_); (conv => whnf))); (with_reducible refine call_intro (r := ?_) ?_ ?_); rotate_left; (focus (first | exact (h1) | exact (h2))); (conv => whnf); refine V.st ?_)
  refine Cnd.split (CondB.mk (fun hq => ?_) (fun hq => ?_))
  · rw [decide_eq_true_eq] at hq
    (conv => whnf)
    refine V.st ?_
    exact Fin.of (by rw [Int.sign_eq_neg_one_of_neg (by omega)])
  · rw [decide_eq_false_iff_not] at hq
    (conv => whnf)
    refine V.st ?_
    refine Cnd.split (CondB.mk (fun hq2 => ?_) (fun hq2 => ?_))
    · rw [decide_eq_true_eq] at hq2
      (conv => whnf)
      refine V.st ?_
      exact Fin.of (by rw [Int.sign_eq_one_of_pos (by omega)])
    · rw [decide_eq_false_iff_not] at hq2
      (conv => whnf)
      refine V.st ?_
      exact Fin.of (by rw [show m - n = 0 by omega]; rfl)
theorem compare_c (a b : Nat) (ha : (mg 1000000000 a).length ≤ 100000000) (hb : (mg 1000000000 b).length ≤ 100000000) : Called Tryz.prog 109 [.ints .u32 (mg 1000000000 a), .ints .u32 (mg 1000000000 b)] (.int .i64 ((a : Int) - b).sign) := by
  have hdx := mg_dg (B := 1000000000) (by omega) a
  have hdy := mg_dg (B := 1000000000) (by omega) b
  have hsg := ordV_signB (B := 1000000000) (by omega) a b
  generalize mg 1000000000 a = xs at *
  generalize mg 1000000000 b = ys at *
  have hsn : ((a : Int) - b).sign = (ordV xs ys).sign := by
    rcases Nat.lt_trichotomy a b with h | h | h
    · rw [Int.sign_eq_neg_one_of_neg (by omega), Int.sign_eq_neg_one_of_neg (by omega)]
    · rw [show (a : Int) - b = 0 by omega, show ordV xs ys = 0 by omega]
    · rw [Int.sign_eq_one_of_pos (by omega), Int.sign_eq_one_of_pos (by omega)]
  rw [hsn]
  have hc1 := cmpi_c (xs.length : Int) (ys.length : Int)
  refine called_of_run tbOk 6 ⟨Tryz.func109, rfl, rfl, Nat.le_of_ble_eq_true rfl⟩ ?_
  (conv => whnf)
  refine V.st ?_
  refine Cnd.split (CondB.mk (fun hq => ?_) (fun hq => ?_))
  · rw [decide_eq_true_eq] at hq
    (conv => whnf)
    refine V.st ?_
    repeat ((try ((with_reducible refine .ext ?_); (conv => whnf))); (with_reducible refine call_intro (r := ?_) ?_ ?_); rotate_left; (focus (first | exact (hc1))); (conv => whnf); refine V.st ?_)
    exact Fin.of (by unfold ordV; rw [if_neg (by omega)])
  · rw [decide_eq_false_iff_not] at hq
    have hq' : xs.length = ys.length := by omega
    have hov : ordV xs ys = ordR xs ys xs.length := by unfold ordV; rw [if_pos hq']
    rw [hov]
    (conv => whnf)
    refine V.st ?_
    refine lp_any (xs.length) (fun k => k ≤ xs.length ∧ ordR xs ys k = ordR xs ys xs.length) (fun k => k) (fun k => [(5, .int .i64 ((k : Int) - 1))]) (fun k => []) ?_ ?_ ?_
    · exact V.wk
    · exact ⟨Nat.le_refl _, rfl⟩
    intro k hk
    have bx := dg_getD (by omega) hdx (k - 1)
    have by' := dg_getD (by omega) hdy (k - 1)
    (conv => whnf)
    refine V.st ?_
    refine Cnd.split (CondB.mk (fun hz => ?_) (fun hz => ?_))
    · rw [decide_eq_true_eq] at hz
      obtain ⟨j, rfl⟩ : ∃ j, k = j + 1 := ⟨k - 1, by omega⟩
      have e2 : (((j + 1 : Nat) : Int) - 1) = (j : Int) := by omega
      have hr := hk.2
      rw [ordR] at hr
      rw [Nat.add_sub_cancel] at bx by'
      (conv => whnf)
      (try simp only [e2, Int.toNat_natCast])
      repeat ((first | refine V.s1 ?_); (try simp only [e2, Int.toNat_natCast]))
      refine ⟨(.take 0 (.take 1 (.take 2 (.take 3 (.take 4 (.take 5 (.take 6 (.take 7 (.take 8 (.done)))))))))), [], ⟨by kernel_rfl, by kernel_rfl, by kernel_rfl, by kernel_rfl⟩, .go (drawD_one ?_)⟩
      have hc2 := cmpu_c (xs.getD j 0) (ys.getD j 0)
      (conv => whnf)
      (try simp only [e2, Int.toNat_natCast])
      repeat ((first | refine V.s1 ?_); (try simp only [e2, Int.toNat_natCast]))
      refine Cnd.split (CondB.mk (fun hn => ?_) (fun hn => ?_))
      · rw [decide_eq_true_eq] at hn
        (conv => whnf)
        (try simp only [e2, Int.toNat_natCast])
        repeat ((first | refine V.s1 ?_); (try simp only [e2, Int.toNat_natCast]))
        refine ⟨(.take 0 (.take 1 (.take 2 (.take 3 (.take 4 (.take 5 (.take 6 (.take 7 (.ev (.cons 8 [] (.take 9 (.done)) (.nil))))))))))), [], ⟨by kernel_rfl, by kernel_rfl, by kernel_rfl, by kernel_rfl⟩, .go (drawD_one ?_)⟩
        (conv => whnf)
        (try simp only [e2, Int.toNat_natCast])
        repeat ((first | refine V.s1 ?_ | ((try ((with_reducible refine .ext ?_); (conv => whnf); (try simp only [e2, Int.toNat_natCast]))); (with_reducible refine call_intro (r := ?_) ?_ ?_); rotate_left; (focus (first | exact (hc2))); (conv => whnf))); (try simp only [e2, Int.toNat_natCast]))
        exact Fin.of (by rw [← hr, if_neg hn])
      · rw [decide_eq_false_iff_not] at hn
        rw [if_pos (by omega)] at hr
        (conv => whnf)
        (try simp only [e2])
        repeat ((first | refine V.s1 ?_); (try simp only [e2]))
        exact ⟨j, ⟨by omega, hr⟩, by omega, V.wk⟩
    · rw [decide_eq_false_iff_not] at hz
      obtain rfl : k = 0 := by omega
      (conv => whnf)
      refine V.st ?_
      exact Fin.of (by rw [← hk.2]; rfl)
end Go.Proofs.YtpcpgjcdkgcbpaaGreatDoor
end
section
namespace Go.Proofs.YtpcpgjcdkgcbpaaGreatDoor
open Go Go.V Go.Nb
theorem times_c (a b : Nat) (ha : (mg 1000000000 a).length ≤ 100000000) (hb : (mg 1000000000 b).length ≤ 100000000) : Called Tryz.prog 102 [.ints .u32 (mg 1000000000 a), .ints .u32 (mg 1000000000 b)] (.ints .u32 (mg 1000000000 (a * b))) := by
  have hdx := mg_dg (B := 1000000000) (by omega) a
  have hdy := mg_dg (B := 1000000000) (by omega) b
  have hvx := mg_val (B := 1000000000) (by omega) a
  have hvy := mg_val (B := 1000000000) (by omega) b
  generalize mg 1000000000 a = xs at *
  generalize mg 1000000000 b = ys at *
  have hmn : ((xs.length : Int) + (ys.length : Int)).toNat = xs.length + ys.length := by omega
  refine called_of_run tbOk 6 ⟨Tryz.func102, rfl, rfl, Nat.le_of_ble_eq_true rfl⟩ ?_
  (conv => whnf)
  (conv => whnf)
  (try simp only [hmn])
  repeat ((first | refine V.s1 ?_); (try simp only [hmn]))
  refine lp_any ((0, List.replicate (xs.length + ys.length) 0) : Nat × List Int) (fun s => s.1 ≤ xs.length ∧ s.2.length = xs.length + ys.length ∧ Dg 1000000000 s.2 ∧ (∀ k, s.1 + ys.length ≤ k → s.2.getD k 0 = 0) ∧ val 1000000000 s.2 = val 1000000000 (xs.take s.1) * val 1000000000 ys) (fun s => xs.length - s.1)
    (fun s => [(19, .int .i64 s.1), (5, .osl 16 0 (xs.length + ys.length))]) (fun s => [(16, .arr .u32 s.2)]) ?_ ?_ ?_
  · exact V.wk
  · exact ⟨Nat.zero_le _, by simp, dg_zeros (by omega) _, fun k _ => by simp [List.getD_eq_getElem?_getD, List.getElem?_replicate]; split <;> simp, by simp [val, val_zeros]⟩
  rintro ⟨i, out⟩ ⟨h1, h2, h3, h4, h5⟩
  dsimp only at h1 h2 h3 h4 h5 ⊢
  have vx := val_take_getD 1000000000 xs i
  have bx := dg_getD (by omega) hdx i
  generalize hx0 : xs.getD i 0 = x at *
  (conv => whnf)
  refine V.st ?_
  refine Cnd.split (CondB.mk (fun hq => ?_) (fun hq => ?_))
  · rw [decide_eq_true_eq] at hq
    (conv => whnf)
    (try simp only [Int.toNat_natCast, hx0])
    repeat ((first | refine V.s1 ?_); (try simp only [Int.toNat_natCast, hx0]))
    refine lp_any ((0, out, 0) : Nat × List Int × Int) (fun s => s.1 ≤ ys.length ∧ s.2.1.length = xs.length + ys.length ∧ Dg 1000000000 s.2.1 ∧ (∀ k, i + ys.length ≤ k → s.2.1.getD k 0 = 0) ∧ (0 ≤ s.2.2 ∧ s.2.2 < 1000000000) ∧ val 1000000000 s.2.1 + ((1000000000 : Nat) : Int) ^ (i + s.1) * s.2.2 = val 1000000000 (xs.take i) * val 1000000000 ys + ((1000000000 : Nat) : Int) ^ i * x * val 1000000000 (ys.take s.1)) (fun s => ys.length - s.1)
      (fun s => [(26, .int .i64 s.1), (8, .int .u64 s.2.2), (5, .osl 16 0 (xs.length + ys.length))]) (fun s => [(16, .arr .u32 s.2.1)]) ?_ ?_ ?_
    · exact V.wk
    · exact ⟨Nat.zero_le _, h2, h3, h4, by simp, by simp [val, h5]⟩
    rintro ⟨j, o, c⟩ ⟨g1, g2, g3, g4, g5, g6⟩
    dsimp only at g1 g2 g3 g4 g5 g6 ⊢
    have vy := val_take_getD 1000000000 ys j
    have by' := dg_getD (by omega) hdy j
    have bo := dg_getD (by omega) g3 (i + j)
    generalize hy0 : ys.getD j 0 = y at *
    generalize ho0 : o.getD (i + j) 0 = q at *
    have eij : ((i : Int) + (j : Int)).toNat = i + j := by omega
    have hxy : 0 ≤ x * y ∧ x * y ≤ 999999999 * 999999999 := ⟨Int.mul_nonneg (by omega) (by omega), Int.mul_le_mul (by omega) (by omega) (by omega) (by omega)⟩
    have hkj : ((j : Int) + 1) = ((j + 1 : Nat) : Int) := by omega
    have hki : ((i : Int) + 1) = ((i + 1 : Nat) : Int) := by omega
    have ein : ((i : Int) + (ys.length : Int)).toNat = i + ys.length := by omega
    (conv => whnf)
    refine V.st ?_
    refine Cnd.split (CondB.mk (fun hw => ?_) (fun hw => ?_))
    · rw [decide_eq_true_eq] at hw
      have hm : 0 ≤ (c + (q + x * y)) % 1000000000 ∧ (c + (q + x * y)) % 1000000000 < 1000000000 := ⟨Int.emod_nonneg _ (by omega), Int.emod_lt_of_pos _ (by omega)⟩
      have hc9 : 0 ≤ (c + (q + x * y)) / 1000000000 ∧ (c + (q + x * y)) / 1000000000 < 1000000000 := by omega
      have hst := prod_step (B := 1000000000) (x := x) (y := y) (q := q) (c := c) (d := (c + (q + x * y)) % 1000000000) (c' := (c + (q + x * y)) / 1000000000) (by omega) ho0 g6 (by have := Int.emod_add_mul_ediv (c + (q + x * y)) 1000000000; omega)
      rw [← vy] at hst
      (conv => whnf)
      (try simp only [eij, Nat.zero_add, Int.toNat_natCast, hx0, hy0, ho0, hkj])
      repeat ((first | refine V.s1 ?_); (try simp only [eij, Nat.zero_add, Int.toNat_natCast, hx0, hy0, ho0, hkj]))
      exact ⟨(j + 1, o.set (i + j) ((c + (q + x * y)) % 1000000000), (c + (q + x * y)) / 1000000000), ⟨by dsimp only; omega, by dsimp only; rw [List.length_set]; exact g2, dg_set g3 hm, fun k hk => by dsimp only; rw [getD_set_ne (by omega)]; exact g4 k hk, ⟨hc9.1, hc9.2⟩, hst⟩, by dsimp only; omega, V.wk⟩
    · rw [decide_eq_false_iff_not] at hw
      have hj : j = ys.length := by omega
      subst hj
      rw [List.take_length] at g6
      have hst := prod_end (B := 1000000000) (by omega) (g4 _ (Nat.le_refl _)) g6 hx0
      (conv => whnf)
      (try simp only [ein, Nat.zero_add, hki])
      repeat ((first | refine V.s1 ?_); (try simp only [ein, Nat.zero_add, hki]))
      exact ⟨(i + 1, o.set (i + ys.length) c), ⟨by dsimp only; omega, by dsimp only; rw [List.length_set]; exact g2, dg_set g3 ⟨g5.1, g5.2⟩, fun k hk => by dsimp only at hk ⊢; rw [getD_set_ne (by omega)]; exact g4 k (by omega), hst⟩, by dsimp only; omega, V.wk⟩
  · rw [decide_eq_false_iff_not] at hq
    rw [List.take_of_length_le (by omega), hvx, hvy, ← Int.natCast_mul] at h5
    have hc := trim_c out h3 (by omega)
    rw [h5, Int.toNat_natCast, ← List.take_length (l := out), h2] at hc
    (conv => whnf)
    refine V.st ?_
    repeat ((try ((with_reducible refine .ext ?_); (conv => whnf))); (with_reducible refine call_intro (r := ?_) ?_ ?_); rotate_left; (focus (first | exact (hc))); (conv => whnf); refine V.st ?_)
    exact Fin.of rfl
theorem short_c (a d : Nat) (ha : (mg 1000000000 a).length ≤ 100000000) (hd0 : 0 < d) (hd1 : d ≤ 1000000000) : Called Tryz.prog 137 [.ints .u32 (mg 1000000000 a), .int .u32 d] (.tup [.ints .u32 (mg 1000000000 (a / d)), .int .u32 (a % d : Nat)]) := by
  have hdx := mg_dg (B := 1000000000) (by omega) a
  have hvx := mg_val (B := 1000000000) (by omega) a
  generalize mg 1000000000 a = xs at *
  have hmn : ((xs.length : Int)).toNat = xs.length := by omega
  refine called_of_run tbOk 6 ⟨Tryz.func137, rfl, rfl, Nat.le_of_ble_eq_true rfl⟩ ?_
  (conv => whnf)
  (conv => whnf)
  (try simp only [hmn])
  repeat ((first | refine V.s1 ?_); (try simp only [hmn]))
  refine lp_any ((xs.length, List.replicate xs.length 0, 0) : Nat × List Int × Int) (fun s => s.1 ≤ xs.length ∧ s.2.1.length = xs.length ∧ Dg 1000000000 s.2.1 ∧ (0 ≤ s.2.2 ∧ s.2.2 < d) ∧ val 1000000000 (xs.drop s.1) = val 1000000000 (s.2.1.drop s.1) * d + s.2.2) (fun s => s.1)
    (fun s => [(8, .int .i64 ((s.1 : Int) - 1)), (7, .int .u64 s.2.2), (6, .osl 11 0 xs.length)]) (fun s => [(11, .arr .u32 s.2.1)]) ?_ ?_ ?_
  · exact V.wk
  · exact ⟨Nat.le_refl _, by simp, dg_zeros (by omega) _, ⟨by simp, by dsimp only; omega⟩, by simp [val]⟩
  rintro ⟨k, out, r⟩ ⟨h1, h2, h3, h4, h5⟩
  dsimp only at h1 h2 h3 h4 h5 ⊢
  (conv => whnf)
  refine V.st ?_
  refine Cnd.split (CondB.mk (fun hq => ?_) (fun hq => ?_))
  · rw [decide_eq_true_eq] at hq
    obtain ⟨j, rfl⟩ : ∃ j, k = j + 1 := ⟨k - 1, by omega⟩
    have hj : j < xs.length := by omega
    have bx := dg_getD (by omega) hdx j
    generalize hx0 : xs.getD j 0 = x at *
    have e2 : (((j + 1 : Nat) : Int) - 1) = (j : Int) := by omega
    have hb : 0 ≤ (r * 1000000000 + x) / (d : Int) ∧ (r * 1000000000 + x) / (d : Int) < 1000000000 ∧ 0 ≤ (r * 1000000000 + x) % (d : Int) ∧ (r * 1000000000 + x) % (d : Int) < d := once_bounds (B := 1000000000) (by omega : (0 : Int) < d) h4 bx
    have hst := once_step (B := 1000000000) hj (by omega) hx0 h5 (t := r * 1000000000 + x) rfl
    have hr0 : 0 ≤ r * 1000000000 + x := by omega
    (conv => whnf)
    (try simp only [e2, Nat.zero_add, Int.toNat_natCast, hx0])
    repeat ((first | refine V.s1 ?_); (try simp only [e2, Nat.zero_add, Int.toNat_natCast, hx0]))
    exact ⟨(j, out.set j ((r * 1000000000 + x) / d), (r * 1000000000 + x) % d), ⟨by dsimp only; omega, by dsimp only; rw [List.length_set]; exact h2, dg_set h3 ⟨hb.1, hb.2.1⟩, ⟨hb.2.2.1, hb.2.2.2⟩, hst⟩, by dsimp only; omega, V.wk⟩
  · rw [decide_eq_false_iff_not] at hq
    obtain rfl : k = 0 := by omega
    rw [List.drop_zero, List.drop_zero, hvx] at h5
    have hvq := val_nonneg h3
    obtain ⟨w, hw⟩ : ∃ w : Nat, val 1000000000 out = w := ⟨(val 1000000000 out).toNat, by omega⟩
    obtain ⟨r', rfl⟩ : ∃ r' : Nat, r = r' := ⟨r.toNat, by omega⟩
    rw [hw, ← Int.natCast_mul] at h5
    have h6 : a = w * d + r' := by omega
    have e8 : a / d = w := by rw [h6, Nat.add_comm, Nat.add_mul_div_right _ _ hd0, Nat.div_eq_of_lt (by omega), Nat.zero_add]
    have e9 : a % d = r' := by rw [h6, Nat.add_comm, Nat.add_mul_mod_self_right, Nat.mod_eq_of_lt (by omega)]
    have hc := trim_c out h3 (by omega)
    rw [hw, Int.toNat_natCast, ← List.take_length (l := out), h2] at hc
    (conv => whnf)
    refine V.st ?_
    repeat ((try ((with_reducible refine .ext ?_); (conv => whnf))); (with_reducible refine call_intro (r := ?_) ?_ ?_); rotate_left; (focus (first | exact (hc))); (conv => whnf); refine V.st ?_)
    exact Fin.of (by rw [e8, e9])
theorem length_c (n : Nat) (hn : (mg 1000000000 n).length ≤ 100000000) : Called Tryz.prog 111 [.ints .u32 (mg 1000000000 n)] (.int .i64 (dec n).length) := by
  have hz := zero_c n
  have hdx := mg_dg (B := 1000000000) (by omega) n
  have hvx := mg_val (B := 1000000000) (by omega) n
  have hlx := mg_last (B := 1000000000) (n := n) (by omega)
  have hnil := mg_nil (B := 1000000000) (n := n) (by omega)
  generalize mg 1000000000 n = xs at *
  refine called_of_run tbOk 6 ⟨Tryz.func111, rfl, rfl, Nat.le_of_ble_eq_true rfl⟩ ?_
  (conv => whnf)
  refine V.st ?_
  repeat ((try ((with_reducible refine .ext ?_); (conv => whnf))); (with_reducible refine call_intro (r := ?_) ?_ ?_); rotate_left; (focus (first | exact (hz))); (conv => whnf); refine V.st ?_)
  refine Cnd.split (CondB.mk (fun hq => ?_) (fun hq => ?_))
  · rw [decide_eq_true_eq] at hq
    subst hq
    (conv => whnf)
    refine V.st ?_
    exact Fin.of rfl
  · rw [decide_eq_false_iff_not] at hq
    obtain ⟨j, hj⟩ : ∃ j, xs.length = j + 1 := ⟨xs.length - 1, by
      have : xs ≠ [] := fun e => hq (hnil.1 e)
      have := List.length_pos_iff.2 this
      omega⟩
    have bx := dg_getD (by omega) hdx j
    have hd := val_drop (B := 1000000000) (l := xs) (k := j) (by omega)
    have hnil2 : xs.drop (j + 1) = [] := List.drop_eq_nil_of_le (by omega)
    rw [hnil2] at hd
    have hsp := val_split 1000000000 xs j (by omega)
    have hlo := val_lt (dg_take hdx j)
    have hlo0 := val_nonneg (dg_take hdx j)
    rw [List.length_take, Nat.min_eq_left (by omega)] at hlo
    have hx1 : xs.getD j 0 ≠ 0 := by
      refine hlx _ ?_
      rw [List.getLast?_eq_getElem?, hj, List.getD_eq_getElem?_getD, show j + 1 - 1 = j by omega, List.getElem?_eq_getElem (by omega)]; rfl
    generalize hx0 : xs.getD j 0 = x at *
    obtain ⟨d, rfl⟩ : ∃ d : Nat, x = d := ⟨x.toNat, by omega⟩
    rw [hd, hvx] at hsp
    obtain ⟨w, hw⟩ : ∃ w : Nat, val 1000000000 (xs.take j) = w := ⟨(val 1000000000 (xs.take j)).toNat, by omega⟩
    have hnw : n = d * 10 ^ (9 * j) + w := by
      have e : ((10 ^ (9 * j) : Nat) : Int) = ((1000000000 : Nat) : Int) ^ j := by rw [Nat.pow_mul, Int.natCast_pow]
      simp only [val, Int.mul_zero, Int.add_zero] at hsp
      rw [hw, ← e, ← Int.natCast_mul, Nat.mul_comm] at hsp
      omega
    have hwl : w < 10 ^ (9 * j) := by
      rw [Nat.pow_mul]
      rw [hw, ← Int.natCast_pow] at hlo
      exact_mod_cast hlo
    have hdp := dec_pad (a := d) (by omega) (9 * j) w hwl
    rw [← hnw] at hdp
    have hlen : (dec n).length = (dec d).length + 9 * j := by rw [hdp, List.length_append, pad_length]
    have hi := itoa_c (d : Int)
    have hdz : decZ (d : Int) = dec d := by unfold decZ; rw [if_neg (by omega), Int.natAbs_natCast]
    rw [hdz] at hi
    have e1 : ((xs.length : Int) - 1) = (j : Int) := by omega
    have hdl := dec_len d 9 (by omega) (by omega)
    (conv => whnf)
    (try simp only [e1, Int.toNat_natCast, hx0])
    repeat ((first | refine V.s1 ?_ | ((try ((with_reducible refine .ext ?_); (conv => whnf); (try simp only [e1, Int.toNat_natCast, hx0]))); (with_reducible refine call_intro (r := ?_) ?_ ?_); rotate_left; (focus (first | exact (hi))); (conv => whnf))); (try simp only [e1, Int.toNat_natCast, hx0]))
    exact Fin.of (by rw [hlen]; congr 1; omega)
end Go.Proofs.YtpcpgjcdkgcbpaaGreatDoor
end
