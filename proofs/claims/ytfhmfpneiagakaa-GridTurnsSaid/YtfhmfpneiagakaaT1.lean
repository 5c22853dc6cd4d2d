/- What some functions of the program answer at values that mean given lists and numbers, each proved of the program's own code. Conditions: those that each theorem names. -/
import Derived.Test.YtfhmfpneiagakaaTb
import Derived.Test.YtfhmfpneiagakaaV9
set_option linter.unusedSimpArgs false
set_option linter.unusedVariables false
set_option maxHeartbeats 8000000
set_option maxRecDepth 100000
namespace Go.Proofs.Ytfhmfpneiagakaa
open Go Go.V
theorem within_c (n l h : Int) : Called Try.prog 39 [.int .i64 n, .int .i64 l, .int .i64 h] (.bool (decide (l ≤ n) && decide (n ≤ h))) := by
  refine called_of_run tbOk 6 ⟨Try.func39, rfl, rfl, Nat.le_of_ble_eq_true rfl⟩ ?_
  (conv => whnf)
  refine V.st ?_
  exact Fin.same _
theorem rwithin_c (n l h : Int) : Called Try.prog 42 [.int .i64 n, .int .i64 l, .int .i64 h] (.bool (decide (l ≤ n) && decide (n ≤ h))) := by
  refine called_of_run tbOk 6 ⟨Try.func42, rfl, rfl, Nat.le_of_ble_eq_true rfl⟩ ?_
  (conv => whnf)
  refine V.st ?_
  exact Fin.same _

def prod (xs : List Int) : Int := xs.foldl (· * ·) 1
theorem prod_take_succ {xs : List Int} {k : Nat} {x : Int} (h : xs[k]? = some x) : prod (xs.take (k + 1)) = prod (xs.take k) * x := by
  rw [List.take_add_one, h]; simp [prod]
theorem product_c (xs : List Int) (hx : ∀ k, k ≤ xs.length → InR .i64 (prod (xs.take k))) (hl : xs.length ≤ 281474976710656) : Called Try.prog 46 [.ints .i64 xs] (.int .i64 (prod xs)) := by
  refine called_of_run tbOk 6 ⟨Try.func46, rfl, rfl, Nat.le_of_ble_eq_true rfl⟩ ?_
  (conv => whnf)
  refine lp_go (xs.length) (fun k => True) (fun k => [(3, .int .i64 (prod (xs.take k))), (8, .int .i64 k)]) (fun k => []) V.wk ?_ ?_
  · trivial
  intro k hk _
  (conv => whnf)
  refine V.st ?_
  refine Cnd.split (CondB.mk (fun h => ?_) (fun h => ?_))
  · simp only [decide_eq_true_eq] at h
    obtain ⟨x, hx1, ex⟩ := getx (xs := xs) (k := k) (by omega)
    have hp := prod_take_succ hx1
    have hr := hx (k + 1) (by omega)
    (conv => whnf)
    refine V.st ?_
    rw [ex, ← hp]
    refine V.st ?_
    exact ⟨k + 1, ⟨by omega, trivial⟩, by omega, V.wk⟩
  · simp only [decide_eq_false_iff_not] at h
    (conv => whnf)
    refine V.st ?_
    have : prod (xs.take k) = prod xs := by rw [List.take_of_length_le (by omega)]
    rw [this]
    exact Fin.same _
theorem points_c (xs : List Int) (hx : ∀ k, k ≤ xs.length → InR .i64 (prod (xs.take k))) (hl : xs.length ≤ 281474976710656) : Called Try.prog 43 [.ints .i64 xs] (.int .i64 (prod xs)) := by
  refine called_of_run tbOk 6 ⟨Try.func43, rfl, rfl, Nat.le_of_ble_eq_true rfl⟩ ?_
  (conv => whnf)
  refine lp_go (xs.length) (fun k => True) (fun k => [(3, .int .i64 (prod (xs.take k))), (4, .int .i64 k)]) (fun k => []) V.wk ?_ ?_
  · trivial
  intro k hk _
  (conv => whnf)
  refine V.st ?_
  refine Cnd.split (CondB.mk (fun h => ?_) (fun h => ?_))
  · simp only [decide_eq_true_eq] at h
    obtain ⟨x, hx1, ex⟩ := getx (xs := xs) (k := k) (by omega)
    have hp := prod_take_succ hx1
    have hr := hx (k + 1) (by omega)
    (conv => whnf)
    refine V.st ?_
    rw [ex, ← hp]
    refine V.st ?_
    exact ⟨k + 1, ⟨by omega, trivial⟩, by omega, V.wk⟩
  · simp only [decide_eq_false_iff_not] at h
    (conv => whnf)
    refine V.st ?_
    have : prod (xs.take k) = prod xs := by rw [List.take_of_length_le (by omega)]
    rw [this]
    exact Fin.same _
theorem ints_c (xs ys : List Int) (hl : xs.length ≤ 281474976710656) (hm : ys.length ≤ 281474976710656) : Called Try.prog 45 [.ints .i64 xs, .ints .i64 ys] (.bool (decide (xs = ys))) := by
  refine called_of_run tbOk 6 ⟨Try.func45, rfl, rfl, Nat.le_of_ble_eq_true rfl⟩ ?_
  (conv => whnf)
  refine Cnd.split (CondB.mk (fun h => ?_) (fun h => ?_))
  · have hne : xs ≠ ys := fun e => by subst e; simp at h
    (conv => whnf)
    refine V.st ?_
    exact Fin.of (by simp [hne])
  have hle : xs.length = ys.length := by simp at h; omega
  clear h
  (conv => whnf)
  refine V.st ?_
  refine lp_go (xs.length) (fun k => xs.take k = ys.take k) (fun k => [(5, .int .i64 k)]) (fun k => []) V.wk ?_ ?_
  · rfl
  intro k hk hI
  (conv => whnf)
  refine V.st ?_
  refine Cnd.split (CondB.mk (fun h => ?_) (fun h => ?_))
  · simp only [decide_eq_true_eq] at h
    obtain ⟨x, hx1, ex⟩ := getx (xs := xs) (k := k) (by omega)
    obtain ⟨y, hy1, ey⟩ := getx (xs := ys) (k := k) (by omega)
    (conv => whnf)
    refine V.st ?_
    refine ⟨(.take 0 (.take 1 (.take 2 (.take 3 (.take 4 (.take 5 (.take 6 (.take 7 (.take 8 (.done)))))))))), ⟨by kernel_rfl, by kernel_rfl, by kernel_rfl⟩, .go ?_⟩
    (conv => whnf)
    refine V.st ?_
    rw [ex, ey]
    refine Cnd.split (CondB.mk (fun hb => ?_) (fun hb => ?_))
    · have hne : xs ≠ ys := fun e => by subst e; rw [hx1] at hy1; cases hy1; simp at hb
      (conv => whnf)
      refine V.st ?_
      exact Fin.of (by simp [hne])
    · have hxy : x = y := by simpa using hb
      (conv => whnf)
      refine V.st ?_
      exact ⟨k + 1, ⟨by omega, (by rw [List.take_add_one, List.take_add_one, hI, hx1, hy1, hxy])⟩, by omega, V.wk⟩
  · simp only [decide_eq_false_iff_not] at h
    have : xs = ys := by rw [← List.take_of_length_le (l := xs) (i := k) (by omega), ← List.take_of_length_le (l := ys) (i := k) (by omega), hI]
    (conv => whnf)
    refine V.st ?_
    exact Fin.of (by simp [this])
theorem equal_c (xs ys : List Int) (hl : xs.length ≤ 281474976710656) (hm : ys.length ≤ 281474976710656) : Called Try.prog 17 [.ints .i64 xs, .ints .i64 ys] (.bool (decide (xs = ys))) := by
  refine called_of_run tbOk 6 ⟨Try.func17, rfl, rfl, Nat.le_of_ble_eq_true rfl⟩ ?_
  (conv => whnf)
  refine Cnd.split (CondB.mk (fun h => ?_) (fun h => ?_))
  · have hne : xs ≠ ys := fun e => by subst e; simp at h
    (conv => whnf)
    refine V.st ?_
    exact Fin.of (by simp [hne])
  have hle : xs.length = ys.length := by simp at h; omega
  clear h
  (conv => whnf)
  refine V.st ?_
  refine lp_go (xs.length) (fun k => xs.take k = ys.take k) (fun k => [(13, .int .i64 k)]) (fun k => []) V.wk ?_ ?_
  · rfl
  intro k hk hI
  (conv => whnf)
  refine V.st ?_
  refine Cnd.split (CondB.mk (fun h => ?_) (fun h => ?_))
  · simp only [decide_eq_true_eq] at h
    obtain ⟨x, hx1, ex⟩ := getx (xs := xs) (k := k) (by omega)
    obtain ⟨y, hy1, ey⟩ := getx (xs := ys) (k := k) (by omega)
    (conv => whnf)
    refine V.st ?_
    refine ⟨(.take 0 (.take 1 (.take 2 (.take 3 (.take 4 (.take 5 (.take 6 (.take 7 (.take 8 (.done)))))))))), ⟨by kernel_rfl, by kernel_rfl, by kernel_rfl⟩, .go ?_⟩
    (conv => whnf)
    refine V.st ?_
    rw [ex, ey]
    refine Cnd.split (CondB.mk (fun hb => ?_) (fun hb => ?_))
    · have hne : xs ≠ ys := fun e => by subst e; rw [hx1] at hy1; cases hy1; simp at hb
      (conv => whnf)
      refine V.st ?_
      exact Fin.of (by simp [hne])
    · have hxy : x = y := by simpa using hb
      (conv => whnf)
      refine V.st ?_
      exact ⟨k + 1, ⟨by omega, (by rw [List.take_add_one, List.take_add_one, hI, hx1, hy1, hxy])⟩, by omega, V.wk⟩
  · simp only [decide_eq_false_iff_not] at h
    have : xs = ys := by rw [← List.take_of_length_le (l := xs) (i := k) (by omega), ← List.take_of_length_le (l := ys) (i := k) (by omega), hI]
    (conv => whnf)
    refine V.st ?_
    exact Fin.of (by simp [this])
theorem clone_c (xs : List Int) (hl : xs.length ≤ 17592186044416) : Called Try.prog 12 [.ints .i64 xs] (.ints .i64 xs) := by
  refine called_of_run tbOk 6 ⟨Try.func12, rfl, rfl, Nat.le_of_ble_eq_true rfl⟩ ?_
  (conv => whnf)
  refine ⟨fun h => ?_, fun _ => ?_⟩
  · have hx := h rfl
    subst hx
    (conv => whnf)
    refine V.st ?_
    exact Fin.nil _
  · (conv => whnf)
    refine ⟨fun _ => ⟨rfl, by simpa using hl⟩, ?_⟩
    (conv => whnf)
    exact Fin.of (by simp)
end Go.Proofs.Ytfhmfpneiagakaa
