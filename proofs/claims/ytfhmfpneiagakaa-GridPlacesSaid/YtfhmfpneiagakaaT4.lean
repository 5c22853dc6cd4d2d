/- What some functions of the program answer at values that mean given lists and numbers, each proved of the program's own code. Conditions: those that each theorem names. -/
import Derived.Test.YtfhmfpneiagakaaT1
set_option linter.unusedSimpArgs false
set_option linter.unusedVariables false
set_option maxHeartbeats 8000000
set_option maxRecDepth 100000
namespace Go.Proofs.Ytfhmfpneiagakaa
open Go Go.V
def gridD (size : List Int) (out : Int) (data : List Int) : D := .agg [.ints .i64 size, .int .i64 out, .ints .i64 data]
def okGrid (size : List Int) (out : Int) (data : List Int) : Bool :=
  decide (1 ≤ size.length ∧ size.length ≤ 4) && decide (1 ≤ out ∧ out ≤ 4) && size.all (fun n => decide (2 ≤ n ∧ n ≤ 9)) && decide ((data.length : Int) ≤ 4096 ∧ (data.length : Int) = prod size * out) && data.all fun v => decide (0 ≤ v ∧ v ≤ 65535)
theorem okGrid_size {size : List Int} {out : Int} {data : List Int} {k : Nat} {x : Int} (hx : size[k]? = some x) (h : ¬ (2 ≤ x ∧ x ≤ 9)) : okGrid size out data = false := by
  have hm : x ∈ size := List.mem_of_getElem? hx
  have : size.all (fun n => decide (2 ≤ n ∧ n ≤ 9)) = false := by
    rw [List.all_eq_false]; exact ⟨x, hm, by simpa using h⟩
  unfold okGrid; rw [this]; simp only [Bool.and_false, Bool.false_and]
theorem okGrid_data {size : List Int} {out : Int} {data : List Int} {k : Nat} {x : Int} (hx : data[k]? = some x) (h : ¬ (0 ≤ x ∧ x ≤ 65535)) : okGrid size out data = false := by
  have hm : x ∈ data := List.mem_of_getElem? hx
  have : data.all (fun v => decide (0 ≤ v ∧ v ≤ 65535)) = false := by
    rw [List.all_eq_false]; exact ⟨x, hm, by simpa using h⟩
  unfold okGrid; rw [this]; simp only [Bool.and_false, Bool.false_and]
theorem prod_bd {size : List Int} (hall : size.all (fun n => decide (2 ≤ n ∧ n ≤ 9)) = true) (k : Nat) : 0 ≤ prod (size.take k) ∧ (size.length ≤ 4 → prod (size.take k) ≤ 6561) ∧ (size.length ≤ 4 → InR .i64 (prod (size.take k))) := by
  have hb : ∀ l : List Int, (∀ n ∈ l, 2 ≤ n ∧ n ≤ 9) → ∀ a : Int, 0 ≤ a → 0 ≤ l.foldl (· * ·) a ∧ l.foldl (· * ·) a ≤ a * 9 ^ l.length := by
    intro l
    induction l with
    | nil => intro _ a ha; simp; exact ha
    | cons x l ih =>
      intro hl a ha
      have hx := hl x (by simp)
      have h1 : 0 ≤ a * x := Int.mul_nonneg ha (by omega)
      have h2 := ih (fun n hn => hl n (by simp [hn])) (a * x) h1
      refine ⟨h2.1, Int.le_trans h2.2 ?_⟩
      have h3 : a * x ≤ a * 9 := Int.mul_le_mul_of_nonneg_left hx.2 ha
      have h4 : a * x * 9 ^ l.length ≤ a * 9 * 9 ^ l.length := Int.mul_le_mul_of_nonneg_right h3 (Int.pow_nonneg (by omega))
      have h5 : a * 9 ^ (x :: l).length = a * 9 * 9 ^ l.length := by
        rw [List.length_cons, Int.pow_succ, Int.mul_comm _ 9, ← Int.mul_assoc]
      rw [h5]; exact h4
  simp only [List.all_eq_true, decide_eq_true_eq] at hall
  have h1 := hb (size.take k) (fun n hn => hall n (List.mem_of_mem_take hn)) 1 (by omega)
  have h2 : size.length ≤ 4 → prod (size.take k) ≤ 6561 := by
    intro h
    refine Int.le_trans h1.2 ?_
    have : (size.take k).length ≤ 4 := by simp; omega
    generalize (size.take k).length = m at this
    match m, this with
    | 0, _ => decide
    | 1, _ => decide
    | 2, _ => decide
    | 3, _ => decide
    | 4, _ => decide
    | m + 5, h => omega
  refine ⟨h1.1, h2, fun h => ?_⟩
  have h3 := h2 h
  have h4 := h1.1
  simp only [V.InR, lo, hi]
  simp only [prod] at *
  omega
theorem prodm_bd {size : List Int} {out : Int} (hall : size.all (fun n => decide (2 ≤ n ∧ n ≤ 9)) = true) (h1 : size.length ≤ 4) (h2 : 1 ≤ out ∧ out ≤ 4) : InR .i64 (prod size * out) := by
  have h3 := prod_bd hall size.length
  rw [List.take_length] at h3
  have h4 : prod size ≤ 6561 := h3.2.1 h1
  have h5 : 0 ≤ prod size * out := Int.mul_nonneg h3.1 (by omega)
  have h6 : prod size * out ≤ 6561 * 4 := Int.mul_le_mul h4 h2.2 (by omega) (by omega)
  simp only [V.InR, lo, hi]; omega
theorem check_c (size : List Int) (out : Int) (data : List Int) (hs : size.length ≤ 281474976710656) (hd : data.length ≤ 281474976710656) :
    Called Try.prog 25 [gridD size out data] (.int .i64 (if okGrid size out data then 0 else 100)) := by
  refine called_of_run tbOk 6 ⟨Try.func25, rfl, rfl, Nat.le_of_ble_eq_true rfl⟩ ?_
  (conv => whnf)
  refine V.st ?_
  repeat ((try ((with_reducible refine .ext ?_); (conv => whnf))); (with_reducible refine call_intro (r := ?_) ?_ ?_); rotate_left; (focus (first | exact (within_c _ _ _))); (conv => whnf); refine V.st ?_)
  refine Cnd.split (CondB.mk (fun h => ?_) (fun h => ?_))
  · (conv => whnf)
    refine V.st ?_
    refine Fin.of ?_
    have : okGrid size out data = false := by
      simp only [okGrid]
      simp at h
      simp
      omega
    rw [this]; rfl
  have h1 : 1 ≤ size.length ∧ size.length ≤ 4 ∧ 1 ≤ out ∧ out ≤ 4 := by
    simp at h; omega
  clear h
  (conv => whnf)
  refine V.st ?_
  refine lp_inv size.length (fun k => (size.take k).all (fun n => decide (2 ≤ n ∧ n ≤ 9)) = true) (fun k => [(1, .box 1 0), (19, .ints .i64 size), (20, .int .i64 size.length), (21, .int .i64 k)]) (fun _ => [(1, .box [.ints .i64 size, .int .i64 out, .ints .i64 data])]) ?_ rfl ?_
  · exact Wk.of ⟨rfl, rfl, rfl, rfl, trivial⟩ ⟨rfl, trivial⟩
  intro k hk hI
  (conv => whnf)
  refine V.st ?_
  refine Cnd.split (CondB.mk (fun h => ?_) (fun h => ?_))
  · simp only [decide_eq_true_eq] at h
    obtain ⟨x, hx1⟩ : ∃ x, size[k]? = some x := ⟨size[k], List.getElem?_eq_getElem (by omega)⟩
    have ex := V.getD_toNat size k x hx1
    (conv => whnf)
    refine V.st ?_
    repeat ((try ((with_reducible refine .ext ?_); (conv => whnf))); (with_reducible refine call_intro (r := ?_) ?_ ?_); rotate_left; (focus (first | exact (within_c _ _ _))); (conv => whnf); refine V.st ?_)
    rw [ex]
    refine Cnd.split (CondB.mk (fun h => ?_) (fun h => ?_))
    · (conv => whnf)
      refine V.st ?_
      refine Fin.of ?_
      rw [okGrid_size hx1 (by simp at h; omega)]; rfl
    · (conv => whnf)
      refine V.st ?_
      exact ⟨k + 1, ⟨by omega, by rw [List.take_add_one, List.all_append, hI, hx1]; simp at h ⊢; omega⟩, by omega, Wk.of ⟨rfl, rfl, rfl, rfl, trivial⟩ ⟨rfl, trivial⟩⟩
  · (conv => whnf)
    refine V.st ?_
    simp only [decide_eq_false_iff_not] at h
    have hall : size.all (fun n => decide (2 ≤ n ∧ n ≤ 9)) = true := by rw [← hI, List.take_of_length_le (by omega)]
    have hp := prod_bd hall
    have hm := prodm_bd hall h1.2.1 h1.2.2
    refine ⟨(.take 0 (.take 1 (.take 2 (.take 3 (.take 4 (.take 5 (.take 6 (.take 7 (.take 8 (.take 9 (.take 11 (.take 12 (.ev (.cons 10 [12, 11, 7, 6, 5] (.take 13 (.take 14 (.take 15 (.done)))) (.nil))))))))))))))), ⟨by kernel_rfl, by kernel_rfl, by kernel_rfl⟩, .go ?_⟩
    (conv => whnf)
    refine V.st ?_
    repeat ((try ((with_reducible refine .ext ?_); (conv => whnf))); (with_reducible refine call_intro (r := ?_) ?_ ?_); rotate_left; (focus (first | exact (product_c _ (fun k _ => (hp k).2.2 h1.2.1) hs))); (conv => whnf); refine V.st ?_)
    refine Cnd.split (CondB.mk (fun h => ?_) (fun h => ?_))
    · (conv => whnf)
      refine V.st ?_
      refine Fin.of ?_
      have : okGrid size out data = false := by
        unfold okGrid
        have : (decide ((data.length : Int) ≤ 4096 ∧ (data.length : Int) = prod size * out)) = false := by simp at h ⊢; omega
        rw [this]; simp
      rw [this]; rfl
    have h2 : (data.length : Int) ≤ 4096 ∧ (data.length : Int) = prod size * out := by simp at h; omega
    clear h
    (conv => whnf)
    refine V.st ?_
    refine lp_inv data.length (fun k => (data.take k).all (fun v => decide (0 ≤ v ∧ v ≤ 65535)) = true) (fun k => [(1, .box 1 0), (46, .ints .i64 data), (47, .int .i64 data.length), (48, .int .i64 k)]) (fun _ => [(1, .box [.ints .i64 size, .int .i64 out, .ints .i64 data])]) ?_ rfl ?_
    · exact Wk.of ⟨rfl, rfl, rfl, rfl, trivial⟩ ⟨rfl, trivial⟩
    intro k hk hI
    (conv => whnf)
    refine V.st ?_
    refine Cnd.split (CondB.mk (fun h => ?_) (fun h => ?_))
    · simp only [decide_eq_true_eq] at h
      obtain ⟨x, hx1⟩ : ∃ x, data[k]? = some x := ⟨data[k], List.getElem?_eq_getElem (by omega)⟩
      have ex := V.getD_toNat data k x hx1
      (conv => whnf)
      refine V.st ?_
      repeat ((try ((with_reducible refine .ext ?_); (conv => whnf))); (with_reducible refine call_intro (r := ?_) ?_ ?_); rotate_left; (focus (first | exact (within_c _ _ _))); (conv => whnf); refine V.st ?_)
      rw [ex]
      refine Cnd.split (CondB.mk (fun h => ?_) (fun h => ?_))
      · (conv => whnf)
        refine V.st ?_
        refine Fin.of ?_
        rw [okGrid_data hx1 (by simp at h; omega)]; rfl
      · (conv => whnf)
        refine V.st ?_
        exact ⟨k + 1, ⟨by omega, by rw [List.take_add_one, List.all_append, hI, hx1]; simp at h ⊢; omega⟩, by omega, Wk.of ⟨rfl, rfl, rfl, rfl, trivial⟩ ⟨rfl, trivial⟩⟩
    · (conv => whnf)
      refine V.st ?_
      simp only [decide_eq_false_iff_not] at h
      have hall2 : data.all (fun v => decide (0 ≤ v ∧ v ≤ 65535)) = true := by rw [← hI, List.take_of_length_le (by omega)]
      have : okGrid size out data = true := by
        unfold okGrid
        rw [hall, hall2]; simp; omega
      refine Fin.of ?_
      rw [this]; rfl

theorem right_c (size : List Int) (out : Int) (data : List Int) (hs : size.length ≤ 281474976710656) (hd : data.length ≤ 281474976710656) :
    Called Try.prog 36 [gridD size out data] (.bool (okGrid size out data)) := by
  refine called_of_run tbOk 6 ⟨Try.func36, rfl, rfl, Nat.le_of_ble_eq_true rfl⟩ ?_
  (conv => whnf)
  refine V.st ?_
  repeat ((try ((with_reducible refine .ext ?_); (conv => whnf))); (with_reducible refine call_intro (r := ?_) ?_ ?_); rotate_left; (focus (first | exact (rwithin_c _ _ _))); (conv => whnf); refine V.st ?_)
  refine Cnd.split (CondB.mk (fun h => ?_) (fun h => ?_))
  · (conv => whnf)
    refine V.st ?_
    refine Fin.of ?_
    have : okGrid size out data = false := by
      simp only [okGrid]
      simp at h
      simp
      omega
    rw [this]
  have h1 : 1 ≤ size.length ∧ size.length ≤ 4 ∧ 1 ≤ out ∧ out ≤ 4 := by
    simp at h; omega
  clear h
  (conv => whnf)
  refine V.st ?_
  refine lp_go (size.length) (fun k => (size.take k).all (fun n => decide (2 ≤ n ∧ n ≤ 9)) = true) (fun k => [(3, .int .i64 k)]) (fun k => []) V.wk ?_ ?_
  · rfl
  intro k hk hI
  (conv => whnf)
  refine V.st ?_
  refine Cnd.split (CondB.mk (fun h => ?_) (fun h => ?_))
  · simp only [decide_eq_true_eq] at h
    obtain ⟨x, hx1, ex⟩ := getx (xs := size) (k := k) (by omega)
    (conv => whnf)
    refine V.st ?_
    repeat ((try ((with_reducible refine .ext ?_); (conv => whnf))); (with_reducible refine call_intro (r := ?_) ?_ ?_); rotate_left; (focus (first | exact (rwithin_c _ _ _))); (conv => whnf); refine V.st ?_)
    rw [ex]
    refine Cnd.split (CondB.mk (fun h => ?_) (fun h => ?_))
    · (conv => whnf)
      refine V.st ?_
      refine Fin.of ?_
      rw [okGrid_size hx1 (by simp at h; omega)]
    · (conv => whnf)
      refine V.st ?_
      exact ⟨k + 1, ⟨by omega, (by rw [List.take_add_one, List.all_append, hI, hx1]; simp at h ⊢; omega)⟩, by omega, V.wk⟩
  · (conv => whnf)
    refine V.st ?_
    simp only [decide_eq_false_iff_not] at h
    have hall : size.all (fun n => decide (2 ≤ n ∧ n ≤ 9)) = true := by rw [← hI, List.take_of_length_le (by omega)]
    have hp := prod_bd hall
    have hm := prodm_bd hall h1.2.1 h1.2.2
    refine ⟨(.take 0 (.take 1 (.take 2 (.take 3 (.take 4 (.take 6 (.take 7 (.ev (.cons 5 [7, 6, 2, 1, 0] (.take 8 (.take 9 (.take 10 (.take 11 (.take 12 (.take 13 (.take 14 (.take 15 (.done))))))))) (.nil)))))))))), ⟨by kernel_rfl, by kernel_rfl, by kernel_rfl⟩, .go ?_⟩
    (conv => whnf)
    refine V.st ?_
    repeat ((try ((with_reducible refine .ext ?_); (conv => whnf))); (with_reducible refine call_intro (r := ?_) ?_ ?_); rotate_left; (focus (first | exact (points_c _ (fun k _ => (hp k).2.2 h1.2.1) hs))); (conv => whnf); refine V.st ?_)
    refine Cnd.split (CondB.mk (fun h => ?_) (fun h => ?_))
    · (conv => whnf)
      refine V.st ?_
      refine Fin.of ?_
      have : okGrid size out data = false := by
        unfold okGrid
        have : (decide ((data.length : Int) ≤ 4096 ∧ (data.length : Int) = prod size * out)) = false := by simp at h ⊢; omega
        rw [this]; simp
      rw [this]
    have h2 : (data.length : Int) ≤ 4096 ∧ (data.length : Int) = prod size * out := by simp at h; omega
    clear h
    (conv => whnf)
    refine V.st ?_
    refine lp_go (data.length) (fun k => (data.take k).all (fun v => decide (0 ≤ v ∧ v ≤ 65535)) = true) (fun k => [(4, .int .i64 k)]) (fun k => []) V.wk ?_ ?_
    · rfl
    intro k hk hI
    (conv => whnf)
    refine V.st ?_
    refine Cnd.split (CondB.mk (fun h => ?_) (fun h => ?_))
    · simp only [decide_eq_true_eq] at h
      obtain ⟨x, hx1, ex⟩ := getx (xs := data) (k := k) (by omega)
      (conv => whnf)
      refine V.st ?_
      repeat ((try ((with_reducible refine .ext ?_); (conv => whnf))); (with_reducible refine call_intro (r := ?_) ?_ ?_); rotate_left; (focus (first | exact (rwithin_c _ _ _))); (conv => whnf); refine V.st ?_)
      rw [ex]
      refine Cnd.split (CondB.mk (fun h => ?_) (fun h => ?_))
      · (conv => whnf)
        refine V.st ?_
        refine Fin.of ?_
        rw [okGrid_data hx1 (by simp at h; omega)]
      · (conv => whnf)
        refine V.st ?_
        exact ⟨k + 1, ⟨by omega, (by rw [List.take_add_one, List.all_append, hI, hx1]; simp at h ⊢; omega)⟩, by omega, V.wk⟩
    · (conv => whnf)
      refine V.st ?_
      simp only [decide_eq_false_iff_not] at h
      have hall2 : data.all (fun v => decide (0 ≤ v ∧ v ≤ 65535)) = true := by rw [← hI, List.take_of_length_le (by omega)]
      have : okGrid size out data = true := by
        unfold okGrid
        rw [hall, hall2]; simp; omega
      refine Fin.of ?_
      rw [this]
theorem rcheck_c (size : List Int) (out : Int) (data : List Int) (hs : size.length ≤ 281474976710656) (hd : data.length ≤ 281474976710656) :
    Called Try.prog 30 [gridD size out data] (.int .i64 (if okGrid size out data then 0 else 100)) := by
  refine called_of_run tbOk 6 ⟨Try.func30, rfl, rfl, Nat.le_of_ble_eq_true rfl⟩ ?_
  (conv => whnf)
  refine V.st ?_
  repeat ((try ((with_reducible refine .ext ?_); (conv => whnf))); (with_reducible refine call_intro (r := ?_) ?_ ?_); rotate_left; (focus (first | exact (right_c _ _ _ hs hd))); (conv => whnf); refine V.st ?_)
  refine Cnd.split (CondB.mk (fun h => ?_) (fun h => ?_))
  · (conv => whnf)
    exact Fin.of (by rw [h]; rfl)
  · (conv => whnf)
    exact Fin.of (by rw [h]; rfl)
theorem same_c (s1 : List Int) (o1 : Int) (d1 : List Int) (s2 : List Int) (o2 : Int) (d2 : List Int) (h1 : s1.length ≤ 281474976710656) (h2 : d1.length ≤ 281474976710656) (h3 : s2.length ≤ 281474976710656) (h4 : d2.length ≤ 281474976710656) :
    Called Try.prog 31 [gridD s1 o1 d1, gridD s2 o2 d2] (.bool (decide (s1 = s2 ∧ o1 = o2 ∧ d1 = d2))) := by
  refine called_of_run tbOk 6 ⟨Try.func31, rfl, rfl, Nat.le_of_ble_eq_true rfl⟩ ?_
  (conv => whnf)
  refine V.st ?_
  repeat ((try ((with_reducible refine .ext ?_); (conv => whnf))); (with_reducible refine call_intro (r := ?_) ?_ ?_); rotate_left; (focus (first | exact (equal_c _ _ h1 h3) | exact (equal_c _ _ h2 h4))); (conv => whnf); refine V.st ?_)
  refine Fin.of ?_
  congr 1
  by_cases a : s1 = s2 <;> by_cases b : o1 = o2 <;> by_cases c : d1 = d2 <;> simp [a, b, c]
theorem rsame_c (s1 : List Int) (o1 : Int) (d1 : List Int) (s2 : List Int) (o2 : Int) (d2 : List Int) (h1 : s1.length ≤ 281474976710656) (h2 : d1.length ≤ 281474976710656) (h3 : s2.length ≤ 281474976710656) (h4 : d2.length ≤ 281474976710656) :
    Called Try.prog 20 [gridD s1 o1 d1, gridD s2 o2 d2] (.bool (decide (s1 = s2 ∧ o1 = o2 ∧ d1 = d2))) := by
  refine called_of_run tbOk 6 ⟨Try.func20, rfl, rfl, Nat.le_of_ble_eq_true rfl⟩ ?_
  (conv => whnf)
  refine V.st ?_
  repeat ((try ((with_reducible refine .ext ?_); (conv => whnf))); (with_reducible refine call_intro (r := ?_) ?_ ?_); rotate_left; (focus (first | exact (ints_c _ _ h1 h3) | exact (ints_c _ _ h2 h4))); (conv => whnf); refine V.st ?_)
  refine Fin.of ?_
  congr 1
  by_cases a : s1 = s2 <;> by_cases b : o1 = o2 <;> by_cases c : d1 = d2 <;> simp [a, b, c]
end Go.Proofs.Ytfhmfpneiagakaa
