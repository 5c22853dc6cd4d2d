/- What some functions of the program answer at values that mean given lists and numbers, each proved of the program's own code. Conditions: those that each theorem names. -/
import Derived.Test.YtfhmfpneiagakaaT5
set_option linter.unusedSimpArgs false
set_option linter.unusedVariables false
set_option maxHeartbeats 8000000
set_option maxRecDepth 100000
namespace Go.Proofs.Ytfhmfpneiagakaa
open Go Go.V
theorem okIdx_pad {size xs : List Int} (h : okIdx size xs = true) (h4 : size.length ≤ 4) : (pad4 xs).length = 4 ∧ ∀ (k : Nat) (n x : Int), size[k]? = some n → (pad4 xs)[k]? = some x → 0 ≤ x ∧ x ≤ n - 1 := by
  obtain ⟨h1, h2⟩ := okIdx_iff.1 h
  refine ⟨pad4_length (by omega), fun k n x hn hx => ?_⟩
  have hk := (List.getElem?_eq_some_iff.1 hn).1
  unfold pad4 at hx
  rw [List.getElem?_append_left (by omega)] at hx
  exact h2 k n x hn hx
theorem zip_pad {size xs : List Int} (h : okIdx size xs = true) : size.zip (pad4 xs) = size.zip xs := by
  obtain ⟨h1, h2⟩ := okIdx_iff.1 h
  unfold pad4
  have := List.zip_append (l₁ := size) (r₁ := ([] : List Int)) (l₂ := xs) (r₂ := List.replicate (4 - xs.length) 0) h1.symm
  simpa using this
theorem gplace_c (size : List Int) (out : Int) (data xs : List Int) (hs : size.length ≤ 281474976710656) (hd : data.length ≤ 281474976710656) (hx : xs.length ≤ 281474976710656) :
    Called Try.prog 13 [gridD size out data, .ints .i64 xs] (.tup [.int .i64 (if okGrid size out data && okIdx size xs then pz (size.zip xs) * out else 0), .int .i64 (if okGrid size out data then (if okIdx size xs then 0 else 2) else 100)]) := by
  refine called_of_run tbOk 6 ⟨Try.func13, rfl, rfl, Nat.le_of_ble_eq_true rfl⟩ ?_
  (conv => whnf)
  refine V.st ?_
  repeat ((try ((with_reducible refine .ext ?_); (conv => whnf))); (with_reducible refine call_intro (r := ?_) ?_ ?_); rotate_left; (focus (first | exact (check_c _ _ _ hs hd))); (conv => whnf); refine V.st ?_)
  cases hg : okGrid size out data with
  | false =>
    refine Cnd.split (CondB.mk (fun h => ?_) (fun h => ?_))
    · (conv => whnf)
      refine V.st ?_
      exact Fin.of rfl
    · simp at h
  | true =>
    have hG := okGrid_iff hg
    refine Cnd.split (CondB.mk (fun h => ?_) (fun h => ?_))
    · simp at h
    have hpl : (if okIdx size xs = true then pad4 xs else [0, 0, 0, 0]).length = 4 := by
      split
      · rename_i h; exact (okIdx_pad h hG.2.1).1
      · rfl
    (conv => whnf)
    refine V.st ?_
    repeat ((try ((with_reducible refine .ext ?_); (conv => whnf))); (with_reducible refine call_intro (r := ?_) ?_ ?_); rotate_left; (focus (first | exact (find_c _ _ _ _ hg hx))); (conv => whnf); refine V.st ?_)
    refine Cnd.split (CondB.mk (fun hi => ?_) (fun hi => ?_))
    · have hi2 : okIdx size xs = false := by simpa using hi
      (conv => whnf)
      refine V.st ?_
      rw [hi2]
      exact Fin.of rfl
    · have hi2 : okIdx size xs = true := by simpa using hi
      obtain ⟨hp1, hp2⟩ := okIdx_pad hi2 hG.2.1
      rw [hi2, if_pos rfl]
      (conv => whnf)
      refine V.st ?_
      repeat ((try ((with_reducible refine .ext ?_); (conv => whnf))); (with_reducible refine call_intro (r := ?_) ?_ ?_); rotate_left; (focus (first | exact (place_c _ _ _ _ hg hp1 hp2))); (conv => whnf); refine V.st ?_)
      rw [zip_pad hi2]
      exact Fin.of rfl
theorem gat_c (size : List Int) (out : Int) (data xs : List Int) (hs : size.length ≤ 281474976710656) (hd : data.length ≤ 281474976710656) (hx : xs.length ≤ 281474976710656) :
    Called Try.prog 15 [gridD size out data, .ints .i64 xs] (.tup [.ints .i64 (if okGrid size out data && okIdx size xs then slot data (pz (size.zip xs) * out) out else []), .int .i64 (if okGrid size out data then (if okIdx size xs then 0 else 2) else 100)]) := by
  refine called_of_run tbOk 6 ⟨Try.func15, rfl, rfl, Nat.le_of_ble_eq_true rfl⟩ ?_
  (conv => whnf)
  refine V.st ?_
  repeat ((try ((with_reducible refine .ext ?_); (conv => whnf))); (with_reducible refine call_intro (r := ?_) ?_ ?_); rotate_left; (focus (first | exact (check_c _ _ _ hs hd))); (conv => whnf); refine V.st ?_)
  cases hg : okGrid size out data with
  | false =>
    refine Cnd.split (CondB.mk (fun h => ?_) (fun h => ?_))
    · (conv => whnf)
      refine V.st ?_
      exact Fin.tup ⟨Fin.nil _, Fin.of rfl, trivial⟩
    · simp at h
  | true =>
    have hG := okGrid_iff hg
    refine Cnd.split (CondB.mk (fun h => ?_) (fun h => ?_))
    · simp at h
    have hpl : (if okIdx size xs = true then pad4 xs else [0, 0, 0, 0]).length = 4 := by
      split
      · rename_i h; exact (okIdx_pad h hG.2.1).1
      · rfl
    (conv => whnf)
    refine V.st ?_
    repeat ((try ((with_reducible refine .ext ?_); (conv => whnf))); (with_reducible refine call_intro (r := ?_) ?_ ?_); rotate_left; (focus (first | exact (find_c _ _ _ _ hg hx))); (conv => whnf); refine V.st ?_)
    refine Cnd.split (CondB.mk (fun hi => ?_) (fun hi => ?_))
    · have hi2 : okIdx size xs = false := by simpa using hi
      (conv => whnf)
      refine V.st ?_
      rw [hi2]
      exact Fin.tup ⟨Fin.nil _, Fin.of rfl, trivial⟩
    · have hi2 : okIdx size xs = true := by simpa using hi
      obtain ⟨hp1, hp2⟩ := okIdx_pad hi2 hG.2.1
      rw [hi2, if_pos rfl]
      (conv => whnf)
      refine V.st ?_
      repeat ((try ((with_reducible refine .ext ?_); (conv => whnf))); (with_reducible refine call_intro (r := ?_) ?_ ?_); rotate_left; (focus (first | exact (values_c _ _ _ _ hg hp1 hp2))); (conv => whnf); refine V.st ?_)
      rw [zip_pad hi2]
      exact Fin.of rfl
theorem okIdx_take {size xs : List Int} (h : okIdx size xs = true) : ∀ a ∈ size.zip xs, 0 ≤ a.2 ∧ a.2 ≤ a.1 - 1 := fun a ha => by
  unfold okIdx at h
  simp only [Bool.and_eq_true, List.all_eq_true, decide_eq_true_eq] at h
  exact h.2 a ha
theorem take_zip2 {α β : Type} (a : List α) (b : List β) (j : Nat) : (a.zip b).take j = (a.take j).zip (b.take j) := by
  simp [List.zip_eq_zipWith, List.take_zipWith]
theorem rplace_c (size : List Int) (out : Int) (data xs : List Int) (hg : okGrid size out data = true) (hx : xs.length ≤ 281474976710656) :
    Called Try.prog 37 [gridD size out data, .ints .i64 xs] (.tup [.int .i64 (if okIdx size xs then pz (size.zip xs) * out else 0), .bool (okIdx size xs)]) := by
  have hG := okGrid_iff hg
  refine called_of_run tbOk 6 ⟨Try.func37, rfl, rfl, Nat.le_of_ble_eq_true rfl⟩ ?_
  (conv => whnf)
  refine V.st ?_
  refine Cnd.split (CondB.mk (fun h => ?_) (fun h => ?_))
  · have : okIdx size xs = false := by
      unfold okIdx
      simp at h; simp; omega
    (conv => whnf)
    refine V.st ?_
    rw [this]
    exact Fin.of rfl
  have hl : xs.length = size.length := by simp at h; omega
  clear h
  (conv => whnf)
  refine V.st ?_
  refine lp_go (xs.length) (fun k => okIdx (size.take k) (xs.take k) = true) (fun k => [(6, .int .i64 (pz ((size.zip xs).take k))), (7, .int .i64 k)]) (fun k => []) V.wk ?_ ?_
  · rfl
  intro k hk hI
  have hb : ∀ j, okIdx (size.take j) (xs.take j) = true → 0 ≤ pz ((size.zip xs).take j) ∧ pz ((size.zip xs).take j) + 1 ≤ 6561 := fun j hj => by
    have h1 := pz_bd (okIdx_take hj)
    have h2 := (prod_bd hG.2.2.2.2.1 j).2.1 hG.2.1
    rw [List.map_fst_zip (by simp; omega)] at h1
    rw [← take_zip2] at h1
    omega
  (conv => whnf)
  refine V.st ?_
  refine Cnd.split (CondB.mk (fun h => ?_) (fun h => ?_))
  · simp only [decide_eq_true_eq] at h
    obtain ⟨x, hx1, ex⟩ := getx (xs := xs) (k := k) (by omega)
    obtain ⟨n, hn1, en⟩ := getx (xs := size) (k := k) (by omega)
    have hnb : 2 ≤ n ∧ n ≤ 9 := by
      have := List.all_eq_true.1 hG.2.2.2.2.1 n (List.mem_of_getElem? hn1)
      simpa using this
    (conv => whnf)
    refine V.st ?_
    refine ⟨(.take 0 (.take 1 (.take 2 (.take 3 (.take 4 (.take 5 (.take 6 (.take 7 (.take 8 (.take 9 (.ev (.cons 10 [] (.take 11 (.done)) (.nil))))))))))))), ⟨by kernel_rfl, by kernel_rfl, by kernel_rfl⟩, .go ?_⟩
    (conv => whnf)
    (try simp only [ex, en])
    repeat (first | (refine V.s1 ?_; (try simp only [ex, en])) | ((with_reducible refine recheck_and ?_ ?_); (focus ((conv => whnf); (try simp only [ex, en]); (repeat (refine V.s1 ?_; (try simp only [ex, en]))); exact ⟨rfl⟩)); (conv => whnf); (try simp only [ex, en])) | ((try ((with_reducible refine .ext ?_); (conv => whnf); (try simp only [ex, en]))); (with_reducible refine call_intro (r := ?_) ?_ ?_); rotate_left; (focus (first | exact (rwithin_c _ _ _))); (conv => whnf); (try simp only [ex, en])))
    refine Cnd.split (CondB.mk (fun h => ?_) (fun h => ?_))
    · have : okIdx size xs = false := by
        cases hb : okIdx size xs with
        | false => rfl
        | true =>
          have := (okIdx_iff.1 hb).2 k n x hn1 hx1
          simp at h; omega
      (conv => whnf)
      refine V.st ?_
      rw [this]
      exact Fin.of rfl
    · have hI2 : okIdx (size.take (k + 1)) (xs.take (k + 1)) = true := by
        rw [List.take_add_one, List.take_add_one, hn1, hx1]; exact okIdx_step (n := n) (x := x) hI (by simp [List.length_take]; omega) (by simp at h; omega)
      have hz : (size.zip xs)[k]? = some (n, x) := by rw [List.getElem?_zip_eq_some]; exact ⟨hn1, hx1⟩
      have hs : pz ((size.zip xs).take (k + 1)) = pz ((size.zip xs).take k) * n + x := by
        rw [List.take_add_one, hz]; simp [pz]
      have h1 := hb k hI
      have h2 := hb (k + 1) hI2
      rw [hs] at h2
      have h4 : 0 ≤ pz ((size.zip xs).take k) * n := Int.mul_nonneg h1.1 (by omega)
      simp at h
      (conv => whnf)
      refine V.st ?_
      refine ⟨(.take 0 (.take 1 (.take 2 (.take 3 (.take 4 (.take 5 (.take 6 (.take 7 (.take 8 (.take 9 (.take 10 (.take 11 (.ev (.cons 12 [] (.done) (.nil))))))))))))))), ⟨by kernel_rfl, by kernel_rfl, by kernel_rfl⟩, .go ?_⟩
      (conv => whnf)
      (try simp only [ex, en])
      repeat (first | (refine V.s1 ?_; (try simp only [ex, en])) | ((with_reducible refine recheck_and ?_ ?_); (focus ((conv => whnf); (try simp only [ex, en]); (repeat (refine V.s1 ?_; (try simp only [ex, en]))); exact ⟨rfl⟩)); (conv => whnf); (try simp only [ex, en])))
      rw [← hs]
      exact ⟨k + 1, ⟨by omega, hI2⟩, by omega, V.wk⟩
  · simp only [decide_eq_false_iff_not] at h
    rw [List.take_of_length_le (by omega), List.take_of_length_le (by omega)] at hI
    have hb2 := hb size.length (by rw [List.take_length, List.take_of_length_le (by omega)]; exact hI)
    rw [List.take_of_length_le (by simp; omega)] at hb2
    rw [List.take_of_length_le (l := size.zip xs) (by simp; omega)]
    have hm : InR .i64 (pz (size.zip xs) * out) := by
      have h5 : 0 ≤ pz (size.zip xs) * out := Int.mul_nonneg hb2.1 (by omega)
      have h6 : pz (size.zip xs) * out ≤ 6561 * 4 := Int.mul_le_mul (by omega) (by omega) (by omega) (by omega)
      simp only [V.InR, lo, V.hi]; omega
    (conv => whnf)
    refine V.st ?_
    rw [hI]
    exact Fin.of rfl
theorem rPlace_c (size : List Int) (out : Int) (data xs : List Int) (hs : size.length ≤ 281474976710656) (hd : data.length ≤ 281474976710656) (hx : xs.length ≤ 281474976710656) :
    Called Try.prog 14 [gridD size out data, .ints .i64 xs] (.tup [.int .i64 (if okGrid size out data && okIdx size xs then pz (size.zip xs) * out else 0), .int .i64 (if okGrid size out data then (if okIdx size xs then 0 else 2) else 100)]) := by
  refine called_of_run tbOk 6 ⟨Try.func14, rfl, rfl, Nat.le_of_ble_eq_true rfl⟩ ?_
  (conv => whnf)
  refine V.st ?_
  repeat ((try ((with_reducible refine .ext ?_); (conv => whnf))); (with_reducible refine call_intro (r := ?_) ?_ ?_); rotate_left; (focus (first | exact (right_c _ _ _ hs hd))); (conv => whnf); refine V.st ?_)
  refine Cnd.split (CondB.mk (fun hg => ?_) (fun hg => ?_))
  · have hg : okGrid size out data = false := by simpa using hg
    (conv => whnf)
    refine V.st ?_
    rw [hg]
    exact Fin.of rfl
  · have hg : okGrid size out data = true := by simpa using hg
    (conv => whnf)
    refine V.st ?_
    repeat ((try ((with_reducible refine .ext ?_); (conv => whnf))); (with_reducible refine call_intro (r := ?_) ?_ ?_); rotate_left; (focus (first | exact (rplace_c _ _ _ _ hg hx))); (conv => whnf); refine V.st ?_)
    refine Cnd.split (CondB.mk (fun hi => ?_) (fun hi => ?_))
    · have hi : okIdx size xs = false := by simpa using hi
      (conv => whnf)
      refine V.st ?_
      rw [hg, hi]
      exact Fin.of rfl
    · have hi : okIdx size xs = true := by simpa using hi
      (conv => whnf)
      refine V.st ?_
      rw [hg, hi]
      exact Fin.of rfl
theorem slot_app {data : List Int} {p out : Int} (h1 : 0 ≤ p) (h2 : 0 ≤ out) (h3 : p + out ≤ data.length) :
    ([] ++ List.drop p.toNat (List.take (p + out).toNat data) : List Int) = slot data p out := by
  have : (p + out).toNat = p.toNat + out.toNat := by omega
  rw [this, List.drop_take]
  simp [slot]
theorem rAt_c (size : List Int) (out : Int) (data xs : List Int) (hs : size.length ≤ 281474976710656) (hd : data.length ≤ 281474976710656) (hx : xs.length ≤ 281474976710656) :
    Called Try.prog 16 [gridD size out data, .ints .i64 xs] (.tup [.ints .i64 (if okGrid size out data && okIdx size xs then slot data (pz (size.zip xs) * out) out else []), .int .i64 (if okGrid size out data then (if okIdx size xs then 0 else 2) else 100)]) := by
  refine called_of_run tbOk 6 ⟨Try.func16, rfl, rfl, Nat.le_of_ble_eq_true rfl⟩ ?_
  (conv => whnf)
  refine V.st ?_
  repeat ((try ((with_reducible refine .ext ?_); (conv => whnf))); (with_reducible refine call_intro (r := ?_) ?_ ?_); rotate_left; (focus (first | exact (rPlace_c _ _ _ _ hs hd hx))); (conv => whnf); refine V.st ?_)
  cases hg : okGrid size out data with
  | false =>
    refine Cnd.split (CondB.mk (fun h => ?_) (fun h => ?_))
    · (conv => whnf)
      refine V.st ?_
      exact Fin.tup ⟨Fin.nil _, Fin.of rfl, trivial⟩
    · simp at h
  | true =>
    have hG := okGrid_iff hg
    cases hi : okIdx size xs with
    | false =>
      refine Cnd.split (CondB.mk (fun h => ?_) (fun h => ?_))
      · (conv => whnf)
        refine V.st ?_
        exact Fin.tup ⟨Fin.nil _, Fin.of rfl, trivial⟩
      · simp at h
    | true =>
      refine Cnd.split (CondB.mk (fun h => ?_) (fun h => ?_))
      · simp at h
      have hp := pz_last hg (Nat.le_of_eq (okIdx_iff.1 hi).1.symm) (okIdx_iff.1 hi).2
      rw [if_pos (by rfl)]
      (conv => whnf)
      refine V.st ?_
      try refine And.intro (fun _ => ⟨rfl, by simp; omega⟩) ?_
      (conv => whnf)
      refine V.st ?_
      refine Fin.of ?_
      have e := slot_app hp.1 (by omega) hp.2
      simp only [List.nil_append, Nat.zero_add, List.take_length, Bool.and_self, if_true] at e ⊢
      rw [e]
end Go.Proofs.Ytfhmfpneiagakaa
