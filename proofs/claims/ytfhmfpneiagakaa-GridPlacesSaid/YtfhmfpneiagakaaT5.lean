/- What some functions of the program answer at values that mean given lists and numbers, each proved of the program's own code. Conditions: those that each theorem names. -/
import Derived.Test.YtfhmfpneiagakaaT4
set_option linter.unusedSimpArgs false
set_option linter.unusedVariables false
set_option maxHeartbeats 8000000
set_option maxRecDepth 100000
namespace Go.Proofs.Ytfhmfpneiagakaa
open Go Go.V
def pz (z : List (Int × Int)) : Int := z.foldl (fun p a => p * a.1 + a.2) 0
def okIdx (size xs : List Int) : Bool := decide (xs.length = size.length) && (size.zip xs).all fun a => decide (0 ≤ a.2 ∧ a.2 ≤ a.1 - 1)
def pad4 (xs : List Int) : List Int := xs ++ List.replicate (4 - xs.length) 0
theorem pad4_length {xs : List Int} (h : xs.length ≤ 4) : (pad4 xs).length = 4 := by simp [pad4]; omega
theorem pad4_set {xs : List Int} {k : Nat} {x : Int} (h : xs[k]? = some x) (hl : xs.length ≤ 4) : (pad4 (xs.take k)).set k x = pad4 (xs.take (k + 1)) := by
  have hk : k < xs.length := (List.getElem?_eq_some_iff.1 h).1
  refine List.ext_getElem? fun j => ?_
  rw [List.getElem?_set]
  have h1 : (xs.take k).length = k := by simp; omega
  have h2 : (xs.take (k + 1)).length = k + 1 := by simp; omega
  have hp : (pad4 (xs.take k)).length = 4 := pad4_length (by omega)
  by_cases e : k = j
  · subst e
    rw [if_pos rfl, if_pos (by omega)]
    unfold pad4
    rw [List.getElem?_append_left (by omega), List.getElem?_take_of_lt (by omega), h]
  · rw [if_neg e]
    unfold pad4
    rw [h1, h2]
    by_cases hj : j < k
    · rw [List.getElem?_append_left (by omega), List.getElem?_append_left (by omega), List.getElem?_take_of_lt hj, List.getElem?_take_of_lt (by omega)]
    · rw [List.getElem?_append_right (by omega), List.getElem?_append_right (by omega), h1, h2]
      simp only [List.getElem?_replicate]
      by_cases hj4 : j < 4
      · rw [if_pos (by omega), if_pos (by omega)]
      · rw [if_neg (by omega), if_neg (by omega)]
theorem pz_bd_aux (z : List (Int × Int)) : ∀ (p q : Int), (∀ a ∈ z, 0 ≤ a.2 ∧ a.2 ≤ a.1 - 1) → 0 ≤ p → p + 1 ≤ q →
    0 ≤ z.foldl (fun p a => p * a.1 + a.2) p ∧ z.foldl (fun p a => p * a.1 + a.2) p + 1 ≤ (z.map (·.1)).foldl (· * ·) q := by
  induction z with
  | nil => intro p q _ h1 h2; exact ⟨h1, h2⟩
  | cons a z ih =>
    intro p q h h1 h2
    have ha := h a (by simp)
    simp only [List.foldl_cons, List.map_cons]
    have h3 : 0 ≤ p * a.1 := Int.mul_nonneg h1 (by omega)
    have h4 : (p + 1) * a.1 ≤ q * a.1 := Int.mul_le_mul_of_nonneg_right h2 (by omega)
    rw [Int.add_mul] at h4
    exact ih _ _ (fun b hb => h b (by simp [hb])) (by omega) (by omega)
theorem pz_bd {z : List (Int × Int)} (h : ∀ a ∈ z, 0 ≤ a.2 ∧ a.2 ≤ a.1 - 1) : 0 ≤ pz z ∧ pz z + 1 ≤ prod (z.map (·.1)) := pz_bd_aux z 0 1 h (by omega) (by omega)
theorem okIdx_iff {size xs : List Int} : okIdx size xs = true ↔ xs.length = size.length ∧ ∀ (k : Nat) (n x : Int), size[k]? = some n → xs[k]? = some x → 0 ≤ x ∧ x ≤ n - 1 := by
  unfold okIdx
  rw [Bool.and_eq_true, decide_eq_true_eq, List.all_eq_true]
  constructor
  · rintro ⟨h1, h2⟩
    refine ⟨h1, fun k n x hn hx => ?_⟩
    have := h2 (n, x) (List.mem_of_getElem? (i := k) (by rw [List.getElem?_zip_eq_some]; exact ⟨hn, hx⟩))
    simpa using this
  · rintro ⟨h1, h2⟩
    refine ⟨h1, fun a ha => ?_⟩
    obtain ⟨k, hk⟩ := List.getElem?_of_mem ha
    rw [List.getElem?_zip_eq_some] at hk
    simpa using h2 k _ _ hk.1 hk.2
theorem okGrid_iff {size : List Int} {out : Int} {data : List Int} (h : okGrid size out data = true) : 1 ≤ size.length ∧ size.length ≤ 4 ∧ 1 ≤ out ∧ out ≤ 4 ∧ size.all (fun n => decide (2 ≤ n ∧ n ≤ 9)) = true ∧ (data.length : Int) ≤ 4096 ∧ (data.length : Int) = prod size * out ∧ data.all (fun v => decide (0 ≤ v ∧ v ≤ 65535)) = true := by
  unfold okGrid at h
  simp only [Bool.and_eq_true] at h
  obtain ⟨⟨⟨⟨h1, h2⟩, h3⟩, h4⟩, h5⟩ := h
  simp only [decide_eq_true_eq] at h1 h2 h4
  exact ⟨h1.1, h1.2, h2.1, h2.2, h3, h4.1, h4.2, h5⟩
theorem okIdx_step {size xs : List Int} {n x : Int} (h : okIdx size xs = true) (hl : size.length = xs.length) (hx : 0 ≤ x ∧ x ≤ n - 1) : okIdx (size ++ [n].toArray.toList) (xs ++ [x].toArray.toList) = true := by
  unfold okIdx at *
  rw [List.zip_append hl]
  simp at *
  exact ⟨by omega, h.2, by omega⟩
theorem find_c (size : List Int) (out : Int) (data xs : List Int) (hg : okGrid size out data = true) (hx : xs.length ≤ 281474976710656) :
    Called Try.prog 34 [gridD size out data, .ints .i64 xs] (.tup [.iarr .i64 (if okIdx size xs then pad4 xs else [0, 0, 0, 0]), .bool (okIdx size xs)]) := by
  have hG := okGrid_iff hg
  refine called_of_run tbOk 6 ⟨Try.func34, rfl, rfl, Nat.le_of_ble_eq_true rfl⟩ ?_
  (conv => whnf)
  refine V.st ?_
  refine Cnd.split (CondB.mk (fun h => ?_) (fun h => ?_))
  · have : okIdx size xs = false := by
      unfold okIdx
      simp at h; simp; omega
    (conv => whnf)
    refine V.st ?_
    rw [this]
    exact Fin.of rfl
  have hl : xs.length = size.length := by simp at h; omega
  clear h
  (conv => whnf)
  refine V.st ?_
  refine lp_go (xs.length) (fun k => okIdx (size.take k) (xs.take k) = true) (fun k => [(19, .int .i64 k)]) (fun k => [(6, .arr .i64 (pad4 (xs.take k)))]) V.wk ?_ ?_
  · rfl
  intro k hk hI
  (conv => whnf)
  refine V.st ?_
  refine Cnd.split (CondB.mk (fun h => ?_) (fun h => ?_))
  · simp only [decide_eq_true_eq] at h
    obtain ⟨x, hx1, ex⟩ := getx (xs := xs) (k := k) (by omega)
    obtain ⟨n, hn1, en⟩ := getx (xs := size) (k := k) (by omega)
    have hnb : 2 ≤ n ∧ n ≤ 9 := by
      have := List.all_eq_true.1 hG.2.2.2.2.1 n (List.mem_of_getElem? hn1)
      simpa using this
    (conv => whnf)
    refine V.st ?_
    rw [en]
    refine V.st ?_
    repeat ((try ((with_reducible refine .ext ?_); (conv => whnf))); (with_reducible refine call_intro (r := ?_) ?_ ?_); rotate_left; (focus (first | exact (within_c _ _ _))); (conv => whnf); refine V.st ?_)
    rw [ex]
    refine Cnd.split (CondB.mk (fun h => ?_) (fun h => ?_))
    · have : okIdx size xs = false := by
        cases hb : okIdx size xs with
        | false => rfl
        | true =>
          have := (okIdx_iff.1 hb).2 k n x hn1 hx1
          simp at h; omega
      (conv => whnf)
      refine V.st ?_
      rw [this]
      exact Fin.of rfl
    · (conv => whnf)
      refine V.st ?_
      simp only [pad4_length (xs := xs.take k) (by simp; omega)]
      refine V.st ?_
      simp only [Nat.zero_add, Int.toNat_natCast]
      rw [pad4_set hx1 (by omega)]
      exact ⟨k + 1, ⟨by omega, (by rw [List.take_add_one, List.take_add_one, hn1, hx1]; exact okIdx_step (n := n) (x := x) hI (by simp [List.length_take]; omega) (by simp at h; omega))⟩, by omega, V.wk⟩
  · simp only [decide_eq_false_iff_not] at h
    rw [List.take_of_length_le (by omega), List.take_of_length_le (by omega)] at hI
    (conv => whnf)
    refine V.st ?_
    have hp4 : (pad4 xs).length = 4 := pad4_length (by omega)
    rw [List.take_of_length_le (by omega)]
    refine V.st ?_
    rw [hI]
    exact Fin.of rfl

theorem place_c (size : List Int) (out : Int) (data xs : List Int) (hg : okGrid size out data = true) (hx : xs.length = 4) (hi : ∀ (k : Nat) (n x : Int), size[k]? = some n → xs[k]? = some x → 0 ≤ x ∧ x ≤ n - 1) :
    Called Try.prog 35 [gridD size out data, .iarr .i64 xs] (.int .i64 (pz (size.zip xs) * out)) := by
  have hG := okGrid_iff hg
  have hb : ∀ k, k ≤ size.length → 0 ≤ pz ((size.zip xs).take k) ∧ pz ((size.zip xs).take k) + 1 ≤ 6561 := fun k hk => by
    have h1 := pz_bd (z := (size.zip xs).take k) (fun a ha => by
      obtain ⟨j, hj⟩ := List.getElem?_of_mem (List.mem_of_mem_take ha)
      rw [List.getElem?_zip_eq_some] at hj
      exact hi j _ _ hj.1 hj.2)
    have h2 := (prod_bd hG.2.2.2.2.1 k).2.1 hG.2.1
    have h3 : ((size.zip xs).take k).map (·.1) = size.take k := by
      rw [List.map_take, List.map_fst_zip (by omega)]
    rw [h3] at h1
    omega
  have hb2 := hb size.length (by omega)
  rw [List.take_of_length_le (by simp; omega)] at hb2
  refine called_of_run tbOk 6 ⟨Try.func35, rfl, rfl, Nat.le_of_ble_eq_true rfl⟩ ?_
  (conv => whnf)
  refine V.st ?_
  refine lp_go (size.length) (fun k => True) (fun k => [(5, .int .i64 (pz ((size.zip xs).take k))), (12, .int .i64 k)]) (fun k => []) V.wk ?_ ?_
  · trivial
  intro k hk _
  (conv => whnf)
  refine V.st ?_
  refine Cnd.split (CondB.mk (fun h => ?_) (fun h => ?_))
  · simp only [decide_eq_true_eq] at h
    obtain ⟨n, hn1, en⟩ := getx (xs := size) (k := k) (by omega)
    obtain ⟨x, hx1, ex⟩ := getx (xs := xs) (k := k) (by omega)
    have hz : (size.zip xs)[k]? = some (n, x) := by rw [List.getElem?_zip_eq_some]; exact ⟨hn1, hx1⟩
    have hs : pz ((size.zip xs).take (k + 1)) = pz ((size.zip xs).take k) * n + x := by
      rw [List.take_add_one, hz]; simp [pz]
    have h1 := hb k (by omega)
    have h2 := hb (k + 1) (by omega)
    have h3 := hi k n x hn1 hx1
    rw [hs] at h2
    have h4 : 0 ≤ pz ((size.zip xs).take k) * n := Int.mul_nonneg h1.1 (by omega)
    (conv => whnf)
    (try simp only [en, ex, Nat.zero_add])
    repeat (first | (refine V.s1 ?_; (try simp only [en, ex, Nat.zero_add])) | ((with_reducible refine recheck_and ?_ ?_); (focus ((conv => whnf); (try simp only [en, ex, Nat.zero_add]); (repeat (refine V.s1 ?_; (try simp only [en, ex, Nat.zero_add]))); exact ⟨rfl⟩)); (conv => whnf); (try simp only [en, ex, Nat.zero_add])))
    rw [← hs]
    exact ⟨k + 1, ⟨by omega, trivial⟩, by omega, V.wk⟩
  · simp only [decide_eq_false_iff_not] at h
    rw [List.take_of_length_le (l := size.zip xs) (by simp; omega)]
    have hm : InR .i64 (pz (size.zip xs) * out) := by
      have h5 : 0 ≤ pz (size.zip xs) * out := Int.mul_nonneg hb2.1 (by omega)
      have h6 : pz (size.zip xs) * out ≤ 6561 * 4 := Int.mul_le_mul (by omega) (by omega) (by omega) (by omega)
      simp only [V.InR, lo, V.hi]; omega
    (conv => whnf)
    refine V.st ?_
    exact Fin.same _
theorem pz_last {size : List Int} {out : Int} {data xs : List Int} (hg : okGrid size out data = true) (hx : size.length ≤ xs.length) (hi : ∀ (k : Nat) (n x : Int), size[k]? = some n → xs[k]? = some x → 0 ≤ x ∧ x ≤ n - 1) :
    0 ≤ pz (size.zip xs) * out ∧ pz (size.zip xs) * out + out ≤ data.length := by
  have hG := okGrid_iff hg
  have h1 := pz_bd (z := size.zip xs) (fun a ha => by
    obtain ⟨j, hj⟩ := List.getElem?_of_mem ha
    rw [List.getElem?_zip_eq_some] at hj
    exact hi j _ _ hj.1 hj.2)
  rw [List.map_fst_zip (by omega)] at h1
  refine ⟨Int.mul_nonneg h1.1 (by omega), ?_⟩
  have h2 : (pz (size.zip xs) + 1) * out ≤ prod size * out := Int.mul_le_mul_of_nonneg_right h1.2 (by omega)
  rw [Int.add_mul] at h2
  omega
def slot (data : List Int) (p out : Int) : List Int := (data.drop p.toNat).take out.toNat
theorem slot_copy {data : List Int} {p out : Int} (h1 : 0 ≤ p) (h2 : 0 ≤ out) (h3 : p + out ≤ data.length) :
    List.take out.toNat (V.setAt (List.replicate out.toNat 0) 0 (List.take out.toNat (List.drop p.toNat (List.take (p + out).toNat data)))) = slot data p out := by
  have e1 : List.take out.toNat (List.drop p.toNat (List.take (p + out).toNat data)) = slot data p out := by
    have : (p + out).toNat = p.toNat + out.toNat := by omega
    rw [this, List.drop_take, List.take_take]
    simp [slot]
  rw [e1]
  have hl : (slot data p out).length = out.toNat := by simp [slot]; omega
  unfold V.setAt
  rw [List.take_zero, List.nil_append, List.take_append_of_le_length (by omega), List.take_of_length_le (by omega)]
theorem values_c (size : List Int) (out : Int) (data xs : List Int) (hg : okGrid size out data = true) (hx : xs.length = 4) (hi : ∀ (k : Nat) (n x : Int), size[k]? = some n → xs[k]? = some x → 0 ≤ x ∧ x ≤ n - 1) :
    Called Try.prog 38 [gridD size out data, .iarr .i64 xs] (.ints .i64 (slot data (pz (size.zip xs) * out) out)) := by
  have hG := okGrid_iff hg
  have hp := pz_last hg (by omega) hi
  refine called_of_run tbOk 6 ⟨Try.func38, rfl, rfl, Nat.le_of_ble_eq_true rfl⟩ ?_
  (conv => whnf)
  refine V.st ?_
  repeat ((try ((with_reducible refine .ext ?_); (conv => whnf))); (with_reducible refine call_intro (r := ?_) ?_ ?_); rotate_left; (focus (first | exact (place_c _ _ _ _ hg hx hi))); (conv => whnf); refine V.st ?_)
  try refine And.intro (fun _ => ⟨by omega, by simp⟩) ?_
  (conv => whnf)
  refine V.st ?_
  exact Fin.of (by rw [slot_copy hp.1 (by omega) hp.2])
theorem slot_length {data : List Int} {p out : Int} (h1 : 0 ≤ p) (h2 : 0 ≤ out) (h3 : p + out ≤ data.length) : (slot data p out).length = out.toNat := by
  simp [slot]; omega
end Go.Proofs.Ytfhmfpneiagakaa
