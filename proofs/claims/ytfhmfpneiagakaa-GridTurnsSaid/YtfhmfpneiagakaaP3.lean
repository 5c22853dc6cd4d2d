/- What some functions of the program answer at values that mean given lists and numbers, each proved of the program's own code. Conditions: those that each theorem names. -/
import Derived.Test.YtfhmfpneiagakaaT21
import Derived.Test.YtfhmfpneiagakaaT17
import Derived.Test.YtfhmfpneiagakaaT11
set_option linter.unusedSimpArgs false
set_option linter.unusedVariables false
set_option maxHeartbeats 8000000
set_option maxRecDepth 100000
namespace Go.Proofs.Ytfhmfpneiagakaa
open Go Go.V Go.Gr
theorem pzf (ns : List Nat) (x : List Int) (p : Int) : x.length = ns.length → ((nz ns).zip x).foldl (fun p a => p * a.1 + a.2) p = p * (PR ns : Int) + pz ((nz ns).zip x) := by
  induction ns generalizing x p with
  | nil => intro _; simp [pz, nz, PR]
  | cons n r ih =>
    intro hl
    cases x with
    | nil => simp at hl
    | cons a s =>
      have hl' : s.length = r.length := by simpa using hl
      simp only [nz, List.map_cons, List.zip_cons_cons, List.foldl_cons, pz, PR]
      have e1 := ih s (p * (n : Int) + a) hl'
      have e2 := ih s (0 * (n : Int) + a) hl'
      simp only [nz] at e1 e2
      rw [e1, e2]
      simp only [Int.natCast_mul, Int.add_mul, Int.mul_assoc, Int.zero_mul, Int.zero_add]
      omega
theorem pz_cons (n : Nat) (r : List Nat) (a : Int) (s : List Int) (h : s.length = r.length) : pz ((nz (n :: r)).zip (a :: s)) = a * (PR r : Int) + pz ((nz r).zip s) := by
  have := pzf r s a h
  unfold pz at this ⊢
  simp only [nz, List.map_cons, List.zip_cons_cons, List.foldl_cons, Int.zero_mul, Int.zero_add] at this ⊢
  exact this
/-- an index is that of its place -/
theorem ixl_pz : ∀ (ns : List Nat) (x : List Int), okIdx (nz ns) x = true → (0 ≤ pz ((nz ns).zip x) ∧ pz ((nz ns).zip x) < PR ns) ∧ ixl ns (pz ((nz ns).zip x)).toNat = x
  | [], x, h => by
    have h1 := (okIdx_iff.1 h).1
    simp [nz] at h1
    subst h1
    simp [pz, nz, PR, ixl]
  | n :: r, [], h => by
    have h1 := (okIdx_iff.1 h).1
    simp [nz] at h1
  | n :: r, a :: s, h => by
    obtain ⟨h1, h2⟩ := okIdx_iff.1 h
    have hl : s.length = r.length := by simpa [nz] using h1
    have ha := h2 0 n a (by simp [nz]) rfl
    have hr : okIdx (nz r) s = true := okIdx_iff.2 ⟨by simpa [nz] using hl, fun k n' x' g1 g2 => h2 (k + 1) n' x' (by simpa [nz] using g1) (by simpa using g2)⟩
    obtain ⟨⟨i1, i2⟩, i3⟩ := ixl_pz r s hr
    rw [pz_cons n r a s hl]
    have hpos : ∀ y ∈ r, 0 < y := fun y hy => by
      obtain ⟨k, hk⟩ := List.getElem?_of_mem hy
      have hk2 : k < s.length := by have := (List.getElem?_eq_some_iff.1 hk).1; omega
      have := h2 (k + 1) y s[k] (by simp [nz, hk]) (by simp [hk2])
      omega
    have hP := PR_pos hpos
    generalize pz ((nz r).zip s) = q at *
    obtain ⟨q, rfl⟩ : ∃ m : Nat, q = m := ⟨q.toNat, by omega⟩
    obtain ⟨a, rfl⟩ : ∃ m : Nat, a = m := ⟨a.toNat, by omega⟩
    have e : ((a : Int) * (PR r : Int) + (q : Int)) = ((a * PR r + q : Nat) : Int) := by simp
    have hq : q < PR r := by omega
    have han : a < n := by omega
    rw [e, Int.toNat_natCast] at *
    refine ⟨⟨by omega, ?_⟩, ?_⟩
    · have : a * PR r + q < (a + 1) * PR r := by rw [Nat.add_mul]; omega
      have h5 : (a + 1) * PR r ≤ n * PR r := Nat.mul_le_mul_right _ han
      rw [PR]
      omega
    · have e1 : (a * PR r + q) / PR r = a := by
        rw [Nat.mul_comm, Nat.mul_add_div hP, Nat.div_eq_of_lt hq, Nat.add_zero]
      have e2 : ixl r (a * PR r + q) = s := by
        rw [← ixl_mod r hpos, Nat.mul_comm, Nat.mul_add_mod, ixl_mod r hpos]
        exact i3
      simp only [ixl, e1, e2, Nat.mod_eq_of_lt han]
/-! points and outputs -/
theorem flat_slot {ns : List Nat} {f : Nat → List Int} {n w : Nat} (hf : ∀ j, j < n → (f j).length = w) : ∀ m, m < n → slot (flat ns f n) ((m * w : Nat) : Int) w = f m := by
  have key : ∀ t, t ≤ n → (flat ns f t).length = t * w := by
    intro t
    induction t with
    | zero => intro _; simp [flat]
    | succ t ih => intro ht; rw [flat_succ, List.length_append, ih (by omega), hf t (by omega), Nat.add_mul, Nat.one_mul]
  induction n with
  | zero => intro m hm; omega
  | succ n ih =>
    intro m hm
    rw [flat_succ]
    have kn := key n (by omega)
    unfold slot
    rw [Int.toNat_natCast, Int.toNat_natCast]
    by_cases hmn : m = n
    · subst hmn
      rw [List.drop_append_of_le_length (by omega), List.drop_of_length_le (by omega), List.nil_append]
      exact List.take_of_length_le (by rw [hf m (by omega)]; exact Nat.le_refl _)
    · have ih := ih (fun j hj => hf j (by omega)) (fun t ht => key t (by omega)) m (by omega)
      unfold slot at ih
      rw [Int.toNat_natCast, Int.toNat_natCast] at ih
      have h5 : (m + 1) * w ≤ n * w := Nat.mul_le_mul_right _ (by omega)
      rw [Nat.add_mul, Nat.one_mul] at h5
      rw [List.drop_append_of_le_length (by omega), List.take_append_of_le_length (by rw [List.length_drop]; omega)]
      exact ih
theorem flat_self {ns : List Nat} {data : List Int} {n w : Nat} (h : data.length = n * w) {f : Nat → List Int} (hf : ∀ m, m < n → f m = slot data ((m * w : Nat) : Int) w) : flat ns f n = data := by
  have key : ∀ t, t ≤ n → flat ns f t = data.take (t * w) := by
    intro t
    induction t with
    | zero => intro _; simp [flat]
    | succ t ih => intro ht; rw [flat_succ, ih (by omega), hf t (by omega), take_slot]
  rw [key n (Nat.le_refl _), ← h, List.take_length]
theorem flat_leng {ns : List Nat} {f : Nat → List Int} {n w : Nat} (hf : ∀ j, j < n → (f j).length = w) : (flat ns f n).length = n * w := by
  induction n with
  | zero => simp [flat]
  | succ n ih => rw [flat_succ, List.length_append, ih (fun j hj => hf j (by omega)), hf n (by omega), Nat.add_mul, Nat.one_mul]
theorem slot_mem {data : List Int} {p w : Int} {x : Int} (h : x ∈ slot data p w) : x ∈ data := List.mem_of_mem_drop (List.mem_of_mem_take h)
/-! the least and the greatest values -/
structure Ord (lt : Int → Int → Bool) : Prop where
  irr : ∀ a, lt a a = false
  tr : ∀ a b c, lt b a = false → lt c b = false → lt c a = false
  anti : ∀ a b, lt a b = false → lt b a = false → a = b
  asym : ∀ a b, lt a b = true → lt b a = false
theorem ord_lt : Ord fun a b => decide (a < b) := ⟨fun a => by simp, fun a b c h1 h2 => by simp at *; omega, fun a b h1 h2 => by simp at *; omega, fun a b h => by simp at *; omega⟩
theorem ord_gt : Ord fun a b => decide (a > b) := ⟨fun a => by simp, fun a b c h1 h2 => by simp at *; omega, fun a b h1 h2 => by simp at *; omega, fun a b h => by simp at *; omega⟩
def col (data : List Int) (w m k : Nat) : Int := (slot data ((m * w : Nat) : Int) w).getD k 0
theorem updGet {lt : Int → Int → Bool} {o v : List Int} {k : Nat} (h1 : k < o.length) (h2 : k < v.length) : (upd lt o v).getD k 0 = if lt (v.getD k 0) (o.getD k 0) then v.getD k 0 else o.getD k 0 := by
  unfold upd
  simp [List.getD_eq_getElem?_getD, List.getElem?_zipWith, h1, h2]
theorem mst_spec {lt : Int → Int → Bool} (O : Ord lt) {data : List Int} {w n : Nat} (h : data.length = n * w) {k : Nat} (hk : k < w) : ∀ m, m ≤ n → 0 < n →
    (∀ j, j < m → lt (col data w j k) ((mst lt data w m).getD k 0) = false) ∧ ∃ j, j < max m 1 ∧ (mst lt data w m).getD k 0 = col data w j k := by
  intro m
  induction m with
  | zero => intro _ _; exact ⟨fun j hj => by omega, 0, by omega, by simp [mst, col]⟩
  | succ m ih =>
    intro hm hn
    obtain ⟨h1, j, hj, h2⟩ := ih (by omega) hn
    have hl1 := mst_length (lt := lt) h (by omega : m ≤ n) hn
    have hl2 := slot_m h (by omega : m < n)
    have hu := updGet (lt := lt) (o := mst lt data w m) (v := slot data ((m * w : Nat) : Int) w) (k := k) (by omega) (by omega)
    have hc : (slot data ((m * w : Nat) : Int) w).getD k 0 = col data w m k := rfl
    rw [hc] at hu
    simp only [mst]
    rw [hu]
    cases hb : lt (col data w m k) ((mst lt data w m).getD k 0) with
    | true =>
      rw [if_pos rfl]
      refine ⟨fun i hi => ?_, m, by omega, rfl⟩
      by_cases him : i = m
      · subst him; exact O.irr _
      · have h3 := h1 i (by omega)
        cases hc2 : lt (col data w i k) (col data w m k) with
        | false => rfl
        | true =>
          have h4 := O.asym _ _ hb
          rw [O.tr _ _ _ h4 h3] at hc2
          cases hc2
    | false =>
      rw [if_neg (by simp)]
      refine ⟨fun i hi => ?_, j, by omega, h2⟩
      by_cases him : i = m
      · subst him; exact hb
      · exact h1 i (by omega)
theorem mst_same {lt : Int → Int → Bool} (O : Ord lt) {d1 d2 : List Int} {w1 w2 n1 n2 k1 k2 : Nat} (h1 : d1.length = n1 * w1) (h2 : d2.length = n2 * w2) (hk1 : k1 < w1) (hk2 : k2 < w2) (hn1 : 0 < n1) (hn2 : 0 < n2)
    (f : ∀ j, j < n1 → ∃ i, i < n2 ∧ col d1 w1 j k1 = col d2 w2 i k2) (g : ∀ j, j < n2 → ∃ i, i < n1 ∧ col d2 w2 j k2 = col d1 w1 i k1) : (mst lt d1 w1 n1).getD k1 0 = (mst lt d2 w2 n2).getD k2 0 := by
  obtain ⟨a1, j1, b1, c1⟩ := mst_spec O h1 hk1 n1 (Nat.le_refl _) hn1
  obtain ⟨a2, j2, b2, c2⟩ := mst_spec O h2 hk2 n2 (Nat.le_refl _) hn2
  obtain ⟨i1, e1, f1⟩ := f j1 (by omega)
  obtain ⟨i2, e2, f2⟩ := g j2 (by omega)
  refine O.anti _ _ ?_ ?_
  · rw [c1, f1]; exact a2 i1 e1
  · rw [c2, f2]; exact a1 i2 e2
/-! swapping -/
theorem swn_swn {l : List Nat} {a b : Nat} (ha : a < l.length) (hb : b < l.length) : swn (swn l a b) a b = l := by
  have h := swp_swp (l := nz l) (a := a) (b := b) (by simpa [nz] using ha) (by simpa [nz] using hb)
  have e1 : swp (nz l) a b = nz (swn l a b) := swp_map ha hb
  have e2 : swp (nz (swn l a b)) a b = nz (swn (swn l a b) a b) := swp_map (by rw [swn_length]; exact ha) (by rw [swn_length]; exact hb)
  rw [e1, e2] at h
  unfold nz at h
  exact (List.map_inj_right (fun x y e => by omega)).1 h
theorem sg_ok {ns : List Nat} {a b : Nat} (hp : ∀ n ∈ ns, 0 < n) (ha : a < ns.length) (hb : b < ns.length) (m : Nat) : okIdx (nz ns) (swp (ixl (swn ns a b) m) a b) = true := by
  have hl := ixl_length (swn ns a b) m
  have hl2 := swn_length ns a b
  have hz : (nz ns).length = ns.length := by simp [nz]
  have hp' : ∀ n ∈ swn ns a b, 0 < n := fun n hn => hp n (mem_swn ha hb hn)
  refine okIdx_iff.2 ⟨by rw [swp_length]; omega, swp_bd (by omega) (by omega) (by omega) fun k n x h1 h2 => ?_⟩
  have e1 : swp (nz ns) a b = nz (swn ns a b) := swp_map ha hb
  rw [e1] at h1
  simp only [nz, List.getElem?_map, Option.map_eq_some_iff] at h1
  obtain ⟨n', h3, rfl⟩ := h1
  exact ixl_bd hp' h3 h2
def sg (ns : List Nat) (a b m : Nat) : Nat := (pz ((nz ns).zip (swp (ixl (swn ns a b) m) a b))).toNat
theorem sg_spec {ns : List Nat} {a b : Nat} (hp : ∀ n ∈ ns, 0 < n) (ha : a < ns.length) (hb : b < ns.length) (m : Nat) :
    sg ns a b m < PR ns ∧ ixl ns (sg ns a b m) = swp (ixl (swn ns a b) m) a b ∧ pz ((nz ns).zip (swp (ixl (swn ns a b) m) a b)) = (sg ns a b m : Nat) := by
  have h := ixl_pz ns _ (sg_ok hp ha hb m)
  unfold sg
  exact ⟨by omega, h.2, by omega⟩
theorem sg_sg {ns : List Nat} {a b : Nat} (hp : ∀ n ∈ ns, 0 < n) (ha : a < ns.length) (hb : b < ns.length) (m : Nat) (hm : m < PR ns) : sg ns a b (sg (swn ns a b) a b m) = m := by
  have hp' : ∀ n ∈ swn ns a b, 0 < n := fun n hn => hp n (mem_swn ha hb hn)
  have hl2 := swn_length ns a b
  have h1 := sg_spec hp' (by omega : a < (swn ns a b).length) (by omega : b < (swn ns a b).length) m
  have h2 := sg_spec hp ha hb (sg (swn ns a b) a b m)
  rw [h1.2.1, swn_swn ha hb, swp_swp (by rw [ixl_length]; exact ha) (by rw [ixl_length]; exact hb), pz_ixl hp hm] at h2
  omega
theorem swData_eq {ns : List Nat} {w : Nat} {data : List Int} {a b : Nat} (hp : ∀ n ∈ ns, 0 < n) (ha : a < ns.length) (hb : b < ns.length) :
    swp (nz ns) a b = nz (swn ns a b) ∧ swData (nz ns) w data a b = flat (swn ns a b) (fun m => slot data ((sg ns a b m * w : Nat) : Int) w) (PR (swn ns a b)) := by
  have e1 : swp (nz ns) a b = nz (swn ns a b) := swp_map ha hb
  have e2 : (nz (swn ns a b)).map Int.toNat = swn ns a b := by unfold nz; rw [List.map_map]; exact List.map_id' _
  refine ⟨e1, ?_⟩
  unfold swData
  rw [e1, e2]
  congr 1
  funext m
  rw [(sg_spec hp ha hb m).2.2, Int.natCast_mul]
theorem swData_comm {ns : List Nat} {w : Nat} {data : List Int} {a b : Nat} (ha : a < ns.length) (hb : b < ns.length) : swData (nz ns) w data b a = swData (nz ns) w data a b ∧ swp (nz ns) b a = swp (nz ns) a b := by
  have hz : (nz ns).length = ns.length := by simp [nz]
  have e0 : swp (nz ns) b a = swp (nz ns) a b := swp_comm (by omega) (by omega)
  refine ⟨?_, e0⟩
  unfold swData
  rw [e0]
  congr 1
  funext m
  have e1 : swp (nz ns) a b = nz (swn ns a b) := swp_map ha hb
  have e2 : (nz (swn ns a b)).map Int.toNat = swn ns a b := by unfold nz; rw [List.map_map]; exact List.map_id' _
  rw [e1, e2, swp_comm (by rw [ixl_length, swn_length]; exact hb) (by rw [ixl_length, swn_length]; exact ha)]
/-- what holds of a swapped grid -/
theorem swap_law {ns : List Nat} {w : Nat} {data : List Int} {a b : Nat} (hg : okGrid (nz ns) w data = true) (hp : ∀ n ∈ ns, 2 ≤ n ∧ n ≤ 9) (ha : a < ns.length) (hb : b < ns.length) :
    okGrid (nz (swn ns a b)) w (swData (nz ns) w data a b) = true ∧ swData (nz (swn ns a b)) w (swData (nz ns) w data a b) b a = data ∧ swp (nz (swn ns a b)) b a = nz ns ∧
    (∀ m, m < PR ns → okIdx (nz (swn ns a b)) (swp (ixl ns m) a b) = true ∧ slot (swData (nz ns) w data a b) (pz ((nz (swn ns a b)).zip (swp (ixl ns m) a b)) * w) w = slot data ((m * w : Nat) : Int) w) ∧
    ∀ lt, Ord lt → rl lt (swData (nz ns) w data a b) w (swData (nz ns) w data a b).length = rl lt data w data.length := by
  have hG := okGrid_iff hg
  have hz : (nz ns).length = ns.length := by simp [nz]
  have hz2 : (nz (swn ns a b)).length = ns.length := by simp [nz, swn_length]
  have hpos : ∀ n ∈ ns, 0 < n := fun n hn => by have := hp n hn; omega
  have hp' : ∀ n ∈ swn ns a b, 2 ≤ n ∧ n ≤ 9 := fun n hn => hp n (mem_swn ha hb hn)
  have hpos' : ∀ n ∈ swn ns a b, 0 < n := fun n hn => by have := hp' n hn; omega
  have hl' := swn_length ns a b
  have ha' : a < (swn ns a b).length := by omega
  have hb' : b < (swn ns a b).length := by omega
  have hPR := PR_swn ha hb
  have hPR0 := PR_pos hpos
  have hdl : data.length = PR ns * w := by
    have := hG.2.2.2.2.2.2.1
    rw [prod_nz, ← Int.natCast_mul] at this
    omega
  have hsl : ∀ m, (slot data ((sg ns a b m * w : Nat) : Int) w).length = w := fun m => slot_m hdl (sg_spec hpos ha hb m).1
  obtain ⟨e1, e2⟩ := swData_eq (w := w) (data := data) hpos ha hb
  have hdl' : (swData (nz ns) w data a b).length = PR (swn ns a b) * w := by rw [e2]; exact flat_leng fun j _ => hsl j
  have hst : ∀ m, m < PR ns → slot (swData (nz ns) w data a b) ((m * w : Nat) : Int) w = slot data ((sg ns a b m * w : Nat) : Int) w := fun m hm => by
    rw [e2]; exact flat_slot (fun j _ => hsl j) m (by omega)
  have hok : okGrid (nz (swn ns a b)) w (swData (nz ns) w data a b) = true := by
    unfold okGrid
    have g1 : (nz (swn ns a b)).all (fun n => decide (2 ≤ n ∧ n ≤ 9)) = true := by
      rw [List.all_eq_true]
      intro x hx
      obtain ⟨n, hn, rfl⟩ := List.mem_map.1 hx
      have := hp' n hn
      simp; omega
    have g2 : (swData (nz ns) w data a b).all (fun v => decide (0 ≤ v ∧ v ≤ 65535)) = true := by
      rw [List.all_eq_true]
      intro x hx
      have hx2 : x ∈ data := by
        rw [e2] at hx
        obtain ⟨j, _, hj⟩ := mem_flat hx
        exact slot_mem hj
      exact List.all_eq_true.1 hG.2.2.2.2.2.2.2 x hx2
    rw [g1, g2, prod_nz, hPR, hdl', hPR]
    simp only [Bool.and_true, Bool.and_eq_true, decide_eq_true_eq]
    exact ⟨⟨by omega, by omega⟩, by omega, by simp⟩
  have hsg := fun m hm => sg_sg hpos ha hb m hm
  have hback : ∀ m, m < PR ns → slot (swData (nz ns) w data a b) ((sg (swn ns a b) a b m * w : Nat) : Int) w = slot data ((m * w : Nat) : Int) w := fun m hm => by
    have hs := sg_spec hpos' ha' hb' m
    rw [hst _ (by omega), hsg m hm]
  refine ⟨hok, ?_, ?_, fun m hm => ?_, fun lt O => ?_⟩
  · rw [(swData_comm ha' hb').1, (swData_eq hpos' ha' hb').2, swn_swn ha hb]
    exact flat_self hdl hback
  · rw [(swData_comm (w := w) (data := data) ha' hb').2, (swData_eq (w := w) (data := data) hpos' ha' hb').1, swn_swn ha hb]
  · have hs := sg_spec hpos' ha' hb' m
    have ho := sg_ok hpos' ha' hb' m
    rw [swn_swn ha hb] at hs ho
    refine ⟨ho, ?_⟩
    rw [hs.2.2, ← Int.natCast_mul]
    exact hback m hm
  · have hw : 0 < w := by omega
    rw [hdl', hdl, hPR, rl_mst (n := PR ns) (by rw [hdl', hPR]) hw _ (Nat.le_refl _), rl_mst hdl hw _ (Nat.le_refl _)]
    have hm1 := mst_length (lt := lt) (m := PR ns) (by rw [hdl', hPR] : (swData (nz ns) w data a b).length = PR ns * w) (Nat.le_refl _) hPR0
    have hm2 := mst_length (lt := lt) hdl (Nat.le_refl _) hPR0
    refine List.ext_getElem (by omega) fun k h1 h2 => ?_
    have key := mst_same O (d1 := swData (nz ns) w data a b) (d2 := data) (w1 := w) (w2 := w) (n1 := PR ns) (n2 := PR ns) (k1 := k) (k2 := k) (by rw [hdl', hPR]) hdl (by omega) (by omega) hPR0 hPR0
      (fun j hj => ⟨sg ns a b j, (sg_spec hpos ha hb j).1, by unfold col; rw [hst j hj]⟩)
      (fun j hj => ⟨sg (swn ns a b) a b j, by have := (sg_spec hpos' ha' hb' j).1; omega, by unfold col; rw [hback j hj]⟩)
    rw [List.getD_eq_getElem?_getD, List.getD_eq_getElem?_getD, List.getElem?_eq_getElem h1, List.getElem?_eq_getElem h2] at key
    simpa using key
end Go.Proofs.Ytfhmfpneiagakaa
