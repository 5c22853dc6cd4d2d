/- What some functions of the program answer at values that mean given lists and numbers, each proved of the program's own code. Conditions: those that each theorem names. -/
import Derived.Test.YtfhmfpneiagakaaP3
set_option linter.unusedSimpArgs false
set_option linter.unusedVariables false
set_option maxHeartbeats 8000000
set_option maxRecDepth 100000
namespace Go.Proofs.Ytfhmfpneiagakaa
open Go Go.V Go.Gr
theorem flat_congr {ns : List Nat} {f g : Nat → List Int} {n : Nat} (h : ∀ m, m < n → f m = g m) : flat ns f n = flat ns g n := by
  induction n with
  | zero => rfl
  | succ n ih => rw [flat_succ, flat_succ, ih fun m hm => h m (by omega), h n (by omega)]
theorem slot_getD {data : List Int} {w m c : Nat} (hc : c < w) : (slot data ((m * w : Nat) : Int) w).getD c 0 = data.getD (m * w + c) 0 := by
  unfold slot
  rw [Int.toNat_natCast, Int.toNat_natCast, List.getD_eq_getElem?_getD, List.getD_eq_getElem?_getD, List.getElem?_take_of_lt hc, List.getElem?_drop]
theorem nz_toNat (ns : List Nat) : (nz ns).map Int.toNat = ns := by unfold nz; rw [List.map_map]; exact List.map_id' _
theorem PR_64 {ns : List Nat} (h1 : ns.length ≤ 3) (h2 : ∀ n ∈ ns, 2 ≤ n ∧ n ≤ 4) : PR ns ≤ 64 := by
  have hbb : ∀ l : List Nat, (∀ n ∈ l, 2 ≤ n ∧ n ≤ 4) → PR l ≤ 4 ^ l.length := by
    intro l
    induction l with
    | nil => intro _; decide
    | cons x l ih =>
      intro hl
      have h3 := ih fun n hn => hl n (by simp [hn])
      have h4 := hl x (by simp)
      rw [PR, List.length_cons, Nat.pow_succ, Nat.mul_comm]
      exact Nat.mul_le_mul h3 h4.2
  exact Nat.le_trans (hbb _ h2) (Nat.pow_le_pow_right (by omega) h1)
theorem pkIn_iff {out : Int} {outs : List Int} : pkIn out outs = true ↔ (1 ≤ outs.length ∧ outs.length ≤ 4) ∧ ∀ o ∈ outs, 0 ≤ o ∧ o ≤ out - 1 := by
  unfold pkIn
  simp only [Bool.and_eq_true, decide_eq_true_eq, List.all_eq_true]
theorem pkData_eq {ns : List Nat} {w : Nat} {data outs : List Int} : pkData (nz ns) w data outs = flat ns (pkF w data outs) (PR ns) := by
  unfold pkData
  rw [nz_toNat]
theorem pkF_length {w : Int} {data outs : List Int} {m : Nat} : (pkF w data outs m).length = outs.length := by simp [pkF]
theorem pk_slot {ns : List Nat} {w : Nat} {data outs : List Int} {m : Nat} (hm : m < PR ns) : slot (pkData (nz ns) w data outs) ((m * outs.length : Nat) : Int) (outs.length : Nat) = pkF w data outs m := by
  rw [pkData_eq]
  exact flat_slot (fun j _ => pkF_length) m hm
theorem pk_len {ns : List Nat} {w : Nat} {data outs : List Int} : (pkData (nz ns) w data outs).length = PR ns * outs.length := by
  rw [pkData_eq]
  exact flat_leng fun j _ => pkF_length
theorem pkF_get {w : Nat} {data outs : List Int} {m k : Nat} {c : Int} (hk : outs[k]? = some c) (hc : 0 ≤ c ∧ c ≤ (w : Int) - 1) : (pkF w data outs m).getD k 0 = (slot data ((m * w : Nat) : Int) w).getD c.toNat 0 := by
  rw [slot_getD (by omega)]
  unfold pkF
  rw [List.getD_eq_getElem?_getD, List.getElem?_map, hk, Int.toNat_natCast]
  rfl
def allO (w : Nat) : List Int := (List.range w).map fun k : Nat => (k : Int)
theorem allO_in {w : Nat} (h1 : 1 ≤ w) (h2 : w ≤ 4) : pkIn w (allO w) = true := pkIn_iff.2 ⟨by simp [allO]; omega, fun o ho => by
  obtain ⟨k, hk, rfl⟩ := List.mem_map.1 ho
  have := List.mem_range.1 hk
  omega⟩
theorem pk_all {ns : List Nat} {w : Nat} {data : List Int} (h : data.length = PR ns * w) : pkData (nz ns) w data (allO w) = data := by
  rw [pkData_eq]
  refine flat_self h fun m hm => ?_
  have hl := slot_m h hm
  refine List.ext_getElem (by rw [pkF_length, hl]; simp [allO]) fun k h1 h2 => ?_
  have h3 : k < w := by omega
  have e := pkF_get (w := w) (data := data) (outs := allO w) (m := m) (k := k) (c := (k : Int)) (by simp [allO, h3]) (by omega)
  rw [Int.toNat_natCast, List.getD_eq_getElem?_getD, List.getD_eq_getElem?_getD, List.getElem?_eq_getElem h1, List.getElem?_eq_getElem h2] at e
  simpa using e
theorem pk_ok {ns : List Nat} {w : Nat} {data outs : List Int} (hg : okGrid (nz ns) w data = true) (ho : pkIn w outs = true) (h : PR ns * outs.length ≤ 4096) : okGrid (nz ns) (outs.length : Nat) (pkData (nz ns) w data outs) = true := by
  have hG := okGrid_iff hg
  have hO := pkIn_iff.1 ho
  have g2 : (pkData (nz ns) w data outs).all (fun v => decide (0 ≤ v ∧ v ≤ 65535)) = true := by
    rw [List.all_eq_true]
    intro x hx
    rw [pkData_eq] at hx
    obtain ⟨j, _, hj⟩ := mem_flat hx
    unfold pkF at hj
    obtain ⟨o, _, rfl⟩ := List.mem_map.1 hj
    rw [List.getD_eq_getElem?_getD]
    cases he : data[j * ((w : Nat) : Int).toNat + o.toNat]? with
    | none => simp
    | some y => exact List.all_eq_true.1 hG.2.2.2.2.2.2.2 y (List.mem_of_getElem? he)
  unfold okGrid
  rw [hG.2.2.2.2.1, g2, prod_nz, pk_len]
  simp only [Bool.and_true, Bool.and_eq_true, decide_eq_true_eq]
  exact ⟨⟨by omega, by omega⟩, by omega, by simp⟩
def pkBoth (f s : List Int) : List Int := s.map fun k => f.getD k.toNat 0
theorem pkBoth_in {w : Nat} {f s : List Int} (hf : pkIn w f = true) (hs : pkIn (f.length : Nat) s = true) : pkIn w (pkBoth f s) = true := by
  have h1 := pkIn_iff.1 hf
  have h2 := pkIn_iff.1 hs
  refine pkIn_iff.2 ⟨by simp [pkBoth]; omega, fun o ho => ?_⟩
  obtain ⟨k, hk, rfl⟩ := List.mem_map.1 ho
  have h3 := h2.2 k hk
  exact h1.2 _ (getD_mem (by omega))
theorem pk_pk {ns : List Nat} {w : Nat} {data f s : List Int} (hf : pkIn w f = true) (hs : pkIn (f.length : Nat) s = true) : pkData (nz ns) (f.length : Nat) (pkData (nz ns) w data f) s = pkData (nz ns) w data (pkBoth f s) := by
  have h1 := pkIn_iff.1 hf
  have h2 := pkIn_iff.1 hs
  rw [pkData_eq (data := pkData (nz ns) w data f), pkData_eq (outs := pkBoth f s)]
  refine flat_congr fun m hm => ?_
  unfold pkF pkBoth
  rw [List.map_map]
  refine List.map_congr_left fun o ho => ?_
  have h3 := h2.2 o ho
  rw [Int.toNat_natCast, Int.toNat_natCast, ← slot_getD (by omega), pk_slot hm]
  have h4 : o.toNat < f.length := by omega
  have hk : f[o.toNat]? = some (f.getD o.toNat 0) := by rw [List.getD_eq_getElem?_getD, List.getElem?_eq_getElem h4]; rfl
  have h5 := h1.2 _ (List.mem_of_getElem? hk)
  rw [pkF_get hk h5, slot_getD (by omega)]
  rfl
theorem pk_range {ns : List Nat} {w : Nat} {data f : List Int} {lt : Int → Int → Bool} (O : Ord lt) (h : data.length = PR ns * w) (hn : 0 < PR ns) {k : Nat} {c : Int} (hk : f[k]? = some c) (hc : 0 ≤ c ∧ c ≤ (w : Int) - 1) :
    (rl lt (pkData (nz ns) w data f) f.length (pkData (nz ns) w data f).length).getD k 0 = (rl lt data w data.length).getD c.toNat 0 := by
  have hl := pk_len (ns := ns) (w := w) (data := data) (outs := f)
  have hkl := (List.getElem?_eq_some_iff.1 hk).1
  rw [hl, h, rl_mst hl (by omega) _ (Nat.le_refl _), rl_mst h (by omega) _ (Nat.le_refl _)]
  have e : ∀ j, j < PR ns → col (pkData (nz ns) w data f) f.length j k = col data w j c.toNat := fun j hj => by
    unfold col
    rw [pk_slot hj, pkF_get hk hc]
  exact mst_same O hl h hkl (by omega) hn hn (fun j hj => ⟨j, hj, e j hj⟩) (fun j hj => ⟨j, hj, (e j hj).symm⟩)
theorem pk_best {ns : List Nat} {w m c : Nat} {data : List Int} {lt : Int → Int → Bool} (O : Ord lt) (h : data.length = PR ns * w) (hm : m < PR ns) (hc : c < w) : lt ((slot data ((m * w : Nat) : Int) w).getD c 0) ((rl lt data w data.length).getD c 0) = false := by
  rw [h, rl_mst h (by omega) _ (Nat.le_refl _)]
  exact (mst_spec O h hc (PR ns) (Nat.le_refl _) (by omega)).1 m hm
end Go.Proofs.Ytfhmfpneiagakaa
