/- What some functions of the program answer at values that mean given lists and numbers, each proved of the program's own code. Conditions: those that each theorem names. -/
import Derived.Test.YtfhmfpneiagakaaP1
namespace Go.Gr
def swp (l : List Int) (a b : Nat) : List Int := (l.set a (l.getD b 0)).set b (l.getD a 0)
def swn (l : List Nat) (a b : Nat) : List Nat := (l.set a (l.getD b 0)).set b (l.getD a 0)
theorem swp_length (l : List Int) (a b : Nat) : (swp l a b).length = l.length := by simp [swp]
theorem swn_length (l : List Nat) (a b : Nat) : (swn l a b).length = l.length := by simp [swn]
theorem swp_get {l : List Int} {a b : Nat} (ha : a < l.length) (hb : b < l.length) (k : Nat) : (swp l a b)[k]? = if k = b then l[a]? else if k = a then l[b]? else l[k]? := by
  unfold swp
  rw [List.getElem?_set, List.getElem?_set]
  by_cases e1 : k = b
  · subst e1
    simp [hb, ha, List.getD_eq_getElem?_getD]
  · rw [if_neg (fun e => e1 e.symm), if_neg e1]
    by_cases e2 : k = a
    · subst e2
      simp [ha, hb, List.getD_eq_getElem?_getD]
    · rw [if_neg (fun e => e2 e.symm), if_neg e2]
theorem swn_get {l : List Nat} {a b : Nat} (ha : a < l.length) (hb : b < l.length) (k : Nat) : (swn l a b)[k]? = if k = b then l[a]? else if k = a then l[b]? else l[k]? := by
  unfold swn
  rw [List.getElem?_set, List.getElem?_set]
  by_cases e1 : k = b
  · subst e1
    simp [hb, ha, List.getD_eq_getElem?_getD]
  · rw [if_neg (fun e => e1 e.symm), if_neg e1]
    by_cases e2 : k = a
    · subst e2
      simp [ha, hb, List.getD_eq_getElem?_getD]
    · rw [if_neg (fun e => e2 e.symm), if_neg e2]
theorem swp_map {l : List Nat} {a b : Nat} (ha : a < l.length) (hb : b < l.length) : swp (l.map fun n : Nat => (n : Int)) a b = (swn l a b).map fun n : Nat => (n : Int) := by
  refine List.ext_getElem? fun k => ?_
  rw [swp_get (by simpa using ha) (by simpa using hb), List.getElem?_map, List.getElem?_map, List.getElem?_map, List.getElem?_map, swn_get ha hb]
  by_cases e1 : k = b
  · simp [e1]
  · by_cases e2 : k = a
    · subst e2; simp [e1]
    · simp [e1, e2]
theorem mem_swn {l : List Nat} {a b : Nat} (ha : a < l.length) (hb : b < l.length) {n : Nat} (hn : n ∈ swn l a b) : n ∈ l := by
  obtain ⟨k, hk⟩ := List.getElem?_of_mem hn
  rw [swn_get ha hb] at hk
  split at hk
  · exact List.mem_of_getElem? hk
  · split at hk <;> exact List.mem_of_getElem? hk
theorem swp_app {l r : List Int} {a b : Nat} (ha : a < l.length) (hb : b < l.length) : swp (l ++ r) a b = swp l a b ++ r := by
  unfold swp
  have e1 : (l ++ r).getD b 0 = l.getD b 0 := by
    rw [List.getD_eq_getElem?_getD, List.getD_eq_getElem?_getD, List.getElem?_append_left hb]
  have e2 : (l ++ r).getD a 0 = l.getD a 0 := by
    rw [List.getD_eq_getElem?_getD, List.getD_eq_getElem?_getD, List.getElem?_append_left ha]
  rw [e1, e2, List.set_append_left _ _ ha, List.set_append_left _ _ (by simpa using hb)]
theorem swp_swp {l : List Int} {a b : Nat} (ha : a < l.length) (hb : b < l.length) : swp (swp l a b) a b = l := by
  refine List.ext_getElem? fun k => ?_
  rw [swp_get (by rw [swp_length]; exact ha) (by rw [swp_length]; exact hb), swp_get ha hb, swp_get ha hb, swp_get ha hb]
  by_cases e1 : k = b
  · subst e1
    by_cases e2 : a = k
    · subst e2; simp
    · simp [e2]
  · by_cases e2 : k = a
    · subst e2; simp [e1]
    · simp [e1, e2]
theorem swp_comm {l : List Int} {a b : Nat} (ha : a < l.length) (hb : b < l.length) : swp l a b = swp l b a := by
  refine List.ext_getElem? fun k => ?_
  rw [swp_get ha hb, swp_get hb ha]
  by_cases e1 : k = b
  · subst e1
    by_cases e2 : k = a
    · subst e2; simp
    · simp [e2]
  · simp [e1]
/-- a swapped index of the swapped sizes is an index of the sizes -/
theorem swp_bd {size l : List Int} {a b : Nat} (ha : a < size.length) (hb : b < size.length) (hl : l.length = size.length) (h : ∀ (k : Nat) (n x : Int), (swp size a b)[k]? = some n → l[k]? = some x → 0 ≤ x ∧ x ≤ n - 1) :
    ∀ (k : Nat) (n x : Int), size[k]? = some n → (swp l a b)[k]? = some x → 0 ≤ x ∧ x ≤ n - 1 := by
  intro k n x hn hx
  rw [swp_get (by omega) (by omega)] at hx
  split at hx
  · rename_i e; subst e
    refine h a n x ?_ hx
    rw [swp_get ha hb]
    split
    · rename_i e; subst e; exact hn
    · simp [hn]
  · rename_i e1
    split at hx
    · rename_i e2; subst e2
      refine h b n x ?_ hx
      rw [swp_get ha hb]; simp [hn]
    · rename_i e2
      refine h k n x ?_ hx
      rw [swp_get ha hb]; simp [e1, e2, hn]
end Go.Gr
