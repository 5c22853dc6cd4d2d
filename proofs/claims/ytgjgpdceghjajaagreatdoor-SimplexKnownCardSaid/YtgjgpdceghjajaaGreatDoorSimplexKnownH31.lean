/- What some functions of the program answer at values that mean given lists, texts and numbers, each proved of the program's own code: part 31. Conditions: those that each theorem names. -/
import Derived.Test.YtgjgpdceghjajaaGreatDoorSimplexKnownH30
import Derived.Test.YtgjgpdceghjajaaGreatDoorSimplexKnownH28
import Derived.Test.YtgjgpdceghjajaaGreatDoorSimplexKnownH14
set_option linter.unusedSimpArgs false
set_option linter.unusedVariables false
set_option maxHeartbeats 8000000
set_option maxRecDepth 100000
section
namespace Go.Proofs.YtgjgpdceghjajaaGreatDoor
open Go Go.V
def pz (z : List (Int × Int)) : Int := z.foldl (fun p a => p * a.1 + a.2) 0
def okIdx (size xs : List Int) : Bool := decide (xs.length = size.length) && (size.zip xs).all fun a => decide (0 ≤ a.2 ∧ a.2 ≤ a.1 - 1)
def pad4 (xs : List Int) : List Int := xs ++ List.replicate (4 - xs.length) 0
theorem jap {xs : List Int} (h : xs.length ≤ 4) : (pad4 xs).length = 4 := by simp [pad4]; omega
theorem jdO {xs : List Int} {k : Nat} {x : Int} (h : xs[k]? = some x) (hl : xs.length ≤ 4) : (pad4 (xs.take k)).set k x = pad4 (xs.take (k + 1)) := by
 have hk : k < xs.length := (List.getElem?_eq_some_iff.1 h).1
 refine List.ext_getElem? fun j => ?_
 rw [List.getElem?_set]
 have h1 : (xs.take k).length = k := by simp; omega
 have h2 : (xs.take (k + 1)).length = k + 1 := by simp; omega
 have hp : (pad4 (xs.take k)).length = 4 := jap (by omega)
 by_cases e : k = j
 ·subst e
  rw [if_pos rfl, if_pos (by omega)]
  unfold pad4
  rw [List.getElem?_append_left (by omega), List.getElem?_take_of_lt (by omega), h]
 ·rw [if_neg e]
  unfold pad4
  rw [h1, h2]
  by_cases hj : j < k
  ·rw [List.getElem?_append_left (by omega), List.getElem?_append_left (by omega), List.getElem?_take_of_lt hj, List.getElem?_take_of_lt (by omega)]
  ·rw [List.getElem?_append_right (by omega), List.getElem?_append_right (by omega), h1, h2]
   simp only [List.getElem?_replicate]
   by_cases hj4 : j < 4
   ·rw [if_pos (by omega), if_pos (by omega)]
   ·rw [if_neg (by omega), if_neg (by omega)]
theorem pz_bd_aux (z : List (Int × Int)) : ∀ (p q : Int), (∀ a ∈ z, 0 ≤ a.2 ∧ a.2 ≤ a.1 - 1) → 0 ≤ p → p + 1 ≤ q →
  0 ≤ z.foldl (fun p a => p * a.1 + a.2) p ∧ z.foldl (fun p a => p * a.1 + a.2) p + 1 ≤ (z.map (·.1)).foldl (· * ·) q := by
 induction z with
 | nil => intro p q _ h1 h2; exact ⟨h1, h2⟩
 | cons a z ih =>
  intro p q h h1 h2
  have ha := h a (by simp)
  simp only [List.foldl_cons, List.map_cons]
  have h3 : 0 ≤ p * a.1 := jhB h1 (by omega)
  have h4 : (p + 1) * a.1 ≤ q * a.1 := jhI h2 (by omega)
  rw [jhX] at h4
  exact ih _ _ (fun b hb => h b (by simp [hb])) (by omega) (by omega)
theorem pz_bd {z : List (Int × Int)} (h : ∀ a ∈ z, 0 ≤ a.2 ∧ a.2 ≤ a.1 - 1) : 0 ≤ pz z ∧ pz z + 1 ≤ prod (z.map (·.1)) := pz_bd_aux z 0 1 h (by omega) (by omega)
theorem jbn {size xs : List Int} : okIdx size xs = true ↔ xs.length = size.length ∧ ∀ (k : Nat) (n x : Int), size[k]? = some n → xs[k]? = some x → 0 ≤ x ∧ x ≤ n - 1 := by
 unfold okIdx
 rw [jhx, decide_eq_true_eq, List.all_eq_true]
 constructor
 ·rintro ⟨h1, h2⟩
  refine ⟨h1, fun k n x hn hx => ?_⟩
  have := h2 (n, x) (List.mem_of_getElem? (i := k) (by rw [List.getElem?_zip_eq_some]; exact ⟨hn, hx⟩))
  simpa using this
 ·rintro ⟨h1, h2⟩
  refine ⟨h1, fun a ha => ?_⟩
  obtain ⟨k, hk⟩ := List.getElem?_of_mem ha
  rw [List.getElem?_zip_eq_some] at hk
  simpa using h2 k _ _ hk.1 hk.2
theorem jbh {size : List Int} {out : Int} {data : List Int} (h : jan size out data = true) : 1 ≤ size.length ∧ size.length ≤ 4 ∧ 1 ≤ out ∧ out ≤ 4 ∧ size.all (fun n => decide (2 ≤ n ∧ n ≤ 9)) = true ∧ (data.length : Int) ≤ 4096 ∧ (data.length : Int) = prod size * out ∧ data.all (fun v => decide (0 ≤ v ∧ v ≤ 65535)) = true := by
 unfold jan at h
 simp only [jhx] at h
 obtain ⟨⟨⟨⟨h1, h2⟩, h3⟩, h4⟩, h5⟩ := h
 simp only [decide_eq_true_eq] at h1 h2 h4
 exact ⟨h1.1, h1.2, h2.1, h2.2, h3, h4.1, h4.2, h5⟩
theorem okIdx_step {size xs : List Int} {n x : Int} (h : okIdx size xs = true) (hl : size.length = xs.length) (hx : 0 ≤ x ∧ x ≤ n - 1) : okIdx (size ++ [n].toArray.toList) (xs ++ [x].toArray.toList) = true := by
 unfold okIdx at *
 rw [List.zip_append hl]
 simp at *
 exact ⟨by omega, h.2, by omega⟩
theorem find_c (size : List Int) (out : Int) (data xs : List Int) (hg : jan size out data = true) (hx : xs.length ≤ 281474976710656) :
  Called Tryz.prog 47 [gridD size out data, .ints .i64 xs] (.tup [.iarr .i64 (if okIdx size xs then pad4 xs else [0, 0, 0, 0]), .bool (okIdx size xs)]) := by
 have hG := jbh hg
 refine jaa tbOk 6 ⟨Tryz.func47, rfl, rfl, jhy rfl⟩ ?_
 (conv => whnf)
 refine V.st ?_
 refine Cnd.split (CondB.mk (fun h => ?_) (fun h => ?_))
 ·have : okIdx size xs = false := by
   unfold okIdx
   simp at h; simp; omega
  (conv => whnf)
  refine V.st ?_
  rw [this]
  exact Fin.of rfl
 have hl : xs.length = size.length := by simp at h; omega
 clear h
 (conv => whnf)
 refine V.st ?_
 refine lp_go (xs.length) (fun k => okIdx (size.take k) (xs.take k) = true) (fun k => [(19, .int .i64 k)]) (fun k => [(6, .arr .i64 (pad4 (xs.take k)))]) V.wk ?_ ?_
 ·rfl
 intro k hk hI
 (conv => whnf)
 refine V.st ?_
 refine Cnd.split (CondB.mk (fun h => ?_) (fun h => ?_))
 ·simp only [decide_eq_true_eq] at h
  obtain ⟨x, hx1, ex⟩ := getx (xs := xs) (k := k) (by omega)
  obtain ⟨n, hn1, en⟩ := getx (xs := size) (k := k) (by omega)
  have hnb : 2 ≤ n ∧ n ≤ 9 := by
   have := List.all_eq_true.1 hG.2.2.2.2.1 n (List.mem_of_getElem? hn1)
   simpa using this
  (conv => whnf)
  refine V.st ?_
  rw [en]
  refine V.st ?_
  repeat ((try ((with_reducible refine .ext ?_); (conv => whnf))); (with_reducible refine jab (r := ?_) ?_ ?_); rotate_left; (focus (first | exact (jdI _ _ _))); (conv => whnf); refine V.st ?_)
  rw [ex]
  refine Cnd.split (CondB.mk (fun h => ?_) (fun h => ?_))
  ·have : okIdx size xs = false := by
    cases hb : okIdx size xs with
    | false => rfl
    | true =>
     have := (jbn.1 hb).2 k n x hn1 hx1
     simp at h; omega
   (conv => whnf)
   refine V.st ?_
   rw [this]
   exact Fin.of rfl
  ·(conv => whnf)
   refine V.st ?_
   simp only [jap (xs := xs.take k) (by simp; omega)]
   refine V.st ?_
   simp only [jhC, jhD]
   rw [jdO hx1 (by omega)]
   exact ⟨k + 1, ⟨by omega, (by rw [List.take_add_one, List.take_add_one, hn1, hx1]; exact okIdx_step (n := n) (x := x) hI (by simp [List.length_take]; omega) (by simp at h; omega))⟩, by omega, V.wk⟩
 ·simp only [decide_eq_false_iff_not] at h
  rw [List.take_of_length_le (by omega), List.take_of_length_le (by omega)] at hI
  (conv => whnf)
  refine V.st ?_
  have hp4 : (pad4 xs).length = 4 := jap (by omega)
  rw [List.take_of_length_le (by omega)]
  refine V.st ?_
  rw [hI]
  exact Fin.of rfl
theorem place_c (size : List Int) (out : Int) (data xs : List Int) (hg : jan size out data = true) (hx : xs.length = 4) (hi : ∀ (k : Nat) (n x : Int), size[k]? = some n → xs[k]? = some x → 0 ≤ x ∧ x ≤ n - 1) :
  Called Tryz.prog 71 [gridD size out data, .iarr .i64 xs] (.int .i64 (pz (size.zip xs) * out)) := by
 have hG := jbh hg
 have hb : ∀ k, k ≤ size.length → 0 ≤ pz ((size.zip xs).take k) ∧ pz ((size.zip xs).take k) + 1 ≤ 6561 := fun k hk => by
  have h1 := pz_bd (z := (size.zip xs).take k) (fun a ha => by
   obtain ⟨j, hj⟩ := List.getElem?_of_mem (List.mem_of_mem_take ha)
   rw [List.getElem?_zip_eq_some] at hj
   exact hi j _ _ hj.1 hj.2)
  have h2 := (jgz hG.2.2.2.2.1 k).2.1 hG.2.1
  have h3 : ((size.zip xs).take k).map (·.1) = size.take k := by
   rw [List.map_take, List.map_fst_zip (by omega)]
  rw [h3] at h1
  omega
 have hb2 := hb size.length (by omega)
 rw [List.take_of_length_le (by simp; omega)] at hb2
 refine jaa tbOk 6 ⟨Tryz.func71, rfl, rfl, jhy rfl⟩ ?_
 (conv => whnf)
 refine V.st ?_
 refine lp_go (size.length) (fun k => True) (fun k => [(5, .int .i64 (pz ((size.zip xs).take k))), (12, .int .i64 k)]) (fun k => []) V.wk ?_ ?_
 ·trivial
 intro k hk _
 (conv => whnf)
 refine V.st ?_
 refine Cnd.split (CondB.mk (fun h => ?_) (fun h => ?_))
 ·simp only [decide_eq_true_eq] at h
  obtain ⟨n, hn1, en⟩ := getx (xs := size) (k := k) (by omega)
  obtain ⟨x, hx1, ex⟩ := getx (xs := xs) (k := k) (by omega)
  have hz : (size.zip xs)[k]? = some (n, x) := by rw [List.getElem?_zip_eq_some]; exact ⟨hn1, hx1⟩
  have hs : pz ((size.zip xs).take (k + 1)) = pz ((size.zip xs).take k) * n + x := by
   rw [List.take_add_one, hz]; simp [pz]
  have h1 := hb k (by omega)
  have h2 := hb (k + 1) (by omega)
  have h3 := hi k n x hn1 hx1
  rw [hs] at h2
  have h4 : 0 ≤ pz ((size.zip xs).take k) * n := jhB h1.1 (by omega)
  refine V.r0 (V.a3 en ex @jhC) ?_
  rw [← hs]
  exact ⟨k + 1, ⟨by omega, trivial⟩, by omega, V.wk⟩
 ·simp only [decide_eq_false_iff_not] at h
  rw [List.take_of_length_le (l := size.zip xs) (by simp; omega)]
  have hm : InR .i64 (pz (size.zip xs) * out) := by
   have h5 : 0 ≤ pz (size.zip xs) * out := jhB hb2.1 (by omega)
   have h6 : pz (size.zip xs) * out ≤ 6561 * 4 := Int.mul_le_mul (by omega) (by omega) (by omega) (by omega)
   simp only [V.InR, lo, V.hi]; omega
  (conv => whnf)
  refine V.st ?_
  exact Fin.same _
theorem pz_last {size : List Int} {out : Int} {data xs : List Int} (hg : jan size out data = true) (hx : size.length ≤ xs.length) (hi : ∀ (k : Nat) (n x : Int), size[k]? = some n → xs[k]? = some x → 0 ≤ x ∧ x ≤ n - 1) :
  0 ≤ pz (size.zip xs) * out ∧ pz (size.zip xs) * out + out ≤ data.length := by
 have hG := jbh hg
 have h1 := pz_bd (z := size.zip xs) (fun a ha => by
  obtain ⟨j, hj⟩ := List.getElem?_of_mem ha
  rw [List.getElem?_zip_eq_some] at hj
  exact hi j _ _ hj.1 hj.2)
 rw [List.map_fst_zip (by omega)] at h1
 refine ⟨jhB h1.1 (by omega), ?_⟩
 have h2 : (pz (size.zip xs) + 1) * out ≤ prod size * out := jhI h1.2 (by omega)
 rw [jhX] at h2
 omega
def slot (data : List Int) (p out : Int) : List Int := (data.drop p.toNat).take out.toNat
theorem slot_copy {data : List Int} {p out : Int} (h1 : 0 ≤ p) (h2 : 0 ≤ out) (h3 : p + out ≤ data.length) :
  List.take out.toNat (V.setAt (List.replicate out.toNat 0) 0 (List.take out.toNat (List.drop p.toNat (List.take (p + out).toNat data)))) = slot data p out := by
 have e1 : List.take out.toNat (List.drop p.toNat (List.take (p + out).toNat data)) = slot data p out := by
  have : (p + out).toNat = p.toNat + out.toNat := by omega
  rw [this, List.drop_take, List.take_take]
  simp [slot]
 rw [e1]
 have hl : (slot data p out).length = out.toNat := by simp [slot]; omega
 unfold V.setAt
 rw [List.take_zero, List.nil_append, List.take_append_of_le_length (by omega), List.take_of_length_le (by omega)]
theorem values_c (size : List Int) (out : Int) (data xs : List Int) (hg : jan size out data = true) (hx : xs.length = 4) (hi : ∀ (k : Nat) (n x : Int), size[k]? = some n → xs[k]? = some x → 0 ≤ x ∧ x ≤ n - 1) :
  Called Tryz.prog 40 [gridD size out data, .iarr .i64 xs] (.ints .i64 (slot data (pz (size.zip xs) * out) out)) := by
 have hG := jbh hg
 have hp := pz_last hg (by omega) hi
 refine jaa tbOk 6 ⟨Tryz.func40, rfl, rfl, jhy rfl⟩ ?_
 (conv => whnf)
 refine V.st ?_
 repeat ((try ((with_reducible refine .ext ?_); (conv => whnf))); (with_reducible refine jab (r := ?_) ?_ ?_); rotate_left; (focus (first | exact (place_c _ _ _ _ hg hx hi))); (conv => whnf); refine V.st ?_)
 try refine And.intro (fun _ => ⟨by omega, by simp⟩) ?_
 (conv => whnf)
 refine V.st ?_
 exact Fin.of (by rw [slot_copy hp.1 (by omega) hp.2])
theorem jgp {data : List Int} {p out : Int} (h1 : 0 ≤ p) (h2 : 0 ≤ out) (h3 : p + out ≤ data.length) : (slot data p out).length = out.toNat := by
 simp [slot]; omega
theorem jef {size xs : List Int} (h : okIdx size xs = true) (h4 : size.length ≤ 4) : (pad4 xs).length = 4 ∧ ∀ (k : Nat) (n x : Int), size[k]? = some n → (pad4 xs)[k]? = some x → 0 ≤ x ∧ x ≤ n - 1 := by
 obtain ⟨h1, h2⟩ := jbn.1 h
 refine ⟨jap (by omega), fun k n x hn hx => ?_⟩
 have hk := (List.getElem?_eq_some_iff.1 hn).1
 unfold pad4 at hx
 rw [List.getElem?_append_left (by omega)] at hx
 exact h2 k n x hn hx
theorem zip_pad {size xs : List Int} (h : okIdx size xs = true) : size.zip (pad4 xs) = size.zip xs := by
 obtain ⟨h1, h2⟩ := jbn.1 h
 unfold pad4
 have := List.zip_append (l₁ := size) (r₁ := ([] : List Int)) (l₂ := xs) (r₂ := List.replicate (4 - xs.length) 0) h1.symm
 simpa using this
theorem gat_c (size : List Int) (out : Int) (data xs : List Int) (hs : size.length ≤ 281474976710656) (hd : data.length ≤ 281474976710656) (hx : xs.length ≤ 281474976710656) :
  Called Tryz.prog 20 [gridD size out data, .ints .i64 xs] (.tup [.ints .i64 (if jan size out data && okIdx size xs then slot data (pz (size.zip xs) * out) out else []), .int .i64 (if jan size out data then (if okIdx size xs then 0 else 2) else 100)]) := by
 refine jaa tbOk 6 ⟨Tryz.func20, rfl, rfl, jhy rfl⟩ ?_
 (conv => whnf)
 refine V.st ?_
 repeat ((try ((with_reducible refine .ext ?_); (conv => whnf))); (with_reducible refine jab (r := ?_) ?_ ?_); rotate_left; (focus (first | exact (jch _ _ _ hs hd))); (conv => whnf); refine V.st ?_)
 cases hg : jan size out data with
 | false =>
  refine Cnd.split (CondB.mk (fun h => ?_) (fun h => ?_))
  ·(conv => whnf)
   refine V.st ?_
   exact Fin.tup ⟨Fin.nil _, Fin.of rfl, trivial⟩
  ·simp at h
 | true =>
  have hG := jbh hg
  refine Cnd.split (CondB.mk (fun h => ?_) (fun h => ?_))
  ·simp at h
  have hpl : (if okIdx size xs = true then pad4 xs else [0, 0, 0, 0]).length = 4 := by
   split
   ·rename_i h; exact (jef h hG.2.1).1
   ·rfl
  (conv => whnf)
  refine V.st ?_
  repeat ((try ((with_reducible refine .ext ?_); (conv => whnf))); (with_reducible refine jab (r := ?_) ?_ ?_); rotate_left; (focus (first | exact (find_c _ _ _ _ hg hx))); (conv => whnf); refine V.st ?_)
  refine Cnd.split (CondB.mk (fun hi => ?_) (fun hi => ?_))
  ·have hi2 : okIdx size xs = false := by simpa using hi
   (conv => whnf)
   refine V.st ?_
   rw [hi2]
   exact Fin.tup ⟨Fin.nil _, Fin.of rfl, trivial⟩
  ·have hi2 : okIdx size xs = true := by simpa using hi
   obtain ⟨hp1, hp2⟩ := jef hi2 hG.2.1
   rw [hi2, if_pos rfl]
   (conv => whnf)
   refine V.st ?_
   repeat ((try ((with_reducible refine .ext ?_); (conv => whnf))); (with_reducible refine jab (r := ?_) ?_ ?_); rotate_left; (focus (first | exact (values_c _ _ _ _ hg hp1 hp2))); (conv => whnf); refine V.st ?_)
   rw [zip_pad hi2]
   exact Fin.of rfl
end Go.Proofs.YtgjgpdceghjajaaGreatDoor
end
section
namespace Go.Proofs.YtgjgpdceghjajaaGreatDoor
open Go Go.V Go.Nb
def smF (P : Nat → Rat) : Nat → Rat
 | 0 => P 0
 | k + 1 => smF P k + P (k + 1)
theorem fq_sm {P : Nat → Rat} {a : Nat} (h : ∀ k, Fq a (P k)) : ∀ k, Fq ((k + 1) * a + k) (smF P k)
 | 0 => (h 0).mono (by omega)
 | k + 1 => ((fq_sm h k).add (h (k + 1))).mono (by rw [Nat.add_mul (k + 1)]; omega)
def gvF (zs : List Int) (out : Int) (data : List Int) (j : Nat) (i k l : Int) : Rat := (((slot data (pz (zs.zip ([i, k, l].take zs.length)) * out) out).getD j 0 : Int) : Rat)
def evQ (zs : List Int) (out : Int) (data : List Int) (x0 x1 x2 : Rat) (j : Nat) : Rat := evF (zs.getD 0 2) (zs.getD 1 2) (zs.getD 2 2) (gvF zs out data j) x0 x1 x2 / 65535
theorem jaI {zs : List Int} {out : Int} {data : List Int} (h : jan zs out data = true) : (1 ≤ out ∧ out ≤ 4) ∧ (∀ z ∈ zs, 2 ≤ z ∧ z ≤ 9) ∧ ((data.length : Int) ≤ 4096 ∧ (data.length : Int) = prod zs * out) ∧ ∀ v ∈ data, 0 ≤ v ∧ v ≤ 65535 := by
 unfold jan at h
 simp only [jhx, decide_eq_true_eq, List.all_eq_true] at h
 exact ⟨h.1.1.1.2, h.1.1.2, h.1.2, h.2⟩
theorem jbO {l : List Int} {p : Int → Prop} (h : ∀ v ∈ l, p v) (h0 : p 0) (j : Nat) : p (l.getD j 0) := by
 by_cases hj : j < l.length
 ·rw [List.getD_eq_getElem?_getD, List.getElem?_eq_getElem hj]
  exact h _ (List.getElem_mem hj)
 ·rw [List.getD_eq_getElem?_getD, List.getElem?_eq_none (by omega)]
  exact h0
theorem jck {data : List Int} (h : ∀ v ∈ data, 0 ≤ v ∧ v ≤ 65535) (p w : Int) (j : Nat) : 0 ≤ (slot data p w).getD j 0 ∧ (slot data p w).getD j 0 ≤ 65535 :=
 jbO (p := fun v => 0 ≤ v ∧ v ≤ 65535) (fun v hv => h v (List.mem_of_mem_drop (List.mem_of_mem_take hv))) (by omega) j
theorem gat_at {zs : List Int} {out : Int} {data xs : List Int} (h : jan zs out data = true) (hi : okIdx zs xs = true) (hl : zs.length ≤ 4) (hx : xs.length ≤ 4) : Called Tryz.prog 20 [gridD zs out data, .ints .i64 xs] (.tup [.ints .i64 (slot data (pz (zs.zip xs) * out) out), .int .i64 0]) := by
 have o := jaI h
 have c := gat_c zs out data xs (by omega) (by omega) (by omega)
 rw [h, hi] at c
 exact c
theorem jd2 {zs : List Int} {out : Int} {data xs : List Int} (h : jan zs out data = true) (hi : okIdx zs xs = true) : (slot data (pz (zs.zip xs) * out) out).length = out.toNat := by
 have o := jaI h
 unfold okIdx at hi
 simp only [jhx, decide_eq_true_eq, List.all_eq_true] at hi
 have b := pz_bd hi.2
 have e : (zs.zip xs).map (·.1) = zs := List.map_fst_zip (by omega)
 rw [e] at b
 have h1 : 0 ≤ pz (zs.zip xs) * out := jhB b.1 (by omega)
 have h2 : pz (zs.zip xs) * out + out ≤ data.length := by
  rw [o.2.2.1.2]
  have := jhI b.2 (show 0 ≤ out by omega)
  rw [jhX, jhY] at this
  exact this
 exact jgp h1 (by omega) h2
theorem ord3_mem (r0 r1 r2 : Rat) : ord3 r0 r1 r2 = [0, 1, 2] ∨ ord3 r0 r1 r2 = [0, 2, 1] ∨ ord3 r0 r1 r2 = [1, 0, 2] ∨ ord3 r0 r1 r2 = [1, 2, 0] ∨ ord3 r0 r1 r2 = [2, 0, 1] ∨ ord3 r0 r1 r2 = [2, 1, 0] := by
 unfold ord3
 repeat' split
 all_goals simp
theorem ord2_mem (r0 r1 : Rat) : ord2 r0 r1 = [0, 1] ∨ ord2 r0 r1 = [1, 0] := by
 unfold ord2
 split
 ·exact .inr rfl
 ·exact .inl rfl
theorem sp_20 : spB 2 0 = 0 ∧ spR 2 0 = 0 := by decide +kernel
theorem ord3_20 {r0 r1 : Rat} (h0 : 0 ≤ r0) (h1 : 0 ≤ r1) : ord3 r0 r1 0 = ord2 r0 r1 ++ [2] := by
 have g0 : ¬ r0 < 0 := Rat.not_lt.2 h0
 have g1 : ¬ r1 < 0 := Rat.not_lt.2 h1
 unfold ord3 ord2
 by_cases h : r0 < r1
 ·rw [if_pos h, if_neg g0, if_pos h]; rfl
 ·rw [if_neg h, if_neg g1, if_neg h]; rfl
theorem spR_nn {s : Int} (hs : 2 ≤ s) (x : Rat) : 0 ≤ spR s x := by
 have h := (Rat.le_floor_iff (x := (gp s x).floor) (a := gp s x)).1 (Int.le_refl _)
 have g : ((spB s x : Int) : Rat) ≤ (((gp s x).floor : Int) : Rat) := Rat.intCast_le_intCast.2 (by unfold spB; omega)
 unfold spR
 grind
theorem jbb : (65535 : Int).natAbs < 10 ^ 5 := by decide
theorem jcF : ((65535 : Int) : Rat).num ≠ 0 := by decide
theorem valU2 (z0 z1 b0 b1 out : Int) (data O : List Int) (rq : Nat → Rat) (fr : ∀ k, Fq 43 (rq k)) (U : Nat → List Int) (ho : 1 ≤ out ∧ out ≤ 4) (hU : ∀ k, k < 3 → (U k).length = out.toNat ∧ ∀ j, 0 ≤ (U k).getD j 0 ∧ (U k).getD j 0 ≤ 65535) (hl : O.length = 2) (hx : ∀ k, k < 2 → 0 ≤ O.getD k 0 ∧ O.getD k 0 < 4) (hi : ∀ k, k < 2 → InR .i64 ((atK [b0, b1, 0, 0] O k).getD (O.getD k 0).toNat 0 + 1))
  (pt : ∀ k, k < 3 → Called Tryz.prog 80 [.agg [.ints .i64 [z0, z1], .int .i64 out, .ints .i64 data, .ints .i64 [b0, b1], .ints .i64 O, slQ (fun k => txq (wqN rq O 2 k)) 3], .iarr .i64 (atK [b0, b1, 0, 0] O k)] (.tup [.ints .i64 (U k), .int .i64 0])) :
  Called Tryz.prog 45 [.agg [.ints .i64 [z0, z1], .int .i64 out, .ints .i64 data, .ints .i64 [b0, b1], .ints .i64 O, slQ (fun k => txq (wqN rq O 2 k)) 3]] (.tup [slQ (fun j => txq (smF (fun k => wqN rq O 2 k * (((U k).getD j 0 : Int) : Rat)) 2 / 65535)) out.toNat, .int .i64 0]) := by
 have v1 : ∀ j : Nat, j < out.toNat → Called Tryz.prog 83 [.int .i64 (j : Int), .ref [.slf 1 3 (fun j => List.take 1 (List.drop (j * 1) [.ints .i64 (U 0), .ints .i64 (U 1), .ints .i64 (U 2)]))], .ref [slQ (fun k => txq (wqN rq O 2 k)) 3]] (.tup [frT (smF (fun k => wqN rq O 2 k * (((U k).getD j 0 : Int) : Rat)) 2 / 65535), .int .i64 0]) := by
  intro j hj
  have fu := jar (n := 65535) (by omega)
  have fm : ∀ k, k < 3 → Fq 92 (wqN rq O 2 k * (((U k).getD j 0 : Int) : Rat)) := fun k hk => (fq_wq fr O 2 k).mul (jaW (n := 5) (by have := (hU k hk).2 j; omega) (by omega))
  have i0 := jar (n := (U 0).getD j 0) (by have := (hU 0 (by omega)).2 j; omega)
  have u0 := zmul (fq_wq fr O 2 0) (jaW (n := 5) (z := (U 0).getD j 0) (by have := (hU 0 (by omega)).2 j; omega) (by omega)) (by decide) (by decide) (by decide)
  have m0 := prod3_0 (fun k => txq (wqN rq O 2 k)) (fun k => txq (wqN rq O 2 k * (((U k).getD j 0 : Int) : Rat))) U j _ _ (by rw [(hU 0 (by omega)).1]; exact hj) i0 u0
  have i1 := jar (n := (U 1).getD j 0) (by have := (hU 1 (by omega)).2 j; omega)
  have u1 := zmul (fq_wq fr O 2 1) (jaW (n := 5) (z := (U 1).getD j 0) (by have := (hU 1 (by omega)).2 j; omega) (by omega)) (by decide) (by decide) (by decide)
  have m1 := prod3_1 (fun k => txq (wqN rq O 2 k)) (fun k => txq (wqN rq O 2 k * (((U k).getD j 0 : Int) : Rat))) U j _ _ (by rw [(hU 1 (by omega)).1]; exact hj) i1 u1
  have i2 := jar (n := (U 2).getD j 0) (by have := (hU 2 (by omega)).2 j; omega)
  have u2 := zmul (fq_wq fr O 2 2) (jaW (n := 5) (z := (U 2).getD j 0) (by have := (hU 2 (by omega)).2 j; omega) (by omega)) (by decide) (by decide) (by decide)
  have m2 := prod3_2 (fun k => txq (wqN rq O 2 k)) (fun k => txq (wqN rq O 2 k * (((U k).getD j 0 : Int) : Rat))) U j _ _ (by rw [(hU 2 (by omega)).1]; exact hj) i2 u2
  have li := list3_3 (fun k => txq (wqN rq O 2 k * (((U k).getD j 0 : Int) : Rat))) m0 m1 m2
  have s0 : Fq 92 (smF (fun k => wqN rq O 2 k * (((U k).getD j 0 : Int) : Rat)) 0) := fm 0 (by omega)
  have s1 : Fq 185 (smF (fun k => wqN rq O 2 k * (((U k).getD j 0 : Int) : Rat)) 1) := s0.add (fm 1 (by omega))
  have s2 : Fq 278 (smF (fun k => wqN rq O 2 k * (((U k).getD j 0 : Int) : Rat)) 2) := s1.add (fm 2 (by omega))
  have su := sum3 (fun k => txq (wqN rq O 2 k * (((U k).getD j 0 : Int) : Rat))) (fun k => txq (smF (fun k => wqN rq O 2 k * (((U k).getD j 0 : Int) : Rat)) k)) rfl (zadd s0 (fm 1 (by omega)) (by decide) (by decide) (by decide)) (zadd s1 (fm 2 (by omega)) (by decide) (by decide) (by decide))
  have dv := zdiv s2 (jaW (n := 5) (z := 65535) jbb (by decide)) jcF (by decide) (by decide) (by decide)
  rw [show ((65535 : Int) : Rat) = 65535 from rfl] at fu dv
  exact val1_3 (fun k => txq (wqN rq O 2 k)) (fun k => txq (wqN rq O 2 k * (((U k).getD j 0 : Int) : Rat))) (fun k => txq (smF (fun k => wqN rq O 2 k * (((U k).getD j 0 : Int) : Rat)) k)) U j _ _ _ _ li su fu dv
 refine value2_t z0 z1 b0 b1 out data O (fun k => txq (wqN rq O 2 k)) U _ _ hl hx hi pt ?_
 have h4 : out = 1 ∨ out = 2 ∨ out = 3 ∨ out = 4 := by omega
 rcases h4 with e | e | e | e <;> subst e
 ·exact list1_2 (z := 0) (fun j => txq (smF (fun k => wqN rq O 2 k * (((U k).getD j 0 : Int) : Rat)) 2 / 65535)) (v1 0 (by decide))
 ·exact list2_2 (z := 0) (fun j => txq (smF (fun k => wqN rq O 2 k * (((U k).getD j 0 : Int) : Rat)) 2 / 65535)) (v1 0 (by decide)) (v1 1 (by decide))
 ·exact list3_2 (z := 0) (fun j => txq (smF (fun k => wqN rq O 2 k * (((U k).getD j 0 : Int) : Rat)) 2 / 65535)) (v1 0 (by decide)) (v1 1 (by decide)) (v1 2 (by decide))
 ·exact list4_2 (z := 0) (fun j => txq (smF (fun k => wqN rq O 2 k * (((U k).getD j 0 : Int) : Rat)) 2 / 65535)) (v1 0 (by decide)) (v1 1 (by decide)) (v1 2 (by decide)) (v1 3 (by decide))
theorem valU3 (z0 z1 z2 b0 b1 b2 out : Int) (data O : List Int) (rq : Nat → Rat) (fr : ∀ k, Fq 43 (rq k)) (U : Nat → List Int) (ho : 1 ≤ out ∧ out ≤ 4) (hU : ∀ k, k < 4 → (U k).length = out.toNat ∧ ∀ j, 0 ≤ (U k).getD j 0 ∧ (U k).getD j 0 ≤ 65535) (hl : O.length = 3) (hx : ∀ k, k < 3 → 0 ≤ O.getD k 0 ∧ O.getD k 0 < 4) (hi : ∀ k, k < 3 → InR .i64 ((atK [b0, b1, b2, 0] O k).getD (O.getD k 0).toNat 0 + 1))
  (pt : ∀ k, k < 4 → Called Tryz.prog 80 [.agg [.ints .i64 [z0, z1, z2], .int .i64 out, .ints .i64 data, .ints .i64 [b0, b1, b2], .ints .i64 O, slQ (fun k => txq (wqN rq O 3 k)) 4], .iarr .i64 (atK [b0, b1, b2, 0] O k)] (.tup [.ints .i64 (U k), .int .i64 0])) :
  Called Tryz.prog 45 [.agg [.ints .i64 [z0, z1, z2], .int .i64 out, .ints .i64 data, .ints .i64 [b0, b1, b2], .ints .i64 O, slQ (fun k => txq (wqN rq O 3 k)) 4]] (.tup [slQ (fun j => txq (smF (fun k => wqN rq O 3 k * (((U k).getD j 0 : Int) : Rat)) 3 / 65535)) out.toNat, .int .i64 0]) := by
 have v1 : ∀ j : Nat, j < out.toNat → Called Tryz.prog 83 [.int .i64 (j : Int), .ref [.slf 1 4 (fun j => List.take 1 (List.drop (j * 1) [.ints .i64 (U 0), .ints .i64 (U 1), .ints .i64 (U 2), .ints .i64 (U 3)]))], .ref [slQ (fun k => txq (wqN rq O 3 k)) 4]] (.tup [frT (smF (fun k => wqN rq O 3 k * (((U k).getD j 0 : Int) : Rat)) 3 / 65535), .int .i64 0]) := by
  intro j hj
  have fu := jar (n := 65535) (by omega)
  have fm : ∀ k, k < 4 → Fq 92 (wqN rq O 3 k * (((U k).getD j 0 : Int) : Rat)) := fun k hk => (fq_wq fr O 3 k).mul (jaW (n := 5) (by have := (hU k hk).2 j; omega) (by omega))
  have i0 := jar (n := (U 0).getD j 0) (by have := (hU 0 (by omega)).2 j; omega)
  have u0 := zmul (fq_wq fr O 3 0) (jaW (n := 5) (z := (U 0).getD j 0) (by have := (hU 0 (by omega)).2 j; omega) (by omega)) (by decide) (by decide) (by decide)
  have m0 := prod4_0 (fun k => txq (wqN rq O 3 k)) (fun k => txq (wqN rq O 3 k * (((U k).getD j 0 : Int) : Rat))) U j _ _ (by rw [(hU 0 (by omega)).1]; exact hj) i0 u0
  have i1 := jar (n := (U 1).getD j 0) (by have := (hU 1 (by omega)).2 j; omega)
  have u1 := zmul (fq_wq fr O 3 1) (jaW (n := 5) (z := (U 1).getD j 0) (by have := (hU 1 (by omega)).2 j; omega) (by omega)) (by decide) (by decide) (by decide)
  have m1 := prod4_1 (fun k => txq (wqN rq O 3 k)) (fun k => txq (wqN rq O 3 k * (((U k).getD j 0 : Int) : Rat))) U j _ _ (by rw [(hU 1 (by omega)).1]; exact hj) i1 u1
  have i2 := jar (n := (U 2).getD j 0) (by have := (hU 2 (by omega)).2 j; omega)
  have u2 := zmul (fq_wq fr O 3 2) (jaW (n := 5) (z := (U 2).getD j 0) (by have := (hU 2 (by omega)).2 j; omega) (by omega)) (by decide) (by decide) (by decide)
  have m2 := prod4_2 (fun k => txq (wqN rq O 3 k)) (fun k => txq (wqN rq O 3 k * (((U k).getD j 0 : Int) : Rat))) U j _ _ (by rw [(hU 2 (by omega)).1]; exact hj) i2 u2
  have i3 := jar (n := (U 3).getD j 0) (by have := (hU 3 (by omega)).2 j; omega)
  have u3 := zmul (fq_wq fr O 3 3) (jaW (n := 5) (z := (U 3).getD j 0) (by have := (hU 3 (by omega)).2 j; omega) (by omega)) (by decide) (by decide) (by decide)
  have m3 := prod4_3 (fun k => txq (wqN rq O 3 k)) (fun k => txq (wqN rq O 3 k * (((U k).getD j 0 : Int) : Rat))) U j _ _ (by rw [(hU 3 (by omega)).1]; exact hj) i3 u3
  have li := list4_3 (fun k => txq (wqN rq O 3 k * (((U k).getD j 0 : Int) : Rat))) m0 m1 m2 m3
  have s0 : Fq 92 (smF (fun k => wqN rq O 3 k * (((U k).getD j 0 : Int) : Rat)) 0) := fm 0 (by omega)
  have s1 : Fq 185 (smF (fun k => wqN rq O 3 k * (((U k).getD j 0 : Int) : Rat)) 1) := s0.add (fm 1 (by omega))
  have s2 : Fq 278 (smF (fun k => wqN rq O 3 k * (((U k).getD j 0 : Int) : Rat)) 2) := s1.add (fm 2 (by omega))
  have s3 : Fq 371 (smF (fun k => wqN rq O 3 k * (((U k).getD j 0 : Int) : Rat)) 3) := s2.add (fm 3 (by omega))
  have su := sum4 (fun k => txq (wqN rq O 3 k * (((U k).getD j 0 : Int) : Rat))) (fun k => txq (smF (fun k => wqN rq O 3 k * (((U k).getD j 0 : Int) : Rat)) k)) rfl (zadd s0 (fm 1 (by omega)) (by decide) (by decide) (by decide)) (zadd s1 (fm 2 (by omega)) (by decide) (by decide) (by decide)) (zadd s2 (fm 3 (by omega)) (by decide) (by decide) (by decide))
  have dv := zdiv s3 (jaW (n := 5) (z := 65535) jbb (by decide)) jcF (by decide) (by decide) (by decide)
  rw [show ((65535 : Int) : Rat) = 65535 from rfl] at fu dv
  exact val1_4 (fun k => txq (wqN rq O 3 k)) (fun k => txq (wqN rq O 3 k * (((U k).getD j 0 : Int) : Rat))) (fun k => txq (smF (fun k => wqN rq O 3 k * (((U k).getD j 0 : Int) : Rat)) k)) U j _ _ _ _ li su fu dv
 refine value3_t z0 z1 z2 b0 b1 b2 out data O (fun k => txq (wqN rq O 3 k)) U _ _ hl hx hi pt ?_
 have h4 : out = 1 ∨ out = 2 ∨ out = 3 ∨ out = 4 := by omega
 rcases h4 with e | e | e | e <;> subst e
 ·exact list1_2 (z := 0) (fun j => txq (smF (fun k => wqN rq O 3 k * (((U k).getD j 0 : Int) : Rat)) 3 / 65535)) (v1 0 (by decide))
 ·exact list2_2 (z := 0) (fun j => txq (smF (fun k => wqN rq O 3 k * (((U k).getD j 0 : Int) : Rat)) 3 / 65535)) (v1 0 (by decide)) (v1 1 (by decide))
 ·exact list3_2 (z := 0) (fun j => txq (smF (fun k => wqN rq O 3 k * (((U k).getD j 0 : Int) : Rat)) 3 / 65535)) (v1 0 (by decide)) (v1 1 (by decide)) (v1 2 (by decide))
 ·exact list4_2 (z := 0) (fun j => txq (smF (fun k => wqN rq O 3 k * (((U k).getD j 0 : Int) : Rat)) 3 / 65535)) (v1 0 (by decide)) (v1 1 (by decide)) (v1 2 (by decide)) (v1 3 (by decide))
theorem pad2 (a b c d e : Rat) : a + b + (c - 0) * d + 0 * e = a + b + c * d := by grind
theorem inr9 {z : Int} (h : 0 ≤ z ∧ z ≤ 100) : InR .i64 z := ⟨by show (-9223372036854775808 : Int) ≤ z; omega, by show z ≤ 9223372036854775807; omega⟩
theorem corn2 {O : List Int} (h : O = [0, 1] ∨ O = [1, 0]) (b0 b1 : Int) : O.length = 2 ∧ (∀ k, k < 2 → 0 ≤ O.getD k 0 ∧ O.getD k 0 < 4) ∧ ∀ k, k < 3 → ∃ i0 i1 : Int, atK [b0, b1, 0, 0] O k = [i0, i1, 0, 0] ∧ b0 ≤ i0 ∧ i0 ≤ b0 + 1 ∧ b1 ≤ i1 ∧ i1 ≤ b1 + 1 := by
 rcases h with rfl | rfl
 ·refine ⟨rfl, fun k hk => ?_, fun k hk => ?_⟩
  ·have h : k = 0 ∨ k = 1 := by omega
   rcases h with rfl | rfl <;> decide
  ·have h : k = 0 ∨ k = 1 ∨ k = 2 := by omega
   rcases h with rfl | rfl | rfl
   ·exact ⟨b0, b1, rfl, by omega⟩
   ·exact ⟨b0 + 1, b1, rfl, by omega⟩
   ·exact ⟨b0 + 1, b1 + 1, rfl, by omega⟩
 ·refine ⟨rfl, fun k hk => ?_, fun k hk => ?_⟩
  ·have h : k = 0 ∨ k = 1 := by omega
   rcases h with rfl | rfl <;> decide
  ·have h : k = 0 ∨ k = 1 ∨ k = 2 := by omega
   rcases h with rfl | rfl | rfl
   ·exact ⟨b0, b1, rfl, by omega⟩
   ·exact ⟨b0, b1 + 1, rfl, by omega⟩
   ·exact ⟨b0 + 1, b1 + 1, rfl, by omega⟩
theorem ev2_sm {x0 x1 : Rat} {z0 z1 : Int} (s0 : 2 ≤ z0) (s1 : 2 ≤ z1) (out : Int) (data : List Int) (j : Nat) : evQ [z0, z1] out data x0 x1 0 j = smF (fun k => wqN (rqN (spR z0 x0) (spR z1 x1) 0) (ord2 (spR z0 x0) (spR z1 x1)) 2 k * (((slot data (pz ([z0, z1].zip ((atK [spB z0 x0, spB z1 x1, 0, 0] (ord2 (spR z0 x0) (spR z1 x1)) k).take 2)) * out) out).getD j 0 : Int) : Rat)) 2 / 65535 := by
 unfold evQ
 refine congrArg (· / 65535) ?_
 show evF z0 z1 2 (gvF [z0, z1] out data j) x0 x1 0 = _
 unfold evF
 rw [sp_20.1, sp_20.2, ord3_20 (spR_nn s0 x0) (spR_nn s1 x1)]
 rcases ord2_mem (spR z0 x0) (spR z1 x1) with e | e
 all_goals rw [e]
 all_goals exact pad2 _ _ _ _ _
theorem valq2 {x0 x1 : Rat} {z0 z1 out : Int} {data : List Int} (hg : jan [z0, z1] out data = true) (h0 : Fq 40 x0) (h1 : Fq 40 x1) :
  Called Tryz.prog 45 [.agg [.ints .i64 [z0, z1], .int .i64 out, .ints .i64 data, .ints .i64 [spB z0 x0, spB z1 x1], .ints .i64 (ord2 (spR z0 x0) (spR z1 x1)), slQ (fun k => txq (wqN (rqN (spR z0 x0) (spR z1 x1) 0) (ord2 (spR z0 x0) (spR z1 x1)) 2 k)) 3]] (.tup [slQ (fun j => txq (evQ [z0, z1] out data x0 x1 0 j)) out.toNat, .int .i64 0]) := by
 have og := jaI hg
 have s0 := og.2.1 z0 (by simp)
 have f0 := jbF h0 (by decide) s0
 have b0 := jd1 s0.1 x0
 have s1 := og.2.1 z1 (by simp)
 have f1 := jbF h1 (by decide) s1
 have b1 := jd1 s1.1 x1
 have fr : ∀ k, Fq 43 (rqN (spR z0 x0) (spR z1 x1) 0 k) := fq_rq f0 f1 jgU
 obtain ⟨ol, ox, oc⟩ := corn2 (O := (ord2 (spR z0 x0) (spR z1 x1))) (ord2_mem _ _) (spB z0 x0) (spB z1 x1)
 have oi : ∀ k, k < 3 → okIdx [z0, z1] ((atK [spB z0 x0, spB z1 x1, 0, 0] (ord2 (spR z0 x0) (spR z1 x1)) k).take 2) = true := by
  intro k hk
  obtain ⟨i0, i1, e, hh⟩ := oc k hk
  rw [e]
  simp [okIdx]
  omega
 have g := valU2 z0 z1 (spB z0 x0) (spB z1 x1) out data (ord2 (spR z0 x0) (spR z1 x1)) (rqN (spR z0 x0) (spR z1 x1) 0) fr (fun k => slot data (pz ([z0, z1].zip ((atK [spB z0 x0, spB z1 x1, 0, 0] (ord2 (spR z0 x0) (spR z1 x1)) k).take 2)) * out) out) og.1 (fun k hk => ⟨jd2 hg (oi k hk), jck og.2.2.2 _ _⟩) ol ox (fun k hk => ?_) (fun k hk => ?_)
 ·rw [show (fun j => txq (evQ [z0, z1] out data x0 x1 0 j)) = _ from funext fun j => congrArg txq (ev2_sm s0.1 s1.1 out data j)]
  exact g
 ·obtain ⟨i0, i1, e, hh⟩ := oc k (by omega)
  rw [e]
  refine inr9 ?_
  have := jbO (l := [i0, i1, 0, 0]) (p := fun v => 0 ≤ v ∧ v ≤ 9) (by intro v hv; simp only [List.mem_cons, List.not_mem_nil, or_false] at hv; omega) (by omega) (((ord2 (spR z0 x0) (spR z1 x1)) : List Int).getD k 0).toNat
  omega
 ·exact point2_t z0 z1 (spB z0 x0) (spB z1 x1) out data _ _ _ (fun k => txq (wqN (rqN (spR z0 x0) (spR z1 x1) 0) (ord2 (spR z0 x0) (spR z1 x1)) 2 k)) (jbk _ _ k rfl) (gat_at hg (oi k hk) (by simp) (by rw [List.length_take]; omega))
theorem corn3 {O : List Int} (h : O = [0, 1, 2] ∨ O = [0, 2, 1] ∨ O = [1, 0, 2] ∨ O = [1, 2, 0] ∨ O = [2, 0, 1] ∨ O = [2, 1, 0]) (b0 b1 b2 : Int) : O.length = 3 ∧ (∀ k, k < 3 → 0 ≤ O.getD k 0 ∧ O.getD k 0 < 4) ∧ ∀ k, k < 4 → ∃ i0 i1 i2 : Int, atK [b0, b1, b2, 0] O k = [i0, i1, i2, 0] ∧ b0 ≤ i0 ∧ i0 ≤ b0 + 1 ∧ b1 ≤ i1 ∧ i1 ≤ b1 + 1 ∧ b2 ≤ i2 ∧ i2 ≤ b2 + 1 := by
 rcases h with rfl | rfl | rfl | rfl | rfl | rfl
 ·refine ⟨rfl, fun k hk => ?_, fun k hk => ?_⟩
  ·have h : k = 0 ∨ k = 1 ∨ k = 2 := by omega
   rcases h with rfl | rfl | rfl <;> decide
  ·have h : k = 0 ∨ k = 1 ∨ k = 2 ∨ k = 3 := by omega
   rcases h with rfl | rfl | rfl | rfl
   ·exact ⟨b0, b1, b2, rfl, by omega⟩
   ·exact ⟨b0 + 1, b1, b2, rfl, by omega⟩
   ·exact ⟨b0 + 1, b1 + 1, b2, rfl, by omega⟩
   ·exact ⟨b0 + 1, b1 + 1, b2 + 1, rfl, by omega⟩
 ·refine ⟨rfl, fun k hk => ?_, fun k hk => ?_⟩
  ·have h : k = 0 ∨ k = 1 ∨ k = 2 := by omega
   rcases h with rfl | rfl | rfl <;> decide
  ·have h : k = 0 ∨ k = 1 ∨ k = 2 ∨ k = 3 := by omega
   rcases h with rfl | rfl | rfl | rfl
   ·exact ⟨b0, b1, b2, rfl, by omega⟩
   ·exact ⟨b0 + 1, b1, b2, rfl, by omega⟩
   ·exact ⟨b0 + 1, b1, b2 + 1, rfl, by omega⟩
   ·exact ⟨b0 + 1, b1 + 1, b2 + 1, rfl, by omega⟩
 ·refine ⟨rfl, fun k hk => ?_, fun k hk => ?_⟩
  ·have h : k = 0 ∨ k = 1 ∨ k = 2 := by omega
   rcases h with rfl | rfl | rfl <;> decide
  ·have h : k = 0 ∨ k = 1 ∨ k = 2 ∨ k = 3 := by omega
   rcases h with rfl | rfl | rfl | rfl
   ·exact ⟨b0, b1, b2, rfl, by omega⟩
   ·exact ⟨b0, b1 + 1, b2, rfl, by omega⟩
   ·exact ⟨b0 + 1, b1 + 1, b2, rfl, by omega⟩
   ·exact ⟨b0 + 1, b1 + 1, b2 + 1, rfl, by omega⟩
 ·refine ⟨rfl, fun k hk => ?_, fun k hk => ?_⟩
  ·have h : k = 0 ∨ k = 1 ∨ k = 2 := by omega
   rcases h with rfl | rfl | rfl <;> decide
  ·have h : k = 0 ∨ k = 1 ∨ k = 2 ∨ k = 3 := by omega
   rcases h with rfl | rfl | rfl | rfl
   ·exact ⟨b0, b1, b2, rfl, by omega⟩
   ·exact ⟨b0, b1 + 1, b2, rfl, by omega⟩
   ·exact ⟨b0, b1 + 1, b2 + 1, rfl, by omega⟩
   ·exact ⟨b0 + 1, b1 + 1, b2 + 1, rfl, by omega⟩
 ·refine ⟨rfl, fun k hk => ?_, fun k hk => ?_⟩
  ·have h : k = 0 ∨ k = 1 ∨ k = 2 := by omega
   rcases h with rfl | rfl | rfl <;> decide
  ·have h : k = 0 ∨ k = 1 ∨ k = 2 ∨ k = 3 := by omega
   rcases h with rfl | rfl | rfl | rfl
   ·exact ⟨b0, b1, b2, rfl, by omega⟩
   ·exact ⟨b0, b1, b2 + 1, rfl, by omega⟩
   ·exact ⟨b0 + 1, b1, b2 + 1, rfl, by omega⟩
   ·exact ⟨b0 + 1, b1 + 1, b2 + 1, rfl, by omega⟩
 ·refine ⟨rfl, fun k hk => ?_, fun k hk => ?_⟩
  ·have h : k = 0 ∨ k = 1 ∨ k = 2 := by omega
   rcases h with rfl | rfl | rfl <;> decide
  ·have h : k = 0 ∨ k = 1 ∨ k = 2 ∨ k = 3 := by omega
   rcases h with rfl | rfl | rfl | rfl
   ·exact ⟨b0, b1, b2, rfl, by omega⟩
   ·exact ⟨b0, b1, b2 + 1, rfl, by omega⟩
   ·exact ⟨b0, b1 + 1, b2 + 1, rfl, by omega⟩
   ·exact ⟨b0 + 1, b1 + 1, b2 + 1, rfl, by omega⟩
theorem ev3_sm {x0 x1 x2 : Rat} {z0 z1 z2 : Int} (s0 : 2 ≤ z0) (s1 : 2 ≤ z1) (s2 : 2 ≤ z2) (out : Int) (data : List Int) (j : Nat) : evQ [z0, z1, z2] out data x0 x1 x2 j = smF (fun k => wqN (rqN (spR z0 x0) (spR z1 x1) (spR z2 x2)) (ord3 (spR z0 x0) (spR z1 x1) (spR z2 x2)) 3 k * (((slot data (pz ([z0, z1, z2].zip ((atK [spB z0 x0, spB z1 x1, spB z2 x2, 0] (ord3 (spR z0 x0) (spR z1 x1) (spR z2 x2)) k).take 3)) * out) out).getD j 0 : Int) : Rat)) 3 / 65535 := by
 unfold evQ
 refine congrArg (· / 65535) ?_
 show evF z0 z1 z2 (gvF [z0, z1, z2] out data j) x0 x1 x2 = _
 unfold evF
 rcases ord3_mem (spR z0 x0) (spR z1 x1) (spR z2 x2) with e | e | e | e | e | e
 all_goals rw [e]
 all_goals exact rfl
theorem valq3 {x0 x1 x2 : Rat} {z0 z1 z2 out : Int} {data : List Int} (hg : jan [z0, z1, z2] out data = true) (h0 : Fq 40 x0) (h1 : Fq 40 x1) (h2 : Fq 40 x2) :
  Called Tryz.prog 45 [.agg [.ints .i64 [z0, z1, z2], .int .i64 out, .ints .i64 data, .ints .i64 [spB z0 x0, spB z1 x1, spB z2 x2], .ints .i64 (ord3 (spR z0 x0) (spR z1 x1) (spR z2 x2)), slQ (fun k => txq (wqN (rqN (spR z0 x0) (spR z1 x1) (spR z2 x2)) (ord3 (spR z0 x0) (spR z1 x1) (spR z2 x2)) 3 k)) 4]] (.tup [slQ (fun j => txq (evQ [z0, z1, z2] out data x0 x1 x2 j)) out.toNat, .int .i64 0]) := by
 have og := jaI hg
 have s0 := og.2.1 z0 (by simp)
 have f0 := jbF h0 (by decide) s0
 have b0 := jd1 s0.1 x0
 have s1 := og.2.1 z1 (by simp)
 have f1 := jbF h1 (by decide) s1
 have b1 := jd1 s1.1 x1
 have s2 := og.2.1 z2 (by simp)
 have f2 := jbF h2 (by decide) s2
 have b2 := jd1 s2.1 x2
 have fr : ∀ k, Fq 43 (rqN (spR z0 x0) (spR z1 x1) (spR z2 x2) k) := fq_rq f0 f1 f2
 obtain ⟨ol, ox, oc⟩ := corn3 (O := (ord3 (spR z0 x0) (spR z1 x1) (spR z2 x2))) (ord3_mem _ _ _) (spB z0 x0) (spB z1 x1) (spB z2 x2)
 have oi : ∀ k, k < 4 → okIdx [z0, z1, z2] ((atK [spB z0 x0, spB z1 x1, spB z2 x2, 0] (ord3 (spR z0 x0) (spR z1 x1) (spR z2 x2)) k).take 3) = true := by
  intro k hk
  obtain ⟨i0, i1, i2, e, hh⟩ := oc k hk
  rw [e]
  simp [okIdx]
  omega
 have g := valU3 z0 z1 z2 (spB z0 x0) (spB z1 x1) (spB z2 x2) out data (ord3 (spR z0 x0) (spR z1 x1) (spR z2 x2)) (rqN (spR z0 x0) (spR z1 x1) (spR z2 x2)) fr (fun k => slot data (pz ([z0, z1, z2].zip ((atK [spB z0 x0, spB z1 x1, spB z2 x2, 0] (ord3 (spR z0 x0) (spR z1 x1) (spR z2 x2)) k).take 3)) * out) out) og.1 (fun k hk => ⟨jd2 hg (oi k hk), jck og.2.2.2 _ _⟩) ol ox (fun k hk => ?_) (fun k hk => ?_)
 ·rw [show (fun j => txq (evQ [z0, z1, z2] out data x0 x1 x2 j)) = _ from funext fun j => congrArg txq (ev3_sm s0.1 s1.1 s2.1 out data j)]
  exact g
 ·obtain ⟨i0, i1, i2, e, hh⟩ := oc k (by omega)
  rw [e]
  refine inr9 ?_
  have := jbO (l := [i0, i1, i2, 0]) (p := fun v => 0 ≤ v ∧ v ≤ 9) (by intro v hv; simp only [List.mem_cons, List.not_mem_nil, or_false] at hv; omega) (by omega) (((ord3 (spR z0 x0) (spR z1 x1) (spR z2 x2)) : List Int).getD k 0).toNat
  omega
 ·exact point3_t z0 z1 z2 (spB z0 x0) (spB z1 x1) (spB z2 x2) out data _ _ _ (fun k => txq (wqN (rqN (spR z0 x0) (spR z1 x1) (spR z2 x2)) (ord3 (spR z0 x0) (spR z1 x1) (spR z2 x2)) 3 k)) (jbk _ _ k rfl) (gat_at hg (oi k hk) (by simp) (by rw [List.length_take]; omega))
theorem jhv : type_of% @jhC ∧ type_of% @tn0 ∧ type_of% @tn1 ∧ type_of% @tn2 ∧ type_of% @tn3 ∧ type_of% @xt4 := ⟨@jhC, @tn0, @tn1, @tn2, @tn3, @xt4⟩
theorem loc2_t (z0 z1 out : Int) (data B O : List Int) (X : Nat → Tx) (m : Nat) (F : Nat → List D) (ck : Called Tryz.prog 37 [.agg [.ints .i64 [z0, z1], .int .i64 out, .ints .i64 data]] (.int .i64 0)) (fc : ∀ k, k < 2 → Called Tryz.prog 78 [.agg [.str (X k).1, .str (X k).2]] (.int .i64 0)) (fi : Called Tryz.prog 79 [.agg [.ints .i64 [z0, z1], .int .i64 out, .ints .i64 data], .slf 2 2 (fun j => List.take 2 (List.drop (j * 2) [.str (X 0).1, .str (X 0).2, .str (X 1).1, .str (X 1).2]))] (.tup [.agg [.ints .i64 [z0, z1], .int .i64 out, .ints .i64 data, .ints .i64 B, .ints .i64 O, .slf 2 m F], .int .i64 0])) :
  Called Tryz.prog 44 [.agg [.ints .i64 [z0, z1], .int .i64 out, .ints .i64 data], .slf 2 2 (fun j => List.take 2 (List.drop (j * 2) [.str (X 0).1, .str (X 0).2, .str (X 1).1, .str (X 1).2]))] (.tup [.agg [.ints .i64 [z0, z1], .int .i64 out, .ints .i64 data, .ints .i64 B, .ints .i64 O, .slf 2 m F], .int .i64 0]) := by
 refine jaa tbOk 6 ⟨Tryz.func44, rfl, rfl, jhy rfl⟩ ?_
 (conv => whnf)
 refine V.r1 @jhC ck ?_
 refine Cnd.split (CondB.mk (fun h => absurd h (by simp)) (fun _ => ?_))
 refine V.r0 @jhC ?_
 refine jah (0) (fun k => k ≤ 2) (fun k => 2 - k) (fun k => [(25, .int .i64 k)]) (fun k => []) ?_ ?_ ?_
 ·exact V.wk
 ·exact jhz _
 intro k hk
 have hk4 : k = 0 ∨ k = 1 ∨ k = 2 := by omega
 rcases hk4 with e | e | e
 all_goals subst e
 ·simp only [k0]
  have c := fc 0 (by omega)
  refine V.r1 (V.a3 jhv @Bool.false_eq_true @if_false.{1}) c ?_
  exact ⟨1, by omega, by omega, V.wk⟩
 ·simp only [k1]
  have c := fc 1 (by omega)
  refine V.r1 (V.a3 jhv @Bool.false_eq_true @if_false.{1}) c ?_
  exact ⟨2, by omega, by omega, V.wk⟩
 ·simp only [k2]
  refine V.r1 @jhC fi ?_
  exact Fin.of rfl
theorem loc3_t (z0 z1 z2 out : Int) (data B O : List Int) (X : Nat → Tx) (m : Nat) (F : Nat → List D) (ck : Called Tryz.prog 37 [.agg [.ints .i64 [z0, z1, z2], .int .i64 out, .ints .i64 data]] (.int .i64 0)) (fc : ∀ k, k < 3 → Called Tryz.prog 78 [.agg [.str (X k).1, .str (X k).2]] (.int .i64 0)) (fi : Called Tryz.prog 79 [.agg [.ints .i64 [z0, z1, z2], .int .i64 out, .ints .i64 data], .slf 2 3 (fun j => List.take 2 (List.drop (j * 2) [.str (X 0).1, .str (X 0).2, .str (X 1).1, .str (X 1).2, .str (X 2).1, .str (X 2).2]))] (.tup [.agg [.ints .i64 [z0, z1, z2], .int .i64 out, .ints .i64 data, .ints .i64 B, .ints .i64 O, .slf 2 m F], .int .i64 0])) :
  Called Tryz.prog 44 [.agg [.ints .i64 [z0, z1, z2], .int .i64 out, .ints .i64 data], .slf 2 3 (fun j => List.take 2 (List.drop (j * 2) [.str (X 0).1, .str (X 0).2, .str (X 1).1, .str (X 1).2, .str (X 2).1, .str (X 2).2]))] (.tup [.agg [.ints .i64 [z0, z1, z2], .int .i64 out, .ints .i64 data, .ints .i64 B, .ints .i64 O, .slf 2 m F], .int .i64 0]) := by
 refine jaa tbOk 6 ⟨Tryz.func44, rfl, rfl, jhy rfl⟩ ?_
 (conv => whnf)
 refine V.r1 @jhC ck ?_
 refine Cnd.split (CondB.mk (fun h => absurd h (by simp)) (fun _ => ?_))
 refine V.r0 @jhC ?_
 refine jah (0) (fun k => k ≤ 3) (fun k => 3 - k) (fun k => [(25, .int .i64 k)]) (fun k => []) ?_ ?_ ?_
 ·exact V.wk
 ·exact jhz _
 intro k hk
 have hk4 : k = 0 ∨ k = 1 ∨ k = 2 ∨ k = 3 := by omega
 rcases hk4 with e | e | e | e
 all_goals subst e
 ·simp only [k0]
  have c := fc 0 (by omega)
  refine V.r1 (V.a3 jhv @Bool.false_eq_true @if_false.{1}) c ?_
  exact ⟨1, by omega, by omega, V.wk⟩
 ·simp only [k1]
  have c := fc 1 (by omega)
  refine V.r1 (V.a3 jhv @Bool.false_eq_true @if_false.{1}) c ?_
  exact ⟨2, by omega, by omega, V.wk⟩
 ·simp only [k2]
  have c := fc 2 (by omega)
  refine V.r1 (V.a3 jhv @Bool.false_eq_true @if_false.{1}) c ?_
  exact ⟨3, by omega, by omega, V.wk⟩
 ·simp only [k3]
  refine V.r1 @jhC fi ?_
  exact Fin.of rfl
end Go.Proofs.YtgjgpdceghjajaaGreatDoor
end
