/- What functions of the program answer at given values, part 36. Conditions: those that each theorem names. -/
import Derived.Test.YtgjgpdceghjajaaGreatDoorSimplexRefinedH32
import Derived.Test.YtgjgpdceghjajaaGreatDoorSimplexRefinedH35
import Derived.Test.YtgjgpdceghjajaaGreatDoorSimplexRefinedH13
set_option linter.unusedSimpArgs false
set_option linter.unusedVariables false
set_option maxHeartbeats 8000000
set_option maxRecDepth 100000
section
namespace Go.Proofs.YtgjgpdceghjajaaGreatDoor
open Go Go.V Go.Nb Go.Gr
theorem jdR {a b : Nat} {p q : Rat} (h : Fq a p) (g : Fq b q) (ha : 0 < a ∧ a ≤ 600) (hb : 0 < b ∧ b ≤ 600) (hq : q ≤ p) : Called Tryz.prog 21 [frT p, frT q] (.bool false) := by
 have c := lless_c h g ha hb
 rw [decide_eq_false (fun e => by have := ordQ_lt.1 e; grind)] at c
 exact c
theorem jga (f : Nat → Int) {w j : Nat} (h : j < w) : ((List.range w).map f).getD j 0 = f j := by
 rw [jiJ, List.getElem?_map, List.getElem?_range h]
 rfl
theorem jbA (v : Int) : Rat.divInt v 1 = (v : Rat) := int_q v
theorem jbh : Fq 10 (Rat.divInt 131070 1) := ⟨by decide +kernel, by decide +kernel⟩
theorem PR_5 : ∀ {ts : List Nat}, (∀ n ∈ ts, 2 ≤ n ∧ n ≤ 5) → PR ts ≤ 5 ^ ts.length
 | [], _ => jii _
 | n :: r, h => by
  have h1 := h n (by simp)
  have h2 := PR_5 (ts := r) fun m hm => h m (by simp [hm])
  rw [PR, jiY, Nat.pow_succ, jil]
  exact Nat.mul_le_mul h2 h1.2
theorem refinedG1 {D0 : D} {ds vals : List Int} {oo z : Int} {sm : Bool} (hD : D0 = .agg [.ints .u8 ds, .int .u8 oo, .ints .u16 vals, .bool sm]) {s0 w : Nat} {data : List Int} (hw : 1 ≤ w ∧ w ≤ 3) (hg : jal (nz [s0]) w data = true) (h2 : ∀ n ∈ [s0], 2 ≤ n ∧ n ≤ 4) (hz : 0 ≤ z ∧ z ≤ 65535)
  (gd : Called Tryz.prog 11 [D0] (gridD (nz [s0]) w data)) : Called Tryz.prog 9 [D0, .int .u16 z] (.bool true) := by
 subst hD
 have g0 := h2 s0 (by simp)
 obtain ⟨t0, ht0⟩ : ∃ t : Nat, min (2 * (s0 : Int) - 1) 5 = (t : Int) := ⟨(min (2 * (s0 : Int) - 1) 5).toNat, by omega⟩
 have h9 : ∀ n ∈ [s0], 2 ≤ n ∧ n ≤ 9 := fun n hn => by have := h2 n hn; omega
 have k5 : ∀ n ∈ [t0], 2 ≤ n ∧ n ≤ 5 := fun n hn => by simp at hn; omega
 have k9 : ∀ n ∈ [t0], 2 ≤ n ∧ n ≤ 9 := fun n hn => by have := k5 n hn; omega
 have kp := jfv k9
 have hP := jct kp
 have hP5 : PR [t0] ≤ 125 := jiq (PR_5 k5) (by show 5 ^ 1 ≤ 125; decide)
 have hwo : 1 ≤ (w : Int) ∧ (w : Int) ≤ 4 := by omega
 have hcs : cnP w [s0] 1 ≤ 4096 := Int.le_trans (jcZ hwo h9 1).2 (by decide)
 have hct : cnP w [t0] 1 ≤ 4096 := Int.le_trans (jcZ hwo k9 1).2 (by decide)
 have hdl := (jat hg).2.2.1.1
 have r1 : Called Tryz.prog 33 [gridD (nz [s0]) w data, .ints .i64 (nz [s0])] (.tup [gridD (nz [s0]) w (rfD (nz [s0]) w data [s0]), .int .i64 0]) := refq1 (out := w) hg [s0] rfl h9 hcs
 have e1 : rfD (nz [s0]) w data [s0] = data := rf_same1 hg h9
 have r2 : Called Tryz.prog 33 [gridD (nz [s0]) w data, .ints .i64 (nz [t0])] (.tup [gridD (nz [t0]) w (rfD (nz [s0]) w data [t0]), .int .i64 0]) := refq1 (out := w) hg [t0] rfl k9 hct
 obtain ⟨zn, rfl⟩ : ∃ zn : Nat, z = (zn : Int) := ⟨z.toNat, by omega⟩
 obtain ⟨m, hmz⟩ : ∃ m, m = zn % PR [t0] := ⟨_, rfl⟩
 have hm : m < PR [t0] := by rw [hmz]; exact jik _ hP
 have hzm : (zn : Int) % ((PR [t0] : Nat) : Int) = (m : Int) := by rw [hmz]; omega
 have fx := fun i => xR_fq k9 m i
 have unit := fun (j : Nat) (hj : j < w) => jgh (out := w) hg (xR [t0] m 0) (j := j) (by omega)
 have hWj : ∀ j, rfW (nz [s0]) w data [t0] m j = nearZ (evQ (nz [s0]) w data (xR [t0] m 0) 0 0 j) 65535 := rfW1 (z0 := (s0 : Int)) rfl m
 have hWb : ∀ m' j, j < w → 0 ≤ rfW (nz [s0]) w data [t0] m' j ∧ rfW (nz [s0]) w data [t0] m' j ≤ 65535 := fun m' j hj => by
  have e : rfW (nz [s0]) w data [t0] m' j = nearZ (evQ (nz [s0]) w data (xR [t0] m' 0) 0 0 j) 65535 := rfW1 (z0 := (s0 : Int)) rfl m' j
  rw [e]
  have u := jgh (out := w) hg (xR [t0] m' 0) (j := j) (by omega)
  exact jek u.1 u.2
 have hf : ∀ m', ((List.range (w : Int).toNat).map (rfW (nz [s0]) w data [t0] m')).length = w := fun m' => by simp
 have hgr : jal (nz [t0]) w (rfD (nz [s0]) w data [t0]) = true := by
  refine jhw (by simp) k9 (by omega) hf (fun m' v hv => ?_) (by
   have := Nat.mul_le_mul hP5 hw.2
   omega)
  obtain ⟨j, hj, rfl⟩ := List.mem_map.1 hv
  rw [List.mem_range] at hj
  exact hWb m' j (by omega)
 have hrl : (rfD (nz [s0]) w data [t0]).length = PR [t0] * w := jeX fun m' _ => hf m'
 have hrs : slot (rfD (nz [s0]) w data [t0]) ((m : Int) * w) w = (List.range w).map (rfW (nz [s0]) w data [t0] m) := by
  have := jeU (ns := [t0]) (f := fun m' => (List.range (w : Int).toNat).map (rfW (nz [s0]) w data [t0] m')) (fun j _ => hf j) m hm
  simpa [rfD] using this
 have hgrl := (jat hgr).2.2.1.1
 have ck := Called.cast (jb1 (nz [t0]) w (rfD (nz [s0]) w data [t0]) (by simp [nz]) (by omega)) (by rw [hgr]; first | done | rfl)
 have sa := Called.cast (same_c (nz [s0]) w data (nz [s0]) w data (by simp [nz]) (by omega) (by simp [nz]) (by omega)) (r' := .bool true) (by simp)
 have iq := jee [t0] m (fun n hn => by have := k9 n hn; omega) (by simp) (by omega)
 have hpx : okIdx (nz [t0]) (ixl [t0] m) = true := ixl_ok kp
 have ga := jfC hgr hpx (by simp [nz]) (by rw [jaj]; simp)
 rw [pz_at kp hm, hrs] at ga
 have ev := evalq1 (out := w) hg (fx 0)
 rw [e1] at r1
 have fe := fun j => fq_ev1 (out := w) hg (fx 0) j
 have hix : ∀ i, 0 ≤ (ixl [t0] m).getD i 0 ∧ (ixl [t0] m).getD i 0 ≤ 9 := fun i => by
  rcases jip i 1 with h | h
  ·obtain ⟨a, _, e2, ha, _, _⟩ := xR_at (m := m) k9 (jiM (show i < ([t0] : List Nat).length from h))
   have hb := k9 _ (jiN (show i < ([t0] : List Nat).length from h))
   rw [e2]
   omega
  ·rw [jiJ, ji5 (by rw [jaj]; exact h)]
   simp
 have hvg : ∀ j, j < w → ((List.range w).map (rfW (nz [s0]) w data [t0] m)).getD j 0 = rfW (nz [s0]) w data [t0] m j := fun j hj => jga _ hj
 have hvb : ∀ j, 0 ≤ ((List.range w).map (rfW (nz [s0]) w data [t0] m)).getD j 0 ∧ ((List.range w).map (rfW (nz [s0]) w data [t0] m)).getD j 0 ≤ 65535 := fun j => by
  rcases jip j w with h | h
  ·rw [hvg j h]; exact hWb m j h
  ·rw [jiJ, ji5 (by simp; exact h)]
   simp
 have nh := fun j => jdr (evQ (nz [s0]) w data (xR [t0] m 0) 0 0 j) 65535
 have e13 : (((2 * 65535 : Nat) : Int) : Rat) = Rat.divInt 131070 1 := by rw [jbA]; rfl
 have fl : ∀ j, j < w → Fq 10 (Rat.divInt (2 * rfW (nz [s0]) w data [t0] m j - 1) 1) ∧ Fq 10 (Rat.divInt (2 * rfW (nz [s0]) w data [t0] m j + 1) 1) := fun j hj => by
  have := hWb m j hj
  exact ⟨jaD (d := 1) (by decide) (by omega) (by decide), jaD (d := 1) (by decide) (by omega) (by decide)⟩
 refine refined1_t ds vals data (rfD (nz [s0]) w data [t0]) (ixl [t0] m) ((List.range w).map (rfW (nz [s0]) w data [t0] m)) oo w zn sm s0 t0 (txq (Rat.divInt 131070 1)) (fun i => txq (xR [t0] m i)) (fun j => txq (evQ (nz [s0]) w data (xR [t0] m 0) 0 0 j)) (fun j => txq (evQ (nz [s0]) w data (xR [t0] m 0) 0 0 j * Rat.divInt 131070 1))
  (fun j => txq (Rat.divInt (2 * rfW (nz [s0]) w data [t0] m j - 1) 1)) (fun j => txq (Rat.divInt (2 * rfW (nz [s0]) w data [t0] m j + 1) 1)) ⟨by omega, by omega⟩ ht0 (jaj _ _) hix (by simp) hvb hwo hz (PR [t0]) hP (by rw [hrl]; push_cast; rfl) (by omega) (by omega) jgV gd r1 r2 sa ck (by rw [hzm]; exact iq)
  (fun i hi => ?_) ga ev (lof_c (by omega) (by omega)) (fun j hj => ?_) (fun j hj => ?_) (fun j hj => ?_) (fun j hj => ?_) (fun j hj => ?_)
 ·obtain ⟨a, _, e2, ha, e3, e4⟩ := xR_at (m := m) k9 (jiM (show i < ([t0] : List Nat).length from hi))
  have hb := k9 _ (jiN (show i < ([t0] : List Nat).length from hi))
  have c := lof_c (n := a) (m := (([t0] : List Nat)[i]'hi : Int) - 1) (by omega) (by omega)
  have e3' : ([(t0 : Int)] : List Int).getD i 0 = (([t0] : List Nat)[i]'hi : Int) := e3
  rw [e2, e3']
  rw [← e4] at c
  exact c
 ·exact jgc (fe j) jbh (by decide) (by decide) (by decide)
 ·have hj' : j < w := by omega
  have := hWb m j hj'
  rw [hvg j hj']
  exact lof_c (by omega) (by omega)
 ·have hj' : j < w := by omega
  have := hWb m j hj'
  rw [hvg j hj']
  exact lof_c (by omega) (by omega)
 ·have hj' : j < w := by omega
  refine jdR ((fe j).mul jbh) (fl j hj').1 (by decide) (by decide) ?_
  rw [hWj, ← e13, jbA]
  exact (nh j).1
 ·have hj' : j < w := by omega
  refine jdR (fl j hj').2 ((fe j).mul jbh) (by decide) (by decide) ?_
  rw [hWj, ← e13, jbA]
  exact (nh j).2
theorem refinedG2 {D0 : D} {ds vals : List Int} {oo z : Int} {sm : Bool} (hD : D0 = .agg [.ints .u8 ds, .int .u8 oo, .ints .u16 vals, .bool sm]) {s0 s1 w : Nat} {data : List Int} (hw : 1 ≤ w ∧ w ≤ 3) (hg : jal (nz [s0, s1]) w data = true) (h2 : ∀ n ∈ [s0, s1], 2 ≤ n ∧ n ≤ 4) (hz : 0 ≤ z ∧ z ≤ 65535)
  (gd : Called Tryz.prog 11 [D0] (gridD (nz [s0, s1]) w data)) : Called Tryz.prog 9 [D0, .int .u16 z] (.bool true) := by
 subst hD
 have g0 := h2 s0 (by simp)
 have g1 := h2 s1 (by simp)
 obtain ⟨t0, ht0⟩ : ∃ t : Nat, min (2 * (s0 : Int) - 1) 5 = (t : Int) := ⟨(min (2 * (s0 : Int) - 1) 5).toNat, by omega⟩
 obtain ⟨t1, ht1⟩ : ∃ t : Nat, min (2 * (s1 : Int) - 1) 5 = (t : Int) := ⟨(min (2 * (s1 : Int) - 1) 5).toNat, by omega⟩
 have h9 : ∀ n ∈ [s0, s1], 2 ≤ n ∧ n ≤ 9 := fun n hn => by have := h2 n hn; omega
 have k5 : ∀ n ∈ [t0, t1], 2 ≤ n ∧ n ≤ 5 := fun n hn => by simp at hn; omega
 have k9 : ∀ n ∈ [t0, t1], 2 ≤ n ∧ n ≤ 9 := fun n hn => by have := k5 n hn; omega
 have kp := jfv k9
 have hP := jct kp
 have hP5 : PR [t0, t1] ≤ 125 := jiq (PR_5 k5) (by show 5 ^ 2 ≤ 125; decide)
 have hwo : 1 ≤ (w : Int) ∧ (w : Int) ≤ 4 := by omega
 have hcs : cnP w [s0, s1] 2 ≤ 4096 := Int.le_trans (jcZ hwo h9 2).2 (by decide)
 have hct : cnP w [t0, t1] 2 ≤ 4096 := Int.le_trans (jcZ hwo k9 2).2 (by decide)
 have hdl := (jat hg).2.2.1.1
 have r1 : Called Tryz.prog 33 [gridD (nz [s0, s1]) w data, .ints .i64 (nz [s0, s1])] (.tup [gridD (nz [s0, s1]) w (rfD (nz [s0, s1]) w data [s0, s1]), .int .i64 0]) := refq2 (out := w) hg [s0, s1] rfl h9 hcs
 have e1 : rfD (nz [s0, s1]) w data [s0, s1] = data := rf_same2 hg h9
 have r2 : Called Tryz.prog 33 [gridD (nz [s0, s1]) w data, .ints .i64 (nz [t0, t1])] (.tup [gridD (nz [t0, t1]) w (rfD (nz [s0, s1]) w data [t0, t1]), .int .i64 0]) := refq2 (out := w) hg [t0, t1] rfl k9 hct
 obtain ⟨zn, rfl⟩ : ∃ zn : Nat, z = (zn : Int) := ⟨z.toNat, by omega⟩
 obtain ⟨m, hmz⟩ : ∃ m, m = zn % PR [t0, t1] := ⟨_, rfl⟩
 have hm : m < PR [t0, t1] := by rw [hmz]; exact jik _ hP
 have hzm : (zn : Int) % ((PR [t0, t1] : Nat) : Int) = (m : Int) := by rw [hmz]; omega
 have fx := fun i => xR_fq k9 m i
 have unit := fun (j : Nat) (hj : j < w) => jgg (out := w) hg (xR [t0, t1] m 0) (xR [t0, t1] m 1) (j := j) (by omega)
 have hWj : ∀ j, rfW (nz [s0, s1]) w data [t0, t1] m j = nearZ (evQ (nz [s0, s1]) w data (xR [t0, t1] m 0) (xR [t0, t1] m 1) 0 j) 65535 := rfW2 (z0 := (s0 : Int)) (z1 := (s1 : Int)) rfl m
 have hWb : ∀ m' j, j < w → 0 ≤ rfW (nz [s0, s1]) w data [t0, t1] m' j ∧ rfW (nz [s0, s1]) w data [t0, t1] m' j ≤ 65535 := fun m' j hj => by
  have e : rfW (nz [s0, s1]) w data [t0, t1] m' j = nearZ (evQ (nz [s0, s1]) w data (xR [t0, t1] m' 0) (xR [t0, t1] m' 1) 0 j) 65535 := rfW2 (z0 := (s0 : Int)) (z1 := (s1 : Int)) rfl m' j
  rw [e]
  have u := jgg (out := w) hg (xR [t0, t1] m' 0) (xR [t0, t1] m' 1) (j := j) (by omega)
  exact jek u.1 u.2
 have hf : ∀ m', ((List.range (w : Int).toNat).map (rfW (nz [s0, s1]) w data [t0, t1] m')).length = w := fun m' => by simp
 have hgr : jal (nz [t0, t1]) w (rfD (nz [s0, s1]) w data [t0, t1]) = true := by
  refine jhw (by simp) k9 (by omega) hf (fun m' v hv => ?_) (by
   have := Nat.mul_le_mul hP5 hw.2
   omega)
  obtain ⟨j, hj, rfl⟩ := List.mem_map.1 hv
  rw [List.mem_range] at hj
  exact hWb m' j (by omega)
 have hrl : (rfD (nz [s0, s1]) w data [t0, t1]).length = PR [t0, t1] * w := jeX fun m' _ => hf m'
 have hrs : slot (rfD (nz [s0, s1]) w data [t0, t1]) ((m : Int) * w) w = (List.range w).map (rfW (nz [s0, s1]) w data [t0, t1] m) := by
  have := jeU (ns := [t0, t1]) (f := fun m' => (List.range (w : Int).toNat).map (rfW (nz [s0, s1]) w data [t0, t1] m')) (fun j _ => hf j) m hm
  simpa [rfD] using this
 have hgrl := (jat hgr).2.2.1.1
 have ck := Called.cast (jb1 (nz [t0, t1]) w (rfD (nz [s0, s1]) w data [t0, t1]) (by simp [nz]) (by omega)) (by rw [hgr]; first | done | rfl)
 have sa := Called.cast (same_c (nz [s0, s1]) w data (nz [s0, s1]) w data (by simp [nz]) (by omega) (by simp [nz]) (by omega)) (r' := .bool true) (by simp)
 have iq := jee [t0, t1] m (fun n hn => by have := k9 n hn; omega) (by simp) (by omega)
 have hpx : okIdx (nz [t0, t1]) (ixl [t0, t1] m) = true := ixl_ok kp
 have ga := jfC hgr hpx (by simp [nz]) (by rw [jaj]; simp)
 rw [pz_at kp hm, hrs] at ga
 have ev := evalq2 (out := w) hg (fx 0) (fx 1)
 rw [e1] at r1
 have fe := fun j => fq_ev2 (out := w) hg (fx 0) (fx 1) j
 have hix : ∀ i, 0 ≤ (ixl [t0, t1] m).getD i 0 ∧ (ixl [t0, t1] m).getD i 0 ≤ 9 := fun i => by
  rcases jip i 2 with h | h
  ·obtain ⟨a, _, e2, ha, _, _⟩ := xR_at (m := m) k9 (jiM (show i < ([t0, t1] : List Nat).length from h))
   have hb := k9 _ (jiN (show i < ([t0, t1] : List Nat).length from h))
   rw [e2]
   omega
  ·rw [jiJ, ji5 (by rw [jaj]; exact h)]
   simp
 have hvg : ∀ j, j < w → ((List.range w).map (rfW (nz [s0, s1]) w data [t0, t1] m)).getD j 0 = rfW (nz [s0, s1]) w data [t0, t1] m j := fun j hj => jga _ hj
 have hvb : ∀ j, 0 ≤ ((List.range w).map (rfW (nz [s0, s1]) w data [t0, t1] m)).getD j 0 ∧ ((List.range w).map (rfW (nz [s0, s1]) w data [t0, t1] m)).getD j 0 ≤ 65535 := fun j => by
  rcases jip j w with h | h
  ·rw [hvg j h]; exact hWb m j h
  ·rw [jiJ, ji5 (by simp; exact h)]
   simp
 have nh := fun j => jdr (evQ (nz [s0, s1]) w data (xR [t0, t1] m 0) (xR [t0, t1] m 1) 0 j) 65535
 have e13 : (((2 * 65535 : Nat) : Int) : Rat) = Rat.divInt 131070 1 := by rw [jbA]; rfl
 have fl : ∀ j, j < w → Fq 10 (Rat.divInt (2 * rfW (nz [s0, s1]) w data [t0, t1] m j - 1) 1) ∧ Fq 10 (Rat.divInt (2 * rfW (nz [s0, s1]) w data [t0, t1] m j + 1) 1) := fun j hj => by
  have := hWb m j hj
  exact ⟨jaD (d := 1) (by decide) (by omega) (by decide), jaD (d := 1) (by decide) (by omega) (by decide)⟩
 refine refined2_t ds vals data (rfD (nz [s0, s1]) w data [t0, t1]) (ixl [t0, t1] m) ((List.range w).map (rfW (nz [s0, s1]) w data [t0, t1] m)) oo w zn sm s0 s1 t0 t1 (txq (Rat.divInt 131070 1)) (fun i => txq (xR [t0, t1] m i)) (fun j => txq (evQ (nz [s0, s1]) w data (xR [t0, t1] m 0) (xR [t0, t1] m 1) 0 j)) (fun j => txq (evQ (nz [s0, s1]) w data (xR [t0, t1] m 0) (xR [t0, t1] m 1) 0 j * Rat.divInt 131070 1))
  (fun j => txq (Rat.divInt (2 * rfW (nz [s0, s1]) w data [t0, t1] m j - 1) 1)) (fun j => txq (Rat.divInt (2 * rfW (nz [s0, s1]) w data [t0, t1] m j + 1) 1)) ⟨⟨by omega, by omega⟩, ⟨by omega, by omega⟩⟩ ⟨ht0, ht1⟩ (jaj _ _) hix (by simp) hvb hwo hz (PR [t0, t1]) hP (by rw [hrl]; push_cast; rfl) (by omega) (by omega) jgV gd r1 r2 sa ck (by rw [hzm]; exact iq)
  (fun i hi => ?_) ga ev (lof_c (by omega) (by omega)) (fun j hj => ?_) (fun j hj => ?_) (fun j hj => ?_) (fun j hj => ?_) (fun j hj => ?_)
 ·obtain ⟨a, _, e2, ha, e3, e4⟩ := xR_at (m := m) k9 (jiM (show i < ([t0, t1] : List Nat).length from hi))
  have hb := k9 _ (jiN (show i < ([t0, t1] : List Nat).length from hi))
  have c := lof_c (n := a) (m := (([t0, t1] : List Nat)[i]'hi : Int) - 1) (by omega) (by omega)
  have e3' : ([(t0 : Int), (t1 : Int)] : List Int).getD i 0 = (([t0, t1] : List Nat)[i]'hi : Int) := e3
  rw [e2, e3']
  rw [← e4] at c
  exact c
 ·exact jgc (fe j) jbh (by decide) (by decide) (by decide)
 ·have hj' : j < w := by omega
  have := hWb m j hj'
  rw [hvg j hj']
  exact lof_c (by omega) (by omega)
 ·have hj' : j < w := by omega
  have := hWb m j hj'
  rw [hvg j hj']
  exact lof_c (by omega) (by omega)
 ·have hj' : j < w := by omega
  refine jdR ((fe j).mul jbh) (fl j hj').1 (by decide) (by decide) ?_
  rw [hWj, ← e13, jbA]
  exact (nh j).1
 ·have hj' : j < w := by omega
  refine jdR (fl j hj').2 ((fe j).mul jbh) (by decide) (by decide) ?_
  rw [hWj, ← e13, jbA]
  exact (nh j).2
theorem refinedG3 {D0 : D} {ds vals : List Int} {oo z : Int} {sm : Bool} (hD : D0 = .agg [.ints .u8 ds, .int .u8 oo, .ints .u16 vals, .bool sm]) {s0 s1 s2 w : Nat} {data : List Int} (hw : 1 ≤ w ∧ w ≤ 3) (hg : jal (nz [s0, s1, s2]) w data = true) (h2 : ∀ n ∈ [s0, s1, s2], 2 ≤ n ∧ n ≤ 4) (hz : 0 ≤ z ∧ z ≤ 65535)
  (gd : Called Tryz.prog 11 [D0] (gridD (nz [s0, s1, s2]) w data)) : Called Tryz.prog 9 [D0, .int .u16 z] (.bool true) := by
 subst hD
 have g0 := h2 s0 (by simp)
 have g1 := h2 s1 (by simp)
 have g2 := h2 s2 (by simp)
 obtain ⟨t0, ht0⟩ : ∃ t : Nat, min (2 * (s0 : Int) - 1) 5 = (t : Int) := ⟨(min (2 * (s0 : Int) - 1) 5).toNat, by omega⟩
 obtain ⟨t1, ht1⟩ : ∃ t : Nat, min (2 * (s1 : Int) - 1) 5 = (t : Int) := ⟨(min (2 * (s1 : Int) - 1) 5).toNat, by omega⟩
 obtain ⟨t2, ht2⟩ : ∃ t : Nat, min (2 * (s2 : Int) - 1) 5 = (t : Int) := ⟨(min (2 * (s2 : Int) - 1) 5).toNat, by omega⟩
 have h9 : ∀ n ∈ [s0, s1, s2], 2 ≤ n ∧ n ≤ 9 := fun n hn => by have := h2 n hn; omega
 have k5 : ∀ n ∈ [t0, t1, t2], 2 ≤ n ∧ n ≤ 5 := fun n hn => by simp at hn; omega
 have k9 : ∀ n ∈ [t0, t1, t2], 2 ≤ n ∧ n ≤ 9 := fun n hn => by have := k5 n hn; omega
 have kp := jfv k9
 have hP := jct kp
 have hP5 : PR [t0, t1, t2] ≤ 125 := jiq (PR_5 k5) (by show 5 ^ 3 ≤ 125; decide)
 have hwo : 1 ≤ (w : Int) ∧ (w : Int) ≤ 4 := by omega
 have hcs : cnP w [s0, s1, s2] 3 ≤ 4096 := Int.le_trans (jcZ hwo h9 3).2 (by decide)
 have hct : cnP w [t0, t1, t2] 3 ≤ 4096 := Int.le_trans (jcZ hwo k9 3).2 (by decide)
 have hdl := (jat hg).2.2.1.1
 have r1 : Called Tryz.prog 33 [gridD (nz [s0, s1, s2]) w data, .ints .i64 (nz [s0, s1, s2])] (.tup [gridD (nz [s0, s1, s2]) w (rfD (nz [s0, s1, s2]) w data [s0, s1, s2]), .int .i64 0]) := refq3 (out := w) hg [s0, s1, s2] rfl h9 hcs
 have e1 : rfD (nz [s0, s1, s2]) w data [s0, s1, s2] = data := rf_same3 hg h9
 have r2 : Called Tryz.prog 33 [gridD (nz [s0, s1, s2]) w data, .ints .i64 (nz [t0, t1, t2])] (.tup [gridD (nz [t0, t1, t2]) w (rfD (nz [s0, s1, s2]) w data [t0, t1, t2]), .int .i64 0]) := refq3 (out := w) hg [t0, t1, t2] rfl k9 hct
 obtain ⟨zn, rfl⟩ : ∃ zn : Nat, z = (zn : Int) := ⟨z.toNat, by omega⟩
 obtain ⟨m, hmz⟩ : ∃ m, m = zn % PR [t0, t1, t2] := ⟨_, rfl⟩
 have hm : m < PR [t0, t1, t2] := by rw [hmz]; exact jik _ hP
 have hzm : (zn : Int) % ((PR [t0, t1, t2] : Nat) : Int) = (m : Int) := by rw [hmz]; omega
 have fx := fun i => xR_fq k9 m i
 have unit := fun (j : Nat) (hj : j < w) => jgf (out := w) hg (xR [t0, t1, t2] m 0) (xR [t0, t1, t2] m 1) (xR [t0, t1, t2] m 2) (j := j) (by omega)
 have hWj : ∀ j, rfW (nz [s0, s1, s2]) w data [t0, t1, t2] m j = nearZ (evQ (nz [s0, s1, s2]) w data (xR [t0, t1, t2] m 0) (xR [t0, t1, t2] m 1) (xR [t0, t1, t2] m 2) j) 65535 := rfW3 (z0 := (s0 : Int)) (z1 := (s1 : Int)) (z2 := (s2 : Int)) rfl m
 have hWb : ∀ m' j, j < w → 0 ≤ rfW (nz [s0, s1, s2]) w data [t0, t1, t2] m' j ∧ rfW (nz [s0, s1, s2]) w data [t0, t1, t2] m' j ≤ 65535 := fun m' j hj => by
  have e : rfW (nz [s0, s1, s2]) w data [t0, t1, t2] m' j = nearZ (evQ (nz [s0, s1, s2]) w data (xR [t0, t1, t2] m' 0) (xR [t0, t1, t2] m' 1) (xR [t0, t1, t2] m' 2) j) 65535 := rfW3 (z0 := (s0 : Int)) (z1 := (s1 : Int)) (z2 := (s2 : Int)) rfl m' j
  rw [e]
  have u := jgf (out := w) hg (xR [t0, t1, t2] m' 0) (xR [t0, t1, t2] m' 1) (xR [t0, t1, t2] m' 2) (j := j) (by omega)
  exact jek u.1 u.2
 have hf : ∀ m', ((List.range (w : Int).toNat).map (rfW (nz [s0, s1, s2]) w data [t0, t1, t2] m')).length = w := fun m' => by simp
 have hgr : jal (nz [t0, t1, t2]) w (rfD (nz [s0, s1, s2]) w data [t0, t1, t2]) = true := by
  refine jhw (by simp) k9 (by omega) hf (fun m' v hv => ?_) (by
   have := Nat.mul_le_mul hP5 hw.2
   omega)
  obtain ⟨j, hj, rfl⟩ := List.mem_map.1 hv
  rw [List.mem_range] at hj
  exact hWb m' j (by omega)
 have hrl : (rfD (nz [s0, s1, s2]) w data [t0, t1, t2]).length = PR [t0, t1, t2] * w := jeX fun m' _ => hf m'
 have hrs : slot (rfD (nz [s0, s1, s2]) w data [t0, t1, t2]) ((m : Int) * w) w = (List.range w).map (rfW (nz [s0, s1, s2]) w data [t0, t1, t2] m) := by
  have := jeU (ns := [t0, t1, t2]) (f := fun m' => (List.range (w : Int).toNat).map (rfW (nz [s0, s1, s2]) w data [t0, t1, t2] m')) (fun j _ => hf j) m hm
  simpa [rfD] using this
 have hgrl := (jat hgr).2.2.1.1
 have ck := Called.cast (jb1 (nz [t0, t1, t2]) w (rfD (nz [s0, s1, s2]) w data [t0, t1, t2]) (by simp [nz]) (by omega)) (by rw [hgr]; first | done | rfl)
 have sa := Called.cast (same_c (nz [s0, s1, s2]) w data (nz [s0, s1, s2]) w data (by simp [nz]) (by omega) (by simp [nz]) (by omega)) (r' := .bool true) (by simp)
 have iq := jee [t0, t1, t2] m (fun n hn => by have := k9 n hn; omega) (by simp) (by omega)
 have hpx : okIdx (nz [t0, t1, t2]) (ixl [t0, t1, t2] m) = true := ixl_ok kp
 have ga := jfC hgr hpx (by simp [nz]) (by rw [jaj]; simp)
 rw [pz_at kp hm, hrs] at ga
 have ev := evalq3 (out := w) hg (fx 0) (fx 1) (fx 2)
 rw [e1] at r1
 have fe := fun j => fq_ev3 (out := w) hg (fx 0) (fx 1) (fx 2) j
 have hix : ∀ i, 0 ≤ (ixl [t0, t1, t2] m).getD i 0 ∧ (ixl [t0, t1, t2] m).getD i 0 ≤ 9 := fun i => by
  rcases jip i 3 with h | h
  ·obtain ⟨a, _, e2, ha, _, _⟩ := xR_at (m := m) k9 (jiM (show i < ([t0, t1, t2] : List Nat).length from h))
   have hb := k9 _ (jiN (show i < ([t0, t1, t2] : List Nat).length from h))
   rw [e2]
   omega
  ·rw [jiJ, ji5 (by rw [jaj]; exact h)]
   simp
 have hvg : ∀ j, j < w → ((List.range w).map (rfW (nz [s0, s1, s2]) w data [t0, t1, t2] m)).getD j 0 = rfW (nz [s0, s1, s2]) w data [t0, t1, t2] m j := fun j hj => jga _ hj
 have hvb : ∀ j, 0 ≤ ((List.range w).map (rfW (nz [s0, s1, s2]) w data [t0, t1, t2] m)).getD j 0 ∧ ((List.range w).map (rfW (nz [s0, s1, s2]) w data [t0, t1, t2] m)).getD j 0 ≤ 65535 := fun j => by
  rcases jip j w with h | h
  ·rw [hvg j h]; exact hWb m j h
  ·rw [jiJ, ji5 (by simp; exact h)]
   simp
 have nh := fun j => jdr (evQ (nz [s0, s1, s2]) w data (xR [t0, t1, t2] m 0) (xR [t0, t1, t2] m 1) (xR [t0, t1, t2] m 2) j) 65535
 have e13 : (((2 * 65535 : Nat) : Int) : Rat) = Rat.divInt 131070 1 := by rw [jbA]; rfl
 have fl : ∀ j, j < w → Fq 10 (Rat.divInt (2 * rfW (nz [s0, s1, s2]) w data [t0, t1, t2] m j - 1) 1) ∧ Fq 10 (Rat.divInt (2 * rfW (nz [s0, s1, s2]) w data [t0, t1, t2] m j + 1) 1) := fun j hj => by
  have := hWb m j hj
  exact ⟨jaD (d := 1) (by decide) (by omega) (by decide), jaD (d := 1) (by decide) (by omega) (by decide)⟩
 refine refined3_t ds vals data (rfD (nz [s0, s1, s2]) w data [t0, t1, t2]) (ixl [t0, t1, t2] m) ((List.range w).map (rfW (nz [s0, s1, s2]) w data [t0, t1, t2] m)) oo w zn sm s0 s1 s2 t0 t1 t2 (txq (Rat.divInt 131070 1)) (fun i => txq (xR [t0, t1, t2] m i)) (fun j => txq (evQ (nz [s0, s1, s2]) w data (xR [t0, t1, t2] m 0) (xR [t0, t1, t2] m 1) (xR [t0, t1, t2] m 2) j)) (fun j => txq (evQ (nz [s0, s1, s2]) w data (xR [t0, t1, t2] m 0) (xR [t0, t1, t2] m 1) (xR [t0, t1, t2] m 2) j * Rat.divInt 131070 1))
  (fun j => txq (Rat.divInt (2 * rfW (nz [s0, s1, s2]) w data [t0, t1, t2] m j - 1) 1)) (fun j => txq (Rat.divInt (2 * rfW (nz [s0, s1, s2]) w data [t0, t1, t2] m j + 1) 1)) ⟨⟨by omega, by omega⟩, ⟨by omega, by omega⟩, ⟨by omega, by omega⟩⟩ ⟨ht0, ht1, ht2⟩ (jaj _ _) hix (by simp) hvb hwo hz (PR [t0, t1, t2]) hP (by rw [hrl]; push_cast; rfl) (by omega) (by omega) jgV gd r1 r2 sa ck (by rw [hzm]; exact iq)
  (fun i hi => ?_) ga ev (lof_c (by omega) (by omega)) (fun j hj => ?_) (fun j hj => ?_) (fun j hj => ?_) (fun j hj => ?_) (fun j hj => ?_)
 ·obtain ⟨a, _, e2, ha, e3, e4⟩ := xR_at (m := m) k9 (jiM (show i < ([t0, t1, t2] : List Nat).length from hi))
  have hb := k9 _ (jiN (show i < ([t0, t1, t2] : List Nat).length from hi))
  have c := lof_c (n := a) (m := (([t0, t1, t2] : List Nat)[i]'hi : Int) - 1) (by omega) (by omega)
  have e3' : ([(t0 : Int), (t1 : Int), (t2 : Int)] : List Int).getD i 0 = (([t0, t1, t2] : List Nat)[i]'hi : Int) := e3
  rw [e2, e3']
  rw [← e4] at c
  exact c
 ·exact jgc (fe j) jbh (by decide) (by decide) (by decide)
 ·have hj' : j < w := by omega
  have := hWb m j hj'
  rw [hvg j hj']
  exact lof_c (by omega) (by omega)
 ·have hj' : j < w := by omega
  have := hWb m j hj'
  rw [hvg j hj']
  exact lof_c (by omega) (by omega)
 ·have hj' : j < w := by omega
  refine jdR ((fe j).mul jbh) (fl j hj').1 (by decide) (by decide) ?_
  rw [hWj, ← e13, jbA]
  exact (nh j).1
 ·have hj' : j < w := by omega
  refine jdR (fl j hj').2 ((fe j).mul jbh) (by decide) (by decide) ?_
  rw [hWj, ← e13, jbA]
  exact (nh j).2
theorem refined_c (ds : List Int) (o : Int) (vals : List Int) (sm : Bool) (hd : ∀ v ∈ ds, 0 ≤ v ∧ v ≤ 255) (hdl : ds.length ≤ 281474976710656) (ho : 0 ≤ o ∧ o ≤ 255) (hv : ∀ v ∈ vals, 0 ≤ v ∧ v ≤ 65535) (hvl : vals.length ≤ 281474976710656) {z : Int} (hz : 0 ≤ z ∧ z ≤ 65535) :
  Called Tryz.prog 9 [.agg [.ints .u8 ds, .int .u8 o, .ints .u16 vals, .bool sm], .int .u16 z] (.bool true) := by
 have gd := draft_c ds o vals sm hd hdl ho hv hvl
 have ok := draft_ok ds o vals sm hv
 have nb := nsD_bd ds
 have wb := wD_bd o
 generalize dData ds o vals sm = data at *
 generalize hns : nsD ds = ns at *
 generalize wD o = w at *
 match ns, nb with
 | [], nb => exact absurd nb.1.1 (by decide)
 | [s0], nb => exact refinedG1 rfl wb ok nb.2 hz gd
 | [s0, s1], nb => exact refinedG2 rfl wb ok nb.2 hz gd
 | [s0, s1, s2], nb => exact refinedG3 rfl wb ok nb.2 hz gd
 | _ :: _ :: _ :: _ :: _, nb => exact absurd nb.1.2 (by simp)
end Go.Proofs.YtgjgpdceghjajaaGreatDoor
end
