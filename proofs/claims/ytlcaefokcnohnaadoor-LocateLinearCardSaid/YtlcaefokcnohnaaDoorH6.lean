/- What some functions of the program answer at values that mean given lists, texts and numbers, each proved of the program's own code: part 6. Conditions: those that each theorem names. -/
import Derived.Test.YtlcaefokcnohnaaDoorH5
import Derived.Test.YtlcaefokcnohnaaDoorH2
import Derived.Test.YtlcaefokcnohnaaDoorW9
set_option linter.unusedSimpArgs false
set_option linter.unusedVariables false
set_option maxHeartbeats 8000000
set_option maxRecDepth 100000
section
namespace Go.Proofs.YtlcaefokcnohnaaDoor
open Go Go.V
def Ln (data : List Int) (s0 s1 s2 : Nat) (p q r : Int) : Prop := ∀ x : N3, x.1 < s0 ∧ x.2.1 < s1 ∧ x.2.2 < s2 → cnr data s1 s2 x = (p * x.1, q * x.2.1, r * x.2.2)
def zof (p q r : Int) (x : N3) (t : V3) : V3 := (q * r * (t.1 - p * x.1), p * r * (t.2.1 - q * x.2.1), p * q * (t.2.2 - r * x.2.2))
def nth3 (z : V3) (d : Nat) : Int := match d with
  | 0 => z.1
  | 1 => z.2.1
  | _ => z.2.2
def Chn (D : Int) (o : N3) (z : V3) : Prop := nth3 z o.1 ≤ D ∧ nth3 z o.2.1 ≤ nth3 z o.1 ∧ nth3 z o.2.2 ≤ nth3 z o.2.1 ∧ 0 ≤ nth3 z o.2.2
instance (D : Int) (o : N3) (z : V3) : Decidable (Chn D o z) := by unfold Chn; infer_instance
theorem hld_dp {v0 v1 v2 v3 t : V3} {D A B E : Int} (hD : 0 < D) (hW : dt (sb v1 v0) (sb v2 v0) (sb v3 v0) = D) (hA : dt (sb t v0) (sb v2 v0) (sb v3 v0) = A) (hB : dt (sb v1 v0) (sb t v0) (sb v3 v0) = B) (hE : dt (sb v1 v0) (sb v2 v0) (sb t v0) = E) :
    hld v0 v1 v2 v3 t = if 0 ≤ A ∧ 0 ≤ B ∧ 0 ≤ E ∧ A + B + E ≤ D then some (A, B, E, D) else none := by
  have hs : sg1 D = 1 := by unfold sg1; rw [if_neg (by omega)]
  unfold hld
  dsimp only
  rw [hW, hA, hB, hE, hs]
  simp only [Int.one_mul, Int.mul_one]
  by_cases h : 0 ≤ A ∧ 0 ≤ B ∧ 0 ≤ E ∧ A + B + E ≤ D
  · rw [if_pos h, if_neg (by omega)]
  · rw [if_neg h, if_pos (by omega)]
theorem hld_dn {v0 v1 v2 v3 t : V3} {D A B E : Int} (hD : 0 < D) (hW : dt (sb v1 v0) (sb v2 v0) (sb v3 v0) = -D) (hA : dt (sb t v0) (sb v2 v0) (sb v3 v0) = -A) (hB : dt (sb v1 v0) (sb t v0) (sb v3 v0) = -B) (hE : dt (sb v1 v0) (sb v2 v0) (sb t v0) = -E) :
    hld v0 v1 v2 v3 t = if 0 ≤ A ∧ 0 ≤ B ∧ 0 ≤ E ∧ A + B + E ≤ D then some (A, B, E, D) else none := by
  have hs : sg1 (-D) = -1 := by unfold sg1; rw [if_pos (by omega)]
  unfold hld
  dsimp only
  rw [hW, hA, hB, hE, hs]
  have e1 : ∀ x : Int, -1 * -x = x := fun x => by omega
  have e2 : ∀ x : Int, -x * -1 = x := fun x => by omega
  simp only [e1, e2]
  by_cases h : 0 ≤ A ∧ 0 ≤ B ∧ 0 ≤ E ∧ A + B + E ≤ D
  · rw [if_pos h, if_neg (by omega)]
  · rw [if_neg h, if_pos (by omega)]
theorem hld_lin {data : List Int} {s0 s1 s2 : Nat} {p q r : Int} (L : Ln data s0 s1 s2 p q r) (hp : 0 < p) (hq : 0 < q) (hr : 0 < r) {x : N3} (hx : x.1 + 1 < s0 ∧ x.2.1 + 1 < s1 ∧ x.2.2 + 1 < s2) {o : Nat} (ho : o < 6) (t : V3) :
    hldX data s1 s2 x (ordA o) t = if Chn (p * q * r) (ordA o) (zof p q r x t) then some (nth3 (zof p q r x t) (ordA o).1 - nth3 (zof p q r x t) (ordA o).2.1, nth3 (zof p q r x t) (ordA o).2.1 - nth3 (zof p q r x t) (ordA o).2.2, nth3 (zof p q r x t) (ordA o).2.2, p * q * r) else none := by
  have hD : 0 < p * q * r := Int.mul_pos (Int.mul_pos hp hq) hr
  obtain ⟨i, j, k⟩ := x
  obtain ⟨u, v, w⟩ := t
  dsimp only at hx
  have c0 := L (i, j, k) ⟨by dsimp only; omega, by dsimp only; omega, by dsimp only; omega⟩
  have c1 := L (i + 1, j, k) ⟨by dsimp only; omega, by dsimp only; omega, by dsimp only; omega⟩
  have c2 := L (i, j + 1, k) ⟨by dsimp only; omega, by dsimp only; omega, by dsimp only; omega⟩
  have c3 := L (i, j, k + 1) ⟨by dsimp only; omega, by dsimp only; omega, by dsimp only; omega⟩
  have c12 := L (i + 1, j + 1, k) ⟨by dsimp only; omega, by dsimp only; omega, by dsimp only; omega⟩
  have c13 := L (i + 1, j, k + 1) ⟨by dsimp only; omega, by dsimp only; omega, by dsimp only; omega⟩
  have c23 := L (i, j + 1, k + 1) ⟨by dsimp only; omega, by dsimp only; omega, by dsimp only; omega⟩
  have c123 := L (i + 1, j + 1, k + 1) ⟨by dsimp only; omega, by dsimp only; omega, by dsimp only; omega⟩
  have e1 : ∀ (a : Int) (n : Nat), a * ((n + 1 : Nat) : Int) - a * n = a := fun a n => by
    rw [Int.natCast_add, Int.mul_add]
    simp only [Int.natCast_one, Int.mul_one]
    omega
  have fin : ∀ {A B E : Int} {z0 z1 z2 : Int}, A = z0 - z1 → B = z1 - z2 → E = z2 → ((0 ≤ A ∧ 0 ≤ B ∧ 0 ≤ E ∧ A + B + E ≤ p * q * r) ↔ (z0 ≤ p * q * r ∧ z1 ≤ z0 ∧ z2 ≤ z1 ∧ 0 ≤ z2)) := by
    intro A B E z0 z1 z2 h1 h2 h3
    constructor <;> intro h <;> omega
  have h6 : o = 0 ∨ o = 1 ∨ o = 2 ∨ o = 3 ∨ o = 4 ∨ o = 5 := by omega
  rcases h6 with e | e | e | e | e | e
  all_goals subst e
  all_goals unfold hldX
  all_goals simp only [ordA, inc3]
  · rw [c0, c1, c12, c123, hld_dp (A := q * r * (u - p * i) - p * r * (v - q * j)) (B := p * r * (v - q * j) - p * q * (w - r * k)) (E := p * q * (w - r * k)) hD]
    · unfold Chn zof nth3
      dsimp only
      simp only [fin rfl rfl rfl]
    all_goals unfold dt sb det3
    all_goals simp only [e1, Int.sub_self]
    all_goals grind
  · rw [c0, c1, c13, c123, hld_dn (A := q * r * (u - p * i) - p * q * (w - r * k)) (B := p * q * (w - r * k) - p * r * (v - q * j)) (E := p * r * (v - q * j)) hD]
    · unfold Chn zof nth3
      dsimp only
      simp only [fin rfl rfl rfl]
    all_goals unfold dt sb det3
    all_goals simp only [e1, Int.sub_self]
    all_goals grind
  · rw [c0, c2, c12, c123, hld_dn (A := p * r * (v - q * j) - q * r * (u - p * i)) (B := q * r * (u - p * i) - p * q * (w - r * k)) (E := p * q * (w - r * k)) hD]
    · unfold Chn zof nth3
      dsimp only
      simp only [fin rfl rfl rfl]
    all_goals unfold dt sb det3
    all_goals simp only [e1, Int.sub_self]
    all_goals grind
  · rw [c0, c2, c23, c123, hld_dp (A := p * r * (v - q * j) - p * q * (w - r * k)) (B := p * q * (w - r * k) - q * r * (u - p * i)) (E := q * r * (u - p * i)) hD]
    · unfold Chn zof nth3
      dsimp only
      simp only [fin rfl rfl rfl]
    all_goals unfold dt sb det3
    all_goals simp only [e1, Int.sub_self]
    all_goals grind
  · rw [c0, c3, c13, c123, hld_dp (A := p * q * (w - r * k) - q * r * (u - p * i)) (B := q * r * (u - p * i) - p * r * (v - q * j)) (E := p * r * (v - q * j)) hD]
    · unfold Chn zof nth3
      dsimp only
      simp only [fin rfl rfl rfl]
    all_goals unfold dt sb det3
    all_goals simp only [e1, Int.sub_self]
    all_goals grind
  · rw [c0, c3, c23, c123, hld_dn (A := p * q * (w - r * k) - p * r * (v - q * j)) (B := p * r * (v - q * j) - q * r * (u - p * i)) (E := q * r * (u - p * i)) hD]
    · unfold Chn zof nth3
      dsimp only
      simp only [fin rfl rfl rfl]
    all_goals unfold dt sb det3
    all_goals simp only [e1, Int.sub_self]
    all_goals grind
theorem cell_lt {s0 s1 s2 n : Nat} (h0 : 2 ≤ s0) (h1 : 2 ≤ s1) (h2 : 2 ≤ s2) (hn : n < 6 * cellsN s0 s1 s2) : (cellN s1 s2 n).1 + 1 < s0 ∧ (cellN s1 s2 n).2.1 + 1 < s1 ∧ (cellN s1 s2 n).2.2 + 1 < s2 := by
  obtain ⟨i, j, k, o, hi, hj, hk, ho, e⟩ := num_of (A := s0 - 1) (B := s1 - 1) (C := s2 - 1) hn
  have := cellN_of (i := i) hj hk ho
  rw [← e] at this
  rw [this.1]
  dsimp only
  omega
theorem hldN_lin {data : List Int} {s0 s1 s2 : Nat} {p q r : Int} (L : Ln data s0 s1 s2 p q r) (hp : 0 < p) (hq : 0 < q) (hr : 0 < r) (h0 : 2 ≤ s0) (h1 : 2 ≤ s1) (h2 : 2 ≤ s2) {n : Nat} (hn : n < 6 * cellsN s0 s1 s2) (t : V3) {z : V3} (hz : zof p q r (cellN s1 s2 n) t = z) :
    hldN data s1 s2 n t = if Chn (p * q * r) (ordA (n % 6)) z then some (nth3 z (ordA (n % 6)).1 - nth3 z (ordA (n % 6)).2.1, nth3 z (ordA (n % 6)).2.1 - nth3 z (ordA (n % 6)).2.2, nth3 z (ordA (n % 6)).2.2, p * q * r) else none := by
  subst hz
  exact hld_lin L hp hq hr (cell_lt h0 h1 h2 hn) (Nat.mod_lt _ (by omega)) t
theorem rs3_z {z : V3} {o : Nat} (ho : o < 6) : rs3 o (nth3 z (ordA o).1 - nth3 z (ordA o).2.1) (nth3 z (ordA o).2.1 - nth3 z (ordA o).2.2) (nth3 z (ordA o).2.2) = z := by
  obtain ⟨a, b, c⟩ := z
  have h6 : o = 0 ∨ o = 1 ∨ o = 2 ∨ o = 3 ∨ o = 4 ∨ o = 5 := by omega
  rcases h6 with e | e | e | e | e | e <;> subst e <;> (simp only [rs3, nth3, ordA]; exact Prod.ext (by first | rfl | (dsimp only; omega)) (Prod.ext (by first | rfl | (dsimp only; omega)) (by first | rfl | (dsimp only; omega))))
theorem frq_z {m p D z : Int} {x s : Nat} {t : Int} (hm : 0 < m) (hp : 0 < p) (hs : 2 ≤ s) (hD : D = m * p) (hz : z = m * (t - p * x)) : frq x z D s = Rat.divInt t (p * ((s : Int) - 1)) := by
  subst hD
  subst hz
  unfold frq
  have hs1 : 0 < (s : Int) - 1 := by omega
  have h1 : 0 < p * ((s : Int) - 1) := Int.mul_pos hp hs1
  have h2 : 0 < m * p * ((s : Int) - 1) := Int.mul_pos (Int.mul_pos hm hp) hs1
  rw [Rat.divInt_eq_divInt_iff (by omega) (by omega)]
  grind
theorem chn_some {D : Int} {z : V3} (h0 : 0 ≤ z.1 ∧ z.1 ≤ D) (h1 : 0 ≤ z.2.1 ∧ z.2.1 ≤ D) (h2 : 0 ≤ z.2.2 ∧ z.2.2 ≤ D) : ∃ o, o < 6 ∧ Chn D (ordA o) z := by
  obtain ⟨x, y, w⟩ := z
  dsimp only at h0 h1 h2
  have key : ∀ o, o < 6 → (match o with | 0 => x ≤ D ∧ y ≤ x ∧ w ≤ y ∧ 0 ≤ w | 1 => x ≤ D ∧ w ≤ x ∧ y ≤ w ∧ 0 ≤ y | 2 => y ≤ D ∧ x ≤ y ∧ w ≤ x ∧ 0 ≤ w | 3 => y ≤ D ∧ w ≤ y ∧ x ≤ w ∧ 0 ≤ x | 4 => w ≤ D ∧ x ≤ w ∧ y ≤ x ∧ 0 ≤ y | _ => w ≤ D ∧ y ≤ w ∧ x ≤ y ∧ 0 ≤ x) → ∃ o, o < 6 ∧ Chn D (ordA o) (x, y, w) := by
    intro o ho h
    refine ⟨o, ho, ?_⟩
    have h6 : o = 0 ∨ o = 1 ∨ o = 2 ∨ o = 3 ∨ o = 4 ∨ o = 5 := by omega
    rcases h6 with e | e | e | e | e | e <;> subst e <;> exact h
  by_cases a : y ≤ x
  · by_cases b : w ≤ y
    · exact key 0 (by omega) ⟨by omega, by omega, by omega, by omega⟩
    · by_cases c : w ≤ x
      · exact key 1 (by omega) ⟨by omega, by omega, by omega, by omega⟩
      · exact key 4 (by omega) ⟨by omega, by omega, by omega, by omega⟩
  · by_cases b : w ≤ x
    · exact key 2 (by omega) ⟨by omega, by omega, by omega, by omega⟩
    · by_cases c : w ≤ y
      · exact key 3 (by omega) ⟨by omega, by omega, by omega, by omega⟩
      · exact key 5 (by omega) ⟨by omega, by omega, by omega, by omega⟩
theorem chn_le {D : Int} {z : V3} {o : Nat} (ho : o < 6) (h : Chn D (ordA o) z) : (0 ≤ z.1 ∧ z.1 ≤ D) ∧ (0 ≤ z.2.1 ∧ z.2.1 ≤ D) ∧ (0 ≤ z.2.2 ∧ z.2.2 ≤ D) := by
  obtain ⟨x, y, w⟩ := z
  have h6 : o = 0 ∨ o = 1 ∨ o = 2 ∨ o = 3 ∨ o = 4 ∨ o = 5 := by omega
  rcases h6 with e | e | e | e | e | e <;> subst e <;> simp only [Chn, nth3, ordA] at h <;> dsimp only <;> omega
theorem cell_ex {p t : Int} {s : Nat} (hp : 0 < p) (hs : 2 ≤ s ∧ s ≤ 4) (h0 : 0 ≤ t) (h1 : t ≤ p * ((s : Int) - 1)) : ∃ i : Nat, i < s - 1 ∧ 0 ≤ t - p * (i : Int) ∧ t - p * (i : Int) ≤ p := by
  have h3 : s = 2 ∨ s = 3 ∨ s = 4 := by omega
  have k0 : p * ((0 : Nat) : Int) = 0 := by simp
  have k1 : p * ((1 : Nat) : Int) = p := by simp
  have k2 : p * ((2 : Nat) : Int) = 2 * p := by rw [Int.mul_comm]; rfl
  rcases h3 with e | e | e
  · subst e
    have : p * (((2 : Nat) : Int) - 1) = p := by rw [show (((2 : Nat) : Int) - 1) = 1 from rfl, Int.mul_one]
    exact ⟨0, by omega, by omega, by omega⟩
  · subst e
    have : p * (((3 : Nat) : Int) - 1) = 2 * p := by rw [show (((3 : Nat) : Int) - 1) = 2 from rfl, Int.mul_comm]
    by_cases h : t ≤ p
    · exact ⟨0, by omega, by omega, by omega⟩
    · exact ⟨1, by omega, by omega, by omega⟩
  · subst e
    have : p * (((4 : Nat) : Int) - 1) = 3 * p := by rw [show (((4 : Nat) : Int) - 1) = 3 from rfl, Int.mul_comm]
    by_cases h : t ≤ p
    · exact ⟨0, by omega, by omega, by omega⟩
    · by_cases h' : t ≤ 2 * p
      · exact ⟨1, by omega, by omega, by omega⟩
      · exact ⟨2, by omega, by omega, by omega⟩
theorem z_le {m p D u : Int} (hm : 0 < m) (hD : D = m * p) (h0 : 0 ≤ u) (h1 : u ≤ p) : 0 ≤ m * u ∧ m * u ≤ D := by
  subst hD
  exact ⟨Int.mul_nonneg (by omega) h0, Int.mul_le_mul_of_nonneg_left h1 (by omega)⟩
theorem z_gt {m p D u : Int} (hm : 0 < m) (hD : D = m * p) (h1 : p < u) : D < m * u := by
  subst hD
  exact Int.mul_lt_mul_of_pos_left h1 hm
theorem lin_finds {data : List Int} {s0 s1 s2 : Nat} {p q r : Int} (L : Ln data s0 s1 s2 p q r) (hp : 0 < p) (hq : 0 < q) (hr : 0 < r) (h0 : 2 ≤ s0 ∧ s0 ≤ 4) (h1 : 2 ≤ s1 ∧ s1 ≤ 4) (h2 : 2 ≤ s2 ∧ s2 ≤ 4) {t : V3}
    (t0 : 0 ≤ t.1 ∧ t.1 ≤ p * ((s0 : Int) - 1)) (t1 : 0 ≤ t.2.1 ∧ t.2.1 ≤ q * ((s1 : Int) - 1)) (t2 : 0 ≤ t.2.2 ∧ t.2.2 ≤ r * ((s2 : Int) - 1)) :
    ∃ n a b e d, fndN data s0 s1 s2 t = some n ∧ hldN data s1 s2 n t = some (a, b, e, d) ∧
      frq (cellN s1 s2 n).1 (rs3 (n % 6) a b e).1 d s0 = Rat.divInt t.1 (p * ((s0 : Int) - 1)) ∧ frq (cellN s1 s2 n).2.1 (rs3 (n % 6) a b e).2.1 d s1 = Rat.divInt t.2.1 (q * ((s1 : Int) - 1)) ∧ frq (cellN s1 s2 n).2.2 (rs3 (n % 6) a b e).2.2 d s2 = Rat.divInt t.2.2 (r * ((s2 : Int) - 1)) := by
  have hqr : 0 < q * r := Int.mul_pos hq hr
  have hpr : 0 < p * r := Int.mul_pos hp hr
  have hpq : 0 < p * q := Int.mul_pos hp hq
  have e0 : p * q * r = q * r * p := by grind
  have e1 : p * q * r = p * r * q := by grind
  have e2 : p * q * r = p * q * r := rfl
  obtain ⟨i, hi, i1, i2⟩ := cell_ex hp h0 t0.1 t0.2
  obtain ⟨j, hj, j1, j2⟩ := cell_ex hq h1 t1.1 t1.2
  obtain ⟨k, hk, l1, l2⟩ := cell_ex hr h2 t2.1 t2.2
  obtain ⟨o, ho, hch⟩ := chn_some (D := p * q * r) (z := zof p q r (i, j, k) t) (z_le hqr e0 i1 i2) (z_le hpr e1 j1 j2) (z_le hpq e2 l1 l2)
  have hn := num_lt (A := s0 - 1) hi hj hk ho
  obtain ⟨c1, c2⟩ := cellN_of (i := i) hj hk ho
  generalize ((i * (s1 - 1) + j) * (s2 - 1) + k) * 6 + o = m at *
  have hm : (hldN data s1 s2 m t).isSome = true := by
    rw [hldN_lin L hp hq hr h0.1 h1.1 h2.1 hn t rfl, c2, c1, if_pos hch]
    rfl
  cases hf : fndN data s0 s1 s2 t with
  | none =>
    unfold fndN at hf
    rw [List.find?_eq_none] at hf
    exact absurd hm (hf m (List.mem_range.2 hn))
  | some n =>
    have hf' := hf
    unfold fndN at hf'
    have hs := List.find?_some hf'
    have hl : n < 6 * cellsN s0 s1 s2 := List.mem_range.1 (List.mem_of_find?_eq_some hf')
    have hh := hldN_lin L hp hq hr h0.1 h1.1 h2.1 hl t rfl
    have hn6 : n % 6 < 6 := Nat.mod_lt _ (by omega)
    have hz := rs3_z (z := zof p q r (cellN s1 s2 n) t) hn6
    by_cases hc : Chn (p * q * r) (ordA (n % 6)) (zof p q r (cellN s1 s2 n) t)
    · rw [if_pos hc] at hh
      refine ⟨n, _, _, _, _, rfl, hh, ?_, ?_, ?_⟩
      · rw [hz]
        exact frq_z hqr hp h0.1 e0 rfl
      · rw [hz]
        exact frq_z hpr hq h1.1 e1 rfl
      · rw [hz]
        exact frq_z hpq hr h2.1 e2 rfl
    · rw [if_neg hc] at hh
      rw [hh] at hs
      cases hs
theorem cnt_none {data : List Int} {s1 s2 m : Nat} {t : V3} (h : ∀ n, n < m → hldN data s1 s2 n t = none) : cntN data s1 s2 m t = 0 := by
  unfold cntN
  rw [List.length_eq_zero_iff, List.filter_eq_nil_iff]
  intro n hn
  rw [h n (List.mem_range.1 hn)]
  simp
theorem beyond {p t : Int} {s i : Nat} (hp : 0 < p) (hs : 2 ≤ s ∧ s ≤ 4) (h : t = p * ((s : Int) - 1) + 1) (hi : i + 1 < s) : p < t - p * (i : Int) := by
  have h1 : p * ((i : Int) + 1) ≤ p * ((s : Int) - 1) := Int.mul_le_mul_of_nonneg_left (by omega) (by omega)
  rw [Int.mul_add, Int.mul_one] at h1
  omega
theorem lin_none {data : List Int} {s0 s1 s2 : Nat} {p q r : Int} (L : Ln data s0 s1 s2 p q r) (hp : 0 < p) (hq : 0 < q) (hr : 0 < r) (h0 : 2 ≤ s0 ∧ s0 ≤ 4) (h1 : 2 ≤ s1 ∧ s1 ≤ 4) (h2 : 2 ≤ s2 ∧ s2 ≤ 4) {t : V3}
    (ht : t.1 = p * ((s0 : Int) - 1) + 1 ∨ t.2.1 = q * ((s1 : Int) - 1) + 1 ∨ t.2.2 = r * ((s2 : Int) - 1) + 1) : ∀ n, n < 6 * cellsN s0 s1 s2 → hldN data s1 s2 n t = none := by
  intro n hn
  have hqr : 0 < q * r := Int.mul_pos hq hr
  have hpr : 0 < p * r := Int.mul_pos hp hr
  have hpq : 0 < p * q := Int.mul_pos hp hq
  have e0 : p * q * r = q * r * p := by grind
  have e1 : p * q * r = p * r * q := by grind
  have e2 : p * q * r = p * q * r := rfl
  have hc := cell_lt h0.1 h1.1 h2.1 hn
  rw [hldN_lin L hp hq hr h0.1 h1.1 h2.1 hn t rfl, if_neg]
  intro h
  have hl := chn_le (Nat.mod_lt _ (by omega)) h
  unfold zof at hl
  dsimp only at hl
  rcases ht with e | e | e
  · have := z_gt hqr e0 (beyond hp h0 e hc.1)
    omega
  · have := z_gt hpr e1 (beyond hq h1 e hc.2.1)
    omega
  · have := z_gt hpq e2 (beyond hr h2 e hc.2.2)
    omega
end Go.Proofs.YtlcaefokcnohnaaDoor
end
section
namespace Go.Proofs.YtlcaefokcnohnaaDoor
open Go Go.V
def pz (z : List (Int × Int)) : Int := z.foldl (fun p a => p * a.1 + a.2) 0
def okIdx (size xs : List Int) : Bool := decide (xs.length = size.length) && (size.zip xs).all fun a => decide (0 ≤ a.2 ∧ a.2 ≤ a.1 - 1)
def pad4 (xs : List Int) : List Int := xs ++ List.replicate (4 - xs.length) 0
theorem pad4_length {xs : List Int} (h : xs.length ≤ 4) : (pad4 xs).length = 4 := by simp [pad4]; omega
theorem pad4_set {xs : List Int} {k : Nat} {x : Int} (h : xs[k]? = some x) (hl : xs.length ≤ 4) : (pad4 (xs.take k)).set k x = pad4 (xs.take (k + 1)) := by
  have hk : k < xs.length := (List.getElem?_eq_some_iff.1 h).1
  refine List.ext_getElem? fun j => ?_
  rw [List.getElem?_set]
  have h1 : (xs.take k).length = k := by simp; omega
  have h2 : (xs.take (k + 1)).length = k + 1 := by simp; omega
  have hp : (pad4 (xs.take k)).length = 4 := pad4_length (by omega)
  by_cases e : k = j
  · subst e
    rw [if_pos rfl, if_pos (by omega)]
    unfold pad4
    rw [List.getElem?_append_left (by omega), List.getElem?_take_of_lt (by omega), h]
  · rw [if_neg e]
    unfold pad4
    rw [h1, h2]
    by_cases hj : j < k
    · rw [List.getElem?_append_left (by omega), List.getElem?_append_left (by omega), List.getElem?_take_of_lt hj, List.getElem?_take_of_lt (by omega)]
    · rw [List.getElem?_append_right (by omega), List.getElem?_append_right (by omega), h1, h2]
      simp only [List.getElem?_replicate]
      by_cases hj4 : j < 4
      · rw [if_pos (by omega), if_pos (by omega)]
      · rw [if_neg (by omega), if_neg (by omega)]
theorem pz_bd_aux (z : List (Int × Int)) : ∀ (p q : Int), (∀ a ∈ z, 0 ≤ a.2 ∧ a.2 ≤ a.1 - 1) → 0 ≤ p → p + 1 ≤ q →
    0 ≤ z.foldl (fun p a => p * a.1 + a.2) p ∧ z.foldl (fun p a => p * a.1 + a.2) p + 1 ≤ (z.map (·.1)).foldl (· * ·) q := by
  induction z with
  | nil => intro p q _ h1 h2; exact ⟨h1, h2⟩
  | cons a z ih =>
    intro p q h h1 h2
    have ha := h a (by simp)
    simp only [List.foldl_cons, List.map_cons]
    have h3 : 0 ≤ p * a.1 := Int.mul_nonneg h1 (by omega)
    have h4 : (p + 1) * a.1 ≤ q * a.1 := Int.mul_le_mul_of_nonneg_right h2 (by omega)
    rw [Int.add_mul] at h4
    exact ih _ _ (fun b hb => h b (by simp [hb])) (by omega) (by omega)
theorem pz_bd {z : List (Int × Int)} (h : ∀ a ∈ z, 0 ≤ a.2 ∧ a.2 ≤ a.1 - 1) : 0 ≤ pz z ∧ pz z + 1 ≤ prod (z.map (·.1)) := pz_bd_aux z 0 1 h (by omega) (by omega)
theorem okIdx_iff {size xs : List Int} : okIdx size xs = true ↔ xs.length = size.length ∧ ∀ (k : Nat) (n x : Int), size[k]? = some n → xs[k]? = some x → 0 ≤ x ∧ x ≤ n - 1 := by
  unfold okIdx
  rw [Bool.and_eq_true, decide_eq_true_eq, List.all_eq_true]
  constructor
  · rintro ⟨h1, h2⟩
    refine ⟨h1, fun k n x hn hx => ?_⟩
    have := h2 (n, x) (List.mem_of_getElem? (i := k) (by rw [List.getElem?_zip_eq_some]; exact ⟨hn, hx⟩))
    simpa using this
  · rintro ⟨h1, h2⟩
    refine ⟨h1, fun a ha => ?_⟩
    obtain ⟨k, hk⟩ := List.getElem?_of_mem ha
    rw [List.getElem?_zip_eq_some] at hk
    simpa using h2 k _ _ hk.1 hk.2
theorem okGrid_iff {size : List Int} {out : Int} {data : List Int} (h : okGrid size out data = true) : 1 ≤ size.length ∧ size.length ≤ 4 ∧ 1 ≤ out ∧ out ≤ 4 ∧ size.all (fun n => decide (2 ≤ n ∧ n ≤ 9)) = true ∧ (data.length : Int) ≤ 4096 ∧ (data.length : Int) = prod size * out ∧ data.all (fun v => decide (0 ≤ v ∧ v ≤ 65535)) = true := by
  unfold okGrid at h
  simp only [Bool.and_eq_true] at h
  obtain ⟨⟨⟨⟨h1, h2⟩, h3⟩, h4⟩, h5⟩ := h
  simp only [decide_eq_true_eq] at h1 h2 h4
  exact ⟨h1.1, h1.2, h2.1, h2.2, h3, h4.1, h4.2, h5⟩
theorem okIdx_step {size xs : List Int} {n x : Int} (h : okIdx size xs = true) (hl : size.length = xs.length) (hx : 0 ≤ x ∧ x ≤ n - 1) : okIdx (size ++ [n].toArray.toList) (xs ++ [x].toArray.toList) = true := by
  unfold okIdx at *
  rw [List.zip_append hl]
  simp at *
  exact ⟨by omega, h.2, by omega⟩
theorem pz_last {size : List Int} {out : Int} {data xs : List Int} (hg : okGrid size out data = true) (hx : size.length ≤ xs.length) (hi : ∀ (k : Nat) (n x : Int), size[k]? = some n → xs[k]? = some x → 0 ≤ x ∧ x ≤ n - 1) :
    0 ≤ pz (size.zip xs) * out ∧ pz (size.zip xs) * out + out ≤ data.length := by
  have hG := okGrid_iff hg
  have h1 := pz_bd (z := size.zip xs) (fun a ha => by
    obtain ⟨j, hj⟩ := List.getElem?_of_mem ha
    rw [List.getElem?_zip_eq_some] at hj
    exact hi j _ _ hj.1 hj.2)
  rw [List.map_fst_zip (by omega)] at h1
  refine ⟨Int.mul_nonneg h1.1 (by omega), ?_⟩
  have h2 : (pz (size.zip xs) + 1) * out ≤ prod size * out := Int.mul_le_mul_of_nonneg_right h1.2 (by omega)
  rw [Int.add_mul] at h2
  omega
def slot (data : List Int) (p out : Int) : List Int := (data.drop p.toNat).take out.toNat
theorem slot_copy {data : List Int} {p out : Int} (h1 : 0 ≤ p) (h2 : 0 ≤ out) (h3 : p + out ≤ data.length) :
    List.take out.toNat (V.setAt (List.replicate out.toNat 0) 0 (List.take out.toNat (List.drop p.toNat (List.take (p + out).toNat data)))) = slot data p out := by
  have e1 : List.take out.toNat (List.drop p.toNat (List.take (p + out).toNat data)) = slot data p out := by
    have : (p + out).toNat = p.toNat + out.toNat := by omega
    rw [this, List.drop_take, List.take_take]
    simp [slot]
  rw [e1]
  have hl : (slot data p out).length = out.toNat := by simp [slot]; omega
  unfold V.setAt
  rw [List.take_zero, List.nil_append, List.take_append_of_le_length (by omega), List.take_of_length_le (by omega)]
theorem slot_length {data : List Int} {p out : Int} (h1 : 0 ≤ p) (h2 : 0 ≤ out) (h3 : p + out ≤ data.length) : (slot data p out).length = out.toNat := by
  simp [slot]; omega
end Go.Proofs.YtlcaefokcnohnaaDoor
end
section
namespace Go.Proofs.YtlcaefokcnohnaaDoor
open Go Go.V
theorem okIdx_pad {size xs : List Int} (h : okIdx size xs = true) (h4 : size.length ≤ 4) : (pad4 xs).length = 4 ∧ ∀ (k : Nat) (n x : Int), size[k]? = some n → (pad4 xs)[k]? = some x → 0 ≤ x ∧ x ≤ n - 1 := by
  obtain ⟨h1, h2⟩ := okIdx_iff.1 h
  refine ⟨pad4_length (by omega), fun k n x hn hx => ?_⟩
  have hk := (List.getElem?_eq_some_iff.1 hn).1
  unfold pad4 at hx
  rw [List.getElem?_append_left (by omega)] at hx
  exact h2 k n x hn hx
theorem zip_pad {size xs : List Int} (h : okIdx size xs = true) : size.zip (pad4 xs) = size.zip xs := by
  obtain ⟨h1, h2⟩ := okIdx_iff.1 h
  unfold pad4
  have := List.zip_append (l₁ := size) (r₁ := ([] : List Int)) (l₂ := xs) (r₂ := List.replicate (4 - xs.length) 0) h1.symm
  simpa using this
theorem okIdx_take {size xs : List Int} (h : okIdx size xs = true) : ∀ a ∈ size.zip xs, 0 ≤ a.2 ∧ a.2 ≤ a.1 - 1 := fun a ha => by
  unfold okIdx at h
  simp only [Bool.and_eq_true, List.all_eq_true, decide_eq_true_eq] at h
  exact h.2 a ha
theorem take_zip2 {α β : Type} (a : List α) (b : List β) (j : Nat) : (a.zip b).take j = (a.take j).zip (b.take j) := by
  simp [List.zip_eq_zipWith, List.take_zipWith]
theorem slot_app {data : List Int} {p out : Int} (h1 : 0 ≤ p) (h2 : 0 ≤ out) (h3 : p + out ≤ data.length) :
    ([] ++ List.drop p.toNat (List.take (p + out).toNat data) : List Int) = slot data p out := by
  have : (p + out).toNat = p.toNat + out.toNat := by omega
  rw [this, List.drop_take]
  simp [slot]
end Go.Proofs.YtlcaefokcnohnaaDoor
end
section
namespace Go.Gr
def PR : List Nat → Nat
  | [] => 1
  | n :: r => n * PR r
def ixl : List Nat → Nat → List Int
  | [], _ => []
  | n :: r, m => ((m / PR r % n : Nat) : Int) :: ixl r m
theorem PR_pos {ns : List Nat} (h : ∀ n ∈ ns, 0 < n) : 0 < PR ns := by
  induction ns with
  | nil => decide
  | cons n r ih => exact Nat.mul_pos (h n (by simp)) (ih fun x hx => h x (by simp [hx]))
theorem ixl_length (ns : List Nat) (m : Nat) : (ixl ns m).length = ns.length := by
  induction ns with
  | nil => rfl
  | cons n r ih => simp [ixl, ih]
theorem ixl_get (ns : List Nat) (m i n : Nat) (h : ns[i]? = some n) : (ixl ns m)[i]? = some ((m / PR (ns.drop (i + 1)) % n : Nat) : Int) := by
  induction ns generalizing i with
  | nil => simp at h
  | cons a r ih =>
    cases i with
    | zero => simp at h; subst h; simp [ixl]
    | succ i => simpa [ixl] using ih i (by simpa using h)
theorem ixl_mod (ns : List Nat) (hp : ∀ n ∈ ns, 0 < n) (m : Nat) : ixl ns (m % PR ns) = ixl ns m := by
  induction ns generalizing m with
  | nil => rfl
  | cons n r ih =>
    have hr : ∀ x ∈ r, 0 < x := fun x hx => hp x (by simp [hx])
    have h1 := PR_pos hr
    simp only [ixl, PR]
    have e1 : m % (n * PR r) / PR r % n = m / PR r % n := by
      rw [Nat.mul_comm, Nat.mod_mul_right_div_self, Nat.mod_mod]
    have e2 : ixl r (m % (n * PR r)) = ixl r m := by
      rw [← ih hr (m % (n * PR r)), Nat.mod_mul_left_mod, ih hr]
    rw [e1, e2]
theorem last_mod (ns : List Nat) (hp : ∀ n ∈ ns, 0 < n) (m : Nat) (h : m % PR ns = PR ns - 1) : ixl ns m = ns.map fun n : Nat => (n : Int) - 1 := by
  induction ns generalizing m with
  | nil => rfl
  | cons n r ih =>
    have hr : ∀ x ∈ r, 0 < x := fun x hx => hp x (by simp [hx])
    have hn : 0 < n := hp n (by simp)
    have h1 := PR_pos hr
    simp only [PR] at h
    rw [Nat.mul_comm, Nat.mod_mul] at h
    have h2 := Nat.mod_lt m h1
    have h3 := Nat.mod_lt (m / PR r) hn
    have h4 : PR r * (m / PR r % n) + m % PR r = PR r * (n - 1) + (PR r - 1) := by
      have : PR r * n = PR r * (n - 1) + PR r := by
        obtain ⟨k, rfl⟩ : ∃ k, n = k + 1 := ⟨n - 1, by omega⟩
        simp [Nat.mul_add]
      omega
    have h5 : m / PR r % n = n - 1 := by
      have e := congrArg (· / PR r) h4
      simp only [Nat.mul_add_div h1] at e
      rw [Nat.div_eq_of_lt h2, Nat.div_eq_of_lt (by omega : PR r - 1 < PR r)] at e
      omega
    have h6 : m % PR r = PR r - 1 := by rw [h5] at h4; omega
    simp only [ixl, List.map_cons, h5, ih hr m h6]
    congr 1
    omega
theorem mod_last (ns : List Nat) (hp : ∀ n ∈ ns, 0 < n) (m : Nat) (h : ixl ns m = ns.map fun n : Nat => (n : Int) - 1) : m % PR ns = PR ns - 1 := by
  induction ns generalizing m with
  | nil => simp [PR, Nat.mod_one]
  | cons n r ih =>
    have hr : ∀ x ∈ r, 0 < x := fun x hx => hp x (by simp [hx])
    have hn : 0 < n := hp n (by simp)
    have h1 := PR_pos hr
    simp only [ixl, List.map_cons, List.cons.injEq] at h
    have h2 := ih hr m h.2
    have h3 : m / PR r % n = n - 1 := by omega
    simp only [PR]
    rw [Nat.mul_comm, Nat.mod_mul, h2, h3]
    obtain ⟨k, rfl⟩ : ∃ k, n = k + 1 := ⟨n - 1, by omega⟩
    simp [Nat.mul_add]; omega
theorem ixl_zero_mod (ns : List Nat) (hp : ∀ n ∈ ns, 0 < n) (m : Nat) (h : m % PR ns = 0) : ixl ns m = List.replicate ns.length 0 := by
  rw [← ixl_mod ns hp m, h]
  clear h
  induction ns with
  | nil => rfl
  | cons n r ih => simp only [ixl, Nat.zero_div, Nat.zero_mod, List.length_cons, List.replicate_succ, ih fun x hx => hp x (by simp [hx])]; rfl
theorem succ_div {m P : Nat} (hP : 0 < P) (h : m % P ≠ P - 1) : (m + 1) / P = m / P := by
  have h2 := Nat.mod_lt m hP
  have h3 := Nat.div_add_mod m P
  have : m + 1 = P * (m / P) + (m % P + 1) := by omega
  rw [this, Nat.mul_add_div hP, Nat.div_eq_of_lt (by omega : m % P + 1 < P)]
  omega
theorem succ_div_last {m P : Nat} (hP : 0 < P) (h : m % P = P - 1) : (m + 1) / P = m / P + 1 ∧ (m + 1) % P = 0 := by
  have h3 := Nat.div_add_mod m P
  have : m + 1 = P * (m / P + 1) := by rw [Nat.mul_add]; omega
  rw [this, Nat.mul_div_cancel_left _ hP, Nat.mul_mod_right]
  exact ⟨rfl, rfl⟩
theorem mod_succ {a n : Nat} (hn : 0 < n) (h : a % n ≠ n - 1) : (a + 1) % n = a % n + 1 := by
  have h2 := Nat.mod_lt a hn
  have h3 := Nat.div_add_mod a n
  have : a + 1 = n * (a / n) + (a % n + 1) := by omega
  rw [this, Nat.mul_add_mod, Nat.mod_eq_of_lt (by omega : a % n + 1 < n)]
theorem ixl_succ (ns : List Nat) (hp : ∀ n ∈ ns, 0 < n) (m j n : Nat) (hj : ns[j]? = some n) (x : Int) (hx : (ixl ns m)[j]? = some x)
    (h1 : (ixl ns m).drop (j + 1) = (ns.drop (j + 1)).map fun n : Nat => (n : Int) - 1) (h2 : x ≠ (n : Int) - 1) : ixl ns (m + 1) = (ixl ns m).take j ++ (x + 1) :: List.replicate (ns.length - (j + 1)) 0 := by
  induction ns generalizing j with
  | nil => simp at hj
  | cons a r ih =>
    have hr : ∀ y ∈ r, 0 < y := fun y hy => hp y (by simp [hy])
    have ha : 0 < a := hp a (by simp)
    have hP := PR_pos hr
    cases j with
    | zero =>
      simp at hj hx
      subst hj
      simp [ixl] at h1 hx
      have h3 := mod_last r hr m h1
      have h4 := succ_div_last hP h3
      have h5 := ixl_zero_mod r hr _ h4.2
      simp only [ixl, h4.1, h5]
      have h6 : m / PR r % a ≠ a - 1 := fun e => by
        apply h2
        rw [← hx, ← Int.natCast_ediv, ← Int.natCast_emod, e]
        omega
      rw [mod_succ ha h6]
      subst hx
      simp
    | succ j =>
      have hj' : r[j]? = some n := by simpa using hj
      have hx' : (ixl r m)[j]? = some x := by simpa [ixl] using hx
      have h1' : (ixl r m).drop (j + 1) = (r.drop (j + 1)).map fun n : Nat => (n : Int) - 1 := by simpa [ixl] using h1
      have h3 : m % PR r ≠ PR r - 1 := fun e => by
        have := last_mod r hr m e
        rw [this] at hx'
        simp [hj'] at hx'
        omega
      have h4 := ih hr j hj' hx' h1'
      simp only [ixl, succ_div hP h3, h4, List.take_succ_cons, List.cons_append, List.length_cons]
      congr 2
      simp
theorem pz_ixl_aux (ns : List Nat) (hp : ∀ n ∈ ns, 0 < n) (m : Nat) (p : Int) : ((ns.map fun n : Nat => (n : Int)).zip (ixl ns m)).foldl (fun p a => p * a.1 + a.2) p = p * (PR ns : Int) + ((m % PR ns : Nat) : Int) := by
  induction ns generalizing p with
  | nil => simp [ixl, PR, Nat.mod_one]
  | cons n r ih =>
    have hr : ∀ x ∈ r, 0 < x := fun x hx => hp x (by simp [hx])
    simp only [ixl, List.map_cons, List.zip_cons_cons, List.foldl_cons, PR]
    rw [ih hr, Nat.mul_comm n, Nat.mod_mul]
    simp only [Int.natCast_add, Int.natCast_mul, Int.add_mul, Int.mul_assoc]
    rw [Int.mul_comm (PR r : Int) (n : Int), Int.mul_comm (PR r : Int) _]
    omega
end Go.Gr
end
section
namespace Go.Gr
def swp (l : List Int) (a b : Nat) : List Int := (l.set a (l.getD b 0)).set b (l.getD a 0)
def swn (l : List Nat) (a b : Nat) : List Nat := (l.set a (l.getD b 0)).set b (l.getD a 0)
theorem swp_length (l : List Int) (a b : Nat) : (swp l a b).length = l.length := by simp [swp]
theorem swn_length (l : List Nat) (a b : Nat) : (swn l a b).length = l.length := by simp [swn]
theorem swp_get {l : List Int} {a b : Nat} (ha : a < l.length) (hb : b < l.length) (k : Nat) : (swp l a b)[k]? = if k = b then l[a]? else if k = a then l[b]? else l[k]? := by
  unfold swp
  rw [List.getElem?_set, List.getElem?_set]
  by_cases e1 : k = b
  · subst e1
    simp [hb, ha, List.getD_eq_getElem?_getD]
  · rw [if_neg (fun e => e1 e.symm), if_neg e1]
    by_cases e2 : k = a
    · subst e2
      simp [ha, hb, List.getD_eq_getElem?_getD]
    · rw [if_neg (fun e => e2 e.symm), if_neg e2]
theorem swn_get {l : List Nat} {a b : Nat} (ha : a < l.length) (hb : b < l.length) (k : Nat) : (swn l a b)[k]? = if k = b then l[a]? else if k = a then l[b]? else l[k]? := by
  unfold swn
  rw [List.getElem?_set, List.getElem?_set]
  by_cases e1 : k = b
  · subst e1
    simp [hb, ha, List.getD_eq_getElem?_getD]
  · rw [if_neg (fun e => e1 e.symm), if_neg e1]
    by_cases e2 : k = a
    · subst e2
      simp [ha, hb, List.getD_eq_getElem?_getD]
    · rw [if_neg (fun e => e2 e.symm), if_neg e2]
theorem swp_map {l : List Nat} {a b : Nat} (ha : a < l.length) (hb : b < l.length) : swp (l.map fun n : Nat => (n : Int)) a b = (swn l a b).map fun n : Nat => (n : Int) := by
  refine List.ext_getElem? fun k => ?_
  rw [swp_get (by simpa using ha) (by simpa using hb), List.getElem?_map, List.getElem?_map, List.getElem?_map, List.getElem?_map, swn_get ha hb]
  by_cases e1 : k = b
  · simp [e1]
  · by_cases e2 : k = a
    · subst e2; simp [e1]
    · simp [e1, e2]
theorem mem_swn {l : List Nat} {a b : Nat} (ha : a < l.length) (hb : b < l.length) {n : Nat} (hn : n ∈ swn l a b) : n ∈ l := by
  obtain ⟨k, hk⟩ := List.getElem?_of_mem hn
  rw [swn_get ha hb] at hk
  split at hk
  · exact List.mem_of_getElem? hk
  · split at hk <;> exact List.mem_of_getElem? hk
theorem swp_app {l r : List Int} {a b : Nat} (ha : a < l.length) (hb : b < l.length) : swp (l ++ r) a b = swp l a b ++ r := by
  unfold swp
  have e1 : (l ++ r).getD b 0 = l.getD b 0 := by
    rw [List.getD_eq_getElem?_getD, List.getD_eq_getElem?_getD, List.getElem?_append_left hb]
  have e2 : (l ++ r).getD a 0 = l.getD a 0 := by
    rw [List.getD_eq_getElem?_getD, List.getD_eq_getElem?_getD, List.getElem?_append_left ha]
  rw [e1, e2, List.set_append_left _ _ ha, List.set_append_left _ _ (by simpa using hb)]
theorem swp_swp {l : List Int} {a b : Nat} (ha : a < l.length) (hb : b < l.length) : swp (swp l a b) a b = l := by
  refine List.ext_getElem? fun k => ?_
  rw [swp_get (by rw [swp_length]; exact ha) (by rw [swp_length]; exact hb), swp_get ha hb, swp_get ha hb, swp_get ha hb]
  by_cases e1 : k = b
  · subst e1
    by_cases e2 : a = k
    · subst e2; simp
    · simp [e2]
  · by_cases e2 : k = a
    · subst e2; simp [e1]
    · simp [e1, e2]
theorem swp_comm {l : List Int} {a b : Nat} (ha : a < l.length) (hb : b < l.length) : swp l a b = swp l b a := by
  refine List.ext_getElem? fun k => ?_
  rw [swp_get ha hb, swp_get hb ha]
  by_cases e1 : k = b
  · subst e1
    by_cases e2 : k = a
    · subst e2; simp
    · simp [e2]
  · simp [e1]
theorem swp_bd {size l : List Int} {a b : Nat} (ha : a < size.length) (hb : b < size.length) (hl : l.length = size.length) (h : ∀ (k : Nat) (n x : Int), (swp size a b)[k]? = some n → l[k]? = some x → 0 ≤ x ∧ x ≤ n - 1) :
    ∀ (k : Nat) (n x : Int), size[k]? = some n → (swp l a b)[k]? = some x → 0 ≤ x ∧ x ≤ n - 1 := by
  intro k n x hn hx
  rw [swp_get (by omega) (by omega)] at hx
  split at hx
  · rename_i e; subst e
    refine h a n x ?_ hx
    rw [swp_get ha hb]
    split
    · rename_i e; subst e; exact hn
    · simp [hn]
  · rename_i e1
    split at hx
    · rename_i e2; subst e2
      refine h b n x ?_ hx
      rw [swp_get ha hb]; simp [hn]
    · rename_i e2
      refine h k n x ?_ hx
      rw [swp_get ha hb]; simp [e1, e2, hn]
end Go.Gr
end
section
namespace Go.Proofs.YtlcaefokcnohnaaDoor
open Go Go.V Go.Gr
def nz (ns : List Nat) : List Int := ns.map fun n : Nat => (n : Int)
theorem prod_nz (ns : List Nat) : prod (nz ns) = (PR ns : Nat) := by
  have h : ∀ (l : List Nat) (q : Int), (nz l).foldl (· * ·) q = q * (PR l : Nat) := by
    intro l
    induction l with
    | nil => intro q; simp [nz, PR]
    | cons x l ih =>
      intro q
      have := ih (q * x)
      simp only [nz, List.map_cons, List.foldl_cons, PR] at this ⊢
      rw [this, Int.natCast_mul, Int.mul_assoc]
  have := h ns 1
  simpa [prod] using this
theorem PR_app (l r : List Nat) : PR (l ++ r) = PR l * PR r := by
  induction l with
  | nil => simp [PR]
  | cons x l ih => simp [PR, ih, Nat.mul_assoc]
theorem PR_set {l : List Nat} {a : Nat} {x y : Nat} (h : l[a]? = some x) : PR (l.set a y) * x = PR l * y := by
  induction l generalizing a with
  | nil => simp at h
  | cons z l ih =>
    cases a with
    | zero => simp at h; subst h; simp only [List.set_cons_zero, PR]; rw [Nat.mul_assoc, Nat.mul_comm, Nat.mul_comm z, Nat.mul_comm (PR l)]
    | succ a =>
      have := ih (a := a) (by simpa using h)
      simp only [List.set_cons_succ, PR]
      rw [Nat.mul_assoc, this, Nat.mul_assoc]
theorem PR_swn {l : List Nat} {a b : Nat} (ha : a < l.length) (hb : b < l.length) : PR (swn l a b) = PR l := by
  by_cases e : a = b
  · subst e
    congr 1
    refine List.ext_getElem? fun k => ?_
    rw [swn_get ha hb]
    split
    · rename_i e; rw [e]
    · rfl
  obtain ⟨x, hx⟩ : ∃ x, l[a]? = some x := ⟨_, List.getElem?_eq_getElem ha⟩
  obtain ⟨y, hy⟩ : ∃ y, l[b]? = some y := ⟨_, List.getElem?_eq_getElem hb⟩
  unfold swn
  rw [List.getD_eq_getElem?_getD, List.getD_eq_getElem?_getD, hx, hy]
  simp only [Option.getD_some]
  have h1 := PR_set (y := y) hx
  have h2 := PR_set (l := l.set a y) (a := b) (x := y) (y := x) (by rw [List.getElem?_set]; simp [e, hy])
  rcases Nat.eq_zero_or_pos x with hx0 | hx0
  · subst hx0
    have e1 : PR l = 0 := by
      have := PR_set (y := 1) hx
      simpa using this.symm
    have e2 : PR ((l.set a y).set b 0) = 0 := by
      have : ((l.set a y).set b 0)[b]? = some 0 := by simp [List.getElem?_set, hb]
      have := PR_set (y := 1) this
      simpa using this.symm
    rw [e1, e2]
  · rcases Nat.eq_zero_or_pos y with hy0 | hy0
    · subst hy0
      have e1 : PR l = 0 := by
        have := PR_set (y := 1) hy
        simpa using this.symm
      have e2 : PR ((l.set a 0).set b x) = 0 := by
        have : ((l.set a 0).set b x)[a]? = some 0 := by
          rw [List.getElem?_set, if_neg (fun h => e h.symm), List.getElem?_set]; simp [ha]
        have := PR_set (y := 1) this
        simpa using this.symm
      rw [e1, e2]
    · have h3 : PR ((l.set a y).set b x) * (y * x) = PR l * (y * x) := by
        rw [← Nat.mul_assoc, h2, Nat.mul_assoc, Nat.mul_comm x x, ← Nat.mul_assoc, h1, Nat.mul_assoc]
      exact Nat.eq_of_mul_eq_mul_right (Nat.mul_pos hy0 hx0) h3
def rl (lt : Int → Int → Bool) (data : List Int) (w : Nat) : Nat → List Int
  | 0 => slot data 0 w
  | i + 1 => (rl lt data w i).set (i % w) (if lt (data.getD i 0) ((rl lt data w i).getD (i % w) 0) then data.getD i 0 else (rl lt data w i).getD (i % w) 0)
theorem rl_length {lt : Int → Int → Bool} {data : List Int} {w : Nat} (h : w ≤ data.length) (i : Nat) : (rl lt data w i).length = w := by
  induction i with
  | zero => simp [rl, slot]; omega
  | succ i ih => simp [rl, ih]
end Go.Proofs.YtlcaefokcnohnaaDoor
end
section
namespace Go.Proofs.YtlcaefokcnohnaaDoor
open Go Go.V Go.Gr
theorem index_step {ns : List Nat} {m p n : Nat} (hn : ns[p]? = some n) (hp : p < ns.length) :
    (List.replicate (p + 1) (0 : Int) ++ (ixl ns m).drop (p + 1)).set p ((m / PR (ns.drop (p + 1)) % n : Nat) : Int) = List.replicate p 0 ++ (ixl ns m).drop p ∧ m / PR (ns.drop (p + 1)) / n = m / PR (ns.drop p) := by
  have hx := ixl_get ns m p n hn
  constructor
  · rw [List.set_append_left _ _ (by simp), List.replicate_succ', List.set_append_right _ _ (by simp)]
    rw [List.drop_eq_getElem_cons (i := p) (by rw [ixl_length]; exact hp)]
    have := (List.getElem?_eq_some_iff.1 hx).2
    rw [this]
    simp
  · have hd : ns.drop p = n :: ns.drop (p + 1) := by
      rw [List.drop_eq_getElem_cons hp]
      rw [(List.getElem?_eq_some_iff.1 hn).2]
    rw [hd, PR, Nat.div_div_eq_div_mul, Nat.mul_comm]
end Go.Proofs.YtlcaefokcnohnaaDoor
end
section
namespace Go.Proofs.YtlcaefokcnohnaaDoor
open Go Go.V Go.Gr
def lastL (ns : List Nat) : List Int := ns.map fun n : Nat => (n : Int) - 1
def flat (ns : List Nat) (f : Nat → List Int) (m : Nat) : List Int := (List.range m).flatMap f
theorem flat_succ (ns : List Nat) (f : Nat → List Int) (m : Nat) : flat ns f (m + 1) = flat ns f m ++ f m := by
  simp [flat, List.range_succ]
theorem flat_len {ns : List Nat} {f : Nat → List Int} {m : Nat} (h : ∀ j, j < m → (f j).length ≤ 4) : (flat ns f m).length ≤ 4 * m := by
  induction m with
  | zero => simp [flat]
  | succ m ih =>
    rw [flat_succ, List.length_append]
    have h1 := ih fun j hj => h j (by omega)
    have h2 := h m (by omega)
    omega
theorem PR_le {ns : List Nat} (h1 : ns.length ≤ 4) (h2 : ∀ n ∈ ns, 2 ≤ n ∧ n ≤ 9) : PR ns ≤ 6561 := by
  have hb : ∀ l : List Nat, (∀ n ∈ l, 2 ≤ n ∧ n ≤ 9) → PR l ≤ 9 ^ l.length := by
    intro l
    induction l with
    | nil => intro _; decide
    | cons x l ih =>
      intro hl
      have h3 := ih fun n hn => hl n (by simp [hn])
      have h4 := hl x (by simp)
      rw [PR, List.length_cons, Nat.pow_succ, Nat.mul_comm]
      exact Nat.mul_le_mul h3 h4.2
  exact Nat.le_trans (hb ns h2) (Nat.pow_le_pow_right (by omega) h1)
theorem ixl_pad0 {ns : List Nat} (h1 : 1 ≤ ns.length ∧ ns.length ≤ 4) (h2 : ∀ n ∈ ns, 2 ≤ n ∧ n ≤ 9) : pad4 (ixl ns 0) = [0, 0, 0, 0] := by
  rw [ixl_zero_mod ns (fun n hn => by have := h2 n hn; omega) 0 (Nat.zero_mod _)]
  unfold pad4
  rw [List.length_replicate, ← List.replicate_append_replicate.symm]
  have : ns.length + (4 - ns.length) = 4 := by omega
  simp [this]
theorem pad4_inj {a b : List Int} (h : a.length = b.length) (e : pad4 a = pad4 b) : a = b := (List.append_inj e h).1
theorem pad4_get {l : List Int} {p k : Nat} {x : Int} (h : l[p]? = some x) (hk : p < k) (hl : l.length ≤ 4) : (pad4 (l.take k)).getD p 0 = x := by
  have hp := (List.getElem?_eq_some_iff.1 h).1
  unfold pad4
  rw [List.getD_eq_getElem?_getD, List.getElem?_append_left (by simp; omega), List.getElem?_take_of_lt hk, h]
  rfl
theorem pad4_incr {l : List Int} {p : Nat} {x y : Int} (h : l[p]? = some x) (h1 : p < l.length) (hl : l.length ≤ 4) : (pad4 (l.take (p + 1))).set p y = pad4 (l.take p ++ y :: List.replicate (l.length - (p + 1)) 0) := by
  unfold pad4
  have e1 : (l.take (p + 1)).length = p + 1 := by simp; omega
  have e2 : (l.take p ++ y :: List.replicate (l.length - (p + 1)) 0).length = l.length := by simp; omega
  have e4 : (l.take p).length = p := by simp; omega
  rw [e1, e2, List.set_append_left _ _ (by omega), List.take_add_one, h]
  have e3 : (l.take p ++ (some x).toList).set p y = l.take p ++ [y] := by
    rw [List.set_append_right _ _ (by omega), e4, Nat.sub_self]
    rfl
  rw [e3, List.append_assoc, List.append_assoc]
  congr 1
  rw [List.singleton_append, List.cons_append, List.replicate_append_replicate]
  congr 2
  omega
theorem pad4_zero {l : List Int} {p : Nat} {x : Int} (h : l[p]? = some x) (hl : l.length ≤ 4) : (pad4 (l.take (p + 1))).set p 0 = pad4 (l.take p) := by
  have h1 := (List.getElem?_eq_some_iff.1 h).1
  rw [pad4_incr h h1 hl]
  unfold pad4
  have e2 : (l.take p ++ (0 : Int) :: List.replicate (l.length - (p + 1)) 0).length = l.length := by simp; omega
  have e3 : (l.take p).length = p := by simp; omega
  rw [e2, e3, List.append_assoc]
  congr 1
  rw [← List.replicate_succ, List.replicate_append_replicate]
  congr 1
  omega
theorem ixl_bd {ns : List Nat} {m p n : Nat} {x : Int} (hpos : ∀ n ∈ ns, 0 < n) (hn : ns[p]? = some n) (hx : (ixl ns m)[p]? = some x) : 0 ≤ x ∧ x ≤ (n : Int) - 1 := by
  rw [ixl_get ns m p n hn] at hx
  cases hx
  have := Nat.mod_lt (m / PR (ns.drop (p + 1))) (hpos n (List.mem_of_getElem? hn))
  omega
end Go.Proofs.YtlcaefokcnohnaaDoor
end
section
namespace Go.Proofs.YtlcaefokcnohnaaDoor
open Go Go.V Go.Gr
def mkV0 (vals : List Int) (w m k : Nat) : Int := if 0 < vals.length then vals.getD ((m * w + k) % vals.length) 0 else 0
def mkV (vals : List Int) (sm : Bool) (ns : List Nat) (w m k : Nat) : Int :=
  if sm then 60000 * (ixl ns m).getD (k % ns.length) 0 / ((nz ns).getD (k % ns.length) 0 - 1) + mkV0 vals w m k % 5000 else mkV0 vals w m k
def mkF (vals : List Int) (sm : Bool) (ns : List Nat) (w m : Nat) : List Int := (List.range w).map (mkV vals sm ns w m)
theorem getD_mem {xs : List Int} {i : Nat} (h : i < xs.length) : xs.getD i 0 ∈ xs := by
  rw [List.getD_eq_getElem?_getD, List.getElem?_eq_getElem h]; simp
theorem mkV0_bd {vals : List Int} {w m k : Nat} (hv : ∀ v ∈ vals, 0 ≤ v ∧ v ≤ 65535) : 0 ≤ mkV0 vals w m k ∧ mkV0 vals w m k ≤ 65535 := by
  unfold mkV0
  split
  · rename_i h
    exact hv _ (getD_mem (Nat.mod_lt _ h))
  · omega
theorem mk_sm {ns : List Nat} {m k : Nat} (h1 : 1 ≤ ns.length) (h2 : ∀ n ∈ ns, 2 ≤ n ∧ n ≤ 9) : 0 ≤ (ixl ns m).getD (k % ns.length) 0 ∧ (ixl ns m).getD (k % ns.length) 0 ≤ 8 ∧ 1 ≤ (nz ns).getD (k % ns.length) 0 - 1 ∧ (nz ns).getD (k % ns.length) 0 - 1 ≤ 8 ∧
    0 ≤ 60000 * (ixl ns m).getD (k % ns.length) 0 / ((nz ns).getD (k % ns.length) 0 - 1) ∧ 60000 * (ixl ns m).getD (k % ns.length) 0 / ((nz ns).getD (k % ns.length) 0 - 1) ≤ 60000 := by
  have hlt : k % ns.length < ns.length := Nat.mod_lt _ (by omega)
  generalize k % ns.length = i at *
  obtain ⟨n, hn⟩ : ∃ n, ns[i]? = some n := ⟨_, List.getElem?_eq_getElem hlt⟩
  obtain ⟨x, hx⟩ : ∃ x, (ixl ns m)[i]? = some x := ⟨_, List.getElem?_eq_getElem (by rw [ixl_length]; exact hlt)⟩
  have hnb := h2 n (List.mem_of_getElem? hn)
  have hxb := ixl_bd (fun n hn => by have := h2 n hn; omega) hn hx
  have e1 : (nz ns).getD i 0 = n := by simp [nz, List.getD_eq_getElem?_getD, hn]
  have e2 : (ixl ns m).getD i 0 = x := by rw [List.getD_eq_getElem?_getD, hx]; rfl
  rw [e1, e2]
  refine ⟨hxb.1, by omega, by omega, by omega, Int.ediv_nonneg (by omega) (by omega), ?_⟩
  exact Int.ediv_le_of_le_mul (by omega) (by omega)
theorem mkV_bd {vals : List Int} {sm : Bool} {ns : List Nat} {w m k : Nat} (hv : ∀ v ∈ vals, 0 ≤ v ∧ v ≤ 65535) (h1 : 1 ≤ ns.length) (h2 : ∀ n ∈ ns, 2 ≤ n ∧ n ≤ 9) : 0 ≤ mkV vals sm ns w m k ∧ mkV vals sm ns w m k ≤ 65535 := by
  have h3 := mkV0_bd (w := w) (m := m) (k := k) hv
  have h4 := mk_sm (m := m) (k := k) h1 h2
  unfold mkV
  split <;> omega
end Go.Proofs.YtlcaefokcnohnaaDoor
end
section
namespace Go.Proofs.YtlcaefokcnohnaaDoor
open Go Go.V Go.Gr
def nsD (ds : List Int) : List Nat := if ds = [] then [2] else (ds.take 3).map fun x => (2 + x % 3).toNat
def wD (o : Int) : Nat := (1 + o % 3).toNat
def draftD (ds : List Int) (o : Int) (vals : List Int) (sm : Bool) : D := .agg [.ints .u8 ds, .int .u8 o, .ints .u16 vals, .bool sm]
def dData (ds : List Int) (o : Int) (vals : List Int) (sm : Bool) : List Int := flat (nsD ds) (mkF vals sm (nsD ds) (wD o)) (PR (nsD ds))
theorem nsD_bd (ds : List Int) : (1 ≤ (nsD ds).length ∧ (nsD ds).length ≤ 3) ∧ ∀ n ∈ nsD ds, 2 ≤ n ∧ n ≤ 4 := by
  unfold nsD
  split
  · simp
  · rename_i h
    have : 0 < ds.length := List.length_pos_iff.2 h
    refine ⟨by simp; omega, fun n hn => ?_⟩
    obtain ⟨x, _, rfl⟩ := List.mem_map.1 hn
    omega
theorem wD_bd (o : Int) : 1 ≤ wD o ∧ wD o ≤ 3 := by unfold wD; omega
theorem nz_nsD {ds : List Int} (h : ds ≠ []) : (ds.take 3).map (fun x => 2 + x % 3) = nz (nsD ds) := by
  unfold nsD nz
  rw [if_neg h, List.map_map]
  refine List.map_congr_left fun x _ => ?_
  simp
  omega
theorem flat_length {ns : List Nat} {f : Nat → List Int} {w m : Nat} (h : ∀ j, (f j).length = w) : (flat ns f m).length = m * w := by
  induction m with
  | zero => simp [flat]
  | succ m ih => rw [flat_succ, List.length_append, ih, h, Nat.add_mul, Nat.one_mul]
theorem mem_flat {ns : List Nat} {f : Nat → List Int} {m : Nat} {x : Int} (h : x ∈ flat ns f m) : ∃ j, j < m ∧ x ∈ f j := by
  unfold flat at h
  rw [List.mem_flatMap] at h
  obtain ⟨j, h1, h2⟩ := h
  exact ⟨j, List.mem_range.1 h1, h2⟩
theorem draft_ok (ds : List Int) (o : Int) (vals : List Int) (sm : Bool) (hv : ∀ v ∈ vals, 0 ≤ v ∧ v ≤ 65535) : okGrid (nz (nsD ds)) (wD o) (dData ds o vals sm) = true := by
  have hb := nsD_bd ds
  have hwb := wD_bd o
  have hl : (dData ds o vals sm).length = PR (nsD ds) * wD o := flat_length fun j => by simp [mkF]
  have hP : PR (nsD ds) ≤ 64 := by
    have hbb : ∀ l : List Nat, (∀ n ∈ l, 2 ≤ n ∧ n ≤ 4) → PR l ≤ 4 ^ l.length := by
      intro l
      induction l with
      | nil => intro _; decide
      | cons x l ih =>
        intro hl
        have h3 := ih fun n hn => hl n (by simp [hn])
        have h4 := hl x (by simp)
        rw [PR, List.length_cons, Nat.pow_succ, Nat.mul_comm]
        exact Nat.mul_le_mul h3 h4.2
    exact Nat.le_trans (hbb _ hb.2) (Nat.pow_le_pow_right (by omega) hb.1.2)
  have hl2 : PR (nsD ds) * wD o ≤ 64 * 3 := Nat.mul_le_mul hP hwb.2
  unfold okGrid
  have e1 : (nz (nsD ds)).length = (nsD ds).length := by simp [nz]
  have e2 : (nz (nsD ds)).all (fun n => decide (2 ≤ n ∧ n ≤ 9)) = true := by
    rw [List.all_eq_true]
    intro x hx
    obtain ⟨n, hn, rfl⟩ := List.mem_map.1 hx
    have := hb.2 n hn
    simp; omega
  have e3 : (dData ds o vals sm).all (fun v => decide (0 ≤ v ∧ v ≤ 65535)) = true := by
    rw [List.all_eq_true]
    intro x hx
    obtain ⟨j, _, hj⟩ := mem_flat hx
    unfold mkF at hj
    obtain ⟨k, _, rfl⟩ := List.mem_map.1 hj
    have := mkV_bd (sm := sm) (w := wD o) (m := j) (k := k) hv hb.1.1 (fun n hn => by have := hb.2 n hn; omega)
    simpa using this
  rw [e2, e3, prod_nz]
  simp only [Bool.and_true, Bool.and_eq_true, decide_eq_true_eq]
  refine ⟨⟨by omega, by omega⟩, by omega, ?_⟩
  rw [hl]; simp
end Go.Proofs.YtlcaefokcnohnaaDoor
end
section
namespace Go.Proofs.YtlcaefokcnohnaaDoor
open Go Go.V Go.Gr
theorem num3 {B C i j k o : Nat} (hj : j < B) (hk : k < C) (ho : o < 3) :
    (((i * B + j) * C + k) * 3 + o) % 3 = o ∧ (((i * B + j) * C + k) * 3 + o) / 3 / C / B = i ∧ (((i * B + j) * C + k) * 3 + o) / 3 / C % B = j ∧ (((i * B + j) * C + k) * 3 + o) / 3 % C = k := by
  have h6 : (((i * B + j) * C + k) * 3 + o) / 3 = (i * B + j) * C + k := by omega
  have hC : 0 < C := by omega
  have hB : 0 < B := by omega
  have e1 : ((i * B + j) * C + k) / C = i * B + j := by
    rw [Nat.mul_comm, Nat.mul_add_div hC, Nat.div_eq_of_lt hk, Nat.add_zero]
  rw [h6, e1]
  refine ⟨by omega, ?_, ?_, ?_⟩
  · rw [Nat.mul_comm, Nat.mul_add_div hB, Nat.div_eq_of_lt hj, Nat.add_zero]
  · rw [Nat.mul_comm, Nat.mul_add_mod, Nat.mod_eq_of_lt hj]
  · rw [Nat.mul_comm, Nat.mul_add_mod, Nat.mod_eq_of_lt hk]
def cbS (m : List Int) (o i j k : Nat) : Nat → Int
  | 0 => 0
  | 1 => m.getD (3 * o) 0 % 7000 * (i : Int)
  | 2 => m.getD (3 * o) 0 % 7000 * (i : Int) + m.getD (3 * o + 1) 0 % 7000 * (j : Int)
  | _ => m.getD (3 * o) 0 % 7000 * (i : Int) + m.getD (3 * o + 1) 0 % 7000 * (j : Int) + m.getD (3 * o + 2) 0 % 7000 * (k : Int)
def cbW (m off : List Int) (o i j k p : Nat) : Int := if p < off.length then cbS m o i j k 3 + off.getD p 0 else cbS m o i j k 3
def clp (v : Int) : Int := max 0 (min 65535 v)
def cbV (m off : List Int) (B C p : Nat) : Int := clp (cbW m off (p % 3) (p / 3 / C / B) (p / 3 / C % B) (p / 3 % C) p)
theorem clp_bd (v : Int) : 0 ≤ clp v ∧ clp v ≤ 65535 := by unfold clp; omega
theorem cbV_of {m off : List Int} {B C i j k o : Nat} (hj : j < B) (hk : k < C) (ho : o < 3) : cbV m off B C (((i * B + j) * C + k) * 3 + o) = clp (cbW m off o i j k (((i * B + j) * C + k) * 3 + o)) := by
  obtain ⟨h1, h2, h3, h4⟩ := num3 (i := i) hj hk ho
  unfold cbV
  rw [h1, h2, h3, h4]
def cbL (m off : List Int) (B C p : Nat) : List Int := (List.range p).map (cbV m off B C)
theorem cbL_len (m off : List Int) (B C p : Nat) : (cbL m off B C p).length = p := by unfold cbL; simp
theorem cbL_succ (m off : List Int) (B C p : Nat) : cbL m off B C (p + 1) = cbL m off B C p ++ [cbV m off B C p] := by unfold cbL; rw [List.range_succ, List.map_append]; rfl
theorem cbL_bd (m off : List Int) (B C p : Nat) : ∀ v ∈ cbL m off B C p, 0 ≤ v ∧ v ≤ 65535 := fun v hv => by
  unfold cbL at hv
  obtain ⟨q, _, rfl⟩ := List.mem_map.1 hv
  exact clp_bd _
def s3 (a : Int) : Nat := (2 + a % 3).toNat
theorem s3_bd (a : Int) : 2 ≤ s3 a ∧ s3 a ≤ 4 := by unfold s3; omega
theorem s3_eq (a : Int) : 2 + a % 3 = (s3 a : Int) := by unfold s3; omega
theorem stp_bd (x : Int) {i : Nat} (hi : i < 4) : 0 ≤ x % 7000 * (i : Int) ∧ x % 7000 * (i : Int) ≤ 20997 := by
  have h1 := Int.emod_nonneg x (show (7000 : Int) ≠ 0 by decide)
  have h2 := Int.emod_lt_of_pos x (show (0 : Int) < 7000 by decide)
  refine ⟨Int.mul_nonneg h1 (by omega), ?_⟩
  have := Int.mul_le_mul (show x % 7000 ≤ 6999 by omega) (show (i : Int) ≤ 3 by omega) (by omega) (by omega)
  omega
def cubeD (a b c m0 m1 m2 m3 m4 m5 m6 m7 m8 : Int) (off : List Int) : D := .agg [.int .u8 a, .int .u8 b, .int .u8 c, .int .u16 m0, .int .u16 m1, .int .u16 m2, .int .u16 m3, .int .u16 m4, .int .u16 m5, .int .u16 m6, .int .u16 m7, .int .u16 m8, .ints .i16 off]
theorem num3_j (B C i j : Nat) : (i * B + (j + 1)) * C * 3 = ((i * B + j) * C + C) * 3 := by
  rw [← Nat.add_assoc, Nat.add_mul (i * B + j), Nat.one_mul]
theorem num3_i (B C i : Nat) : (i + 1) * B * C * 3 = (i * B + B) * C * 3 := by
  rw [Nat.add_mul i, Nat.one_mul]
theorem zU25_0 : type_of% @Int.zero_add ∧ type_of% @Nat.zero_add ∧ type_of% @g3_0 ∧ type_of% @g3_1 ∧ type_of% @g3_2 ∧ type_of% @i3_0 ∧ type_of% @i3_1 ∧ type_of% @i3_2 ∧ type_of% @s3_0 ∧ type_of% @s3_1 ∧ type_of% @s3_2 ∧ type_of% @tn0 ∧ type_of% @tn1 ∧ type_of% @tn2 ∧ type_of% @tn3 := ⟨@Int.zero_add, @Nat.zero_add, @g3_0, @g3_1, @g3_2, @i3_0, @i3_1, @i3_2, @s3_0, @s3_1, @s3_2, @tn0, @tn1, @tn2, @tn3⟩
theorem cgrid_c (a b c m0 m1 m2 m3 m4 m5 m6 m7 m8 : Int) (off : List Int) (ha : 0 ≤ a ∧ a ≤ 255) (hb : 0 ≤ b ∧ b ≤ 255) (hc : 0 ≤ c ∧ c ≤ 255) (hm : ∀ x ∈ [m0, m1, m2, m3, m4, m5, m6, m7, m8], 0 ≤ x ∧ x ≤ 65535) (ho : ∀ x ∈ off, -32768 ≤ x ∧ x ≤ 32767) (hol : off.length ≤ 281474976710656) :
    Called Tryd.prog 12 [cubeD a b c m0 m1 m2 m3 m4 m5 m6 m7 m8 off] (gridD (sz3 (s3 a) (s3 b) (s3 c)) 3 (cbL [m0, m1, m2, m3, m4, m5, m6, m7, m8] off (s3 b) (s3 c) (s3 a * s3 b * s3 c * 3))) := by
  have ea := s3_eq a
  have eb := s3_eq b
  have ec := s3_eq c
  have ba := s3_bd a
  have bb := s3_bd b
  have bc := s3_bd c
  have ta : a.tmod 3 = a % 3 := Int.tmod_eq_emod_of_nonneg ha.1
  have tb : b.tmod 3 = b % 3 := Int.tmod_eq_emod_of_nonneg hb.1
  have tc : c.tmod 3 = c % 3 := Int.tmod_eq_emod_of_nonneg hc.1
  simp only [List.mem_cons, List.not_mem_nil, or_false, forall_eq_or_imp, forall_eq] at hm
  have hoff : ∀ i, -32768 ≤ off.getD i 0 ∧ off.getD i 0 ≤ 32767 := fun i => by
    rw [List.getD_eq_getElem?_getD]
    cases h : off[i]? with
    | none => simp
    | some v => exact ho v (List.mem_of_getElem? h)
  have hlen := cbL_len [m0, m1, m2, m3, m4, m5, m6, m7, m8] off (s3 b) (s3 c)
  have hsucc := cbL_succ [m0, m1, m2, m3, m4, m5, m6, m7, m8] off (s3 b) (s3 c)
  have hval : ∀ {i j k o : Nat}, j < s3 b → k < s3 c → o < 3 → _ := fun {i j k o} hj hk h3 => cbV_of (m := [m0, m1, m2, m3, m4, m5, m6, m7, m8]) (off := off) (i := i) hj hk h3
  obtain ⟨cl, hcl⟩ : ∃ cl, cbL [m0, m1, m2, m3, m4, m5, m6, m7, m8] off (s3 b) (s3 c) = cl := ⟨_, rfl⟩
  obtain ⟨cv, hcv⟩ : ∃ cv, cbV [m0, m1, m2, m3, m4, m5, m6, m7, m8] off (s3 b) (s3 c) = cv := ⟨_, rfl⟩
  have hcl0 : cl 0 = [] := hcl ▸ rfl
  rw [hcl] at hlen hsucc ⊢
  rw [hcv] at hsucc
  rw [hcv] at hval
  clear hcl hcv
  have t0 : m0.tmod 7000 = m0 % 7000 := Int.tmod_eq_emod_of_nonneg (by omega)
  have t1 : m1.tmod 7000 = m1 % 7000 := Int.tmod_eq_emod_of_nonneg (by omega)
  have t2 : m2.tmod 7000 = m2 % 7000 := Int.tmod_eq_emod_of_nonneg (by omega)
  have t3 : m3.tmod 7000 = m3 % 7000 := Int.tmod_eq_emod_of_nonneg (by omega)
  have t4 : m4.tmod 7000 = m4 % 7000 := Int.tmod_eq_emod_of_nonneg (by omega)
  have t5 : m5.tmod 7000 = m5 % 7000 := Int.tmod_eq_emod_of_nonneg (by omega)
  have t6 : m6.tmod 7000 = m6 % 7000 := Int.tmod_eq_emod_of_nonneg (by omega)
  have t7 : m7.tmod 7000 = m7 % 7000 := Int.tmod_eq_emod_of_nonneg (by omega)
  have t8 : m8.tmod 7000 = m8 % 7000 := Int.tmod_eq_emod_of_nonneg (by omega)
  generalize s3 a = A at *
  generalize s3 b = B at *
  generalize s3 c = Cc at *
  unfold cubeD
  refine called_of_run tbOk 6 ⟨Tryd.func12, rfl, rfl, Nat.le_of_ble_eq_true rfl⟩ ?_
  (conv => whnf)
  (conv => whnf)
  (try simp only [Nat.zero_add, ta, tb, tc, ea, eb, ec, tn0, tn1, tn2, g3_0, g3_1, g3_2, i3_0, i3_1, i3_2])
  repeat ((first | refine V.s1 ?_); (try simp only [Nat.zero_add, ta, tb, tc, ea, eb, ec, tn0, tn1, tn2, g3_0, g3_1, g3_2, i3_0, i3_1, i3_2]))
  refine Lp.ghostBox 106 4 2 .i64 (by decide) (by decide) ?_
  (conv => whnf)
  refine lp_any (0) (fun k => k ≤ A) (fun k => A - k) (fun k => [(5, .int .i64 k)]) (fun k => [(4, .box [.osl 37 0 3, .int .i64 3, .osl 106 0 (k * B * Cc * 3)]), (106, .arr .i64 (cl (k * B * Cc * 3)))]) ?_ ?_ ?_
  · simp only [Nat.zero_mul, hcl0]
    exact V.wk
  · exact Nat.zero_le _
  intro i hi
  (conv => whnf)
  (try simp only [zU25_0])
  repeat ((first | refine V.s1 ?_); (try simp only [zU25_0]))
  refine Cnd.split (CondB.mk (fun hq => ?_) (fun hq => ?_))
  · rw [decide_eq_true_eq] at hq
    have hi4 : i < 4 := by omega
    (conv => whnf)
    (try simp only [zU25_0])
    repeat ((first | refine V.s1 ?_); (try simp only [zU25_0]))
    refine lp_any (0) (fun k => k ≤ B) (fun k => B - k) (fun k => [(6, .int .i64 k)]) (fun k => [(4, .box [.osl 37 0 3, .int .i64 3, .osl 106 0 ((i * B + k) * Cc * 3)]), (106, .arr .i64 (cl ((i * B + k) * Cc * 3)))]) ?_ ?_ ?_
    · simp only [Nat.add_zero]
      exact V.wk
    · exact Nat.zero_le _
    intro j hj
    (conv => whnf)
    (try simp only [zU25_0])
    repeat ((first | refine V.s1 ?_); (try simp only [zU25_0]))
    refine Cnd.split (CondB.mk (fun hq2 => ?_) (fun hq2 => ?_))
    · rw [decide_eq_true_eq] at hq2
      have hj2 : j < B := by omega
      have hj4 : j < 4 := by omega
      (conv => whnf)
      (try simp only [zU25_0])
      repeat ((first | refine V.s1 ?_); (try simp only [zU25_0]))
      refine lp_any (0) (fun k => k ≤ Cc) (fun k => Cc - k) (fun k => [(7, .int .i64 k)]) (fun k => [(4, .box [.osl 37 0 3, .int .i64 3, .osl 106 0 (((i * B + j) * Cc + k) * 3)]), (106, .arr .i64 (cl (((i * B + j) * Cc + k) * 3)))]) ?_ ?_ ?_
      · simp only [Nat.add_zero]
        exact V.wk
      · exact Nat.zero_le _
      intro kx hk
      (conv => whnf)
      (try simp only [zU25_0])
      repeat ((first | refine V.s1 ?_); (try simp only [zU25_0]))
      refine Cnd.split (CondB.mk (fun hq3 => ?_) (fun hq3 => ?_))
      · rw [decide_eq_true_eq] at hq3
        have hk2 : kx < Cc := by omega
        have hk4 : kx < 4 := by omega
        have hp : ((i * B + j) * Cc + kx) * 3 < 3000 := by
          have h1 : i * B ≤ 3 * 4 := Nat.mul_le_mul (by omega) (by omega)
          have h2 : (i * B + j) * Cc ≤ 16 * 4 := Nat.mul_le_mul (by omega) (by omega)
          omega
        (conv => whnf)
        (try simp only [zU25_0])
        repeat ((first | refine V.s1 ?_); (try simp only [zU25_0]))
        refine lp_any (0 : Nat) (fun o => o ≤ 3) (fun o => 3 - o) (fun o => [(9, .int .i64 (o : Int))]) (fun o => [(4, .box [.osl 37 0 3, .int .i64 3, .osl 106 0 (((i * B + j) * Cc + kx) * 3 + o)]), (106, .arr .i64 (cl (((i * B + j) * Cc + kx) * 3 + o)))]) ?_ ?_ ?_
        · simp only [Nat.add_zero]
          exact V.wk
        · exact Nat.zero_le _
        intro o ho
        have ho4 : o = 0 ∨ o = 1 ∨ o = 2 ∨ o = 3 := by omega
        rcases ho4 with eo | eo | eo | eo
        · subst eo
          have hvo := hval (i := i) (j := j) (k := kx) (o := 0) hj2 hk2 (by decide)
          have hlo := hlen (((i * B + j) * Cc + kx) * 3 + 0)
          have hso := hsucc (((i * B + j) * Cc + kx) * 3 + 0)
          rw [hvo] at hso
          have qa : [m0, m1, m2, m3, m4, m5, m6, m7, m8].getD (3 * 0) 0 = m0 := rfl
          have qb : [m0, m1, m2, m3, m4, m5, m6, m7, m8].getD (3 * 0 + 1) 0 = m1 := rfl
          have qc : [m0, m1, m2, m3, m4, m5, m6, m7, m8].getD (3 * 0 + 2) 0 = m2 := rfl
          have sa := stp_bd m0 hi4
          have sb' := stp_bd m1 hj4
          have sc := stp_bd m2 hk4
          (conv => whnf)
          (try simp only [Nat.zero_add, k0])
          repeat ((first | refine V.s1 ?_); (try simp only [Nat.zero_add, k0]))
          refine lp_any (0) (fun k => k ≤ 3) (fun k => 3 - k) (fun k => [(11, .int .i64 k), (10, .int .i64 (cbS [m0, m1, m2, m3, m4, m5, m6, m7, m8] 0 i j kx k))]) (fun k => []) ?_ ?_ ?_
          exact V.wk
          exact Nat.zero_le _
          intro m hm9
          have hm4 : m = 0 ∨ m = 1 ∨ m = 2 ∨ m = 3 := by omega
          rcases hm4 with e | e | e | e
          · subst e
            simp only [cbS, qa, qb, qc, k0]
            (conv => whnf)
            (try simp only [zU25_0, t0, t1, t2, t3, t4, t5, t6, t7, t8])
            repeat ((first | refine V.s1 ?_); (try simp only [zU25_0, t0, t1, t2, t3, t4, t5, t6, t7, t8]))
            refine ⟨(.take 0 (.take 1 (.take 2 (.take 3 (.take 4 (.take 5 (.take 6 (.take 7 (.take 8 (.take 9 (.take 10 (.take 11 (.take 12 (.take 13 (.ev (.cons 14 [] (.done) (.nil))))))))))))))))), ⟨by kernel_rfl, by kernel_rfl, by kernel_rfl⟩, .go ?_⟩
            (conv => whnf)
            (try simp only [zU25_0, t0, t1, t2, t3, t4, t5, t6, t7, t8])
            repeat ((first | refine V.s1 ?_); (try simp only [zU25_0, t0, t1, t2, t3, t4, t5, t6, t7, t8]))
            exact ⟨1, by omega, by omega, V.wk⟩
          · subst e
            simp only [cbS, qa, qb, qc, k1]
            (conv => whnf)
            (try simp only [zU25_0, t0, t1, t2, t3, t4, t5, t6, t7, t8])
            repeat ((first | refine V.s1 ?_); (try simp only [zU25_0, t0, t1, t2, t3, t4, t5, t6, t7, t8]))
            refine ⟨(.take 0 (.take 1 (.take 2 (.take 3 (.take 4 (.take 5 (.take 6 (.take 7 (.take 8 (.take 9 (.take 10 (.take 11 (.take 12 (.take 13 (.ev (.cons 14 [] (.done) (.nil))))))))))))))))), ⟨by kernel_rfl, by kernel_rfl, by kernel_rfl⟩, .go ?_⟩
            (conv => whnf)
            (try simp only [zU25_0, t0, t1, t2, t3, t4, t5, t6, t7, t8])
            repeat ((first | refine V.s1 ?_); (try simp only [zU25_0, t0, t1, t2, t3, t4, t5, t6, t7, t8]))
            exact ⟨2, by omega, by omega, V.wk⟩
          · subst e
            simp only [cbS, qa, qb, qc, k2]
            (conv => whnf)
            (try simp only [zU25_0, t0, t1, t2, t3, t4, t5, t6, t7, t8])
            repeat ((first | refine V.s1 ?_); (try simp only [zU25_0, t0, t1, t2, t3, t4, t5, t6, t7, t8]))
            refine ⟨(.take 0 (.take 1 (.take 2 (.take 3 (.take 4 (.take 5 (.take 6 (.take 7 (.take 8 (.take 9 (.take 10 (.take 11 (.take 12 (.take 13 (.ev (.cons 14 [] (.done) (.nil))))))))))))))))), ⟨by kernel_rfl, by kernel_rfl, by kernel_rfl⟩, .go ?_⟩
            (conv => whnf)
            (try simp only [zU25_0, t0, t1, t2, t3, t4, t5, t6, t7, t8])
            repeat ((first | refine V.s1 ?_); (try simp only [zU25_0, t0, t1, t2, t3, t4, t5, t6, t7, t8]))
            exact ⟨3, by omega, by omega, V.wk⟩
          · subst e
            obtain ⟨sv, hsv⟩ : ∃ sv, cbS [m0, m1, m2, m3, m4, m5, m6, m7, m8] 0 i j kx 3 = sv := ⟨_, rfl⟩
            have hsv2 := hsv
            simp only [cbS, qa, qb, qc] at hsv2
            have hsb : 0 ≤ sv ∧ sv ≤ 62991 := by omega
            have hw : cbW [m0, m1, m2, m3, m4, m5, m6, m7, m8] off 0 i j kx (((i * B + j) * Cc + kx) * 3 + 0) = if ((i * B + j) * Cc + kx) * 3 + 0 < off.length then sv + off.getD (((i * B + j) * Cc + kx) * 3 + 0) 0 else sv := by unfold cbW; rw [hsv]
            rw [hsv]
            clear hsv hsv2 qa qb qc
            obtain ⟨wv, hwv⟩ : ∃ wv, cbW [m0, m1, m2, m3, m4, m5, m6, m7, m8] off 0 i j kx (((i * B + j) * Cc + kx) * 3 + 0) = wv := ⟨_, rfl⟩
            rw [hwv] at hw hso
            have hwb : -40000 ≤ wv ∧ wv ≤ 100000 := by
              rw [hw]
              split
              · have := hoff (((i * B + j) * Cc + kx) * 3 + 0)
                omega
              · omega
            (conv => whnf)
            (try simp only [zU25_0, hlo])
            repeat ((first | refine V.s1 ?_); (try simp only [zU25_0, hlo]))
            refine cnd_meet [(10, .int .i64 wv)] [] (CondB.mk (fun hc => ?_) (fun hc => ?_)) ?_
            · simp only [decide_eq_true_eq] at hc
              rw [if_pos (by omega)] at hw
              have := hoff (((i * B + j) * Cc + kx) * 3 + 0)
              (conv => whnf)
              (try simp only [Nat.zero_add, Int.zero_add, tn0, tn1, tn2, tn3, s3_0, s3_1, s3_2, g3_0, g3_1, g3_2, i3_0, i3_1, i3_2, hlo, Int.toNat_natCast, ← hw])
              repeat ((first | refine V.s1 ?_); (try simp only [Nat.zero_add, Int.zero_add, tn0, tn1, tn2, tn3, s3_0, s3_1, s3_2, g3_0, g3_1, g3_2, i3_0, i3_1, i3_2, hlo, Int.toNat_natCast, ← hw]))
              exact V.wk
            · simp only [decide_eq_false_iff_not] at hc
              rw [if_neg (by omega)] at hw
              rw [hw]
              (conv => whnf)
              refine V.st ?_
              exact V.wk
            (conv => whnf)
            (try simp only [zU25_0, hlo])
            repeat ((first | refine V.s1 ?_); (try simp only [zU25_0, hlo]))
            have hso2 := hso.symm
            unfold clp at hso2
            have hl1 : List.length [max 0 (min 65535 wv)] = 1 := rfl
            simp only [List.drop_zero, List.take_succ_cons, List.take_zero, hl1, hso2]
            exact ⟨0 + 1, by omega, by omega, V.wk⟩
        · subst eo
          have hvo := hval (i := i) (j := j) (k := kx) (o := 1) hj2 hk2 (by decide)
          have hlo := hlen (((i * B + j) * Cc + kx) * 3 + 1)
          have hso := hsucc (((i * B + j) * Cc + kx) * 3 + 1)
          rw [hvo] at hso
          have qa : [m0, m1, m2, m3, m4, m5, m6, m7, m8].getD (3 * 1) 0 = m3 := rfl
          have qb : [m0, m1, m2, m3, m4, m5, m6, m7, m8].getD (3 * 1 + 1) 0 = m4 := rfl
          have qc : [m0, m1, m2, m3, m4, m5, m6, m7, m8].getD (3 * 1 + 2) 0 = m5 := rfl
          have sa := stp_bd m3 hi4
          have sb' := stp_bd m4 hj4
          have sc := stp_bd m5 hk4
          (conv => whnf)
          (try simp only [Nat.zero_add, k1])
          repeat ((first | refine V.s1 ?_); (try simp only [Nat.zero_add, k1]))
          refine lp_any (0) (fun k => k ≤ 3) (fun k => 3 - k) (fun k => [(11, .int .i64 k), (10, .int .i64 (cbS [m0, m1, m2, m3, m4, m5, m6, m7, m8] 1 i j kx k))]) (fun k => []) ?_ ?_ ?_
          exact V.wk
          exact Nat.zero_le _
          intro m hm9
          have hm4 : m = 0 ∨ m = 1 ∨ m = 2 ∨ m = 3 := by omega
          rcases hm4 with e | e | e | e
          · subst e
            simp only [cbS, qa, qb, qc, k0]
            (conv => whnf)
            (try simp only [zU25_0, t0, t1, t2, t3, t4, t5, t6, t7, t8])
            repeat ((first | refine V.s1 ?_); (try simp only [zU25_0, t0, t1, t2, t3, t4, t5, t6, t7, t8]))
            refine ⟨(.take 0 (.take 1 (.take 2 (.take 3 (.take 4 (.take 5 (.take 6 (.take 7 (.take 8 (.take 9 (.take 10 (.take 11 (.take 12 (.take 13 (.ev (.cons 14 [] (.done) (.nil))))))))))))))))), ⟨by kernel_rfl, by kernel_rfl, by kernel_rfl⟩, .go ?_⟩
            (conv => whnf)
            (try simp only [zU25_0, t0, t1, t2, t3, t4, t5, t6, t7, t8])
            repeat ((first | refine V.s1 ?_); (try simp only [zU25_0, t0, t1, t2, t3, t4, t5, t6, t7, t8]))
            exact ⟨1, by omega, by omega, V.wk⟩
          · subst e
            simp only [cbS, qa, qb, qc, k1]
            (conv => whnf)
            (try simp only [zU25_0, t0, t1, t2, t3, t4, t5, t6, t7, t8])
            repeat ((first | refine V.s1 ?_); (try simp only [zU25_0, t0, t1, t2, t3, t4, t5, t6, t7, t8]))
            refine ⟨(.take 0 (.take 1 (.take 2 (.take 3 (.take 4 (.take 5 (.take 6 (.take 7 (.take 8 (.take 9 (.take 10 (.take 11 (.take 12 (.take 13 (.ev (.cons 14 [] (.done) (.nil))))))))))))))))), ⟨by kernel_rfl, by kernel_rfl, by kernel_rfl⟩, .go ?_⟩
            (conv => whnf)
            (try simp only [zU25_0, t0, t1, t2, t3, t4, t5, t6, t7, t8])
            repeat ((first | refine V.s1 ?_); (try simp only [zU25_0, t0, t1, t2, t3, t4, t5, t6, t7, t8]))
            exact ⟨2, by omega, by omega, V.wk⟩
          · subst e
            simp only [cbS, qa, qb, qc, k2]
            (conv => whnf)
            (try simp only [zU25_0, t0, t1, t2, t3, t4, t5, t6, t7, t8])
            repeat ((first | refine V.s1 ?_); (try simp only [zU25_0, t0, t1, t2, t3, t4, t5, t6, t7, t8]))
            refine ⟨(.take 0 (.take 1 (.take 2 (.take 3 (.take 4 (.take 5 (.take 6 (.take 7 (.take 8 (.take 9 (.take 10 (.take 11 (.take 12 (.take 13 (.ev (.cons 14 [] (.done) (.nil))))))))))))))))), ⟨by kernel_rfl, by kernel_rfl, by kernel_rfl⟩, .go ?_⟩
            (conv => whnf)
            (try simp only [zU25_0, t0, t1, t2, t3, t4, t5, t6, t7, t8])
            repeat ((first | refine V.s1 ?_); (try simp only [zU25_0, t0, t1, t2, t3, t4, t5, t6, t7, t8]))
            exact ⟨3, by omega, by omega, V.wk⟩
          · subst e
            obtain ⟨sv, hsv⟩ : ∃ sv, cbS [m0, m1, m2, m3, m4, m5, m6, m7, m8] 1 i j kx 3 = sv := ⟨_, rfl⟩
            have hsv2 := hsv
            simp only [cbS, qa, qb, qc] at hsv2
            have hsb : 0 ≤ sv ∧ sv ≤ 62991 := by omega
            have hw : cbW [m0, m1, m2, m3, m4, m5, m6, m7, m8] off 1 i j kx (((i * B + j) * Cc + kx) * 3 + 1) = if ((i * B + j) * Cc + kx) * 3 + 1 < off.length then sv + off.getD (((i * B + j) * Cc + kx) * 3 + 1) 0 else sv := by unfold cbW; rw [hsv]
            rw [hsv]
            clear hsv hsv2 qa qb qc
            obtain ⟨wv, hwv⟩ : ∃ wv, cbW [m0, m1, m2, m3, m4, m5, m6, m7, m8] off 1 i j kx (((i * B + j) * Cc + kx) * 3 + 1) = wv := ⟨_, rfl⟩
            rw [hwv] at hw hso
            have hwb : -40000 ≤ wv ∧ wv ≤ 100000 := by
              rw [hw]
              split
              · have := hoff (((i * B + j) * Cc + kx) * 3 + 1)
                omega
              · omega
            (conv => whnf)
            (try simp only [zU25_0, hlo])
            repeat ((first | refine V.s1 ?_); (try simp only [zU25_0, hlo]))
            refine cnd_meet [(10, .int .i64 wv)] [] (CondB.mk (fun hc => ?_) (fun hc => ?_)) ?_
            · simp only [decide_eq_true_eq] at hc
              rw [if_pos (by omega)] at hw
              have := hoff (((i * B + j) * Cc + kx) * 3 + 1)
              (conv => whnf)
              (try simp only [Nat.zero_add, Int.zero_add, tn0, tn1, tn2, tn3, s3_0, s3_1, s3_2, g3_0, g3_1, g3_2, i3_0, i3_1, i3_2, hlo, Int.toNat_natCast, ← hw])
              repeat ((first | refine V.s1 ?_); (try simp only [Nat.zero_add, Int.zero_add, tn0, tn1, tn2, tn3, s3_0, s3_1, s3_2, g3_0, g3_1, g3_2, i3_0, i3_1, i3_2, hlo, Int.toNat_natCast, ← hw]))
              exact V.wk
            · simp only [decide_eq_false_iff_not] at hc
              rw [if_neg (by omega)] at hw
              rw [hw]
              (conv => whnf)
              refine V.st ?_
              exact V.wk
            (conv => whnf)
            (try simp only [zU25_0, hlo])
            repeat ((first | refine V.s1 ?_); (try simp only [zU25_0, hlo]))
            have hso2 := hso.symm
            unfold clp at hso2
            have hl1 : List.length [max 0 (min 65535 wv)] = 1 := rfl
            simp only [List.drop_zero, List.take_succ_cons, List.take_zero, hl1, hso2]
            exact ⟨1 + 1, by omega, by omega, V.wk⟩
        · subst eo
          have hvo := hval (i := i) (j := j) (k := kx) (o := 2) hj2 hk2 (by decide)
          have hlo := hlen (((i * B + j) * Cc + kx) * 3 + 2)
          have hso := hsucc (((i * B + j) * Cc + kx) * 3 + 2)
          rw [hvo] at hso
          have qa : [m0, m1, m2, m3, m4, m5, m6, m7, m8].getD (3 * 2) 0 = m6 := rfl
          have qb : [m0, m1, m2, m3, m4, m5, m6, m7, m8].getD (3 * 2 + 1) 0 = m7 := rfl
          have qc : [m0, m1, m2, m3, m4, m5, m6, m7, m8].getD (3 * 2 + 2) 0 = m8 := rfl
          have sa := stp_bd m6 hi4
          have sb' := stp_bd m7 hj4
          have sc := stp_bd m8 hk4
          (conv => whnf)
          (try simp only [Nat.zero_add, k2])
          repeat ((first | refine V.s1 ?_); (try simp only [Nat.zero_add, k2]))
          refine lp_any (0) (fun k => k ≤ 3) (fun k => 3 - k) (fun k => [(11, .int .i64 k), (10, .int .i64 (cbS [m0, m1, m2, m3, m4, m5, m6, m7, m8] 2 i j kx k))]) (fun k => []) ?_ ?_ ?_
          exact V.wk
          exact Nat.zero_le _
          intro m hm9
          have hm4 : m = 0 ∨ m = 1 ∨ m = 2 ∨ m = 3 := by omega
          rcases hm4 with e | e | e | e
          · subst e
            simp only [cbS, qa, qb, qc, k0]
            (conv => whnf)
            (try simp only [zU25_0, t0, t1, t2, t3, t4, t5, t6, t7, t8])
            repeat ((first | refine V.s1 ?_); (try simp only [zU25_0, t0, t1, t2, t3, t4, t5, t6, t7, t8]))
            refine ⟨(.take 0 (.take 1 (.take 2 (.take 3 (.take 4 (.take 5 (.take 6 (.take 7 (.take 8 (.take 9 (.take 10 (.take 11 (.take 12 (.take 13 (.ev (.cons 14 [] (.done) (.nil))))))))))))))))), ⟨by kernel_rfl, by kernel_rfl, by kernel_rfl⟩, .go ?_⟩
            (conv => whnf)
            (try simp only [zU25_0, t0, t1, t2, t3, t4, t5, t6, t7, t8])
            repeat ((first | refine V.s1 ?_); (try simp only [zU25_0, t0, t1, t2, t3, t4, t5, t6, t7, t8]))
            exact ⟨1, by omega, by omega, V.wk⟩
          · subst e
            simp only [cbS, qa, qb, qc, k1]
            (conv => whnf)
            (try simp only [zU25_0, t0, t1, t2, t3, t4, t5, t6, t7, t8])
            repeat ((first | refine V.s1 ?_); (try simp only [zU25_0, t0, t1, t2, t3, t4, t5, t6, t7, t8]))
            refine ⟨(.take 0 (.take 1 (.take 2 (.take 3 (.take 4 (.take 5 (.take 6 (.take 7 (.take 8 (.take 9 (.take 10 (.take 11 (.take 12 (.take 13 (.ev (.cons 14 [] (.done) (.nil))))))))))))))))), ⟨by kernel_rfl, by kernel_rfl, by kernel_rfl⟩, .go ?_⟩
            (conv => whnf)
            (try simp only [zU25_0, t0, t1, t2, t3, t4, t5, t6, t7, t8])
            repeat ((first | refine V.s1 ?_); (try simp only [zU25_0, t0, t1, t2, t3, t4, t5, t6, t7, t8]))
            exact ⟨2, by omega, by omega, V.wk⟩
          · subst e
            simp only [cbS, qa, qb, qc, k2]
            (conv => whnf)
            (try simp only [zU25_0, t0, t1, t2, t3, t4, t5, t6, t7, t8])
            repeat ((first | refine V.s1 ?_); (try simp only [zU25_0, t0, t1, t2, t3, t4, t5, t6, t7, t8]))
            refine ⟨(.take 0 (.take 1 (.take 2 (.take 3 (.take 4 (.take 5 (.take 6 (.take 7 (.take 8 (.take 9 (.take 10 (.take 11 (.take 12 (.take 13 (.ev (.cons 14 [] (.done) (.nil))))))))))))))))), ⟨by kernel_rfl, by kernel_rfl, by kernel_rfl⟩, .go ?_⟩
            (conv => whnf)
            (try simp only [zU25_0, t0, t1, t2, t3, t4, t5, t6, t7, t8])
            repeat ((first | refine V.s1 ?_); (try simp only [zU25_0, t0, t1, t2, t3, t4, t5, t6, t7, t8]))
            exact ⟨3, by omega, by omega, V.wk⟩
          · subst e
            obtain ⟨sv, hsv⟩ : ∃ sv, cbS [m0, m1, m2, m3, m4, m5, m6, m7, m8] 2 i j kx 3 = sv := ⟨_, rfl⟩
            have hsv2 := hsv
            simp only [cbS, qa, qb, qc] at hsv2
            have hsb : 0 ≤ sv ∧ sv ≤ 62991 := by omega
            have hw : cbW [m0, m1, m2, m3, m4, m5, m6, m7, m8] off 2 i j kx (((i * B + j) * Cc + kx) * 3 + 2) = if ((i * B + j) * Cc + kx) * 3 + 2 < off.length then sv + off.getD (((i * B + j) * Cc + kx) * 3 + 2) 0 else sv := by unfold cbW; rw [hsv]
            rw [hsv]
            clear hsv hsv2 qa qb qc
            obtain ⟨wv, hwv⟩ : ∃ wv, cbW [m0, m1, m2, m3, m4, m5, m6, m7, m8] off 2 i j kx (((i * B + j) * Cc + kx) * 3 + 2) = wv := ⟨_, rfl⟩
            rw [hwv] at hw hso
            have hwb : -40000 ≤ wv ∧ wv ≤ 100000 := by
              rw [hw]
              split
              · have := hoff (((i * B + j) * Cc + kx) * 3 + 2)
                omega
              · omega
            (conv => whnf)
            (try simp only [zU25_0, hlo])
            repeat ((first | refine V.s1 ?_); (try simp only [zU25_0, hlo]))
            refine cnd_meet [(10, .int .i64 wv)] [] (CondB.mk (fun hc => ?_) (fun hc => ?_)) ?_
            · simp only [decide_eq_true_eq] at hc
              rw [if_pos (by omega)] at hw
              have := hoff (((i * B + j) * Cc + kx) * 3 + 2)
              (conv => whnf)
              (try simp only [Nat.zero_add, Int.zero_add, tn0, tn1, tn2, tn3, s3_0, s3_1, s3_2, g3_0, g3_1, g3_2, i3_0, i3_1, i3_2, hlo, Int.toNat_natCast, ← hw])
              repeat ((first | refine V.s1 ?_); (try simp only [Nat.zero_add, Int.zero_add, tn0, tn1, tn2, tn3, s3_0, s3_1, s3_2, g3_0, g3_1, g3_2, i3_0, i3_1, i3_2, hlo, Int.toNat_natCast, ← hw]))
              exact V.wk
            · simp only [decide_eq_false_iff_not] at hc
              rw [if_neg (by omega)] at hw
              rw [hw]
              (conv => whnf)
              refine V.st ?_
              exact V.wk
            (conv => whnf)
            (try simp only [zU25_0, hlo])
            repeat ((first | refine V.s1 ?_); (try simp only [zU25_0, hlo]))
            have hso2 := hso.symm
            unfold clp at hso2
            have hl1 : List.length [max 0 (min 65535 wv)] = 1 := rfl
            simp only [List.drop_zero, List.take_succ_cons, List.take_zero, hl1, hso2]
            exact ⟨2 + 1, by omega, by omega, V.wk⟩
        · subst eo
          have e9 : ((i * B + j) * Cc + kx) * 3 + 3 = ((i * B + j) * Cc + (kx + 1)) * 3 := by omega
          rw [e9]
          (conv => whnf)
          (try simp only [Nat.zero_add, cs1])
          repeat ((first | refine V.s1 ?_); (try simp only [Nat.zero_add, cs1]))
          exact ⟨kx + 1, by omega, by omega, V.wk⟩
      · rw [decide_eq_false_iff_not] at hq3
        have hk2 : kx = Cc := by omega
        subst hk2
        rw [← num3_j]
        (conv => whnf)
        (try simp only [Nat.zero_add, cs1])
        repeat ((first | refine V.s1 ?_); (try simp only [Nat.zero_add, cs1]))
        exact ⟨j + 1, by omega, by omega, V.wk⟩
    · rw [decide_eq_false_iff_not] at hq2
      have hj2 : j = B := by omega
      subst hj2
      rw [← num3_i]
      (conv => whnf)
      (try simp only [Nat.zero_add, cs1])
      repeat ((first | refine V.s1 ?_); (try simp only [Nat.zero_add, cs1]))
      exact ⟨i + 1, by omega, by omega, V.wk⟩
  · rw [decide_eq_false_iff_not] at hq
    have hi2 : i = A := by omega
    subst hi2
    (conv => whnf)
    (try simp only [Nat.zero_add])
    repeat ((first | refine V.s1 ?_); (try simp only [Nat.zero_add]))
    have e9 : List.take (i * B * Cc * 3) (cl (i * B * Cc * 3)) = cl (i * B * Cc * 3) := List.take_of_length_le (by rw [hlen]; exact Nat.le_refl _)
    rw [e9]
    exact Fin.of rfl
end Go.Proofs.YtlcaefokcnohnaaDoor
end
section
namespace Go.Proofs.YtlcaefokcnohnaaDoor
open Go Go.V Go.Gr
def lnL (p q r : Int) (A B C : Nat) : List Int := cbL [p, 0, 0, 0, q, 0, 0, 0, r] [] B C (A * B * C * 3)
theorem lnL_len (p q r : Int) (A B C : Nat) : (lnL p q r A B C).length = A * B * C * 3 := cbL_len _ _ _ _ _
theorem lnL_bd (p q r : Int) (A B C : Nat) : ∀ v ∈ lnL p q r A B C, 0 ≤ v ∧ v ≤ 65535 := cbL_bd _ _ _ _ _
theorem lnL_get {p q r : Int} {A B C i j k o : Nat} (hi : i < A) (hj : j < B) (hk : k < C) (ho : o < 3) : (lnL p q r A B C).getD (3 * plc B C (i, j, k) + o) 0 = clp (cbS [p, 0, 0, 0, q, 0, 0, 0, r] o i j k 3) := by
  have h1 := plc_lt (s0 := A) (s1 := B) (s2 := C) (x := (i, j, k)) ⟨hi, hj, hk⟩
  have h2 : 3 * plc B C (i, j, k) + o = ((i * B + j) * C + k) * 3 + o := by unfold plc; dsimp only; omega
  have h3 : ((i * B + j) * C + k) * 3 + o < A * B * C * 3 := by
    unfold plc at h1
    dsimp only at h1
    omega
  rw [h2]
  unfold lnL cbL
  rw [List.getD_eq_getElem?_getD, List.getElem?_map, List.getElem?_range h3]
  show cbV [p, 0, 0, 0, q, 0, 0, 0, r] [] B C (((i * B + j) * C + k) * 3 + o) = _
  rw [cbV_of hj hk ho]
  unfold cbW
  rw [if_neg (by simp)]
theorem stp_in {p : Int} (hp : 1 ≤ p ∧ p ≤ 6999) {i : Nat} (hi : i < 4) : p % 7000 * (i : Int) = p * i ∧ 0 ≤ p * (i : Int) ∧ p * (i : Int) ≤ 20997 := by
  have e : p % 7000 = p := Int.emod_eq_of_lt (by omega) (by omega)
  have h := stp_bd p hi
  rw [e] at h
  exact ⟨by rw [e], h⟩
theorem clp_id {v : Int} (h : 0 ≤ v ∧ v ≤ 65535) : clp v = v := by unfold clp; omega
theorem lnL_ln {p q r : Int} (hp : 1 ≤ p ∧ p ≤ 6999) (hq : 1 ≤ q ∧ q ≤ 6999) (hr : 1 ≤ r ∧ r ≤ 6999) {A B C : Nat} (hA : A ≤ 4) (hB : B ≤ 4) (hC : C ≤ 4) : Ln (lnL p q r A B C) A B C p q r := by
  intro x hx
  obtain ⟨i, j, k⟩ := x
  dsimp only at hx
  unfold cnr gv
  have g0 := lnL_get (p := p) (q := q) (r := r) (o := 0) hx.1 hx.2.1 hx.2.2 (by decide)
  have g1 := lnL_get (p := p) (q := q) (r := r) (o := 1) hx.1 hx.2.1 hx.2.2 (by decide)
  have g2 := lnL_get (p := p) (q := q) (r := r) (o := 2) hx.1 hx.2.1 hx.2.2 (by decide)
  rw [Nat.add_zero] at g0
  rw [g0, g1, g2]
  have e0 : cbS [p, 0, 0, 0, q, 0, 0, 0, r] 0 i j k 3 = p % 7000 * (i : Int) := by
    show p % 7000 * (i : Int) + 0 % 7000 * (j : Int) + 0 % 7000 * (k : Int) = _
    simp
  have e1 : cbS [p, 0, 0, 0, q, 0, 0, 0, r] 1 i j k 3 = q % 7000 * (j : Int) := by
    show 0 % 7000 * (i : Int) + q % 7000 * (j : Int) + 0 % 7000 * (k : Int) = _
    simp
  have e2 : cbS [p, 0, 0, 0, q, 0, 0, 0, r] 2 i j k 3 = r % 7000 * (k : Int) := by
    show 0 % 7000 * (i : Int) + 0 % 7000 * (j : Int) + r % 7000 * (k : Int) = _
    simp
  have s0 := stp_in hp (i := i) (by omega)
  have s1 := stp_in hq (i := j) (by omega)
  have s2 := stp_in hr (i := k) (by omega)
  rw [e0, e1, e2, s0.1, s1.1, s2.1, clp_id (by omega), clp_id (by omega), clp_id (by omega)]
theorem lnL_chk {p q r : Int} {A B C : Nat} (hA : 2 ≤ A ∧ A ≤ 4) (hB : 2 ≤ B ∧ B ≤ 4) (hC : 2 ≤ C ∧ C ≤ 4) {t : V3} (ht : Vl t) : chk (sz3 A B C) 3 (lnL p q r A B C) (v3L t) = 0 := by
  have hl := lnL_len p q r A B C
  have hb := lnL_bd p q r A B C
  have h1 : A * B ≤ 4 * 4 := Nat.mul_le_mul hA.2 hB.2
  have h2 : A * B * C ≤ 16 * 4 := Nat.mul_le_mul h1 hC.2
  generalize lnL p q r A B C = data at *
  have hok : okGrid (sz3 A B C) 3 data = true := by
    unfold okGrid
    simp only [Bool.and_eq_true, decide_eq_true_eq, List.all_eq_true]
    refine ⟨⟨⟨⟨by simp [sz3], by omega⟩, ?_⟩, ?_⟩, hb⟩
    · intro x hx
      simp only [sz3, List.mem_cons, List.not_mem_nil, or_false] at hx
      rcases hx with rfl | rfl | rfl <;> omega
    · have : prod (sz3 A B C) = ((A * B * C : Nat) : Int) := by
        simp [prod, sz3]
      rw [this]
      omega
  have hT : okT (v3L t) = true := by
    unfold Vl at ht
    unfold v3L
    rw [okT3]
    exact ht
  unfold chk
  rw [if_pos hok, if_pos ⟨rfl, rfl, rfl⟩, if_pos hT]
end Go.Proofs.YtlcaefokcnohnaaDoor
end
section
namespace Go.Proofs.YtlcaefokcnohnaaDoor
open Go Go.V Go.Gr
theorem zof_node (p q r : Int) (c x : N3) : zof p q r c (p * x.1, q * x.2.1, r * x.2.2) = (p * q * r * ((x.1 : Int) - c.1), p * q * r * ((x.2.1 : Int) - c.2.1), p * q * r * ((x.2.2 : Int) - c.2.2)) := by
  unfold zof
  exact Prod.ext (by dsimp only; grind) (Prod.ext (by dsimp only; grind) (by dsimp only; grind))
def dlt (c x : N3) : V3 := ((x.1 : Int) - c.1, (x.2.1 : Int) - c.2.1, (x.2.2 : Int) - c.2.2)
theorem chn_scale {D : Int} (hD : 0 < D) {o : Nat} (ho : o < 6) (a b c : Int) : Chn D (ordA o) (D * a, D * b, D * c) ↔ Chn 1 (ordA o) (a, b, c) := by
  have l1 : ∀ x y : Int, D * x ≤ D * y ↔ x ≤ y := fun x y => ⟨fun h => Int.le_of_mul_le_mul_left h hD, fun h => Int.mul_le_mul_of_nonneg_left h (by omega)⟩
  have l2 : ∀ x : Int, D * x ≤ D ↔ x ≤ 1 := fun x => by have := l1 x 1; rwa [Int.mul_one] at this
  have l3 : ∀ x : Int, 0 ≤ D * x ↔ 0 ≤ x := fun x => by have := l1 0 x; rwa [Int.mul_zero] at this
  have h6 : o = 0 ∨ o = 1 ∨ o = 2 ∨ o = 3 ∨ o = 4 ∨ o = 5 := by omega
  rcases h6 with e | e | e | e | e | e <;> subst e <;> simp only [Chn, nth3, ordA, l1, l2, l3]
def ndC (A B C : Nat) (x : N3) : Nat := ((List.range (6 * cellsN A B C)).filter fun n => decide (Chn 1 (ordA (n % 6)) (dlt (cellN B C n) x))).length
theorem cnt_node {data : List Int} {s0 s1 s2 : Nat} {p q r : Int} (L : Ln data s0 s1 s2 p q r) (hp : 0 < p) (hq : 0 < q) (hr : 0 < r) (h0 : 2 ≤ s0) (h1 : 2 ≤ s1) (h2 : 2 ≤ s2) (x : N3) :
    cntN data s1 s2 (6 * cellsN s0 s1 s2) (p * x.1, q * x.2.1, r * x.2.2) = ndC s0 s1 s2 x := by
  have hD : 0 < p * q * r := Int.mul_pos (Int.mul_pos hp hq) hr
  unfold cntN ndC
  congr 1
  apply List.filter_congr
  intro n hn
  rw [hldN_lin L hp hq hr h0 h1 h2 (List.mem_range.1 hn) _ (zof_node p q r (cellN s1 s2 n) x)]
  have hs := chn_scale hD (o := n % 6) (Nat.mod_lt _ (by omega)) ((x.1 : Int) - (cellN s1 s2 n).1) ((x.2.1 : Int) - (cellN s1 s2 n).2.1) ((x.2.2 : Int) - (cellN s1 s2 n).2.2)
  by_cases h : Chn 1 (ordA (n % 6)) (dlt (cellN s1 s2 n) x)
  · rw [if_pos (hs.2 h), decide_eq_true h]
    rfl
  · rw [if_neg (fun g => h (hs.1 g)), decide_eq_false h]
    rfl
def thr (A B C : Nat) (x : N3) (b0 b1 b2 : Int) : Nat → Bool
  | 0 => true
  | 1 => (true && decide (0 ≤ (x.1 : Int) - b0)) && decide ((x.1 : Int) - b0 < (A : Int) - 1)
  | 2 => (((true && decide (0 ≤ (x.1 : Int) - b0)) && decide ((x.1 : Int) - b0 < (A : Int) - 1)) && decide (0 ≤ (x.2.1 : Int) - b1)) && decide ((x.2.1 : Int) - b1 < (B : Int) - 1)
  | _ => (((((true && decide (0 ≤ (x.1 : Int) - b0)) && decide ((x.1 : Int) - b0 < (A : Int) - 1)) && decide (0 ≤ (x.2.1 : Int) - b1)) && decide ((x.2.1 : Int) - b1 < (B : Int) - 1)) && decide (0 ≤ (x.2.2 : Int) - b2)) && decide ((x.2.2 : Int) - b2 < (C : Int) - 1)
def wst (A B C : Nat) (x : N3) (b0 b1 b2 v : Int) (w : Int) : Int := if thr A B C x b0 b1 b2 3 = true then w + v else w
def bts : Nat → Int × Int × Int × Int
  | 0 => (0, 0, 0, 6)
  | 1 => (1, 0, 0, 2)
  | 2 => (0, 1, 0, 2)
  | 3 => (1, 1, 0, 2)
  | 4 => (0, 0, 1, 2)
  | 5 => (1, 0, 1, 2)
  | 6 => (0, 1, 1, 2)
  | _ => (1, 1, 1, 6)
def wnt (A B C : Nat) (x : N3) : Nat → Int
  | 0 => 0
  | k + 1 => wst A B C x (bts k).1 (bts k).2.1 (bts k).2.2.1 (bts k).2.2.2 (wnt A B C x k)
theorem nodes_tab : ∀ A ∈ [2, 3, 4], ∀ B ∈ [2, 3, 4], ∀ C ∈ [2, 3, 4], ∀ i ∈ List.range A, ∀ j ∈ List.range B, ∀ k ∈ List.range C, ((ndC A B C (i, j, k) : Nat) : Int) = wnt A B C (i, j, k) 8 := by decide +kernel
theorem nodes_law {A B C : Nat} (hA : 2 ≤ A ∧ A ≤ 4) (hB : 2 ≤ B ∧ B ≤ 4) (hC : 2 ≤ C ∧ C ≤ 4) {x : N3} (h : x.1 < A ∧ x.2.1 < B ∧ x.2.2 < C) : ((ndC A B C x : Nat) : Int) = wnt A B C x 8 :=
  nodes_tab A (by simp; omega) B (by simp; omega) C (by simp; omega) x.1 (List.mem_range.2 h.1) x.2.1 (List.mem_range.2 h.2.1) x.2.2 (List.mem_range.2 h.2.2)
theorem wnt_bd (A B C : Nat) (x : N3) : ∀ k, k ≤ 8 → 0 ≤ wnt A B C x k ∧ wnt A B C x k ≤ 6 * k := by
  have st : ∀ (b0 b1 b2 v w : Int) (k : Nat), v = 6 ∨ v = 2 → 0 ≤ w ∧ w ≤ 6 * k → 0 ≤ wst A B C x b0 b1 b2 v w ∧ wst A B C x b0 b1 b2 v w ≤ 6 * ((k + 1 : Nat) : Int) := by
    intro b0 b1 b2 v w k hv hw
    unfold wst
    split <;> omega
  have hb : ∀ k, (bts k).2.2.2 = 6 ∨ (bts k).2.2.2 = 2 := by
    intro k
    unfold bts
    split <;> simp
  intro k _
  induction k with
  | zero => exact ⟨Int.le_refl 0, Int.le_refl 0⟩
  | succ k ih => exact st _ _ _ _ _ k (hb k) (ih (by omega))
end Go.Proofs.YtlcaefokcnohnaaDoor
end
section
namespace Go.Proofs.YtlcaefokcnohnaaDoor
open Go Go.V Go.Nb Go.Gr
theorem den_nil_i {E : Env} {h : Pub} {k : IntKind} {v : Value} (H : Den E h .nil v) : Den E h (.ints k []) v := by
  simp only [Den] at H ⊢
  subst H
  exact ⟨none, 0, rfl, Nat.le_refl _, Nat.zero_le _, fun _ h => absurd h (by simp), rfl, rfl⟩
theorem denL_last {E : Env} {h : Pub} {k : IntKind} : ∀ {ds : List D} {vs : List Value}, DenL E h (ds ++ [.nil]) vs → DenL E h (ds ++ [.ints k []]) vs
  | [], vs, H => by
    simp only [List.nil_append, DenL] at H ⊢
    obtain ⟨v, r, e, k1, e2⟩ := H
    exact ⟨v, r, e, den_nil_i k1, e2⟩
  | d :: ds, vs, H => by
    simp only [List.cons_append, DenL] at H ⊢
    obtain ⟨v, r, e, k1, k2⟩ := H
    exact ⟨v, r, e, k1, denL_last k2⟩
theorem lgrid_c (a b c p q r : Int) (ha : 0 ≤ a ∧ a ≤ 255) (hb : 0 ≤ b ∧ b ≤ 255) (hc : 0 ≤ c ∧ c ≤ 255) (hp : 1 ≤ p ∧ p ≤ 6999) (hq : 1 ≤ q ∧ q ≤ 6999) (hr : 1 ≤ r ∧ r ≤ 6999) :
    Called Tryd.prog 12 [.agg [.int .u8 a, .int .u8 b, .int .u8 c, .int .u16 p, .int .u16 0, .int .u16 0, .int .u16 0, .int .u16 q, .int .u16 0, .int .u16 0, .int .u16 0, .int .u16 r, .nil]] (gridD (sz3 (s3 a) (s3 b) (s3 c)) 3 (lnL p q r (s3 a) (s3 b) (s3 c))) := by
  refine Called.conv (cgrid_c a b c p 0 0 0 q 0 0 0 r [] ha hb hc (fun x hx => ?_) (fun x hx => by simp at hx) (by simp)) fun h vs H => ?_
  · simp only [List.mem_cons, List.not_mem_nil, or_false] at hx
    omega
  · unfold cubeD
    simp only [DenL] at H ⊢
    obtain ⟨v, rr, e, k1, e2⟩ := H
    refine ⟨v, rr, e, ?_, e2⟩
    simp only [Den] at k1 ⊢
    obtain ⟨us, e3, k2, k3⟩ := k1
    exact ⟨us, e3, denL_last (ds := [.int .u8 a, .int .u8 b, .int .u8 c, .int .u16 p, .int .u16 0, .int .u16 0, .int .u16 0, .int .u16 q, .int .u16 0, .int .u16 0, .int .u16 0, .int .u16 r]) k2, k3⟩
def lnB (a b c p q r : Int) : Nat → List D
  | 0 => [.int .u8 a, .int .u8 b, .int .u8 c, .int .u16 0, .int .u16 0, .int .u16 0, .int .u16 0, .int .u16 0, .int .u16 0, .int .u16 0, .int .u16 0, .int .u16 0, .nil]
  | 1 => [.int .u8 a, .int .u8 b, .int .u8 c, .int .u16 p, .int .u16 0, .int .u16 0, .int .u16 0, .int .u16 0, .int .u16 0, .int .u16 0, .int .u16 0, .int .u16 0, .nil]
  | 2 => [.int .u8 a, .int .u8 b, .int .u8 c, .int .u16 p, .int .u16 0, .int .u16 0, .int .u16 0, .int .u16 q, .int .u16 0, .int .u16 0, .int .u16 0, .int .u16 0, .nil]
  | _ => [.int .u8 a, .int .u8 b, .int .u8 c, .int .u16 p, .int .u16 0, .int .u16 0, .int .u16 0, .int .u16 q, .int .u16 0, .int .u16 0, .int .u16 0, .int .u16 r, .nil]
theorem node_parts {A B C n : Nat} (hB : 0 < B) (hC : 0 < C) (hn : n < A * B * C) : (n / (B * C) < A ∧ n / C % B < B ∧ n % C < C) ∧ plc B C (n / (B * C), n / C % B, n % C) = n := by
  refine ⟨⟨?_, Nat.mod_lt _ hB, Nat.mod_lt _ hC⟩, ?_⟩
  · rw [Nat.div_lt_iff_lt_mul (Nat.mul_pos hB hC), ← Nat.mul_assoc]
    exact hn
  · unfold plc
    dsimp only
    have e1 : n / (B * C) * B + n / C % B = n / C := by rw [Nat.mul_comm B C, ← Nat.div_div_eq_div_mul]; exact Nat.div_add_mod' _ _
    rw [e1]
    exact Nat.div_add_mod' _ _
theorem frq_cancel {p : Int} (hp : 0 < p) (x : Int) {s : Int} (hs : 0 < s) : Rat.divInt (p * x) (p * s) = Rat.divInt x s := by
  have h1 := Int.mul_pos hp hs
  rw [Rat.divInt_eq_divInt_iff (by omega) (by omega)]
  grind
def lwt (b0 b1 b2 : Int) : Nat → Int
  | 0 => 0
  | 1 => 0 + b0
  | 2 => 0 + b0 + b1
  | _ => 0 + b0 + b1 + b2
theorem bts_tab : ∀ k ∈ List.range 8, bits BinOp.and IntKind.i64 ((k : Int) / 2 ^ 0) 1 = (bts k).1 ∧ bits BinOp.and IntKind.i64 ((k : Int) / 2 ^ 1) 1 = (bts k).2.1 ∧ bits BinOp.and IntKind.i64 ((k : Int) / 2 ^ 2) 1 = (bts k).2.2.1 ∧
    (0 ≤ (bts k).1 ∧ (bts k).1 ≤ 1) ∧ (0 ≤ (bts k).2.1 ∧ (bts k).2.1 ≤ 1) ∧ (0 ≤ (bts k).2.2.1 ∧ (bts k).2.2.1 ≤ 1) ∧ (bts k).2.2.2 = if (bts k).1 + (bts k).2.1 + (bts k).2.2.1 = 0 ∨ (bts k).1 + (bts k).2.1 + (bts k).2.2.1 = 3 then 6 else 2 := by decide +kernel
theorem zU34_0 : type_of% @Nat.zero_add ∧ type_of% @g3_0 ∧ type_of% @g3_1 ∧ type_of% @g3_2 ∧ type_of% @i3_0 ∧ type_of% @i3_1 ∧ type_of% @i3_2 ∧ type_of% @tn0 ∧ type_of% @tn1 ∧ type_of% @tn2 := ⟨@Nat.zero_add, @g3_0, @g3_1, @g3_2, @i3_0, @i3_1, @i3_2, @tn0, @tn1, @tn2⟩
theorem nodes_c (a b c m0 m1 m2 y : Int) (ha : 0 ≤ a ∧ a ≤ 255) (hb : 0 ≤ b ∧ b ≤ 255) (hc : 0 ≤ c ∧ c ≤ 255) (h0 : 0 ≤ m0 ∧ m0 ≤ 65535) (h1 : 0 ≤ m1 ∧ m1 ≤ 65535) (h2 : 0 ≤ m2 ∧ m2 ≤ 65535) (hy : 0 ≤ y ∧ y ≤ 255) :
    Called Tryd.prog 5 [.iarr .u8 [a, b, c], .iarr .u16 [m0, m1, m2], .int .u8 y] (.bool true) := by
  have hworks := works_c
  obtain ⟨p, hp0⟩ : ∃ p, 1 + m0 % 6999 = p := ⟨_, rfl⟩
  obtain ⟨q, hq0⟩ : ∃ p, 1 + m1 % 6999 = p := ⟨_, rfl⟩
  obtain ⟨r, hr0⟩ : ∃ p, 1 + m2 % 6999 = p := ⟨_, rfl⟩
  have hp : 1 ≤ p ∧ p ≤ 6999 := by omega
  have hq : 1 ≤ q ∧ q ≤ 6999 := by omega
  have hr : 1 ≤ r ∧ r ≤ 6999 := by omega
  have hm0 : m0.tmod 6999 = m0 % 6999 := Int.tmod_eq_emod_of_nonneg h0.1
  have hm1 : m1.tmod 6999 = m1 % 6999 := Int.tmod_eq_emod_of_nonneg h1.1
  have hm2 : m2.tmod 6999 = m2 % 6999 := Int.tmod_eq_emod_of_nonneg h2.1
  have hgrid := lgrid_c a b c p q r ha hb hc hp hq hr
  obtain ⟨A, hA0⟩ : ∃ A, s3 a = A := ⟨_, rfl⟩
  obtain ⟨B, hB0⟩ : ∃ A, s3 b = A := ⟨_, rfl⟩
  obtain ⟨C, hC0⟩ : ∃ A, s3 c = A := ⟨_, rfl⟩
  have hA : 2 ≤ A ∧ A ≤ 4 := by have := s3_bd a; omega
  have hB : 2 ≤ B ∧ B ≤ 4 := by have := s3_bd b; omega
  have hC : 2 ≤ C ∧ C ≤ 4 := by have := s3_bd c; omega
  rw [hA0, hB0, hC0] at hgrid
  have hL := lnL_ln (p := p) (q := q) (r := r) hp hq hr hA.2 hB.2 hC.2
  have hlen := lnL_len p q r A B C
  have hchk := fun t ht => lnL_chk (p := p) (q := q) (r := r) hA hB hC (t := t) ht
  generalize lnL p q r A B C = data at *
  refine called_of_run tbOk 6 ⟨Tryd.func5, rfl, rfl, Nat.le_of_ble_eq_true rfl⟩ ?_
  (conv => whnf)
  (conv => whnf)
  (try simp only [Nat.zero_add])
  repeat ((first | refine V.s1 ?_ | ((try ((with_reducible refine .ext ?_); (conv => whnf); (try simp only [Nat.zero_add]))); (with_reducible refine call_intro (r := ?_) ?_ ?_); rotate_left; (focus (first | exact (hworks))); (conv => whnf))); (try simp only [Nat.zero_add]))
  refine lp_any (0) (fun k => k ≤ 3) (fun k => 3 - k) (fun k => [(30, .int .i64 k)]) (fun k => [(7, .box (lnB a b c p q r k))]) ?_ ?_ ?_
  · exact V.wk
  · exact Nat.zero_le _
  intro k hk
  have hk4 : k = 0 ∨ k = 1 ∨ k = 2 ∨ k = 3 := by omega
  rcases hk4 with e | e | e | e
  all_goals subst e
  · simp only [lnB, k0]
    (conv => whnf)
    (try simp only [Nat.zero_add, tn0, tn1, tn2])
    repeat ((first | refine V.s1 ?_); (try simp only [Nat.zero_add, tn0, tn1, tn2]))
    refine ⟨(.take 0 (.take 1 (.take 2 (.take 3 (.take 4 (.take 5 (.take 6 (.take 7 (.take 8 (.take 9 (.ev (.cons 10 [] (.done) (.nil))))))))))))), ⟨by kernel_rfl, by kernel_rfl, by kernel_rfl⟩, .go ?_⟩
    (conv => whnf)
    (try simp only [zU34_0, hm0, hm1, hm2, hp0, hq0, hr0, Nat.reduceMul, Nat.reduceAdd])
    repeat ((first | refine V.s1 ?_); (try simp only [zU34_0, hm0, hm1, hm2, hp0, hq0, hr0, Nat.reduceMul, Nat.reduceAdd]))
    exact ⟨1, by omega, by omega, V.wk⟩
  · simp only [lnB, k1]
    (conv => whnf)
    (try simp only [Nat.zero_add, tn0, tn1, tn2])
    repeat ((first | refine V.s1 ?_); (try simp only [Nat.zero_add, tn0, tn1, tn2]))
    refine ⟨(.take 0 (.take 1 (.take 2 (.take 3 (.take 4 (.take 5 (.take 6 (.take 7 (.take 8 (.take 9 (.ev (.cons 10 [] (.done) (.nil))))))))))))), ⟨by kernel_rfl, by kernel_rfl, by kernel_rfl⟩, .go ?_⟩
    (conv => whnf)
    (try simp only [zU34_0, hm0, hm1, hm2, hp0, hq0, hr0, Nat.reduceMul, Nat.reduceAdd])
    repeat ((first | refine V.s1 ?_); (try simp only [zU34_0, hm0, hm1, hm2, hp0, hq0, hr0, Nat.reduceMul, Nat.reduceAdd]))
    exact ⟨2, by omega, by omega, V.wk⟩
  · simp only [lnB, k2]
    (conv => whnf)
    (try simp only [Nat.zero_add, tn0, tn1, tn2])
    repeat ((first | refine V.s1 ?_); (try simp only [Nat.zero_add, tn0, tn1, tn2]))
    refine ⟨(.take 0 (.take 1 (.take 2 (.take 3 (.take 4 (.take 5 (.take 6 (.take 7 (.take 8 (.take 9 (.ev (.cons 10 [] (.done) (.nil))))))))))))), ⟨by kernel_rfl, by kernel_rfl, by kernel_rfl⟩, .go ?_⟩
    (conv => whnf)
    (try simp only [zU34_0, hm0, hm1, hm2, hp0, hq0, hr0, Nat.reduceMul, Nat.reduceAdd])
    repeat ((first | refine V.s1 ?_); (try simp only [zU34_0, hm0, hm1, hm2, hp0, hq0, hr0, Nat.reduceMul, Nat.reduceAdd]))
    exact ⟨3, by omega, by omega, V.wk⟩
  simp only [lnB, k3]
  (conv => whnf)
  (try simp only [Nat.zero_add])
  repeat ((first | refine V.s1 ?_); (try simp only [Nat.zero_add]))
  have hN : 8 ≤ A * B * C ∧ A * B * C ≤ 64 := by
    have e1 := Nat.mul_le_mul (Nat.mul_le_mul hA.2 hB.2) hC.2
    have e2 := Nat.mul_le_mul (Nat.mul_le_mul hA.1 hB.1) hC.1
    omega
  have hBC : 4 ≤ B * C ∧ B * C ≤ 16 := by
    have e1 := Nat.mul_le_mul hB.2 hC.2
    have e2 := Nat.mul_le_mul hB.1 hC.1
    omega
  obtain ⟨n, hn0⟩ : ∃ n, y.toNat % (A * B * C) = n := ⟨_, rfl⟩
  have hn : n < A * B * C := by rw [← hn0]; exact Nat.mod_lt _ (by omega)
  have hrn : y % ((A * B * C : Nat) : Int) = (n : Int) := by
    rw [← hn0, Int.natCast_emod, Int.toNat_of_nonneg hy.1]
  obtain ⟨hx, hpl⟩ := node_parts (A := A) (B := B) (C := C) (by omega) (by omega) hn
  have hBCc : (B : Int) * (C : Int) = ((B * C : Nat) : Int) := (Int.natCast_mul B C).symm
  have hx0 : (n : Int) / ((B * C : Nat) : Int) = ((n / (B * C) : Nat) : Int) := rfl
  have hx1 : ((n : Int) / (C : Int)) % (B : Int) = ((n / C % B : Nat) : Int) := rfl
  have hx1' : ((n : Int) / (C : Int)).tmod (B : Int) = ((n / C % B : Nat) : Int) := by
    rw [Int.tmod_eq_emod_of_nonneg (Int.ediv_nonneg (by omega) (by omega))]
    rfl
  have hx2 : (n : Int) % (C : Int) = ((n % C : Nat) : Int) := rfl
  obtain ⟨x0, e0⟩ : ∃ x, n / (B * C) = x := ⟨_, rfl⟩
  obtain ⟨x1, e1⟩ : ∃ x, n / C % B = x := ⟨_, rfl⟩
  obtain ⟨x2, e2⟩ : ∃ x, n % C = x := ⟨_, rfl⟩
  rw [e0] at hx0
  rw [e1] at hx1 hx1'
  rw [e2] at hx2
  rw [e0, e1, e2] at hx hpl
  have hcn := hL (x0, x1, x2) hx
  unfold cnr gv at hcn
  rw [hpl] at hcn
  simp only [Prod.mk.injEq] at hcn
  obtain ⟨hd0, hd1, hd2⟩ := hcn
  have hi0 : (3 * (n : Int)).toNat = 3 * n := by omega
  have hi1 : (3 * (n : Int) + 1).toNat = 3 * n + 1 := by omega
  have hi2 : (3 * (n : Int) + 2).toNat = 3 * n + 2 := by omega
  have hcnt := cnt_node hL (by omega) (by omega) (by omega) hA.1 hB.1 hC.1 (x0, x1, x2)
  have hfin := nodes_law hA hB hC (x := (x0, x1, x2)) hx
  have hvl : Vl (p * x0, q * x1, r * x2) := by
    have s0 := stp_in hp (i := x0) (by omega)
    have s1 := stp_in hq (i := x1) (by omega)
    have s2 := stp_in hr (i := x2) (by omega)
    unfold Vl
    dsimp only
    omega
  have hch := hchk _ hvl
  have up : ∀ {p : Int} {x A : Nat}, 1 ≤ p → x < A → 0 ≤ p * (x : Int) ∧ p * (x : Int) ≤ p * ((A : Int) - 1) := fun h1 h2 => ⟨Int.mul_nonneg (by omega) (by omega), Int.mul_le_mul_of_nonneg_left (by omega) (by omega)⟩
  obtain ⟨m, wa, wb, we, wd, hf, hh, f0, f1, f2⟩ := lin_finds hL (by omega) (by omega) (by omega) hA hB hC (t := (p * x0, q * x1, r * x2)) (up hp.1 hx.1) (up hq.1 hx.2.1) (up hr.1 hx.2.2)
  dsimp only at f0 f1 f2
  rw [frq_cancel (by omega) _ (by omega)] at f0 f1 f2
  have hloc := locate_c (sz3 A B C) 3 data (v3L (p * x0, q * x1, r * x2)) (by simp [sz3]) (by omega) (by simp [v3L])
  rw [ex_some hch hf hh f0 f1 f2] at hloc
  have hhds := holds_c (sz3 A B C) 3 data (v3L (p * x0, q * x1, r * x2)) (by simp [sz3]) (by omega) (by simp [v3L])
  rw [hdsR_ok hch, hcnt] at hhds
  have o0 := lawof_c (x0 : Int) ((A : Int) - 1) (by omega) (by omega)
  have o1 := lawof_c (x1 : Int) ((B : Int) - 1) (by omega) (by omega)
  have o2 := lawof_c (x2 : Int) ((C : Int) - 1) (by omega) (by omega)
  clear hL hchk hch hf hh f0 f1 f2 hcnt hvl up
  generalize Rat.divInt (x0 : Int) ((A : Int) - 1) = q0 at *
  generalize Rat.divInt (x1 : Int) ((B : Int) - 1) = q1 at *
  generalize Rat.divInt (x2 : Int) ((C : Int) - 1) = q2 at *
  have hwb := wnt_bd A B C (x0, x1, x2)
  generalize p * (x0 : Int) = T0 at *
  generalize q * (x1 : Int) = T1 at *
  generalize r * (x2 : Int) = T2 at *
  rw [hfin] at hhds
  unfold frF frC v3L at hloc
  unfold v3L at hhds
  unfold frC at o0 o1 o2
  simp only [List.cons_append, List.nil_append] at hloc
  unfold gridD sz3 at hgrid hloc hhds
  have hq3 : (data.length : Int) / 3 = ((A * B * C : Nat) : Int) := by rw [hlen]; omega
  (conv => whnf)
  (try simp only [Nat.zero_add, hq3, hrn])
  repeat ((first | refine V.s1 ?_ | ((try ((with_reducible refine .ext ?_); (conv => whnf); (try simp only [Nat.zero_add, hq3, hrn]))); (with_reducible refine call_intro (r := ?_) ?_ ?_); rotate_left; (focus (first | exact (hgrid))); (conv => whnf))); (try simp only [Nat.zero_add, hq3, hrn]))
  refine ⟨(.take 0 (.take 1 (.take 2 (.take 3 (.take 4 (.take 5 (.take 6 (.take 7 (.take 8 (.take 9 (.take 10 (.take 11 (.take 12 (.take 13 (.take 14 (.take 15 (.take 16 (.take 17 (.take 18 (.take 19 (.take 20 (.take 21 (.take 22 (.take 23 (.take 24 (.take 25 (.take 26 (.take 27 (.take 28 (.ev (.cons 29 [28, 27, 26, 25, 24, 23, 22, 21, 20, 19, 18, 17, 16, 15, 14, 13, 12, 11, 10, 9, 8, 7, 6, 5, 4, 3, 2, 1, 0] (.ev (.cons 30 [] (.done) (.nil))) (.nil)))))))))))))))))))))))))))))))), ⟨by kernel_rfl, by kernel_rfl, by kernel_rfl⟩, ?_⟩
  refine drw_meet [(11, .box 11 0)] [(11, .arr .i64 [(x0 : Int), (x1 : Int), (x2 : Int)])] ?_ ?_
  · (conv => whnf); (try simp only [zU34_0, hq3, hrn, hBCc, hx0, hx1, hx1', hx2])
    repeat' (first | exact V.wk | ((first | refine V.s1 ?_ | ((with_reducible refine recheck_and ?_ ?_); (focus ((conv => whnf); (try simp only [zU34_0, hq3, hrn, hBCc, hx0, hx1, hx1', hx2]); (repeat (refine V.s1 ?_; (try simp only [zU34_0, hq3, hrn, hBCc, hx0, hx1, hx1', hx2]))); exact ⟨rfl⟩)); (conv => whnf))); (try simp only [zU34_0, hq3, hrn, hBCc, hx0, hx1, hx1', hx2])) | (refine And.intro ?_ ?_ <;> (conv => whnf); (try simp only [zU34_0, hq3, hrn, hBCc, hx0, hx1, hx1', hx2])))
  (conv => whnf)
  (try simp only [Nat.zero_add])
  repeat ((first | refine V.s1 ?_); (try simp only [Nat.zero_add]))
  refine ⟨(.take 0 (.take 1 (.take 2 (.take 3 (.take 4 (.take 5 (.take 6 (.take 7 (.take 8 (.take 9 (.take 10 (.take 11 (.take 12 (.take 13 (.take 14 (.take 15 (.take 16 (.take 17 (.take 18 (.take 19 (.take 20 (.ev (.cons 21 [20, 19, 18, 17, 16, 15, 14, 13, 12, 11, 10, 9, 8, 7, 6, 5, 4, 3, 2, 1, 0] (.ev (.cons 22 [] (.done) (.nil))) (.nil)))))))))))))))))))))))), ⟨by kernel_rfl, by kernel_rfl, by kernel_rfl⟩, ?_⟩
  refine drw_meet [(12, .box 12 0)] [(12, .arr .i64 [T0, T1, T2])] ?_ ?_
  · (conv => whnf); (try simp only [zU34_0, hi0, hi1, hi2, hd0, hd1, hd2, hlen])
    repeat' (first | exact V.wk | ((first | refine V.s1 ?_ | ((with_reducible refine recheck_and ?_ ?_); (focus ((conv => whnf); (try simp only [zU34_0, hi0, hi1, hi2, hd0, hd1, hd2, hlen]); (repeat (refine V.s1 ?_; (try simp only [zU34_0, hi0, hi1, hi2, hd0, hd1, hd2, hlen]))); exact ⟨rfl⟩)); (conv => whnf))); (try simp only [zU34_0, hi0, hi1, hi2, hd0, hd1, hd2, hlen])) | (refine And.intro ?_ ?_ <;> (conv => whnf); (try simp only [zU34_0, hi0, hi1, hi2, hd0, hd1, hd2, hlen])))
  (conv => whnf)
  (try simp only [Nat.zero_add])
  repeat ((first | refine V.s1 ?_); (try simp only [Nat.zero_add]))
  refine ⟨(.take 0 (.take 1 (.ev (.cons 2 [] (.take 3 (.take 4 (.take 5 (.take 6 (.take 7 (.take 8 (.take 9 (.done)))))))) (.nil))))), ⟨by kernel_rfl, by kernel_rfl, by kernel_rfl⟩, .go ?_⟩
  (conv => whnf)
  (try simp only [Nat.zero_add])
  repeat ((first | refine V.s1 ?_); (try simp only [Nat.zero_add]))
  refine .len ?_
  (conv => whnf)
  refine ⟨12, ?_⟩
  (conv => whnf)
  refine call_intro (r := ?_) ?_ ?_
  rotate_left
  · exact hloc
  (conv => whnf)
  (conv => whnf)
  (try simp only [Nat.zero_add])
  repeat ((first | refine V.s1 ?_); (try simp only [Nat.zero_add]))
  refine ⟨(.take 0 (.take 1 (.ev (.cons 2 [] (.take 3 (.take 4 (.take 5 (.take 6 (.take 7 (.done)))))) (.nil))))), ⟨by kernel_rfl, by kernel_rfl, by kernel_rfl⟩, .go ?_⟩
  (conv => whnf)
  (try simp only [Nat.zero_add])
  repeat ((first | refine V.s1 ?_); (try simp only [Nat.zero_add]))
  refine .len ?_
  (conv => whnf)
  refine ⟨12, ?_⟩
  (conv => whnf)
  refine call_intro (r := ?_) ?_ ?_
  rotate_left
  · exact hhds
  (conv => whnf)
  (conv => whnf)
  (try simp only [Nat.zero_add])
  repeat ((first | refine V.s1 ?_); (try simp only [Nat.zero_add]))
  refine lp_any (0) (fun k => k ≤ 3) (fun k => 3 - k) (fun k => [(129, .int .i64 k)]) (fun k => []) ?_ ?_ ?_
  · exact V.wk
  · exact Nat.zero_le _
  intro k hk
  have hk4 : k = 0 ∨ k = 1 ∨ k = 2 ∨ k = 3 := by omega
  rcases hk4 with e | e | e | e
  all_goals subst e
  · simp only [k0]
    (conv => whnf)
    (try simp only [Nat.zero_add, tn0, tn1, tn2, tn3])
    repeat ((first | refine V.s1 ?_); (try simp only [Nat.zero_add, tn0, tn1, tn2, tn3]))
    refine ⟨(.take 0 (.take 1 (.take 2 (.take 3 (.take 4 (.take 5 (.take 6 (.take 7 (.take 8 (.take 9 (.take 10 (.take 11 (.take 12 (.ev (.cons 13 [3, 2, 1, 0] (.take 14 (.done)) (.nil)))))))))))))))), ⟨by kernel_rfl, by kernel_rfl, by kernel_rfl⟩, ?_⟩
    refine drw_meet [(146, .bool false)] [] ?_ ?_
    · (conv => whnf); (try simp only [zU34_0])
      repeat' (first | exact V.wk | ((first | refine V.s1 ?_ | ((with_reducible refine recheck_and ?_ ?_); (focus ((conv => whnf); (try simp only [zU34_0]); (repeat (refine V.s1 ?_; (try simp only [zU34_0]))); exact ⟨rfl⟩)); (conv => whnf)) | ((try ((with_reducible refine .ext ?_); (conv => whnf); (try simp only [zU34_0]))); (with_reducible refine call_intro (r := ?_) ?_ ?_); rotate_left; (focus (first | exact (o0))); (conv => whnf))); (try simp only [zU34_0])) | (refine And.intro ?_ ?_ <;> (conv => whnf); (try simp only [zU34_0])))
    (conv => whnf)
    (try simp only [Nat.zero_add])
    repeat ((first | refine V.s1 ?_); (try simp only [Nat.zero_add]))
    exact ⟨1, by omega, by omega, V.wk⟩
  · simp only [k1]
    (conv => whnf)
    (try simp only [Nat.zero_add, tn0, tn1, tn2, tn3])
    repeat ((first | refine V.s1 ?_); (try simp only [Nat.zero_add, tn0, tn1, tn2, tn3]))
    refine ⟨(.take 0 (.take 1 (.take 2 (.take 3 (.take 4 (.take 5 (.take 6 (.take 7 (.take 8 (.take 9 (.take 10 (.take 11 (.take 12 (.ev (.cons 13 [3, 2, 1, 0] (.take 14 (.done)) (.nil)))))))))))))))), ⟨by kernel_rfl, by kernel_rfl, by kernel_rfl⟩, ?_⟩
    refine drw_meet [(146, .bool false)] [] ?_ ?_
    · (conv => whnf); (try simp only [zU34_0])
      repeat' (first | exact V.wk | ((first | refine V.s1 ?_ | ((with_reducible refine recheck_and ?_ ?_); (focus ((conv => whnf); (try simp only [zU34_0]); (repeat (refine V.s1 ?_; (try simp only [zU34_0]))); exact ⟨rfl⟩)); (conv => whnf)) | ((try ((with_reducible refine .ext ?_); (conv => whnf); (try simp only [zU34_0]))); (with_reducible refine call_intro (r := ?_) ?_ ?_); rotate_left; (focus (first | exact (o1))); (conv => whnf))); (try simp only [zU34_0])) | (refine And.intro ?_ ?_ <;> (conv => whnf); (try simp only [zU34_0])))
    (conv => whnf)
    (try simp only [Nat.zero_add])
    repeat ((first | refine V.s1 ?_); (try simp only [Nat.zero_add]))
    exact ⟨2, by omega, by omega, V.wk⟩
  · simp only [k2]
    (conv => whnf)
    (try simp only [Nat.zero_add, tn0, tn1, tn2, tn3])
    repeat ((first | refine V.s1 ?_); (try simp only [Nat.zero_add, tn0, tn1, tn2, tn3]))
    refine ⟨(.take 0 (.take 1 (.take 2 (.take 3 (.take 4 (.take 5 (.take 6 (.take 7 (.take 8 (.take 9 (.take 10 (.take 11 (.take 12 (.ev (.cons 13 [3, 2, 1, 0] (.take 14 (.done)) (.nil)))))))))))))))), ⟨by kernel_rfl, by kernel_rfl, by kernel_rfl⟩, ?_⟩
    refine drw_meet [(146, .bool false)] [] ?_ ?_
    · (conv => whnf); (try simp only [zU34_0])
      repeat' (first | exact V.wk | ((first | refine V.s1 ?_ | ((with_reducible refine recheck_and ?_ ?_); (focus ((conv => whnf); (try simp only [zU34_0]); (repeat (refine V.s1 ?_; (try simp only [zU34_0]))); exact ⟨rfl⟩)); (conv => whnf)) | ((try ((with_reducible refine .ext ?_); (conv => whnf); (try simp only [zU34_0]))); (with_reducible refine call_intro (r := ?_) ?_ ?_); rotate_left; (focus (first | exact (o2))); (conv => whnf))); (try simp only [zU34_0])) | (refine And.intro ?_ ?_ <;> (conv => whnf); (try simp only [zU34_0])))
    (conv => whnf)
    (try simp only [Nat.zero_add])
    repeat ((first | refine V.s1 ?_); (try simp only [Nat.zero_add]))
    exact ⟨3, by omega, by omega, V.wk⟩
  (conv => whnf)
  (try simp only [Nat.zero_add, k3])
  repeat ((first | refine V.s1 ?_); (try simp only [Nat.zero_add, k3]))
  clear hworks hgrid hloc hhds o0 o1 o2 hd0 hd1 hd2 hi0 hi1 hi2 hq3 hrn hBCc hx0 hx1 hx1' hx2 hm0 hm1 hm2 hp0 hq0 hr0 hlen hfin hN hBC hpl hn hn0 e0 e1 e2 hA0 hB0 hC0 ha hb hc h0 h1 h2 hy hp hq hr
  refine lp_any (0) (fun k => k ≤ 8) (fun k => 8 - k) (fun k => [(148, .int .i64 k), (19, .int .i64 (wnt A B C (x0, x1, x2) k))]) (fun k => []) ?_ ?_ ?_
  · exact V.wk
  · exact Nat.zero_le _
  intro z hz
  (conv => whnf)
  (try simp only [Nat.zero_add])
  repeat ((first | refine V.s1 ?_); (try simp only [Nat.zero_add]))
  refine Cnd.split (CondB.mk (fun hq => ?_) (fun hq => ?_))
  · have hk8 : z < 8 := by
      simp at hq
      omega
    obtain ⟨hb0, hb1, hb2, r0, r1, r2, hv⟩ := bts_tab z (List.mem_range.2 hk8)
    have hwk := hwb z (by omega)
    obtain ⟨W1, hW1⟩ : ∃ W, wnt A B C (x0, x1, x2) (z + 1) = W := ⟨_, rfl⟩
    have hws : W1 = wst A B C (x0, x1, x2) (bts z).1 (bts z).2.1 (bts z).2.2.1 (bts z).2.2.2 (wnt A B C (x0, x1, x2) z) := hW1.symm
    generalize (bts z).1 = b0 at *
    generalize (bts z).2.1 = b1 at *
    generalize (bts z).2.2.1 = b2 at *
    generalize (bts z).2.2.2 = v at *
    generalize wnt A B C (x0, x1, x2) z = W0 at *
    have hbn : ((IntKind.i64.bits : Nat) : Int) = 64 := rfl
    have hl0 : lwt b0 b1 b2 0 = 0 := rfl
    have hl1 : lwt b0 b1 b2 1 = 0 + b0 := rfl
    have hl2 : lwt b0 b1 b2 2 = 0 + b0 + b1 := rfl
    have hl3 : lwt b0 b1 b2 3 = b0 + b1 + b2 := by
      show 0 + b0 + b1 + b2 = _
      omega
    (conv => whnf)
    (try simp only [Nat.zero_add])
    repeat ((first | refine V.s1 ?_); (try simp only [Nat.zero_add]))
    refine lp_any (0) (fun k => k ≤ 3) (fun k => 3 - k) (fun k => [(151, .int .i64 k), (21, .bool (thr A B C (x0, x1, x2) b0 b1 b2 k)), (22, .int .i64 (lwt b0 b1 b2 k))]) (fun k => []) ?_ ?_ ?_
    · exact V.wk
    · exact Nat.zero_le _
    intro k hk
    have hk4 : k = 0 ∨ k = 1 ∨ k = 2 ∨ k = 3 := by omega
    rcases hk4 with e | e | e | e
    all_goals subst e
    · simp only [k0]
      (conv => whnf)
      (try simp only [zU34_0, hbn, hb0, hb1, hb2, hl0, hl1, hl2])
      repeat ((first | refine V.s1 ?_); (try simp only [zU34_0, hbn, hb0, hb1, hb2, hl0, hl1, hl2]))
      exact ⟨1, by omega, by omega, V.wk⟩
    · simp only [k1]
      (conv => whnf)
      (try simp only [zU34_0, hbn, hb0, hb1, hb2, hl0, hl1, hl2])
      repeat ((first | refine V.s1 ?_); (try simp only [zU34_0, hbn, hb0, hb1, hb2, hl0, hl1, hl2]))
      exact ⟨2, by omega, by omega, V.wk⟩
    · simp only [k2]
      (conv => whnf)
      (try simp only [zU34_0, hbn, hb0, hb1, hb2, hl0, hl1, hl2])
      repeat ((first | refine V.s1 ?_); (try simp only [zU34_0, hbn, hb0, hb1, hb2, hl0, hl1, hl2]))
      exact ⟨3, by omega, by omega, V.wk⟩
    (conv => whnf)
    (try simp only [Nat.zero_add, k3])
    repeat ((first | refine V.s1 ?_); (try simp only [Nat.zero_add, k3]))
    refine cnd_meet [(19, .int .i64 W1)] [] (CondB.mk (fun h => ?_) (fun h => ?_)) ?_
    · have hw : W1 = W0 := by
        rw [hws]
        unfold wst
        rw [if_neg (by simpa using h)]
      rw [hw]
      (conv => whnf)
      (try simp only [Nat.zero_add])
      repeat ((first | refine V.s1 ?_); (try simp only [Nat.zero_add]))
      exact V.wk
    · have hw : W1 = W0 + v := by
        rw [hws]
        unfold wst
        rw [if_pos (by simpa using h)]
      rw [hw]
      (conv => whnf)
      (try simp only [Nat.zero_add, hl3])
      repeat ((first | refine V.s1 ?_); (try simp only [Nat.zero_add, hl3]))
      refine Cnd.split (CondB.mk (fun h2 => ?_) (fun h2 => ?_))
      · have hv6 : v = 6 := by
          simp at h2
          rw [hv, if_pos h2]
        rw [hv6]
        (conv => whnf)
        (try simp only [Nat.zero_add])
        repeat ((first | refine V.s1 ?_); (try simp only [Nat.zero_add]))
        exact V.wk
      · have hv2 : v = 2 := by
          simp at h2
          rw [hv, if_neg (by omega)]
        rw [hv2]
        (conv => whnf)
        (try simp only [Nat.zero_add])
        repeat ((first | refine V.s1 ?_); (try simp only [Nat.zero_add]))
        exact V.wk
    (conv => whnf)
    (try simp only [Nat.zero_add])
    repeat ((first | refine V.s1 ?_); (try simp only [Nat.zero_add]))
    rw [← hW1]
    exact ⟨z + 1, by omega, by omega, V.wk⟩
  have hk8 : z = 8 := by
    simp at hq
    omega
  subst hk8
  (conv => whnf)
  (try simp only [Nat.zero_add])
  repeat ((first | refine V.s1 ?_); (try simp only [Nat.zero_add]))
  exact Fin.of rfl
end Go.Proofs.YtlcaefokcnohnaaDoor
end
