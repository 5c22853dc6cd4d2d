/- What some functions of the program answer at values that mean given lists, texts and numbers, each proved of the program's own code: part 2. Conditions: those that each theorem names. -/
import Derived.Test.YtlcaefokcnohnaaGreatDoorW9
import Derived.Test.YtlcaefokcnohnaaGreatDoorH1
set_option linter.unusedSimpArgs false
set_option linter.unusedVariables false
set_option maxHeartbeats 8000000
set_option maxRecDepth 100000
section
namespace Go.Proofs.YtlcaefokcnohnaaGreatDoor
open Go Go.V
def det3 (a0 a1 a2 b0 b1 b2 c0 c1 c2 : Int) : Int := a0 * (b1 * c2 - b2 * c1) - a1 * (b0 * c2 - b2 * c0) + a2 * (b0 * c1 - b1 * c0)
theorem det3_r (a0 a1 a2 b0 b1 b2 c0 c1 c2 : Int) : a0 * (b1 * c2 - b2 * c1) + a1 * (b2 * c0 - b0 * c2) + a2 * (b0 * c1 - b1 * c0) = det3 a0 a1 a2 b0 b1 b2 c0 c1 c2 := by
  unfold det3
  have e : a1 * (b2 * c0 - b0 * c2) = -(a1 * (b0 * c2 - b2 * c0)) := by rw [← Int.mul_neg, Int.neg_sub]
  omega
def Bd (M x : Int) : Prop := -M ≤ x ∧ x ≤ M
theorem bd_mul {M N x y : Int} (hx : Bd M x) (hy : Bd N y) (hM : 0 ≤ M) (hN : 0 ≤ N) : Bd (M * N) (x * y) := by
  unfold Bd at *
  have h1 : x.natAbs ≤ M.natAbs := by omega
  have h2 : y.natAbs ≤ N.natAbs := by omega
  have h3 := Nat.mul_le_mul h1 h2
  rw [← Int.natAbs_mul, ← Int.natAbs_mul] at h3
  have h4 := Int.mul_nonneg hM hN
  omega
theorem bd2 {x y : Int} (hx : Bd 65535 x) (hy : Bd 65535 y) : Bd 4294836225 (x * y) := bd_mul hx hy (by omega) (by omega)
theorem bd3 {x y : Int} (hx : Bd 65535 x) (hy : Bd 8589672450 y) : Bd 562924183961 (x * y) ∨ Bd 562924184010750 (x * y) := .inr (bd_mul hx hy (by omega) (by omega))
theorem det3_bd {a0 a1 a2 b0 b1 b2 c0 c1 c2 : Int} (ha : Bd 65535 a0 ∧ Bd 65535 a1 ∧ Bd 65535 a2) (hb : Bd 65535 b0 ∧ Bd 65535 b1 ∧ Bd 65535 b2) (hc : Bd 65535 c0 ∧ Bd 65535 c1 ∧ Bd 65535 c2) : Bd 1688772552032250 (det3 a0 a1 a2 b0 b1 b2 c0 c1 c2) := by
  have e1 := bd2 hb.2.1 hc.2.2
  have e2 := bd2 hb.2.2 hc.2.1
  have e3 := bd2 hb.1 hc.2.2
  have e4 := bd2 hb.2.2 hc.1
  have e5 := bd2 hb.1 hc.2.1
  have e6 := bd2 hb.2.1 hc.1
  have f1 := bd_mul (N := 8589672450) ha.1 (show Bd 8589672450 (b1 * c2 - b2 * c1) by unfold Bd at *; omega) (by omega) (by omega)
  have f2 := bd_mul (N := 8589672450) ha.2.1 (show Bd 8589672450 (b0 * c2 - b2 * c0) by unfold Bd at *; omega) (by omega) (by omega)
  have f3 := bd_mul (N := 8589672450) ha.2.2 (show Bd 8589672450 (b0 * c1 - b1 * c0) by unfold Bd at *; omega) (by omega) (by omega)
  unfold det3
  generalize a0 * (b1 * c2 - b2 * c1) = x at *
  generalize a1 * (b0 * c2 - b2 * c0) = y at *
  generalize a2 * (b0 * c1 - b1 * c0) = z at *
  unfold Bd at *
  omega
end Go.Proofs.YtlcaefokcnohnaaGreatDoor
end
section
namespace Go.Proofs.YtlcaefokcnohnaaGreatDoor
open Go Go.V
theorem num_parts {B C i j k o : Nat} (hj : j < B) (hk : k < C) (ho : o < 6) :
    (((i * B + j) * C + k) * 6 + o) % 6 = o ∧ (((i * B + j) * C + k) * 6 + o) / 6 / (B * C) = i ∧ (((i * B + j) * C + k) * 6 + o) / 6 / C % B = j ∧ (((i * B + j) * C + k) * 6 + o) / 6 % C = k := by
  have h6 : (((i * B + j) * C + k) * 6 + o) / 6 = (i * B + j) * C + k := by omega
  have hC : 0 < C := by omega
  have hB : 0 < B := by omega
  have e1 : ((i * B + j) * C + k) / C = i * B + j := by
    rw [Nat.mul_comm, Nat.mul_add_div hC, Nat.div_eq_of_lt hk, Nat.add_zero]
  rw [h6]
  refine ⟨by omega, ?_, ?_, ?_⟩
  · rw [Nat.mul_comm B C, ← Nat.div_div_eq_div_mul, e1, Nat.mul_comm, Nat.mul_add_div hB, Nat.div_eq_of_lt hj, Nat.add_zero]
  · rw [e1, Nat.mul_comm, Nat.mul_add_mod, Nat.mod_eq_of_lt hj]
  · rw [Nat.mul_comm, Nat.mul_add_mod, Nat.mod_eq_of_lt hk]
theorem num_lt {A B C i j k o : Nat} (hi : i < A) (hj : j < B) (hk : k < C) (ho : o < 6) : ((i * B + j) * C + k) * 6 + o < 6 * (A * B * C) := by
  have h1 : i * B + j + 1 ≤ A * B := by
    have := Nat.mul_le_mul_right B (show i + 1 ≤ A from hi)
    rw [Nat.add_mul] at this
    omega
  have h2 : (i * B + j) * C + k + 1 ≤ A * B * C := by
    have := Nat.mul_le_mul_right C h1
    rw [Nat.add_mul] at this
    omega
  omega
theorem num_of {A B C n : Nat} (h : n < 6 * (A * B * C)) : ∃ i j k o, i < A ∧ j < B ∧ k < C ∧ o < 6 ∧ n = ((i * B + j) * C + k) * 6 + o := by
  have hABC : n / 6 < A * B * C := by omega
  have hpos : 0 < A * B * C := by omega
  have hC : 0 < C := Nat.pos_of_mul_pos_left (a := A * B) hpos |> fun _ => by
    rcases Nat.eq_zero_or_pos C with e | e
    · rw [e, Nat.mul_zero] at hpos; omega
    · exact e
  have hB : 0 < B := by
    rcases Nat.eq_zero_or_pos B with e | e
    · rw [e, Nat.mul_zero, Nat.zero_mul] at hpos; omega
    · exact e
  refine ⟨n / 6 / C / B, n / 6 / C % B, n / 6 % C, n % 6, ?_, Nat.mod_lt _ hB, Nat.mod_lt _ hC, Nat.mod_lt _ (by omega), ?_⟩
  · rw [Nat.div_div_eq_div_mul, Nat.div_lt_iff_lt_mul (Nat.mul_pos hC hB), Nat.mul_comm C B, ← Nat.mul_assoc]
    exact hABC
  · have e1 : n / 6 / C / B * B + n / 6 / C % B = n / 6 / C := Nat.div_add_mod' _ _
    have e2 : n / 6 / C * C + n / 6 % C = n / 6 := Nat.div_add_mod' _ _
    rw [e1, e2]
    omega
end Go.Proofs.YtlcaefokcnohnaaGreatDoor
end
section
namespace Go.Proofs.YtlcaefokcnohnaaGreatDoor
open Go Go.V
abbrev V3 := Int × Int × Int
def sb (a b : V3) : V3 := (a.1 - b.1, a.2.1 - b.2.1, a.2.2 - b.2.2)
def dt (a b c : V3) : Int := det3 a.1 a.2.1 a.2.2 b.1 b.2.1 b.2.2 c.1 c.2.1 c.2.2
def Bd3 (M : Int) (a : V3) : Prop := Bd M a.1 ∧ Bd M a.2.1 ∧ Bd M a.2.2
theorem dt_bd {a b c : V3} (ha : Bd3 65535 a) (hb : Bd3 65535 b) (hc : Bd3 65535 c) : Bd 1688772552032250 (dt a b c) := det3_bd ha hb hc
def Vl (a : V3) : Prop := (0 ≤ a.1 ∧ a.1 ≤ 65535) ∧ (0 ≤ a.2.1 ∧ a.2.1 ≤ 65535) ∧ (0 ≤ a.2.2 ∧ a.2.2 ≤ 65535)
theorem sb_bd {a b : V3} (ha : Vl a) (hb : Vl b) : Bd3 65535 (sb a b) := by
  unfold Vl at *
  unfold Bd3 Bd sb
  dsimp only
  omega
def sg1 (w : Int) : Int := if w < 0 then -1 else 1
def hld (v0 v1 v2 v3 t : V3) : Option (Int × Int × Int × Int) :=
  let r1 := sb v1 v0
  let r2 := sb v2 v0
  let r3 := sb v3 v0
  let g := sb t v0
  let W := dt r1 r2 r3
  let s := sg1 W
  if W = 0 ∨ s * dt g r2 r3 < 0 ∨ s * dt r1 g r3 < 0 ∨ s * dt r1 r2 g < 0 ∨ W * s - s * dt g r2 r3 - s * dt r1 g r3 - s * dt r1 r2 g < 0 then none
  else some (s * dt g r2 r3, s * dt r1 g r3, s * dt r1 r2 g, W * s)
theorem hld_bd {v0 v1 v2 v3 t : V3} (h0 : Vl v0) (h1 : Vl v1) (h2 : Vl v2) (h3 : Vl v3) (ht : Vl t) {a b c d : Int} (h : hld v0 v1 v2 v3 t = some (a, b, c, d)) :
    (0 ≤ a ∧ a ≤ d) ∧ (0 ≤ b ∧ b ≤ d) ∧ (0 ≤ c ∧ c ≤ d) ∧ a + b + c ≤ d ∧ 0 < d ∧ d ≤ 1688772552032250 := by
  have hW := dt_bd (sb_bd h1 h0) (sb_bd h2 h0) (sb_bd h3 h0)
  unfold hld at h
  dsimp only at h
  split at h
  · cases h
  · rename_i hn
    simp only [Option.some.injEq, Prod.mk.injEq] at h
    obtain ⟨rfl, rfl, rfl, rfl⟩ := h
    generalize dt (sb v1 v0) (sb v2 v0) (sb v3 v0) = W at *
    have e : W * sg1 W = W.natAbs := by
      unfold sg1
      split <;> omega
    rw [e] at hn ⊢
    unfold Bd at hW
    omega
end Go.Proofs.YtlcaefokcnohnaaGreatDoor
end
section
namespace Go.Proofs.YtlcaefokcnohnaaGreatDoor
open Go Go.V
theorem Called.conv {P : Go.Program} {f : Nat} {ds ds' : List D} {r : D} (c : Called P f ds r) (H : ∀ h vs, DenL Env.dummy h ds' vs → DenL Env.dummy h ds vs) : Called P f ds' r := ⟨c.ent, fun h w vs ha hd => c.call h w vs ha (H h vs hd)⟩
theorem denL_ints {E : Env} {h : Pub} {k : IntKind} : ∀ {xs : List Int}, (∀ n ∈ xs, InR k n) → DenL E h (xs.map (D.int k)) (xs.map (Value.int k))
  | [], _ => by simp [DenL]
  | x :: xs, hx => by
    simp only [List.map_cons, DenL]
    exact ⟨_, _, rfl, ⟨rfl, hx x (by simp)⟩, denL_ints fun n hn => hx n (by simp [hn])⟩
theorem den_iarr {E : Env} {h : Pub} {k : IntKind} {xs : List Int} {v : Value} (H : Den E h (.iarr k xs) v) : Den E h (.agg (xs.map (D.int k))) v := by
  simp only [Den] at H ⊢
  obtain ⟨rfl, hx⟩ := H
  refine ⟨_, rfl, denL_ints hx, fun v hv => ?_⟩
  obtain ⟨n, _, rfl⟩ := List.mem_map.1 hv
  rfl
theorem denL_ints_inv {E : Env} {h : Pub} {k : IntKind} : ∀ {xs : List Int} {vs : List Value}, DenL E h (xs.map (D.int k)) vs → vs = xs.map (Value.int k) ∧ ∀ n ∈ xs, InR k n
  | [], vs, H => by simp only [List.map_nil, DenL] at H; subst H; exact ⟨rfl, fun n hn => by cases hn⟩
  | x :: xs, vs, H => by
    simp only [List.map_cons, DenL] at H
    obtain ⟨v, vs', rfl, h1, h2⟩ := H
    obtain ⟨rfl, h3⟩ := denL_ints_inv h2
    simp only [Den] at h1
    obtain ⟨rfl, h4⟩ := h1
    exact ⟨rfl, fun n hn => by
      rcases List.mem_cons.1 hn with e | e
      · rw [e]; exact h4
      · exact h3 n e⟩
theorem den_agg_iarr {E : Env} {h : Pub} {k : IntKind} {xs : List Int} {v : Value} (H : Den E h (.agg (xs.map (D.int k))) v) : Den E h (.iarr k xs) v := by
  simp only [Den] at H ⊢
  obtain ⟨vs, rfl, h1, _⟩ := H
  obtain ⟨rfl, h2⟩ := denL_ints_inv h1
  exact ⟨rfl, h2⟩
theorem Fin.iarr {k : IntKind} {xs : List Int} : Fin (.agg (xs.map (D.int k))) (.iarr k xs) := ⟨fun _ _ h => den_iarr h⟩
theorem Fin.agg_iarr {k : IntKind} {xs : List Int} : Fin (.iarr k xs) (.agg (xs.map (D.int k))) := ⟨fun _ _ h => den_agg_iarr h⟩
end Go.Proofs.YtlcaefokcnohnaaGreatDoor
end
section
namespace Go.Proofs.YtlcaefokcnohnaaGreatDoor
open Go Go.V
abbrev N3 := Nat × Nat × Nat
def ordA (o : Nat) : N3 := match o with
  | 0 => (0, 1, 2)
  | 1 => (0, 2, 1)
  | 2 => (1, 0, 2)
  | 3 => (1, 2, 0)
  | 4 => (2, 0, 1)
  | _ => (2, 1, 0)
def inc3 (x : N3) (d : Nat) : N3 := match d with
  | 0 => (x.1 + 1, x.2.1, x.2.2)
  | 1 => (x.1, x.2.1 + 1, x.2.2)
  | _ => (x.1, x.2.1, x.2.2 + 1)
def gv (data : List Int) (p : Nat) : V3 := (data.getD (3 * p) 0, data.getD (3 * p + 1) 0, data.getD (3 * p + 2) 0)
def plc (s1 s2 : Nat) (x : N3) : Nat := (x.1 * s1 + x.2.1) * s2 + x.2.2
def cnr (data : List Int) (s1 s2 : Nat) (x : N3) : V3 := gv data (plc s1 s2 x)
def hldX (data : List Int) (s1 s2 : Nat) (x o : N3) (t : V3) : Option (Int × Int × Int × Int) :=
  hld (cnr data s1 s2 x) (cnr data s1 s2 (inc3 x o.1)) (cnr data s1 s2 (inc3 (inc3 x o.1) o.2.1)) (cnr data s1 s2 (inc3 (inc3 (inc3 x o.1) o.2.1) o.2.2)) t
def cellN (s1 s2 n : Nat) : N3 := (n / 6 / ((s1 - 1) * (s2 - 1)), n / 6 / (s2 - 1) % (s1 - 1), n / 6 % (s2 - 1))
def hldN (data : List Int) (s1 s2 n : Nat) (t : V3) : Option (Int × Int × Int × Int) := hldX data s1 s2 (cellN s1 s2 n) (ordA (n % 6)) t
def cellsN (s0 s1 s2 : Nat) : Nat := (s0 - 1) * (s1 - 1) * (s2 - 1)
def fndN (data : List Int) (s0 s1 s2 : Nat) (t : V3) : Option Nat := (List.range (6 * cellsN s0 s1 s2)).find? fun n => (hldN data s1 s2 n t).isSome
def cntN (data : List Int) (s1 s2 m : Nat) (t : V3) : Nat := ((List.range m).filter fun n => (hldN data s1 s2 n t).isSome).length
theorem cellN_of {s1 s2 i j k o : Nat} (hj : j < s1 - 1) (hk : k < s2 - 1) (ho : o < 6) : cellN s1 s2 (((i * (s1 - 1) + j) * (s2 - 1) + k) * 6 + o) = (i, j, k) ∧ (((i * (s1 - 1) + j) * (s2 - 1) + k) * 6 + o) % 6 = o := by
  obtain ⟨h1, h2, h3, h4⟩ := num_parts (i := i) hj hk ho
  unfold cellN
  rw [h2, h3, h4]
  exact ⟨rfl, h1⟩
theorem fnd_none {data : List Int} {s0 s1 s2 : Nat} {t : V3} (h : ∀ n, n < 6 * cellsN s0 s1 s2 → hldN data s1 s2 n t = none) : fndN data s0 s1 s2 t = none := by
  unfold fndN
  rw [List.find?_eq_none]
  intro n hn
  rw [h n (List.mem_range.1 hn)]
  simp
theorem fnd_some {data : List Int} {s0 s1 s2 n : Nat} {t : V3} (h : ∀ m, m < n → hldN data s1 s2 m t = none) (hn : n < 6 * cellsN s0 s1 s2) {r : Int × Int × Int × Int} (hr : hldN data s1 s2 n t = some r) : fndN data s0 s1 s2 t = some n := by
  unfold fndN
  rw [List.find?_range_eq_some]
  refine ⟨by rw [hr]; rfl, by simpa using hn, fun j hj => by rw [h j hj]; rfl⟩
theorem cnt_succ (data : List Int) (s1 s2 m : Nat) (t : V3) : cntN data s1 s2 (m + 1) t = cntN data s1 s2 m t + (if (hldN data s1 s2 m t).isSome = true then 1 else 0) := by
  unfold cntN
  rw [List.range_succ, List.filter_append, List.length_append]
  congr 1
  simp only [List.filter_cons, List.filter_nil]
  split <;> rfl
theorem cnt_le (data : List Int) (s1 s2 m : Nat) (t : V3) : cntN data s1 s2 m t ≤ m := by
  unfold cntN
  have := List.length_filter_le (fun n => (hldN data s1 s2 n t).isSome) (List.range m)
  rw [List.length_range] at this
  exact this
theorem inc_lt {s0 s1 s2 : Nat} {x : N3} {d : Nat} : plc s1 s2 x ≤ plc s1 s2 (inc3 x d) := by
  unfold plc inc3
  split
  · dsimp only
    rw [Nat.add_mul (x.1), Nat.one_mul]
    have := Nat.mul_le_mul_right s2 (show x.1 * s1 + x.2.1 ≤ x.1 * s1 + s1 + x.2.1 by omega)
    omega
  · dsimp only
    have := Nat.mul_le_mul_right s2 (show x.1 * s1 + x.2.1 ≤ x.1 * s1 + (x.2.1 + 1) by omega)
    omega
  · dsimp only
    omega
theorem plc_lt {s0 s1 s2 : Nat} {x : N3} (h : x.1 < s0 ∧ x.2.1 < s1 ∧ x.2.2 < s2) : plc s1 s2 x < s0 * s1 * s2 := by
  unfold plc
  have h1 : x.1 * s1 + x.2.1 + 1 ≤ s0 * s1 := by
    have := Nat.mul_le_mul_right s1 (show x.1 + 1 ≤ s0 from h.1)
    rw [Nat.add_mul] at this
    omega
  have h2 := Nat.mul_le_mul_right s2 h1
  rw [Nat.add_mul] at h2
  omega
theorem gv_vl {data : List Int} (hd : ∀ v ∈ data, 0 ≤ v ∧ v ≤ 65535) (p : Nat) : Vl (gv data p) := by
  have key : ∀ i, 0 ≤ data.getD i 0 ∧ data.getD i 0 ≤ 65535 := fun i => by
    rw [List.getD_eq_getElem?_getD]
    cases h : data[i]? with
    | none => simp
    | some v => exact hd v (List.mem_of_getElem? h)
  exact ⟨key _, key _, key _⟩
end Go.Proofs.YtlcaefokcnohnaaGreatDoor
end
section
namespace Go.Proofs.YtlcaefokcnohnaaGreatDoor
open Go Go.V
theorem within_c (n l h : Int) : Called Tryz.prog 40 [.int .i64 n, .int .i64 l, .int .i64 h] (.bool (decide (l ≤ n) && decide (n ≤ h))) := by
  refine called_of_run tbOk 6 ⟨Tryz.func40, rfl, rfl, Nat.le_of_ble_eq_true rfl⟩ ?_
  (conv => whnf)
  refine V.st ?_
  exact Fin.same _
theorem rwithin_c (n l h : Int) : Called Tryz.prog 58 [.int .i64 n, .int .i64 l, .int .i64 h] (.bool (decide (l ≤ n) && decide (n ≤ h))) := by
  refine called_of_run tbOk 6 ⟨Tryz.func58, rfl, rfl, Nat.le_of_ble_eq_true rfl⟩ ?_
  (conv => whnf)
  refine V.st ?_
  exact Fin.same _
def prod (xs : List Int) : Int := xs.foldl (· * ·) 1
theorem prod_take_succ {xs : List Int} {k : Nat} {x : Int} (h : xs[k]? = some x) : prod (xs.take (k + 1)) = prod (xs.take k) * x := by
  rw [List.take_add_one, h]; simp [prod]
theorem product_c (xs : List Int) (hx : ∀ k, k ≤ xs.length → InR .i64 (prod (xs.take k))) (hl : xs.length ≤ 281474976710656) : Called Tryz.prog 41 [.ints .i64 xs] (.int .i64 (prod xs)) := by
  refine called_of_run tbOk 6 ⟨Tryz.func41, rfl, rfl, Nat.le_of_ble_eq_true rfl⟩ ?_
  (conv => whnf)
  refine lp_go (xs.length) (fun k => True) (fun k => [(3, .int .i64 (prod (xs.take k))), (8, .int .i64 k)]) (fun k => []) V.wk ?_ ?_
  · trivial
  intro k hk _
  (conv => whnf)
  refine V.st ?_
  refine Cnd.split (CondB.mk (fun h => ?_) (fun h => ?_))
  · simp only [decide_eq_true_eq] at h
    obtain ⟨x, hx1, ex⟩ := getx (xs := xs) (k := k) (by omega)
    have hp := prod_take_succ hx1
    have hr := hx (k + 1) (by omega)
    (conv => whnf)
    refine V.st ?_
    rw [ex, ← hp]
    refine V.st ?_
    exact ⟨k + 1, ⟨by omega, trivial⟩, by omega, V.wk⟩
  · simp only [decide_eq_false_iff_not] at h
    (conv => whnf)
    refine V.st ?_
    have : prod (xs.take k) = prod xs := by rw [List.take_of_length_le (by omega)]
    rw [this]
    exact Fin.same _
theorem points_c (xs : List Int) (hx : ∀ k, k ≤ xs.length → InR .i64 (prod (xs.take k))) (hl : xs.length ≤ 281474976710656) : Called Tryz.prog 28 [.ints .i64 xs] (.int .i64 (prod xs)) := by
  refine called_of_run tbOk 6 ⟨Tryz.func28, rfl, rfl, Nat.le_of_ble_eq_true rfl⟩ ?_
  (conv => whnf)
  refine lp_go (xs.length) (fun k => True) (fun k => [(3, .int .i64 (prod (xs.take k))), (4, .int .i64 k)]) (fun k => []) V.wk ?_ ?_
  · trivial
  intro k hk _
  (conv => whnf)
  refine V.st ?_
  refine Cnd.split (CondB.mk (fun h => ?_) (fun h => ?_))
  · simp only [decide_eq_true_eq] at h
    obtain ⟨x, hx1, ex⟩ := getx (xs := xs) (k := k) (by omega)
    have hp := prod_take_succ hx1
    have hr := hx (k + 1) (by omega)
    (conv => whnf)
    refine V.st ?_
    rw [ex, ← hp]
    refine V.st ?_
    exact ⟨k + 1, ⟨by omega, trivial⟩, by omega, V.wk⟩
  · simp only [decide_eq_false_iff_not] at h
    (conv => whnf)
    refine V.st ?_
    have : prod (xs.take k) = prod xs := by rw [List.take_of_length_le (by omega)]
    rw [this]
    exact Fin.same _
end Go.Proofs.YtlcaefokcnohnaaGreatDoor
end
section
namespace Go.Proofs.YtlcaefokcnohnaaGreatDoor
open Go Go.V
def gridD (size : List Int) (out : Int) (data : List Int) : D := .agg [.ints .i64 size, .int .i64 out, .ints .i64 data]
def okGrid (size : List Int) (out : Int) (data : List Int) : Bool :=
  decide (1 ≤ size.length ∧ size.length ≤ 4) && decide (1 ≤ out ∧ out ≤ 4) && size.all (fun n => decide (2 ≤ n ∧ n ≤ 9)) && decide ((data.length : Int) ≤ 4096 ∧ (data.length : Int) = prod size * out) && data.all fun v => decide (0 ≤ v ∧ v ≤ 65535)
theorem okGrid_size {size : List Int} {out : Int} {data : List Int} {k : Nat} {x : Int} (hx : size[k]? = some x) (h : ¬ (2 ≤ x ∧ x ≤ 9)) : okGrid size out data = false := by
  have hm : x ∈ size := List.mem_of_getElem? hx
  have : size.all (fun n => decide (2 ≤ n ∧ n ≤ 9)) = false := by
    rw [List.all_eq_false]; exact ⟨x, hm, by simpa using h⟩
  unfold okGrid; rw [this]; simp only [Bool.and_false, Bool.false_and]
theorem okGrid_data {size : List Int} {out : Int} {data : List Int} {k : Nat} {x : Int} (hx : data[k]? = some x) (h : ¬ (0 ≤ x ∧ x ≤ 65535)) : okGrid size out data = false := by
  have hm : x ∈ data := List.mem_of_getElem? hx
  have : data.all (fun v => decide (0 ≤ v ∧ v ≤ 65535)) = false := by
    rw [List.all_eq_false]; exact ⟨x, hm, by simpa using h⟩
  unfold okGrid; rw [this]; simp only [Bool.and_false, Bool.false_and]
theorem prod_bd {size : List Int} (hall : size.all (fun n => decide (2 ≤ n ∧ n ≤ 9)) = true) (k : Nat) : 0 ≤ prod (size.take k) ∧ (size.length ≤ 4 → prod (size.take k) ≤ 6561) ∧ (size.length ≤ 4 → InR .i64 (prod (size.take k))) := by
  have hb : ∀ l : List Int, (∀ n ∈ l, 2 ≤ n ∧ n ≤ 9) → ∀ a : Int, 0 ≤ a → 0 ≤ l.foldl (· * ·) a ∧ l.foldl (· * ·) a ≤ a * 9 ^ l.length := by
    intro l
    induction l with
    | nil => intro _ a ha; simp; exact ha
    | cons x l ih =>
      intro hl a ha
      have hx := hl x (by simp)
      have h1 : 0 ≤ a * x := Int.mul_nonneg ha (by omega)
      have h2 := ih (fun n hn => hl n (by simp [hn])) (a * x) h1
      refine ⟨h2.1, Int.le_trans h2.2 ?_⟩
      have h3 : a * x ≤ a * 9 := Int.mul_le_mul_of_nonneg_left hx.2 ha
      have h4 : a * x * 9 ^ l.length ≤ a * 9 * 9 ^ l.length := Int.mul_le_mul_of_nonneg_right h3 (Int.pow_nonneg (by omega))
      have h5 : a * 9 ^ (x :: l).length = a * 9 * 9 ^ l.length := by
        rw [List.length_cons, Int.pow_succ, Int.mul_comm _ 9, ← Int.mul_assoc]
      rw [h5]; exact h4
  simp only [List.all_eq_true, decide_eq_true_eq] at hall
  have h1 := hb (size.take k) (fun n hn => hall n (List.mem_of_mem_take hn)) 1 (by omega)
  have h2 : size.length ≤ 4 → prod (size.take k) ≤ 6561 := by
    intro h
    refine Int.le_trans h1.2 ?_
    have : (size.take k).length ≤ 4 := by simp; omega
    generalize (size.take k).length = m at this
    match m, this with
    | 0, _ => decide
    | 1, _ => decide
    | 2, _ => decide
    | 3, _ => decide
    | 4, _ => decide
    | m + 5, h => omega
  refine ⟨h1.1, h2, fun h => ?_⟩
  have h3 := h2 h
  have h4 := h1.1
  simp only [V.InR, lo, hi]
  simp only [prod] at *
  omega
theorem prodm_bd {size : List Int} {out : Int} (hall : size.all (fun n => decide (2 ≤ n ∧ n ≤ 9)) = true) (h1 : size.length ≤ 4) (h2 : 1 ≤ out ∧ out ≤ 4) : InR .i64 (prod size * out) := by
  have h3 := prod_bd hall size.length
  rw [List.take_length] at h3
  have h4 : prod size ≤ 6561 := h3.2.1 h1
  have h5 : 0 ≤ prod size * out := Int.mul_nonneg h3.1 (by omega)
  have h6 : prod size * out ≤ 6561 * 4 := Int.mul_le_mul h4 h2.2 (by omega) (by omega)
  simp only [V.InR, lo, hi]; omega
theorem check_c (size : List Int) (out : Int) (data : List Int) (hs : size.length ≤ 281474976710656) (hd : data.length ≤ 281474976710656) :
    Called Tryz.prog 30 [gridD size out data] (.int .i64 (if okGrid size out data then 0 else 100)) := by
  refine called_of_run tbOk 6 ⟨Tryz.func30, rfl, rfl, Nat.le_of_ble_eq_true rfl⟩ ?_
  (conv => whnf)
  refine V.st ?_
  repeat ((try ((with_reducible refine .ext ?_); (conv => whnf))); (with_reducible refine call_intro (r := ?_) ?_ ?_); rotate_left; (focus (first | exact (within_c _ _ _))); (conv => whnf); refine V.st ?_)
  refine Cnd.split (CondB.mk (fun h => ?_) (fun h => ?_))
  · (conv => whnf)
    refine V.st ?_
    refine Fin.of ?_
    have : okGrid size out data = false := by
      simp only [okGrid]
      simp at h
      simp
      omega
    rw [this]; rfl
  have h1 : 1 ≤ size.length ∧ size.length ≤ 4 ∧ 1 ≤ out ∧ out ≤ 4 := by
    simp at h; omega
  clear h
  (conv => whnf)
  refine V.st ?_
  refine lp_inv size.length (fun k => (size.take k).all (fun n => decide (2 ≤ n ∧ n ≤ 9)) = true) (fun k => [(1, .box 1 0), (19, .ints .i64 size), (20, .int .i64 size.length), (21, .int .i64 k)]) (fun _ => [(1, .box [.ints .i64 size, .int .i64 out, .ints .i64 data])]) ?_ rfl ?_
  · exact Wk.of ⟨rfl, rfl, rfl, rfl, trivial⟩ ⟨rfl, trivial⟩
  intro k hk hI
  (conv => whnf)
  refine V.st ?_
  refine Cnd.split (CondB.mk (fun h => ?_) (fun h => ?_))
  · simp only [decide_eq_true_eq] at h
    obtain ⟨x, hx1⟩ : ∃ x, size[k]? = some x := ⟨size[k], List.getElem?_eq_getElem (by omega)⟩
    have ex := V.getD_toNat size k x hx1
    (conv => whnf)
    refine V.st ?_
    repeat ((try ((with_reducible refine .ext ?_); (conv => whnf))); (with_reducible refine call_intro (r := ?_) ?_ ?_); rotate_left; (focus (first | exact (within_c _ _ _))); (conv => whnf); refine V.st ?_)
    rw [ex]
    refine Cnd.split (CondB.mk (fun h => ?_) (fun h => ?_))
    · (conv => whnf)
      refine V.st ?_
      refine Fin.of ?_
      rw [okGrid_size hx1 (by simp at h; omega)]; rfl
    · (conv => whnf)
      refine V.st ?_
      exact ⟨k + 1, ⟨by omega, by rw [List.take_add_one, List.all_append, hI, hx1]; simp at h ⊢; omega⟩, by omega, Wk.of ⟨rfl, rfl, rfl, rfl, trivial⟩ ⟨rfl, trivial⟩⟩
  · (conv => whnf)
    refine V.st ?_
    simp only [decide_eq_false_iff_not] at h
    have hall : size.all (fun n => decide (2 ≤ n ∧ n ≤ 9)) = true := by rw [← hI, List.take_of_length_le (by omega)]
    have hp := prod_bd hall
    have hm := prodm_bd hall h1.2.1 h1.2.2
    refine ⟨(.take 0 (.take 1 (.take 2 (.take 3 (.take 4 (.take 5 (.take 6 (.take 7 (.take 8 (.take 9 (.take 11 (.take 12 (.ev (.cons 10 [12, 11, 7, 6, 5] (.take 13 (.take 14 (.take 15 (.done)))) (.nil))))))))))))))), ⟨by kernel_rfl, by kernel_rfl, by kernel_rfl⟩, .go ?_⟩
    (conv => whnf)
    refine V.st ?_
    repeat ((try ((with_reducible refine .ext ?_); (conv => whnf))); (with_reducible refine call_intro (r := ?_) ?_ ?_); rotate_left; (focus (first | exact (product_c _ (fun k _ => (hp k).2.2 h1.2.1) hs))); (conv => whnf); refine V.st ?_)
    refine Cnd.split (CondB.mk (fun h => ?_) (fun h => ?_))
    · (conv => whnf)
      refine V.st ?_
      refine Fin.of ?_
      have : okGrid size out data = false := by
        unfold okGrid
        have : (decide ((data.length : Int) ≤ 4096 ∧ (data.length : Int) = prod size * out)) = false := by simp at h ⊢; omega
        rw [this]; simp
      rw [this]; rfl
    have h2 : (data.length : Int) ≤ 4096 ∧ (data.length : Int) = prod size * out := by simp at h; omega
    clear h
    (conv => whnf)
    refine V.st ?_
    refine lp_inv data.length (fun k => (data.take k).all (fun v => decide (0 ≤ v ∧ v ≤ 65535)) = true) (fun k => [(1, .box 1 0), (46, .ints .i64 data), (47, .int .i64 data.length), (48, .int .i64 k)]) (fun _ => [(1, .box [.ints .i64 size, .int .i64 out, .ints .i64 data])]) ?_ rfl ?_
    · exact Wk.of ⟨rfl, rfl, rfl, rfl, trivial⟩ ⟨rfl, trivial⟩
    intro k hk hI
    (conv => whnf)
    refine V.st ?_
    refine Cnd.split (CondB.mk (fun h => ?_) (fun h => ?_))
    · simp only [decide_eq_true_eq] at h
      obtain ⟨x, hx1⟩ : ∃ x, data[k]? = some x := ⟨data[k], List.getElem?_eq_getElem (by omega)⟩
      have ex := V.getD_toNat data k x hx1
      (conv => whnf)
      refine V.st ?_
      repeat ((try ((with_reducible refine .ext ?_); (conv => whnf))); (with_reducible refine call_intro (r := ?_) ?_ ?_); rotate_left; (focus (first | exact (within_c _ _ _))); (conv => whnf); refine V.st ?_)
      rw [ex]
      refine Cnd.split (CondB.mk (fun h => ?_) (fun h => ?_))
      · (conv => whnf)
        refine V.st ?_
        refine Fin.of ?_
        rw [okGrid_data hx1 (by simp at h; omega)]; rfl
      · (conv => whnf)
        refine V.st ?_
        exact ⟨k + 1, ⟨by omega, by rw [List.take_add_one, List.all_append, hI, hx1]; simp at h ⊢; omega⟩, by omega, Wk.of ⟨rfl, rfl, rfl, rfl, trivial⟩ ⟨rfl, trivial⟩⟩
    · (conv => whnf)
      refine V.st ?_
      simp only [decide_eq_false_iff_not] at h
      have hall2 : data.all (fun v => decide (0 ≤ v ∧ v ≤ 65535)) = true := by rw [← hI, List.take_of_length_le (by omega)]
      have : okGrid size out data = true := by
        unfold okGrid
        rw [hall, hall2]; simp; omega
      refine Fin.of ?_
      rw [this]; rfl
theorem right_c (size : List Int) (out : Int) (data : List Int) (hs : size.length ≤ 281474976710656) (hd : data.length ≤ 281474976710656) :
    Called Tryz.prog 44 [gridD size out data] (.bool (okGrid size out data)) := by
  refine called_of_run tbOk 6 ⟨Tryz.func44, rfl, rfl, Nat.le_of_ble_eq_true rfl⟩ ?_
  (conv => whnf)
  refine V.st ?_
  repeat ((try ((with_reducible refine .ext ?_); (conv => whnf))); (with_reducible refine call_intro (r := ?_) ?_ ?_); rotate_left; (focus (first | exact (rwithin_c _ _ _))); (conv => whnf); refine V.st ?_)
  refine Cnd.split (CondB.mk (fun h => ?_) (fun h => ?_))
  · (conv => whnf)
    refine V.st ?_
    refine Fin.of ?_
    have : okGrid size out data = false := by
      simp only [okGrid]
      simp at h
      simp
      omega
    rw [this]
  have h1 : 1 ≤ size.length ∧ size.length ≤ 4 ∧ 1 ≤ out ∧ out ≤ 4 := by
    simp at h; omega
  clear h
  (conv => whnf)
  refine V.st ?_
  refine lp_go (size.length) (fun k => (size.take k).all (fun n => decide (2 ≤ n ∧ n ≤ 9)) = true) (fun k => [(3, .int .i64 k)]) (fun k => []) V.wk ?_ ?_
  · rfl
  intro k hk hI
  (conv => whnf)
  refine V.st ?_
  refine Cnd.split (CondB.mk (fun h => ?_) (fun h => ?_))
  · simp only [decide_eq_true_eq] at h
    obtain ⟨x, hx1, ex⟩ := getx (xs := size) (k := k) (by omega)
    (conv => whnf)
    refine V.st ?_
    repeat ((try ((with_reducible refine .ext ?_); (conv => whnf))); (with_reducible refine call_intro (r := ?_) ?_ ?_); rotate_left; (focus (first | exact (rwithin_c _ _ _))); (conv => whnf); refine V.st ?_)
    rw [ex]
    refine Cnd.split (CondB.mk (fun h => ?_) (fun h => ?_))
    · (conv => whnf)
      refine V.st ?_
      refine Fin.of ?_
      rw [okGrid_size hx1 (by simp at h; omega)]
    · (conv => whnf)
      refine V.st ?_
      exact ⟨k + 1, ⟨by omega, (by rw [List.take_add_one, List.all_append, hI, hx1]; simp at h ⊢; omega)⟩, by omega, V.wk⟩
  · (conv => whnf)
    refine V.st ?_
    simp only [decide_eq_false_iff_not] at h
    have hall : size.all (fun n => decide (2 ≤ n ∧ n ≤ 9)) = true := by rw [← hI, List.take_of_length_le (by omega)]
    have hp := prod_bd hall
    have hm := prodm_bd hall h1.2.1 h1.2.2
    refine ⟨(.take 0 (.take 1 (.take 2 (.take 3 (.take 4 (.take 6 (.take 7 (.ev (.cons 5 [7, 6, 2, 1, 0] (.take 8 (.take 9 (.take 10 (.take 11 (.take 12 (.take 13 (.take 14 (.take 15 (.done))))))))) (.nil)))))))))), ⟨by kernel_rfl, by kernel_rfl, by kernel_rfl⟩, .go ?_⟩
    (conv => whnf)
    refine V.st ?_
    repeat ((try ((with_reducible refine .ext ?_); (conv => whnf))); (with_reducible refine call_intro (r := ?_) ?_ ?_); rotate_left; (focus (first | exact (points_c _ (fun k _ => (hp k).2.2 h1.2.1) hs))); (conv => whnf); refine V.st ?_)
    refine Cnd.split (CondB.mk (fun h => ?_) (fun h => ?_))
    · (conv => whnf)
      refine V.st ?_
      refine Fin.of ?_
      have : okGrid size out data = false := by
        unfold okGrid
        have : (decide ((data.length : Int) ≤ 4096 ∧ (data.length : Int) = prod size * out)) = false := by simp at h ⊢; omega
        rw [this]; simp
      rw [this]
    have h2 : (data.length : Int) ≤ 4096 ∧ (data.length : Int) = prod size * out := by simp at h; omega
    clear h
    (conv => whnf)
    refine V.st ?_
    refine lp_go (data.length) (fun k => (data.take k).all (fun v => decide (0 ≤ v ∧ v ≤ 65535)) = true) (fun k => [(4, .int .i64 k)]) (fun k => []) V.wk ?_ ?_
    · rfl
    intro k hk hI
    (conv => whnf)
    refine V.st ?_
    refine Cnd.split (CondB.mk (fun h => ?_) (fun h => ?_))
    · simp only [decide_eq_true_eq] at h
      obtain ⟨x, hx1, ex⟩ := getx (xs := data) (k := k) (by omega)
      (conv => whnf)
      refine V.st ?_
      repeat ((try ((with_reducible refine .ext ?_); (conv => whnf))); (with_reducible refine call_intro (r := ?_) ?_ ?_); rotate_left; (focus (first | exact (rwithin_c _ _ _))); (conv => whnf); refine V.st ?_)
      rw [ex]
      refine Cnd.split (CondB.mk (fun h => ?_) (fun h => ?_))
      · (conv => whnf)
        refine V.st ?_
        refine Fin.of ?_
        rw [okGrid_data hx1 (by simp at h; omega)]
      · (conv => whnf)
        refine V.st ?_
        exact ⟨k + 1, ⟨by omega, (by rw [List.take_add_one, List.all_append, hI, hx1]; simp at h ⊢; omega)⟩, by omega, V.wk⟩
    · (conv => whnf)
      refine V.st ?_
      simp only [decide_eq_false_iff_not] at h
      have hall2 : data.all (fun v => decide (0 ≤ v ∧ v ≤ 65535)) = true := by rw [← hI, List.take_of_length_le (by omega)]
      have : okGrid size out data = true := by
        unfold okGrid
        rw [hall, hall2]; simp; omega
      refine Fin.of ?_
      rw [this]
theorem rcheck_c (size : List Int) (out : Int) (data : List Int) (hs : size.length ≤ 281474976710656) (hd : data.length ≤ 281474976710656) :
    Called Tryz.prog 36 [gridD size out data] (.int .i64 (if okGrid size out data then 0 else 100)) := by
  refine called_of_run tbOk 6 ⟨Tryz.func36, rfl, rfl, Nat.le_of_ble_eq_true rfl⟩ ?_
  (conv => whnf)
  refine V.st ?_
  repeat ((try ((with_reducible refine .ext ?_); (conv => whnf))); (with_reducible refine call_intro (r := ?_) ?_ ?_); rotate_left; (focus (first | exact (right_c _ _ _ hs hd))); (conv => whnf); refine V.st ?_)
  refine Cnd.split (CondB.mk (fun h => ?_) (fun h => ?_))
  · (conv => whnf)
    exact Fin.of (by rw [h]; rfl)
  · (conv => whnf)
    exact Fin.of (by rw [h]; rfl)
end Go.Proofs.YtlcaefokcnohnaaGreatDoor
end
section
namespace Go.Proofs.YtlcaefokcnohnaaGreatDoor
open Go Go.V
theorem g3_0 (a b c : Int) : [a, b, c].getD 0 0 = a := rfl
theorem g3_1 (a b c : Int) : [a, b, c].getD 1 0 = b := rfl
theorem g3_2 (a b c : Int) : [a, b, c].getD 2 0 = c := rfl
theorem i3_0 (a b c : Int) : [a, b, c].getD (0 : Int).toNat 0 = a := rfl
theorem i3_1 (a b c : Int) : [a, b, c].getD (1 : Int).toNat 0 = b := rfl
theorem i3_2 (a b c : Int) : [a, b, c].getD (2 : Int).toNat 0 = c := rfl
def v3D (a : V3) : D := .agg [.int .i64 a.1, .int .i64 a.2.1, .int .i64 a.2.2]
def v3I (a : V3) : D := .iarr .i64 [a.1, a.2.1, a.2.2]
theorem v3_IA {E : Env} {h : Pub} {a : V3} {v : Value} (H : Den E h (v3I a) v) : Den E h (v3D a) v := den_iarr H
theorem v3_AI {E : Env} {h : Pub} {a : V3} {v : Value} (H : Den E h (v3D a) v) : Den E h (v3I a) v := den_agg_iarr (xs := [a.1, a.2.1, a.2.2]) H
theorem zU6_0 : type_of% @Nat.zero_add ∧ type_of% @g3_0 ∧ type_of% @g3_1 ∧ type_of% @g3_2 ∧ type_of% @i3_0 ∧ type_of% @i3_1 ∧ type_of% @i3_2 := ⟨@Nat.zero_add, @g3_0, @g3_1, @g3_2, @i3_0, @i3_1, @i3_2⟩
def Is3 (d : D) (a : V3) : Prop := d = v3D a ∨ d = v3I a
theorem Is3.mkD {a : V3} : Is3 (v3D a) a := .inl rfl
theorem Is3.mkI {a : V3} : Is3 (v3I a) a := .inr rfl
theorem Is3.agg {a b c : Int} : Is3 (.agg [.int .i64 a, .int .i64 b, .int .i64 c]) (a, b, c) := .inl rfl
theorem Is3.iarr {a b c : Int} : Is3 (.iarr .i64 [a, b, c]) (a, b, c) := .inr rfl
theorem Is3.den {E : Env} {h : Pub} {d : D} {a : V3} {v : Value} (H : Is3 d a) (K : Den E h d v) : Den E h (v3D a) v := by
  rcases H with e | e
  · rw [e] at K; exact K
  · rw [e] at K; exact v3_IA K
theorem rminus_0 (a b : V3) (ha : Vl a) (hb : Vl b) : Called Tryz.prog 46 [v3D a, v3D b] (v3I (sb a b)) := by
  obtain ⟨a0, a1, a2⟩ := a
  obtain ⟨b0, b1, b2⟩ := b
  unfold Vl at ha hb
  dsimp only at ha hb
  unfold v3D v3I sb
  dsimp only
  refine called_of_run tbOk 6 ⟨Tryz.func46, rfl, rfl, Nat.le_of_ble_eq_true rfl⟩ ?_
  (conv => whnf)
  (conv => whnf)
  (try simp only [zU6_0])
  repeat ((first | refine V.s1 ?_); (try simp only [zU6_0]))
  exact Fin.of rfl
theorem rminus_c {a b : V3} {da db : D} (ia : Is3 da a) (ib : Is3 db b) (ha : Vl a) (hb : Vl b) : Called Tryz.prog 46 [da, db] (v3I (sb a b)) :=
  Called.conv (rminus_0 a b ha hb) fun h vs H => by
    simp only [DenL] at H ⊢
    obtain ⟨v, r, e, h1, v2, r2, e2, h2, e3⟩ := H
    exact ⟨v, r, e, ia.den h1, v2, r2, e2, ib.den h2, e3⟩
theorem rdet_0 (a b c : V3) (ha : Bd3 65535 a) (hb : Bd3 65535 b) (hc : Bd3 65535 c) : Called Tryz.prog 47 [v3D a, v3D b, v3D c] (.int .i64 (dt a b c)) := by
  obtain ⟨a0, a1, a2⟩ := a
  obtain ⟨b0, b1, b2⟩ := b
  obtain ⟨c0, c1, c2⟩ := c
  unfold Bd3 at ha hb hc
  dsimp only at ha hb hc
  have e1 := bd2 hb.2.1 hc.2.2
  have e2 := bd2 hb.2.2 hc.2.1
  have e3 := bd2 hb.2.2 hc.1
  have e4 := bd2 hb.1 hc.2.2
  have e5 := bd2 hb.1 hc.2.1
  have e6 := bd2 hb.2.1 hc.1
  have f1 := bd_mul (N := 8589672450) ha.1 (show Bd 8589672450 (b1 * c2 - b2 * c1) by unfold Bd at *; omega) (by omega) (by omega)
  have f2 := bd_mul (N := 8589672450) ha.2.1 (show Bd 8589672450 (b2 * c0 - b0 * c2) by unfold Bd at *; omega) (by omega) (by omega)
  have f3 := bd_mul (N := 8589672450) ha.2.2 (show Bd 8589672450 (b0 * c1 - b1 * c0) by unfold Bd at *; omega) (by omega) (by omega)
  have hr := det3_r a0 a1 a2 b0 b1 b2 c0 c1 c2
  unfold dt
  dsimp only
  rw [← hr]
  clear hr
  unfold Bd at ha hb hc e1 e2 e3 e4 e5 e6 f1 f2 f3
  unfold v3D
  dsimp only
  refine called_of_run tbOk 6 ⟨Tryz.func47, rfl, rfl, Nat.le_of_ble_eq_true rfl⟩ ?_
  (conv => whnf)
  (conv => whnf)
  (try simp only [zU6_0])
  repeat ((first | refine V.s1 ?_); (try simp only [zU6_0]))
  exact Fin.of rfl
theorem rdet_c {a b c : V3} {da db dc : D} (ia : Is3 da a) (ib : Is3 db b) (ic : Is3 dc c) (ha : Bd3 65535 a) (hb : Bd3 65535 b) (hc : Bd3 65535 c) : Called Tryz.prog 47 [da, db, dc] (.int .i64 (dt a b c)) :=
  Called.conv (rdet_0 a b c ha hb hc) fun h vs H => by
    simp only [DenL] at H ⊢
    obtain ⟨v, r, e, h1, v2, r2, e2, h2, v3, r3, e3, h3, e4⟩ := H
    exact ⟨v, r, e, ia.den h1, v2, r2, e2, ib.den h2, v3, r3, e3, ic.den h3, e4⟩
def sz3 (s0 s1 s2 : Nat) : List Int := [(s0 : Int), (s1 : Int), (s2 : Int)]
theorem sz3_0 (s0 s1 s2 : Nat) : (sz3 s0 s1 s2).getD (0 : Int).toNat 0 = s0 := rfl
theorem sz3_1 (s0 s1 s2 : Nat) : (sz3 s0 s1 s2).getD (1 : Int).toNat 0 = s1 := rfl
theorem sz3_2 (s0 s1 s2 : Nat) : (sz3 s0 s1 s2).getD (2 : Int).toNat 0 = s2 := rfl
theorem sz3_len (s0 s1 s2 : Nat) : (sz3 s0 s1 s2).length = 3 := rfl
structure Cu (s0 s1 s2 : Nat) (data : List Int) : Prop where
  h0 : 2 ≤ s0 ∧ s0 ≤ 9
  h1 : 2 ≤ s1 ∧ s1 ≤ 9
  h2 : 2 ≤ s2 ∧ s2 ≤ 9
  hl : data.length = 3 * (s0 * s1 * s2)
  hd : ∀ v ∈ data, 0 ≤ v ∧ v ≤ 65535
def n3I (x : N3) : D := .iarr .i64 [(x.1 : Int), (x.2.1 : Int), (x.2.2 : Int)]
def n3D (x : N3) : D := .agg [.int .i64 (x.1 : Int), .int .i64 (x.2.1 : Int), .int .i64 (x.2.2 : Int)]
theorem plc_cast (s1 s2 : Nat) (x : N3) : ((x.1 : Int) * s1 + x.2.1) * s2 + x.2.2 = ((plc s1 s2 x : Nat) : Int) := by
  unfold plc; simp only [Int.natCast_add, Int.natCast_mul]
theorem plc_facts {s0 s1 s2 : Nat} {data : List Int} (C : Cu s0 s1 s2 data) {x : N3} (hx : x.1 < s0 ∧ x.2.1 < s1 ∧ x.2.2 < s2) : (0 ≤ (x.1 : Int) * s1 ∧ (x.1 : Int) * s1 ≤ 81) ∧ (0 ≤ ((x.1 : Int) * s1 + x.2.1) * s2 ∧ ((x.1 : Int) * s1 + x.2.1) * s2 ≤ 810) ∧ 3 * plc s1 s2 x + 2 < data.length ∧ plc s1 s2 x ≤ 819 := by
  have h0 := C.h0
  have h1 := C.h1
  have h2 := C.h2
  have a1 : x.1 * s1 ≤ 9 * 9 := Nat.mul_le_mul (by omega) (by omega)
  have a2 : (x.1 * s1 + x.2.1) * s2 ≤ 90 * 9 := Nat.mul_le_mul (by omega) (by omega)
  have hp := plc_lt hx
  have e1 : (x.1 : Int) * s1 = ((x.1 * s1 : Nat) : Int) := by simp
  have e2 : ((x.1 : Int) * s1 + x.2.1) * s2 = (((x.1 * s1 + x.2.1) * s2 : Nat) : Int) := by simp
  rw [e2, e1, C.hl]
  refine ⟨by omega, by omega, by omega, ?_⟩
  unfold plc
  omega
theorem rvalue_c {s0 s1 s2 : Nat} {data : List Int} (C : Cu s0 s1 s2 data) {x : N3} (hx : x.1 < s0 ∧ x.2.1 < s1 ∧ x.2.2 < s2) :
    Called Tryz.prog 45 [gridD (sz3 s0 s1 s2) 3 data, n3I x] (v3I (cnr data s1 s2 x)) := by
  obtain ⟨f1, f2, f3, f4⟩ := plc_facts C hx
  have e := plc_cast s1 s2 x
  have h0 := C.h0
  have h1 := C.h1
  have h2 := C.h2
  have z0 := sz3_0 s0 s1 s2
  have z1 := sz3_1 s0 s1 s2
  have z2 := sz3_2 s0 s1 s2
  have zl := sz3_len s0 s1 s2
  obtain ⟨x0, x1, x2⟩ := x
  dsimp only at hx f1 f2 f3 f4 e
  have y0 : [(x0 : Int), x1, x2].getD (0 : Int).toNat 0 = x0 := rfl
  have y1 : [(x0 : Int), x1, x2].getD (1 : Int).toNat 0 = x1 := rfl
  have y2 : [(x0 : Int), x1, x2].getD (2 : Int).toNat 0 = x2 := rfl
  unfold v3I cnr gv gridD n3I
  dsimp only
  generalize plc s1 s2 (x0, x1, x2) = p at *
  generalize sz3 s0 s1 s2 = sz at *
  have t0 : (3 * (p : Int)).toNat = 3 * p := by omega
  have t1 : (3 * (p : Int) + 1).toNat = 3 * p + 1 := by omega
  have t2 : (3 * (p : Int) + 2).toNat = 3 * p + 2 := by omega
  refine called_of_run tbOk 6 ⟨Tryz.func45, rfl, rfl, Nat.le_of_ble_eq_true rfl⟩ ?_
  (conv => whnf)
  (conv => whnf)
  (try simp only [z0, z1, z2, y0, y1, y2, e, t0, t1, t2])
  repeat ((first | refine V.s1 ?_); (try simp only [z0, z1, z2, y0, y1, y2, e, t0, t1, t2]))
  refine ⟨(.take 0 (.take 1 (.take 2 (.take 3 (.take 4 (.take 5 (.take 6 (.take 7 (.take 8 (.take 9 (.take 10 (.take 11 (.take 12 (.take 13 (.take 14 (.take 15 (.take 16 (.take 17 (.take 18 (.take 19 (.done))))))))))))))))))))), ⟨by kernel_rfl, by kernel_rfl, by kernel_rfl⟩, .go ?_⟩
  (conv => whnf)
  (try simp only [zU6_0, z0, z1, z2, y0, y1, y2, e, t0, t1, t2])
  repeat ((first | refine V.s1 ?_); (try simp only [zU6_0, z0, z1, z2, y0, y1, y2, e, t0, t1, t2]))
  refine ⟨(.take 0 (.take 1 (.take 2 (.take 3 (.take 4 (.take 5 (.take 6 (.take 7 (.take 8 (.take 9 (.take 10 (.take 11 (.take 12 (.take 13 (.take 14 (.take 15 (.take 16 (.take 17 (.ev (.cons 18 [] (.done) (.nil))))))))))))))))))))), ⟨by kernel_rfl, by kernel_rfl, by kernel_rfl⟩, .go ?_⟩
  (conv => whnf)
  (try simp only [zU6_0, z0, z1, z2, y0, y1, y2, e, t0, t1, t2])
  repeat ((first | refine V.s1 ?_); (try simp only [zU6_0, z0, z1, z2, y0, y1, y2, e, t0, t1, t2]))
  exact Fin.of rfl
theorem rcell_c {s0 s1 s2 : Nat} {data : List Int} (C : Cu s0 s1 s2 data) (n : Nat) (hn : n ≤ 10000) :
    Called Tryz.prog 22 [gridD (sz3 s0 s1 s2) 3 data, .int .i64 (n : Int)] (n3I (n / ((s1 - 1) * (s2 - 1)), n / (s2 - 1) % (s1 - 1), n % (s2 - 1))) := by
  have h0 := C.h0
  have h1 := C.h1
  have h2 := C.h2
  have z1 := sz3_1 s0 s1 s2
  have z2 := sz3_2 s0 s1 s2
  have zl := sz3_len s0 s1 s2
  obtain ⟨b, hb⟩ : ∃ b, b = s1 - 1 := ⟨_, rfl⟩
  obtain ⟨c, hc⟩ : ∃ c, c = s2 - 1 := ⟨_, rfl⟩
  have e1 : (s1 : Int) - 1 = (b : Int) := by omega
  have e2 : (s2 : Int) - 1 = (c : Int) := by omega
  rw [← hb, ← hc]
  have hbc : 1 * 1 ≤ b * c := Nat.mul_le_mul (by omega) (by omega)
  have hbc2 : b * c ≤ 8 * 8 := Nat.mul_le_mul (by omega) (by omega)
  have e3 : (b : Int) * (c : Int) = ((b * c : Nat) : Int) := by simp
  have q1 : (n : Int) / ((b * c : Nat) : Int) = ((n / (b * c) : Nat) : Int) := by simp
  have q2 : (n : Int) / (c : Int) = ((n / c : Nat) : Int) := by simp
  have q3 : ((n / c : Nat) : Int) % (b : Int) = ((n / c % b : Nat) : Int) := by simp
  have q5 : ((n / c : Nat) : Int).tmod (b : Int) = ((n / c % b : Nat) : Int) := by rw [Int.ofNat_tmod]
  have q6 : (n : Int).tmod (c : Int) = ((n % c : Nat) : Int) := by rw [Int.ofNat_tmod]
  have q4 : (n : Int) % (c : Int) = ((n % c : Nat) : Int) := by simp
  unfold gridD n3I
  dsimp only
  generalize sz3 s0 s1 s2 = sz at *
  refine called_of_run tbOk 6 ⟨Tryz.func22, rfl, rfl, Nat.le_of_ble_eq_true rfl⟩ ?_
  (conv => whnf)
  (conv => whnf)
  (try simp only [z1, z2, e1, e2, e3, q1, q2, q3, q4, q5, q6])
  repeat ((first | refine V.s1 ?_); (try simp only [z1, z2, e1, e2, e3, q1, q2, q3, q4, q5, q6]))
  refine ⟨(.take 0 (.take 1 (.take 2 (.take 3 (.take 4 (.take 5 (.take 6 (.take 7 (.take 8 (.take 9 (.take 10 (.take 11 (.done))))))))))))), ⟨by kernel_rfl, by kernel_rfl, by kernel_rfl⟩, .go ?_⟩
  (conv => whnf)
  (try simp only [z1, z2, e1, e2, e3, q1, q2, q3, q4, q5, q6])
  repeat ((first | refine V.s1 ?_); (try simp only [z1, z2, e1, e2, e3, q1, q2, q3, q4, q5, q6]))
  refine ⟨(.take 0 (.take 1 (.take 2 (.take 3 (.take 4 (.take 5 (.take 6 (.take 7 (.take 8 (.take 9 (.take 10 (.take 11 (.take 12 (.take 13 (.ev (.cons 14 [] (.done) (.nil))))))))))))))))), ⟨by kernel_rfl, by kernel_rfl, by kernel_rfl⟩, .go ?_⟩
  (conv => whnf)
  (try simp only [z1, z2, e1, e2, e3, q1, q2, q3, q4, q5, q6])
  repeat ((first | refine V.s1 ?_); (try simp only [z1, z2, e1, e2, e3, q1, q2, q3, q4, q5, q6]))
  exact Fin.of rfl
theorem rcells_c {s0 s1 s2 : Nat} {data : List Int} (C : Cu s0 s1 s2 data) : Called Tryz.prog 20 [gridD (sz3 s0 s1 s2) 3 data] (.int .i64 (cellsN s0 s1 s2 : Int)) := by
  have h0 := C.h0
  have h1 := C.h1
  have h2 := C.h2
  have z0 := sz3_0 s0 s1 s2
  have z1 := sz3_1 s0 s1 s2
  have z2 := sz3_2 s0 s1 s2
  have zl := sz3_len s0 s1 s2
  unfold cellsN
  obtain ⟨a, ha⟩ : ∃ a, a = s0 - 1 := ⟨_, rfl⟩
  obtain ⟨b, hb⟩ : ∃ b, b = s1 - 1 := ⟨_, rfl⟩
  obtain ⟨c, hc⟩ : ∃ c, c = s2 - 1 := ⟨_, rfl⟩
  have e0 : (s0 : Int) - 1 = (a : Int) := by omega
  have e1 : (s1 : Int) - 1 = (b : Int) := by omega
  have e2 : (s2 : Int) - 1 = (c : Int) := by omega
  rw [← ha, ← hb, ← hc]
  have m1 : a * b ≤ 8 * 8 := Nat.mul_le_mul (by omega) (by omega)
  have m2 : a * b * c ≤ 64 * 8 := Nat.mul_le_mul (by omega) (by omega)
  have e3 : (a : Int) * (b : Int) = ((a * b : Nat) : Int) := by simp
  have e4 : ((a * b : Nat) : Int) * (c : Int) = ((a * b * c : Nat) : Int) := by simp
  unfold gridD
  generalize sz3 s0 s1 s2 = sz at *
  refine called_of_run tbOk 6 ⟨Tryz.func20, rfl, rfl, Nat.le_of_ble_eq_true rfl⟩ ?_
  (conv => whnf)
  (conv => whnf)
  (try simp only [z0, z1, z2, e0, e1, e2, e3, e4])
  repeat ((first | refine V.s1 ?_); (try simp only [z0, z1, z2, e0, e1, e2, e3, e4]))
  refine ⟨(.take 0 (.take 1 (.take 2 (.take 3 (.take 4 (.take 5 (.take 6 (.take 7 (.take 8 (.take 9 (.take 10 (.take 11 (.take 12 (.take 13 (.take 14 (.take 15 (.take 16 (.take 17 (.done))))))))))))))))))), ⟨by kernel_rfl, by kernel_rfl, by kernel_rfl⟩, .go ?_⟩
  (conv => whnf)
  (try simp only [z0, z1, z2, e0, e1, e2, e3, e4])
  repeat ((first | refine V.s1 ?_); (try simp only [z0, z1, z2, e0, e1, e2, e3, e4]))
  exact Fin.of rfl
end Go.Proofs.YtlcaefokcnohnaaGreatDoor
end
section
namespace Go.Proofs.YtlcaefokcnohnaaGreatDoor
open Go Go.V
theorem rorders_c : Called Tryz.prog 23 [] (.agg ([0, 1, 2, 0, 2, 1, 1, 0, 2, 1, 2, 0, 2, 0, 1, 2, 1, 0].map (D.int .i64))) := by
  refine called_of_run tbOk 6 ⟨Tryz.func23, rfl, rfl, Nat.le_of_ble_eq_true rfl⟩ ?_
  (conv => whnf)
  refine V.st ?_
  exact Fin.of rfl
theorem cell_in {s0 s1 s2 n : Nat} (h : n < 6 * cellsN s0 s1 s2) (h0 : 2 ≤ s0) (h1 : 2 ≤ s1) (h2 : 2 ≤ s2) : (cellN s1 s2 n).1 + 1 < s0 ∧ (cellN s1 s2 n).2.1 + 1 < s1 ∧ (cellN s1 s2 n).2.2 + 1 < s2 := by
  obtain ⟨i, j, k, o, hi, hj, hk, ho, rfl⟩ := num_of h
  rw [(cellN_of hj hk ho).1]
  dsimp only
  omega
theorem inc3_in {s0 s1 s2 : Nat} {x : N3} {d : Nat} (h : x.1 + 1 < s0 ∧ x.2.1 + 1 < s1 ∧ x.2.2 + 1 < s2) : (inc3 x d).1 < s0 ∧ (inc3 x d).2.1 < s1 ∧ (inc3 x d).2.2 < s2 := by
  unfold inc3
  split <;> (dsimp only; omega)
theorem k0 : ((0 : Nat) : Int) = 0 := rfl
theorem k1 : ((1 : Nat) : Int) = 1 := rfl
theorem k2 : ((2 : Nat) : Int) = 2 := rfl
theorem k3 : ((3 : Nat) : Int) = 3 := rfl
theorem tn0 : (0 : Int).toNat = 0 := rfl
theorem tn1 : (1 : Int).toNat = 1 := rfl
theorem tn2 : (2 : Int).toNat = 2 := rfl
def stX (x o : N3) : Nat → N3
  | 0 => x
  | 1 => inc3 x o.1
  | 2 => inc3 (inc3 x o.1) o.2.1
  | _ => inc3 (inc3 (inc3 x o.1) o.2.1) o.2.2
theorem stX_in {s0 s1 s2 o : Nat} {x : N3} (h : x.1 + 1 < s0 ∧ x.2.1 + 1 < s1 ∧ x.2.2 + 1 < s2) (ho : o < 6) (k : Nat) : (stX x (ordA o) k).1 < s0 ∧ (stX x (ordA o) k).2.1 < s1 ∧ (stX x (ordA o) k).2.2 < s2 := by
  have h6 : o = 0 ∨ o = 1 ∨ o = 2 ∨ o = 3 ∨ o = 4 ∨ o = 5 := by omega
  match k with
  | 0 => show x.1 < s0 ∧ x.2.1 < s1 ∧ x.2.2 < s2; omega
  | 1 => rcases h6 with e | e | e | e | e | e <;> subst e <;> (simp only [stX, ordA, inc3]; omega)
  | 2 => rcases h6 with e | e | e | e | e | e <;> subst e <;> (simp only [stX, ordA, inc3]; omega)
  | k + 3 => rcases h6 with e | e | e | e | e | e <;> subst e <;> (simp only [stX, ordA, inc3]; omega)
def n3L (x : N3) : List Int := [(x.1 : Int), (x.2.1 : Int), (x.2.2 : Int)]
def rowD (a : V3) : List D := [.int .i64 a.1, .int .i64 a.2.1, .int .i64 a.2.2]
def zD : List D := [.int .i64 0, .int .i64 0, .int .i64 0]
def stD (r : Nat → V3) : Nat → List D
  | 0 => zD ++ zD ++ zD
  | 1 => rowD (r 1) ++ zD ++ zD
  | 2 => rowD (r 1) ++ rowD (r 2) ++ zD
  | _ => rowD (r 1) ++ rowD (r 2) ++ rowD (r 3)
theorem n3L_0 (x : N3) : (n3L x).getD 0 0 = x.1 := rfl
theorem n3L_1 (x : N3) : (n3L x).getD 1 0 = x.2.1 := rfl
theorem n3L_2 (x : N3) : (n3L x).getD 2 0 = x.2.2 := rfl
theorem cs1 (a : Nat) : (a : Int) + 1 = ((a + 1 : Nat) : Int) := rfl
def wR (r1 r2 r3 g : V3) : List Int := [dt g r2 r3, dt r1 g r3, dt r1 r2 g, dt r1 r2 r3]
theorem zU8_0 : type_of% @Nat.zero_add ∧ type_of% @cs1 ∧ type_of% @g3_0 ∧ type_of% @g3_1 ∧ type_of% @g3_2 ∧ type_of% @i3_0 ∧ type_of% @i3_1 ∧ type_of% @i3_2 ∧ type_of% @tn0 ∧ type_of% @tn1 ∧ type_of% @tn2 := ⟨@Nat.zero_add, @cs1, @g3_0, @g3_1, @g3_2, @i3_0, @i3_1, @i3_2, @tn0, @tn1, @tn2⟩
theorem rweights_0 {s0 s1 s2 : Nat} {data : List Int} (C : Cu s0 s1 s2 data) {n : Nat} (hn : n < 6 * cellsN s0 s1 s2) {t : V3} (ht : Vl t) (c : Nat → V3) (hc : ∀ k, c k = cnr data s1 s2 (stX (cellN s1 s2 n) (ordA (n % 6)) k)) :
    Called Tryz.prog 37 [gridD (sz3 s0 s1 s2) 3 data, .int .i64 n, v3I t] (.iarr .i64 (wR (sb (c 1) (c 0)) (sb (c 2) (c 0)) (sb (c 3) (c 0)) (sb t (c 0)))) := by
  have hx := cell_in hn C.h0.1 C.h1.1 C.h2.1
  have h0 := C.h0
  have h1 := C.h1
  have h2 := C.h2
  have hn2 : n / 6 ≤ 10000 := by
    have hcl : cellsN s0 s1 s2 ≤ 512 := by
      have h0 := C.h0
      have h1 := C.h1
      have h2 := C.h2
      unfold cellsN
      exact Nat.mul_le_mul (Nat.mul_le_mul (show s0 - 1 ≤ 8 by omega) (show s1 - 1 ≤ 8 by omega)) (show s2 - 1 ≤ 8 by omega)
    omega
  have hq1 : (n : Int) / 6 = ((n / 6 : Nat) : Int) := by omega
  have hq2 : (n : Int).tdiv 6 = ((n / 6 : Nat) : Int) := by rw [Int.tdiv_eq_ediv_of_nonneg (by omega)]; omega
  have hC := rcell_c C (n / 6) hn2
  have ec : (n / 6 / ((s1 - 1) * (s2 - 1)), n / 6 / (s2 - 1) % (s1 - 1), n / 6 % (s2 - 1)) = cellN s1 s2 n := rfl
  rw [ec] at hC
  have hval : ∀ k, Called Tryz.prog 45 [gridD (sz3 s0 s1 s2) 3 data, n3I (stX (cellN s1 s2 n) (ordA (n % 6)) k)] (v3I (c k)) := fun k => by
    rw [hc k]
    exact rvalue_c C (stX_in hx (Nat.mod_lt _ (by omega)) k)
  have hvl : ∀ k, Vl (c k) := fun k => by rw [hc k]; exact gv_vl C.hd _
  clear hc ec
  have hrb : ∀ k, Bd3 65535 (sb (c k) (c 0)) := fun k => sb_bd (hvl k) (hvl 0)
  have hgb : Bd3 65535 (sb t (c 0)) := sb_bd ht (hvl 0)
  obtain ⟨x, hxe⟩ : ∃ x, x = cellN s1 s2 n := ⟨_, rfl⟩
  rw [← hxe] at hx hC hval
  clear hxe
  obtain ⟨x0, x1, x2⟩ := x
  dsimp only at hx
  have h6 : n % 6 = 0 ∨ n % 6 = 1 ∨ n % 6 = 2 ∨ n % 6 = 3 ∨ n % 6 = 4 ∨ n % 6 = 5 := by omega
  unfold gridD at hC hval ⊢
  generalize sz3 s0 s1 s2 = sz at *
  rcases h6 with h6 | h6 | h6 | h6 | h6 | h6
  all_goals rw [h6] at hval
  · have hm : (n : Int).tmod 6 = 0 := by rw [Int.tmod_eq_emod_of_nonneg (by omega)]; omega
    have hm2 : (n : Int) % 6 = 0 := by omega
    refine called_of_run tbOk 6 ⟨Tryz.func37, rfl, rfl, Nat.le_of_ble_eq_true rfl⟩ ?_
    (conv => whnf)
    (conv => whnf)
    (try simp only [hq1, hq2, hm, hm2, Nat.zero_add])
    repeat ((first | refine V.s1 ?_ | ((try ((with_reducible refine .ext ?_); (conv => whnf); (try simp only [hq1, hq2, hm, hm2, Nat.zero_add]))); (with_reducible refine call_intro (r := ?_) ?_ ?_); rotate_left; (focus (first | exact (hC) | exact (rorders_c) | exact (hval 0))); (conv => whnf))); (try simp only [hq1, hq2, hm, hm2, Nat.zero_add]))
    refine lp_any (0) (fun k => k ≤ 3) (fun k => 3 - k) (fun k => [(11, .int .i64 k)]) (fun k => [(7, .arr .i64 (n3L (stX (x0, x1, x2) (ordA 0) k))), (10, .box (stD (fun k => sb (c k) (c 0)) k))]) ?_ ?_ ?_
    exact V.wk
    exact Nat.zero_le _
    intro k hk
    (conv => whnf)
    (try simp only [Nat.zero_add])
    repeat ((first | refine V.s1 ?_); (try simp only [Nat.zero_add]))
    refine Cnd.split (CondB.mk (fun hq => ?_) (fun hq => ?_))
    · rw [decide_eq_true_eq] at hq
      have hk3 : k = 0 ∨ k = 1 ∨ k = 2 := by omega
      rcases hk3 with e | e | e
      · subst e
        simp only [stX, stD, n3L, ordA, inc3, k0]
        (conv => whnf)
        (try simp only [Nat.zero_add])
        repeat ((first | refine V.s1 ?_); (try simp only [Nat.zero_add]))
        refine ⟨(.take 0 (.take 1 (.take 2 (.take 3 (.take 4 (.take 5 (.take 6 (.take 7 (.take 8 (.take 9 (.ev (.cons 10 [] (.done) (.nil))))))))))))), ⟨by kernel_rfl, by kernel_rfl, by kernel_rfl⟩, .go ?_⟩
        (conv => whnf)
        (try simp only [zU8_0])
        repeat ((first | refine V.s1 ?_); (try simp only [zU8_0]))
        refine ⟨(.take 0 (.take 1 (.take 2 (.take 4 (.ev (.cons 3 [4, 0] (.ev (.cons 5 [0] (.take 6 (.ev (.cons 7 [] (.done) (.nil)))) (.nil))) (.nil))))))), ⟨by kernel_rfl, by kernel_rfl, by kernel_rfl⟩, .go ?_⟩
        (conv => whnf)
        (try simp only [zU8_0])
        repeat ((first | refine V.s1 ?_ | ((try ((with_reducible refine .ext ?_); (conv => whnf); (try simp only [zU8_0]))); (with_reducible refine call_intro (r := ?_) ?_ ?_); rotate_left; (focus (first | exact (hval 1) | exact (rminus_c .mkI .mkI (hvl _) (hvl _)))); (conv => whnf))); (try simp only [zU8_0]))
        exact ⟨1, by omega, by omega, V.wk⟩
      · subst e
        simp only [stX, stD, n3L, ordA, inc3, k1]
        (conv => whnf)
        (try simp only [Nat.zero_add])
        repeat ((first | refine V.s1 ?_); (try simp only [Nat.zero_add]))
        refine ⟨(.take 0 (.take 1 (.take 2 (.take 3 (.take 4 (.take 5 (.take 6 (.take 7 (.take 8 (.take 9 (.ev (.cons 10 [] (.done) (.nil))))))))))))), ⟨by kernel_rfl, by kernel_rfl, by kernel_rfl⟩, .go ?_⟩
        (conv => whnf)
        (try simp only [zU8_0])
        repeat ((first | refine V.s1 ?_); (try simp only [zU8_0]))
        refine ⟨(.take 0 (.take 1 (.take 2 (.take 4 (.ev (.cons 3 [4, 0] (.ev (.cons 5 [0] (.take 6 (.ev (.cons 7 [] (.done) (.nil)))) (.nil))) (.nil))))))), ⟨by kernel_rfl, by kernel_rfl, by kernel_rfl⟩, .go ?_⟩
        (conv => whnf)
        (try simp only [zU8_0])
        repeat ((first | refine V.s1 ?_ | ((try ((with_reducible refine .ext ?_); (conv => whnf); (try simp only [zU8_0]))); (with_reducible refine call_intro (r := ?_) ?_ ?_); rotate_left; (focus (first | exact (hval 2) | exact (rminus_c .mkI .mkI (hvl _) (hvl _)))); (conv => whnf))); (try simp only [zU8_0]))
        exact ⟨2, by omega, by omega, V.wk⟩
      · subst e
        simp only [stX, stD, n3L, ordA, inc3, k2]
        (conv => whnf)
        (try simp only [Nat.zero_add])
        repeat ((first | refine V.s1 ?_); (try simp only [Nat.zero_add]))
        refine ⟨(.take 0 (.take 1 (.take 2 (.take 3 (.take 4 (.take 5 (.take 6 (.take 7 (.take 8 (.take 9 (.ev (.cons 10 [] (.done) (.nil))))))))))))), ⟨by kernel_rfl, by kernel_rfl, by kernel_rfl⟩, .go ?_⟩
        (conv => whnf)
        (try simp only [zU8_0])
        repeat ((first | refine V.s1 ?_); (try simp only [zU8_0]))
        refine ⟨(.take 0 (.take 1 (.take 2 (.take 4 (.ev (.cons 3 [4, 0] (.ev (.cons 5 [0] (.take 6 (.ev (.cons 7 [] (.done) (.nil)))) (.nil))) (.nil))))))), ⟨by kernel_rfl, by kernel_rfl, by kernel_rfl⟩, .go ?_⟩
        (conv => whnf)
        (try simp only [zU8_0])
        repeat ((first | refine V.s1 ?_ | ((try ((with_reducible refine .ext ?_); (conv => whnf); (try simp only [zU8_0]))); (with_reducible refine call_intro (r := ?_) ?_ ?_); rotate_left; (focus (first | exact (hval 3) | exact (rminus_c .mkI .mkI (hvl _) (hvl _)))); (conv => whnf))); (try simp only [zU8_0]))
        exact ⟨3, by omega, by omega, V.wk⟩
    · rw [decide_eq_false_iff_not] at hq
      have hk3 : k = 3 := by omega
      subst hk3
      simp only [stX, stD, n3L, ordA, inc3, k3]
      (conv => whnf)
      (try simp only [Nat.zero_add])
      repeat ((first | refine V.s1 ?_ | ((try ((with_reducible refine .ext ?_); (conv => whnf); (try simp only [Nat.zero_add]))); (with_reducible refine call_intro (r := ?_) ?_ ?_); rotate_left; (focus (first | exact (rminus_c .mkI .mkI ht (hvl 0)))); (conv => whnf))); (try simp only [Nat.zero_add]))
      refine ⟨(.take 0 (.take 1 (.take 2 (.take 3 (.take 4 (.take 6 (.take 7 (.take 8 (.take 9 (.take 10 (.take 12 (.take 13 (.take 14 (.take 15 (.take 16 (.take 18 (.take 19 (.take 20 (.take 21 (.take 22 (.take 23 (.ev (.cons 5 [23, 22, 21, 20, 19, 18, 16, 15, 14, 13, 12, 10, 9, 8, 7, 6] (.ev (.cons 11 [23, 22, 21, 20, 19, 18, 16, 15, 14, 13, 12] (.ev (.cons 17 [23, 22, 21, 20, 19, 18] (.ev (.cons 24 [] (.take 25 (.ev (.cons 26 [] (.done) (.nil)))) (.nil))) (.nil))) (.nil))) (.nil)))))))))))))))))))))))), ⟨by kernel_rfl, by kernel_rfl, by kernel_rfl⟩, .go ?_⟩
      (conv => whnf)
      (try simp only [Nat.zero_add])
      repeat ((first | refine V.s1 ?_ | ((try ((with_reducible refine .ext ?_); (conv => whnf); (try simp only [Nat.zero_add]))); (with_reducible refine call_intro (r := ?_) ?_ ?_); rotate_left; (focus (first | exact (rdet_c .mkI .mkD .mkD hgb (hrb 2) (hrb 3)) | exact (rdet_c .mkD .mkI .mkD (hrb 1) hgb (hrb 3)) | exact (rdet_c .mkD .mkD .mkI (hrb 1) (hrb 2) hgb) | exact (rdet_c .mkD .mkD .mkD (hrb 1) (hrb 2) (hrb 3)))); (conv => whnf))); (try simp only [Nat.zero_add]))
      exact Fin.of rfl
  · have hm : (n : Int).tmod 6 = 1 := by rw [Int.tmod_eq_emod_of_nonneg (by omega)]; omega
    have hm2 : (n : Int) % 6 = 1 := by omega
    refine called_of_run tbOk 6 ⟨Tryz.func37, rfl, rfl, Nat.le_of_ble_eq_true rfl⟩ ?_
    (conv => whnf)
    (conv => whnf)
    (try simp only [hq1, hq2, hm, hm2, Nat.zero_add])
    repeat ((first | refine V.s1 ?_ | ((try ((with_reducible refine .ext ?_); (conv => whnf); (try simp only [hq1, hq2, hm, hm2, Nat.zero_add]))); (with_reducible refine call_intro (r := ?_) ?_ ?_); rotate_left; (focus (first | exact (hC) | exact (rorders_c) | exact (hval 0))); (conv => whnf))); (try simp only [hq1, hq2, hm, hm2, Nat.zero_add]))
    refine lp_any (0) (fun k => k ≤ 3) (fun k => 3 - k) (fun k => [(11, .int .i64 k)]) (fun k => [(7, .arr .i64 (n3L (stX (x0, x1, x2) (ordA 1) k))), (10, .box (stD (fun k => sb (c k) (c 0)) k))]) ?_ ?_ ?_
    exact V.wk
    exact Nat.zero_le _
    intro k hk
    (conv => whnf)
    (try simp only [Nat.zero_add])
    repeat ((first | refine V.s1 ?_); (try simp only [Nat.zero_add]))
    refine Cnd.split (CondB.mk (fun hq => ?_) (fun hq => ?_))
    · rw [decide_eq_true_eq] at hq
      have hk3 : k = 0 ∨ k = 1 ∨ k = 2 := by omega
      rcases hk3 with e | e | e
      · subst e
        simp only [stX, stD, n3L, ordA, inc3, k0]
        (conv => whnf)
        (try simp only [Nat.zero_add])
        repeat ((first | refine V.s1 ?_); (try simp only [Nat.zero_add]))
        refine ⟨(.take 0 (.take 1 (.take 2 (.take 3 (.take 4 (.take 5 (.take 6 (.take 7 (.take 8 (.take 9 (.ev (.cons 10 [] (.done) (.nil))))))))))))), ⟨by kernel_rfl, by kernel_rfl, by kernel_rfl⟩, .go ?_⟩
        (conv => whnf)
        (try simp only [zU8_0])
        repeat ((first | refine V.s1 ?_); (try simp only [zU8_0]))
        refine ⟨(.take 0 (.take 1 (.take 2 (.take 4 (.ev (.cons 3 [4, 0] (.ev (.cons 5 [0] (.take 6 (.ev (.cons 7 [] (.done) (.nil)))) (.nil))) (.nil))))))), ⟨by kernel_rfl, by kernel_rfl, by kernel_rfl⟩, .go ?_⟩
        (conv => whnf)
        (try simp only [zU8_0])
        repeat ((first | refine V.s1 ?_ | ((try ((with_reducible refine .ext ?_); (conv => whnf); (try simp only [zU8_0]))); (with_reducible refine call_intro (r := ?_) ?_ ?_); rotate_left; (focus (first | exact (hval 1) | exact (rminus_c .mkI .mkI (hvl _) (hvl _)))); (conv => whnf))); (try simp only [zU8_0]))
        exact ⟨1, by omega, by omega, V.wk⟩
      · subst e
        simp only [stX, stD, n3L, ordA, inc3, k1]
        (conv => whnf)
        (try simp only [Nat.zero_add])
        repeat ((first | refine V.s1 ?_); (try simp only [Nat.zero_add]))
        refine ⟨(.take 0 (.take 1 (.take 2 (.take 3 (.take 4 (.take 5 (.take 6 (.take 7 (.take 8 (.take 9 (.ev (.cons 10 [] (.done) (.nil))))))))))))), ⟨by kernel_rfl, by kernel_rfl, by kernel_rfl⟩, .go ?_⟩
        (conv => whnf)
        (try simp only [zU8_0])
        repeat ((first | refine V.s1 ?_); (try simp only [zU8_0]))
        refine ⟨(.take 0 (.take 1 (.take 2 (.take 4 (.ev (.cons 3 [4, 0] (.ev (.cons 5 [0] (.take 6 (.ev (.cons 7 [] (.done) (.nil)))) (.nil))) (.nil))))))), ⟨by kernel_rfl, by kernel_rfl, by kernel_rfl⟩, .go ?_⟩
        (conv => whnf)
        (try simp only [zU8_0])
        repeat ((first | refine V.s1 ?_ | ((try ((with_reducible refine .ext ?_); (conv => whnf); (try simp only [zU8_0]))); (with_reducible refine call_intro (r := ?_) ?_ ?_); rotate_left; (focus (first | exact (hval 2) | exact (rminus_c .mkI .mkI (hvl _) (hvl _)))); (conv => whnf))); (try simp only [zU8_0]))
        exact ⟨2, by omega, by omega, V.wk⟩
      · subst e
        simp only [stX, stD, n3L, ordA, inc3, k2]
        (conv => whnf)
        (try simp only [Nat.zero_add])
        repeat ((first | refine V.s1 ?_); (try simp only [Nat.zero_add]))
        refine ⟨(.take 0 (.take 1 (.take 2 (.take 3 (.take 4 (.take 5 (.take 6 (.take 7 (.take 8 (.take 9 (.ev (.cons 10 [] (.done) (.nil))))))))))))), ⟨by kernel_rfl, by kernel_rfl, by kernel_rfl⟩, .go ?_⟩
        (conv => whnf)
        (try simp only [zU8_0])
        repeat ((first | refine V.s1 ?_); (try simp only [zU8_0]))
        refine ⟨(.take 0 (.take 1 (.take 2 (.take 4 (.ev (.cons 3 [4, 0] (.ev (.cons 5 [0] (.take 6 (.ev (.cons 7 [] (.done) (.nil)))) (.nil))) (.nil))))))), ⟨by kernel_rfl, by kernel_rfl, by kernel_rfl⟩, .go ?_⟩
        (conv => whnf)
        (try simp only [zU8_0])
        repeat ((first | refine V.s1 ?_ | ((try ((with_reducible refine .ext ?_); (conv => whnf); (try simp only [zU8_0]))); (with_reducible refine call_intro (r := ?_) ?_ ?_); rotate_left; (focus (first | exact (hval 3) | exact (rminus_c .mkI .mkI (hvl _) (hvl _)))); (conv => whnf))); (try simp only [zU8_0]))
        exact ⟨3, by omega, by omega, V.wk⟩
    · rw [decide_eq_false_iff_not] at hq
      have hk3 : k = 3 := by omega
      subst hk3
      simp only [stX, stD, n3L, ordA, inc3, k3]
      (conv => whnf)
      (try simp only [Nat.zero_add])
      repeat ((first | refine V.s1 ?_ | ((try ((with_reducible refine .ext ?_); (conv => whnf); (try simp only [Nat.zero_add]))); (with_reducible refine call_intro (r := ?_) ?_ ?_); rotate_left; (focus (first | exact (rminus_c .mkI .mkI ht (hvl 0)))); (conv => whnf))); (try simp only [Nat.zero_add]))
      refine ⟨(.take 0 (.take 1 (.take 2 (.take 3 (.take 4 (.take 6 (.take 7 (.take 8 (.take 9 (.take 10 (.take 12 (.take 13 (.take 14 (.take 15 (.take 16 (.take 18 (.take 19 (.take 20 (.take 21 (.take 22 (.take 23 (.ev (.cons 5 [23, 22, 21, 20, 19, 18, 16, 15, 14, 13, 12, 10, 9, 8, 7, 6] (.ev (.cons 11 [23, 22, 21, 20, 19, 18, 16, 15, 14, 13, 12] (.ev (.cons 17 [23, 22, 21, 20, 19, 18] (.ev (.cons 24 [] (.take 25 (.ev (.cons 26 [] (.done) (.nil)))) (.nil))) (.nil))) (.nil))) (.nil)))))))))))))))))))))))), ⟨by kernel_rfl, by kernel_rfl, by kernel_rfl⟩, .go ?_⟩
      (conv => whnf)
      (try simp only [Nat.zero_add])
      repeat ((first | refine V.s1 ?_ | ((try ((with_reducible refine .ext ?_); (conv => whnf); (try simp only [Nat.zero_add]))); (with_reducible refine call_intro (r := ?_) ?_ ?_); rotate_left; (focus (first | exact (rdet_c .mkI .mkD .mkD hgb (hrb 2) (hrb 3)) | exact (rdet_c .mkD .mkI .mkD (hrb 1) hgb (hrb 3)) | exact (rdet_c .mkD .mkD .mkI (hrb 1) (hrb 2) hgb) | exact (rdet_c .mkD .mkD .mkD (hrb 1) (hrb 2) (hrb 3)))); (conv => whnf))); (try simp only [Nat.zero_add]))
      exact Fin.of rfl
  · have hm : (n : Int).tmod 6 = 2 := by rw [Int.tmod_eq_emod_of_nonneg (by omega)]; omega
    have hm2 : (n : Int) % 6 = 2 := by omega
    refine called_of_run tbOk 6 ⟨Tryz.func37, rfl, rfl, Nat.le_of_ble_eq_true rfl⟩ ?_
    (conv => whnf)
    (conv => whnf)
    (try simp only [hq1, hq2, hm, hm2, Nat.zero_add])
    repeat ((first | refine V.s1 ?_ | ((try ((with_reducible refine .ext ?_); (conv => whnf); (try simp only [hq1, hq2, hm, hm2, Nat.zero_add]))); (with_reducible refine call_intro (r := ?_) ?_ ?_); rotate_left; (focus (first | exact (hC) | exact (rorders_c) | exact (hval 0))); (conv => whnf))); (try simp only [hq1, hq2, hm, hm2, Nat.zero_add]))
    refine lp_any (0) (fun k => k ≤ 3) (fun k => 3 - k) (fun k => [(11, .int .i64 k)]) (fun k => [(7, .arr .i64 (n3L (stX (x0, x1, x2) (ordA 2) k))), (10, .box (stD (fun k => sb (c k) (c 0)) k))]) ?_ ?_ ?_
    exact V.wk
    exact Nat.zero_le _
    intro k hk
    (conv => whnf)
    (try simp only [Nat.zero_add])
    repeat ((first | refine V.s1 ?_); (try simp only [Nat.zero_add]))
    refine Cnd.split (CondB.mk (fun hq => ?_) (fun hq => ?_))
    · rw [decide_eq_true_eq] at hq
      have hk3 : k = 0 ∨ k = 1 ∨ k = 2 := by omega
      rcases hk3 with e | e | e
      · subst e
        simp only [stX, stD, n3L, ordA, inc3, k0]
        (conv => whnf)
        (try simp only [Nat.zero_add])
        repeat ((first | refine V.s1 ?_); (try simp only [Nat.zero_add]))
        refine ⟨(.take 0 (.take 1 (.take 2 (.take 3 (.take 4 (.take 5 (.take 6 (.take 7 (.take 8 (.take 9 (.ev (.cons 10 [] (.done) (.nil))))))))))))), ⟨by kernel_rfl, by kernel_rfl, by kernel_rfl⟩, .go ?_⟩
        (conv => whnf)
        (try simp only [zU8_0])
        repeat ((first | refine V.s1 ?_); (try simp only [zU8_0]))
        refine ⟨(.take 0 (.take 1 (.take 2 (.take 4 (.ev (.cons 3 [4, 0] (.ev (.cons 5 [0] (.take 6 (.ev (.cons 7 [] (.done) (.nil)))) (.nil))) (.nil))))))), ⟨by kernel_rfl, by kernel_rfl, by kernel_rfl⟩, .go ?_⟩
        (conv => whnf)
        (try simp only [zU8_0])
        repeat ((first | refine V.s1 ?_ | ((try ((with_reducible refine .ext ?_); (conv => whnf); (try simp only [zU8_0]))); (with_reducible refine call_intro (r := ?_) ?_ ?_); rotate_left; (focus (first | exact (hval 1) | exact (rminus_c .mkI .mkI (hvl _) (hvl _)))); (conv => whnf))); (try simp only [zU8_0]))
        exact ⟨1, by omega, by omega, V.wk⟩
      · subst e
        simp only [stX, stD, n3L, ordA, inc3, k1]
        (conv => whnf)
        (try simp only [Nat.zero_add])
        repeat ((first | refine V.s1 ?_); (try simp only [Nat.zero_add]))
        refine ⟨(.take 0 (.take 1 (.take 2 (.take 3 (.take 4 (.take 5 (.take 6 (.take 7 (.take 8 (.take 9 (.ev (.cons 10 [] (.done) (.nil))))))))))))), ⟨by kernel_rfl, by kernel_rfl, by kernel_rfl⟩, .go ?_⟩
        (conv => whnf)
        (try simp only [zU8_0])
        repeat ((first | refine V.s1 ?_); (try simp only [zU8_0]))
        refine ⟨(.take 0 (.take 1 (.take 2 (.take 4 (.ev (.cons 3 [4, 0] (.ev (.cons 5 [0] (.take 6 (.ev (.cons 7 [] (.done) (.nil)))) (.nil))) (.nil))))))), ⟨by kernel_rfl, by kernel_rfl, by kernel_rfl⟩, .go ?_⟩
        (conv => whnf)
        (try simp only [zU8_0])
        repeat ((first | refine V.s1 ?_ | ((try ((with_reducible refine .ext ?_); (conv => whnf); (try simp only [zU8_0]))); (with_reducible refine call_intro (r := ?_) ?_ ?_); rotate_left; (focus (first | exact (hval 2) | exact (rminus_c .mkI .mkI (hvl _) (hvl _)))); (conv => whnf))); (try simp only [zU8_0]))
        exact ⟨2, by omega, by omega, V.wk⟩
      · subst e
        simp only [stX, stD, n3L, ordA, inc3, k2]
        (conv => whnf)
        (try simp only [Nat.zero_add])
        repeat ((first | refine V.s1 ?_); (try simp only [Nat.zero_add]))
        refine ⟨(.take 0 (.take 1 (.take 2 (.take 3 (.take 4 (.take 5 (.take 6 (.take 7 (.take 8 (.take 9 (.ev (.cons 10 [] (.done) (.nil))))))))))))), ⟨by kernel_rfl, by kernel_rfl, by kernel_rfl⟩, .go ?_⟩
        (conv => whnf)
        (try simp only [zU8_0])
        repeat ((first | refine V.s1 ?_); (try simp only [zU8_0]))
        refine ⟨(.take 0 (.take 1 (.take 2 (.take 4 (.ev (.cons 3 [4, 0] (.ev (.cons 5 [0] (.take 6 (.ev (.cons 7 [] (.done) (.nil)))) (.nil))) (.nil))))))), ⟨by kernel_rfl, by kernel_rfl, by kernel_rfl⟩, .go ?_⟩
        (conv => whnf)
        (try simp only [zU8_0])
        repeat ((first | refine V.s1 ?_ | ((try ((with_reducible refine .ext ?_); (conv => whnf); (try simp only [zU8_0]))); (with_reducible refine call_intro (r := ?_) ?_ ?_); rotate_left; (focus (first | exact (hval 3) | exact (rminus_c .mkI .mkI (hvl _) (hvl _)))); (conv => whnf))); (try simp only [zU8_0]))
        exact ⟨3, by omega, by omega, V.wk⟩
    · rw [decide_eq_false_iff_not] at hq
      have hk3 : k = 3 := by omega
      subst hk3
      simp only [stX, stD, n3L, ordA, inc3, k3]
      (conv => whnf)
      (try simp only [Nat.zero_add])
      repeat ((first | refine V.s1 ?_ | ((try ((with_reducible refine .ext ?_); (conv => whnf); (try simp only [Nat.zero_add]))); (with_reducible refine call_intro (r := ?_) ?_ ?_); rotate_left; (focus (first | exact (rminus_c .mkI .mkI ht (hvl 0)))); (conv => whnf))); (try simp only [Nat.zero_add]))
      refine ⟨(.take 0 (.take 1 (.take 2 (.take 3 (.take 4 (.take 6 (.take 7 (.take 8 (.take 9 (.take 10 (.take 12 (.take 13 (.take 14 (.take 15 (.take 16 (.take 18 (.take 19 (.take 20 (.take 21 (.take 22 (.take 23 (.ev (.cons 5 [23, 22, 21, 20, 19, 18, 16, 15, 14, 13, 12, 10, 9, 8, 7, 6] (.ev (.cons 11 [23, 22, 21, 20, 19, 18, 16, 15, 14, 13, 12] (.ev (.cons 17 [23, 22, 21, 20, 19, 18] (.ev (.cons 24 [] (.take 25 (.ev (.cons 26 [] (.done) (.nil)))) (.nil))) (.nil))) (.nil))) (.nil)))))))))))))))))))))))), ⟨by kernel_rfl, by kernel_rfl, by kernel_rfl⟩, .go ?_⟩
      (conv => whnf)
      (try simp only [Nat.zero_add])
      repeat ((first | refine V.s1 ?_ | ((try ((with_reducible refine .ext ?_); (conv => whnf); (try simp only [Nat.zero_add]))); (with_reducible refine call_intro (r := ?_) ?_ ?_); rotate_left; (focus (first | exact (rdet_c .mkI .mkD .mkD hgb (hrb 2) (hrb 3)) | exact (rdet_c .mkD .mkI .mkD (hrb 1) hgb (hrb 3)) | exact (rdet_c .mkD .mkD .mkI (hrb 1) (hrb 2) hgb) | exact (rdet_c .mkD .mkD .mkD (hrb 1) (hrb 2) (hrb 3)))); (conv => whnf))); (try simp only [Nat.zero_add]))
      exact Fin.of rfl
  · have hm : (n : Int).tmod 6 = 3 := by rw [Int.tmod_eq_emod_of_nonneg (by omega)]; omega
    have hm2 : (n : Int) % 6 = 3 := by omega
    refine called_of_run tbOk 6 ⟨Tryz.func37, rfl, rfl, Nat.le_of_ble_eq_true rfl⟩ ?_
    (conv => whnf)
    (conv => whnf)
    (try simp only [hq1, hq2, hm, hm2, Nat.zero_add])
    repeat ((first | refine V.s1 ?_ | ((try ((with_reducible refine .ext ?_); (conv => whnf); (try simp only [hq1, hq2, hm, hm2, Nat.zero_add]))); (with_reducible refine call_intro (r := ?_) ?_ ?_); rotate_left; (focus (first | exact (hC) | exact (rorders_c) | exact (hval 0))); (conv => whnf))); (try simp only [hq1, hq2, hm, hm2, Nat.zero_add]))
    refine lp_any (0) (fun k => k ≤ 3) (fun k => 3 - k) (fun k => [(11, .int .i64 k)]) (fun k => [(7, .arr .i64 (n3L (stX (x0, x1, x2) (ordA 3) k))), (10, .box (stD (fun k => sb (c k) (c 0)) k))]) ?_ ?_ ?_
    exact V.wk
    exact Nat.zero_le _
    intro k hk
    (conv => whnf)
    (try simp only [Nat.zero_add])
    repeat ((first | refine V.s1 ?_); (try simp only [Nat.zero_add]))
    refine Cnd.split (CondB.mk (fun hq => ?_) (fun hq => ?_))
    · rw [decide_eq_true_eq] at hq
      have hk3 : k = 0 ∨ k = 1 ∨ k = 2 := by omega
      rcases hk3 with e | e | e
      · subst e
        simp only [stX, stD, n3L, ordA, inc3, k0]
        (conv => whnf)
        (try simp only [Nat.zero_add])
        repeat ((first | refine V.s1 ?_); (try simp only [Nat.zero_add]))
        refine ⟨(.take 0 (.take 1 (.take 2 (.take 3 (.take 4 (.take 5 (.take 6 (.take 7 (.take 8 (.take 9 (.ev (.cons 10 [] (.done) (.nil))))))))))))), ⟨by kernel_rfl, by kernel_rfl, by kernel_rfl⟩, .go ?_⟩
        (conv => whnf)
        (try simp only [zU8_0])
        repeat ((first | refine V.s1 ?_); (try simp only [zU8_0]))
        refine ⟨(.take 0 (.take 1 (.take 2 (.take 4 (.ev (.cons 3 [4, 0] (.ev (.cons 5 [0] (.take 6 (.ev (.cons 7 [] (.done) (.nil)))) (.nil))) (.nil))))))), ⟨by kernel_rfl, by kernel_rfl, by kernel_rfl⟩, .go ?_⟩
        (conv => whnf)
        (try simp only [zU8_0])
        repeat ((first | refine V.s1 ?_ | ((try ((with_reducible refine .ext ?_); (conv => whnf); (try simp only [zU8_0]))); (with_reducible refine call_intro (r := ?_) ?_ ?_); rotate_left; (focus (first | exact (hval 1) | exact (rminus_c .mkI .mkI (hvl _) (hvl _)))); (conv => whnf))); (try simp only [zU8_0]))
        exact ⟨1, by omega, by omega, V.wk⟩
      · subst e
        simp only [stX, stD, n3L, ordA, inc3, k1]
        (conv => whnf)
        (try simp only [Nat.zero_add])
        repeat ((first | refine V.s1 ?_); (try simp only [Nat.zero_add]))
        refine ⟨(.take 0 (.take 1 (.take 2 (.take 3 (.take 4 (.take 5 (.take 6 (.take 7 (.take 8 (.take 9 (.ev (.cons 10 [] (.done) (.nil))))))))))))), ⟨by kernel_rfl, by kernel_rfl, by kernel_rfl⟩, .go ?_⟩
        (conv => whnf)
        (try simp only [zU8_0])
        repeat ((first | refine V.s1 ?_); (try simp only [zU8_0]))
        refine ⟨(.take 0 (.take 1 (.take 2 (.take 4 (.ev (.cons 3 [4, 0] (.ev (.cons 5 [0] (.take 6 (.ev (.cons 7 [] (.done) (.nil)))) (.nil))) (.nil))))))), ⟨by kernel_rfl, by kernel_rfl, by kernel_rfl⟩, .go ?_⟩
        (conv => whnf)
        (try simp only [zU8_0])
        repeat ((first | refine V.s1 ?_ | ((try ((with_reducible refine .ext ?_); (conv => whnf); (try simp only [zU8_0]))); (with_reducible refine call_intro (r := ?_) ?_ ?_); rotate_left; (focus (first | exact (hval 2) | exact (rminus_c .mkI .mkI (hvl _) (hvl _)))); (conv => whnf))); (try simp only [zU8_0]))
        exact ⟨2, by omega, by omega, V.wk⟩
      · subst e
        simp only [stX, stD, n3L, ordA, inc3, k2]
        (conv => whnf)
        (try simp only [Nat.zero_add])
        repeat ((first | refine V.s1 ?_); (try simp only [Nat.zero_add]))
        refine ⟨(.take 0 (.take 1 (.take 2 (.take 3 (.take 4 (.take 5 (.take 6 (.take 7 (.take 8 (.take 9 (.ev (.cons 10 [] (.done) (.nil))))))))))))), ⟨by kernel_rfl, by kernel_rfl, by kernel_rfl⟩, .go ?_⟩
        (conv => whnf)
        (try simp only [zU8_0])
        repeat ((first | refine V.s1 ?_); (try simp only [zU8_0]))
        refine ⟨(.take 0 (.take 1 (.take 2 (.take 4 (.ev (.cons 3 [4, 0] (.ev (.cons 5 [0] (.take 6 (.ev (.cons 7 [] (.done) (.nil)))) (.nil))) (.nil))))))), ⟨by kernel_rfl, by kernel_rfl, by kernel_rfl⟩, .go ?_⟩
        (conv => whnf)
        (try simp only [zU8_0])
        repeat ((first | refine V.s1 ?_ | ((try ((with_reducible refine .ext ?_); (conv => whnf); (try simp only [zU8_0]))); (with_reducible refine call_intro (r := ?_) ?_ ?_); rotate_left; (focus (first | exact (hval 3) | exact (rminus_c .mkI .mkI (hvl _) (hvl _)))); (conv => whnf))); (try simp only [zU8_0]))
        exact ⟨3, by omega, by omega, V.wk⟩
    · rw [decide_eq_false_iff_not] at hq
      have hk3 : k = 3 := by omega
      subst hk3
      simp only [stX, stD, n3L, ordA, inc3, k3]
      (conv => whnf)
      (try simp only [Nat.zero_add])
      repeat ((first | refine V.s1 ?_ | ((try ((with_reducible refine .ext ?_); (conv => whnf); (try simp only [Nat.zero_add]))); (with_reducible refine call_intro (r := ?_) ?_ ?_); rotate_left; (focus (first | exact (rminus_c .mkI .mkI ht (hvl 0)))); (conv => whnf))); (try simp only [Nat.zero_add]))
      refine ⟨(.take 0 (.take 1 (.take 2 (.take 3 (.take 4 (.take 6 (.take 7 (.take 8 (.take 9 (.take 10 (.take 12 (.take 13 (.take 14 (.take 15 (.take 16 (.take 18 (.take 19 (.take 20 (.take 21 (.take 22 (.take 23 (.ev (.cons 5 [23, 22, 21, 20, 19, 18, 16, 15, 14, 13, 12, 10, 9, 8, 7, 6] (.ev (.cons 11 [23, 22, 21, 20, 19, 18, 16, 15, 14, 13, 12] (.ev (.cons 17 [23, 22, 21, 20, 19, 18] (.ev (.cons 24 [] (.take 25 (.ev (.cons 26 [] (.done) (.nil)))) (.nil))) (.nil))) (.nil))) (.nil)))))))))))))))))))))))), ⟨by kernel_rfl, by kernel_rfl, by kernel_rfl⟩, .go ?_⟩
      (conv => whnf)
      (try simp only [Nat.zero_add])
      repeat ((first | refine V.s1 ?_ | ((try ((with_reducible refine .ext ?_); (conv => whnf); (try simp only [Nat.zero_add]))); (with_reducible refine call_intro (r := ?_) ?_ ?_); rotate_left; (focus (first | exact (rdet_c .mkI .mkD .mkD hgb (hrb 2) (hrb 3)) | exact (rdet_c .mkD .mkI .mkD (hrb 1) hgb (hrb 3)) | exact (rdet_c .mkD .mkD .mkI (hrb 1) (hrb 2) hgb) | exact (rdet_c .mkD .mkD .mkD (hrb 1) (hrb 2) (hrb 3)))); (conv => whnf))); (try simp only [Nat.zero_add]))
      exact Fin.of rfl
  · have hm : (n : Int).tmod 6 = 4 := by rw [Int.tmod_eq_emod_of_nonneg (by omega)]; omega
    have hm2 : (n : Int) % 6 = 4 := by omega
    refine called_of_run tbOk 6 ⟨Tryz.func37, rfl, rfl, Nat.le_of_ble_eq_true rfl⟩ ?_
    (conv => whnf)
    (conv => whnf)
    (try simp only [hq1, hq2, hm, hm2, Nat.zero_add])
    repeat ((first | refine V.s1 ?_ | ((try ((with_reducible refine .ext ?_); (conv => whnf); (try simp only [hq1, hq2, hm, hm2, Nat.zero_add]))); (with_reducible refine call_intro (r := ?_) ?_ ?_); rotate_left; (focus (first | exact (hC) | exact (rorders_c) | exact (hval 0))); (conv => whnf))); (try simp only [hq1, hq2, hm, hm2, Nat.zero_add]))
    refine lp_any (0) (fun k => k ≤ 3) (fun k => 3 - k) (fun k => [(11, .int .i64 k)]) (fun k => [(7, .arr .i64 (n3L (stX (x0, x1, x2) (ordA 4) k))), (10, .box (stD (fun k => sb (c k) (c 0)) k))]) ?_ ?_ ?_
    exact V.wk
    exact Nat.zero_le _
    intro k hk
    (conv => whnf)
    (try simp only [Nat.zero_add])
    repeat ((first | refine V.s1 ?_); (try simp only [Nat.zero_add]))
    refine Cnd.split (CondB.mk (fun hq => ?_) (fun hq => ?_))
    · rw [decide_eq_true_eq] at hq
      have hk3 : k = 0 ∨ k = 1 ∨ k = 2 := by omega
      rcases hk3 with e | e | e
      · subst e
        simp only [stX, stD, n3L, ordA, inc3, k0]
        (conv => whnf)
        (try simp only [Nat.zero_add])
        repeat ((first | refine V.s1 ?_); (try simp only [Nat.zero_add]))
        refine ⟨(.take 0 (.take 1 (.take 2 (.take 3 (.take 4 (.take 5 (.take 6 (.take 7 (.take 8 (.take 9 (.ev (.cons 10 [] (.done) (.nil))))))))))))), ⟨by kernel_rfl, by kernel_rfl, by kernel_rfl⟩, .go ?_⟩
        (conv => whnf)
        (try simp only [zU8_0])
        repeat ((first | refine V.s1 ?_); (try simp only [zU8_0]))
        refine ⟨(.take 0 (.take 1 (.take 2 (.take 4 (.ev (.cons 3 [4, 0] (.ev (.cons 5 [0] (.take 6 (.ev (.cons 7 [] (.done) (.nil)))) (.nil))) (.nil))))))), ⟨by kernel_rfl, by kernel_rfl, by kernel_rfl⟩, .go ?_⟩
        (conv => whnf)
        (try simp only [zU8_0])
        repeat ((first | refine V.s1 ?_ | ((try ((with_reducible refine .ext ?_); (conv => whnf); (try simp only [zU8_0]))); (with_reducible refine call_intro (r := ?_) ?_ ?_); rotate_left; (focus (first | exact (hval 1) | exact (rminus_c .mkI .mkI (hvl _) (hvl _)))); (conv => whnf))); (try simp only [zU8_0]))
        exact ⟨1, by omega, by omega, V.wk⟩
      · subst e
        simp only [stX, stD, n3L, ordA, inc3, k1]
        (conv => whnf)
        (try simp only [Nat.zero_add])
        repeat ((first | refine V.s1 ?_); (try simp only [Nat.zero_add]))
        refine ⟨(.take 0 (.take 1 (.take 2 (.take 3 (.take 4 (.take 5 (.take 6 (.take 7 (.take 8 (.take 9 (.ev (.cons 10 [] (.done) (.nil))))))))))))), ⟨by kernel_rfl, by kernel_rfl, by kernel_rfl⟩, .go ?_⟩
        (conv => whnf)
        (try simp only [zU8_0])
        repeat ((first | refine V.s1 ?_); (try simp only [zU8_0]))
        refine ⟨(.take 0 (.take 1 (.take 2 (.take 4 (.ev (.cons 3 [4, 0] (.ev (.cons 5 [0] (.take 6 (.ev (.cons 7 [] (.done) (.nil)))) (.nil))) (.nil))))))), ⟨by kernel_rfl, by kernel_rfl, by kernel_rfl⟩, .go ?_⟩
        (conv => whnf)
        (try simp only [zU8_0])
        repeat ((first | refine V.s1 ?_ | ((try ((with_reducible refine .ext ?_); (conv => whnf); (try simp only [zU8_0]))); (with_reducible refine call_intro (r := ?_) ?_ ?_); rotate_left; (focus (first | exact (hval 2) | exact (rminus_c .mkI .mkI (hvl _) (hvl _)))); (conv => whnf))); (try simp only [zU8_0]))
        exact ⟨2, by omega, by omega, V.wk⟩
      · subst e
        simp only [stX, stD, n3L, ordA, inc3, k2]
        (conv => whnf)
        (try simp only [Nat.zero_add])
        repeat ((first | refine V.s1 ?_); (try simp only [Nat.zero_add]))
        refine ⟨(.take 0 (.take 1 (.take 2 (.take 3 (.take 4 (.take 5 (.take 6 (.take 7 (.take 8 (.take 9 (.ev (.cons 10 [] (.done) (.nil))))))))))))), ⟨by kernel_rfl, by kernel_rfl, by kernel_rfl⟩, .go ?_⟩
        (conv => whnf)
        (try simp only [zU8_0])
        repeat ((first | refine V.s1 ?_); (try simp only [zU8_0]))
        refine ⟨(.take 0 (.take 1 (.take 2 (.take 4 (.ev (.cons 3 [4, 0] (.ev (.cons 5 [0] (.take 6 (.ev (.cons 7 [] (.done) (.nil)))) (.nil))) (.nil))))))), ⟨by kernel_rfl, by kernel_rfl, by kernel_rfl⟩, .go ?_⟩
        (conv => whnf)
        (try simp only [zU8_0])
        repeat ((first | refine V.s1 ?_ | ((try ((with_reducible refine .ext ?_); (conv => whnf); (try simp only [zU8_0]))); (with_reducible refine call_intro (r := ?_) ?_ ?_); rotate_left; (focus (first | exact (hval 3) | exact (rminus_c .mkI .mkI (hvl _) (hvl _)))); (conv => whnf))); (try simp only [zU8_0]))
        exact ⟨3, by omega, by omega, V.wk⟩
    · rw [decide_eq_false_iff_not] at hq
      have hk3 : k = 3 := by omega
      subst hk3
      simp only [stX, stD, n3L, ordA, inc3, k3]
      (conv => whnf)
      (try simp only [Nat.zero_add])
      repeat ((first | refine V.s1 ?_ | ((try ((with_reducible refine .ext ?_); (conv => whnf); (try simp only [Nat.zero_add]))); (with_reducible refine call_intro (r := ?_) ?_ ?_); rotate_left; (focus (first | exact (rminus_c .mkI .mkI ht (hvl 0)))); (conv => whnf))); (try simp only [Nat.zero_add]))
      refine ⟨(.take 0 (.take 1 (.take 2 (.take 3 (.take 4 (.take 6 (.take 7 (.take 8 (.take 9 (.take 10 (.take 12 (.take 13 (.take 14 (.take 15 (.take 16 (.take 18 (.take 19 (.take 20 (.take 21 (.take 22 (.take 23 (.ev (.cons 5 [23, 22, 21, 20, 19, 18, 16, 15, 14, 13, 12, 10, 9, 8, 7, 6] (.ev (.cons 11 [23, 22, 21, 20, 19, 18, 16, 15, 14, 13, 12] (.ev (.cons 17 [23, 22, 21, 20, 19, 18] (.ev (.cons 24 [] (.take 25 (.ev (.cons 26 [] (.done) (.nil)))) (.nil))) (.nil))) (.nil))) (.nil)))))))))))))))))))))))), ⟨by kernel_rfl, by kernel_rfl, by kernel_rfl⟩, .go ?_⟩
      (conv => whnf)
      (try simp only [Nat.zero_add])
      repeat ((first | refine V.s1 ?_ | ((try ((with_reducible refine .ext ?_); (conv => whnf); (try simp only [Nat.zero_add]))); (with_reducible refine call_intro (r := ?_) ?_ ?_); rotate_left; (focus (first | exact (rdet_c .mkI .mkD .mkD hgb (hrb 2) (hrb 3)) | exact (rdet_c .mkD .mkI .mkD (hrb 1) hgb (hrb 3)) | exact (rdet_c .mkD .mkD .mkI (hrb 1) (hrb 2) hgb) | exact (rdet_c .mkD .mkD .mkD (hrb 1) (hrb 2) (hrb 3)))); (conv => whnf))); (try simp only [Nat.zero_add]))
      exact Fin.of rfl
  · have hm : (n : Int).tmod 6 = 5 := by rw [Int.tmod_eq_emod_of_nonneg (by omega)]; omega
    have hm2 : (n : Int) % 6 = 5 := by omega
    refine called_of_run tbOk 6 ⟨Tryz.func37, rfl, rfl, Nat.le_of_ble_eq_true rfl⟩ ?_
    (conv => whnf)
    (conv => whnf)
    (try simp only [hq1, hq2, hm, hm2, Nat.zero_add])
    repeat ((first | refine V.s1 ?_ | ((try ((with_reducible refine .ext ?_); (conv => whnf); (try simp only [hq1, hq2, hm, hm2, Nat.zero_add]))); (with_reducible refine call_intro (r := ?_) ?_ ?_); rotate_left; (focus (first | exact (hC) | exact (rorders_c) | exact (hval 0))); (conv => whnf))); (try simp only [hq1, hq2, hm, hm2, Nat.zero_add]))
    refine lp_any (0) (fun k => k ≤ 3) (fun k => 3 - k) (fun k => [(11, .int .i64 k)]) (fun k => [(7, .arr .i64 (n3L (stX (x0, x1, x2) (ordA 5) k))), (10, .box (stD (fun k => sb (c k) (c 0)) k))]) ?_ ?_ ?_
    exact V.wk
    exact Nat.zero_le _
    intro k hk
    (conv => whnf)
    (try simp only [Nat.zero_add])
    repeat ((first | refine V.s1 ?_); (try simp only [Nat.zero_add]))
    refine Cnd.split (CondB.mk (fun hq => ?_) (fun hq => ?_))
    · rw [decide_eq_true_eq] at hq
      have hk3 : k = 0 ∨ k = 1 ∨ k = 2 := by omega
      rcases hk3 with e | e | e
      · subst e
        simp only [stX, stD, n3L, ordA, inc3, k0]
        (conv => whnf)
        (try simp only [Nat.zero_add])
        repeat ((first | refine V.s1 ?_); (try simp only [Nat.zero_add]))
        refine ⟨(.take 0 (.take 1 (.take 2 (.take 3 (.take 4 (.take 5 (.take 6 (.take 7 (.take 8 (.take 9 (.ev (.cons 10 [] (.done) (.nil))))))))))))), ⟨by kernel_rfl, by kernel_rfl, by kernel_rfl⟩, .go ?_⟩
        (conv => whnf)
        (try simp only [zU8_0])
        repeat ((first | refine V.s1 ?_); (try simp only [zU8_0]))
        refine ⟨(.take 0 (.take 1 (.take 2 (.take 4 (.ev (.cons 3 [4, 0] (.ev (.cons 5 [0] (.take 6 (.ev (.cons 7 [] (.done) (.nil)))) (.nil))) (.nil))))))), ⟨by kernel_rfl, by kernel_rfl, by kernel_rfl⟩, .go ?_⟩
        (conv => whnf)
        (try simp only [zU8_0])
        repeat ((first | refine V.s1 ?_ | ((try ((with_reducible refine .ext ?_); (conv => whnf); (try simp only [zU8_0]))); (with_reducible refine call_intro (r := ?_) ?_ ?_); rotate_left; (focus (first | exact (hval 1) | exact (rminus_c .mkI .mkI (hvl _) (hvl _)))); (conv => whnf))); (try simp only [zU8_0]))
        exact ⟨1, by omega, by omega, V.wk⟩
      · subst e
        simp only [stX, stD, n3L, ordA, inc3, k1]
        (conv => whnf)
        (try simp only [Nat.zero_add])
        repeat ((first | refine V.s1 ?_); (try simp only [Nat.zero_add]))
        refine ⟨(.take 0 (.take 1 (.take 2 (.take 3 (.take 4 (.take 5 (.take 6 (.take 7 (.take 8 (.take 9 (.ev (.cons 10 [] (.done) (.nil))))))))))))), ⟨by kernel_rfl, by kernel_rfl, by kernel_rfl⟩, .go ?_⟩
        (conv => whnf)
        (try simp only [zU8_0])
        repeat ((first | refine V.s1 ?_); (try simp only [zU8_0]))
        refine ⟨(.take 0 (.take 1 (.take 2 (.take 4 (.ev (.cons 3 [4, 0] (.ev (.cons 5 [0] (.take 6 (.ev (.cons 7 [] (.done) (.nil)))) (.nil))) (.nil))))))), ⟨by kernel_rfl, by kernel_rfl, by kernel_rfl⟩, .go ?_⟩
        (conv => whnf)
        (try simp only [zU8_0])
        repeat ((first | refine V.s1 ?_ | ((try ((with_reducible refine .ext ?_); (conv => whnf); (try simp only [zU8_0]))); (with_reducible refine call_intro (r := ?_) ?_ ?_); rotate_left; (focus (first | exact (hval 2) | exact (rminus_c .mkI .mkI (hvl _) (hvl _)))); (conv => whnf))); (try simp only [zU8_0]))
        exact ⟨2, by omega, by omega, V.wk⟩
      · subst e
        simp only [stX, stD, n3L, ordA, inc3, k2]
        (conv => whnf)
        (try simp only [Nat.zero_add])
        repeat ((first | refine V.s1 ?_); (try simp only [Nat.zero_add]))
        refine ⟨(.take 0 (.take 1 (.take 2 (.take 3 (.take 4 (.take 5 (.take 6 (.take 7 (.take 8 (.take 9 (.ev (.cons 10 [] (.done) (.nil))))))))))))), ⟨by kernel_rfl, by kernel_rfl, by kernel_rfl⟩, .go ?_⟩
        (conv => whnf)
        (try simp only [zU8_0])
        repeat ((first | refine V.s1 ?_); (try simp only [zU8_0]))
        refine ⟨(.take 0 (.take 1 (.take 2 (.take 4 (.ev (.cons 3 [4, 0] (.ev (.cons 5 [0] (.take 6 (.ev (.cons 7 [] (.done) (.nil)))) (.nil))) (.nil))))))), ⟨by kernel_rfl, by kernel_rfl, by kernel_rfl⟩, .go ?_⟩
        (conv => whnf)
        (try simp only [zU8_0])
        repeat ((first | refine V.s1 ?_ | ((try ((with_reducible refine .ext ?_); (conv => whnf); (try simp only [zU8_0]))); (with_reducible refine call_intro (r := ?_) ?_ ?_); rotate_left; (focus (first | exact (hval 3) | exact (rminus_c .mkI .mkI (hvl _) (hvl _)))); (conv => whnf))); (try simp only [zU8_0]))
        exact ⟨3, by omega, by omega, V.wk⟩
    · rw [decide_eq_false_iff_not] at hq
      have hk3 : k = 3 := by omega
      subst hk3
      simp only [stX, stD, n3L, ordA, inc3, k3]
      (conv => whnf)
      (try simp only [Nat.zero_add])
      repeat ((first | refine V.s1 ?_ | ((try ((with_reducible refine .ext ?_); (conv => whnf); (try simp only [Nat.zero_add]))); (with_reducible refine call_intro (r := ?_) ?_ ?_); rotate_left; (focus (first | exact (rminus_c .mkI .mkI ht (hvl 0)))); (conv => whnf))); (try simp only [Nat.zero_add]))
      refine ⟨(.take 0 (.take 1 (.take 2 (.take 3 (.take 4 (.take 6 (.take 7 (.take 8 (.take 9 (.take 10 (.take 12 (.take 13 (.take 14 (.take 15 (.take 16 (.take 18 (.take 19 (.take 20 (.take 21 (.take 22 (.take 23 (.ev (.cons 5 [23, 22, 21, 20, 19, 18, 16, 15, 14, 13, 12, 10, 9, 8, 7, 6] (.ev (.cons 11 [23, 22, 21, 20, 19, 18, 16, 15, 14, 13, 12] (.ev (.cons 17 [23, 22, 21, 20, 19, 18] (.ev (.cons 24 [] (.take 25 (.ev (.cons 26 [] (.done) (.nil)))) (.nil))) (.nil))) (.nil))) (.nil)))))))))))))))))))))))), ⟨by kernel_rfl, by kernel_rfl, by kernel_rfl⟩, .go ?_⟩
      (conv => whnf)
      (try simp only [Nat.zero_add])
      repeat ((first | refine V.s1 ?_ | ((try ((with_reducible refine .ext ?_); (conv => whnf); (try simp only [Nat.zero_add]))); (with_reducible refine call_intro (r := ?_) ?_ ?_); rotate_left; (focus (first | exact (rdet_c .mkI .mkD .mkD hgb (hrb 2) (hrb 3)) | exact (rdet_c .mkD .mkI .mkD (hrb 1) hgb (hrb 3)) | exact (rdet_c .mkD .mkD .mkI (hrb 1) (hrb 2) hgb) | exact (rdet_c .mkD .mkD .mkD (hrb 1) (hrb 2) (hrb 3)))); (conv => whnf))); (try simp only [Nat.zero_add]))
      exact Fin.of rfl
end Go.Proofs.YtlcaefokcnohnaaGreatDoor
end
section
namespace Go.Proofs.YtlcaefokcnohnaaGreatDoor
open Go Go.V
theorem g4_0 (a b c d : Int) : [a, b, c, d].getD 0 0 = a := rfl
theorem g4_1 (a b c d : Int) : [a, b, c, d].getD 1 0 = b := rfl
theorem g4_2 (a b c d : Int) : [a, b, c, d].getD 2 0 = c := rfl
theorem g4_3 (a b c d : Int) : [a, b, c, d].getD 3 0 = d := rfl
theorem i4_0 (a b c d : Int) : [a, b, c, d].getD (0 : Int).toNat 0 = a := rfl
theorem i4_1 (a b c d : Int) : [a, b, c, d].getD (1 : Int).toNat 0 = b := rfl
theorem i4_2 (a b c d : Int) : [a, b, c, d].getD (2 : Int).toNat 0 = c := rfl
theorem i4_3 (a b c d : Int) : [a, b, c, d].getD (3 : Int).toNat 0 = d := rfl
theorem hld_zero {v0 v1 v2 v3 t : V3} (h : dt (sb v1 v0) (sb v2 v0) (sb v3 v0) = 0) : hld v0 v1 v2 v3 t = none := by
  unfold hld
  dsimp only
  rw [if_pos (.inl h)]
theorem hld_pos {v0 v1 v2 v3 t : V3} {a b c W : Int} (eW : dt (sb v1 v0) (sb v2 v0) (sb v3 v0) = W) (ea : dt (sb t v0) (sb v2 v0) (sb v3 v0) = a) (eb : dt (sb v1 v0) (sb t v0) (sb v3 v0) = b) (ec : dt (sb v1 v0) (sb v2 v0) (sb t v0) = c) (h : 0 < W) :
    hld v0 v1 v2 v3 t = if 0 ≤ a ∧ 0 ≤ b ∧ 0 ≤ c ∧ a + b + c ≤ W then some (a, b, c, W) else none := by
  have es : sg1 W = 1 := by unfold sg1; rw [if_neg (by omega)]
  unfold hld
  dsimp only
  rw [eW, ea, eb, ec, es]
  simp only [Int.one_mul, Int.mul_one]
  split
  · rw [if_neg (by omega)]
  · rw [if_pos (by omega)]
theorem hld_neg {v0 v1 v2 v3 t : V3} {a b c W : Int} (eW : dt (sb v1 v0) (sb v2 v0) (sb v3 v0) = W) (ea : dt (sb t v0) (sb v2 v0) (sb v3 v0) = a) (eb : dt (sb v1 v0) (sb t v0) (sb v3 v0) = b) (ec : dt (sb v1 v0) (sb v2 v0) (sb t v0) = c) (h : W < 0) :
    hld v0 v1 v2 v3 t = if 0 ≤ -a ∧ 0 ≤ -b ∧ 0 ≤ -c ∧ -a + -b + -c ≤ -W then some (-a, -b, -c, -W) else none := by
  have es : sg1 W = -1 := by unfold sg1; rw [if_pos h]
  unfold hld
  dsimp only
  rw [eW, ea, eb, ec, es]
  have n1 : ∀ x : Int, -1 * x = -x := fun x => by omega
  have n2 : W * -1 = -W := by omega
  simp only [n1, n2]
  split
  · rw [if_neg (by omega)]
  · rw [if_pos (by omega)]
theorem zU9_0 : type_of% @Nat.zero_add ∧ type_of% @g4_0 ∧ type_of% @g4_1 ∧ type_of% @g4_2 ∧ type_of% @g4_3 ∧ type_of% @i4_0 ∧ type_of% @i4_1 ∧ type_of% @i4_2 ∧ type_of% @i4_3 := ⟨@Nat.zero_add, @g4_0, @g4_1, @g4_2, @g4_3, @i4_0, @i4_1, @i4_2, @i4_3⟩
theorem rheld_0 {s0 s1 s2 : Nat} {data : List Int} (C : Cu s0 s1 s2 data) {n : Nat} (hn : n < 6 * cellsN s0 s1 s2) {t : V3} (ht : Vl t) : ∃ a b c d,
    Called Tryz.prog 21 [gridD (sz3 s0 s1 s2) 3 data, .int .i64 n, v3I t] (.tup [.iarr .i64 [a, b, c], .int .i64 d, .bool (hldN data s1 s2 n t).isSome]) ∧ ∀ r, hldN data s1 s2 n t = some r → r = (a, b, c, d) := by
  obtain ⟨c, hc⟩ : ∃ c : Nat → V3, ∀ k, c k = cnr data s1 s2 (stX (cellN s1 s2 n) (ordA (n % 6)) k) := ⟨_, fun _ => rfl⟩
  have hw := rweights_0 C hn ht c hc
  have eh : hldN data s1 s2 n t = hld (c 0) (c 1) (c 2) (c 3) t := by rw [hc, hc, hc, hc]; rfl
  rw [eh]
  have hvl : ∀ k, Vl (c k) := fun k => by rw [hc k]; exact gv_vl C.hd _
  have hrb : ∀ k, Bd3 65535 (sb (c k) (c 0)) := fun k => sb_bd (hvl k) (hvl 0)
  have hgb : Bd3 65535 (sb t (c 0)) := sb_bd ht (hvl 0)
  clear hc eh hvl
  have ba := dt_bd hgb (hrb 2) (hrb 3)
  have bb := dt_bd (hrb 1) hgb (hrb 3)
  have bc := dt_bd (hrb 1) (hrb 2) hgb
  have bW := dt_bd (hrb 1) (hrb 2) (hrb 3)
  clear hrb hgb
  unfold wR at hw
  obtain ⟨wa, ea⟩ : ∃ wa, dt (sb t (c 0)) (sb (c 2) (c 0)) (sb (c 3) (c 0)) = wa := ⟨_, rfl⟩
  obtain ⟨wb, eb⟩ : ∃ wb, dt (sb (c 1) (c 0)) (sb t (c 0)) (sb (c 3) (c 0)) = wb := ⟨_, rfl⟩
  obtain ⟨wc, ec⟩ : ∃ wc, dt (sb (c 1) (c 0)) (sb (c 2) (c 0)) (sb t (c 0)) = wc := ⟨_, rfl⟩
  obtain ⟨W, eW⟩ : ∃ W, dt (sb (c 1) (c 0)) (sb (c 2) (c 0)) (sb (c 3) (c 0)) = W := ⟨_, rfl⟩
  rw [ea, eb, ec, eW] at hw
  rw [ea] at ba
  rw [eb] at bb
  rw [ec] at bc
  rw [eW] at bW
  unfold Bd at ba bb bc bW
  unfold gridD at hw ⊢
  generalize sz3 s0 s1 s2 = sz at *
  rcases Int.lt_trichotomy W 0 with h | h | h
  · rw [hld_neg eW ea eb ec h]
    refine ⟨-wa, -wb, -wc, -W, ?_, fun r hr => by split at hr <;> simp_all⟩
    clear eW ea eb ec
    refine called_of_run tbOk 6 ⟨Tryz.func21, rfl, rfl, Nat.le_of_ble_eq_true rfl⟩ ?_
    (conv => whnf)
    (conv => whnf)
    (try simp only [zU9_0])
    repeat ((first | refine V.s1 ?_ | ((try ((with_reducible refine .ext ?_); (conv => whnf); (try simp only [zU9_0]))); (with_reducible refine call_intro (r := ?_) ?_ ?_); rotate_left; (focus (first | exact (hw))); (conv => whnf))); (try simp only [zU9_0]))
    refine Cnd.split (CondB.mk (fun hq => ?_) (fun hq => ?_))
    · simp only [decide_eq_true_eq] at hq
      omega
    (conv => whnf)
    (try simp only [zU9_0])
    repeat ((first | refine V.s1 ?_); (try simp only [zU9_0]))
    refine Cnd.split (CondB.mk (fun hq2 => ?_) (fun hq2 => ?_))
    rotate_left
    · simp only [decide_eq_false_iff_not] at hq2
      omega
    (conv => whnf)
    (try simp only [zU9_0])
    repeat ((first | refine V.s1 ?_); (try simp only [zU9_0]))
    refine ⟨(.take 0 (.take 1 (.take 2 (.take 3 (.take 4 (.take 5 (.take 6 (.take 7 (.take 8 (.take 9 (.ev (.cons 10 [9, 8, 7] (.take 11 (.take 12 (.done))) (.nil))))))))))))), ⟨by kernel_rfl, by kernel_rfl, by kernel_rfl⟩, .go ?_⟩
    (conv => whnf)
    (try simp only [zU9_0])
    repeat ((first | refine V.s1 ?_); (try simp only [zU9_0]))
    simp only [Int.zero_sub]
    refine Fin.of ?_
    generalize -wa = a
    generalize -wb = b
    generalize -wc = e
    generalize -W = d
    by_cases p1 : 0 ≤ a <;> by_cases p2 : 0 ≤ b <;> by_cases p3 : 0 ≤ e <;> by_cases p4 : a + b + e ≤ d <;> simp [p1, p2, p3, p4]
  · rw [hld_zero (eW.trans h)]
    refine ⟨0, 0, 0, 0, ?_, fun r hr => by cases hr⟩
    clear eW ea eb ec
    subst h
    refine called_of_run tbOk 6 ⟨Tryz.func21, rfl, rfl, Nat.le_of_ble_eq_true rfl⟩ ?_
    (conv => whnf)
    (conv => whnf)
    (try simp only [Nat.zero_add, g4_3, i4_3])
    repeat ((first | refine V.s1 ?_ | ((try ((with_reducible refine .ext ?_); (conv => whnf); (try simp only [Nat.zero_add, g4_3, i4_3]))); (with_reducible refine call_intro (r := ?_) ?_ ?_); rotate_left; (focus (first | exact (hw))); (conv => whnf))); (try simp only [Nat.zero_add, g4_3, i4_3]))
    exact Fin.of rfl
  · rw [hld_pos eW ea eb ec h]
    refine ⟨wa, wb, wc, W, ?_, fun r hr => by split at hr <;> simp_all⟩
    clear eW ea eb ec
    refine called_of_run tbOk 6 ⟨Tryz.func21, rfl, rfl, Nat.le_of_ble_eq_true rfl⟩ ?_
    (conv => whnf)
    (conv => whnf)
    (try simp only [zU9_0])
    repeat ((first | refine V.s1 ?_ | ((try ((with_reducible refine .ext ?_); (conv => whnf); (try simp only [zU9_0]))); (with_reducible refine call_intro (r := ?_) ?_ ?_); rotate_left; (focus (first | exact (hw))); (conv => whnf))); (try simp only [zU9_0]))
    refine Cnd.split (CondB.mk (fun hq => ?_) (fun hq => ?_))
    · simp only [decide_eq_true_eq] at hq
      omega
    (conv => whnf)
    (try simp only [zU9_0])
    repeat ((first | refine V.s1 ?_); (try simp only [zU9_0]))
    refine Cnd.split (CondB.mk (fun hq2 => ?_) (fun hq2 => ?_))
    · simp only [decide_eq_true_eq] at hq2
      omega
    (conv => whnf)
    (try simp only [zU9_0])
    repeat ((first | refine V.s1 ?_); (try simp only [zU9_0]))
    refine ⟨(.take 0 (.take 1 (.take 2 (.take 3 (.take 4 (.take 5 (.take 6 (.take 7 (.take 8 (.take 9 (.ev (.cons 10 [9, 8, 7] (.take 11 (.take 12 (.done))) (.nil))))))))))))), ⟨by kernel_rfl, by kernel_rfl, by kernel_rfl⟩, .go ?_⟩
    (conv => whnf)
    (try simp only [zU9_0])
    repeat ((first | refine V.s1 ?_); (try simp only [zU9_0]))
    refine Fin.of ?_
    by_cases p1 : 0 ≤ wa <;> by_cases p2 : 0 ≤ wb <;> by_cases p3 : 0 ≤ wc <;> by_cases p4 : wa + wb + wc ≤ W <;> simp [p1, p2, p3, p4]
end Go.Proofs.YtlcaefokcnohnaaGreatDoor
end
section
namespace Go.Proofs.YtlcaefokcnohnaaGreatDoor
open Go Go.V
theorem sm1 : (1 : Int) - 1 = 0 := rfl
theorem sm2 : (2 : Int) - 1 = 1 := rfl
theorem sm3 : (3 : Int) - 1 = 2 := rfl
theorem s3_0 (a b c d : Int) : [a, b, c].set 0 d = [d, b, c] := rfl
theorem s3_1 (a b c d : Int) : [a, b, c].set 1 d = [a, d, c] := rfl
theorem s3_2 (a b c d : Int) : [a, b, c].set 2 d = [a, b, d] := rfl
theorem tn3 : (3 : Int).toNat = 3 := rfl
theorem cp_j (data : List Int) (p j : Nat) (h : j < 3) : ((data.take ((p : Int) * 3 + 3).toNat).drop ((p : Int) * 3).toNat).getD j 0 = data.getD (3 * p + j) 0 := by
  have e1 : ((p : Int) * 3).toNat = 3 * p := by omega
  have e2 : ((p : Int) * 3 + 3).toNat = 3 * p + 3 := by omega
  rw [e1, e2, List.getD_eq_getElem?_getD, List.getD_eq_getElem?_getD, List.getElem?_drop, List.getElem?_take, if_pos (by omega)]
theorem cp_0 (data : List Int) (p : Nat) : ((data.take ((p : Int) * 3 + 3).toNat).drop ((p : Int) * 3).toNat).getD 0 0 = (gv data p).1 := cp_j data p 0 (by omega)
theorem cp_1 (data : List Int) (p : Nat) : ((data.take ((p : Int) * 3 + 3).toNat).drop ((p : Int) * 3).toNat).getD 1 0 = (gv data p).2.1 := cp_j data p 1 (by omega)
theorem cp_2 (data : List Int) (p : Nat) : ((data.take ((p : Int) * 3 + 3).toNat).drop ((p : Int) * 3).toNat).getD (1 + 1) 0 = (gv data p).2.2 := cp_j data p 2 (by omega)
def v3L (a : V3) : List Int := [a.1, a.2.1, a.2.2]
def zL : List Int := [0, 0, 0]
def tetL (x o : N3) (c : Nat → V3) : Nat → List Int
  | 0 => n3L x ++ n3L o ++ zL ++ zL ++ zL ++ zL
  | 1 => n3L x ++ n3L o ++ v3L (c 0) ++ zL ++ zL ++ zL
  | 2 => n3L x ++ n3L o ++ v3L (c 0) ++ v3L (c 1) ++ zL ++ zL
  | 3 => n3L x ++ n3L o ++ v3L (c 0) ++ v3L (c 1) ++ v3L (c 2) ++ zL
  | _ => n3L x ++ n3L o ++ v3L (c 0) ++ v3L (c 1) ++ v3L (c 2) ++ v3L (c 3)
def tetD (x o : N3) (c : Nat → V3) : D := .agg ((tetL x o c 4).map (D.int .i64))
theorem zU10_0 : type_of% @Nat.zero_add ∧ type_of% @cs1 ∧ type_of% @g3_0 ∧ type_of% @g3_1 ∧ type_of% @g3_2 ∧ type_of% @i3_0 ∧ type_of% @i3_1 ∧ type_of% @i3_2 ∧ type_of% @k0 ∧ type_of% @k1 ∧ type_of% @k2 ∧ type_of% @s3_0 ∧ type_of% @s3_1 ∧ type_of% @s3_2 ∧ type_of% @sm1 ∧ type_of% @sm2 ∧ type_of% @sm3 ∧ type_of% @tn0 ∧ type_of% @tn1 ∧ type_of% @tn2 := ⟨@Nat.zero_add, @cs1, @g3_0, @g3_1, @g3_2, @i3_0, @i3_1, @i3_2, @k0, @k1, @k2, @s3_0, @s3_1, @s3_2, @sm1, @sm2, @sm3, @tn0, @tn1, @tn2⟩
theorem zU10_1 : type_of% @Nat.zero_add ∧ type_of% @cp_0 ∧ type_of% @cp_1 ∧ type_of% @cp_2 ∧ type_of% @cs1 ∧ type_of% @g3_0 ∧ type_of% @g3_1 ∧ type_of% @g3_2 ∧ type_of% @i3_0 ∧ type_of% @i3_1 ∧ type_of% @i3_2 ∧ type_of% @k0 ∧ type_of% @k1 ∧ type_of% @k2 ∧ type_of% @s3_0 ∧ type_of% @s3_1 ∧ type_of% @s3_2 ∧ type_of% @sm1 ∧ type_of% @sm2 ∧ type_of% @sm3 ∧ type_of% @tn0 ∧ type_of% @tn1 ∧ type_of% @tn2 ∧ type_of% @tn3 := ⟨@Nat.zero_add, @cp_0, @cp_1, @cp_2, @cs1, @g3_0, @g3_1, @g3_2, @i3_0, @i3_1, @i3_2, @k0, @k1, @k2, @s3_0, @s3_1, @s3_2, @sm1, @sm2, @sm3, @tn0, @tn1, @tn2, @tn3⟩
theorem made_0 {s0 s1 s2 : Nat} {data : List Int} (C : Cu s0 s1 s2 data) {x : N3} {o : Nat} (ho : o < 6) (hx : x.1 + 1 < s0 ∧ x.2.1 + 1 < s1 ∧ x.2.2 + 1 < s2) (c : Nat → V3) (hc : ∀ k, c k = cnr data s1 s2 (stX x (ordA o) k)) :
    Called Tryz.prog 32 [gridD (sz3 s0 s1 s2) 3 data, n3D x, n3I (ordA o)] (tetD x (ordA o) c) := by
  have h0 := C.h0
  have h1 := C.h1
  have h2 := C.h2
  have z0 := sz3_0 s0 s1 s2
  have z1 := sz3_1 s0 s1 s2
  have z2 := sz3_2 s0 s1 s2
  have zl := sz3_len s0 s1 s2
  have y1 : (sz3 s0 s1 s2).getD 1 0 = s1 := rfl
  have y2 : (sz3 s0 s1 s2).getD 2 0 = s2 := rfl
  have hf : ∀ k, _ := fun k => plc_facts C (stX_in hx ho k)
  have he : ∀ k, _ := fun k => plc_cast s1 s2 (stX x (ordA o) k)
  have hcv : ∀ k, c k = gv data (plc s1 s2 (stX x (ordA o) k)) := hc
  clear hc
  unfold gridD
  generalize sz3 s0 s1 s2 = sz at *
  obtain ⟨x0, x1, x2⟩ := x
  dsimp only at hx
  unfold n3D n3I
  have h6 : o = 0 ∨ o = 1 ∨ o = 2 ∨ o = 3 ∨ o = 4 ∨ o = 5 := by omega
  rcases h6 with h6 | h6 | h6 | h6 | h6 | h6
  all_goals subst h6
  · refine called_of_run tbOk 6 ⟨Tryz.func32, rfl, rfl, Nat.le_of_ble_eq_true rfl⟩ ?_
    (conv => whnf)
    (conv => whnf)
    (try simp only [Nat.zero_add])
    repeat ((first | refine V.s1 ?_); (try simp only [Nat.zero_add]))
    refine lp_any (0) (fun k => k ≤ 4) (fun k => 4 - k) (fun k => [(15, .int .i64 k)]) (fun k => [(8, .arr .i64 (n3L (stX (x0, x1, x2) (ordA 0) (k - 1)))), (7, .box ((tetL (x0, x1, x2) (ordA 0) c k).map (D.int .i64)))]) ?_ ?_ ?_
    exact V.wk
    exact Nat.zero_le _
    intro k hk
    (conv => whnf)
    (try simp only [Nat.zero_add])
    repeat ((first | refine V.s1 ?_); (try simp only [Nat.zero_add]))
    refine Cnd.split (CondB.mk (fun hq => ?_) (fun hq => ?_))
    · rw [decide_eq_true_eq] at hq
      have hk3 : k = 0 ∨ k = 1 ∨ k = 2 ∨ k = 3 := by omega
      rcases hk3 with e | e | e | e
      · subst e
        have e0 := he 0
        have f0 := hf 0
        have c0 := (hcv 0).symm
        simp only [stX, n3L, v3L, ordA, inc3, k0, tetL, zL, List.cons_append, List.nil_append, List.map_cons, List.map_nil, Nat.zero_sub, Nat.sub_self, Nat.add_one_sub_one, Nat.reduceSub] at e0 f0 c0 ⊢
        (conv => whnf)
        (try simp only [zU10_0])
        repeat ((first | refine V.s1 ?_); (try simp only [zU10_0]))
        refine ⟨(.take 0 (.take 1 (.take 2 (.take 3 (.take 4 (.take 5 (.take 6 (.take 7 (.take 8 (.take 9 (.take 10 (.take 11 (.take 12 (.take 13 (.take 14 (.take 15 (.take 16 (.take 17 (.take 18 (.take 19 (.take 20 (.take 21 (.done))))))))))))))))))))))), ⟨by kernel_rfl, by kernel_rfl, by kernel_rfl⟩, .go ?_⟩
        (conv => whnf)
        (try simp only [zU10_1, z1, z2, y1, y2, e0, c0])
        repeat ((first | refine V.s1 ?_); (try simp only [zU10_1, z1, z2, y1, y2, e0, c0]))
        refine ⟨(.take 0 (.take 1 (.take 2 (.take 3 (.take 4 (.take 5 (.take 6 (.take 7 (.take 8 (.take 9 (.ev (.cons 10 [] (.done) (.nil))))))))))))), ⟨by kernel_rfl, by kernel_rfl, by kernel_rfl⟩, .go ?_⟩
        (conv => whnf)
        (try simp only [zU10_1, z1, z2, y1, y2, e0, c0])
        repeat ((first | refine V.s1 ?_); (try simp only [zU10_1, z1, z2, y1, y2, e0, c0]))
        exact ⟨1, by omega, by omega, V.wk⟩
      · subst e
        have e0 := he 1
        have f0 := hf 1
        have c0 := (hcv 1).symm
        simp only [stX, n3L, v3L, ordA, inc3, k1, tetL, zL, List.cons_append, List.nil_append, List.map_cons, List.map_nil, Nat.zero_sub, Nat.sub_self, Nat.add_one_sub_one, Nat.reduceSub] at e0 f0 c0 ⊢
        (conv => whnf)
        (try simp only [zU10_0])
        repeat ((first | refine V.s1 ?_); (try simp only [zU10_0]))
        refine ⟨(.take 0 (.take 1 (.take 2 (.take 3 (.take 4 (.take 5 (.take 6 (.take 7 (.take 8 (.take 9 (.take 10 (.take 11 (.take 12 (.take 13 (.take 14 (.take 15 (.take 16 (.take 17 (.take 18 (.take 19 (.take 20 (.take 21 (.done))))))))))))))))))))))), ⟨by kernel_rfl, by kernel_rfl, by kernel_rfl⟩, .go ?_⟩
        (conv => whnf)
        (try simp only [zU10_1, z1, z2, y1, y2, e0, c0])
        repeat ((first | refine V.s1 ?_); (try simp only [zU10_1, z1, z2, y1, y2, e0, c0]))
        refine ⟨(.take 0 (.take 1 (.take 2 (.take 3 (.take 4 (.take 5 (.take 6 (.take 7 (.take 8 (.take 9 (.ev (.cons 10 [] (.done) (.nil))))))))))))), ⟨by kernel_rfl, by kernel_rfl, by kernel_rfl⟩, .go ?_⟩
        (conv => whnf)
        (try simp only [zU10_1, z1, z2, y1, y2, e0, c0])
        repeat ((first | refine V.s1 ?_); (try simp only [zU10_1, z1, z2, y1, y2, e0, c0]))
        exact ⟨2, by omega, by omega, V.wk⟩
      · subst e
        have e0 := he 2
        have f0 := hf 2
        have c0 := (hcv 2).symm
        simp only [stX, n3L, v3L, ordA, inc3, k2, tetL, zL, List.cons_append, List.nil_append, List.map_cons, List.map_nil, Nat.zero_sub, Nat.sub_self, Nat.add_one_sub_one, Nat.reduceSub] at e0 f0 c0 ⊢
        (conv => whnf)
        (try simp only [zU10_0])
        repeat ((first | refine V.s1 ?_); (try simp only [zU10_0]))
        refine ⟨(.take 0 (.take 1 (.take 2 (.take 3 (.take 4 (.take 5 (.take 6 (.take 7 (.take 8 (.take 9 (.take 10 (.take 11 (.take 12 (.take 13 (.take 14 (.take 15 (.take 16 (.take 17 (.take 18 (.take 19 (.take 20 (.take 21 (.done))))))))))))))))))))))), ⟨by kernel_rfl, by kernel_rfl, by kernel_rfl⟩, .go ?_⟩
        (conv => whnf)
        (try simp only [zU10_1, z1, z2, y1, y2, e0, c0])
        repeat ((first | refine V.s1 ?_); (try simp only [zU10_1, z1, z2, y1, y2, e0, c0]))
        refine ⟨(.take 0 (.take 1 (.take 2 (.take 3 (.take 4 (.take 5 (.take 6 (.take 7 (.take 8 (.take 9 (.ev (.cons 10 [] (.done) (.nil))))))))))))), ⟨by kernel_rfl, by kernel_rfl, by kernel_rfl⟩, .go ?_⟩
        (conv => whnf)
        (try simp only [zU10_1, z1, z2, y1, y2, e0, c0])
        repeat ((first | refine V.s1 ?_); (try simp only [zU10_1, z1, z2, y1, y2, e0, c0]))
        exact ⟨3, by omega, by omega, V.wk⟩
      · subst e
        have e0 := he 3
        have f0 := hf 3
        have c0 := (hcv 3).symm
        simp only [stX, n3L, v3L, ordA, inc3, k3, tetL, zL, List.cons_append, List.nil_append, List.map_cons, List.map_nil, Nat.zero_sub, Nat.sub_self, Nat.add_one_sub_one, Nat.reduceSub] at e0 f0 c0 ⊢
        (conv => whnf)
        (try simp only [zU10_0])
        repeat ((first | refine V.s1 ?_); (try simp only [zU10_0]))
        refine ⟨(.take 0 (.take 1 (.take 2 (.take 3 (.take 4 (.take 5 (.take 6 (.take 7 (.take 8 (.take 9 (.take 10 (.take 11 (.take 12 (.take 13 (.take 14 (.take 15 (.take 16 (.take 17 (.take 18 (.take 19 (.take 20 (.take 21 (.done))))))))))))))))))))))), ⟨by kernel_rfl, by kernel_rfl, by kernel_rfl⟩, .go ?_⟩
        (conv => whnf)
        (try simp only [zU10_1, z1, z2, y1, y2, e0, c0])
        repeat ((first | refine V.s1 ?_); (try simp only [zU10_1, z1, z2, y1, y2, e0, c0]))
        refine ⟨(.take 0 (.take 1 (.take 2 (.take 3 (.take 4 (.take 5 (.take 6 (.take 7 (.take 8 (.take 9 (.ev (.cons 10 [] (.done) (.nil))))))))))))), ⟨by kernel_rfl, by kernel_rfl, by kernel_rfl⟩, .go ?_⟩
        (conv => whnf)
        (try simp only [zU10_1, z1, z2, y1, y2, e0, c0])
        repeat ((first | refine V.s1 ?_); (try simp only [zU10_1, z1, z2, y1, y2, e0, c0]))
        exact ⟨4, by omega, by omega, V.wk⟩
    · rw [decide_eq_false_iff_not] at hq
      have hk3 : k = 4 := by omega
      subst hk3
      (conv => whnf)
      (try simp only [Nat.zero_add])
      repeat ((first | refine V.s1 ?_); (try simp only [Nat.zero_add]))
      exact Fin.of rfl
  · refine called_of_run tbOk 6 ⟨Tryz.func32, rfl, rfl, Nat.le_of_ble_eq_true rfl⟩ ?_
    (conv => whnf)
    (conv => whnf)
    (try simp only [Nat.zero_add])
    repeat ((first | refine V.s1 ?_); (try simp only [Nat.zero_add]))
    refine lp_any (0) (fun k => k ≤ 4) (fun k => 4 - k) (fun k => [(15, .int .i64 k)]) (fun k => [(8, .arr .i64 (n3L (stX (x0, x1, x2) (ordA 1) (k - 1)))), (7, .box ((tetL (x0, x1, x2) (ordA 1) c k).map (D.int .i64)))]) ?_ ?_ ?_
    exact V.wk
    exact Nat.zero_le _
    intro k hk
    (conv => whnf)
    (try simp only [Nat.zero_add])
    repeat ((first | refine V.s1 ?_); (try simp only [Nat.zero_add]))
    refine Cnd.split (CondB.mk (fun hq => ?_) (fun hq => ?_))
    · rw [decide_eq_true_eq] at hq
      have hk3 : k = 0 ∨ k = 1 ∨ k = 2 ∨ k = 3 := by omega
      rcases hk3 with e | e | e | e
      · subst e
        have e0 := he 0
        have f0 := hf 0
        have c0 := (hcv 0).symm
        simp only [stX, n3L, v3L, ordA, inc3, k0, tetL, zL, List.cons_append, List.nil_append, List.map_cons, List.map_nil, Nat.zero_sub, Nat.sub_self, Nat.add_one_sub_one, Nat.reduceSub] at e0 f0 c0 ⊢
        (conv => whnf)
        (try simp only [zU10_0])
        repeat ((first | refine V.s1 ?_); (try simp only [zU10_0]))
        refine ⟨(.take 0 (.take 1 (.take 2 (.take 3 (.take 4 (.take 5 (.take 6 (.take 7 (.take 8 (.take 9 (.take 10 (.take 11 (.take 12 (.take 13 (.take 14 (.take 15 (.take 16 (.take 17 (.take 18 (.take 19 (.take 20 (.take 21 (.done))))))))))))))))))))))), ⟨by kernel_rfl, by kernel_rfl, by kernel_rfl⟩, .go ?_⟩
        (conv => whnf)
        (try simp only [zU10_1, z1, z2, y1, y2, e0, c0])
        repeat ((first | refine V.s1 ?_); (try simp only [zU10_1, z1, z2, y1, y2, e0, c0]))
        refine ⟨(.take 0 (.take 1 (.take 2 (.take 3 (.take 4 (.take 5 (.take 6 (.take 7 (.take 8 (.take 9 (.ev (.cons 10 [] (.done) (.nil))))))))))))), ⟨by kernel_rfl, by kernel_rfl, by kernel_rfl⟩, .go ?_⟩
        (conv => whnf)
        (try simp only [zU10_1, z1, z2, y1, y2, e0, c0])
        repeat ((first | refine V.s1 ?_); (try simp only [zU10_1, z1, z2, y1, y2, e0, c0]))
        exact ⟨1, by omega, by omega, V.wk⟩
      · subst e
        have e0 := he 1
        have f0 := hf 1
        have c0 := (hcv 1).symm
        simp only [stX, n3L, v3L, ordA, inc3, k1, tetL, zL, List.cons_append, List.nil_append, List.map_cons, List.map_nil, Nat.zero_sub, Nat.sub_self, Nat.add_one_sub_one, Nat.reduceSub] at e0 f0 c0 ⊢
        (conv => whnf)
        (try simp only [zU10_0])
        repeat ((first | refine V.s1 ?_); (try simp only [zU10_0]))
        refine ⟨(.take 0 (.take 1 (.take 2 (.take 3 (.take 4 (.take 5 (.take 6 (.take 7 (.take 8 (.take 9 (.take 10 (.take 11 (.take 12 (.take 13 (.take 14 (.take 15 (.take 16 (.take 17 (.take 18 (.take 19 (.take 20 (.take 21 (.done))))))))))))))))))))))), ⟨by kernel_rfl, by kernel_rfl, by kernel_rfl⟩, .go ?_⟩
        (conv => whnf)
        (try simp only [zU10_1, z1, z2, y1, y2, e0, c0])
        repeat ((first | refine V.s1 ?_); (try simp only [zU10_1, z1, z2, y1, y2, e0, c0]))
        refine ⟨(.take 0 (.take 1 (.take 2 (.take 3 (.take 4 (.take 5 (.take 6 (.take 7 (.take 8 (.take 9 (.ev (.cons 10 [] (.done) (.nil))))))))))))), ⟨by kernel_rfl, by kernel_rfl, by kernel_rfl⟩, .go ?_⟩
        (conv => whnf)
        (try simp only [zU10_1, z1, z2, y1, y2, e0, c0])
        repeat ((first | refine V.s1 ?_); (try simp only [zU10_1, z1, z2, y1, y2, e0, c0]))
        exact ⟨2, by omega, by omega, V.wk⟩
      · subst e
        have e0 := he 2
        have f0 := hf 2
        have c0 := (hcv 2).symm
        simp only [stX, n3L, v3L, ordA, inc3, k2, tetL, zL, List.cons_append, List.nil_append, List.map_cons, List.map_nil, Nat.zero_sub, Nat.sub_self, Nat.add_one_sub_one, Nat.reduceSub] at e0 f0 c0 ⊢
        (conv => whnf)
        (try simp only [zU10_0])
        repeat ((first | refine V.s1 ?_); (try simp only [zU10_0]))
        refine ⟨(.take 0 (.take 1 (.take 2 (.take 3 (.take 4 (.take 5 (.take 6 (.take 7 (.take 8 (.take 9 (.take 10 (.take 11 (.take 12 (.take 13 (.take 14 (.take 15 (.take 16 (.take 17 (.take 18 (.take 19 (.take 20 (.take 21 (.done))))))))))))))))))))))), ⟨by kernel_rfl, by kernel_rfl, by kernel_rfl⟩, .go ?_⟩
        (conv => whnf)
        (try simp only [zU10_1, z1, z2, y1, y2, e0, c0])
        repeat ((first | refine V.s1 ?_); (try simp only [zU10_1, z1, z2, y1, y2, e0, c0]))
        refine ⟨(.take 0 (.take 1 (.take 2 (.take 3 (.take 4 (.take 5 (.take 6 (.take 7 (.take 8 (.take 9 (.ev (.cons 10 [] (.done) (.nil))))))))))))), ⟨by kernel_rfl, by kernel_rfl, by kernel_rfl⟩, .go ?_⟩
        (conv => whnf)
        (try simp only [zU10_1, z1, z2, y1, y2, e0, c0])
        repeat ((first | refine V.s1 ?_); (try simp only [zU10_1, z1, z2, y1, y2, e0, c0]))
        exact ⟨3, by omega, by omega, V.wk⟩
      · subst e
        have e0 := he 3
        have f0 := hf 3
        have c0 := (hcv 3).symm
        simp only [stX, n3L, v3L, ordA, inc3, k3, tetL, zL, List.cons_append, List.nil_append, List.map_cons, List.map_nil, Nat.zero_sub, Nat.sub_self, Nat.add_one_sub_one, Nat.reduceSub] at e0 f0 c0 ⊢
        (conv => whnf)
        (try simp only [zU10_0])
        repeat ((first | refine V.s1 ?_); (try simp only [zU10_0]))
        refine ⟨(.take 0 (.take 1 (.take 2 (.take 3 (.take 4 (.take 5 (.take 6 (.take 7 (.take 8 (.take 9 (.take 10 (.take 11 (.take 12 (.take 13 (.take 14 (.take 15 (.take 16 (.take 17 (.take 18 (.take 19 (.take 20 (.take 21 (.done))))))))))))))))))))))), ⟨by kernel_rfl, by kernel_rfl, by kernel_rfl⟩, .go ?_⟩
        (conv => whnf)
        (try simp only [zU10_1, z1, z2, y1, y2, e0, c0])
        repeat ((first | refine V.s1 ?_); (try simp only [zU10_1, z1, z2, y1, y2, e0, c0]))
        refine ⟨(.take 0 (.take 1 (.take 2 (.take 3 (.take 4 (.take 5 (.take 6 (.take 7 (.take 8 (.take 9 (.ev (.cons 10 [] (.done) (.nil))))))))))))), ⟨by kernel_rfl, by kernel_rfl, by kernel_rfl⟩, .go ?_⟩
        (conv => whnf)
        (try simp only [zU10_1, z1, z2, y1, y2, e0, c0])
        repeat ((first | refine V.s1 ?_); (try simp only [zU10_1, z1, z2, y1, y2, e0, c0]))
        exact ⟨4, by omega, by omega, V.wk⟩
    · rw [decide_eq_false_iff_not] at hq
      have hk3 : k = 4 := by omega
      subst hk3
      (conv => whnf)
      (try simp only [Nat.zero_add])
      repeat ((first | refine V.s1 ?_); (try simp only [Nat.zero_add]))
      exact Fin.of rfl
  · refine called_of_run tbOk 6 ⟨Tryz.func32, rfl, rfl, Nat.le_of_ble_eq_true rfl⟩ ?_
    (conv => whnf)
    (conv => whnf)
    (try simp only [Nat.zero_add])
    repeat ((first | refine V.s1 ?_); (try simp only [Nat.zero_add]))
    refine lp_any (0) (fun k => k ≤ 4) (fun k => 4 - k) (fun k => [(15, .int .i64 k)]) (fun k => [(8, .arr .i64 (n3L (stX (x0, x1, x2) (ordA 2) (k - 1)))), (7, .box ((tetL (x0, x1, x2) (ordA 2) c k).map (D.int .i64)))]) ?_ ?_ ?_
    exact V.wk
    exact Nat.zero_le _
    intro k hk
    (conv => whnf)
    (try simp only [Nat.zero_add])
    repeat ((first | refine V.s1 ?_); (try simp only [Nat.zero_add]))
    refine Cnd.split (CondB.mk (fun hq => ?_) (fun hq => ?_))
    · rw [decide_eq_true_eq] at hq
      have hk3 : k = 0 ∨ k = 1 ∨ k = 2 ∨ k = 3 := by omega
      rcases hk3 with e | e | e | e
      · subst e
        have e0 := he 0
        have f0 := hf 0
        have c0 := (hcv 0).symm
        simp only [stX, n3L, v3L, ordA, inc3, k0, tetL, zL, List.cons_append, List.nil_append, List.map_cons, List.map_nil, Nat.zero_sub, Nat.sub_self, Nat.add_one_sub_one, Nat.reduceSub] at e0 f0 c0 ⊢
        (conv => whnf)
        (try simp only [zU10_0])
        repeat ((first | refine V.s1 ?_); (try simp only [zU10_0]))
        refine ⟨(.take 0 (.take 1 (.take 2 (.take 3 (.take 4 (.take 5 (.take 6 (.take 7 (.take 8 (.take 9 (.take 10 (.take 11 (.take 12 (.take 13 (.take 14 (.take 15 (.take 16 (.take 17 (.take 18 (.take 19 (.take 20 (.take 21 (.done))))))))))))))))))))))), ⟨by kernel_rfl, by kernel_rfl, by kernel_rfl⟩, .go ?_⟩
        (conv => whnf)
        (try simp only [zU10_1, z1, z2, y1, y2, e0, c0])
        repeat ((first | refine V.s1 ?_); (try simp only [zU10_1, z1, z2, y1, y2, e0, c0]))
        refine ⟨(.take 0 (.take 1 (.take 2 (.take 3 (.take 4 (.take 5 (.take 6 (.take 7 (.take 8 (.take 9 (.ev (.cons 10 [] (.done) (.nil))))))))))))), ⟨by kernel_rfl, by kernel_rfl, by kernel_rfl⟩, .go ?_⟩
        (conv => whnf)
        (try simp only [zU10_1, z1, z2, y1, y2, e0, c0])
        repeat ((first | refine V.s1 ?_); (try simp only [zU10_1, z1, z2, y1, y2, e0, c0]))
        exact ⟨1, by omega, by omega, V.wk⟩
      · subst e
        have e0 := he 1
        have f0 := hf 1
        have c0 := (hcv 1).symm
        simp only [stX, n3L, v3L, ordA, inc3, k1, tetL, zL, List.cons_append, List.nil_append, List.map_cons, List.map_nil, Nat.zero_sub, Nat.sub_self, Nat.add_one_sub_one, Nat.reduceSub] at e0 f0 c0 ⊢
        (conv => whnf)
        (try simp only [zU10_0])
        repeat ((first | refine V.s1 ?_); (try simp only [zU10_0]))
        refine ⟨(.take 0 (.take 1 (.take 2 (.take 3 (.take 4 (.take 5 (.take 6 (.take 7 (.take 8 (.take 9 (.take 10 (.take 11 (.take 12 (.take 13 (.take 14 (.take 15 (.take 16 (.take 17 (.take 18 (.take 19 (.take 20 (.take 21 (.done))))))))))))))))))))))), ⟨by kernel_rfl, by kernel_rfl, by kernel_rfl⟩, .go ?_⟩
        (conv => whnf)
        (try simp only [zU10_1, z1, z2, y1, y2, e0, c0])
        repeat ((first | refine V.s1 ?_); (try simp only [zU10_1, z1, z2, y1, y2, e0, c0]))
        refine ⟨(.take 0 (.take 1 (.take 2 (.take 3 (.take 4 (.take 5 (.take 6 (.take 7 (.take 8 (.take 9 (.ev (.cons 10 [] (.done) (.nil))))))))))))), ⟨by kernel_rfl, by kernel_rfl, by kernel_rfl⟩, .go ?_⟩
        (conv => whnf)
        (try simp only [zU10_1, z1, z2, y1, y2, e0, c0])
        repeat ((first | refine V.s1 ?_); (try simp only [zU10_1, z1, z2, y1, y2, e0, c0]))
        exact ⟨2, by omega, by omega, V.wk⟩
      · subst e
        have e0 := he 2
        have f0 := hf 2
        have c0 := (hcv 2).symm
        simp only [stX, n3L, v3L, ordA, inc3, k2, tetL, zL, List.cons_append, List.nil_append, List.map_cons, List.map_nil, Nat.zero_sub, Nat.sub_self, Nat.add_one_sub_one, Nat.reduceSub] at e0 f0 c0 ⊢
        (conv => whnf)
        (try simp only [zU10_0])
        repeat ((first | refine V.s1 ?_); (try simp only [zU10_0]))
        refine ⟨(.take 0 (.take 1 (.take 2 (.take 3 (.take 4 (.take 5 (.take 6 (.take 7 (.take 8 (.take 9 (.take 10 (.take 11 (.take 12 (.take 13 (.take 14 (.take 15 (.take 16 (.take 17 (.take 18 (.take 19 (.take 20 (.take 21 (.done))))))))))))))))))))))), ⟨by kernel_rfl, by kernel_rfl, by kernel_rfl⟩, .go ?_⟩
        (conv => whnf)
        (try simp only [zU10_1, z1, z2, y1, y2, e0, c0])
        repeat ((first | refine V.s1 ?_); (try simp only [zU10_1, z1, z2, y1, y2, e0, c0]))
        refine ⟨(.take 0 (.take 1 (.take 2 (.take 3 (.take 4 (.take 5 (.take 6 (.take 7 (.take 8 (.take 9 (.ev (.cons 10 [] (.done) (.nil))))))))))))), ⟨by kernel_rfl, by kernel_rfl, by kernel_rfl⟩, .go ?_⟩
        (conv => whnf)
        (try simp only [zU10_1, z1, z2, y1, y2, e0, c0])
        repeat ((first | refine V.s1 ?_); (try simp only [zU10_1, z1, z2, y1, y2, e0, c0]))
        exact ⟨3, by omega, by omega, V.wk⟩
      · subst e
        have e0 := he 3
        have f0 := hf 3
        have c0 := (hcv 3).symm
        simp only [stX, n3L, v3L, ordA, inc3, k3, tetL, zL, List.cons_append, List.nil_append, List.map_cons, List.map_nil, Nat.zero_sub, Nat.sub_self, Nat.add_one_sub_one, Nat.reduceSub] at e0 f0 c0 ⊢
        (conv => whnf)
        (try simp only [zU10_0])
        repeat ((first | refine V.s1 ?_); (try simp only [zU10_0]))
        refine ⟨(.take 0 (.take 1 (.take 2 (.take 3 (.take 4 (.take 5 (.take 6 (.take 7 (.take 8 (.take 9 (.take 10 (.take 11 (.take 12 (.take 13 (.take 14 (.take 15 (.take 16 (.take 17 (.take 18 (.take 19 (.take 20 (.take 21 (.done))))))))))))))))))))))), ⟨by kernel_rfl, by kernel_rfl, by kernel_rfl⟩, .go ?_⟩
        (conv => whnf)
        (try simp only [zU10_1, z1, z2, y1, y2, e0, c0])
        repeat ((first | refine V.s1 ?_); (try simp only [zU10_1, z1, z2, y1, y2, e0, c0]))
        refine ⟨(.take 0 (.take 1 (.take 2 (.take 3 (.take 4 (.take 5 (.take 6 (.take 7 (.take 8 (.take 9 (.ev (.cons 10 [] (.done) (.nil))))))))))))), ⟨by kernel_rfl, by kernel_rfl, by kernel_rfl⟩, .go ?_⟩
        (conv => whnf)
        (try simp only [zU10_1, z1, z2, y1, y2, e0, c0])
        repeat ((first | refine V.s1 ?_); (try simp only [zU10_1, z1, z2, y1, y2, e0, c0]))
        exact ⟨4, by omega, by omega, V.wk⟩
    · rw [decide_eq_false_iff_not] at hq
      have hk3 : k = 4 := by omega
      subst hk3
      (conv => whnf)
      (try simp only [Nat.zero_add])
      repeat ((first | refine V.s1 ?_); (try simp only [Nat.zero_add]))
      exact Fin.of rfl
  · refine called_of_run tbOk 6 ⟨Tryz.func32, rfl, rfl, Nat.le_of_ble_eq_true rfl⟩ ?_
    (conv => whnf)
    (conv => whnf)
    (try simp only [Nat.zero_add])
    repeat ((first | refine V.s1 ?_); (try simp only [Nat.zero_add]))
    refine lp_any (0) (fun k => k ≤ 4) (fun k => 4 - k) (fun k => [(15, .int .i64 k)]) (fun k => [(8, .arr .i64 (n3L (stX (x0, x1, x2) (ordA 3) (k - 1)))), (7, .box ((tetL (x0, x1, x2) (ordA 3) c k).map (D.int .i64)))]) ?_ ?_ ?_
    exact V.wk
    exact Nat.zero_le _
    intro k hk
    (conv => whnf)
    (try simp only [Nat.zero_add])
    repeat ((first | refine V.s1 ?_); (try simp only [Nat.zero_add]))
    refine Cnd.split (CondB.mk (fun hq => ?_) (fun hq => ?_))
    · rw [decide_eq_true_eq] at hq
      have hk3 : k = 0 ∨ k = 1 ∨ k = 2 ∨ k = 3 := by omega
      rcases hk3 with e | e | e | e
      · subst e
        have e0 := he 0
        have f0 := hf 0
        have c0 := (hcv 0).symm
        simp only [stX, n3L, v3L, ordA, inc3, k0, tetL, zL, List.cons_append, List.nil_append, List.map_cons, List.map_nil, Nat.zero_sub, Nat.sub_self, Nat.add_one_sub_one, Nat.reduceSub] at e0 f0 c0 ⊢
        (conv => whnf)
        (try simp only [zU10_0])
        repeat ((first | refine V.s1 ?_); (try simp only [zU10_0]))
        refine ⟨(.take 0 (.take 1 (.take 2 (.take 3 (.take 4 (.take 5 (.take 6 (.take 7 (.take 8 (.take 9 (.take 10 (.take 11 (.take 12 (.take 13 (.take 14 (.take 15 (.take 16 (.take 17 (.take 18 (.take 19 (.take 20 (.take 21 (.done))))))))))))))))))))))), ⟨by kernel_rfl, by kernel_rfl, by kernel_rfl⟩, .go ?_⟩
        (conv => whnf)
        (try simp only [zU10_1, z1, z2, y1, y2, e0, c0])
        repeat ((first | refine V.s1 ?_); (try simp only [zU10_1, z1, z2, y1, y2, e0, c0]))
        refine ⟨(.take 0 (.take 1 (.take 2 (.take 3 (.take 4 (.take 5 (.take 6 (.take 7 (.take 8 (.take 9 (.ev (.cons 10 [] (.done) (.nil))))))))))))), ⟨by kernel_rfl, by kernel_rfl, by kernel_rfl⟩, .go ?_⟩
        (conv => whnf)
        (try simp only [zU10_1, z1, z2, y1, y2, e0, c0])
        repeat ((first | refine V.s1 ?_); (try simp only [zU10_1, z1, z2, y1, y2, e0, c0]))
        exact ⟨1, by omega, by omega, V.wk⟩
      · subst e
        have e0 := he 1
        have f0 := hf 1
        have c0 := (hcv 1).symm
        simp only [stX, n3L, v3L, ordA, inc3, k1, tetL, zL, List.cons_append, List.nil_append, List.map_cons, List.map_nil, Nat.zero_sub, Nat.sub_self, Nat.add_one_sub_one, Nat.reduceSub] at e0 f0 c0 ⊢
        (conv => whnf)
        (try simp only [zU10_0])
        repeat ((first | refine V.s1 ?_); (try simp only [zU10_0]))
        refine ⟨(.take 0 (.take 1 (.take 2 (.take 3 (.take 4 (.take 5 (.take 6 (.take 7 (.take 8 (.take 9 (.take 10 (.take 11 (.take 12 (.take 13 (.take 14 (.take 15 (.take 16 (.take 17 (.take 18 (.take 19 (.take 20 (.take 21 (.done))))))))))))))))))))))), ⟨by kernel_rfl, by kernel_rfl, by kernel_rfl⟩, .go ?_⟩
        (conv => whnf)
        (try simp only [zU10_1, z1, z2, y1, y2, e0, c0])
        repeat ((first | refine V.s1 ?_); (try simp only [zU10_1, z1, z2, y1, y2, e0, c0]))
        refine ⟨(.take 0 (.take 1 (.take 2 (.take 3 (.take 4 (.take 5 (.take 6 (.take 7 (.take 8 (.take 9 (.ev (.cons 10 [] (.done) (.nil))))))))))))), ⟨by kernel_rfl, by kernel_rfl, by kernel_rfl⟩, .go ?_⟩
        (conv => whnf)
        (try simp only [zU10_1, z1, z2, y1, y2, e0, c0])
        repeat ((first | refine V.s1 ?_); (try simp only [zU10_1, z1, z2, y1, y2, e0, c0]))
        exact ⟨2, by omega, by omega, V.wk⟩
      · subst e
        have e0 := he 2
        have f0 := hf 2
        have c0 := (hcv 2).symm
        simp only [stX, n3L, v3L, ordA, inc3, k2, tetL, zL, List.cons_append, List.nil_append, List.map_cons, List.map_nil, Nat.zero_sub, Nat.sub_self, Nat.add_one_sub_one, Nat.reduceSub] at e0 f0 c0 ⊢
        (conv => whnf)
        (try simp only [zU10_0])
        repeat ((first | refine V.s1 ?_); (try simp only [zU10_0]))
        refine ⟨(.take 0 (.take 1 (.take 2 (.take 3 (.take 4 (.take 5 (.take 6 (.take 7 (.take 8 (.take 9 (.take 10 (.take 11 (.take 12 (.take 13 (.take 14 (.take 15 (.take 16 (.take 17 (.take 18 (.take 19 (.take 20 (.take 21 (.done))))))))))))))))))))))), ⟨by kernel_rfl, by kernel_rfl, by kernel_rfl⟩, .go ?_⟩
        (conv => whnf)
        (try simp only [zU10_1, z1, z2, y1, y2, e0, c0])
        repeat ((first | refine V.s1 ?_); (try simp only [zU10_1, z1, z2, y1, y2, e0, c0]))
        refine ⟨(.take 0 (.take 1 (.take 2 (.take 3 (.take 4 (.take 5 (.take 6 (.take 7 (.take 8 (.take 9 (.ev (.cons 10 [] (.done) (.nil))))))))))))), ⟨by kernel_rfl, by kernel_rfl, by kernel_rfl⟩, .go ?_⟩
        (conv => whnf)
        (try simp only [zU10_1, z1, z2, y1, y2, e0, c0])
        repeat ((first | refine V.s1 ?_); (try simp only [zU10_1, z1, z2, y1, y2, e0, c0]))
        exact ⟨3, by omega, by omega, V.wk⟩
      · subst e
        have e0 := he 3
        have f0 := hf 3
        have c0 := (hcv 3).symm
        simp only [stX, n3L, v3L, ordA, inc3, k3, tetL, zL, List.cons_append, List.nil_append, List.map_cons, List.map_nil, Nat.zero_sub, Nat.sub_self, Nat.add_one_sub_one, Nat.reduceSub] at e0 f0 c0 ⊢
        (conv => whnf)
        (try simp only [zU10_0])
        repeat ((first | refine V.s1 ?_); (try simp only [zU10_0]))
        refine ⟨(.take 0 (.take 1 (.take 2 (.take 3 (.take 4 (.take 5 (.take 6 (.take 7 (.take 8 (.take 9 (.take 10 (.take 11 (.take 12 (.take 13 (.take 14 (.take 15 (.take 16 (.take 17 (.take 18 (.take 19 (.take 20 (.take 21 (.done))))))))))))))))))))))), ⟨by kernel_rfl, by kernel_rfl, by kernel_rfl⟩, .go ?_⟩
        (conv => whnf)
        (try simp only [zU10_1, z1, z2, y1, y2, e0, c0])
        repeat ((first | refine V.s1 ?_); (try simp only [zU10_1, z1, z2, y1, y2, e0, c0]))
        refine ⟨(.take 0 (.take 1 (.take 2 (.take 3 (.take 4 (.take 5 (.take 6 (.take 7 (.take 8 (.take 9 (.ev (.cons 10 [] (.done) (.nil))))))))))))), ⟨by kernel_rfl, by kernel_rfl, by kernel_rfl⟩, .go ?_⟩
        (conv => whnf)
        (try simp only [zU10_1, z1, z2, y1, y2, e0, c0])
        repeat ((first | refine V.s1 ?_); (try simp only [zU10_1, z1, z2, y1, y2, e0, c0]))
        exact ⟨4, by omega, by omega, V.wk⟩
    · rw [decide_eq_false_iff_not] at hq
      have hk3 : k = 4 := by omega
      subst hk3
      (conv => whnf)
      (try simp only [Nat.zero_add])
      repeat ((first | refine V.s1 ?_); (try simp only [Nat.zero_add]))
      exact Fin.of rfl
  · refine called_of_run tbOk 6 ⟨Tryz.func32, rfl, rfl, Nat.le_of_ble_eq_true rfl⟩ ?_
    (conv => whnf)
    (conv => whnf)
    (try simp only [Nat.zero_add])
    repeat ((first | refine V.s1 ?_); (try simp only [Nat.zero_add]))
    refine lp_any (0) (fun k => k ≤ 4) (fun k => 4 - k) (fun k => [(15, .int .i64 k)]) (fun k => [(8, .arr .i64 (n3L (stX (x0, x1, x2) (ordA 4) (k - 1)))), (7, .box ((tetL (x0, x1, x2) (ordA 4) c k).map (D.int .i64)))]) ?_ ?_ ?_
    exact V.wk
    exact Nat.zero_le _
    intro k hk
    (conv => whnf)
    (try simp only [Nat.zero_add])
    repeat ((first | refine V.s1 ?_); (try simp only [Nat.zero_add]))
    refine Cnd.split (CondB.mk (fun hq => ?_) (fun hq => ?_))
    · rw [decide_eq_true_eq] at hq
      have hk3 : k = 0 ∨ k = 1 ∨ k = 2 ∨ k = 3 := by omega
      rcases hk3 with e | e | e | e
      · subst e
        have e0 := he 0
        have f0 := hf 0
        have c0 := (hcv 0).symm
        simp only [stX, n3L, v3L, ordA, inc3, k0, tetL, zL, List.cons_append, List.nil_append, List.map_cons, List.map_nil, Nat.zero_sub, Nat.sub_self, Nat.add_one_sub_one, Nat.reduceSub] at e0 f0 c0 ⊢
        (conv => whnf)
        (try simp only [zU10_0])
        repeat ((first | refine V.s1 ?_); (try simp only [zU10_0]))
        refine ⟨(.take 0 (.take 1 (.take 2 (.take 3 (.take 4 (.take 5 (.take 6 (.take 7 (.take 8 (.take 9 (.take 10 (.take 11 (.take 12 (.take 13 (.take 14 (.take 15 (.take 16 (.take 17 (.take 18 (.take 19 (.take 20 (.take 21 (.done))))))))))))))))))))))), ⟨by kernel_rfl, by kernel_rfl, by kernel_rfl⟩, .go ?_⟩
        (conv => whnf)
        (try simp only [zU10_1, z1, z2, y1, y2, e0, c0])
        repeat ((first | refine V.s1 ?_); (try simp only [zU10_1, z1, z2, y1, y2, e0, c0]))
        refine ⟨(.take 0 (.take 1 (.take 2 (.take 3 (.take 4 (.take 5 (.take 6 (.take 7 (.take 8 (.take 9 (.ev (.cons 10 [] (.done) (.nil))))))))))))), ⟨by kernel_rfl, by kernel_rfl, by kernel_rfl⟩, .go ?_⟩
        (conv => whnf)
        (try simp only [zU10_1, z1, z2, y1, y2, e0, c0])
        repeat ((first | refine V.s1 ?_); (try simp only [zU10_1, z1, z2, y1, y2, e0, c0]))
        exact ⟨1, by omega, by omega, V.wk⟩
      · subst e
        have e0 := he 1
        have f0 := hf 1
        have c0 := (hcv 1).symm
        simp only [stX, n3L, v3L, ordA, inc3, k1, tetL, zL, List.cons_append, List.nil_append, List.map_cons, List.map_nil, Nat.zero_sub, Nat.sub_self, Nat.add_one_sub_one, Nat.reduceSub] at e0 f0 c0 ⊢
        (conv => whnf)
        (try simp only [zU10_0])
        repeat ((first | refine V.s1 ?_); (try simp only [zU10_0]))
        refine ⟨(.take 0 (.take 1 (.take 2 (.take 3 (.take 4 (.take 5 (.take 6 (.take 7 (.take 8 (.take 9 (.take 10 (.take 11 (.take 12 (.take 13 (.take 14 (.take 15 (.take 16 (.take 17 (.take 18 (.take 19 (.take 20 (.take 21 (.done))))))))))))))))))))))), ⟨by kernel_rfl, by kernel_rfl, by kernel_rfl⟩, .go ?_⟩
        (conv => whnf)
        (try simp only [zU10_1, z1, z2, y1, y2, e0, c0])
        repeat ((first | refine V.s1 ?_); (try simp only [zU10_1, z1, z2, y1, y2, e0, c0]))
        refine ⟨(.take 0 (.take 1 (.take 2 (.take 3 (.take 4 (.take 5 (.take 6 (.take 7 (.take 8 (.take 9 (.ev (.cons 10 [] (.done) (.nil))))))))))))), ⟨by kernel_rfl, by kernel_rfl, by kernel_rfl⟩, .go ?_⟩
        (conv => whnf)
        (try simp only [zU10_1, z1, z2, y1, y2, e0, c0])
        repeat ((first | refine V.s1 ?_); (try simp only [zU10_1, z1, z2, y1, y2, e0, c0]))
        exact ⟨2, by omega, by omega, V.wk⟩
      · subst e
        have e0 := he 2
        have f0 := hf 2
        have c0 := (hcv 2).symm
        simp only [stX, n3L, v3L, ordA, inc3, k2, tetL, zL, List.cons_append, List.nil_append, List.map_cons, List.map_nil, Nat.zero_sub, Nat.sub_self, Nat.add_one_sub_one, Nat.reduceSub] at e0 f0 c0 ⊢
        (conv => whnf)
        (try simp only [zU10_0])
        repeat ((first | refine V.s1 ?_); (try simp only [zU10_0]))
        refine ⟨(.take 0 (.take 1 (.take 2 (.take 3 (.take 4 (.take 5 (.take 6 (.take 7 (.take 8 (.take 9 (.take 10 (.take 11 (.take 12 (.take 13 (.take 14 (.take 15 (.take 16 (.take 17 (.take 18 (.take 19 (.take 20 (.take 21 (.done))))))))))))))))))))))), ⟨by kernel_rfl, by kernel_rfl, by kernel_rfl⟩, .go ?_⟩
        (conv => whnf)
        (try simp only [zU10_1, z1, z2, y1, y2, e0, c0])
        repeat ((first | refine V.s1 ?_); (try simp only [zU10_1, z1, z2, y1, y2, e0, c0]))
        refine ⟨(.take 0 (.take 1 (.take 2 (.take 3 (.take 4 (.take 5 (.take 6 (.take 7 (.take 8 (.take 9 (.ev (.cons 10 [] (.done) (.nil))))))))))))), ⟨by kernel_rfl, by kernel_rfl, by kernel_rfl⟩, .go ?_⟩
        (conv => whnf)
        (try simp only [zU10_1, z1, z2, y1, y2, e0, c0])
        repeat ((first | refine V.s1 ?_); (try simp only [zU10_1, z1, z2, y1, y2, e0, c0]))
        exact ⟨3, by omega, by omega, V.wk⟩
      · subst e
        have e0 := he 3
        have f0 := hf 3
        have c0 := (hcv 3).symm
        simp only [stX, n3L, v3L, ordA, inc3, k3, tetL, zL, List.cons_append, List.nil_append, List.map_cons, List.map_nil, Nat.zero_sub, Nat.sub_self, Nat.add_one_sub_one, Nat.reduceSub] at e0 f0 c0 ⊢
        (conv => whnf)
        (try simp only [zU10_0])
        repeat ((first | refine V.s1 ?_); (try simp only [zU10_0]))
        refine ⟨(.take 0 (.take 1 (.take 2 (.take 3 (.take 4 (.take 5 (.take 6 (.take 7 (.take 8 (.take 9 (.take 10 (.take 11 (.take 12 (.take 13 (.take 14 (.take 15 (.take 16 (.take 17 (.take 18 (.take 19 (.take 20 (.take 21 (.done))))))))))))))))))))))), ⟨by kernel_rfl, by kernel_rfl, by kernel_rfl⟩, .go ?_⟩
        (conv => whnf)
        (try simp only [zU10_1, z1, z2, y1, y2, e0, c0])
        repeat ((first | refine V.s1 ?_); (try simp only [zU10_1, z1, z2, y1, y2, e0, c0]))
        refine ⟨(.take 0 (.take 1 (.take 2 (.take 3 (.take 4 (.take 5 (.take 6 (.take 7 (.take 8 (.take 9 (.ev (.cons 10 [] (.done) (.nil))))))))))))), ⟨by kernel_rfl, by kernel_rfl, by kernel_rfl⟩, .go ?_⟩
        (conv => whnf)
        (try simp only [zU10_1, z1, z2, y1, y2, e0, c0])
        repeat ((first | refine V.s1 ?_); (try simp only [zU10_1, z1, z2, y1, y2, e0, c0]))
        exact ⟨4, by omega, by omega, V.wk⟩
    · rw [decide_eq_false_iff_not] at hq
      have hk3 : k = 4 := by omega
      subst hk3
      (conv => whnf)
      (try simp only [Nat.zero_add])
      repeat ((first | refine V.s1 ?_); (try simp only [Nat.zero_add]))
      exact Fin.of rfl
  · refine called_of_run tbOk 6 ⟨Tryz.func32, rfl, rfl, Nat.le_of_ble_eq_true rfl⟩ ?_
    (conv => whnf)
    (conv => whnf)
    (try simp only [Nat.zero_add])
    repeat ((first | refine V.s1 ?_); (try simp only [Nat.zero_add]))
    refine lp_any (0) (fun k => k ≤ 4) (fun k => 4 - k) (fun k => [(15, .int .i64 k)]) (fun k => [(8, .arr .i64 (n3L (stX (x0, x1, x2) (ordA 5) (k - 1)))), (7, .box ((tetL (x0, x1, x2) (ordA 5) c k).map (D.int .i64)))]) ?_ ?_ ?_
    exact V.wk
    exact Nat.zero_le _
    intro k hk
    (conv => whnf)
    (try simp only [Nat.zero_add])
    repeat ((first | refine V.s1 ?_); (try simp only [Nat.zero_add]))
    refine Cnd.split (CondB.mk (fun hq => ?_) (fun hq => ?_))
    · rw [decide_eq_true_eq] at hq
      have hk3 : k = 0 ∨ k = 1 ∨ k = 2 ∨ k = 3 := by omega
      rcases hk3 with e | e | e | e
      · subst e
        have e0 := he 0
        have f0 := hf 0
        have c0 := (hcv 0).symm
        simp only [stX, n3L, v3L, ordA, inc3, k0, tetL, zL, List.cons_append, List.nil_append, List.map_cons, List.map_nil, Nat.zero_sub, Nat.sub_self, Nat.add_one_sub_one, Nat.reduceSub] at e0 f0 c0 ⊢
        (conv => whnf)
        (try simp only [zU10_0])
        repeat ((first | refine V.s1 ?_); (try simp only [zU10_0]))
        refine ⟨(.take 0 (.take 1 (.take 2 (.take 3 (.take 4 (.take 5 (.take 6 (.take 7 (.take 8 (.take 9 (.take 10 (.take 11 (.take 12 (.take 13 (.take 14 (.take 15 (.take 16 (.take 17 (.take 18 (.take 19 (.take 20 (.take 21 (.done))))))))))))))))))))))), ⟨by kernel_rfl, by kernel_rfl, by kernel_rfl⟩, .go ?_⟩
        (conv => whnf)
        (try simp only [zU10_1, z1, z2, y1, y2, e0, c0])
        repeat ((first | refine V.s1 ?_); (try simp only [zU10_1, z1, z2, y1, y2, e0, c0]))
        refine ⟨(.take 0 (.take 1 (.take 2 (.take 3 (.take 4 (.take 5 (.take 6 (.take 7 (.take 8 (.take 9 (.ev (.cons 10 [] (.done) (.nil))))))))))))), ⟨by kernel_rfl, by kernel_rfl, by kernel_rfl⟩, .go ?_⟩
        (conv => whnf)
        (try simp only [zU10_1, z1, z2, y1, y2, e0, c0])
        repeat ((first | refine V.s1 ?_); (try simp only [zU10_1, z1, z2, y1, y2, e0, c0]))
        exact ⟨1, by omega, by omega, V.wk⟩
      · subst e
        have e0 := he 1
        have f0 := hf 1
        have c0 := (hcv 1).symm
        simp only [stX, n3L, v3L, ordA, inc3, k1, tetL, zL, List.cons_append, List.nil_append, List.map_cons, List.map_nil, Nat.zero_sub, Nat.sub_self, Nat.add_one_sub_one, Nat.reduceSub] at e0 f0 c0 ⊢
        (conv => whnf)
        (try simp only [zU10_0])
        repeat ((first | refine V.s1 ?_); (try simp only [zU10_0]))
        refine ⟨(.take 0 (.take 1 (.take 2 (.take 3 (.take 4 (.take 5 (.take 6 (.take 7 (.take 8 (.take 9 (.take 10 (.take 11 (.take 12 (.take 13 (.take 14 (.take 15 (.take 16 (.take 17 (.take 18 (.take 19 (.take 20 (.take 21 (.done))))))))))))))))))))))), ⟨by kernel_rfl, by kernel_rfl, by kernel_rfl⟩, .go ?_⟩
        (conv => whnf)
        (try simp only [zU10_1, z1, z2, y1, y2, e0, c0])
        repeat ((first | refine V.s1 ?_); (try simp only [zU10_1, z1, z2, y1, y2, e0, c0]))
        refine ⟨(.take 0 (.take 1 (.take 2 (.take 3 (.take 4 (.take 5 (.take 6 (.take 7 (.take 8 (.take 9 (.ev (.cons 10 [] (.done) (.nil))))))))))))), ⟨by kernel_rfl, by kernel_rfl, by kernel_rfl⟩, .go ?_⟩
        (conv => whnf)
        (try simp only [zU10_1, z1, z2, y1, y2, e0, c0])
        repeat ((first | refine V.s1 ?_); (try simp only [zU10_1, z1, z2, y1, y2, e0, c0]))
        exact ⟨2, by omega, by omega, V.wk⟩
      · subst e
        have e0 := he 2
        have f0 := hf 2
        have c0 := (hcv 2).symm
        simp only [stX, n3L, v3L, ordA, inc3, k2, tetL, zL, List.cons_append, List.nil_append, List.map_cons, List.map_nil, Nat.zero_sub, Nat.sub_self, Nat.add_one_sub_one, Nat.reduceSub] at e0 f0 c0 ⊢
        (conv => whnf)
        (try simp only [zU10_0])
        repeat ((first | refine V.s1 ?_); (try simp only [zU10_0]))
        refine ⟨(.take 0 (.take 1 (.take 2 (.take 3 (.take 4 (.take 5 (.take 6 (.take 7 (.take 8 (.take 9 (.take 10 (.take 11 (.take 12 (.take 13 (.take 14 (.take 15 (.take 16 (.take 17 (.take 18 (.take 19 (.take 20 (.take 21 (.done))))))))))))))))))))))), ⟨by kernel_rfl, by kernel_rfl, by kernel_rfl⟩, .go ?_⟩
        (conv => whnf)
        (try simp only [zU10_1, z1, z2, y1, y2, e0, c0])
        repeat ((first | refine V.s1 ?_); (try simp only [zU10_1, z1, z2, y1, y2, e0, c0]))
        refine ⟨(.take 0 (.take 1 (.take 2 (.take 3 (.take 4 (.take 5 (.take 6 (.take 7 (.take 8 (.take 9 (.ev (.cons 10 [] (.done) (.nil))))))))))))), ⟨by kernel_rfl, by kernel_rfl, by kernel_rfl⟩, .go ?_⟩
        (conv => whnf)
        (try simp only [zU10_1, z1, z2, y1, y2, e0, c0])
        repeat ((first | refine V.s1 ?_); (try simp only [zU10_1, z1, z2, y1, y2, e0, c0]))
        exact ⟨3, by omega, by omega, V.wk⟩
      · subst e
        have e0 := he 3
        have f0 := hf 3
        have c0 := (hcv 3).symm
        simp only [stX, n3L, v3L, ordA, inc3, k3, tetL, zL, List.cons_append, List.nil_append, List.map_cons, List.map_nil, Nat.zero_sub, Nat.sub_self, Nat.add_one_sub_one, Nat.reduceSub] at e0 f0 c0 ⊢
        (conv => whnf)
        (try simp only [zU10_0])
        repeat ((first | refine V.s1 ?_); (try simp only [zU10_0]))
        refine ⟨(.take 0 (.take 1 (.take 2 (.take 3 (.take 4 (.take 5 (.take 6 (.take 7 (.take 8 (.take 9 (.take 10 (.take 11 (.take 12 (.take 13 (.take 14 (.take 15 (.take 16 (.take 17 (.take 18 (.take 19 (.take 20 (.take 21 (.done))))))))))))))))))))))), ⟨by kernel_rfl, by kernel_rfl, by kernel_rfl⟩, .go ?_⟩
        (conv => whnf)
        (try simp only [zU10_1, z1, z2, y1, y2, e0, c0])
        repeat ((first | refine V.s1 ?_); (try simp only [zU10_1, z1, z2, y1, y2, e0, c0]))
        refine ⟨(.take 0 (.take 1 (.take 2 (.take 3 (.take 4 (.take 5 (.take 6 (.take 7 (.take 8 (.take 9 (.ev (.cons 10 [] (.done) (.nil))))))))))))), ⟨by kernel_rfl, by kernel_rfl, by kernel_rfl⟩, .go ?_⟩
        (conv => whnf)
        (try simp only [zU10_1, z1, z2, y1, y2, e0, c0])
        repeat ((first | refine V.s1 ?_); (try simp only [zU10_1, z1, z2, y1, y2, e0, c0]))
        exact ⟨4, by omega, by omega, V.wk⟩
    · rw [decide_eq_false_iff_not] at hq
      have hk3 : k = 4 := by omega
      subst hk3
      (conv => whnf)
      (try simp only [Nat.zero_add])
      repeat ((first | refine V.s1 ?_); (try simp only [Nat.zero_add]))
      exact Fin.of rfl
end Go.Proofs.YtlcaefokcnohnaaGreatDoor
end
