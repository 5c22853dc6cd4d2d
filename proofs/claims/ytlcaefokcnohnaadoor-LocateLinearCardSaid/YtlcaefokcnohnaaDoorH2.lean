/- What some functions of the program answer at values that mean given lists, texts and numbers, each proved of the program's own code: part 2. Conditions: those that each theorem names. -/
import Derived.Test.YtlcaefokcnohnaaDoorW9
import Derived.Test.YtlcaefokcnohnaaDoorH1
import Derived.Test.YtlcaefokcnohnaaDoorSi
import Derived.Lib.AppendIntMem
set_option linter.unusedSimpArgs false
set_option linter.unusedVariables false
set_option maxHeartbeats 8000000
set_option maxRecDepth 100000
section
namespace Go.Proofs.YtlcaefokcnohnaaDoor
open Go Go.V
def det3 (a0 a1 a2 b0 b1 b2 c0 c1 c2 : Int) : Int := a0 * (b1 * c2 - b2 * c1) - a1 * (b0 * c2 - b2 * c0) + a2 * (b0 * c1 - b1 * c0)
theorem det3_r (a0 a1 a2 b0 b1 b2 c0 c1 c2 : Int) : a0 * (b1 * c2 - b2 * c1) + a1 * (b2 * c0 - b0 * c2) + a2 * (b0 * c1 - b1 * c0) = det3 a0 a1 a2 b0 b1 b2 c0 c1 c2 := by
  unfold det3
  have e : a1 * (b2 * c0 - b0 * c2) = -(a1 * (b0 * c2 - b2 * c0)) := by rw [← Int.mul_neg, Int.neg_sub]
  omega
def Bd (M x : Int) : Prop := -M ≤ x ∧ x ≤ M
theorem bd_mul {M N x y : Int} (hx : Bd M x) (hy : Bd N y) (hM : 0 ≤ M) (hN : 0 ≤ N) : Bd (M * N) (x * y) := by
  unfold Bd at *
  have h1 : x.natAbs ≤ M.natAbs := by omega
  have h2 : y.natAbs ≤ N.natAbs := by omega
  have h3 := Nat.mul_le_mul h1 h2
  rw [← Int.natAbs_mul, ← Int.natAbs_mul] at h3
  have h4 := Int.mul_nonneg hM hN
  omega
theorem bd2 {x y : Int} (hx : Bd 65535 x) (hy : Bd 65535 y) : Bd 4294836225 (x * y) := bd_mul hx hy (by omega) (by omega)
theorem bd3 {x y : Int} (hx : Bd 65535 x) (hy : Bd 8589672450 y) : Bd 562924183961 (x * y) ∨ Bd 562924184010750 (x * y) := .inr (bd_mul hx hy (by omega) (by omega))
theorem det3_bd {a0 a1 a2 b0 b1 b2 c0 c1 c2 : Int} (ha : Bd 65535 a0 ∧ Bd 65535 a1 ∧ Bd 65535 a2) (hb : Bd 65535 b0 ∧ Bd 65535 b1 ∧ Bd 65535 b2) (hc : Bd 65535 c0 ∧ Bd 65535 c1 ∧ Bd 65535 c2) : Bd 1688772552032250 (det3 a0 a1 a2 b0 b1 b2 c0 c1 c2) := by
  have e1 := bd2 hb.2.1 hc.2.2
  have e2 := bd2 hb.2.2 hc.2.1
  have e3 := bd2 hb.1 hc.2.2
  have e4 := bd2 hb.2.2 hc.1
  have e5 := bd2 hb.1 hc.2.1
  have e6 := bd2 hb.2.1 hc.1
  have f1 := bd_mul (N := 8589672450) ha.1 (show Bd 8589672450 (b1 * c2 - b2 * c1) by unfold Bd at *; omega) (by omega) (by omega)
  have f2 := bd_mul (N := 8589672450) ha.2.1 (show Bd 8589672450 (b0 * c2 - b2 * c0) by unfold Bd at *; omega) (by omega) (by omega)
  have f3 := bd_mul (N := 8589672450) ha.2.2 (show Bd 8589672450 (b0 * c1 - b1 * c0) by unfold Bd at *; omega) (by omega) (by omega)
  unfold det3
  generalize a0 * (b1 * c2 - b2 * c1) = x at *
  generalize a1 * (b0 * c2 - b2 * c0) = y at *
  generalize a2 * (b0 * c1 - b1 * c0) = z at *
  unfold Bd at *
  omega
end Go.Proofs.YtlcaefokcnohnaaDoor
end
section
namespace Go.Proofs.YtlcaefokcnohnaaDoor
open Go Go.V
theorem num_parts {B C i j k o : Nat} (hj : j < B) (hk : k < C) (ho : o < 6) :
    (((i * B + j) * C + k) * 6 + o) % 6 = o ∧ (((i * B + j) * C + k) * 6 + o) / 6 / (B * C) = i ∧ (((i * B + j) * C + k) * 6 + o) / 6 / C % B = j ∧ (((i * B + j) * C + k) * 6 + o) / 6 % C = k := by
  have h6 : (((i * B + j) * C + k) * 6 + o) / 6 = (i * B + j) * C + k := by omega
  have hC : 0 < C := by omega
  have hB : 0 < B := by omega
  have e1 : ((i * B + j) * C + k) / C = i * B + j := by
    rw [Nat.mul_comm, Nat.mul_add_div hC, Nat.div_eq_of_lt hk, Nat.add_zero]
  rw [h6]
  refine ⟨by omega, ?_, ?_, ?_⟩
  · rw [Nat.mul_comm B C, ← Nat.div_div_eq_div_mul, e1, Nat.mul_comm, Nat.mul_add_div hB, Nat.div_eq_of_lt hj, Nat.add_zero]
  · rw [e1, Nat.mul_comm, Nat.mul_add_mod, Nat.mod_eq_of_lt hj]
  · rw [Nat.mul_comm, Nat.mul_add_mod, Nat.mod_eq_of_lt hk]
theorem num_lt {A B C i j k o : Nat} (hi : i < A) (hj : j < B) (hk : k < C) (ho : o < 6) : ((i * B + j) * C + k) * 6 + o < 6 * (A * B * C) := by
  have h1 : i * B + j + 1 ≤ A * B := by
    have := Nat.mul_le_mul_right B (show i + 1 ≤ A from hi)
    rw [Nat.add_mul] at this
    omega
  have h2 : (i * B + j) * C + k + 1 ≤ A * B * C := by
    have := Nat.mul_le_mul_right C h1
    rw [Nat.add_mul] at this
    omega
  omega
theorem num_of {A B C n : Nat} (h : n < 6 * (A * B * C)) : ∃ i j k o, i < A ∧ j < B ∧ k < C ∧ o < 6 ∧ n = ((i * B + j) * C + k) * 6 + o := by
  have hABC : n / 6 < A * B * C := by omega
  have hpos : 0 < A * B * C := by omega
  have hC : 0 < C := Nat.pos_of_mul_pos_left (a := A * B) hpos |> fun _ => by
    rcases Nat.eq_zero_or_pos C with e | e
    · rw [e, Nat.mul_zero] at hpos; omega
    · exact e
  have hB : 0 < B := by
    rcases Nat.eq_zero_or_pos B with e | e
    · rw [e, Nat.mul_zero, Nat.zero_mul] at hpos; omega
    · exact e
  refine ⟨n / 6 / C / B, n / 6 / C % B, n / 6 % C, n % 6, ?_, Nat.mod_lt _ hB, Nat.mod_lt _ hC, Nat.mod_lt _ (by omega), ?_⟩
  · rw [Nat.div_div_eq_div_mul, Nat.div_lt_iff_lt_mul (Nat.mul_pos hC hB), Nat.mul_comm C B, ← Nat.mul_assoc]
    exact hABC
  · have e1 : n / 6 / C / B * B + n / 6 / C % B = n / 6 / C := Nat.div_add_mod' _ _
    have e2 : n / 6 / C * C + n / 6 % C = n / 6 := Nat.div_add_mod' _ _
    rw [e1, e2]
    omega
end Go.Proofs.YtlcaefokcnohnaaDoor
end
section
namespace Go.Proofs.YtlcaefokcnohnaaDoor
open Go Go.V
abbrev V3 := Int × Int × Int
def sb (a b : V3) : V3 := (a.1 - b.1, a.2.1 - b.2.1, a.2.2 - b.2.2)
def dt (a b c : V3) : Int := det3 a.1 a.2.1 a.2.2 b.1 b.2.1 b.2.2 c.1 c.2.1 c.2.2
def Bd3 (M : Int) (a : V3) : Prop := Bd M a.1 ∧ Bd M a.2.1 ∧ Bd M a.2.2
theorem dt_bd {a b c : V3} (ha : Bd3 65535 a) (hb : Bd3 65535 b) (hc : Bd3 65535 c) : Bd 1688772552032250 (dt a b c) := det3_bd ha hb hc
def Vl (a : V3) : Prop := (0 ≤ a.1 ∧ a.1 ≤ 65535) ∧ (0 ≤ a.2.1 ∧ a.2.1 ≤ 65535) ∧ (0 ≤ a.2.2 ∧ a.2.2 ≤ 65535)
theorem sb_bd {a b : V3} (ha : Vl a) (hb : Vl b) : Bd3 65535 (sb a b) := by
  unfold Vl at *
  unfold Bd3 Bd sb
  dsimp only
  omega
def sg1 (w : Int) : Int := if w < 0 then -1 else 1
def hld (v0 v1 v2 v3 t : V3) : Option (Int × Int × Int × Int) :=
  let r1 := sb v1 v0
  let r2 := sb v2 v0
  let r3 := sb v3 v0
  let g := sb t v0
  let W := dt r1 r2 r3
  let s := sg1 W
  if W = 0 ∨ s * dt g r2 r3 < 0 ∨ s * dt r1 g r3 < 0 ∨ s * dt r1 r2 g < 0 ∨ W * s - s * dt g r2 r3 - s * dt r1 g r3 - s * dt r1 r2 g < 0 then none
  else some (s * dt g r2 r3, s * dt r1 g r3, s * dt r1 r2 g, W * s)
theorem hld_bd {v0 v1 v2 v3 t : V3} (h0 : Vl v0) (h1 : Vl v1) (h2 : Vl v2) (h3 : Vl v3) (ht : Vl t) {a b c d : Int} (h : hld v0 v1 v2 v3 t = some (a, b, c, d)) :
    (0 ≤ a ∧ a ≤ d) ∧ (0 ≤ b ∧ b ≤ d) ∧ (0 ≤ c ∧ c ≤ d) ∧ a + b + c ≤ d ∧ 0 < d ∧ d ≤ 1688772552032250 := by
  have hW := dt_bd (sb_bd h1 h0) (sb_bd h2 h0) (sb_bd h3 h0)
  unfold hld at h
  dsimp only at h
  split at h
  · cases h
  · rename_i hn
    simp only [Option.some.injEq, Prod.mk.injEq] at h
    obtain ⟨rfl, rfl, rfl, rfl⟩ := h
    generalize dt (sb v1 v0) (sb v2 v0) (sb v3 v0) = W at *
    have e : W * sg1 W = W.natAbs := by
      unfold sg1
      split <;> omega
    rw [e] at hn ⊢
    unfold Bd at hW
    omega
end Go.Proofs.YtlcaefokcnohnaaDoor
end
section
namespace Go.Proofs.YtlcaefokcnohnaaDoor
open Go Go.V
theorem Called.conv {P : Go.Program} {f : Nat} {ds ds' : List D} {r : D} (c : Called P f ds r) (H : ∀ h vs, DenL Env.dummy h ds' vs → DenL Env.dummy h ds vs) : Called P f ds' r := ⟨c.ent, fun h w vs ha hd => c.call h w vs ha (H h vs hd)⟩
theorem denL_ints {E : Env} {h : Pub} {k : IntKind} : ∀ {xs : List Int}, (∀ n ∈ xs, InR k n) → DenL E h (xs.map (D.int k)) (xs.map (Value.int k))
  | [], _ => by simp [DenL]
  | x :: xs, hx => by
    simp only [List.map_cons, DenL]
    exact ⟨_, _, rfl, ⟨rfl, hx x (by simp)⟩, denL_ints fun n hn => hx n (by simp [hn])⟩
theorem den_iarr {E : Env} {h : Pub} {k : IntKind} {xs : List Int} {v : Value} (H : Den E h (.iarr k xs) v) : Den E h (.agg (xs.map (D.int k))) v := by
  simp only [Den] at H ⊢
  obtain ⟨rfl, hx⟩ := H
  refine ⟨_, rfl, denL_ints hx, fun v hv => ?_⟩
  obtain ⟨n, _, rfl⟩ := List.mem_map.1 hv
  rfl
theorem denL_ints_inv {E : Env} {h : Pub} {k : IntKind} : ∀ {xs : List Int} {vs : List Value}, DenL E h (xs.map (D.int k)) vs → vs = xs.map (Value.int k) ∧ ∀ n ∈ xs, InR k n
  | [], vs, H => by simp only [List.map_nil, DenL] at H; subst H; exact ⟨rfl, fun n hn => by cases hn⟩
  | x :: xs, vs, H => by
    simp only [List.map_cons, DenL] at H
    obtain ⟨v, vs', rfl, h1, h2⟩ := H
    obtain ⟨rfl, h3⟩ := denL_ints_inv h2
    simp only [Den] at h1
    obtain ⟨rfl, h4⟩ := h1
    exact ⟨rfl, fun n hn => by
      rcases List.mem_cons.1 hn with e | e
      · rw [e]; exact h4
      · exact h3 n e⟩
theorem den_agg_iarr {E : Env} {h : Pub} {k : IntKind} {xs : List Int} {v : Value} (H : Den E h (.agg (xs.map (D.int k))) v) : Den E h (.iarr k xs) v := by
  simp only [Den] at H ⊢
  obtain ⟨vs, rfl, h1, _⟩ := H
  obtain ⟨rfl, h2⟩ := denL_ints_inv h1
  exact ⟨rfl, h2⟩
theorem Fin.iarr {k : IntKind} {xs : List Int} : Fin (.agg (xs.map (D.int k))) (.iarr k xs) := ⟨fun _ _ h => den_iarr h⟩
theorem Fin.agg_iarr {k : IntKind} {xs : List Int} : Fin (.iarr k xs) (.agg (xs.map (D.int k))) := ⟨fun _ _ h => den_agg_iarr h⟩
end Go.Proofs.YtlcaefokcnohnaaDoor
end
section
namespace Go.Proofs.YtlcaefokcnohnaaDoor
open Go Go.V
abbrev N3 := Nat × Nat × Nat
def ordA (o : Nat) : N3 := match o with
  | 0 => (0, 1, 2)
  | 1 => (0, 2, 1)
  | 2 => (1, 0, 2)
  | 3 => (1, 2, 0)
  | 4 => (2, 0, 1)
  | _ => (2, 1, 0)
def inc3 (x : N3) (d : Nat) : N3 := match d with
  | 0 => (x.1 + 1, x.2.1, x.2.2)
  | 1 => (x.1, x.2.1 + 1, x.2.2)
  | _ => (x.1, x.2.1, x.2.2 + 1)
def gv (data : List Int) (p : Nat) : V3 := (data.getD (3 * p) 0, data.getD (3 * p + 1) 0, data.getD (3 * p + 2) 0)
def plc (s1 s2 : Nat) (x : N3) : Nat := (x.1 * s1 + x.2.1) * s2 + x.2.2
def cnr (data : List Int) (s1 s2 : Nat) (x : N3) : V3 := gv data (plc s1 s2 x)
def hldX (data : List Int) (s1 s2 : Nat) (x o : N3) (t : V3) : Option (Int × Int × Int × Int) :=
  hld (cnr data s1 s2 x) (cnr data s1 s2 (inc3 x o.1)) (cnr data s1 s2 (inc3 (inc3 x o.1) o.2.1)) (cnr data s1 s2 (inc3 (inc3 (inc3 x o.1) o.2.1) o.2.2)) t
def cellN (s1 s2 n : Nat) : N3 := (n / 6 / ((s1 - 1) * (s2 - 1)), n / 6 / (s2 - 1) % (s1 - 1), n / 6 % (s2 - 1))
def hldN (data : List Int) (s1 s2 n : Nat) (t : V3) : Option (Int × Int × Int × Int) := hldX data s1 s2 (cellN s1 s2 n) (ordA (n % 6)) t
def cellsN (s0 s1 s2 : Nat) : Nat := (s0 - 1) * (s1 - 1) * (s2 - 1)
def fndN (data : List Int) (s0 s1 s2 : Nat) (t : V3) : Option Nat := (List.range (6 * cellsN s0 s1 s2)).find? fun n => (hldN data s1 s2 n t).isSome
def cntN (data : List Int) (s1 s2 m : Nat) (t : V3) : Nat := ((List.range m).filter fun n => (hldN data s1 s2 n t).isSome).length
theorem cellN_of {s1 s2 i j k o : Nat} (hj : j < s1 - 1) (hk : k < s2 - 1) (ho : o < 6) : cellN s1 s2 (((i * (s1 - 1) + j) * (s2 - 1) + k) * 6 + o) = (i, j, k) ∧ (((i * (s1 - 1) + j) * (s2 - 1) + k) * 6 + o) % 6 = o := by
  obtain ⟨h1, h2, h3, h4⟩ := num_parts (i := i) hj hk ho
  unfold cellN
  rw [h2, h3, h4]
  exact ⟨rfl, h1⟩
theorem fnd_none {data : List Int} {s0 s1 s2 : Nat} {t : V3} (h : ∀ n, n < 6 * cellsN s0 s1 s2 → hldN data s1 s2 n t = none) : fndN data s0 s1 s2 t = none := by
  unfold fndN
  rw [List.find?_eq_none]
  intro n hn
  rw [h n (List.mem_range.1 hn)]
  simp
theorem fnd_some {data : List Int} {s0 s1 s2 n : Nat} {t : V3} (h : ∀ m, m < n → hldN data s1 s2 m t = none) (hn : n < 6 * cellsN s0 s1 s2) {r : Int × Int × Int × Int} (hr : hldN data s1 s2 n t = some r) : fndN data s0 s1 s2 t = some n := by
  unfold fndN
  rw [List.find?_range_eq_some]
  refine ⟨by rw [hr]; rfl, by simpa using hn, fun j hj => by rw [h j hj]; rfl⟩
theorem cnt_succ (data : List Int) (s1 s2 m : Nat) (t : V3) : cntN data s1 s2 (m + 1) t = cntN data s1 s2 m t + (if (hldN data s1 s2 m t).isSome = true then 1 else 0) := by
  unfold cntN
  rw [List.range_succ, List.filter_append, List.length_append]
  congr 1
  simp only [List.filter_cons, List.filter_nil]
  split <;> rfl
theorem cnt_le (data : List Int) (s1 s2 m : Nat) (t : V3) : cntN data s1 s2 m t ≤ m := by
  unfold cntN
  have := List.length_filter_le (fun n => (hldN data s1 s2 n t).isSome) (List.range m)
  rw [List.length_range] at this
  exact this
theorem inc_lt {s0 s1 s2 : Nat} {x : N3} {d : Nat} : plc s1 s2 x ≤ plc s1 s2 (inc3 x d) := by
  unfold plc inc3
  split
  · dsimp only
    rw [Nat.add_mul (x.1), Nat.one_mul]
    have := Nat.mul_le_mul_right s2 (show x.1 * s1 + x.2.1 ≤ x.1 * s1 + s1 + x.2.1 by omega)
    omega
  · dsimp only
    have := Nat.mul_le_mul_right s2 (show x.1 * s1 + x.2.1 ≤ x.1 * s1 + (x.2.1 + 1) by omega)
    omega
  · dsimp only
    omega
theorem plc_lt {s0 s1 s2 : Nat} {x : N3} (h : x.1 < s0 ∧ x.2.1 < s1 ∧ x.2.2 < s2) : plc s1 s2 x < s0 * s1 * s2 := by
  unfold plc
  have h1 : x.1 * s1 + x.2.1 + 1 ≤ s0 * s1 := by
    have := Nat.mul_le_mul_right s1 (show x.1 + 1 ≤ s0 from h.1)
    rw [Nat.add_mul] at this
    omega
  have h2 := Nat.mul_le_mul_right s2 h1
  rw [Nat.add_mul] at h2
  omega
theorem gv_vl {data : List Int} (hd : ∀ v ∈ data, 0 ≤ v ∧ v ≤ 65535) (p : Nat) : Vl (gv data p) := by
  have key : ∀ i, 0 ≤ data.getD i 0 ∧ data.getD i 0 ≤ 65535 := fun i => by
    rw [List.getD_eq_getElem?_getD]
    cases h : data[i]? with
    | none => simp
    | some v => exact hd v (List.mem_of_getElem? h)
  exact ⟨key _, key _, key _⟩
end Go.Proofs.YtlcaefokcnohnaaDoor
end
section
namespace Go.Proofs.YtlcaefokcnohnaaDoor
open Go Go.V
theorem within_c (n l h : Int) : Called Tryd.prog 26 [.int .i64 n, .int .i64 l, .int .i64 h] (.bool (decide (l ≤ n) && decide (n ≤ h))) := by
  refine called_of_run tbOk 6 ⟨Tryd.func26, rfl, rfl, Nat.le_of_ble_eq_true rfl⟩ ?_
  (conv => whnf)
  refine V.st ?_
  exact Fin.same _
def prod (xs : List Int) : Int := xs.foldl (· * ·) 1
theorem prod_take_succ {xs : List Int} {k : Nat} {x : Int} (h : xs[k]? = some x) : prod (xs.take (k + 1)) = prod (xs.take k) * x := by
  rw [List.take_add_one, h]; simp [prod]
theorem product_c (xs : List Int) (hx : ∀ k, k ≤ xs.length → InR .i64 (prod (xs.take k))) (hl : xs.length ≤ 281474976710656) : Called Tryd.prog 27 [.ints .i64 xs] (.int .i64 (prod xs)) := by
  refine called_of_run tbOk 6 ⟨Tryd.func27, rfl, rfl, Nat.le_of_ble_eq_true rfl⟩ ?_
  (conv => whnf)
  refine lp_go (xs.length) (fun k => True) (fun k => [(3, .int .i64 (prod (xs.take k))), (8, .int .i64 k)]) (fun k => []) V.wk ?_ ?_
  · trivial
  intro k hk _
  (conv => whnf)
  refine V.st ?_
  refine Cnd.split (CondB.mk (fun h => ?_) (fun h => ?_))
  · simp only [decide_eq_true_eq] at h
    obtain ⟨x, hx1, ex⟩ := getx (xs := xs) (k := k) (by omega)
    have hp := prod_take_succ hx1
    have hr := hx (k + 1) (by omega)
    (conv => whnf)
    refine V.st ?_
    rw [ex, ← hp]
    refine V.st ?_
    exact ⟨k + 1, ⟨by omega, trivial⟩, by omega, V.wk⟩
  · simp only [decide_eq_false_iff_not] at h
    (conv => whnf)
    refine V.st ?_
    have : prod (xs.take k) = prod xs := by rw [List.take_of_length_le (by omega)]
    rw [this]
    exact Fin.same _
end Go.Proofs.YtlcaefokcnohnaaDoor
end
section
namespace Go.Proofs.YtlcaefokcnohnaaDoor
open Go Go.V
def gridD (size : List Int) (out : Int) (data : List Int) : D := .agg [.ints .i64 size, .int .i64 out, .ints .i64 data]
def okGrid (size : List Int) (out : Int) (data : List Int) : Bool :=
  decide (1 ≤ size.length ∧ size.length ≤ 4) && decide (1 ≤ out ∧ out ≤ 4) && size.all (fun n => decide (2 ≤ n ∧ n ≤ 9)) && decide ((data.length : Int) ≤ 4096 ∧ (data.length : Int) = prod size * out) && data.all fun v => decide (0 ≤ v ∧ v ≤ 65535)
theorem okGrid_size {size : List Int} {out : Int} {data : List Int} {k : Nat} {x : Int} (hx : size[k]? = some x) (h : ¬ (2 ≤ x ∧ x ≤ 9)) : okGrid size out data = false := by
  have hm : x ∈ size := List.mem_of_getElem? hx
  have : size.all (fun n => decide (2 ≤ n ∧ n ≤ 9)) = false := by
    rw [List.all_eq_false]; exact ⟨x, hm, by simpa using h⟩
  unfold okGrid; rw [this]; simp only [Bool.and_false, Bool.false_and]
theorem okGrid_data {size : List Int} {out : Int} {data : List Int} {k : Nat} {x : Int} (hx : data[k]? = some x) (h : ¬ (0 ≤ x ∧ x ≤ 65535)) : okGrid size out data = false := by
  have hm : x ∈ data := List.mem_of_getElem? hx
  have : data.all (fun v => decide (0 ≤ v ∧ v ≤ 65535)) = false := by
    rw [List.all_eq_false]; exact ⟨x, hm, by simpa using h⟩
  unfold okGrid; rw [this]; simp only [Bool.and_false, Bool.false_and]
theorem prod_bd {size : List Int} (hall : size.all (fun n => decide (2 ≤ n ∧ n ≤ 9)) = true) (k : Nat) : 0 ≤ prod (size.take k) ∧ (size.length ≤ 4 → prod (size.take k) ≤ 6561) ∧ (size.length ≤ 4 → InR .i64 (prod (size.take k))) := by
  have hb : ∀ l : List Int, (∀ n ∈ l, 2 ≤ n ∧ n ≤ 9) → ∀ a : Int, 0 ≤ a → 0 ≤ l.foldl (· * ·) a ∧ l.foldl (· * ·) a ≤ a * 9 ^ l.length := by
    intro l
    induction l with
    | nil => intro _ a ha; simp; exact ha
    | cons x l ih =>
      intro hl a ha
      have hx := hl x (by simp)
      have h1 : 0 ≤ a * x := Int.mul_nonneg ha (by omega)
      have h2 := ih (fun n hn => hl n (by simp [hn])) (a * x) h1
      refine ⟨h2.1, Int.le_trans h2.2 ?_⟩
      have h3 : a * x ≤ a * 9 := Int.mul_le_mul_of_nonneg_left hx.2 ha
      have h4 : a * x * 9 ^ l.length ≤ a * 9 * 9 ^ l.length := Int.mul_le_mul_of_nonneg_right h3 (Int.pow_nonneg (by omega))
      have h5 : a * 9 ^ (x :: l).length = a * 9 * 9 ^ l.length := by
        rw [List.length_cons, Int.pow_succ, Int.mul_comm _ 9, ← Int.mul_assoc]
      rw [h5]; exact h4
  simp only [List.all_eq_true, decide_eq_true_eq] at hall
  have h1 := hb (size.take k) (fun n hn => hall n (List.mem_of_mem_take hn)) 1 (by omega)
  have h2 : size.length ≤ 4 → prod (size.take k) ≤ 6561 := by
    intro h
    refine Int.le_trans h1.2 ?_
    have : (size.take k).length ≤ 4 := by simp; omega
    generalize (size.take k).length = m at this
    match m, this with
    | 0, _ => decide
    | 1, _ => decide
    | 2, _ => decide
    | 3, _ => decide
    | 4, _ => decide
    | m + 5, h => omega
  refine ⟨h1.1, h2, fun h => ?_⟩
  have h3 := h2 h
  have h4 := h1.1
  simp only [V.InR, lo, hi]
  simp only [prod] at *
  omega
theorem prodm_bd {size : List Int} {out : Int} (hall : size.all (fun n => decide (2 ≤ n ∧ n ≤ 9)) = true) (h1 : size.length ≤ 4) (h2 : 1 ≤ out ∧ out ≤ 4) : InR .i64 (prod size * out) := by
  have h3 := prod_bd hall size.length
  rw [List.take_length] at h3
  have h4 : prod size ≤ 6561 := h3.2.1 h1
  have h5 : 0 ≤ prod size * out := Int.mul_nonneg h3.1 (by omega)
  have h6 : prod size * out ≤ 6561 * 4 := Int.mul_le_mul h4 h2.2 (by omega) (by omega)
  simp only [V.InR, lo, hi]; omega
theorem check_c (size : List Int) (out : Int) (data : List Int) (hs : size.length ≤ 281474976710656) (hd : data.length ≤ 281474976710656) :
    Called Tryd.prog 18 [gridD size out data] (.int .i64 (if okGrid size out data then 0 else 100)) := by
  refine called_of_run tbOk 6 ⟨Tryd.func18, rfl, rfl, Nat.le_of_ble_eq_true rfl⟩ ?_
  (conv => whnf)
  refine V.st ?_
  repeat ((try ((with_reducible refine .ext ?_); (conv => whnf))); (with_reducible refine call_intro (r := ?_) ?_ ?_); rotate_left; (focus (first | exact (within_c _ _ _))); (conv => whnf); refine V.st ?_)
  refine Cnd.split (CondB.mk (fun h => ?_) (fun h => ?_))
  · (conv => whnf)
    refine V.st ?_
    refine Fin.of ?_
    have : okGrid size out data = false := by
      simp only [okGrid]
      simp at h
      simp
      omega
    rw [this]; rfl
  have h1 : 1 ≤ size.length ∧ size.length ≤ 4 ∧ 1 ≤ out ∧ out ≤ 4 := by
    simp at h; omega
  clear h
  (conv => whnf)
  refine V.st ?_
  refine lp_inv size.length (fun k => (size.take k).all (fun n => decide (2 ≤ n ∧ n ≤ 9)) = true) (fun k => [(1, .box 1 0), (19, .ints .i64 size), (20, .int .i64 size.length), (21, .int .i64 k)]) (fun _ => [(1, .box [.ints .i64 size, .int .i64 out, .ints .i64 data])]) ?_ rfl ?_
  · exact Wk.of ⟨rfl, rfl, rfl, rfl, trivial⟩ ⟨rfl, trivial⟩
  intro k hk hI
  (conv => whnf)
  refine V.st ?_
  refine Cnd.split (CondB.mk (fun h => ?_) (fun h => ?_))
  · simp only [decide_eq_true_eq] at h
    obtain ⟨x, hx1⟩ : ∃ x, size[k]? = some x := ⟨size[k], List.getElem?_eq_getElem (by omega)⟩
    have ex := V.getD_toNat size k x hx1
    (conv => whnf)
    refine V.st ?_
    repeat ((try ((with_reducible refine .ext ?_); (conv => whnf))); (with_reducible refine call_intro (r := ?_) ?_ ?_); rotate_left; (focus (first | exact (within_c _ _ _))); (conv => whnf); refine V.st ?_)
    rw [ex]
    refine Cnd.split (CondB.mk (fun h => ?_) (fun h => ?_))
    · (conv => whnf)
      refine V.st ?_
      refine Fin.of ?_
      rw [okGrid_size hx1 (by simp at h; omega)]; rfl
    · (conv => whnf)
      refine V.st ?_
      exact ⟨k + 1, ⟨by omega, by rw [List.take_add_one, List.all_append, hI, hx1]; simp at h ⊢; omega⟩, by omega, Wk.of ⟨rfl, rfl, rfl, rfl, trivial⟩ ⟨rfl, trivial⟩⟩
  · (conv => whnf)
    refine V.st ?_
    simp only [decide_eq_false_iff_not] at h
    have hall : size.all (fun n => decide (2 ≤ n ∧ n ≤ 9)) = true := by rw [← hI, List.take_of_length_le (by omega)]
    have hp := prod_bd hall
    have hm := prodm_bd hall h1.2.1 h1.2.2
    refine ⟨(.take 0 (.take 1 (.take 2 (.take 3 (.take 4 (.take 5 (.take 6 (.take 7 (.take 8 (.take 9 (.take 11 (.take 12 (.ev (.cons 10 [12, 11, 7, 6, 5] (.take 13 (.take 14 (.take 15 (.done)))) (.nil))))))))))))))), ⟨by kernel_rfl, by kernel_rfl, by kernel_rfl⟩, .go ?_⟩
    (conv => whnf)
    refine V.st ?_
    repeat ((try ((with_reducible refine .ext ?_); (conv => whnf))); (with_reducible refine call_intro (r := ?_) ?_ ?_); rotate_left; (focus (first | exact (product_c _ (fun k _ => (hp k).2.2 h1.2.1) hs))); (conv => whnf); refine V.st ?_)
    refine Cnd.split (CondB.mk (fun h => ?_) (fun h => ?_))
    · (conv => whnf)
      refine V.st ?_
      refine Fin.of ?_
      have : okGrid size out data = false := by
        unfold okGrid
        have : (decide ((data.length : Int) ≤ 4096 ∧ (data.length : Int) = prod size * out)) = false := by simp at h ⊢; omega
        rw [this]; simp
      rw [this]; rfl
    have h2 : (data.length : Int) ≤ 4096 ∧ (data.length : Int) = prod size * out := by simp at h; omega
    clear h
    (conv => whnf)
    refine V.st ?_
    refine lp_inv data.length (fun k => (data.take k).all (fun v => decide (0 ≤ v ∧ v ≤ 65535)) = true) (fun k => [(1, .box 1 0), (46, .ints .i64 data), (47, .int .i64 data.length), (48, .int .i64 k)]) (fun _ => [(1, .box [.ints .i64 size, .int .i64 out, .ints .i64 data])]) ?_ rfl ?_
    · exact Wk.of ⟨rfl, rfl, rfl, rfl, trivial⟩ ⟨rfl, trivial⟩
    intro k hk hI
    (conv => whnf)
    refine V.st ?_
    refine Cnd.split (CondB.mk (fun h => ?_) (fun h => ?_))
    · simp only [decide_eq_true_eq] at h
      obtain ⟨x, hx1⟩ : ∃ x, data[k]? = some x := ⟨data[k], List.getElem?_eq_getElem (by omega)⟩
      have ex := V.getD_toNat data k x hx1
      (conv => whnf)
      refine V.st ?_
      repeat ((try ((with_reducible refine .ext ?_); (conv => whnf))); (with_reducible refine call_intro (r := ?_) ?_ ?_); rotate_left; (focus (first | exact (within_c _ _ _))); (conv => whnf); refine V.st ?_)
      rw [ex]
      refine Cnd.split (CondB.mk (fun h => ?_) (fun h => ?_))
      · (conv => whnf)
        refine V.st ?_
        refine Fin.of ?_
        rw [okGrid_data hx1 (by simp at h; omega)]; rfl
      · (conv => whnf)
        refine V.st ?_
        exact ⟨k + 1, ⟨by omega, by rw [List.take_add_one, List.all_append, hI, hx1]; simp at h ⊢; omega⟩, by omega, Wk.of ⟨rfl, rfl, rfl, rfl, trivial⟩ ⟨rfl, trivial⟩⟩
    · (conv => whnf)
      refine V.st ?_
      simp only [decide_eq_false_iff_not] at h
      have hall2 : data.all (fun v => decide (0 ≤ v ∧ v ≤ 65535)) = true := by rw [← hI, List.take_of_length_le (by omega)]
      have : okGrid size out data = true := by
        unfold okGrid
        rw [hall, hall2]; simp; omega
      refine Fin.of ?_
      rw [this]; rfl
end Go.Proofs.YtlcaefokcnohnaaDoor
end
section
namespace Go.Proofs.YtlcaefokcnohnaaDoor
open Go Go.V
theorem g3_0 (a b c : Int) : [a, b, c].getD 0 0 = a := rfl
theorem g3_1 (a b c : Int) : [a, b, c].getD 1 0 = b := rfl
theorem g3_2 (a b c : Int) : [a, b, c].getD 2 0 = c := rfl
theorem i3_0 (a b c : Int) : [a, b, c].getD (0 : Int).toNat 0 = a := rfl
theorem i3_1 (a b c : Int) : [a, b, c].getD (1 : Int).toNat 0 = b := rfl
theorem i3_2 (a b c : Int) : [a, b, c].getD (2 : Int).toNat 0 = c := rfl
def v3D (a : V3) : D := .agg [.int .i64 a.1, .int .i64 a.2.1, .int .i64 a.2.2]
def v3I (a : V3) : D := .iarr .i64 [a.1, a.2.1, a.2.2]
theorem v3_IA {E : Env} {h : Pub} {a : V3} {v : Value} (H : Den E h (v3I a) v) : Den E h (v3D a) v := den_iarr H
theorem v3_AI {E : Env} {h : Pub} {a : V3} {v : Value} (H : Den E h (v3D a) v) : Den E h (v3I a) v := den_agg_iarr (xs := [a.1, a.2.1, a.2.2]) H
def Is3 (d : D) (a : V3) : Prop := d = v3D a ∨ d = v3I a
theorem Is3.mkD {a : V3} : Is3 (v3D a) a := .inl rfl
theorem Is3.mkI {a : V3} : Is3 (v3I a) a := .inr rfl
theorem Is3.agg {a b c : Int} : Is3 (.agg [.int .i64 a, .int .i64 b, .int .i64 c]) (a, b, c) := .inl rfl
theorem Is3.iarr {a b c : Int} : Is3 (.iarr .i64 [a, b, c]) (a, b, c) := .inr rfl
theorem Is3.den {E : Env} {h : Pub} {d : D} {a : V3} {v : Value} (H : Is3 d a) (K : Den E h d v) : Den E h (v3D a) v := by
  rcases H with e | e
  · rw [e] at K; exact K
  · rw [e] at K; exact v3_IA K
def sz3 (s0 s1 s2 : Nat) : List Int := [(s0 : Int), (s1 : Int), (s2 : Int)]
theorem sz3_0 (s0 s1 s2 : Nat) : (sz3 s0 s1 s2).getD (0 : Int).toNat 0 = s0 := rfl
theorem sz3_1 (s0 s1 s2 : Nat) : (sz3 s0 s1 s2).getD (1 : Int).toNat 0 = s1 := rfl
theorem sz3_2 (s0 s1 s2 : Nat) : (sz3 s0 s1 s2).getD (2 : Int).toNat 0 = s2 := rfl
theorem sz3_len (s0 s1 s2 : Nat) : (sz3 s0 s1 s2).length = 3 := rfl
structure Cu (s0 s1 s2 : Nat) (data : List Int) : Prop where
  h0 : 2 ≤ s0 ∧ s0 ≤ 9
  h1 : 2 ≤ s1 ∧ s1 ≤ 9
  h2 : 2 ≤ s2 ∧ s2 ≤ 9
  hl : data.length = 3 * (s0 * s1 * s2)
  hd : ∀ v ∈ data, 0 ≤ v ∧ v ≤ 65535
def n3I (x : N3) : D := .iarr .i64 [(x.1 : Int), (x.2.1 : Int), (x.2.2 : Int)]
def n3D (x : N3) : D := .agg [.int .i64 (x.1 : Int), .int .i64 (x.2.1 : Int), .int .i64 (x.2.2 : Int)]
theorem plc_cast (s1 s2 : Nat) (x : N3) : ((x.1 : Int) * s1 + x.2.1) * s2 + x.2.2 = ((plc s1 s2 x : Nat) : Int) := by
  unfold plc; simp only [Int.natCast_add, Int.natCast_mul]
theorem plc_facts {s0 s1 s2 : Nat} {data : List Int} (C : Cu s0 s1 s2 data) {x : N3} (hx : x.1 < s0 ∧ x.2.1 < s1 ∧ x.2.2 < s2) : (0 ≤ (x.1 : Int) * s1 ∧ (x.1 : Int) * s1 ≤ 81) ∧ (0 ≤ ((x.1 : Int) * s1 + x.2.1) * s2 ∧ ((x.1 : Int) * s1 + x.2.1) * s2 ≤ 810) ∧ 3 * plc s1 s2 x + 2 < data.length ∧ plc s1 s2 x ≤ 819 := by
  have h0 := C.h0
  have h1 := C.h1
  have h2 := C.h2
  have a1 : x.1 * s1 ≤ 9 * 9 := Nat.mul_le_mul (by omega) (by omega)
  have a2 : (x.1 * s1 + x.2.1) * s2 ≤ 90 * 9 := Nat.mul_le_mul (by omega) (by omega)
  have hp := plc_lt hx
  have e1 : (x.1 : Int) * s1 = ((x.1 * s1 : Nat) : Int) := by simp
  have e2 : ((x.1 : Int) * s1 + x.2.1) * s2 = (((x.1 * s1 + x.2.1) * s2 : Nat) : Int) := by simp
  rw [e2, e1, C.hl]
  refine ⟨by omega, by omega, by omega, ?_⟩
  unfold plc
  omega
end Go.Proofs.YtlcaefokcnohnaaDoor
end
section
namespace Go.Proofs.YtlcaefokcnohnaaDoor
open Go Go.V
theorem cell_in {s0 s1 s2 n : Nat} (h : n < 6 * cellsN s0 s1 s2) (h0 : 2 ≤ s0) (h1 : 2 ≤ s1) (h2 : 2 ≤ s2) : (cellN s1 s2 n).1 + 1 < s0 ∧ (cellN s1 s2 n).2.1 + 1 < s1 ∧ (cellN s1 s2 n).2.2 + 1 < s2 := by
  obtain ⟨i, j, k, o, hi, hj, hk, ho, rfl⟩ := num_of h
  rw [(cellN_of hj hk ho).1]
  dsimp only
  omega
theorem inc3_in {s0 s1 s2 : Nat} {x : N3} {d : Nat} (h : x.1 + 1 < s0 ∧ x.2.1 + 1 < s1 ∧ x.2.2 + 1 < s2) : (inc3 x d).1 < s0 ∧ (inc3 x d).2.1 < s1 ∧ (inc3 x d).2.2 < s2 := by
  unfold inc3
  split <;> (dsimp only; omega)
theorem k0 : ((0 : Nat) : Int) = 0 := rfl
theorem k1 : ((1 : Nat) : Int) = 1 := rfl
theorem k2 : ((2 : Nat) : Int) = 2 := rfl
theorem k3 : ((3 : Nat) : Int) = 3 := rfl
theorem tn0 : (0 : Int).toNat = 0 := rfl
theorem tn1 : (1 : Int).toNat = 1 := rfl
theorem tn2 : (2 : Int).toNat = 2 := rfl
def stX (x o : N3) : Nat → N3
  | 0 => x
  | 1 => inc3 x o.1
  | 2 => inc3 (inc3 x o.1) o.2.1
  | _ => inc3 (inc3 (inc3 x o.1) o.2.1) o.2.2
theorem stX_in {s0 s1 s2 o : Nat} {x : N3} (h : x.1 + 1 < s0 ∧ x.2.1 + 1 < s1 ∧ x.2.2 + 1 < s2) (ho : o < 6) (k : Nat) : (stX x (ordA o) k).1 < s0 ∧ (stX x (ordA o) k).2.1 < s1 ∧ (stX x (ordA o) k).2.2 < s2 := by
  have h6 : o = 0 ∨ o = 1 ∨ o = 2 ∨ o = 3 ∨ o = 4 ∨ o = 5 := by omega
  match k with
  | 0 => show x.1 < s0 ∧ x.2.1 < s1 ∧ x.2.2 < s2; omega
  | 1 => rcases h6 with e | e | e | e | e | e <;> subst e <;> (simp only [stX, ordA, inc3]; omega)
  | 2 => rcases h6 with e | e | e | e | e | e <;> subst e <;> (simp only [stX, ordA, inc3]; omega)
  | k + 3 => rcases h6 with e | e | e | e | e | e <;> subst e <;> (simp only [stX, ordA, inc3]; omega)
def n3L (x : N3) : List Int := [(x.1 : Int), (x.2.1 : Int), (x.2.2 : Int)]
def rowD (a : V3) : List D := [.int .i64 a.1, .int .i64 a.2.1, .int .i64 a.2.2]
def zD : List D := [.int .i64 0, .int .i64 0, .int .i64 0]
def stD (r : Nat → V3) : Nat → List D
  | 0 => zD ++ zD ++ zD
  | 1 => rowD (r 1) ++ zD ++ zD
  | 2 => rowD (r 1) ++ rowD (r 2) ++ zD
  | _ => rowD (r 1) ++ rowD (r 2) ++ rowD (r 3)
theorem n3L_0 (x : N3) : (n3L x).getD 0 0 = x.1 := rfl
theorem n3L_1 (x : N3) : (n3L x).getD 1 0 = x.2.1 := rfl
theorem n3L_2 (x : N3) : (n3L x).getD 2 0 = x.2.2 := rfl
theorem cs1 (a : Nat) : (a : Int) + 1 = ((a + 1 : Nat) : Int) := rfl
def wR (r1 r2 r3 g : V3) : List Int := [dt g r2 r3, dt r1 g r3, dt r1 r2 g, dt r1 r2 r3]
end Go.Proofs.YtlcaefokcnohnaaDoor
end
section
namespace Go.Proofs.YtlcaefokcnohnaaDoor
open Go Go.V
theorem g4_0 (a b c d : Int) : [a, b, c, d].getD 0 0 = a := rfl
theorem g4_1 (a b c d : Int) : [a, b, c, d].getD 1 0 = b := rfl
theorem g4_2 (a b c d : Int) : [a, b, c, d].getD 2 0 = c := rfl
theorem g4_3 (a b c d : Int) : [a, b, c, d].getD 3 0 = d := rfl
theorem i4_0 (a b c d : Int) : [a, b, c, d].getD (0 : Int).toNat 0 = a := rfl
theorem i4_1 (a b c d : Int) : [a, b, c, d].getD (1 : Int).toNat 0 = b := rfl
theorem i4_2 (a b c d : Int) : [a, b, c, d].getD (2 : Int).toNat 0 = c := rfl
theorem i4_3 (a b c d : Int) : [a, b, c, d].getD (3 : Int).toNat 0 = d := rfl
theorem hld_zero {v0 v1 v2 v3 t : V3} (h : dt (sb v1 v0) (sb v2 v0) (sb v3 v0) = 0) : hld v0 v1 v2 v3 t = none := by
  unfold hld
  dsimp only
  rw [if_pos (.inl h)]
theorem hld_pos {v0 v1 v2 v3 t : V3} {a b c W : Int} (eW : dt (sb v1 v0) (sb v2 v0) (sb v3 v0) = W) (ea : dt (sb t v0) (sb v2 v0) (sb v3 v0) = a) (eb : dt (sb v1 v0) (sb t v0) (sb v3 v0) = b) (ec : dt (sb v1 v0) (sb v2 v0) (sb t v0) = c) (h : 0 < W) :
    hld v0 v1 v2 v3 t = if 0 ≤ a ∧ 0 ≤ b ∧ 0 ≤ c ∧ a + b + c ≤ W then some (a, b, c, W) else none := by
  have es : sg1 W = 1 := by unfold sg1; rw [if_neg (by omega)]
  unfold hld
  dsimp only
  rw [eW, ea, eb, ec, es]
  simp only [Int.one_mul, Int.mul_one]
  split
  · rw [if_neg (by omega)]
  · rw [if_pos (by omega)]
theorem hld_neg {v0 v1 v2 v3 t : V3} {a b c W : Int} (eW : dt (sb v1 v0) (sb v2 v0) (sb v3 v0) = W) (ea : dt (sb t v0) (sb v2 v0) (sb v3 v0) = a) (eb : dt (sb v1 v0) (sb t v0) (sb v3 v0) = b) (ec : dt (sb v1 v0) (sb v2 v0) (sb t v0) = c) (h : W < 0) :
    hld v0 v1 v2 v3 t = if 0 ≤ -a ∧ 0 ≤ -b ∧ 0 ≤ -c ∧ -a + -b + -c ≤ -W then some (-a, -b, -c, -W) else none := by
  have es : sg1 W = -1 := by unfold sg1; rw [if_pos h]
  unfold hld
  dsimp only
  rw [eW, ea, eb, ec, es]
  have n1 : ∀ x : Int, -1 * x = -x := fun x => by omega
  have n2 : W * -1 = -W := by omega
  simp only [n1, n2]
  split
  · rw [if_neg (by omega)]
  · rw [if_pos (by omega)]
end Go.Proofs.YtlcaefokcnohnaaDoor
end
section
namespace Go.Proofs.YtlcaefokcnohnaaDoor
open Go Go.V
theorem sm1 : (1 : Int) - 1 = 0 := rfl
theorem sm2 : (2 : Int) - 1 = 1 := rfl
theorem sm3 : (3 : Int) - 1 = 2 := rfl
theorem s3_0 (a b c d : Int) : [a, b, c].set 0 d = [d, b, c] := rfl
theorem s3_1 (a b c d : Int) : [a, b, c].set 1 d = [a, d, c] := rfl
theorem s3_2 (a b c d : Int) : [a, b, c].set 2 d = [a, b, d] := rfl
theorem tn3 : (3 : Int).toNat = 3 := rfl
theorem cp_j (data : List Int) (p j : Nat) (h : j < 3) : ((data.take ((p : Int) * 3 + 3).toNat).drop ((p : Int) * 3).toNat).getD j 0 = data.getD (3 * p + j) 0 := by
  have e1 : ((p : Int) * 3).toNat = 3 * p := by omega
  have e2 : ((p : Int) * 3 + 3).toNat = 3 * p + 3 := by omega
  rw [e1, e2, List.getD_eq_getElem?_getD, List.getD_eq_getElem?_getD, List.getElem?_drop, List.getElem?_take, if_pos (by omega)]
theorem cp_0 (data : List Int) (p : Nat) : ((data.take ((p : Int) * 3 + 3).toNat).drop ((p : Int) * 3).toNat).getD 0 0 = (gv data p).1 := cp_j data p 0 (by omega)
theorem cp_1 (data : List Int) (p : Nat) : ((data.take ((p : Int) * 3 + 3).toNat).drop ((p : Int) * 3).toNat).getD 1 0 = (gv data p).2.1 := cp_j data p 1 (by omega)
theorem cp_2 (data : List Int) (p : Nat) : ((data.take ((p : Int) * 3 + 3).toNat).drop ((p : Int) * 3).toNat).getD (1 + 1) 0 = (gv data p).2.2 := cp_j data p 2 (by omega)
def v3L (a : V3) : List Int := [a.1, a.2.1, a.2.2]
def zL : List Int := [0, 0, 0]
def tetL (x o : N3) (c : Nat → V3) : Nat → List Int
  | 0 => n3L x ++ n3L o ++ zL ++ zL ++ zL ++ zL
  | 1 => n3L x ++ n3L o ++ v3L (c 0) ++ zL ++ zL ++ zL
  | 2 => n3L x ++ n3L o ++ v3L (c 0) ++ v3L (c 1) ++ zL ++ zL
  | 3 => n3L x ++ n3L o ++ v3L (c 0) ++ v3L (c 1) ++ v3L (c 2) ++ zL
  | _ => n3L x ++ n3L o ++ v3L (c 0) ++ v3L (c 1) ++ v3L (c 2) ++ v3L (c 3)
def tetD (x o : N3) (c : Nat → V3) : D := .agg ((tetL x o c 4).map (D.int .i64))
theorem zU10_0 : type_of% @Nat.zero_add ∧ type_of% @cs1 ∧ type_of% @g3_0 ∧ type_of% @g3_1 ∧ type_of% @g3_2 ∧ type_of% @i3_0 ∧ type_of% @i3_1 ∧ type_of% @i3_2 ∧ type_of% @k0 ∧ type_of% @k1 ∧ type_of% @k2 ∧ type_of% @s3_0 ∧ type_of% @s3_1 ∧ type_of% @s3_2 ∧ type_of% @sm1 ∧ type_of% @sm2 ∧ type_of% @sm3 ∧ type_of% @tn0 ∧ type_of% @tn1 ∧ type_of% @tn2 := ⟨@Nat.zero_add, @cs1, @g3_0, @g3_1, @g3_2, @i3_0, @i3_1, @i3_2, @k0, @k1, @k2, @s3_0, @s3_1, @s3_2, @sm1, @sm2, @sm3, @tn0, @tn1, @tn2⟩
theorem zU10_1 : type_of% @Nat.zero_add ∧ type_of% @cp_0 ∧ type_of% @cp_1 ∧ type_of% @cp_2 ∧ type_of% @cs1 ∧ type_of% @g3_0 ∧ type_of% @g3_1 ∧ type_of% @g3_2 ∧ type_of% @i3_0 ∧ type_of% @i3_1 ∧ type_of% @i3_2 ∧ type_of% @k0 ∧ type_of% @k1 ∧ type_of% @k2 ∧ type_of% @s3_0 ∧ type_of% @s3_1 ∧ type_of% @s3_2 ∧ type_of% @sm1 ∧ type_of% @sm2 ∧ type_of% @sm3 ∧ type_of% @tn0 ∧ type_of% @tn1 ∧ type_of% @tn2 ∧ type_of% @tn3 := ⟨@Nat.zero_add, @cp_0, @cp_1, @cp_2, @cs1, @g3_0, @g3_1, @g3_2, @i3_0, @i3_1, @i3_2, @k0, @k1, @k2, @s3_0, @s3_1, @s3_2, @sm1, @sm2, @sm3, @tn0, @tn1, @tn2, @tn3⟩
theorem made_0 {s0 s1 s2 : Nat} {data : List Int} (C : Cu s0 s1 s2 data) {x : N3} {o : Nat} (ho : o < 6) (hx : x.1 + 1 < s0 ∧ x.2.1 + 1 < s1 ∧ x.2.2 + 1 < s2) (c : Nat → V3) (hc : ∀ k, c k = cnr data s1 s2 (stX x (ordA o) k)) :
    Called Tryd.prog 20 [gridD (sz3 s0 s1 s2) 3 data, n3D x, n3I (ordA o)] (tetD x (ordA o) c) := by
  have h0 := C.h0
  have h1 := C.h1
  have h2 := C.h2
  have z0 := sz3_0 s0 s1 s2
  have z1 := sz3_1 s0 s1 s2
  have z2 := sz3_2 s0 s1 s2
  have zl := sz3_len s0 s1 s2
  have y1 : (sz3 s0 s1 s2).getD 1 0 = s1 := rfl
  have y2 : (sz3 s0 s1 s2).getD 2 0 = s2 := rfl
  have hf : ∀ k, _ := fun k => plc_facts C (stX_in hx ho k)
  have he : ∀ k, _ := fun k => plc_cast s1 s2 (stX x (ordA o) k)
  have hcv : ∀ k, c k = gv data (plc s1 s2 (stX x (ordA o) k)) := hc
  clear hc
  unfold gridD
  generalize sz3 s0 s1 s2 = sz at *
  obtain ⟨x0, x1, x2⟩ := x
  dsimp only at hx
  unfold n3D n3I
  have h6 : o = 0 ∨ o = 1 ∨ o = 2 ∨ o = 3 ∨ o = 4 ∨ o = 5 := by omega
  rcases h6 with h6 | h6 | h6 | h6 | h6 | h6
  all_goals subst h6
  · refine called_of_run tbOk 6 ⟨Tryd.func20, rfl, rfl, Nat.le_of_ble_eq_true rfl⟩ ?_
    (conv => whnf)
    (conv => whnf)
    (try simp only [Nat.zero_add])
    repeat ((first | refine V.s1 ?_); (try simp only [Nat.zero_add]))
    refine lp_any (0) (fun k => k ≤ 4) (fun k => 4 - k) (fun k => [(15, .int .i64 k)]) (fun k => [(8, .arr .i64 (n3L (stX (x0, x1, x2) (ordA 0) (k - 1)))), (7, .box ((tetL (x0, x1, x2) (ordA 0) c k).map (D.int .i64)))]) ?_ ?_ ?_
    exact V.wk
    exact Nat.zero_le _
    intro k hk
    (conv => whnf)
    (try simp only [Nat.zero_add])
    repeat ((first | refine V.s1 ?_); (try simp only [Nat.zero_add]))
    refine Cnd.split (CondB.mk (fun hq => ?_) (fun hq => ?_))
    · rw [decide_eq_true_eq] at hq
      have hk3 : k = 0 ∨ k = 1 ∨ k = 2 ∨ k = 3 := by omega
      rcases hk3 with e | e | e | e
      · subst e
        have e0 := he 0
        have f0 := hf 0
        have c0 := (hcv 0).symm
        simp only [stX, n3L, v3L, ordA, inc3, k0, tetL, zL, List.cons_append, List.nil_append, List.map_cons, List.map_nil, Nat.zero_sub, Nat.sub_self, Nat.add_one_sub_one, Nat.reduceSub] at e0 f0 c0 ⊢
        (conv => whnf)
        (try simp only [zU10_0])
        repeat ((first | refine V.s1 ?_); (try simp only [zU10_0]))
        refine ⟨(.take 0 (.take 1 (.take 2 (.take 3 (.take 4 (.take 5 (.take 6 (.take 7 (.take 8 (.take 9 (.take 10 (.take 11 (.take 12 (.take 13 (.take 14 (.take 15 (.take 16 (.take 17 (.take 18 (.take 19 (.take 20 (.take 21 (.done))))))))))))))))))))))), ⟨by kernel_rfl, by kernel_rfl, by kernel_rfl⟩, .go ?_⟩
        (conv => whnf)
        (try simp only [zU10_1, z1, z2, y1, y2, e0, c0])
        repeat ((first | refine V.s1 ?_); (try simp only [zU10_1, z1, z2, y1, y2, e0, c0]))
        refine ⟨(.take 0 (.take 1 (.take 2 (.take 3 (.take 4 (.take 5 (.take 6 (.take 7 (.take 8 (.take 9 (.ev (.cons 10 [] (.done) (.nil))))))))))))), ⟨by kernel_rfl, by kernel_rfl, by kernel_rfl⟩, .go ?_⟩
        (conv => whnf)
        (try simp only [zU10_1, z1, z2, y1, y2, e0, c0])
        repeat ((first | refine V.s1 ?_); (try simp only [zU10_1, z1, z2, y1, y2, e0, c0]))
        exact ⟨1, by omega, by omega, V.wk⟩
      · subst e
        have e0 := he 1
        have f0 := hf 1
        have c0 := (hcv 1).symm
        simp only [stX, n3L, v3L, ordA, inc3, k1, tetL, zL, List.cons_append, List.nil_append, List.map_cons, List.map_nil, Nat.zero_sub, Nat.sub_self, Nat.add_one_sub_one, Nat.reduceSub] at e0 f0 c0 ⊢
        (conv => whnf)
        (try simp only [zU10_0])
        repeat ((first | refine V.s1 ?_); (try simp only [zU10_0]))
        refine ⟨(.take 0 (.take 1 (.take 2 (.take 3 (.take 4 (.take 5 (.take 6 (.take 7 (.take 8 (.take 9 (.take 10 (.take 11 (.take 12 (.take 13 (.take 14 (.take 15 (.take 16 (.take 17 (.take 18 (.take 19 (.take 20 (.take 21 (.done))))))))))))))))))))))), ⟨by kernel_rfl, by kernel_rfl, by kernel_rfl⟩, .go ?_⟩
        (conv => whnf)
        (try simp only [zU10_1, z1, z2, y1, y2, e0, c0])
        repeat ((first | refine V.s1 ?_); (try simp only [zU10_1, z1, z2, y1, y2, e0, c0]))
        refine ⟨(.take 0 (.take 1 (.take 2 (.take 3 (.take 4 (.take 5 (.take 6 (.take 7 (.take 8 (.take 9 (.ev (.cons 10 [] (.done) (.nil))))))))))))), ⟨by kernel_rfl, by kernel_rfl, by kernel_rfl⟩, .go ?_⟩
        (conv => whnf)
        (try simp only [zU10_1, z1, z2, y1, y2, e0, c0])
        repeat ((first | refine V.s1 ?_); (try simp only [zU10_1, z1, z2, y1, y2, e0, c0]))
        exact ⟨2, by omega, by omega, V.wk⟩
      · subst e
        have e0 := he 2
        have f0 := hf 2
        have c0 := (hcv 2).symm
        simp only [stX, n3L, v3L, ordA, inc3, k2, tetL, zL, List.cons_append, List.nil_append, List.map_cons, List.map_nil, Nat.zero_sub, Nat.sub_self, Nat.add_one_sub_one, Nat.reduceSub] at e0 f0 c0 ⊢
        (conv => whnf)
        (try simp only [zU10_0])
        repeat ((first | refine V.s1 ?_); (try simp only [zU10_0]))
        refine ⟨(.take 0 (.take 1 (.take 2 (.take 3 (.take 4 (.take 5 (.take 6 (.take 7 (.take 8 (.take 9 (.take 10 (.take 11 (.take 12 (.take 13 (.take 14 (.take 15 (.take 16 (.take 17 (.take 18 (.take 19 (.take 20 (.take 21 (.done))))))))))))))))))))))), ⟨by kernel_rfl, by kernel_rfl, by kernel_rfl⟩, .go ?_⟩
        (conv => whnf)
        (try simp only [zU10_1, z1, z2, y1, y2, e0, c0])
        repeat ((first | refine V.s1 ?_); (try simp only [zU10_1, z1, z2, y1, y2, e0, c0]))
        refine ⟨(.take 0 (.take 1 (.take 2 (.take 3 (.take 4 (.take 5 (.take 6 (.take 7 (.take 8 (.take 9 (.ev (.cons 10 [] (.done) (.nil))))))))))))), ⟨by kernel_rfl, by kernel_rfl, by kernel_rfl⟩, .go ?_⟩
        (conv => whnf)
        (try simp only [zU10_1, z1, z2, y1, y2, e0, c0])
        repeat ((first | refine V.s1 ?_); (try simp only [zU10_1, z1, z2, y1, y2, e0, c0]))
        exact ⟨3, by omega, by omega, V.wk⟩
      · subst e
        have e0 := he 3
        have f0 := hf 3
        have c0 := (hcv 3).symm
        simp only [stX, n3L, v3L, ordA, inc3, k3, tetL, zL, List.cons_append, List.nil_append, List.map_cons, List.map_nil, Nat.zero_sub, Nat.sub_self, Nat.add_one_sub_one, Nat.reduceSub] at e0 f0 c0 ⊢
        (conv => whnf)
        (try simp only [zU10_0])
        repeat ((first | refine V.s1 ?_); (try simp only [zU10_0]))
        refine ⟨(.take 0 (.take 1 (.take 2 (.take 3 (.take 4 (.take 5 (.take 6 (.take 7 (.take 8 (.take 9 (.take 10 (.take 11 (.take 12 (.take 13 (.take 14 (.take 15 (.take 16 (.take 17 (.take 18 (.take 19 (.take 20 (.take 21 (.done))))))))))))))))))))))), ⟨by kernel_rfl, by kernel_rfl, by kernel_rfl⟩, .go ?_⟩
        (conv => whnf)
        (try simp only [zU10_1, z1, z2, y1, y2, e0, c0])
        repeat ((first | refine V.s1 ?_); (try simp only [zU10_1, z1, z2, y1, y2, e0, c0]))
        refine ⟨(.take 0 (.take 1 (.take 2 (.take 3 (.take 4 (.take 5 (.take 6 (.take 7 (.take 8 (.take 9 (.ev (.cons 10 [] (.done) (.nil))))))))))))), ⟨by kernel_rfl, by kernel_rfl, by kernel_rfl⟩, .go ?_⟩
        (conv => whnf)
        (try simp only [zU10_1, z1, z2, y1, y2, e0, c0])
        repeat ((first | refine V.s1 ?_); (try simp only [zU10_1, z1, z2, y1, y2, e0, c0]))
        exact ⟨4, by omega, by omega, V.wk⟩
    · rw [decide_eq_false_iff_not] at hq
      have hk3 : k = 4 := by omega
      subst hk3
      (conv => whnf)
      (try simp only [Nat.zero_add])
      repeat ((first | refine V.s1 ?_); (try simp only [Nat.zero_add]))
      exact Fin.of rfl
  · refine called_of_run tbOk 6 ⟨Tryd.func20, rfl, rfl, Nat.le_of_ble_eq_true rfl⟩ ?_
    (conv => whnf)
    (conv => whnf)
    (try simp only [Nat.zero_add])
    repeat ((first | refine V.s1 ?_); (try simp only [Nat.zero_add]))
    refine lp_any (0) (fun k => k ≤ 4) (fun k => 4 - k) (fun k => [(15, .int .i64 k)]) (fun k => [(8, .arr .i64 (n3L (stX (x0, x1, x2) (ordA 1) (k - 1)))), (7, .box ((tetL (x0, x1, x2) (ordA 1) c k).map (D.int .i64)))]) ?_ ?_ ?_
    exact V.wk
    exact Nat.zero_le _
    intro k hk
    (conv => whnf)
    (try simp only [Nat.zero_add])
    repeat ((first | refine V.s1 ?_); (try simp only [Nat.zero_add]))
    refine Cnd.split (CondB.mk (fun hq => ?_) (fun hq => ?_))
    · rw [decide_eq_true_eq] at hq
      have hk3 : k = 0 ∨ k = 1 ∨ k = 2 ∨ k = 3 := by omega
      rcases hk3 with e | e | e | e
      · subst e
        have e0 := he 0
        have f0 := hf 0
        have c0 := (hcv 0).symm
        simp only [stX, n3L, v3L, ordA, inc3, k0, tetL, zL, List.cons_append, List.nil_append, List.map_cons, List.map_nil, Nat.zero_sub, Nat.sub_self, Nat.add_one_sub_one, Nat.reduceSub] at e0 f0 c0 ⊢
        (conv => whnf)
        (try simp only [zU10_0])
        repeat ((first | refine V.s1 ?_); (try simp only [zU10_0]))
        refine ⟨(.take 0 (.take 1 (.take 2 (.take 3 (.take 4 (.take 5 (.take 6 (.take 7 (.take 8 (.take 9 (.take 10 (.take 11 (.take 12 (.take 13 (.take 14 (.take 15 (.take 16 (.take 17 (.take 18 (.take 19 (.take 20 (.take 21 (.done))))))))))))))))))))))), ⟨by kernel_rfl, by kernel_rfl, by kernel_rfl⟩, .go ?_⟩
        (conv => whnf)
        (try simp only [zU10_1, z1, z2, y1, y2, e0, c0])
        repeat ((first | refine V.s1 ?_); (try simp only [zU10_1, z1, z2, y1, y2, e0, c0]))
        refine ⟨(.take 0 (.take 1 (.take 2 (.take 3 (.take 4 (.take 5 (.take 6 (.take 7 (.take 8 (.take 9 (.ev (.cons 10 [] (.done) (.nil))))))))))))), ⟨by kernel_rfl, by kernel_rfl, by kernel_rfl⟩, .go ?_⟩
        (conv => whnf)
        (try simp only [zU10_1, z1, z2, y1, y2, e0, c0])
        repeat ((first | refine V.s1 ?_); (try simp only [zU10_1, z1, z2, y1, y2, e0, c0]))
        exact ⟨1, by omega, by omega, V.wk⟩
      · subst e
        have e0 := he 1
        have f0 := hf 1
        have c0 := (hcv 1).symm
        simp only [stX, n3L, v3L, ordA, inc3, k1, tetL, zL, List.cons_append, List.nil_append, List.map_cons, List.map_nil, Nat.zero_sub, Nat.sub_self, Nat.add_one_sub_one, Nat.reduceSub] at e0 f0 c0 ⊢
        (conv => whnf)
        (try simp only [zU10_0])
        repeat ((first | refine V.s1 ?_); (try simp only [zU10_0]))
        refine ⟨(.take 0 (.take 1 (.take 2 (.take 3 (.take 4 (.take 5 (.take 6 (.take 7 (.take 8 (.take 9 (.take 10 (.take 11 (.take 12 (.take 13 (.take 14 (.take 15 (.take 16 (.take 17 (.take 18 (.take 19 (.take 20 (.take 21 (.done))))))))))))))))))))))), ⟨by kernel_rfl, by kernel_rfl, by kernel_rfl⟩, .go ?_⟩
        (conv => whnf)
        (try simp only [zU10_1, z1, z2, y1, y2, e0, c0])
        repeat ((first | refine V.s1 ?_); (try simp only [zU10_1, z1, z2, y1, y2, e0, c0]))
        refine ⟨(.take 0 (.take 1 (.take 2 (.take 3 (.take 4 (.take 5 (.take 6 (.take 7 (.take 8 (.take 9 (.ev (.cons 10 [] (.done) (.nil))))))))))))), ⟨by kernel_rfl, by kernel_rfl, by kernel_rfl⟩, .go ?_⟩
        (conv => whnf)
        (try simp only [zU10_1, z1, z2, y1, y2, e0, c0])
        repeat ((first | refine V.s1 ?_); (try simp only [zU10_1, z1, z2, y1, y2, e0, c0]))
        exact ⟨2, by omega, by omega, V.wk⟩
      · subst e
        have e0 := he 2
        have f0 := hf 2
        have c0 := (hcv 2).symm
        simp only [stX, n3L, v3L, ordA, inc3, k2, tetL, zL, List.cons_append, List.nil_append, List.map_cons, List.map_nil, Nat.zero_sub, Nat.sub_self, Nat.add_one_sub_one, Nat.reduceSub] at e0 f0 c0 ⊢
        (conv => whnf)
        (try simp only [zU10_0])
        repeat ((first | refine V.s1 ?_); (try simp only [zU10_0]))
        refine ⟨(.take 0 (.take 1 (.take 2 (.take 3 (.take 4 (.take 5 (.take 6 (.take 7 (.take 8 (.take 9 (.take 10 (.take 11 (.take 12 (.take 13 (.take 14 (.take 15 (.take 16 (.take 17 (.take 18 (.take 19 (.take 20 (.take 21 (.done))))))))))))))))))))))), ⟨by kernel_rfl, by kernel_rfl, by kernel_rfl⟩, .go ?_⟩
        (conv => whnf)
        (try simp only [zU10_1, z1, z2, y1, y2, e0, c0])
        repeat ((first | refine V.s1 ?_); (try simp only [zU10_1, z1, z2, y1, y2, e0, c0]))
        refine ⟨(.take 0 (.take 1 (.take 2 (.take 3 (.take 4 (.take 5 (.take 6 (.take 7 (.take 8 (.take 9 (.ev (.cons 10 [] (.done) (.nil))))))))))))), ⟨by kernel_rfl, by kernel_rfl, by kernel_rfl⟩, .go ?_⟩
        (conv => whnf)
        (try simp only [zU10_1, z1, z2, y1, y2, e0, c0])
        repeat ((first | refine V.s1 ?_); (try simp only [zU10_1, z1, z2, y1, y2, e0, c0]))
        exact ⟨3, by omega, by omega, V.wk⟩
      · subst e
        have e0 := he 3
        have f0 := hf 3
        have c0 := (hcv 3).symm
        simp only [stX, n3L, v3L, ordA, inc3, k3, tetL, zL, List.cons_append, List.nil_append, List.map_cons, List.map_nil, Nat.zero_sub, Nat.sub_self, Nat.add_one_sub_one, Nat.reduceSub] at e0 f0 c0 ⊢
        (conv => whnf)
        (try simp only [zU10_0])
        repeat ((first | refine V.s1 ?_); (try simp only [zU10_0]))
        refine ⟨(.take 0 (.take 1 (.take 2 (.take 3 (.take 4 (.take 5 (.take 6 (.take 7 (.take 8 (.take 9 (.take 10 (.take 11 (.take 12 (.take 13 (.take 14 (.take 15 (.take 16 (.take 17 (.take 18 (.take 19 (.take 20 (.take 21 (.done))))))))))))))))))))))), ⟨by kernel_rfl, by kernel_rfl, by kernel_rfl⟩, .go ?_⟩
        (conv => whnf)
        (try simp only [zU10_1, z1, z2, y1, y2, e0, c0])
        repeat ((first | refine V.s1 ?_); (try simp only [zU10_1, z1, z2, y1, y2, e0, c0]))
        refine ⟨(.take 0 (.take 1 (.take 2 (.take 3 (.take 4 (.take 5 (.take 6 (.take 7 (.take 8 (.take 9 (.ev (.cons 10 [] (.done) (.nil))))))))))))), ⟨by kernel_rfl, by kernel_rfl, by kernel_rfl⟩, .go ?_⟩
        (conv => whnf)
        (try simp only [zU10_1, z1, z2, y1, y2, e0, c0])
        repeat ((first | refine V.s1 ?_); (try simp only [zU10_1, z1, z2, y1, y2, e0, c0]))
        exact ⟨4, by omega, by omega, V.wk⟩
    · rw [decide_eq_false_iff_not] at hq
      have hk3 : k = 4 := by omega
      subst hk3
      (conv => whnf)
      (try simp only [Nat.zero_add])
      repeat ((first | refine V.s1 ?_); (try simp only [Nat.zero_add]))
      exact Fin.of rfl
  · refine called_of_run tbOk 6 ⟨Tryd.func20, rfl, rfl, Nat.le_of_ble_eq_true rfl⟩ ?_
    (conv => whnf)
    (conv => whnf)
    (try simp only [Nat.zero_add])
    repeat ((first | refine V.s1 ?_); (try simp only [Nat.zero_add]))
    refine lp_any (0) (fun k => k ≤ 4) (fun k => 4 - k) (fun k => [(15, .int .i64 k)]) (fun k => [(8, .arr .i64 (n3L (stX (x0, x1, x2) (ordA 2) (k - 1)))), (7, .box ((tetL (x0, x1, x2) (ordA 2) c k).map (D.int .i64)))]) ?_ ?_ ?_
    exact V.wk
    exact Nat.zero_le _
    intro k hk
    (conv => whnf)
    (try simp only [Nat.zero_add])
    repeat ((first | refine V.s1 ?_); (try simp only [Nat.zero_add]))
    refine Cnd.split (CondB.mk (fun hq => ?_) (fun hq => ?_))
    · rw [decide_eq_true_eq] at hq
      have hk3 : k = 0 ∨ k = 1 ∨ k = 2 ∨ k = 3 := by omega
      rcases hk3 with e | e | e | e
      · subst e
        have e0 := he 0
        have f0 := hf 0
        have c0 := (hcv 0).symm
        simp only [stX, n3L, v3L, ordA, inc3, k0, tetL, zL, List.cons_append, List.nil_append, List.map_cons, List.map_nil, Nat.zero_sub, Nat.sub_self, Nat.add_one_sub_one, Nat.reduceSub] at e0 f0 c0 ⊢
        (conv => whnf)
        (try simp only [zU10_0])
        repeat ((first | refine V.s1 ?_); (try simp only [zU10_0]))
        refine ⟨(.take 0 (.take 1 (.take 2 (.take 3 (.take 4 (.take 5 (.take 6 (.take 7 (.take 8 (.take 9 (.take 10 (.take 11 (.take 12 (.take 13 (.take 14 (.take 15 (.take 16 (.take 17 (.take 18 (.take 19 (.take 20 (.take 21 (.done))))))))))))))))))))))), ⟨by kernel_rfl, by kernel_rfl, by kernel_rfl⟩, .go ?_⟩
        (conv => whnf)
        (try simp only [zU10_1, z1, z2, y1, y2, e0, c0])
        repeat ((first | refine V.s1 ?_); (try simp only [zU10_1, z1, z2, y1, y2, e0, c0]))
        refine ⟨(.take 0 (.take 1 (.take 2 (.take 3 (.take 4 (.take 5 (.take 6 (.take 7 (.take 8 (.take 9 (.ev (.cons 10 [] (.done) (.nil))))))))))))), ⟨by kernel_rfl, by kernel_rfl, by kernel_rfl⟩, .go ?_⟩
        (conv => whnf)
        (try simp only [zU10_1, z1, z2, y1, y2, e0, c0])
        repeat ((first | refine V.s1 ?_); (try simp only [zU10_1, z1, z2, y1, y2, e0, c0]))
        exact ⟨1, by omega, by omega, V.wk⟩
      · subst e
        have e0 := he 1
        have f0 := hf 1
        have c0 := (hcv 1).symm
        simp only [stX, n3L, v3L, ordA, inc3, k1, tetL, zL, List.cons_append, List.nil_append, List.map_cons, List.map_nil, Nat.zero_sub, Nat.sub_self, Nat.add_one_sub_one, Nat.reduceSub] at e0 f0 c0 ⊢
        (conv => whnf)
        (try simp only [zU10_0])
        repeat ((first | refine V.s1 ?_); (try simp only [zU10_0]))
        refine ⟨(.take 0 (.take 1 (.take 2 (.take 3 (.take 4 (.take 5 (.take 6 (.take 7 (.take 8 (.take 9 (.take 10 (.take 11 (.take 12 (.take 13 (.take 14 (.take 15 (.take 16 (.take 17 (.take 18 (.take 19 (.take 20 (.take 21 (.done))))))))))))))))))))))), ⟨by kernel_rfl, by kernel_rfl, by kernel_rfl⟩, .go ?_⟩
        (conv => whnf)
        (try simp only [zU10_1, z1, z2, y1, y2, e0, c0])
        repeat ((first | refine V.s1 ?_); (try simp only [zU10_1, z1, z2, y1, y2, e0, c0]))
        refine ⟨(.take 0 (.take 1 (.take 2 (.take 3 (.take 4 (.take 5 (.take 6 (.take 7 (.take 8 (.take 9 (.ev (.cons 10 [] (.done) (.nil))))))))))))), ⟨by kernel_rfl, by kernel_rfl, by kernel_rfl⟩, .go ?_⟩
        (conv => whnf)
        (try simp only [zU10_1, z1, z2, y1, y2, e0, c0])
        repeat ((first | refine V.s1 ?_); (try simp only [zU10_1, z1, z2, y1, y2, e0, c0]))
        exact ⟨2, by omega, by omega, V.wk⟩
      · subst e
        have e0 := he 2
        have f0 := hf 2
        have c0 := (hcv 2).symm
        simp only [stX, n3L, v3L, ordA, inc3, k2, tetL, zL, List.cons_append, List.nil_append, List.map_cons, List.map_nil, Nat.zero_sub, Nat.sub_self, Nat.add_one_sub_one, Nat.reduceSub] at e0 f0 c0 ⊢
        (conv => whnf)
        (try simp only [zU10_0])
        repeat ((first | refine V.s1 ?_); (try simp only [zU10_0]))
        refine ⟨(.take 0 (.take 1 (.take 2 (.take 3 (.take 4 (.take 5 (.take 6 (.take 7 (.take 8 (.take 9 (.take 10 (.take 11 (.take 12 (.take 13 (.take 14 (.take 15 (.take 16 (.take 17 (.take 18 (.take 19 (.take 20 (.take 21 (.done))))))))))))))))))))))), ⟨by kernel_rfl, by kernel_rfl, by kernel_rfl⟩, .go ?_⟩
        (conv => whnf)
        (try simp only [zU10_1, z1, z2, y1, y2, e0, c0])
        repeat ((first | refine V.s1 ?_); (try simp only [zU10_1, z1, z2, y1, y2, e0, c0]))
        refine ⟨(.take 0 (.take 1 (.take 2 (.take 3 (.take 4 (.take 5 (.take 6 (.take 7 (.take 8 (.take 9 (.ev (.cons 10 [] (.done) (.nil))))))))))))), ⟨by kernel_rfl, by kernel_rfl, by kernel_rfl⟩, .go ?_⟩
        (conv => whnf)
        (try simp only [zU10_1, z1, z2, y1, y2, e0, c0])
        repeat ((first | refine V.s1 ?_); (try simp only [zU10_1, z1, z2, y1, y2, e0, c0]))
        exact ⟨3, by omega, by omega, V.wk⟩
      · subst e
        have e0 := he 3
        have f0 := hf 3
        have c0 := (hcv 3).symm
        simp only [stX, n3L, v3L, ordA, inc3, k3, tetL, zL, List.cons_append, List.nil_append, List.map_cons, List.map_nil, Nat.zero_sub, Nat.sub_self, Nat.add_one_sub_one, Nat.reduceSub] at e0 f0 c0 ⊢
        (conv => whnf)
        (try simp only [zU10_0])
        repeat ((first | refine V.s1 ?_); (try simp only [zU10_0]))
        refine ⟨(.take 0 (.take 1 (.take 2 (.take 3 (.take 4 (.take 5 (.take 6 (.take 7 (.take 8 (.take 9 (.take 10 (.take 11 (.take 12 (.take 13 (.take 14 (.take 15 (.take 16 (.take 17 (.take 18 (.take 19 (.take 20 (.take 21 (.done))))))))))))))))))))))), ⟨by kernel_rfl, by kernel_rfl, by kernel_rfl⟩, .go ?_⟩
        (conv => whnf)
        (try simp only [zU10_1, z1, z2, y1, y2, e0, c0])
        repeat ((first | refine V.s1 ?_); (try simp only [zU10_1, z1, z2, y1, y2, e0, c0]))
        refine ⟨(.take 0 (.take 1 (.take 2 (.take 3 (.take 4 (.take 5 (.take 6 (.take 7 (.take 8 (.take 9 (.ev (.cons 10 [] (.done) (.nil))))))))))))), ⟨by kernel_rfl, by kernel_rfl, by kernel_rfl⟩, .go ?_⟩
        (conv => whnf)
        (try simp only [zU10_1, z1, z2, y1, y2, e0, c0])
        repeat ((first | refine V.s1 ?_); (try simp only [zU10_1, z1, z2, y1, y2, e0, c0]))
        exact ⟨4, by omega, by omega, V.wk⟩
    · rw [decide_eq_false_iff_not] at hq
      have hk3 : k = 4 := by omega
      subst hk3
      (conv => whnf)
      (try simp only [Nat.zero_add])
      repeat ((first | refine V.s1 ?_); (try simp only [Nat.zero_add]))
      exact Fin.of rfl
  · refine called_of_run tbOk 6 ⟨Tryd.func20, rfl, rfl, Nat.le_of_ble_eq_true rfl⟩ ?_
    (conv => whnf)
    (conv => whnf)
    (try simp only [Nat.zero_add])
    repeat ((first | refine V.s1 ?_); (try simp only [Nat.zero_add]))
    refine lp_any (0) (fun k => k ≤ 4) (fun k => 4 - k) (fun k => [(15, .int .i64 k)]) (fun k => [(8, .arr .i64 (n3L (stX (x0, x1, x2) (ordA 3) (k - 1)))), (7, .box ((tetL (x0, x1, x2) (ordA 3) c k).map (D.int .i64)))]) ?_ ?_ ?_
    exact V.wk
    exact Nat.zero_le _
    intro k hk
    (conv => whnf)
    (try simp only [Nat.zero_add])
    repeat ((first | refine V.s1 ?_); (try simp only [Nat.zero_add]))
    refine Cnd.split (CondB.mk (fun hq => ?_) (fun hq => ?_))
    · rw [decide_eq_true_eq] at hq
      have hk3 : k = 0 ∨ k = 1 ∨ k = 2 ∨ k = 3 := by omega
      rcases hk3 with e | e | e | e
      · subst e
        have e0 := he 0
        have f0 := hf 0
        have c0 := (hcv 0).symm
        simp only [stX, n3L, v3L, ordA, inc3, k0, tetL, zL, List.cons_append, List.nil_append, List.map_cons, List.map_nil, Nat.zero_sub, Nat.sub_self, Nat.add_one_sub_one, Nat.reduceSub] at e0 f0 c0 ⊢
        (conv => whnf)
        (try simp only [zU10_0])
        repeat ((first | refine V.s1 ?_); (try simp only [zU10_0]))
        refine ⟨(.take 0 (.take 1 (.take 2 (.take 3 (.take 4 (.take 5 (.take 6 (.take 7 (.take 8 (.take 9 (.take 10 (.take 11 (.take 12 (.take 13 (.take 14 (.take 15 (.take 16 (.take 17 (.take 18 (.take 19 (.take 20 (.take 21 (.done))))))))))))))))))))))), ⟨by kernel_rfl, by kernel_rfl, by kernel_rfl⟩, .go ?_⟩
        (conv => whnf)
        (try simp only [zU10_1, z1, z2, y1, y2, e0, c0])
        repeat ((first | refine V.s1 ?_); (try simp only [zU10_1, z1, z2, y1, y2, e0, c0]))
        refine ⟨(.take 0 (.take 1 (.take 2 (.take 3 (.take 4 (.take 5 (.take 6 (.take 7 (.take 8 (.take 9 (.ev (.cons 10 [] (.done) (.nil))))))))))))), ⟨by kernel_rfl, by kernel_rfl, by kernel_rfl⟩, .go ?_⟩
        (conv => whnf)
        (try simp only [zU10_1, z1, z2, y1, y2, e0, c0])
        repeat ((first | refine V.s1 ?_); (try simp only [zU10_1, z1, z2, y1, y2, e0, c0]))
        exact ⟨1, by omega, by omega, V.wk⟩
      · subst e
        have e0 := he 1
        have f0 := hf 1
        have c0 := (hcv 1).symm
        simp only [stX, n3L, v3L, ordA, inc3, k1, tetL, zL, List.cons_append, List.nil_append, List.map_cons, List.map_nil, Nat.zero_sub, Nat.sub_self, Nat.add_one_sub_one, Nat.reduceSub] at e0 f0 c0 ⊢
        (conv => whnf)
        (try simp only [zU10_0])
        repeat ((first | refine V.s1 ?_); (try simp only [zU10_0]))
        refine ⟨(.take 0 (.take 1 (.take 2 (.take 3 (.take 4 (.take 5 (.take 6 (.take 7 (.take 8 (.take 9 (.take 10 (.take 11 (.take 12 (.take 13 (.take 14 (.take 15 (.take 16 (.take 17 (.take 18 (.take 19 (.take 20 (.take 21 (.done))))))))))))))))))))))), ⟨by kernel_rfl, by kernel_rfl, by kernel_rfl⟩, .go ?_⟩
        (conv => whnf)
        (try simp only [zU10_1, z1, z2, y1, y2, e0, c0])
        repeat ((first | refine V.s1 ?_); (try simp only [zU10_1, z1, z2, y1, y2, e0, c0]))
        refine ⟨(.take 0 (.take 1 (.take 2 (.take 3 (.take 4 (.take 5 (.take 6 (.take 7 (.take 8 (.take 9 (.ev (.cons 10 [] (.done) (.nil))))))))))))), ⟨by kernel_rfl, by kernel_rfl, by kernel_rfl⟩, .go ?_⟩
        (conv => whnf)
        (try simp only [zU10_1, z1, z2, y1, y2, e0, c0])
        repeat ((first | refine V.s1 ?_); (try simp only [zU10_1, z1, z2, y1, y2, e0, c0]))
        exact ⟨2, by omega, by omega, V.wk⟩
      · subst e
        have e0 := he 2
        have f0 := hf 2
        have c0 := (hcv 2).symm
        simp only [stX, n3L, v3L, ordA, inc3, k2, tetL, zL, List.cons_append, List.nil_append, List.map_cons, List.map_nil, Nat.zero_sub, Nat.sub_self, Nat.add_one_sub_one, Nat.reduceSub] at e0 f0 c0 ⊢
        (conv => whnf)
        (try simp only [zU10_0])
        repeat ((first | refine V.s1 ?_); (try simp only [zU10_0]))
        refine ⟨(.take 0 (.take 1 (.take 2 (.take 3 (.take 4 (.take 5 (.take 6 (.take 7 (.take 8 (.take 9 (.take 10 (.take 11 (.take 12 (.take 13 (.take 14 (.take 15 (.take 16 (.take 17 (.take 18 (.take 19 (.take 20 (.take 21 (.done))))))))))))))))))))))), ⟨by kernel_rfl, by kernel_rfl, by kernel_rfl⟩, .go ?_⟩
        (conv => whnf)
        (try simp only [zU10_1, z1, z2, y1, y2, e0, c0])
        repeat ((first | refine V.s1 ?_); (try simp only [zU10_1, z1, z2, y1, y2, e0, c0]))
        refine ⟨(.take 0 (.take 1 (.take 2 (.take 3 (.take 4 (.take 5 (.take 6 (.take 7 (.take 8 (.take 9 (.ev (.cons 10 [] (.done) (.nil))))))))))))), ⟨by kernel_rfl, by kernel_rfl, by kernel_rfl⟩, .go ?_⟩
        (conv => whnf)
        (try simp only [zU10_1, z1, z2, y1, y2, e0, c0])
        repeat ((first | refine V.s1 ?_); (try simp only [zU10_1, z1, z2, y1, y2, e0, c0]))
        exact ⟨3, by omega, by omega, V.wk⟩
      · subst e
        have e0 := he 3
        have f0 := hf 3
        have c0 := (hcv 3).symm
        simp only [stX, n3L, v3L, ordA, inc3, k3, tetL, zL, List.cons_append, List.nil_append, List.map_cons, List.map_nil, Nat.zero_sub, Nat.sub_self, Nat.add_one_sub_one, Nat.reduceSub] at e0 f0 c0 ⊢
        (conv => whnf)
        (try simp only [zU10_0])
        repeat ((first | refine V.s1 ?_); (try simp only [zU10_0]))
        refine ⟨(.take 0 (.take 1 (.take 2 (.take 3 (.take 4 (.take 5 (.take 6 (.take 7 (.take 8 (.take 9 (.take 10 (.take 11 (.take 12 (.take 13 (.take 14 (.take 15 (.take 16 (.take 17 (.take 18 (.take 19 (.take 20 (.take 21 (.done))))))))))))))))))))))), ⟨by kernel_rfl, by kernel_rfl, by kernel_rfl⟩, .go ?_⟩
        (conv => whnf)
        (try simp only [zU10_1, z1, z2, y1, y2, e0, c0])
        repeat ((first | refine V.s1 ?_); (try simp only [zU10_1, z1, z2, y1, y2, e0, c0]))
        refine ⟨(.take 0 (.take 1 (.take 2 (.take 3 (.take 4 (.take 5 (.take 6 (.take 7 (.take 8 (.take 9 (.ev (.cons 10 [] (.done) (.nil))))))))))))), ⟨by kernel_rfl, by kernel_rfl, by kernel_rfl⟩, .go ?_⟩
        (conv => whnf)
        (try simp only [zU10_1, z1, z2, y1, y2, e0, c0])
        repeat ((first | refine V.s1 ?_); (try simp only [zU10_1, z1, z2, y1, y2, e0, c0]))
        exact ⟨4, by omega, by omega, V.wk⟩
    · rw [decide_eq_false_iff_not] at hq
      have hk3 : k = 4 := by omega
      subst hk3
      (conv => whnf)
      (try simp only [Nat.zero_add])
      repeat ((first | refine V.s1 ?_); (try simp only [Nat.zero_add]))
      exact Fin.of rfl
  · refine called_of_run tbOk 6 ⟨Tryd.func20, rfl, rfl, Nat.le_of_ble_eq_true rfl⟩ ?_
    (conv => whnf)
    (conv => whnf)
    (try simp only [Nat.zero_add])
    repeat ((first | refine V.s1 ?_); (try simp only [Nat.zero_add]))
    refine lp_any (0) (fun k => k ≤ 4) (fun k => 4 - k) (fun k => [(15, .int .i64 k)]) (fun k => [(8, .arr .i64 (n3L (stX (x0, x1, x2) (ordA 4) (k - 1)))), (7, .box ((tetL (x0, x1, x2) (ordA 4) c k).map (D.int .i64)))]) ?_ ?_ ?_
    exact V.wk
    exact Nat.zero_le _
    intro k hk
    (conv => whnf)
    (try simp only [Nat.zero_add])
    repeat ((first | refine V.s1 ?_); (try simp only [Nat.zero_add]))
    refine Cnd.split (CondB.mk (fun hq => ?_) (fun hq => ?_))
    · rw [decide_eq_true_eq] at hq
      have hk3 : k = 0 ∨ k = 1 ∨ k = 2 ∨ k = 3 := by omega
      rcases hk3 with e | e | e | e
      · subst e
        have e0 := he 0
        have f0 := hf 0
        have c0 := (hcv 0).symm
        simp only [stX, n3L, v3L, ordA, inc3, k0, tetL, zL, List.cons_append, List.nil_append, List.map_cons, List.map_nil, Nat.zero_sub, Nat.sub_self, Nat.add_one_sub_one, Nat.reduceSub] at e0 f0 c0 ⊢
        (conv => whnf)
        (try simp only [zU10_0])
        repeat ((first | refine V.s1 ?_); (try simp only [zU10_0]))
        refine ⟨(.take 0 (.take 1 (.take 2 (.take 3 (.take 4 (.take 5 (.take 6 (.take 7 (.take 8 (.take 9 (.take 10 (.take 11 (.take 12 (.take 13 (.take 14 (.take 15 (.take 16 (.take 17 (.take 18 (.take 19 (.take 20 (.take 21 (.done))))))))))))))))))))))), ⟨by kernel_rfl, by kernel_rfl, by kernel_rfl⟩, .go ?_⟩
        (conv => whnf)
        (try simp only [zU10_1, z1, z2, y1, y2, e0, c0])
        repeat ((first | refine V.s1 ?_); (try simp only [zU10_1, z1, z2, y1, y2, e0, c0]))
        refine ⟨(.take 0 (.take 1 (.take 2 (.take 3 (.take 4 (.take 5 (.take 6 (.take 7 (.take 8 (.take 9 (.ev (.cons 10 [] (.done) (.nil))))))))))))), ⟨by kernel_rfl, by kernel_rfl, by kernel_rfl⟩, .go ?_⟩
        (conv => whnf)
        (try simp only [zU10_1, z1, z2, y1, y2, e0, c0])
        repeat ((first | refine V.s1 ?_); (try simp only [zU10_1, z1, z2, y1, y2, e0, c0]))
        exact ⟨1, by omega, by omega, V.wk⟩
      · subst e
        have e0 := he 1
        have f0 := hf 1
        have c0 := (hcv 1).symm
        simp only [stX, n3L, v3L, ordA, inc3, k1, tetL, zL, List.cons_append, List.nil_append, List.map_cons, List.map_nil, Nat.zero_sub, Nat.sub_self, Nat.add_one_sub_one, Nat.reduceSub] at e0 f0 c0 ⊢
        (conv => whnf)
        (try simp only [zU10_0])
        repeat ((first | refine V.s1 ?_); (try simp only [zU10_0]))
        refine ⟨(.take 0 (.take 1 (.take 2 (.take 3 (.take 4 (.take 5 (.take 6 (.take 7 (.take 8 (.take 9 (.take 10 (.take 11 (.take 12 (.take 13 (.take 14 (.take 15 (.take 16 (.take 17 (.take 18 (.take 19 (.take 20 (.take 21 (.done))))))))))))))))))))))), ⟨by kernel_rfl, by kernel_rfl, by kernel_rfl⟩, .go ?_⟩
        (conv => whnf)
        (try simp only [zU10_1, z1, z2, y1, y2, e0, c0])
        repeat ((first | refine V.s1 ?_); (try simp only [zU10_1, z1, z2, y1, y2, e0, c0]))
        refine ⟨(.take 0 (.take 1 (.take 2 (.take 3 (.take 4 (.take 5 (.take 6 (.take 7 (.take 8 (.take 9 (.ev (.cons 10 [] (.done) (.nil))))))))))))), ⟨by kernel_rfl, by kernel_rfl, by kernel_rfl⟩, .go ?_⟩
        (conv => whnf)
        (try simp only [zU10_1, z1, z2, y1, y2, e0, c0])
        repeat ((first | refine V.s1 ?_); (try simp only [zU10_1, z1, z2, y1, y2, e0, c0]))
        exact ⟨2, by omega, by omega, V.wk⟩
      · subst e
        have e0 := he 2
        have f0 := hf 2
        have c0 := (hcv 2).symm
        simp only [stX, n3L, v3L, ordA, inc3, k2, tetL, zL, List.cons_append, List.nil_append, List.map_cons, List.map_nil, Nat.zero_sub, Nat.sub_self, Nat.add_one_sub_one, Nat.reduceSub] at e0 f0 c0 ⊢
        (conv => whnf)
        (try simp only [zU10_0])
        repeat ((first | refine V.s1 ?_); (try simp only [zU10_0]))
        refine ⟨(.take 0 (.take 1 (.take 2 (.take 3 (.take 4 (.take 5 (.take 6 (.take 7 (.take 8 (.take 9 (.take 10 (.take 11 (.take 12 (.take 13 (.take 14 (.take 15 (.take 16 (.take 17 (.take 18 (.take 19 (.take 20 (.take 21 (.done))))))))))))))))))))))), ⟨by kernel_rfl, by kernel_rfl, by kernel_rfl⟩, .go ?_⟩
        (conv => whnf)
        (try simp only [zU10_1, z1, z2, y1, y2, e0, c0])
        repeat ((first | refine V.s1 ?_); (try simp only [zU10_1, z1, z2, y1, y2, e0, c0]))
        refine ⟨(.take 0 (.take 1 (.take 2 (.take 3 (.take 4 (.take 5 (.take 6 (.take 7 (.take 8 (.take 9 (.ev (.cons 10 [] (.done) (.nil))))))))))))), ⟨by kernel_rfl, by kernel_rfl, by kernel_rfl⟩, .go ?_⟩
        (conv => whnf)
        (try simp only [zU10_1, z1, z2, y1, y2, e0, c0])
        repeat ((first | refine V.s1 ?_); (try simp only [zU10_1, z1, z2, y1, y2, e0, c0]))
        exact ⟨3, by omega, by omega, V.wk⟩
      · subst e
        have e0 := he 3
        have f0 := hf 3
        have c0 := (hcv 3).symm
        simp only [stX, n3L, v3L, ordA, inc3, k3, tetL, zL, List.cons_append, List.nil_append, List.map_cons, List.map_nil, Nat.zero_sub, Nat.sub_self, Nat.add_one_sub_one, Nat.reduceSub] at e0 f0 c0 ⊢
        (conv => whnf)
        (try simp only [zU10_0])
        repeat ((first | refine V.s1 ?_); (try simp only [zU10_0]))
        refine ⟨(.take 0 (.take 1 (.take 2 (.take 3 (.take 4 (.take 5 (.take 6 (.take 7 (.take 8 (.take 9 (.take 10 (.take 11 (.take 12 (.take 13 (.take 14 (.take 15 (.take 16 (.take 17 (.take 18 (.take 19 (.take 20 (.take 21 (.done))))))))))))))))))))))), ⟨by kernel_rfl, by kernel_rfl, by kernel_rfl⟩, .go ?_⟩
        (conv => whnf)
        (try simp only [zU10_1, z1, z2, y1, y2, e0, c0])
        repeat ((first | refine V.s1 ?_); (try simp only [zU10_1, z1, z2, y1, y2, e0, c0]))
        refine ⟨(.take 0 (.take 1 (.take 2 (.take 3 (.take 4 (.take 5 (.take 6 (.take 7 (.take 8 (.take 9 (.ev (.cons 10 [] (.done) (.nil))))))))))))), ⟨by kernel_rfl, by kernel_rfl, by kernel_rfl⟩, .go ?_⟩
        (conv => whnf)
        (try simp only [zU10_1, z1, z2, y1, y2, e0, c0])
        repeat ((first | refine V.s1 ?_); (try simp only [zU10_1, z1, z2, y1, y2, e0, c0]))
        exact ⟨4, by omega, by omega, V.wk⟩
    · rw [decide_eq_false_iff_not] at hq
      have hk3 : k = 4 := by omega
      subst hk3
      (conv => whnf)
      (try simp only [Nat.zero_add])
      repeat ((first | refine V.s1 ?_); (try simp only [Nat.zero_add]))
      exact Fin.of rfl
  · refine called_of_run tbOk 6 ⟨Tryd.func20, rfl, rfl, Nat.le_of_ble_eq_true rfl⟩ ?_
    (conv => whnf)
    (conv => whnf)
    (try simp only [Nat.zero_add])
    repeat ((first | refine V.s1 ?_); (try simp only [Nat.zero_add]))
    refine lp_any (0) (fun k => k ≤ 4) (fun k => 4 - k) (fun k => [(15, .int .i64 k)]) (fun k => [(8, .arr .i64 (n3L (stX (x0, x1, x2) (ordA 5) (k - 1)))), (7, .box ((tetL (x0, x1, x2) (ordA 5) c k).map (D.int .i64)))]) ?_ ?_ ?_
    exact V.wk
    exact Nat.zero_le _
    intro k hk
    (conv => whnf)
    (try simp only [Nat.zero_add])
    repeat ((first | refine V.s1 ?_); (try simp only [Nat.zero_add]))
    refine Cnd.split (CondB.mk (fun hq => ?_) (fun hq => ?_))
    · rw [decide_eq_true_eq] at hq
      have hk3 : k = 0 ∨ k = 1 ∨ k = 2 ∨ k = 3 := by omega
      rcases hk3 with e | e | e | e
      · subst e
        have e0 := he 0
        have f0 := hf 0
        have c0 := (hcv 0).symm
        simp only [stX, n3L, v3L, ordA, inc3, k0, tetL, zL, List.cons_append, List.nil_append, List.map_cons, List.map_nil, Nat.zero_sub, Nat.sub_self, Nat.add_one_sub_one, Nat.reduceSub] at e0 f0 c0 ⊢
        (conv => whnf)
        (try simp only [zU10_0])
        repeat ((first | refine V.s1 ?_); (try simp only [zU10_0]))
        refine ⟨(.take 0 (.take 1 (.take 2 (.take 3 (.take 4 (.take 5 (.take 6 (.take 7 (.take 8 (.take 9 (.take 10 (.take 11 (.take 12 (.take 13 (.take 14 (.take 15 (.take 16 (.take 17 (.take 18 (.take 19 (.take 20 (.take 21 (.done))))))))))))))))))))))), ⟨by kernel_rfl, by kernel_rfl, by kernel_rfl⟩, .go ?_⟩
        (conv => whnf)
        (try simp only [zU10_1, z1, z2, y1, y2, e0, c0])
        repeat ((first | refine V.s1 ?_); (try simp only [zU10_1, z1, z2, y1, y2, e0, c0]))
        refine ⟨(.take 0 (.take 1 (.take 2 (.take 3 (.take 4 (.take 5 (.take 6 (.take 7 (.take 8 (.take 9 (.ev (.cons 10 [] (.done) (.nil))))))))))))), ⟨by kernel_rfl, by kernel_rfl, by kernel_rfl⟩, .go ?_⟩
        (conv => whnf)
        (try simp only [zU10_1, z1, z2, y1, y2, e0, c0])
        repeat ((first | refine V.s1 ?_); (try simp only [zU10_1, z1, z2, y1, y2, e0, c0]))
        exact ⟨1, by omega, by omega, V.wk⟩
      · subst e
        have e0 := he 1
        have f0 := hf 1
        have c0 := (hcv 1).symm
        simp only [stX, n3L, v3L, ordA, inc3, k1, tetL, zL, List.cons_append, List.nil_append, List.map_cons, List.map_nil, Nat.zero_sub, Nat.sub_self, Nat.add_one_sub_one, Nat.reduceSub] at e0 f0 c0 ⊢
        (conv => whnf)
        (try simp only [zU10_0])
        repeat ((first | refine V.s1 ?_); (try simp only [zU10_0]))
        refine ⟨(.take 0 (.take 1 (.take 2 (.take 3 (.take 4 (.take 5 (.take 6 (.take 7 (.take 8 (.take 9 (.take 10 (.take 11 (.take 12 (.take 13 (.take 14 (.take 15 (.take 16 (.take 17 (.take 18 (.take 19 (.take 20 (.take 21 (.done))))))))))))))))))))))), ⟨by kernel_rfl, by kernel_rfl, by kernel_rfl⟩, .go ?_⟩
        (conv => whnf)
        (try simp only [zU10_1, z1, z2, y1, y2, e0, c0])
        repeat ((first | refine V.s1 ?_); (try simp only [zU10_1, z1, z2, y1, y2, e0, c0]))
        refine ⟨(.take 0 (.take 1 (.take 2 (.take 3 (.take 4 (.take 5 (.take 6 (.take 7 (.take 8 (.take 9 (.ev (.cons 10 [] (.done) (.nil))))))))))))), ⟨by kernel_rfl, by kernel_rfl, by kernel_rfl⟩, .go ?_⟩
        (conv => whnf)
        (try simp only [zU10_1, z1, z2, y1, y2, e0, c0])
        repeat ((first | refine V.s1 ?_); (try simp only [zU10_1, z1, z2, y1, y2, e0, c0]))
        exact ⟨2, by omega, by omega, V.wk⟩
      · subst e
        have e0 := he 2
        have f0 := hf 2
        have c0 := (hcv 2).symm
        simp only [stX, n3L, v3L, ordA, inc3, k2, tetL, zL, List.cons_append, List.nil_append, List.map_cons, List.map_nil, Nat.zero_sub, Nat.sub_self, Nat.add_one_sub_one, Nat.reduceSub] at e0 f0 c0 ⊢
        (conv => whnf)
        (try simp only [zU10_0])
        repeat ((first | refine V.s1 ?_); (try simp only [zU10_0]))
        refine ⟨(.take 0 (.take 1 (.take 2 (.take 3 (.take 4 (.take 5 (.take 6 (.take 7 (.take 8 (.take 9 (.take 10 (.take 11 (.take 12 (.take 13 (.take 14 (.take 15 (.take 16 (.take 17 (.take 18 (.take 19 (.take 20 (.take 21 (.done))))))))))))))))))))))), ⟨by kernel_rfl, by kernel_rfl, by kernel_rfl⟩, .go ?_⟩
        (conv => whnf)
        (try simp only [zU10_1, z1, z2, y1, y2, e0, c0])
        repeat ((first | refine V.s1 ?_); (try simp only [zU10_1, z1, z2, y1, y2, e0, c0]))
        refine ⟨(.take 0 (.take 1 (.take 2 (.take 3 (.take 4 (.take 5 (.take 6 (.take 7 (.take 8 (.take 9 (.ev (.cons 10 [] (.done) (.nil))))))))))))), ⟨by kernel_rfl, by kernel_rfl, by kernel_rfl⟩, .go ?_⟩
        (conv => whnf)
        (try simp only [zU10_1, z1, z2, y1, y2, e0, c0])
        repeat ((first | refine V.s1 ?_); (try simp only [zU10_1, z1, z2, y1, y2, e0, c0]))
        exact ⟨3, by omega, by omega, V.wk⟩
      · subst e
        have e0 := he 3
        have f0 := hf 3
        have c0 := (hcv 3).symm
        simp only [stX, n3L, v3L, ordA, inc3, k3, tetL, zL, List.cons_append, List.nil_append, List.map_cons, List.map_nil, Nat.zero_sub, Nat.sub_self, Nat.add_one_sub_one, Nat.reduceSub] at e0 f0 c0 ⊢
        (conv => whnf)
        (try simp only [zU10_0])
        repeat ((first | refine V.s1 ?_); (try simp only [zU10_0]))
        refine ⟨(.take 0 (.take 1 (.take 2 (.take 3 (.take 4 (.take 5 (.take 6 (.take 7 (.take 8 (.take 9 (.take 10 (.take 11 (.take 12 (.take 13 (.take 14 (.take 15 (.take 16 (.take 17 (.take 18 (.take 19 (.take 20 (.take 21 (.done))))))))))))))))))))))), ⟨by kernel_rfl, by kernel_rfl, by kernel_rfl⟩, .go ?_⟩
        (conv => whnf)
        (try simp only [zU10_1, z1, z2, y1, y2, e0, c0])
        repeat ((first | refine V.s1 ?_); (try simp only [zU10_1, z1, z2, y1, y2, e0, c0]))
        refine ⟨(.take 0 (.take 1 (.take 2 (.take 3 (.take 4 (.take 5 (.take 6 (.take 7 (.take 8 (.take 9 (.ev (.cons 10 [] (.done) (.nil))))))))))))), ⟨by kernel_rfl, by kernel_rfl, by kernel_rfl⟩, .go ?_⟩
        (conv => whnf)
        (try simp only [zU10_1, z1, z2, y1, y2, e0, c0])
        repeat ((first | refine V.s1 ?_); (try simp only [zU10_1, z1, z2, y1, y2, e0, c0]))
        exact ⟨4, by omega, by omega, V.wk⟩
    · rw [decide_eq_false_iff_not] at hq
      have hk3 : k = 4 := by omega
      subst hk3
      (conv => whnf)
      (try simp only [Nat.zero_add])
      repeat ((first | refine V.s1 ?_); (try simp only [Nat.zero_add]))
      exact Fin.of rfl
end Go.Proofs.YtlcaefokcnohnaaDoor
end
section
namespace Go.Proofs.YtlcaefokcnohnaaDoor
open Go Go.V
def okT (ts : List Int) : Bool := ts.all fun v => decide (0 ≤ v ∧ v ≤ 65535)
def chk (size : List Int) (out : Int) (data ts : List Int) : Int :=
  if okGrid size out data then (if size.length = 3 ∧ out = 3 ∧ ts.length = 3 then (if okT ts then 0 else 2) else 2) else 100
theorem okT3 (a b c : Int) : okT [a, b, c] = true ↔ (0 ≤ a ∧ a ≤ 65535) ∧ (0 ≤ b ∧ b ≤ 65535) ∧ (0 ≤ c ∧ c ≤ 65535) := by
  simp [okT]
theorem lcheck_c (size : List Int) (out : Int) (data ts : List Int) (hs : size.length ≤ 281474976710656) (hd : data.length ≤ 281474976710656) (ht : ts.length ≤ 281474976710656) :
    Called Tryd.prog 13 [gridD size out data, .ints .i64 ts] (.int .i64 (chk size out data ts)) := by
  have hg := check_c size out data hs hd
  unfold chk
  cases hok : okGrid size out data
  · rw [hok] at hg
    simp only [if_neg (show ¬ (false = true) by decide)] at hg ⊢
    unfold gridD
    refine called_of_run tbOk 6 ⟨Tryd.func13, rfl, rfl, Nat.le_of_ble_eq_true rfl⟩ ?_
    (conv => whnf)
    (conv => whnf)
    (try simp only [Nat.zero_add])
    repeat ((first | refine V.s1 ?_ | ((try ((with_reducible refine .ext ?_); (conv => whnf); (try simp only [Nat.zero_add]))); (with_reducible refine call_intro (r := ?_) ?_ ?_); rotate_left; (focus (first | exact (hg))); (conv => whnf))); (try simp only [Nat.zero_add]))
    exact Fin.of rfl
  rw [hok] at hg
  simp only [if_pos (show true = true from rfl)] at hg ⊢
  rcases Decidable.em (size.length = 3 ∧ out = 3 ∧ ts.length = 3) with h3 | h3
  rotate_left
  · rw [if_neg h3]
    unfold gridD
    refine called_of_run tbOk 6 ⟨Tryd.func13, rfl, rfl, Nat.le_of_ble_eq_true rfl⟩ ?_
    (conv => whnf)
    (conv => whnf)
    (try simp only [Nat.zero_add])
    repeat ((first | refine V.s1 ?_ | ((try ((with_reducible refine .ext ?_); (conv => whnf); (try simp only [Nat.zero_add]))); (with_reducible refine call_intro (r := ?_) ?_ ?_); rotate_left; (focus (first | exact (hg))); (conv => whnf))); (try simp only [Nat.zero_add]))
    refine Cnd.split (CondB.mk (fun hq => ?_) (fun hq => ?_))
    · (conv => whnf)
      (try simp only [Nat.zero_add])
      repeat ((first | refine V.s1 ?_); (try simp only [Nat.zero_add]))
      exact Fin.of rfl
    · exfalso
      apply h3
      simp at hq
      omega
  rw [if_pos h3]
  obtain ⟨e1, e2, e3⟩ := h3
  match ts, e3 with
  | [a, b, c], _ =>
    have hT := okT3 a b c
    subst e2
    unfold gridD
    refine called_of_run tbOk 6 ⟨Tryd.func13, rfl, rfl, Nat.le_of_ble_eq_true rfl⟩ ?_
    (conv => whnf)
    (conv => whnf)
    (try simp only [Nat.zero_add])
    repeat ((first | refine V.s1 ?_ | ((try ((with_reducible refine .ext ?_); (conv => whnf); (try simp only [Nat.zero_add]))); (with_reducible refine call_intro (r := ?_) ?_ ?_); rotate_left; (focus (first | exact (hg))); (conv => whnf))); (try simp only [Nat.zero_add]))
    refine Cnd.split (CondB.mk (fun hq => ?_) (fun hq => ?_))
    · exfalso
      simp at hq
      omega
    (conv => whnf)
    (try simp only [Nat.zero_add])
    repeat ((first | refine V.s1 ?_); (try simp only [Nat.zero_add]))
    refine lp_any (0) (fun k => k ≤ 3 ∧ (1 ≤ k → 0 ≤ a ∧ a ≤ 65535) ∧ (2 ≤ k → 0 ≤ b ∧ b ≤ 65535) ∧ (3 ≤ k → 0 ≤ c ∧ c ≤ 65535)) (fun k => 3 - k) (fun k => [(29, .int .i64 k)]) (fun k => []) ?_ ?_ ?_
    · exact V.wk
    · omega
    intro k hk
    (conv => whnf)
    (try simp only [Nat.zero_add])
    repeat ((first | refine V.s1 ?_); (try simp only [Nat.zero_add]))
    refine Cnd.split (CondB.mk (fun hq2 => ?_) (fun hq2 => ?_))
    · have hk3 : k = 0 ∨ k = 1 ∨ k = 2 := by
        simp at hq2
        omega
      rcases hk3 with e | e | e
      · subst e
        simp only [k0]
        (conv => whnf)
        (try simp only [Nat.zero_add, i3_0, g3_0, tn0])
        repeat ((first | refine V.s1 ?_); (try simp only [Nat.zero_add, i3_0, g3_0, tn0]))
        refine Cnd.split (CondB.mk (fun hq3 => ?_) (fun hq3 => ?_))
        · have hn : ¬ okT [a, b, c] = true := fun h => by
            have := hT.1 h
            simp at hq3
            omega
          rw [if_neg hn]
          (conv => whnf)
          (try simp only [Nat.zero_add])
          repeat ((first | refine V.s1 ?_); (try simp only [Nat.zero_add]))
          exact Fin.of rfl
        · simp at hq3
          (conv => whnf)
          (try simp only [Nat.zero_add])
          repeat ((first | refine V.s1 ?_); (try simp only [Nat.zero_add]))
          exact ⟨1, by omega, by omega, V.wk⟩
      · subst e
        simp only [k1]
        (conv => whnf)
        (try simp only [Nat.zero_add, i3_1, g3_1, tn1])
        repeat ((first | refine V.s1 ?_); (try simp only [Nat.zero_add, i3_1, g3_1, tn1]))
        refine Cnd.split (CondB.mk (fun hq3 => ?_) (fun hq3 => ?_))
        · have hn : ¬ okT [a, b, c] = true := fun h => by
            have := hT.1 h
            simp at hq3
            omega
          rw [if_neg hn]
          (conv => whnf)
          (try simp only [Nat.zero_add])
          repeat ((first | refine V.s1 ?_); (try simp only [Nat.zero_add]))
          exact Fin.of rfl
        · simp at hq3
          (conv => whnf)
          (try simp only [Nat.zero_add])
          repeat ((first | refine V.s1 ?_); (try simp only [Nat.zero_add]))
          exact ⟨2, by omega, by omega, V.wk⟩
      · subst e
        simp only [k2]
        (conv => whnf)
        (try simp only [Nat.zero_add, i3_2, g3_2, tn2])
        repeat ((first | refine V.s1 ?_); (try simp only [Nat.zero_add, i3_2, g3_2, tn2]))
        refine Cnd.split (CondB.mk (fun hq3 => ?_) (fun hq3 => ?_))
        · have hn : ¬ okT [a, b, c] = true := fun h => by
            have := hT.1 h
            simp at hq3
            omega
          rw [if_neg hn]
          (conv => whnf)
          (try simp only [Nat.zero_add])
          repeat ((first | refine V.s1 ?_); (try simp only [Nat.zero_add]))
          exact Fin.of rfl
        · simp at hq3
          (conv => whnf)
          (try simp only [Nat.zero_add])
          repeat ((first | refine V.s1 ?_); (try simp only [Nat.zero_add]))
          exact ⟨3, by omega, by omega, V.wk⟩
    · have hk3 : k = 3 := by
        simp at hq2
        omega
      subst hk3
      rw [if_pos (hT.2 (by omega))]
      (conv => whnf)
      (try simp only [Nat.zero_add])
      repeat ((first | refine V.s1 ?_); (try simp only [Nat.zero_add]))
      exact Fin.of rfl
end Go.Proofs.YtlcaefokcnohnaaDoor
end
section
namespace Go.Proofs.YtlcaefokcnohnaaDoor
open Go Go.V
def m9D (a b c : V3) : D := .agg [.int .i64 a.1, .int .i64 a.2.1, .int .i64 a.2.2, .int .i64 b.1, .int .i64 b.2.1, .int .i64 b.2.2, .int .i64 c.1, .int .i64 c.2.1, .int .i64 c.2.2]
theorem pdet_c (a b c : V3) (ha : Bd3 65535 a) (hb : Bd3 65535 b) (hc : Bd3 65535 c) : Called Tryd.prog 21 [m9D a b c] (.int .i64 (dt a b c)) := by
  obtain ⟨a0, a1, a2⟩ := a
  obtain ⟨b0, b1, b2⟩ := b
  obtain ⟨c0, c1, c2⟩ := c
  unfold Bd3 at ha hb hc
  dsimp only at ha hb hc
  have e1 := bd2 hb.2.1 hc.2.2
  have e2 := bd2 hb.2.2 hc.2.1
  have e3 := bd2 hb.2.2 hc.1
  have e4 := bd2 hb.1 hc.2.2
  have e5 := bd2 hb.1 hc.2.1
  have e6 := bd2 hb.2.1 hc.1
  have f1 := bd_mul (N := 8589672450) ha.1 (show Bd 8589672450 (b1 * c2 - b2 * c1) by unfold Bd at *; omega) (by omega) (by omega)
  have f2 := bd_mul (N := 8589672450) ha.2.1 (show Bd 8589672450 (b0 * c2 - b2 * c0) by unfold Bd at *; omega) (by omega) (by omega)
  have f3 := bd_mul (N := 8589672450) ha.2.2 (show Bd 8589672450 (b0 * c1 - b1 * c0) by unfold Bd at *; omega) (by omega) (by omega)
  unfold Bd at ha hb hc e1 e2 e3 e4 e5 e6 f1 f2 f3
  unfold m9D dt det3
  dsimp only
  refine called_of_run tbOk 6 ⟨Tryd.func21, rfl, rfl, Nat.le_of_ble_eq_true rfl⟩ ?_
  (conv => whnf)
  refine V.st ?_
  refine ⟨(.take 0 (.take 1 (.take 2 (.take 3 (.take 4 (.take 5 (.ev (.cons 6 [5, 4, 3, 2, 1, 0] (.ev (.cons 7 [5, 4, 3, 2, 1, 0] (.ev (.cons 8 [5, 4, 3, 2, 1, 0] (.ev (.cons 9 [5, 4, 3, 2] (.ev (.cons 10 [5, 4] (.ev (.cons 11 [] (.done) (.nil))) (.nil))) (.nil))) (.nil))) (.cons 8 [5, 4, 3, 2, 1, 0] (.ev (.cons 7 [5, 4, 3, 2, 1, 0] (.ev (.cons 9 [5, 4, 3, 2] (.ev (.cons 10 [5, 4] (.ev (.cons 11 [] (.done) (.nil))) (.nil))) (.nil))) (.nil))) (.nil)))) (.cons 7 [5, 4, 3, 2, 1, 0] (.ev (.cons 6 [5, 4, 3, 2, 1, 0] (.ev (.cons 8 [5, 4, 3, 2, 1, 0] (.ev (.cons 9 [5, 4, 3, 2] (.ev (.cons 10 [5, 4] (.ev (.cons 11 [] (.done) (.nil))) (.nil))) (.nil))) (.nil))) (.cons 8 [5, 4, 3, 2, 1, 0] (.ev (.cons 6 [5, 4, 3, 2, 1, 0] (.ev (.cons 9 [5, 4, 3, 2] (.ev (.cons 10 [5, 4] (.ev (.cons 11 [] (.done) (.nil))) (.nil))) (.nil))) (.nil))) (.nil)))) (.cons 8 [5, 4, 3, 2, 1, 0] (.ev (.cons 6 [5, 4, 3, 2, 1, 0] (.ev (.cons 7 [5, 4, 3, 2, 1, 0] (.ev (.cons 9 [5, 4, 3, 2] (.ev (.cons 10 [5, 4] (.ev (.cons 11 [] (.done) (.nil))) (.nil))) (.nil))) (.nil))) (.cons 7 [5, 4, 3, 2, 1, 0] (.ev (.cons 6 [5, 4, 3, 2, 1, 0] (.ev (.cons 9 [5, 4, 3, 2] (.ev (.cons 10 [5, 4] (.ev (.cons 11 [] (.done) (.nil))) (.nil))) (.nil))) (.nil))) (.nil)))) (.nil))))))))))), ⟨by kernel_rfl, by kernel_rfl, by kernel_rfl⟩, ?_⟩
  refine drw_meet [(3, .box 3 0), (4, .box 4 0), (5, .box 5 0)] [(3, .arr .i64 [a0, a1, a2]), (4, .arr .i64 [b0, b1, b2]), (5, .arr .i64 [c0, c1, c2])] ?_ ?_
  · (conv => whnf); (try simp only [Nat.zero_add])
    repeat' (first | exact V.wk | ((first | refine V.s1 ?_ | ((with_reducible refine recheck_and ?_ ?_); (focus ((conv => whnf); (try simp only [Nat.zero_add]); (repeat (refine V.s1 ?_; (try simp only [Nat.zero_add]))); exact ⟨rfl⟩)); (conv => whnf))); (try simp only [Nat.zero_add])) | (refine And.intro ?_ ?_ <;> (conv => whnf); (try simp only [Nat.zero_add])))
  (conv => whnf)
  (try simp only [Nat.zero_add, g3_0, g3_1, g3_2, i3_0, i3_1, i3_2])
  repeat ((first | refine V.s1 ?_); (try simp only [Nat.zero_add, g3_0, g3_1, g3_2, i3_0, i3_1, i3_2]))
  exact Fin.of rfl
end Go.Proofs.YtlcaefokcnohnaaDoor
end
section
namespace Go.Proofs.YtlcaefokcnohnaaDoor
open Go Go.V
def stRow (a0 a1 a2 : Int) : Nat → List D
  | 0 => [.int .i64 0, .int .i64 0, .int .i64 0]
  | 1 => [.int .i64 a0, .int .i64 0, .int .i64 0]
  | 2 => [.int .i64 a0, .int .i64 a1, .int .i64 0]
  | _ => [.int .i64 a0, .int .i64 a1, .int .i64 a2]
def stRC (a b c : V3) (d : Nat) : Nat → List D
  | 0 => stRow a.1 a.2.1 a.2.2 d ++ stRow b.1 b.2.1 b.2.2 d ++ stRow c.1 c.2.1 c.2.2 d
  | 1 => stRow a.1 a.2.1 a.2.2 (d + 1) ++ stRow b.1 b.2.1 b.2.2 d ++ stRow c.1 c.2.1 c.2.2 d
  | 2 => stRow a.1 a.2.1 a.2.2 (d + 1) ++ stRow b.1 b.2.1 b.2.2 (d + 1) ++ stRow c.1 c.2.1 c.2.2 d
  | _ => stRow a.1 a.2.1 a.2.2 (d + 1) ++ stRow b.1 b.2.1 b.2.2 (d + 1) ++ stRow c.1 c.2.1 c.2.2 (d + 1)
def stG (a0 a1 a2 : Int) : Nat → List Int
  | 0 => [0, 0, 0]
  | 1 => [a0, 0, 0]
  | 2 => [a0, a1, 0]
  | _ => [a0, a1, a2]
def stF (W a b c : Int) : Nat → Int
  | 0 => W
  | 1 => W - a
  | 2 => W - a - b
  | _ => W - a - b - c
theorem zU11_0 : type_of% @Nat.zero_add ∧ type_of% @g3_0 ∧ type_of% @g3_1 ∧ type_of% @g3_2 ∧ type_of% @i3_0 ∧ type_of% @i3_1 ∧ type_of% @i3_2 ∧ type_of% @s3_0 ∧ type_of% @s3_1 ∧ type_of% @s3_2 ∧ type_of% @tn0 ∧ type_of% @tn1 ∧ type_of% @tn2 ∧ type_of% @tn3 := ⟨@Nat.zero_add, @g3_0, @g3_1, @g3_2, @i3_0, @i3_1, @i3_2, @s3_0, @s3_1, @s3_2, @tn0, @tn1, @tn2, @tn3⟩
theorem weights_0 (x o : N3) (c : Nat → V3) (hv : ∀ k, Vl (c k)) {t : V3} (ht : Vl t) : ∃ p q r d,
    Called Tryd.prog 15 [tetD x o c, .ints .i64 (v3L t)] (.tup [.iarr .i64 [p, q, r], .int .i64 d, .bool (hld (c 0) (c 1) (c 2) (c 3) t).isSome]) ∧ ∀ y, hld (c 0) (c 1) (c 2) (c 3) t = some y → y = (p, q, r, d) := by
  unfold tetD tetL
  obtain ⟨v0, h0⟩ : ∃ v0, c 0 = v0 := ⟨_, rfl⟩
  obtain ⟨v1, h1⟩ : ∃ v1, c 1 = v1 := ⟨_, rfl⟩
  obtain ⟨v2, h2⟩ : ∃ v2, c 2 = v2 := ⟨_, rfl⟩
  obtain ⟨v3, h3⟩ : ∃ v3, c 3 = v3 := ⟨_, rfl⟩
  have b1 : Bd3 65535 (sb v1 v0) := h1 ▸ h0 ▸ sb_bd (hv 1) (hv 0)
  have b2 : Bd3 65535 (sb v2 v0) := h2 ▸ h0 ▸ sb_bd (hv 2) (hv 0)
  have b3 : Bd3 65535 (sb v3 v0) := h3 ▸ h0 ▸ sb_bd (hv 3) (hv 0)
  have bg : Bd3 65535 (sb t v0) := h0 ▸ sb_bd ht (hv 0)
  rw [h0, h1, h2, h3]
  have l0 : Vl v0 := h0 ▸ hv 0
  have l1 : Vl v1 := h1 ▸ hv 1
  have l2 : Vl v2 := h2 ▸ hv 2
  have l3 : Vl v3 := h3 ▸ hv 3
  clear hv h0 h1 h2 h3
  obtain ⟨x0, x1, x2⟩ := x
  obtain ⟨o0, o1, o2⟩ := o
  simp only [n3L, v3L, List.cons_append, List.nil_append, List.map_cons, List.map_nil]
  have hdW := pdet_c _ _ _ b1 b2 b3
  have hda := pdet_c _ _ _ bg b2 b3
  have hdb := pdet_c _ _ _ b1 bg b3
  have hdc := pdet_c _ _ _ b1 b2 bg
  obtain ⟨W, eW⟩ : ∃ W, dt (sb v1 v0) (sb v2 v0) (sb v3 v0) = W := ⟨_, rfl⟩
  obtain ⟨wa, ea⟩ : ∃ wa, dt (sb t v0) (sb v2 v0) (sb v3 v0) = wa := ⟨_, rfl⟩
  obtain ⟨wb, eb⟩ : ∃ wb, dt (sb v1 v0) (sb t v0) (sb v3 v0) = wb := ⟨_, rfl⟩
  obtain ⟨wc, ec⟩ : ∃ wc, dt (sb v1 v0) (sb v2 v0) (sb t v0) = wc := ⟨_, rfl⟩
  have bW := dt_bd b1 b2 b3
  have ba := dt_bd bg b2 b3
  have bb := dt_bd b1 bg b3
  have bc := dt_bd b1 b2 bg
  rw [eW] at hdW bW
  rw [ea] at hda ba
  rw [eb] at hdb bb
  rw [ec] at hdc bc
  have eh : hld v0 v1 v2 v3 t = if W = 0 ∨ sg1 W * wa < 0 ∨ sg1 W * wb < 0 ∨ sg1 W * wc < 0 ∨ W * sg1 W - sg1 W * wa - sg1 W * wb - sg1 W * wc < 0 then none else some (sg1 W * wa, sg1 W * wb, sg1 W * wc, W * sg1 W) := by
    unfold hld
    dsimp only
    rw [eW, ea, eb, ec]
  rw [eh]
  clear eh eW ea eb ec
  obtain ⟨s, es⟩ : ∃ s, sg1 W = s := ⟨_, rfl⟩
  have hs : (W < 0 → s = -1) ∧ (¬ W < 0 → s = 1) := by
    rw [← es]; unfold sg1
    exact ⟨fun h => if_pos h, fun h => if_neg h⟩
  rw [es]
  clear es
  unfold Bd at bW ba bb bc
  have bs : (-1688772552032250 ≤ W * s ∧ W * s ≤ 1688772552032250) ∧ (-1688772552032250 ≤ s * wa ∧ s * wa ≤ 1688772552032250) ∧ (-1688772552032250 ≤ s * wb ∧ s * wb ≤ 1688772552032250) ∧ (-1688772552032250 ≤ s * wc ∧ s * wc ≤ 1688772552032250) := by
    rcases Decidable.em (W < 0) with h | h
    · rw [hs.1 h]; omega
    · rw [hs.2 h]; omega
  obtain ⟨p, q, r, d, hr, hd⟩ : ∃ p q r d, (W = 0 ∨ s * wa < 0 ∨ s * wb < 0 ∨ s * wc < 0 → p = 0 ∧ q = 0 ∧ r = 0 ∧ d = 0) ∧ (¬ (W = 0 ∨ s * wa < 0 ∨ s * wb < 0 ∨ s * wc < 0) → p = s * wa ∧ q = s * wb ∧ r = s * wc ∧ d = W * s) := by
    rcases Decidable.em (W = 0 ∨ s * wa < 0 ∨ s * wb < 0 ∨ s * wc < 0) with h | h
    · exact ⟨0, 0, 0, 0, fun _ => ⟨rfl, rfl, rfl, rfl⟩, fun h' => absurd h h'⟩
    · exact ⟨_, _, _, _, fun h' => absurd h' h, fun _ => ⟨rfl, rfl, rfl, rfl⟩⟩
  refine ⟨p, q, r, d, ?_, fun y hy => by
    split at hy
    · cases hy
    · rename_i hn
      obtain ⟨rfl, rfl, rfl, rfl⟩ := hd (by omega)
      exact (Option.some.inj hy).symm⟩
  unfold Vl at l0 l1 l2 l3 ht
  unfold m9D at hdW hda hdb hdc
  refine called_of_run tbOk 6 ⟨Tryd.func15, rfl, rfl, Nat.le_of_ble_eq_true rfl⟩ ?_
  (conv => whnf)
  (conv => whnf)
  (try simp only [Nat.zero_add])
  repeat ((first | refine V.s1 ?_); (try simp only [Nat.zero_add]))
  refine lp_any (0) (fun k => k ≤ 3) (fun k => 3 - k) (fun k => [(15, .int .i64 k)]) (fun k => [(7, .box (stRC (sb v1 v0) (sb v2 v0) (sb v3 v0) k 0)), (8, .arr .i64 (stG (sb t v0).1 (sb t v0).2.1 (sb t v0).2.2 k))]) ?_ ?_ ?_
  · exact V.wk
  · exact Nat.zero_le _
  intro k hk
  (conv => whnf)
  (try simp only [Nat.zero_add])
  repeat ((first | refine V.s1 ?_); (try simp only [Nat.zero_add]))
  refine Cnd.split (CondB.mk (fun hq => ?_) (fun hq => ?_))
  · rw [decide_eq_true_eq] at hq
    have hk3 : k = 0 ∨ k = 1 ∨ k = 2 := by omega
    rcases hk3 with e | e | e
    all_goals subst e
    · simp only [k0]
      (conv => whnf)
      (try simp only [Nat.zero_add])
      repeat ((first | refine V.s1 ?_); (try simp only [Nat.zero_add]))
      refine lp_any (0) (fun k => k ≤ 3) (fun k => 3 - k) (fun k => [(18, .int .i64 k)]) (fun k => [(7, .box (stRC (sb v1 v0) (sb v2 v0) (sb v3 v0) 0 k))]) ?_ ?_ ?_
      exact V.wk
      exact Nat.zero_le _
      intro k hk
      (conv => whnf)
      (try simp only [Nat.zero_add])
      repeat ((first | refine V.s1 ?_); (try simp only [Nat.zero_add]))
      refine Cnd.split (CondB.mk (fun hq2 => ?_) (fun hq2 => ?_))
      · rw [decide_eq_true_eq] at hq2
        have hk3 : k = 0 ∨ k = 1 ∨ k = 2 := by omega
        rcases hk3 with e | e | e
        · subst e
          simp only [k0, stRC, stRow, List.cons_append, List.nil_append]
          (conv => whnf)
          (try simp only [Nat.zero_add])
          repeat ((first | refine V.s1 ?_); (try simp only [Nat.zero_add]))
          refine ⟨(.take 0 (.take 1 (.take 2 (.take 3 (.take 4 (.take 5 (.take 6 (.take 7 (.take 8 (.take 9 (.take 10 (.take 11 (.take 12 (.take 13 (.take 14 (.take 15 (.take 16 (.ev (.cons 17 [] (.done) (.nil)))))))))))))))))))), ⟨by kernel_rfl, by kernel_rfl, by kernel_rfl⟩, .go ?_⟩
          (conv => whnf)
          (try simp only [zU11_0])
          repeat ((first | refine V.s1 ?_); (try simp only [zU11_0]))
          exact ⟨1, by omega, by omega, V.wk⟩
        · subst e
          simp only [k1, stRC, stRow, List.cons_append, List.nil_append]
          (conv => whnf)
          (try simp only [Nat.zero_add])
          repeat ((first | refine V.s1 ?_); (try simp only [Nat.zero_add]))
          refine ⟨(.take 0 (.take 1 (.take 2 (.take 3 (.take 4 (.take 5 (.take 6 (.take 7 (.take 8 (.take 9 (.take 10 (.take 11 (.take 12 (.take 13 (.take 14 (.take 15 (.take 16 (.ev (.cons 17 [] (.done) (.nil)))))))))))))))))))), ⟨by kernel_rfl, by kernel_rfl, by kernel_rfl⟩, .go ?_⟩
          (conv => whnf)
          (try simp only [zU11_0])
          repeat ((first | refine V.s1 ?_); (try simp only [zU11_0]))
          exact ⟨2, by omega, by omega, V.wk⟩
        · subst e
          simp only [k2, stRC, stRow, List.cons_append, List.nil_append]
          (conv => whnf)
          (try simp only [Nat.zero_add])
          repeat ((first | refine V.s1 ?_); (try simp only [Nat.zero_add]))
          refine ⟨(.take 0 (.take 1 (.take 2 (.take 3 (.take 4 (.take 5 (.take 6 (.take 7 (.take 8 (.take 9 (.take 10 (.take 11 (.take 12 (.take 13 (.take 14 (.take 15 (.take 16 (.ev (.cons 17 [] (.done) (.nil)))))))))))))))))))), ⟨by kernel_rfl, by kernel_rfl, by kernel_rfl⟩, .go ?_⟩
          (conv => whnf)
          (try simp only [zU11_0])
          repeat ((first | refine V.s1 ?_); (try simp only [zU11_0]))
          exact ⟨3, by omega, by omega, V.wk⟩
      · rw [decide_eq_false_iff_not] at hq2
        have hk3 : k = 3 := by omega
        subst hk3
        simp only [k3, stRC, stRow, stG, List.cons_append, List.nil_append]
        (conv => whnf)
        (try simp only [Nat.zero_add])
        repeat ((first | refine V.s1 ?_); (try simp only [Nat.zero_add]))
        refine ⟨(.take 0 (.take 1 (.take 2 (.take 3 (.take 4 (.take 5 (.take 6 (.take 7 (.take 8 (.take 9 (.take 10 (.take 11 (.ev (.cons 12 [] (.done) (.nil))))))))))))))), ⟨by kernel_rfl, by kernel_rfl, by kernel_rfl⟩, .go ?_⟩
        (conv => whnf)
        (try simp only [zU11_0])
        repeat ((first | refine V.s1 ?_); (try simp only [zU11_0]))
        exact ⟨1, by omega, by omega, V.wk⟩
    · simp only [k1]
      (conv => whnf)
      (try simp only [Nat.zero_add])
      repeat ((first | refine V.s1 ?_); (try simp only [Nat.zero_add]))
      refine lp_any (0) (fun k => k ≤ 3) (fun k => 3 - k) (fun k => [(18, .int .i64 k)]) (fun k => [(7, .box (stRC (sb v1 v0) (sb v2 v0) (sb v3 v0) 1 k))]) ?_ ?_ ?_
      exact V.wk
      exact Nat.zero_le _
      intro k hk
      (conv => whnf)
      (try simp only [Nat.zero_add])
      repeat ((first | refine V.s1 ?_); (try simp only [Nat.zero_add]))
      refine Cnd.split (CondB.mk (fun hq2 => ?_) (fun hq2 => ?_))
      · rw [decide_eq_true_eq] at hq2
        have hk3 : k = 0 ∨ k = 1 ∨ k = 2 := by omega
        rcases hk3 with e | e | e
        · subst e
          simp only [k0, stRC, stRow, List.cons_append, List.nil_append]
          (conv => whnf)
          (try simp only [Nat.zero_add])
          repeat ((first | refine V.s1 ?_); (try simp only [Nat.zero_add]))
          refine ⟨(.take 0 (.take 1 (.take 2 (.take 3 (.take 4 (.take 5 (.take 6 (.take 7 (.take 8 (.take 9 (.take 10 (.take 11 (.take 12 (.take 13 (.take 14 (.take 15 (.take 16 (.ev (.cons 17 [] (.done) (.nil)))))))))))))))))))), ⟨by kernel_rfl, by kernel_rfl, by kernel_rfl⟩, .go ?_⟩
          (conv => whnf)
          (try simp only [zU11_0])
          repeat ((first | refine V.s1 ?_); (try simp only [zU11_0]))
          exact ⟨1, by omega, by omega, V.wk⟩
        · subst e
          simp only [k1, stRC, stRow, List.cons_append, List.nil_append]
          (conv => whnf)
          (try simp only [Nat.zero_add])
          repeat ((first | refine V.s1 ?_); (try simp only [Nat.zero_add]))
          refine ⟨(.take 0 (.take 1 (.take 2 (.take 3 (.take 4 (.take 5 (.take 6 (.take 7 (.take 8 (.take 9 (.take 10 (.take 11 (.take 12 (.take 13 (.take 14 (.take 15 (.take 16 (.ev (.cons 17 [] (.done) (.nil)))))))))))))))))))), ⟨by kernel_rfl, by kernel_rfl, by kernel_rfl⟩, .go ?_⟩
          (conv => whnf)
          (try simp only [zU11_0])
          repeat ((first | refine V.s1 ?_); (try simp only [zU11_0]))
          exact ⟨2, by omega, by omega, V.wk⟩
        · subst e
          simp only [k2, stRC, stRow, List.cons_append, List.nil_append]
          (conv => whnf)
          (try simp only [Nat.zero_add])
          repeat ((first | refine V.s1 ?_); (try simp only [Nat.zero_add]))
          refine ⟨(.take 0 (.take 1 (.take 2 (.take 3 (.take 4 (.take 5 (.take 6 (.take 7 (.take 8 (.take 9 (.take 10 (.take 11 (.take 12 (.take 13 (.take 14 (.take 15 (.take 16 (.ev (.cons 17 [] (.done) (.nil)))))))))))))))))))), ⟨by kernel_rfl, by kernel_rfl, by kernel_rfl⟩, .go ?_⟩
          (conv => whnf)
          (try simp only [zU11_0])
          repeat ((first | refine V.s1 ?_); (try simp only [zU11_0]))
          exact ⟨3, by omega, by omega, V.wk⟩
      · rw [decide_eq_false_iff_not] at hq2
        have hk3 : k = 3 := by omega
        subst hk3
        simp only [k3, stRC, stRow, stG, List.cons_append, List.nil_append]
        (conv => whnf)
        (try simp only [Nat.zero_add])
        repeat ((first | refine V.s1 ?_); (try simp only [Nat.zero_add]))
        refine ⟨(.take 0 (.take 1 (.take 2 (.take 3 (.take 4 (.take 5 (.take 6 (.take 7 (.take 8 (.take 9 (.take 10 (.take 11 (.ev (.cons 12 [] (.done) (.nil))))))))))))))), ⟨by kernel_rfl, by kernel_rfl, by kernel_rfl⟩, .go ?_⟩
        (conv => whnf)
        (try simp only [zU11_0])
        repeat ((first | refine V.s1 ?_); (try simp only [zU11_0]))
        exact ⟨2, by omega, by omega, V.wk⟩
    · simp only [k2]
      (conv => whnf)
      (try simp only [Nat.zero_add])
      repeat ((first | refine V.s1 ?_); (try simp only [Nat.zero_add]))
      refine lp_any (0) (fun k => k ≤ 3) (fun k => 3 - k) (fun k => [(18, .int .i64 k)]) (fun k => [(7, .box (stRC (sb v1 v0) (sb v2 v0) (sb v3 v0) 2 k))]) ?_ ?_ ?_
      exact V.wk
      exact Nat.zero_le _
      intro k hk
      (conv => whnf)
      (try simp only [Nat.zero_add])
      repeat ((first | refine V.s1 ?_); (try simp only [Nat.zero_add]))
      refine Cnd.split (CondB.mk (fun hq2 => ?_) (fun hq2 => ?_))
      · rw [decide_eq_true_eq] at hq2
        have hk3 : k = 0 ∨ k = 1 ∨ k = 2 := by omega
        rcases hk3 with e | e | e
        · subst e
          simp only [k0, stRC, stRow, List.cons_append, List.nil_append]
          (conv => whnf)
          (try simp only [Nat.zero_add])
          repeat ((first | refine V.s1 ?_); (try simp only [Nat.zero_add]))
          refine ⟨(.take 0 (.take 1 (.take 2 (.take 3 (.take 4 (.take 5 (.take 6 (.take 7 (.take 8 (.take 9 (.take 10 (.take 11 (.take 12 (.take 13 (.take 14 (.take 15 (.take 16 (.ev (.cons 17 [] (.done) (.nil)))))))))))))))))))), ⟨by kernel_rfl, by kernel_rfl, by kernel_rfl⟩, .go ?_⟩
          (conv => whnf)
          (try simp only [zU11_0])
          repeat ((first | refine V.s1 ?_); (try simp only [zU11_0]))
          exact ⟨1, by omega, by omega, V.wk⟩
        · subst e
          simp only [k1, stRC, stRow, List.cons_append, List.nil_append]
          (conv => whnf)
          (try simp only [Nat.zero_add])
          repeat ((first | refine V.s1 ?_); (try simp only [Nat.zero_add]))
          refine ⟨(.take 0 (.take 1 (.take 2 (.take 3 (.take 4 (.take 5 (.take 6 (.take 7 (.take 8 (.take 9 (.take 10 (.take 11 (.take 12 (.take 13 (.take 14 (.take 15 (.take 16 (.ev (.cons 17 [] (.done) (.nil)))))))))))))))))))), ⟨by kernel_rfl, by kernel_rfl, by kernel_rfl⟩, .go ?_⟩
          (conv => whnf)
          (try simp only [zU11_0])
          repeat ((first | refine V.s1 ?_); (try simp only [zU11_0]))
          exact ⟨2, by omega, by omega, V.wk⟩
        · subst e
          simp only [k2, stRC, stRow, List.cons_append, List.nil_append]
          (conv => whnf)
          (try simp only [Nat.zero_add])
          repeat ((first | refine V.s1 ?_); (try simp only [Nat.zero_add]))
          refine ⟨(.take 0 (.take 1 (.take 2 (.take 3 (.take 4 (.take 5 (.take 6 (.take 7 (.take 8 (.take 9 (.take 10 (.take 11 (.take 12 (.take 13 (.take 14 (.take 15 (.take 16 (.ev (.cons 17 [] (.done) (.nil)))))))))))))))))))), ⟨by kernel_rfl, by kernel_rfl, by kernel_rfl⟩, .go ?_⟩
          (conv => whnf)
          (try simp only [zU11_0])
          repeat ((first | refine V.s1 ?_); (try simp only [zU11_0]))
          exact ⟨3, by omega, by omega, V.wk⟩
      · rw [decide_eq_false_iff_not] at hq2
        have hk3 : k = 3 := by omega
        subst hk3
        simp only [k3, stRC, stRow, stG, List.cons_append, List.nil_append]
        (conv => whnf)
        (try simp only [Nat.zero_add])
        repeat ((first | refine V.s1 ?_); (try simp only [Nat.zero_add]))
        refine ⟨(.take 0 (.take 1 (.take 2 (.take 3 (.take 4 (.take 5 (.take 6 (.take 7 (.take 8 (.take 9 (.take 10 (.take 11 (.ev (.cons 12 [] (.done) (.nil))))))))))))))), ⟨by kernel_rfl, by kernel_rfl, by kernel_rfl⟩, .go ?_⟩
        (conv => whnf)
        (try simp only [zU11_0])
        repeat ((first | refine V.s1 ?_); (try simp only [zU11_0]))
        exact ⟨3, by omega, by omega, V.wk⟩
  · rw [decide_eq_false_iff_not] at hq
    have hk3 : k = 3 := by omega
    subst hk3
    simp only [k3, stRC, stRow, stG, List.cons_append, List.nil_append]
    (conv => whnf)
    (try simp only [Nat.zero_add])
    repeat ((first | refine V.s1 ?_ | ((try ((with_reducible refine .ext ?_); (conv => whnf); (try simp only [Nat.zero_add]))); (with_reducible refine call_intro (r := ?_) ?_ ?_); rotate_left; (focus (first | exact (hdW))); (conv => whnf))); (try simp only [Nat.zero_add]))
    refine Cnd.split (CondB.mk (fun hz => ?_) (fun hz => ?_))
    · rw [decide_eq_true_eq] at hz
      obtain ⟨rfl, rfl, rfl, rfl⟩ := hr (.inl hz)
      rw [if_pos (.inl hz)]
      (conv => whnf)
      (try simp only [Nat.zero_add])
      repeat ((first | refine V.s1 ?_); (try simp only [Nat.zero_add]))
      exact Fin.of rfl
    rw [decide_eq_false_iff_not] at hz
    (conv => whnf)
    (try simp only [Nat.zero_add])
    repeat ((first | refine V.s1 ?_); (try simp only [Nat.zero_add]))
    refine cnd_meet [] [(11, .box [.int .i64 s])] (CondB.mk (fun hm => ?_) (fun hm => ?_)) ?_
    · rw [decide_eq_true_eq] at hm
      have e := hs.1 hm
      subst e
      (conv => whnf)
      refine V.st ?_
      exact V.wk
    · rw [decide_eq_false_iff_not] at hm
      have e := hs.2 hm
      subst e
      (conv => whnf)
      refine V.st ?_
      exact V.wk
    (conv => whnf)
    (try simp only [Nat.zero_add])
    repeat ((first | refine V.s1 ?_); (try simp only [Nat.zero_add]))
    refine lp_any (0) (fun k => k ≤ 3 ∧ (1 ≤ k → 0 ≤ s * wa) ∧ (2 ≤ k → 0 ≤ s * wb) ∧ (3 ≤ k → 0 ≤ s * wc)) (fun k => 3 - k) (fun k => [(64, .int .i64 k), (13, .int .i64 (stF (W * s) (s * wa) (s * wb) (s * wc) k))]) (fun k => [(4, .arr .i64 (stG (s * wa) (s * wb) (s * wc) k))]) ?_ ?_ ?_
    · exact V.wk
    · omega
    intro k hk
    (conv => whnf)
    (try simp only [Nat.zero_add])
    repeat ((first | refine V.s1 ?_); (try simp only [Nat.zero_add]))
    refine Cnd.split (CondB.mk (fun hq2 => ?_) (fun hq2 => ?_))
    · rw [decide_eq_true_eq] at hq2
      have hk3 : k = 0 ∨ k = 1 ∨ k = 2 := by omega
      rcases hk3 with e | e | e
      · subst e
        simp only [k0, stF, stG]
        (conv => whnf)
        (try simp only [Nat.zero_add])
        repeat ((first | refine V.s1 ?_); (try simp only [Nat.zero_add]))
        refine .inl ?_
        (conv => whnf)
        refine ⟨0, _, _, ⟨Tryd.func22, rfl, rfl, Nat.le_of_ble_eq_true rfl⟩, ?_⟩
        (conv => whnf)
        (conv => whnf)
        (try simp only [zU11_0])
        repeat ((first | refine V.s1 ?_); (try simp only [zU11_0]))
        refine ⟨(.take 0 (.take 1 (.ev (.cons 2 [0] (.take 3 (.take 4 (.done))) (.nil))))), ⟨by kernel_rfl, by kernel_rfl, by kernel_rfl⟩, .go ?_⟩
        (conv => whnf)
        (try simp only [zU11_0])
        repeat ((first | refine V.s1 ?_ | ((try ((with_reducible refine .ext ?_); (conv => whnf); (try simp only [zU11_0]))); (with_reducible refine call_intro (r := ?_) ?_ ?_); rotate_left; (focus (first | exact (hda))); (conv => whnf))); (try simp only [zU11_0]))
        refine Cnd.split (CondB.mk (fun hq3 => ?_) (fun hq3 => ?_))
        · rw [decide_eq_true_eq] at hq3
          obtain ⟨rfl, rfl, rfl, rfl⟩ := hr (by omega)
          rw [if_pos (by omega)]
          (conv => whnf)
          (try simp only [Nat.zero_add])
          repeat ((first | refine V.s1 ?_); (try simp only [Nat.zero_add]))
          exact Fin.of rfl
        rw [decide_eq_false_iff_not] at hq3
        (conv => whnf)
        (try simp only [Nat.zero_add])
        repeat ((first | refine V.s1 ?_); (try simp only [Nat.zero_add]))
        exact ⟨1, by omega, by omega, V.wk⟩
      · subst e
        simp only [k1, stF, stG]
        (conv => whnf)
        (try simp only [Nat.zero_add])
        repeat ((first | refine V.s1 ?_); (try simp only [Nat.zero_add]))
        refine .inl ?_
        (conv => whnf)
        refine ⟨0, _, _, ⟨Tryd.func22, rfl, rfl, Nat.le_of_ble_eq_true rfl⟩, ?_⟩
        (conv => whnf)
        (conv => whnf)
        (try simp only [zU11_0])
        repeat ((first | refine V.s1 ?_); (try simp only [zU11_0]))
        refine ⟨(.take 0 (.take 1 (.ev (.cons 2 [0] (.take 3 (.take 4 (.done))) (.nil))))), ⟨by kernel_rfl, by kernel_rfl, by kernel_rfl⟩, .go ?_⟩
        (conv => whnf)
        (try simp only [zU11_0])
        repeat ((first | refine V.s1 ?_ | ((try ((with_reducible refine .ext ?_); (conv => whnf); (try simp only [zU11_0]))); (with_reducible refine call_intro (r := ?_) ?_ ?_); rotate_left; (focus (first | exact (hdb))); (conv => whnf))); (try simp only [zU11_0]))
        refine Cnd.split (CondB.mk (fun hq3 => ?_) (fun hq3 => ?_))
        · rw [decide_eq_true_eq] at hq3
          obtain ⟨rfl, rfl, rfl, rfl⟩ := hr (by omega)
          rw [if_pos (by omega)]
          (conv => whnf)
          (try simp only [Nat.zero_add])
          repeat ((first | refine V.s1 ?_); (try simp only [Nat.zero_add]))
          exact Fin.of rfl
        rw [decide_eq_false_iff_not] at hq3
        (conv => whnf)
        (try simp only [Nat.zero_add])
        repeat ((first | refine V.s1 ?_); (try simp only [Nat.zero_add]))
        exact ⟨2, by omega, by omega, V.wk⟩
      · subst e
        simp only [k2, stF, stG]
        (conv => whnf)
        (try simp only [Nat.zero_add])
        repeat ((first | refine V.s1 ?_); (try simp only [Nat.zero_add]))
        refine .inl ?_
        (conv => whnf)
        refine ⟨0, _, _, ⟨Tryd.func22, rfl, rfl, Nat.le_of_ble_eq_true rfl⟩, ?_⟩
        (conv => whnf)
        (conv => whnf)
        (try simp only [zU11_0])
        repeat ((first | refine V.s1 ?_); (try simp only [zU11_0]))
        refine ⟨(.take 0 (.take 1 (.ev (.cons 2 [0] (.take 3 (.take 4 (.done))) (.nil))))), ⟨by kernel_rfl, by kernel_rfl, by kernel_rfl⟩, .go ?_⟩
        (conv => whnf)
        (try simp only [zU11_0])
        repeat ((first | refine V.s1 ?_ | ((try ((with_reducible refine .ext ?_); (conv => whnf); (try simp only [zU11_0]))); (with_reducible refine call_intro (r := ?_) ?_ ?_); rotate_left; (focus (first | exact (hdc))); (conv => whnf))); (try simp only [zU11_0]))
        refine Cnd.split (CondB.mk (fun hq3 => ?_) (fun hq3 => ?_))
        · rw [decide_eq_true_eq] at hq3
          obtain ⟨rfl, rfl, rfl, rfl⟩ := hr (by omega)
          rw [if_pos (by omega)]
          (conv => whnf)
          (try simp only [Nat.zero_add])
          repeat ((first | refine V.s1 ?_); (try simp only [Nat.zero_add]))
          exact Fin.of rfl
        rw [decide_eq_false_iff_not] at hq3
        (conv => whnf)
        (try simp only [Nat.zero_add])
        repeat ((first | refine V.s1 ?_); (try simp only [Nat.zero_add]))
        exact ⟨3, by omega, by omega, V.wk⟩
    · rw [decide_eq_false_iff_not] at hq2
      have hk3 : k = 3 := by omega
      subst hk3
      simp only [k3, stF, stG]
      obtain ⟨rfl, rfl, rfl, rfl⟩ := hd (by omega)
      (conv => whnf)
      (try simp only [Nat.zero_add])
      repeat ((first | refine V.s1 ?_); (try simp only [Nat.zero_add]))
      refine Fin.of ?_
      by_cases hf : W * s - s * wa - s * wb - s * wc < 0
      · rw [if_pos (by omega)]
        simp; omega
      · rw [if_neg (by omega)]
        simp; omega
end Go.Proofs.YtlcaefokcnohnaaDoor
end
section
namespace Go.Nb
open Go
def val (B : Nat) : List Int → Int
  | [] => 0
  | x :: r => x + B * val B r
def Dg (B : Nat) (l : List Int) : Prop := ∀ x ∈ l, 0 ≤ x ∧ x < B
def mgF (B : Nat) : Nat → Nat → List Int
  | 0, _ => []
  | f + 1, n => if n = 0 then [] else ((n % B : Nat) : Int) :: mgF B f (n / B)
def mg (B n : Nat) : List Int := mgF B n n
theorem mgF_le {B : Nat} (hB : 2 ≤ B) : ∀ (f n : Nat), n ≤ f → mgF B f n = mgF B n n := by
  have key : ∀ (f g n : Nat), n ≤ f → n ≤ g → mgF B f n = mgF B g n := by
    intro f
    induction f with
    | zero => intro g n h1 h2; obtain rfl : n = 0 := by omega
              cases g <;> simp [mgF]
    | succ f ih =>
      intro g n h1 h2
      cases g with
      | zero => obtain rfl : n = 0 := by omega
                simp [mgF]
      | succ g =>
        simp only [mgF]
        by_cases h0 : n = 0
        · simp [h0]
        · rw [if_neg h0, if_neg h0]
          have : n / B < n := Nat.div_lt_self (by omega) (by omega)
          rw [ih g (n / B) (by omega) (by omega)]
  exact fun f n h => key f n n h (Nat.le_refl _)
theorem mg_zero (B : Nat) : mg B 0 = [] := rfl
theorem mg_pos {B n : Nat} (hB : 2 ≤ B) (hn : 0 < n) : mg B n = ((n % B : Nat) : Int) :: mg B (n / B) := by
  obtain ⟨m, rfl⟩ : ∃ m, n = m + 1 := ⟨n - 1, by omega⟩
  have : (m + 1) / B < m + 1 := Nat.div_lt_self (by omega) (by omega)
  conv => lhs; unfold mg mgF
  rw [if_neg (by omega), mgF_le hB m _ (by omega)]
  rfl
theorem mg_ind {B : Nat} (hB : 2 ≤ B) {p : Nat → Prop} (h0 : p 0) (h1 : ∀ n, 0 < n → p (n / B) → p n) (n : Nat) : p n := by
  induction n using Nat.strongRecOn with
  | _ n ih =>
    by_cases hn : n = 0
    · rw [hn]; exact h0
    · exact h1 n (by omega) (ih _ (Nat.div_lt_self (by omega) (by omega)))
theorem mg_dg {B : Nat} (hB : 2 ≤ B) (n : Nat) : Dg B (mg B n) := by
  refine mg_ind hB (p := fun n => Dg B (mg B n)) (by intro x hx; simp [mg_zero] at hx) (fun n hn ih x hx => ?_) n
  rw [mg_pos hB hn] at hx
  rcases List.mem_cons.1 hx with rfl | hx
  · have := Nat.mod_lt n (by omega : B > 0)
    omega
  · exact ih x hx
theorem mg_val {B : Nat} (hB : 2 ≤ B) (n : Nat) : val B (mg B n) = n := by
  refine mg_ind hB (p := fun n => val B (mg B n) = n) rfl (fun n hn ih => ?_) n
  rw [mg_pos hB hn]
  simp only [val, ih]
  have := Nat.mod_add_div n B
  rw [← Int.natCast_mul]
  omega
theorem mg_nil {B n : Nat} (hB : 2 ≤ B) : mg B n = [] ↔ n = 0 := by
  constructor
  · intro h
    have := mg_val hB n
    rw [h] at this
    simp [val] at this
    omega
  · intro h; rw [h]; rfl
theorem val_nonneg {B : Nat} {l : List Int} (h : Dg B l) : 0 ≤ val B l := by
  induction l with
  | nil => simp [val]
  | cons x r ih =>
    have h1 := h x (by simp)
    have h2 := ih fun y hy => h y (by simp [hy])
    have h3 : 0 ≤ (B : Int) * val B r := Int.mul_nonneg (by omega) h2
    simp only [val]
    omega
theorem val_append (B : Nat) (l r : List Int) : val B (l ++ r) = val B l + (B : Int) ^ l.length * val B r := by
  induction l with
  | nil => simp [val]
  | cons x l ih =>
    simp only [List.cons_append, val, List.length_cons, ih, Int.pow_succ]
    rw [Int.mul_add, ← Int.add_assoc, Int.mul_comm ((B : Int) ^ l.length) (B : Int), Int.mul_assoc]
theorem val_lt {B : Nat} {l : List Int} (h : Dg B l) : val B l < (B : Int) ^ l.length := by
  induction l with
  | nil => simp [val]
  | cons x r ih =>
    have h1 := h x (by simp)
    have h2 := ih fun y hy => h y (by simp [hy])
    simp only [val, List.length_cons, Int.pow_succ]
    have h3 : (B : Int) * (val B r + 1) ≤ (B : Int) * (B : Int) ^ r.length := Int.mul_le_mul_of_nonneg_left h2 (by omega)
    rw [Int.mul_add, Int.mul_one] at h3
    rw [Int.mul_comm ((B : Int) ^ r.length)]
    omega
theorem dg_append {B : Nat} {l r : List Int} (h1 : Dg B l) (h2 : Dg B r) : Dg B (l ++ r) := fun x hx => by
  rcases List.mem_append.1 hx with h | h
  · exact h1 x h
  · exact h2 x h
theorem dg_take {B : Nat} {l : List Int} (h : Dg B l) (k : Nat) : Dg B (l.take k) := fun x hx => h x (List.mem_of_mem_take hx)
theorem dg_drop {B : Nat} {l : List Int} (h : Dg B l) (k : Nat) : Dg B (l.drop k) := fun x hx => h x (List.mem_of_mem_drop hx)
theorem dg_one {B : Nat} {x : Int} (h : 0 ≤ x ∧ x < B) : Dg B [x] := fun y hy => by simp at hy; subst hy; exact h
theorem dg_zeros {B : Nat} (hB : 1 ≤ B) (k : Nat) : Dg B (List.replicate k 0) := fun y hy => by
  rw [List.eq_of_mem_replicate hy]; omega
theorem val_zeros (B k : Nat) : val B (List.replicate k 0) = 0 := by
  induction k with
  | zero => rfl
  | succ k ih => simp [List.replicate_succ, val, ih]
theorem val_snoc (B : Nat) (l : List Int) (x : Int) : val B (l ++ [x]) = val B l + (B : Int) ^ l.length * x := by
  rw [val_append]; simp [val]
theorem val_take_succ {B : Nat} {l : List Int} {k : Nat} {x : Int} (h : l[k]? = some x) : val B (l.take (k + 1)) = val B (l.take k) + (B : Int) ^ k * x := by
  have hk := (List.getElem?_eq_some_iff.1 h).1
  rw [List.take_add_one, h]
  have : (l.take k).length = k := by rw [List.length_take]; omega
  rw [show (some x).toList = [x] from rfl, val_snoc, this]
theorem val_split (B : Nat) (l : List Int) (k : Nat) (hk : k ≤ l.length) : val B l = val B (l.take k) + (B : Int) ^ k * val B (l.drop k) := by
  conv => lhs; rw [← List.take_append_drop k l]
  rw [val_append, List.length_take, Nat.min_eq_left hk]
theorem mg_of {B : Nat} (hB : 2 ≤ B) : ∀ {l : List Int}, Dg B l → (∀ x, l.getLast? = some x → x ≠ 0) → l = mg B (val B l).toNat
  | [], _, _ => rfl
  | x :: r, hd, hl => by
    have hx := hd x (by simp)
    have hr : Dg B r := fun y hy => hd y (by simp [hy])
    have h0 := val_nonneg hr
    have hlr : ∀ y, r.getLast? = some y → y ≠ 0 := fun y hy => hl y (by
      cases r with
      | nil => simp at hy
      | cons a s => rw [List.getLast?_cons_cons]; exact hy)
    have ih := mg_of hB hr hlr
    have hpos : 0 < val B (x :: r) := by
      simp only [val]
      cases r with
      | nil =>
        have := hl x (by simp)
        simp [val]
        omega
      | cons a s =>
        have hne : (val B (a :: s)).toNat ≠ 0 := fun e => by
          rw [e, mg_zero] at ih
          cases ih
        have h1 : 1 ≤ val B (a :: s) := by omega
        have h2 : (B : Int) * 1 ≤ (B : Int) * val B (a :: s) := Int.mul_le_mul_of_nonneg_left h1 (by omega)
        omega
    rw [mg_pos hB (by omega)]
    obtain ⟨v, hv⟩ : ∃ v : Nat, val B r = v := ⟨(val B r).toNat, by omega⟩
    obtain ⟨y, rfl⟩ : ∃ y : Nat, x = y := ⟨x.toNat, by omega⟩
    have e : (val B ((y : Int) :: r)).toNat = y + B * v := by
      simp only [val, hv]
      rw [← Int.natCast_mul, ← Int.natCast_add, Int.toNat_natCast]
    have hy : y < B := by omega
    rw [e, Nat.add_mul_mod_self_left, Nat.mod_eq_of_lt hy, Nat.add_mul_div_left _ _ (by omega : 0 < B), Nat.div_eq_of_lt hy, Nat.zero_add]
    rw [hv, Int.toNat_natCast] at ih
    rw [← ih]
theorem mg_last {B n : Nat} (hB : 2 ≤ B) : ∀ x, (mg B n).getLast? = some x → x ≠ 0 := by
  refine mg_ind hB (p := fun n => ∀ x, (mg B n).getLast? = some x → x ≠ 0) (fun x h => by simp [mg_zero] at h) (fun n hn ih x h => ?_) n
  rw [mg_pos hB hn] at h
  by_cases hd : n / B = 0
  · rw [hd, mg_zero] at h
    simp at h
    have := Nat.mod_add_div n B
    rw [hd] at this
    omega
  · rw [mg_pos hB (Nat.pos_of_ne_zero hd), List.getLast?_cons_cons] at h
    rw [mg_pos hB (Nat.pos_of_ne_zero hd)] at ih
    exact ih x h
theorem mg_len_le {B n k : Nat} (hB : 2 ≤ B) (h : n < B ^ k) : (mg B n).length ≤ k := by
  induction k generalizing n with
  | zero => obtain rfl : n = 0 := by simp at h; omega
            simp [mg_zero]
  | succ k ih =>
    by_cases hn : n = 0
    · rw [hn, mg_zero]; simp
    · rw [mg_pos hB (by omega), List.length_cons]
      have : n / B < B ^ k := Nat.div_lt_of_lt_mul (by rw [Nat.pow_succ, Nat.mul_comm] at h; exact h)
      have := ih this
      omega
theorem mg_lt_pow {B n : Nat} (hB : 2 ≤ B) : n < B ^ (mg B n).length := by
  have h1 := val_lt (mg_dg hB n)
  rw [mg_val hB] at h1
  have e : ((B : Int) ^ (mg B n).length) = ((B ^ (mg B n).length : Nat) : Int) := by simp
  rw [e] at h1
  omega
theorem mg_len_mono {B m n : Nat} (hB : 2 ≤ B) (h : m ≤ n) : (mg B m).length ≤ (mg B n).length :=
  mg_len_le hB (Nat.lt_of_le_of_lt h (mg_lt_pow hB))
theorem pow_le_mg {B n : Nat} (hB : 2 ≤ B) (hn : 0 < n) : B ^ ((mg B n).length - 1) ≤ n := by
  rcases Nat.lt_or_ge n (B ^ ((mg B n).length - 1)) with h | h
  · have h1 := mg_len_le hB h
    have h2 : (mg B n) ≠ [] := fun e => by rw [mg_nil hB] at e; omega
    have := List.length_pos_iff.2 h2
    omega
  · exact h
def decF : Nat → Nat → List UInt8
  | 0, _ => []
  | f + 1, n => if n < 10 then [UInt8.ofNat (48 + n)] else decF f (n / 10) ++ [UInt8.ofNat (48 + n % 10)]
def dec (n : Nat) : List UInt8 := decF (n + 1) n
theorem decF_le : ∀ (f g n : Nat), n < f → n < g → decF f n = decF g n := by
  intro f
  induction f with
  | zero => intro g n h1; omega
  | succ f ih =>
    intro g n h1 h2
    cases g with
    | zero => omega
    | succ g =>
      simp only [decF]
      by_cases h0 : n < 10
      · simp [h0]
      · rw [if_neg h0, if_neg h0, ih g (n / 10) (by omega) (by omega)]
theorem dec_small {n : Nat} (h : n < 10) : dec n = [UInt8.ofNat (48 + n)] := by simp [dec, decF, h]
theorem dec_big {n : Nat} (h : 10 ≤ n) : dec n = dec (n / 10) ++ [UInt8.ofNat (48 + n % 10)] := by
  conv => lhs; unfold dec decF
  rw [if_neg (by omega), decF_le n (n / 10 + 1) (n / 10) (by omega) (by omega)]
  rfl
def decZ (z : Int) : List UInt8 := if z < 0 then 45 :: dec z.natAbs else dec z.natAbs
def pad : Nat → Nat → List UInt8
  | 0, _ => []
  | k + 1, n => pad k (n / 10) ++ [UInt8.ofNat (48 + n % 10)]
theorem pad_length (k n : Nat) : (pad k n).length = k := by
  induction k generalizing n with
  | zero => rfl
  | succ k ih => simp [pad, ih]
theorem dec_pad {a : Nat} (ha : 0 < a) : ∀ (k b : Nat), b < 10 ^ k → dec (a * 10 ^ k + b) = dec a ++ pad k b
  | 0, b, h => by
    obtain rfl : b = 0 := by simp at h; omega
    simp [pad]
  | k + 1, b, h => by
    have hb : b / 10 < 10 ^ k := Nat.div_lt_of_lt_mul (by rw [Nat.pow_succ, Nat.mul_comm] at h; exact h)
    have e : a * 10 ^ (k + 1) + b = (a * 10 ^ k) * 10 + b := by rw [Nat.pow_succ, Nat.mul_assoc]
    have hp : 1 ≤ a * 10 ^ k := Nat.mul_pos ha (Nat.pow_pos (by omega))
    have e1 : (a * 10 ^ (k + 1) + b) / 10 = a * 10 ^ k + b / 10 := by omega
    have e2 : (a * 10 ^ (k + 1) + b) % 10 = b % 10 := by omega
    rw [dec_big (by omega), e1, e2, dec_pad ha k _ hb, List.append_assoc]
    rfl
theorem pad_dec : ∀ (k b : Nat), 0 < k → b < 10 ^ k → (dec b).length ≤ k ∧ pad k b = List.replicate (k - (dec b).length) 48 ++ dec b
  | 0, b, h, _ => by omega
  | k + 1, b, _, h => by
    by_cases hb : b < 10
    · rw [dec_small hb]
      simp only [List.length_singleton, pad]
      refine ⟨by omega, ?_⟩
      have e0 : b / 10 = 0 := by omega
      have e1 : b % 10 = b := by omega
      have hz : ∀ j, pad j 0 = List.replicate j 48 := by
        intro j
        induction j with
        | zero => rfl
        | succ j ih => rw [pad, Nat.zero_div, ih, List.replicate_succ']; rfl
      rw [e0, e1, hz]
      rfl
    · have h10 : b / 10 < 10 ^ k := Nat.div_lt_of_lt_mul (by rw [Nat.pow_succ, Nat.mul_comm] at h; exact h)
      have hk : 0 < k := by
        rcases Nat.eq_zero_or_pos k with e | e
        · subst e; simp at h10; omega
        · exact e
      obtain ⟨h1, h2⟩ := pad_dec k (b / 10) hk h10
      rw [dec_big (by omega), List.length_append, List.length_singleton]
      refine ⟨by omega, ?_⟩
      rw [pad, h2, List.append_assoc]
      congr 2
      omega
def rdv (s : List UInt8) : Nat := s.foldl (fun v c => v * 10 + (c.toNat - 48)) 0
def isDig (c : UInt8) : Bool := decide (48 ≤ c.toNat ∧ c.toNat ≤ 57)
theorem rdv_foldl (s : List UInt8) (v : Nat) : s.foldl (fun v c => v * 10 + (c.toNat - 48)) v = v * 10 ^ s.length + rdv s := by
  induction s generalizing v with
  | nil => simp [rdv]
  | cons c s ih =>
    simp only [List.foldl_cons, rdv, List.length_cons]
    rw [ih, ih (0 * 10 + (c.toNat - 48)), Nat.pow_succ, Nat.add_mul, Nat.zero_mul, Nat.zero_add, Nat.mul_assoc, Nat.mul_comm 10]
    omega
theorem rdv_append (s t : List UInt8) : rdv (s ++ t) = rdv s * 10 ^ t.length + rdv t := by
  conv => lhs; unfold rdv
  rw [List.foldl_append, rdv_foldl]
  rfl
theorem rdv_one (c : UInt8) : rdv [c] = c.toNat - 48 := by simp [rdv]
theorem dig_toNat {n : Nat} (h : n < 10) : (UInt8.ofNat (48 + n)).toNat = 48 + n := by
  rw [UInt8.toNat_ofNat']
  omega
theorem rdv_dec (n : Nat) : rdv (dec n) = n := by
  induction n using Nat.strongRecOn with
  | _ n ih =>
    by_cases h : n < 10
    · rw [dec_small h, rdv_one, dig_toNat h]; omega
    · rw [dec_big (by omega), rdv_append, rdv_one, dig_toNat (by omega), ih _ (by omega)]
      simp
      omega
theorem dec_dig (n : Nat) : ∀ c ∈ dec n, isDig c = true := by
  induction n using Nat.strongRecOn with
  | _ n ih =>
    intro c hc
    by_cases h : n < 10
    · rw [dec_small h] at hc
      simp at hc
      subst hc
      simp [isDig, dig_toNat h]
      omega
    · rw [dec_big (by omega)] at hc
      rcases List.mem_append.1 hc with hc | hc
      · exact ih _ (by omega) c hc
      · simp at hc
        subst hc
        have := dig_toNat (n := n % 10) (by omega)
        simp [isDig, this]
        omega
theorem dec_length_pos (n : Nat) : 0 < (dec n).length := by
  by_cases h : n < 10
  · rw [dec_small h]; simp
  · rw [dec_big (by omega)]; simp
theorem rdv_lt {s : List UInt8} (h : ∀ c ∈ s, isDig c = true) : rdv s < 10 ^ s.length := by
  induction s with
  | nil => simp [rdv]
  | cons c s ih =>
    have h1 := h c (by simp)
    have h2 := ih fun x hx => h x (by simp [hx])
    simp [isDig] at h1
    have e : rdv (c :: s) = (c.toNat - 48) * 10 ^ s.length + rdv s := by
      have := rdv_append [c] s
      rw [rdv_one] at this
      exact this
    rw [e, List.length_cons, Nat.pow_succ]
    have h3 : (c.toNat - 48) * 10 ^ s.length ≤ 9 * 10 ^ s.length := Nat.mul_le_mul_right _ (by omega)
    omega
end Go.Nb
end
section
namespace Go.Proofs.YtlcaefokcnohnaaDoor
open Go Go.V Go.Nb
theorem called_of_grown {P : Program} {f : Nat} {fn : Func} {c : Code} {ds : List D} {r : D} (hf : P.funcs[f]? = some fn) (hn : (fn.name == "runtime.NumGoroutine") = false) (hb : fn.body = some c) (hr : r.pure = true)
    (h : ∀ (w : World) (hp : Pub) (vs : List Value), Agree hp w → DenL Env.dummy hp ds vs → Calls P f vs.toArray w fun e w' => (∃ v, e = .returned v ∧ ∀ hp, Den Env.dummy hp r v) ∧ RowKit.Below w.heap.size w w') : Called P f ds r :=
  ⟨enters_of hf hn hb, fun hp w vs ha hd => (h w hp vs ha hd).mono fun e w' ⟨⟨v, e1, e2⟩, e3⟩ => ⟨v, hp, e1, e2 hp, ha.of_blocks fun b ⟨o, v, hv⟩ => e3.block b (ha.lt hv), Pub.Le.refl _, e3, fun _ _ _ => rfl⟩⟩
theorem decDigits_dec (n : Nat) : Go.Lib.decDigits n = dec n := by
  induction n using Nat.strongRecOn with
  | _ n ih =>
    rw [Go.Lib.decDigits]
    by_cases h : n < 10
    · rw [dif_pos h, dec_small h]
    · rw [dif_neg h, dec_big (by omega), ih (n / 10) (by omega)]
theorem itoa_decZ (n : Int) : Go.Lib.itoa n = decZ n := by
  unfold Go.Lib.itoa decZ
  split
  · rw [decDigits_dec]
  · rw [decDigits_dec]
    congr 1
    omega
theorem dec_len (n : Nat) (k : Nat) (h : n < 10 ^ k) (hk : 0 < k) : (dec n).length ≤ k := (pad_dec k n hk h).1
theorem itoa_c (n : Int) : Called Tryd.prog 39 [.int .i64 n] (.str (decZ n)) := by
  refine called_of_grown Tryd.func39 rfl rfl rfl fun w hp vs ha hd => ?_
  simp only [DenL, Den] at hd
  obtain ⟨v, _, rfl, ⟨rfl, h1⟩, rfl⟩ := hd
  have ht : Go.Lib.TabIs Tryd.prog w "internal/strconv.uint64pow10" .u64 Go.Lib.pow10Tab := by
    obtain ⟨_, T, f, h2⟩ := ha.blk.1 1 _ (by unfold glb; first | exact List.mem_cons_of_mem _ (List.mem_cons_self ..) | exact List.mem_cons_self ..)
    unfold Go.Lib.TabIs World.var?
    rw [show Tryd.prog.globalNamed "internal/strconv.uint64pow10" = some 1 by kernel_rfl]
    simp only [Option.bind_some, h2]
    rfl
  obtain ⟨h3, h4⟩ := h1
  refine (Tryd.strconv_Itoa n h3 h4 w ht).mono fun e w' ⟨he, k, os, hw⟩ => ⟨⟨_, he, fun hp => ?_⟩, ?_⟩
  · rw [itoa_decZ]
    simp only [Den]
    refine ⟨trivial, ?_⟩
    simp only [V.lo, V.hi] at h3 h4
    have hl := dec_len n.natAbs 20 (by omega) (by omega)
    unfold decZ
    split
    · rw [List.length_cons]; omega
    · omega
  · rw [hw]
    exact Go.Lib.below_grow _ _ (Nat.le_refl _) _ _
theorem cutPrefix_c (s p : List UInt8) : Called Tryd.prog 46 [.str s, .str p] (.tup [.str (Go.Lib.trimPrefix s p), .bool (Go.Lib.hasPrefix s p)]) := by
  refine called_of_grown Tryd.func46 rfl rfl rfl fun w hp vs ha hd => ?_
  simp only [DenL, Den] at hd
  obtain ⟨v, _, rfl, ⟨rfl, h1⟩, v2, _, rfl, ⟨rfl, h2⟩, rfl⟩ := hd
  refine (Tryd.strings_CutPrefix ⟨s.toArray⟩ ⟨p.toArray⟩ w).mono fun e w' ⟨he, hw⟩ => ⟨⟨_, he, fun hp => ?_⟩, ?_⟩
  · simp only [Den, DenL]
    refine ⟨_, rfl, _, _, rfl, ⟨rfl, ?_⟩, _, _, rfl, rfl, rfl⟩
    unfold Go.Lib.trimPrefix
    split
    · rw [List.length_drop]; omega
    · exact h1
  · rw [hw]; exact RowKit.Below.refl _ _
end Go.Proofs.YtlcaefokcnohnaaDoor
end
section
namespace Go.Proofs.YtlcaefokcnohnaaDoor
open Go Go.V Go.Nb
theorem val_take_zero {B : Nat} {xs : List Int} {k : Nat} (h : xs[k]? = some 0) : val B (xs.take (k + 1)) = val B (xs.take k) := by
  rw [val_take_succ h]; simp
theorem take_mg {B : Nat} (hB : 2 ≤ B) {xs : List Int} {k : Nat} (hd : Dg B xs) (hv : val B (xs.take k) = val B xs) (hk : k ≤ xs.length) (h : k = 0 ∨ ∃ x, xs[k - 1]? = some x ∧ x ≠ 0) : xs.take k = mg B (val B xs).toNat := by
  rw [← hv]
  refine mg_of hB (dg_take hd k) fun y hy => ?_
  rcases h with rfl | ⟨x, h1, h2⟩
  · simp at hy
  · have hk0 : 0 < k := by
      rcases Nat.eq_zero_or_pos k with e | e
      · subst e; simp at hy
      · exact e
    have hlen : (xs.take k).length = k := by rw [List.length_take]; omega
    rw [List.getLast?_eq_getElem?, hlen, List.getElem?_take_of_lt (by omega), h1] at hy
    cases hy
    exact h2
theorem cut_c (xs : List Int) (hd : Dg 10000 xs) (hl : xs.length ≤ 281474976710656) : Called Tryd.prog 58 [.ints .i64 xs] (.ints .i64 (mg 10000 (val 10000 xs).toNat)) := by
  refine called_of_run tbOk 6 ⟨Tryd.func58, rfl, rfl, Nat.le_of_ble_eq_true rfl⟩ ?_
  (conv => whnf)
  refine V.st ?_
  refine lp_any (xs.length) (fun k => k ≤ xs.length ∧ val 10000 (xs.take k) = val 10000 xs) (fun k => k) (fun k => [(3, .int .i64 k)]) (fun k => []) ?_ ?_ ?_
  · exact V.wk
  · exact ⟨Nat.le_refl _, by rw [List.take_length]⟩
  intro k hk
  (conv => whnf)
  refine V.st ?_
  refine Cnd.split (CondB.mk (fun hq => ?_) (fun hq => ?_))
  · rw [Bool.and_eq_true, decide_eq_true_eq, decide_eq_true_eq] at hq
    have hk0 : 0 < k := by omega
    obtain ⟨j, rfl⟩ : ∃ j, k = j + 1 := ⟨k - 1, by omega⟩
    obtain ⟨x, hx, ex⟩ := getxn (xs := xs) (k := j) (by omega)
    have e1 : ((((j + 1 : Nat) : Int) - 1).toNat) = j := by omega
    have e2 : (((j + 1 : Nat) : Int) - 1) = (j : Int) := by omega
    rw [e1, ex] at hq
    rw [hq.2] at hx
    (conv => whnf)
    (try simp only [e2])
    repeat ((first | refine V.s1 ?_); (try simp only [e2]))
    exact ⟨j, ⟨by omega, by rw [← hk.2, val_take_zero hx]⟩, by omega, V.wk⟩
  · have h3 : k = 0 ∨ ∃ x, xs[k - 1]? = some x ∧ x ≠ 0 := by
      rcases Nat.eq_zero_or_pos k with e | e
      · exact .inl e
      · refine .inr ?_
        obtain ⟨x, hx, ex⟩ := getxn (xs := xs) (k := (k - 1)) (by omega)
        refine ⟨x, hx, fun e0 => ?_⟩
        have e1 : (((k : Nat) : Int) - 1).toNat = k - 1 := by omega
        rw [e1, ex, e0] at hq
        simp at hq
        omega
    (conv => whnf)
    (try simp only [Int.toNat_natCast])
    repeat ((first | refine V.s1 ?_); (try simp only [Int.toNat_natCast]))
    exact Fin.of (by rw [take_mg (by omega) hd hk.2 hk.1 h3])
end Go.Proofs.YtlcaefokcnohnaaDoor
end
section
namespace Go.Proofs.YtlcaefokcnohnaaDoor
open Go Go.V Go.Nb
theorem trim_c (xs : List Int) (hd : Dg 1000000000 xs) (hl : xs.length ≤ 281474976710656) : Called Tryd.prog 61 [.ints .u32 xs] (.ints .u32 (mg 1000000000 (val 1000000000 xs).toNat)) := by
  refine called_of_run tbOk 6 ⟨Tryd.func61, rfl, rfl, Nat.le_of_ble_eq_true rfl⟩ ?_
  (conv => whnf)
  refine V.st ?_
  refine lp_any (xs.length) (fun k => k ≤ xs.length ∧ val 1000000000 (xs.take k) = val 1000000000 xs) (fun k => k) (fun k => [(0, .ints .u32 (xs.take k))]) (fun k => []) ?_ ?_ ?_
  · rw [List.take_length]
    exact V.wk
  · exact ⟨Nat.le_refl _, by rw [List.take_length]⟩
  intro k hk
  have hlt : (xs.take k).length = k := by rw [List.length_take]; omega
  (conv => whnf)
  (try simp only [hlt])
  repeat ((first | refine V.s1 ?_); (try simp only [hlt]))
  refine Cnd.split (CondB.mk (fun hq => ?_) (fun hq => ?_))
  · rw [Bool.and_eq_true, decide_eq_true_eq, decide_eq_true_eq] at hq
    have hk0 : 0 < k := by omega
    obtain ⟨j, rfl⟩ : ∃ j, k = j + 1 := ⟨k - 1, by omega⟩
    obtain ⟨x, hx, ex⟩ := getxn (xs := xs) (k := j) (by omega)
    have e1 : ((((j + 1 : Nat) : Int) - 1).toNat) = j := by omega
    have e2 : (((j + 1 : Nat) : Int) - 1) = (j : Int) := by omega
    have e3 : (xs.take (j + 1)).getD j 0 = x := by
      rw [List.getD_eq_getElem?_getD, List.getElem?_take_of_lt (by omega), hx]; rfl
    have e4 : (xs.take (j + 1)).take j = xs.take j := by rw [List.take_take, Nat.min_eq_left (by omega)]
    rw [e1, e3] at hq
    rw [hq.2] at hx
    (conv => whnf)
    (try simp only [e2, hlt, Int.toNat_natCast, e4])
    repeat ((first | refine V.s1 ?_); (try simp only [e2, hlt, Int.toNat_natCast, e4]))
    exact ⟨j, ⟨by omega, by rw [← hk.2, val_take_zero hx]⟩, by omega, V.wk⟩
  · have h3 : k = 0 ∨ ∃ x, xs[k - 1]? = some x ∧ x ≠ 0 := by
      rcases Nat.eq_zero_or_pos k with e | e
      · exact .inl e
      · refine .inr ?_
        obtain ⟨x, hx, ex⟩ := getxn (xs := xs) (k := (k - 1)) (by omega)
        refine ⟨x, hx, fun e0 => ?_⟩
        have e1 : (((k : Nat) : Int) - 1).toNat = k - 1 := by omega
        have e3 : (xs.take k).getD (k - 1) 0 = x := by
          rw [List.getD_eq_getElem?_getD, List.getElem?_take_of_lt (by omega), hx]; rfl
        rw [e1, e3, e0] at hq
        simp at hq
        omega
    (conv => whnf)
    refine V.st ?_
    exact Fin.of (by rw [take_mg (by omega) hd hk.2 hk.1 h3])
def plD (z : Int) : D := .agg [.bool (decide (z < 0)), .ints .i64 (mg 10000 z.natAbs)]
theorem madeP_c (b : Bool) (xs : List Int) (hd : Dg 10000 xs) (hl : xs.length ≤ 281474976710656) : Called Tryd.prog 44 [.bool b, .ints .i64 xs] (plD (if b then -(val 10000 xs) else val 10000 xs)) := by
  have hc := cut_c xs hd hl
  have h0 := val_nonneg hd
  obtain ⟨n, hn⟩ : ∃ n : Nat, val 10000 xs = n := ⟨(val 10000 xs).toNat, by omega⟩
  have hlen : ((0 : Int) < ((mg 10000 n).length : Int)) ↔ 0 < n := by
    have := mg_nil (B := 10000) (n := n) (by omega)
    rcases Nat.eq_zero_or_pos n with e | e
    · rw [e]; simp [mg_zero]
    · have h1 : mg 10000 n ≠ [] := fun h => by have := this.1 h; omega
      have := List.length_pos_iff.2 h1
      constructor <;> intro <;> omega
  rw [hn] at hc ⊢
  rw [Int.toNat_natCast] at hc
  refine called_of_run tbOk 6 ⟨Tryd.func44, rfl, rfl, Nat.le_of_ble_eq_true rfl⟩ ?_
  (conv => whnf)
  refine V.st ?_
  repeat ((try ((with_reducible refine .ext ?_); (conv => whnf))); (with_reducible refine call_intro (r := ?_) ?_ ?_); rotate_left; (focus (first | exact (hc))); (conv => whnf); refine V.st ?_)
  refine Fin.of ?_
  cases b with
  | false =>
    have e1 : decide ((n : Int) < 0) = false := by simp
    simp [plD, e1]
  | true =>
    have e1 : decide (-(n : Int) < 0) = decide (((mg 10000 n).length : Int) > 0) := by
      apply decide_eq_decide.2
      constructor
      · intro h; exact hlen.2 (by omega)
      · intro h; have := hlen.1 h; omega
    simp [plD]
    omega
end Go.Proofs.YtlcaefokcnohnaaDoor
end
