/- What functions of the program answer at given values, part 33. Conditions: those that each theorem names. -/
import Derived.Test.YtgjgpdceghjajaaGreatDoorSimplexRefinedH13
import Derived.Test.YtgjgpdceghjajaaGreatDoorSimplexRefinedH30
import Derived.Test.YtgjgpdceghjajaaGreatDoorSimplexRefinedH32
import Derived.Test.YtgjgpdceghjajaaGreatDoorSimplexRefinedH23
import Derived.Test.YtgjgpdceghjajaaGreatDoorSimplexRefinedH31
set_option linter.unusedSimpArgs false
set_option linter.unusedVariables false
set_option maxHeartbeats 8000000
set_option maxRecDepth 100000
section
namespace Go.V
open Go Go.RowKit
def Env.alias (E : Env) (i j : Nat) : Env := ⟨fun x => if x = j then E.blk i else E.blk x, fun x => if x = j then E.siz i else E.siz x, fun x => if x = j then E.kn i else E.kn x, fun x => if x = j then E.real i else E.real x, fun x => if x = j then E.lpr i else E.lpr x⟩
theorem Env.off_alias (E : Env) (i j : Nat) : E.off (E.alias i j) j := fun k hk => by simp [Env.alias, hk]
section
variable {cx : Cx} {E : Env} {h : Pub} {a : Act} {w : World} {L : Sl} {H : Hp}
theorem Sat.renArr (S : Sat cx E h a w L H) {i j : Nat} {k : IntKind} {xs : List Int} (hij : i ≠ j) (hoff' : cx.off ≤ j) (hi : lookH H i = some (.arr k xs)) :
  Sat cx (E.alias i j) h a w (purge j L) ((j, .arr k xs) :: (i, .gone) :: jaE j H) := by
 have hoff := E.off_alias i j
 have ej : (E.alias i j).blk j = E.blk i ∧ (E.alias i j).siz j = E.siz i ∧ (E.alias i j).kn j = E.kn i ∧ (E.alias i j).real j = E.real i := by simp [Env.alias]
 have ne : ∀ x, x ≠ j → (E.alias i j).blk x = E.blk x ∧ (E.alias i j).real x = E.real x := fun x hx => ⟨(hoff x hx).1, (hoff x hx).2.2.2.1⟩
 have live : ∀ x c', x ≠ j → lookH ((j, .arr k xs) :: (i, .gone) :: jaE j H) x = some c' → c'.live = true → x ≠ i ∧ ∃ c0, lookH H x = some c0 ∧ c' = jb5 j c0 ∧ c0.live = true := by
  intro x c' hx hc' hl
  rw [jag, if_neg (Ne.symm hx), jag] at hc'
  by_cases hxi : i = x
  ·rw [if_pos hxi] at hc'; cases hc'; cases hl
  ·rw [if_neg hxi] at hc'
   obtain ⟨c0, h1, h2⟩ := ja9 hc'
   exact ⟨Ne.symm hxi, c0, h1, h2, by rw [h2, ja8] at hl; exact hl⟩
 have atj : ∀ c', lookH ((j, .arr k xs) :: (i, .gone) :: jaE j H) j = some c' → c' = .arr k xs := fun c' hc' => by
  rw [jag, if_pos rfl] at hc'; cases hc'; rfl
 refine { knows := ?_, mem := ?_, agree := S.agree, since := S.since, low := fun x hx => jeM S.low hoff hoff' x hx, side := S.side }
 ·exact fun t => jbF hoff (S.knows t)
 ·refine { ok := ?_, base := ?_, unpub := ?_, inj := ?_ }
  ·intro x c' hc'
   by_cases hx : x = j
   ·subst hx
    rw [atj c' hc']
    have := S.mem.ok i _ hi
    simp only [ChunkOk] at this ⊢
    rw [ej.1, ej.2.1, ej.2.2.1, ej.2.2.2]
    exact this
   ·cases hl : c'.live with
    | false => cases c' <;> first | trivial | (simp [Chunk.live] at hl)
    | true =>
     obtain ⟨_, c0, h1, rfl, hl'⟩ := live x c' hx hc' hl
     exact ChunkOk.env hoff hx (S.mem.ok x _ h1)
  ·intro x c' hc' hl hr
   by_cases hx : x = j
   ·subst hx
    rw [ej.2.2.2] at hr
    rw [ej.1]
    exact S.mem.base i _ hi rfl hr
   ·obtain ⟨_, c0, h1, rfl, hl'⟩ := live x c' hx hc' hl
    rw [(ne x hx).2] at hr
    rw [(ne x hx).1]
    exact S.mem.base x _ h1 hl' hr
  ·intro x c' hc' hl hr o
   by_cases hx : x = j
   ·subst hx
    rw [ej.2.2.2] at hr
    rw [ej.1]
    exact S.mem.unpub i _ hi rfl hr o
   ·obtain ⟨_, c0, h1, rfl, hl'⟩ := live x c' hx hc' hl
    rw [(ne x hx).2] at hr
    rw [(ne x hx).1]
    exact S.mem.unpub x _ h1 hl' hr o
  ·intro x y c1 c2 hxy h1 h2 l1 l2 r1 r2
   by_cases hx : x = j
   ·subst hx
    obtain ⟨hyi, c0', g2, rfl, l2'⟩ := live y c2 (Ne.symm hxy) h2 l2
    rw [ej.2.2.2] at r1
    rw [(ne y (Ne.symm hxy)).2] at r2
    rw [ej.1, (ne y (Ne.symm hxy)).1]
    exact S.mem.inj i y _ _ (Ne.symm hyi) hi g2 rfl l2' r1 r2
   ·obtain ⟨hxi, c0, g1, rfl, l1'⟩ := live x c1 hx h1 l1
    rw [(ne x hx).2] at r1
    rw [(ne x hx).1]
    by_cases hy : y = j
    ·subst hy
     rw [ej.2.2.2] at r2
     rw [ej.1]
     exact S.mem.inj x i _ _ hxi g1 hi l1' rfl r1 r2
    ·obtain ⟨hyi, c0', g2, rfl, l2'⟩ := live y c2 hy h2 l2
     rw [(ne y hy).2] at r2
     rw [(ne y hy).1]
     exact S.mem.inj x y _ _ hxy g1 g2 l1' l2' r1 r2
end
theorem Wk.renBox {off : Nat} {L : Sl} {H : Hp} {L2 : Sl} {H2 : Hp} (i j b p n : Nat) {k : IntKind} {xs : List Int} {ds : List D} (hij : i ≠ j) (hb : b ≠ i ∧ b ≠ j) (hoff : off ≤ j) (hi : lookH H i = some (.arr k xs)) (hj : lookH (jaE j H) b = some (.box ds)) (hp : ds[p]? = some (.osl i 0 n))
  (h : Wk off (purge j L) ((b, .box (ds.set p (.osl j 0 n))) :: (j, .arr k xs) :: (i, .gone) :: jaE j H) L2 H2) : Wk off L H L2 H2 := by
 refine ⟨fun cx E h' a w e S => ?_⟩
 subst e
 have S1 := S.renArr hij hoff hi
 have hb1 : lookH ((j, .arr k xs) :: (i, .gone) :: jaE j H) b = some (.box ds) := by
  rw [jag, if_neg (Ne.symm hb.2), jag, if_neg (Ne.symm hb.1)]; exact hj
 have fe : ∀ v, Den (E.alias i j) h' (.osl i 0 n) v → Den (E.alias i j) h' (.osl j 0 n) v := fun v hv => by
  simp only [Den, Env.alias, if_true, if_neg hij] at hv ⊢
  exact hv
 refine h.out cx (E.alias i j) h' a w rfl (S1.rechunk hb1 rfl ?_)
 obtain ⟨h1, vs, rest, T, h2, h3, h4⟩ := S1.mem.ok b _ hb1
 exact ⟨h1, vs, rest, T, h2, jgj h3 hp fe, h4⟩
end Go.V
end
section
namespace Go.Proofs.YtgjgpdceghjajaaGreatDoor
open Go Go.V Go.Nb
def grd (data : List Int) (s z : Int) (a : Nat) : Int := (z - 1) * max (data.getD ((a : Int) + s).toNat 0 - data.getD a 0) (data.getD a 0 - data.getD ((a : Int) + s).toNat 0)
def stp (data : List Int) (out s z : Int) (i : Nat) (w : Nat → List Int) (a : Nat) (r : Nat) : List Int :=
 if (a : Int) / s % z = z - 1 then w r else if (a : Int) % out = r then (w r).set i (max ((w r).getD i 0) (grd data s z a)) else w r
def inS (data : List Int) (out s z : Int) (i : Nat) (w : Nat → List Int) : Nat → Nat → List Int
 | 0 => w
 | a + 1 => stp data out s z i (inS data out s z i w a) a
def strd (zs : List Int) (out : Int) : Nat → Int
 | 0 => out
 | k + 1 => strd zs out k * zs.getD (zs.length - 1 - k) 0
def outS (zs data : List Int) (out : Int) : Nat → Nat → List Int
 | 0 => fun _ => List.replicate zs.length 0
 | k + 1 => inS data out (strd zs out k) (zs.getD (zs.length - 1 - k) 0) (zs.length - 1 - k) (outS zs data out k) data.length
def rowOk (n : Nat) (l : List Int) : Prop := l.length = n ∧ ∀ j, 0 ≤ l.getD j 0 ∧ l.getD j 0 ≤ 600000
theorem grd_bd {data : List Int} {s z : Int} {a : Nat} (hd : ∀ v ∈ data, 0 ≤ v ∧ v ≤ 65535) (hz : 2 ≤ z ∧ z ≤ 9) : 0 ≤ grd data s z a ∧ grd data s z a ≤ 600000 := by
 have h1 := jbB (p := fun v => 0 ≤ v ∧ v ≤ 65535) hd (by omega) a
 have h2 := jbB (p := fun v => 0 ≤ v ∧ v ≤ 65535) hd (by omega) ((a : Int) + s).toNat
 unfold grd
 generalize hx : max (data.getD ((a : Int) + s).toNat 0 - data.getD a 0) (data.getD a 0 - data.getD ((a : Int) + s).toNat 0) = x
 have hx2 : 0 ≤ x ∧ x ≤ 65535 := by omega
 constructor
 ·exact jie (by omega) hx2.1
 ·have := Int.mul_le_mul (show z - 1 ≤ 8 by omega) hx2.2 hx2.1 (by omega)
  omega
theorem rowOk_set {n : Nat} {l : List Int} {i : Nat} {v : Int} (h : rowOk n l) (hv : 0 ≤ v ∧ v ≤ 600000) : rowOk n (l.set i v) := by
 refine ⟨by rw [ji6]; exact h.1, fun j => ?_⟩
 by_cases hi : i < l.length
 ·rw [jeT l i j v hi]
  split
  ·exact hv
  ·exact h.2 j
 ·rw [List.set_eq_of_length_le (by omega)]
  exact h.2 j
theorem inS_ok {data : List Int} {out s z : Int} {i n : Nat} {w : Nat → List Int} (hd : ∀ v ∈ data, 0 ≤ v ∧ v ≤ 65535) (hz : 2 ≤ z ∧ z ≤ 9) (hw : ∀ r, rowOk n (w r)) : ∀ a r, rowOk n (inS data out s z i w a r)
 | 0, r => hw r
 | a + 1, r => by
  have h := inS_ok (out := out) (s := s) (z := z) (i := i) hd hz hw a r
  have g := grd_bd (s := s) (a := a) hd hz
  simp only [inS, stp]
  split
  ·exact h
  ·split
   ·refine rowOk_set h ?_
    have := h.2 i
    omega
   ·exact h
theorem jcG {l : List Int} {p : Int → Prop} (h : ∀ v ∈ l, p v) {j : Nat} (hj : j < l.length) : p (l.getD j 0) := by
 rw [jiJ, jiM hj]
 exact h _ (jiN hj)
theorem jhb {zs data : List Int} {out : Int} (hd : ∀ v ∈ data, 0 ≤ v ∧ v ≤ 65535) (hz : ∀ z ∈ zs, 2 ≤ z ∧ z ≤ 9) : ∀ k, k ≤ zs.length → ∀ r, rowOk zs.length (outS zs data out k r)
  | 0, _, r => ⟨by simp [outS], fun j => by
      have := jbB (l := List.replicate zs.length (0 : Int)) (p := fun v => v = 0) (fun v hv => List.eq_of_mem_replicate hv) rfl j
      show 0 ≤ (List.replicate zs.length (0 : Int)).getD j 0 ∧ (List.replicate zs.length (0 : Int)).getD j 0 ≤ 600000
      omega⟩
  | k + 1, hk, r => inS_ok hd (jcG (l := zs) (p := fun z => 2 ≤ z ∧ z ≤ 9) hz (by omega)) (jhb hd hz k (by omega)) _ r
theorem strd_pos {zs : List Int} {out : Int} (ho : 1 ≤ out ∧ out ≤ 4) (hz : ∀ z ∈ zs, 2 ≤ z ∧ z ≤ 9) : ∀ k, k ≤ zs.length → 0 < strd zs out k ∧ strd zs out k ≤ 4 * 9 ^ k
 | 0, _ => by simp only [strd]; omega
 | k + 1, hk => by
  have h := strd_pos ho hz k (by omega)
  have g := jcG (p := fun z => 2 ≤ z ∧ z ≤ 9) hz (j := zs.length - 1 - k) (by omega)
  simp only [strd]
  constructor
  ·exact Int.mul_pos h.1 (by omega)
  ·have := Int.mul_le_mul h.2 g.2 (by omega) (jie (by decide) (Int.pow_nonneg (by decide)))
   rw [Int.pow_succ]
   omega
theorem jgr {zs : List Int} {out : Int} : ∀ k, k ≤ zs.length → prod zs * out = prod (zs.take (zs.length - k)) * strd zs out k
 | 0, _ => by simp only [strd, Nat.sub_zero, jja]
 | k + 1, hk => by
  have h := jgr (zs := zs) (out := out) k (by omega)
  have e0 : zs[zs.length - (k + 1)]? = some (zs.getD (zs.length - 1 - k) 0) := by
   rw [show zs.length - 1 - k = zs.length - (k + 1) from by omega, jiJ, jiM (show zs.length - (k + 1) < zs.length from by omega)]
   rfl
  rw [h, show zs.length - k = (zs.length - (k + 1)) + 1 from by omega, jbX e0]
  simp only [strd]
  rw [jiv, jiu (zs.getD (zs.length - 1 - k) 0)]
theorem pow9 (k : Nat) (h : k ≤ 4) : (4 : Int) * 9 ^ k ≤ 26244 := by
 have g : k = 0 ∨ k = 1 ∨ k = 2 ∨ k = 3 ∨ k = 4 := by omega
 rcases g with rfl | rfl | rfl | rfl | rfl <;> decide
theorem stp_in {s z q : Int} {a : Nat} {len : Int} (hs : 0 < s) (hz : 0 < z) (hl : len = q * (s * z)) (ha : (a : Int) < len) (h : ¬ (a : Int) / s % z = z - 1) : (a : Int) + s < len := by
 have h1 := jic ((a : Int) / s) (show z ≠ 0 by omega)
 have h2 := jiA ((a : Int) / s) hz
 have h3 : (a : Int) / s < q * z := (Int.ediv_lt_iff_lt_mul hs).2 (by rw [jiv, jiu z s, ← hl]; exact ha)
 have h4 := Int.mul_ediv_add_emod ((a : Int) / s) z
 have h5 := Int.mul_ediv_add_emod (a : Int) s
 have h6 := jiA (a : Int) hs
 have h7 : (a : Int) / s / z < q := (Int.ediv_lt_iff_lt_mul hz).2 h3
 have h8 : (a : Int) / s + 2 ≤ q * z := by
  have := jiw (show (a : Int) / s / z + 1 ≤ q by omega) (show 0 ≤ z by omega)
  rw [jit, Int.mul_one, jiu z q] at this
  omega
 have h9 := jiw h8 (show 0 ≤ s by omega)
 rw [jit] at h9
 have h10 : s * (q * z) = len := by rw [hl, Int.mul_left_comm]
 omega
def stB1 (n : Nat) : Nat → Hp
 | 0 => [(21, .box [.nil])]
 | _ => [(21, .box [.osl 200 0 n]), (200, .arr .i64 (List.replicate n 0))]
theorem jhY : type_of% @jih ∧ type_of% @jif ∧ type_of% @tn0 ∧ type_of% @tn1 ∧ type_of% @tn2 ∧ type_of% @tn3 ∧ type_of% @xt4 := ⟨@jih, @jif, @tn0, @tn1, @tn2, @tn3, @xt4⟩
theorem steep1_t (zs data : List Int) (T : Nat → List Int) (hg : jal zs 1 data = true) (hl : zs.length ≤ 4) (hT : outS zs data 1 zs.length = T) : Called Tryz.prog 32 [.agg [.ints .i64 zs, .int .i64 1, .ints .i64 data]] (.tup [.slf 1 1 (fun j => List.take 1 (List.drop (j * 1) [.ints .i64 (T 0)])), .int .i64 0]) := by
 have ck : Called Tryz.prog 37 [.agg [.ints .i64 zs, .int .i64 1, .ints .i64 data]] (.int .i64 0) := jdz hg hl
 have og := jat hg
 refine V.en tbOk Tryz.func32 ?_
 refine V.r1 jhY ck ?_
 refine jac 0 (fun k => k ≤ 1) (fun k => 1 - k) (fun k => [(24, .int .i64 k)]) (fun k => stB1 zs.length k) ?_ ?_ ?_
 ·simp only [stB1]
  exact V.wk
 ·exact jib _
 intro k hk
 have hk4 : k = 0 ∨ k = 1 := by omega
 rcases hk4 with e | e
 all_goals subst e
 ·simp only [k0, stB1]
  refine V.r0 jhY ?_
  refine ⟨1, by omega, by omega, ?_⟩
  simp only [stB1]
  refine Wk.renBox 32 200 21 0 zs.length (by decide) (by decide) (by decide) rfl rfl rfl ?_
  exact V.wk
 ·simp only [k1, stB1]
  refine V.r0 jhY ?_
  refine jhj (β := Unit) 2 (fun _ => True) (fun _ => [(5, .slf 1 1 (fun j => List.take 1 (List.drop (j * 1) [.ints .i64 (T 0)]))), (7, .any), (8, .any), (21, .any), (22, .any)]) (fun _ => [(21, .gone), (200, .gone)]) ?_ ?_
  rotate_left
  ·intro _ _
   refine V.r0 @jif ?_
   exact Fin.of rfl
  refine jac ((0, (zs.length : Int) - 1, 1, outS zs data 1 0) : Nat × Int × Int × (Nat → List Int)) (fun y => y.1 ≤ zs.length ∧ y.2.1 = (zs.length : Int) - 1 - y.1 ∧ y.2.2.1 = strd zs 1 y.1 ∧ y.2.2.2 = outS zs data 1 y.1) (fun y => zs.length - y.1) (fun y => [(8, .int .i64 y.2.1), (7, .int .i64 y.2.2.1)]) (fun y => [(200, .arr .i64 (y.2.2.2 0))]) ?_ ?_ ?_
  ·exact V.wk
  ·exact ⟨jib _, (by show (zs.length : Int) - 1 = (zs.length : Int) - 1 - ((0 : Nat) : Int); omega), rfl, rfl⟩
  rintro ⟨k, x8, s, w⟩ ⟨hk, h8, hs, hw⟩
  dsimp only at hk h8 hs hw ⊢
  have wo : ∀ r, rowOk zs.length (w r) := fun r => by rw [hw]; exact jhb og.2.2.2 og.2.1 k hk r
  refine V.r0 jhY ?_
  refine V.br (fun h => ?_) (fun h => ?_)
  ·have hx := of_decide_eq_true h
   obtain ⟨i, rfl⟩ : ∃ i : Nat, x8 = i := ⟨x8.toNat, by omega⟩
   have hi : i = zs.length - 1 - k := by omega
   obtain ⟨z, hz⟩ : ∃ z, zs.getD i 0 = z := ⟨_, rfl⟩
   have zb : 2 ≤ z ∧ z ≤ 9 := by rw [← hz]; exact jcG og.2.1 (by omega)
   have sp := strd_pos og.1 og.2.1 k hk
   refine V.r0 (V.a2 jhY hz) ?_
   have s0 : 0 < s := by rw [hs]; exact sp.1
   have pp := jgr (zs := zs) (out := 1) (k + 1) (by omega)
   have hlen : (data.length : Int) = prod (zs.take (zs.length - (k + 1))) * (s * z) := by rw [og.2.2.1.2, pp, hs, ← hz, hi]; rfl
   have sm : s ≤ 26244 := by
    have := pow9 k (by omega)
    omega
   have io := inS_ok (out := 1) (s := s) (z := z) (i := i) og.2.2.2 zb wo
   refine jac (0 : Nat) (fun a => a ≤ data.length) (fun a => data.length - a) (fun a => [(53, .int .i64 (a : Nat))]) (fun a => [(200, .arr .i64 (inS data 1 s z i w a 0))]) ?_ ?_ ?_
   ·exact V.wk
   ·exact jib _
   intro a ha
   have b0 := jbB (p := fun v => 0 ≤ v ∧ v ≤ 65535) og.2.2.2 (by omega) a
   have r0 := io a 0
   have q0 := r0.2 i
   have l0 := r0.1
   refine V.r0 jhY ?_
   refine V.br (fun c => ?_) (fun c => ?_)
   ·have hx2 := of_decide_eq_true c
    have hq : 0 ≤ (a : Int) / s := Int.ediv_nonneg (by omega) (by omega)
    refine V.r0 jhY ?_
    refine V.br (fun f => ?_) (fun f => ?_)
    ·have he := of_decide_eq_true f
     have e0 : inS data 1 s z i w (a + 1) 0 = inS data 1 s z i w a 0 := if_pos he
     refine V.r0 jhY ?_
     refine ⟨a + 1, by omega, by omega, ?_⟩
     simp only [e0]
     exact V.wk
    ·have he := of_decide_eq_false f
     have hin := stp_in s0 (by omega) hlen hx2 he
     have b1 := jbB (p := fun v => 0 ≤ v ∧ v ≤ 65535) og.2.2.2 (by omega) ((a : Int) + s).toNat
     have gb := grd_bd (s := s) (a := a) og.2.2.2 zb
     unfold grd at gb
     have hm : InR .i64 ((z - 1) * max (data.getD ((a : Int) + s).toNat 0 - data.getD a 0) (data.getD a 0 - data.getD ((a : Int) + s).toNat 0)) := ⟨Int.le_trans (by decide) gb.1, Int.le_trans gb.2 (by decide)⟩
     have g : (a : Int) % 1 = 0 := by omega
     ·have u0 : inS data 1 s z i w (a + 1) 0 = (inS data 1 s z i w a 0).set i (max ((inS data 1 s z i w a 0).getD i 0) (grd data s z a)) := (if_neg he).trans (if_pos (show (a : Int) % 1 = ((0 : Nat) : Int) from g))
      (conv => whnf)
      (try simp only [jhY])
      repeat ((first | refine V.s1 ?_ | ((try ((with_reducible refine .ext ?_); (conv => whnf); (try simp only [jhY]))); (with_reducible refine jaa (r := ?_) ?_ ?_); rotate_left; (focus (first | fail)); (conv => whnf)) | ((simp only [g]); (conv => whnf))); (try simp only [jhY]))
      refine ⟨a + 1, by omega, by omega, ?_⟩
      simp only [u0]
      exact V.wk
   ·have hx2 := of_decide_eq_false c
    obtain rfl : a = data.length := by omega
    have hsz0 := Int.mul_le_mul sm zb.2 (by omega) (by decide)
    have hsz1 := jie (show 0 ≤ s by omega) (show 0 ≤ z by omega)
    have hsz : InR .i64 (s * z) := ⟨Int.le_trans (by decide) hsz1, Int.le_trans hsz0 (by decide)⟩
    refine V.r0 jhY ?_
    refine ⟨(k + 1, (i : Int) - 1, s * z, inS data 1 s z i w data.length), ⟨by show k + 1 ≤ zs.length; omega, by show (i : Int) - 1 = (zs.length : Int) - 1 - ((k + 1 : Nat) : Int); omega, ?_, ?_⟩, by show zs.length - (k + 1) < zs.length - k; omega, ?_⟩
    ·show s * z = strd zs 1 k * zs.getD (zs.length - 1 - k) 0
     rw [hs, ← hz, hi]
    ·show _ = inS data 1 (strd zs 1 k) (zs.getD (zs.length - 1 - k) 0) (zs.length - 1 - k) (outS zs data 1 k) data.length
     rw [← hs, ← hw, ← hi, hz]
    ·dsimp only
     exact V.wk
  ·have hx := of_decide_eq_false h
   have hkn : k = zs.length := by omega
   have hwT : w = T := by rw [hw, hkn, hT]
   subst hwT
   refine V.r0 @jif ?_
   refine ⟨(), trivial, ?_⟩
   have t0 : (w 0).take zs.length = w 0 := jiZ (Nat.le_of_eq (wo 0).1)
   refine Wk.pub 200 ?_
   (conv => whnf)
   simp only [t0]
   refine Wk.pub 21 ?_
   (conv => whnf)
   simp only [jif]
   exact V.wk
theorem jhV : type_of% @jif ∧ type_of% @tn0 ∧ type_of% @tn1 ∧ type_of% @tn2 ∧ type_of% @tn3 ∧ type_of% @xt4 := ⟨@jif, @tn0, @tn1, @tn2, @tn3, @xt4⟩
theorem list2_i {F e1 n1 : Nat} {f1 : Nat → List D} {g0 : List Int} (T : Nat → Tx) (c0 : Called Tryz.prog F (.int .i64 0 :: [.ref [.ints .i64 g0], .ref [.slf e1 n1 f1]]) (.tup [.agg [.str (T 0).1, .str (T 0).2], .int .i64 0])) (c1 : Called Tryz.prog F (.int .i64 1 :: [.ref [.ints .i64 g0], .ref [.slf e1 n1 f1]]) (.tup [.agg [.str (T 1).1, .str (T 1).2], .int .i64 0])) :
  Called Tryz.prog 82 [.int .i64 2, .fn F [] [.ref [.ints .i64 g0], .ref [.slf e1 n1 f1]]] (.tup [.slf 2 2 (fun j => List.take 2 (List.drop (j * 2) [.str (T 0).1, .str (T 0).2, .str (T 1).1, .str (T 1).2])), .int .i64 0]) := by
 refine V.en tbOk Tryz.func82 ?_
 refine V.r0 @jif ?_
 refine jac (0) (fun k => k ≤ 2) (fun k => 2 - k) (fun k => [(14, .int .i64 k)]) (fun k => [(11, .box (preD (2 * k) [.str (T 0).1, .str (T 0).2, .str (T 1).1, .str (T 1).2]))]) ?_ ?_ ?_
 ·exact V.wk
 ·exact jib _
 intro k hk
 have hk4 : k = 0 ∨ k = 1 ∨ k = 2 := by omega
 rcases hk4 with e | e | e
 all_goals subst e
 ·simp only [k0]
  refine V.r1 jhV c0 ?_
  exact ⟨1, by omega, by omega, V.wk⟩
 ·simp only [k1]
  refine V.r1 jhV c1 ?_
  exact ⟨2, by omega, by omega, V.wk⟩
 ·simp only [k2]
  refine V.r0 @jif ?_
  exact Fin.of rfl
theorem spr1_20 (st : List Int) (H : Nat → Tx) (g0 g1 m0 m1 : List UInt8) (hl : st.length = 2) (ig : Called Tryz.prog 86 [.int .i64 (st.getD 0 0)] (.agg [.str g0, .str g1])) (mu : Called Tryz.prog 85 [.agg [.str g0, .str g1], .agg [.str (H 0).1, .str (H 0).2]] (.tup [.agg [.str m0, .str m1], .int .i64 0])) :
  Called Tryz.prog 98 [.int .i64 0, .ref [.ints .i64 st], .ref [.slf 2 2 (fun j => List.take 2 (List.drop (j * 2) [.str (H 0).1, .str (H 0).2, .str (H 1).1, .str (H 1).2]))]] (.tup [.agg [.str m0, .str m1], .int .i64 0]) := by
 refine V.en tbOk Tryz.func98 ?_
 refine V.r0 jhV ?_
 refine ⟨(V.tk [0,1,2,3,5,6,7,8] (V.e1 4 [8,7,6,5] (V.e1 9 [] (V.tk [10,11] (V.e1 12 [] (V.tk [13] .done)))))), [], V.pok, ?_⟩
 refine jab [(5, .int .i64 0)] [(4, .box [.str m0, .str m1])] ?_ ?_
 ·exact V.d2 jhV ig mu
 refine V.r0 @jif ?_
 exact Fin.of rfl
theorem spr1_21 (st : List Int) (H : Nat → Tx) (g0 g1 m0 m1 : List UInt8) (hl : st.length = 2) (ig : Called Tryz.prog 86 [.int .i64 (st.getD 1 0)] (.agg [.str g0, .str g1])) (mu : Called Tryz.prog 85 [.agg [.str g0, .str g1], .agg [.str (H 1).1, .str (H 1).2]] (.tup [.agg [.str m0, .str m1], .int .i64 0])) :
  Called Tryz.prog 98 [.int .i64 1, .ref [.ints .i64 st], .ref [.slf 2 2 (fun j => List.take 2 (List.drop (j * 2) [.str (H 0).1, .str (H 0).2, .str (H 1).1, .str (H 1).2]))]] (.tup [.agg [.str m0, .str m1], .int .i64 0]) := by
 refine V.en tbOk Tryz.func98 ?_
 refine V.r0 jhV ?_
 refine ⟨(V.tk [0,1,2,3,5,6,7,8] (V.e1 4 [8,7,6,5] (V.e1 9 [] (V.tk [10,11] (V.e1 12 [] (V.tk [13] .done)))))), [], V.pok, ?_⟩
 refine jab [(5, .int .i64 0)] [(4, .box [.str m0, .str m1])] ?_ ?_
 ·exact V.d2 jhV ig mu
 refine V.r0 @jif ?_
 exact Fin.of rfl
theorem spr_2 (st : List Int) (H M : Nat → Tx) (u0 u1 f0 f1 y0 y1 : List UInt8) (hl : st.length = 2) (li : Called Tryz.prog 82 [.int .i64 2, .fn 98 [] [.ref [.ints .i64 st], .ref [.slf 2 2 (fun j => List.take 2 (List.drop (j * 2) [.str (H 0).1, .str (H 0).2, .str (H 1).1, .str (H 1).2]))]]] (.tup [.slf 2 2 (fun j => List.take 2 (List.drop (j * 2) [.str (M 0).1, .str (M 0).2, .str (M 1).1, .str (M 1).2])), .int .i64 0]))
  (su : Called Tryz.prog 87 [.slf 2 2 (fun j => List.take 2 (List.drop (j * 2) [.str (M 0).1, .str (M 0).2, .str (M 1).1, .str (M 1).2]))] (.tup [.agg [.str u0, .str u1], .int .i64 0])) (fu : Called Tryz.prog 86 [.int .i64 65535] (.agg [.str f0, .str f1])) (dv : Called Tryz.prog 88 [.agg [.str u0, .str u1], .agg [.str f0, .str f1]] (.tup [.agg [.str y0, .str y1], .int .i64 0])) :
  Called Tryz.prog 60 [.ints .i64 st, .slf 2 2 (fun j => List.take 2 (List.drop (j * 2) [.str (H 0).1, .str (H 0).2, .str (H 1).1, .str (H 1).2]))] (.tup [.agg [.str y0, .str y1], .int .i64 0]) := by
 have hi : ((st.length : Nat) : Int) = 2 := by rw [hl]; rfl
 refine V.en tbOk Tryz.func60 ?_
 refine V.r2 (V.a2 @jif @hi) li su ?_
 refine ⟨(V.tk [0] (V.e1 1 [0] (V.e1 2 [] (V.tk [3,4] (V.e1 5 [] (V.tk [6] .done)))))), [], V.pok, ?_⟩
 refine jab [(5, .int .i64 0)] [(4, .box [.str y0, .str y1])] ?_ ?_
 ·exact V.d2 @jif fu dv
 refine V.r0 @jif ?_
 exact Fin.of rfl
theorem confined_t (p0 p1 p2 p3 q0 q1 q2 q3 s0 s1 a0 a1 : List UInt8) (T : Nat → Int × Int) (h o : Int × Int) (sb : Called Tryz.prog 99 [.agg [.str p0, .str q0], .agg [.str p1, .str q1]] (.tup [.agg [.str s0, .str s1], .int .i64 0])) (ad : Called Tryz.prog 100 [.agg [.str p0, .str q0], .agg [.str p1, .str q1]] (.tup [.agg [.str a0, .str a1], .int .i64 0]))
  (li : Called Tryz.prog 55 [.int .i64 4, .fn 101 [] [.ref [.str s0, .str s1], .ref [.str a0, .str a1], .ref [.str p2, .str q2], .ref [.str p3, .str q3]]] (.tup [.slf 2 4 (fun j => List.take 2 (List.drop (j * 2) [.int .i64 (T 0).1, .int .i64 (T 0).2, .int .i64 (T 1).1, .int .i64 (T 1).2, .int .i64 (T 2).1, .int .i64 (T 2).2, .int .i64 (T 3).1, .int .i64 (T 3).2])), .int .i64 0]))
  (hu : Called Tryz.prog 103 [.agg [.int .i64 (T 0).1, .int .i64 (T 0).2], .agg [.int .i64 (T 1).1, .int .i64 (T 1).2]] (.tup [.agg [.int .i64 h.1, .int .i64 h.2], .int .i64 0])) (ob : Called Tryz.prog 104 [.int .i64 (max h.1 (T 2).1), .int .i64 (min h.2 (T 3).2)] (.tup [.agg [.int .i64 o.1, .int .i64 o.2], .int .i64 0])) :
  Called Tryz.prog 61 [.agg [.str p0, .str q0], .agg [.str p1, .str q1], .agg [.str p2, .str q2], .agg [.str p3, .str q3]] (.tup [.agg [.int .i64 o.1, .int .i64 o.2], .int .i64 0]) := by
 refine V.en tbOk Tryz.func61 ?_
 refine V.r3 jhV sb ad li ?_
 refine ⟨(V.tk [0,1,2,3,4,5] (.ev (.cons 6 [] (V.tk [7,8,9] (V.e1 10 [9,8,7] (V.e1 11 [9] (V.tk [12] .done)))) (.cons 10 [5,4,3,2,1,0] (V.e1 6 [] (V.tk [7,8,9] (V.e1 11 [9] (V.tk [12] .done)))) .nil)))), [], V.pok, ?_⟩
 refine jab [(14, .box 14 0), (11, .int .i64 0)] [(14, .box [.int .i64 h.1, .int .i64 h.2])] ?_ ?_
 ·exact V.d1 jhV hu
 refine V.r0 jhV ?_
 refine ⟨(V.tk [0,1,2,3,4,5,6,7,8,9,10,11,12,13] (V.e1 14 [] (V.tk [15,16] (V.e1 17 [] (V.tk [18] .done))))), [], V.pok, ?_⟩
 refine jab [(9, .int .i64 0)] [(8, .box [.int .i64 o.1, .int .i64 o.2])] ?_ ?_
 ·exact V.d1 jhV ob
 refine V.r0 @jif ?_
 exact Fin.of rfl
theorem bands2_210 (T : Nat → List Int) (H Y : Nat → Tx) (lo hi : List Int) (d0 d1 l0 l1 h0 h1 : List UInt8) (b : Int × Int) (hlo : lo.length = 1) (hhi : hi.length = 1) (sp : Called Tryz.prog 60 [.ints .i64 (T 0), .slf 2 2 (fun j => List.take 2 (List.drop (j * 2) [.str (H 0).1, .str (H 0).2, .str (H 1).1, .str (H 1).2]))] (.tup [.agg [.str d0, .str d1], .int .i64 0])) (o1 : Called Tryz.prog 58 [.int .i64 (lo.getD 0 0), .int .i64 65535] (.agg [.str l0, .str l1])) (o2 : Called Tryz.prog 58 [.int .i64 (hi.getD 0 0), .int .i64 65535] (.agg [.str h0, .str h1]))
  (cf : Called Tryz.prog 61 [.agg [.str (Y 0).1, .str (Y 0).2], .agg [.str d0, .str d1], .agg [.str l0, .str l1], .agg [.str h0, .str h1]] (.tup [.agg [.int .i64 b.1, .int .i64 b.2], .int .i64 0])) :
  Called Tryz.prog 59 (.int .i64 0 :: [.ref [.slf 1 1 (fun j => List.take 1 (List.drop (j * 1) [.ints .i64 (T 0)]))], .ref [.slf 2 2 (fun j => List.take 2 (List.drop (j * 2) [.str (H 0).1, .str (H 0).2, .str (H 1).1, .str (H 1).2]))], .ref [.slf 2 1 (fun j => List.take 2 (List.drop (j * 2) [.str (Y 0).1, .str (Y 0).2]))], .ref [.ints .i64 lo], .ref [.ints .i64 hi]]) (.tup [.agg [.int .i64 b.1, .int .i64 b.2], .int .i64 0]) := by
 refine V.en tbOk Tryz.func59 ?_
 refine V.r0 jhV ?_
 refine ⟨(V.tk [0,1,2,3,4] (.ev (.cons 5 [] (V.tk [6,7,8] (V.e1 9 [8,7,6] (V.e1 10 [8] (V.tk [11] .done)))) (.cons 9 [4,3,2,1,0] (V.e1 5 [] (V.tk [6,7,8] (V.e1 10 [8] (V.tk [11] .done)))) .nil)))), [], V.pok, ?_⟩
 refine jab [(9, .box 9 0), (10, .int .i64 0)] [(9, .box [.str d0, .str d1])] ?_ ?_
 ·exact V.d1 jhV sp
 refine V.r0 jhV ?_
 refine ⟨(V.tk [0,1,2,3,4,5,6,7,8,10,11,12,13] (V.e1 9 [13,12,11,10,4,3,2,1,0] (V.e1 14 [4,3,2,1,0] (V.e1 15 [] (V.tk [16,17] (V.e1 18 [] (V.tk [19] .done))))))), [], V.pok, ?_⟩
 refine jab [(8, .int .i64 0)] [(7, .box [.int .i64 b.1, .int .i64 b.2])] ?_ ?_
 ·exact V.d3 jhV o1 o2 cf
 refine V.r0 @jif ?_
 exact Fin.of rfl
theorem jh2 : type_of% @jif ∧ type_of% @tn0 ∧ type_of% @tn1 ∧ type_of% @tn2 ∧ type_of% @tn3 ∧ type_of% @xt4 := ⟨@jif, @tn0, @tn1, @tn2, @tn3, @xt4⟩
theorem bands2_t (zs data lo hi : List Int) (out : Int) (X I : Nat → Int × Int) (MD HV : Nat → Tx) (o e o2 : Nat) (Y B S : Nat → List D) (hl : zs.length = 2) (hI : ∀ i, i < 2 → (0 ≤ (I i).1 ∧ (I i).1 ≤ 1000000000000) ∧ (0 ≤ (I i).2 ∧ (I i).2 ≤ 1000000000000)) (gr : Called Tryz.prog 25 [.agg [.ints .i64 zs, .int .i64 out, .ints .i64 data]] (.tup [.ints .i64 lo, .ints .i64 hi, .int .i64 0]))
  (li : Called Tryz.prog 55 [.int .i64 2, .fn 56 [] [.ref [.slf 2 2 (fun j => List.take 2 (List.drop (j * 2) [.int .i64 (X 0).1, .int .i64 (X 0).2, .int .i64 (X 1).1, .int .i64 (X 1).2]))]]] (.tup [.slf 2 2 (fun j => List.take 2 (List.drop (j * 2) [.int .i64 (I 0).1, .int .i64 (I 0).2, .int .i64 (I 1).1, .int .i64 (I 1).2])), .int .i64 0]))
  (om : ∀ i, i < 2 → Called Tryz.prog 58 [.int .i64 ((I i).1 + (I i).2), .int .i64 2000000000000] (.agg [.str (MD i).1, .str (MD i).2])) (oh : ∀ i, i < 2 → Called Tryz.prog 58 [.int .i64 ((I i).2 - (I i).1), .int .i64 2000000000000] (.agg [.str (HV i).1, .str (HV i).2]))
  (ev : Called Tryz.prog 15 [.agg [.ints .i64 zs, .int .i64 out, .ints .i64 data], .slf 2 2 (fun j => List.take 2 (List.drop (j * 2) [.str (MD 0).1, .str (MD 0).2, .str (MD 1).1, .str (MD 1).2]))] (.tup [.slf 2 o Y, .int .i64 0])) (st : Called Tryz.prog 32 [.agg [.ints .i64 zs, .int .i64 out, .ints .i64 data]] (.tup [.slf 1 o2 S, .int .i64 0]))
  (l2 : Called Tryz.prog 55 [.int .i64 out, .fn 59 [] [.ref [.slf 1 o2 S], .ref [.slf 2 2 (fun j => List.take 2 (List.drop (j * 2) [.str (HV 0).1, .str (HV 0).2, .str (HV 1).1, .str (HV 1).2]))], .ref [.slf 2 o Y], .ref [.ints .i64 lo], .ref [.ints .i64 hi]]] (.tup [.slf 2 e B, .int .i64 0])) :
  Called Tryz.prog 29 [.agg [.ints .i64 zs, .int .i64 out, .ints .i64 data], .slf 2 2 (fun j => List.take 2 (List.drop (j * 2) [.int .i64 (X 0).1, .int .i64 (X 0).2, .int .i64 (X 1).1, .int .i64 (X 1).2]))] (.tup [.slf 2 e B, .int .i64 0]) := by
 have hz : ((zs.length : Nat) : Int) = 2 := by rw [hl]; rfl
 refine V.en tbOk Tryz.func29 ?_
 refine V.r1 jh2 gr ?_
 refine Cnd.split (CondB.mk (fun h => absurd h (by rw [hl]; decide)) (fun _ => ?_))
 refine V.r1 jh2 li ?_
 refine jhj (β := Unit) 0 (fun _ => True) (fun _ => [(46, .any), (49, .any)]) (fun _ => [(43, .box [.str (MD 0).1, .str (MD 0).2, .str (MD 1).1, .str (MD 1).2]), (46, .gone), (11, .box [.slf 2 2 (fun j => List.take 2 (List.drop (j * 2) [.str (HV 0).1, .str (HV 0).2, .str (HV 1).1, .str (HV 1).2]))])]) ?_ ?_
 rotate_left
 ·intro _ _
  refine V.r3 jh2 ev st l2 ?_
  exact Fin.of rfl
 refine jac (0) (fun k => k ≤ 2) (fun k => 2 - k) (fun k => [(49, .int .i64 k)]) (fun k => [(43, .box (preD (2 * k) [.str (MD 0).1, .str (MD 0).2, .str (MD 1).1, .str (MD 1).2])), (46, .box (preD (2 * k) [.str (HV 0).1, .str (HV 0).2, .str (HV 1).1, .str (HV 1).2]))]) ?_ ?_ ?_
 ·exact V.wk
 ·exact jib _
 intro k hk
 have hk4 : k = 0 ∨ k = 1 ∨ k = 2 := by omega
 rcases hk4 with e1 | e1 | e1
 all_goals subst e1
 ·simp only [k0]
  have c1 := om 0 (by omega)
  have c2 := oh 0 (by omega)
  have hh := hI 0 (by omega)
  refine V.r1 jh2 c1 ?_
  refine ⟨(V.tk [0,1,2,3,4,5,6] (V.e1 7 [1,0] (V.tk [8] (V.e1 9 [] .done)))), [], V.pok, ?_⟩
  refine jab [] [(46, .box (preD (2 * 1) [.str (HV 0).1, .str (HV 0).2, .str (HV 1).1, .str (HV 1).2]))] ?_ ?_
  ·exact V.d1 jh2 c2
  refine V.r0 jh2 ?_
  exact ⟨1, by omega, by omega, V.wk⟩
 ·simp only [k1]
  have c1 := om 1 (by omega)
  have c2 := oh 1 (by omega)
  have hh := hI 1 (by omega)
  refine V.r1 jh2 c1 ?_
  refine ⟨(V.tk [0,1,2,3,4,5,6] (V.e1 7 [1,0] (V.tk [8] (V.e1 9 [] .done)))), [], V.pok, ?_⟩
  refine jab [] [(46, .box (preD (2 * 2) [.str (HV 0).1, .str (HV 0).2, .str (HV 1).1, .str (HV 1).2]))] ?_ ?_
  ·exact V.d1 jh2 c2
  refine V.r0 jh2 ?_
  exact ⟨2, by omega, by omega, V.wk⟩
 ·simp only [k2]
  refine V.r0 jh2 ?_
  refine ⟨(), trivial, ?_⟩
  refine Wk.pub 46 ?_
  (conv => whnf)
  simp only [jif]
  exact V.wk
def confB (y d l h : Rat) : Int × Int := (max (flU (y - d)) (flU l), min (clU (y + d)) (clU h))
theorem flU_bd {x : Rat} (h : -100000 ≤ x ∧ x ≤ 100000) : -100000000000000000 ≤ flU x ∧ flU x ≤ clU x ∧ clU x ≤ 100000000000000000 :=
 ⟨jfE.2 (by rw [show ((-100000000000000000 : Int) : Rat) = -100000 * 1000000000000 from by decide +kernel]; grind), fl_cl Rat.le_refl, jfI.2 (by rw [show ((100000000000000000 : Int) : Rat) = 100000 * 1000000000000 from by decide +kernel]; grind)⟩
theorem hull_q {p q p2 q2 : Int} (h1 : -100000000000000000 ≤ p ∧ p ≤ q ∧ q ≤ 100000000000000000) (h2 : -100000000000000000 ≤ p2 ∧ p2 ≤ q2 ∧ q2 ≤ 100000000000000000) : Called Tryz.prog 103 [.agg [.int .i64 p, .int .i64 q], .agg [.int .i64 p2, .int .i64 q2]] (.tup [.agg [.int .i64 (min p p2), .int .i64 (max q q2)], .int .i64 0]) := by
 have c := hull_b p q p2 q2
 have e : (if vb p q = true ∧ vb p2 q2 = true then (if p = p2 ∧ q = q2 then (p, q, (0 : Int)) else if max q q2 < min p p2 then (0, 0, 4) else (min p p2, max q q2, 0)) else (0, 0, 30)) = (min p p2, max q q2, 0) := by
  rw [if_pos ⟨jbw.2 (by omega), jbw.2 (by omega)⟩]
  split
  ·rename_i g
   rw [g.1, g.2, Int.min_self, Int.max_self]
  ·rw [if_neg (by omega)]
 rw [e] at c
 exact c
theorem conf_q {y d l h : Rat} (fy : Fq 376 y) (fd : Fq 70 d) (fl : Fq 10 l) (fh : Fq 10 h) (d0 : 0 ≤ d ∧ d ≤ 50000) (l0 : 0 ≤ l ∧ l ≤ y) (h0 : y ≤ h ∧ h ≤ 1) :
  Called Tryz.prog 61 [frT y, frT d, frT l, frT h] (.tup [.agg [.int .i64 (confB y d l h).1, .int .i64 (confB y d l h).2], .int .i64 0]) := by
 have b0 : -100000 ≤ y - d ∧ y - d ≤ 100000 := by constructor <;> grind
 have b1 : -100000 ≤ y + d ∧ y + d ≤ 100000 := by constructor <;> grind
 have b2 : -100000 ≤ l ∧ l ≤ 100000 := by constructor <;> grind
 have b3 : -100000 ≤ h ∧ h ≤ 100000 := by constructor <;> grind
 have u0 := flU_bd b0
 have u1 := flU_bd b1
 have u2 := flU_bd b2
 have u3 := flU_bd b3
 have sb := zsub fy fd (by decide) (by decide) (by decide)
 have ad := zadd fy fd (by decide) (by decide) (by decide)
 have a0 := jes (fy.sub fd) (by decide) b0
 have a1 := jes (fy.add fd) (by decide) b1
 have a2 := jes fl (by decide) b2
 have a3 := jes fh (by decide) b3
 have m1 : flU (y - d) ≤ flU (y + d) := flU_mono (by grind)
 have m2 : clU (y - d) ≤ clU (y + d) := clU_mono (by grind)
 have m3 : flU (y - d) ≤ clU h := fl_cl (by grind)
 have m4 : flU l ≤ clU (y + d) := fl_cl (by grind)
 have m5 : flU l ≤ clU h := fl_cl (by grind)
 have m6 : flU (y - d) ≤ clU (y + d) := fl_cl (by grind)
 have hu := hull_q u0 u1
 rw [show min (flU (y - d)) (flU (y + d)) = flU (y - d) from by omega, show max (clU (y - d)) (clU (y + d)) = clU (y + d) from by omega] at hu
 have ob := of_b (max (flU (y - d)) (flU l)) (min (clU (y + d)) (clU h))
 rw [if_pos (jbw.2 (by omega))] at ob
 let T : Nat → Int × Int := fun i => match i with | 0 => (flU (y - d), clU (y - d)) | 1 => (flU (y + d), clU (y + d)) | 2 => (flU l, clU l) | _ => (flU h, clU h)
 have li := blist4b (F := 101) T (conf1_0 _ _ _ _ _ _ _ _ (T 0) a0) (conf1_1 _ _ _ _ _ _ _ _ (T 1) a1) (conf1_2 _ _ _ _ _ _ _ _ (T 2) a2) (conf1_3 _ _ _ _ _ _ _ _ (T 3) a3)
 exact confined_t _ _ _ _ _ _ _ _ _ _ _ _ T (flU (y - d), clU (y + d)) (confB y d l h) sb ad li hu ob
theorem spr_q2 {st : List Int} {H : Nat → Rat} (hs : rowOk 2 st) (hf : ∀ i, i < 2 → Fq 14 (H i)) : Called Tryz.prog 60 [.ints .i64 st, slQ (fun i => txq (H i)) 2] (.tup [frT (smF (fun i => ((st.getD i 0 : Int) : Rat) * H i) 1 / 65535), .int .i64 0]) ∧ Fq 70 (smF (fun i => ((st.getD i 0 : Int) : Rat) * H i) 1 / 65535) := by
 have w0 : Fq 6 ((st.getD 0 0 : Int) : Rat) := jaJ (by have := hs.2 0; omega) (by decide)
 have i0 := jaq (n := st.getD 0 0) (by have := hs.2 0; omega)
 have u0 := zmul w0 (hf 0 (by decide)) (by decide) (by decide) (by decide)
 have m0 := spr1_20 st (fun i => txq (H i)) _ _ _ _ hs.1 i0 u0
 have w1 : Fq 6 ((st.getD 1 0 : Int) : Rat) := jaJ (by have := hs.2 1; omega) (by decide)
 have i1 := jaq (n := st.getD 1 0) (by have := hs.2 1; omega)
 have u1 := zmul w1 (hf 1 (by decide)) (by decide) (by decide) (by decide)
 have m1 := spr1_21 st (fun i => txq (H i)) _ _ _ _ hs.1 i1 u1
 have li := list2_i (fun i => txq (((st.getD i 0 : Int) : Rat) * H i)) m0 m1
 have s0 : Fq 20 (smF (fun i => ((st.getD i 0 : Int) : Rat) * H i) 0) := w0.mul (hf 0 (by decide))
 have s1 : Fq 41 (smF (fun i => ((st.getD i 0 : Int) : Rat) * H i) 1) := s0.add (w1.mul (hf 1 (by decide)))
 have su := sum2 (fun i => txq (((st.getD i 0 : Int) : Rat) * H i)) (fun i => txq (smF (fun i => ((st.getD i 0 : Int) : Rat) * H i) i)) rfl (zadd s0 (w1.mul (hf 1 (by decide))) (by decide) (by decide) (by decide))
 have fu := jaq (n := 65535) (by omega)
 have f5 := jaJ (n := 5) (z := 65535) jaN (by decide)
 have dv := zdiv s1 f5 jbS (by decide) (by decide) (by decide)
 have fd := (s1.div f5 jbS).mono (show _ ≤ 70 by decide)
 rw [show ((65535 : Int) : Rat) = 65535 from rfl] at fu dv fd
 exact ⟨spr_2 st (fun i => txq (H i)) (fun i => txq (((st.getD i 0 : Int) : Rat) * H i)) _ _ _ _ _ _ hs.1 li su fu dv, fd⟩
end Go.Proofs.YtgjgpdceghjajaaGreatDoor
end
section
namespace Go.Proofs.YtgjgpdceghjajaaGreatDoor
open Go Go.V Go.Gr
theorem index_step {ns : List Nat} {m p n : Nat} (hn : ns[p]? = some n) (hp : p < ns.length) :
  (List.replicate (p + 1) (0 : Int) ++ (ixl ns m).drop (p + 1)).set p ((m / PR (ns.drop (p + 1)) % n : Nat) : Int) = List.replicate p 0 ++ (ixl ns m).drop p ∧ m / PR (ns.drop (p + 1)) / n = m / PR (ns.drop p) := by
 have hx := jdT ns m p n hn
 constructor
 ·rw [List.set_append_left _ _ (by simp), List.replicate_succ', List.set_append_right _ _ (by simp)]
  rw [ji2 (i := p) (by rw [jaj]; exact hp)]
  have := (jiT.1 hx).2
  rw [this]
  simp
 ·have hd : ns.drop p = n :: ns.drop (p + 1) := by
   rw [ji2 hp]
   rw [(jiT.1 hn).2]
  rw [hd, PR, Nat.div_div_eq_div_mul, jil]
theorem jee (ns : List Nat) (m : Nat) (hp : ∀ n ∈ ns, 0 < n ∧ n ≤ 1000000) (hl : ns.length ≤ 10000) (hm : m ≤ 1000000000) : Called Tryz.prog 24 [.ints .i64 (nz ns), .int .i64 m] (.ints .i64 (ixl ns m)) := by
 have hlen : (nz ns).length = ns.length := by simp [nz]
 refine V.en tbOk Tryz.func24 ?_
 refine V.r0 (V.a2 hlen @jih) ?_
 have e0 : List.replicate ns.length (0 : Int) = List.replicate ns.length 0 ++ (ixl ns m).drop ns.length := by
  rw [ji0 (by rw [jaj]; omega), List.append_nil]
 have e1 : (m : Int) = ((m / PR (ns.drop ns.length) : Nat) : Int) := by simp [PR]
 refine jac (ns.length) (fun k => k ≤ ns.length) (fun k => k) (fun k => [(1, .int .i64 ((m / PR (ns.drop k) : Nat) : Int)), (6, .int .i64 ((k : Int) - 1))]) (fun k => [(9, .arr .i64 (List.replicate k 0 ++ (ixl ns m).drop k))]) ?_ ?_ ?_
 ·rw [← e0, ← e1]
  exact V.wk
 ·exact jii _
 intro p hpl
 (conv => whnf)
 refine V.st ?_
 refine V.br (fun h => ?_) (fun h => ?_)
 ·have hp0 : 0 < p := by simp at h; omega
  obtain ⟨p, rfl⟩ : ∃ q, p = q + 1 := ⟨p - 1, by omega⟩
  have hp1 : p < ns.length := by omega
  obtain ⟨n, hn⟩ : ∃ n, ns[p]? = some n := ⟨ns[p], jiM hp1⟩
  have hn0 := hp n (jiO hn)
  have en : (nz ns).getD p 0 = n := by simp [nz, jiJ, hn]
  have e2 : (((p + 1 : Nat) : Int) - 1) = (p : Int) := by omega
  have hst := index_step (m := m) hn hp1
  have e3 : ((m / PR (ns.drop (p + 1)) : Nat) : Int) % (n : Int) = ((m / PR (ns.drop (p + 1)) % n : Nat) : Int) := by simp
  have e4 : ((m / PR (ns.drop (p + 1)) : Nat) : Int) / (n : Int) = ((m / PR (ns.drop p) : Nat) : Int) := by rw [← hst.2]; simp
  have hl2 : (List.replicate (p + 1) (0 : Int) ++ (ixl ns m).drop (p + 1)).length = ns.length := by simp [jaj]; omega
  have hl3 : m / PR (ns.drop (p + 1)) ≤ m := jiz _ _
  generalize hq : m / PR (ns.drop (p + 1)) = q at *
  refine V.r0 (V.a5 hlen e2 @en @jih @jif) ?_
  rw [e3, hst.1]
  refine V.st ?_
  rw [e4]
  exact ⟨p, by omega, by omega, V.wk⟩
 ·have hp0 : p = 0 := by simp at h; omega
  subst hp0
  (conv => whnf)
  refine V.st ?_
  have h0 : (List.replicate 0 (0 : Int) ++ (ixl ns m).drop 0) = ixl ns m := by simp
  have hli := jaj ns m
  rw [h0]
  refine Fin.of ?_
  rw [jiZ (by rw [hli]; simp)]
def mkV0 (vals : List Int) (w m k : Nat) : Int := if 0 < vals.length then vals.getD ((m * w + k) % vals.length) 0 else 0
def mkV (vals : List Int) (sm : Bool) (ns : List Nat) (w m k : Nat) : Int :=
 if sm then 60000 * (ixl ns m).getD (k % ns.length) 0 / ((nz ns).getD (k % ns.length) 0 - 1) + mkV0 vals w m k % 5000 else mkV0 vals w m k
def mkF (vals : List Int) (sm : Bool) (ns : List Nat) (w m : Nat) : List Int := (List.range w).map (mkV vals sm ns w m)
theorem getD_mem {xs : List Int} {i : Nat} (h : i < xs.length) : xs.getD i 0 ∈ xs := by
 rw [jiJ, jiM h]; simp
theorem mkV0_bd {vals : List Int} {w m k : Nat} (hv : ∀ v ∈ vals, 0 ≤ v ∧ v ≤ 65535) : 0 ≤ mkV0 vals w m k ∧ mkV0 vals w m k ≤ 65535 := by
 unfold mkV0
 split
 ·rename_i h
  exact hv _ (getD_mem (jik _ h))
 ·omega
theorem mk_sm {ns : List Nat} {m k : Nat} (h1 : 1 ≤ ns.length) (h2 : ∀ n ∈ ns, 2 ≤ n ∧ n ≤ 9) : 0 ≤ (ixl ns m).getD (k % ns.length) 0 ∧ (ixl ns m).getD (k % ns.length) 0 ≤ 8 ∧ 1 ≤ (nz ns).getD (k % ns.length) 0 - 1 ∧ (nz ns).getD (k % ns.length) 0 - 1 ≤ 8 ∧
  0 ≤ 60000 * (ixl ns m).getD (k % ns.length) 0 / ((nz ns).getD (k % ns.length) 0 - 1) ∧ 60000 * (ixl ns m).getD (k % ns.length) 0 / ((nz ns).getD (k % ns.length) 0 - 1) ≤ 60000 := by
 have hlt : k % ns.length < ns.length := jik _ (by omega)
 generalize k % ns.length = i at *
 obtain ⟨n, hn⟩ : ∃ n, ns[i]? = some n := ⟨_, jiM hlt⟩
 obtain ⟨x, hx⟩ : ∃ x, (ixl ns m)[i]? = some x := ⟨_, jiM (by rw [jaj]; exact hlt)⟩
 have hnb := h2 n (jiO hn)
 have hxb := jcs (fun n hn => by have := h2 n hn; omega) hn hx
 have e1 : (nz ns).getD i 0 = n := by simp [nz, jiJ, hn]
 have e2 : (ixl ns m).getD i 0 = x := by rw [jiJ, hx]; rfl
 rw [e1, e2]
 refine ⟨hxb.1, by omega, by omega, by omega, Int.ediv_nonneg (by omega) (by omega), ?_⟩
 exact Int.ediv_le_of_le_mul (by omega) (by omega)
theorem mkV_bd {vals : List Int} {sm : Bool} {ns : List Nat} {w m k : Nat} (hv : ∀ v ∈ vals, 0 ≤ v ∧ v ≤ 65535) (h1 : 1 ≤ ns.length) (h2 : ∀ n ∈ ns, 2 ≤ n ∧ n ≤ 9) : 0 ≤ mkV vals sm ns w m k ∧ mkV vals sm ns w m k ≤ 65535 := by
 have h3 := mkV0_bd (w := w) (m := m) (k := k) hv
 have h4 := mk_sm (m := m) (k := k) h1 h2
 unfold mkV
 split <;> omega
theorem made_c (ds : List Int) (o : Int) (vals : List Int) (sm : Bool) (ns : List Nat) (w : Nat) (hv : ∀ v ∈ vals, 0 ≤ v ∧ v ≤ 65535) (hvl : vals.length ≤ 281474976710656) (h1 : 1 ≤ ns.length ∧ ns.length ≤ 4) (h2 : ∀ n ∈ ns, 2 ≤ n ∧ n ≤ 9) (hw : 1 ≤ w ∧ w ≤ 4) :
  Called Tryz.prog 38 [.agg [.ints .u8 ds, .int .u8 o, .ints .u16 vals, .bool sm], .ints .i64 (nz ns), .int .i64 w] (gridD (nz ns) w (flat ns (mkF vals sm ns w) (PR ns))) := by
 have hlen : (nz ns).length = ns.length := by simp [nz]
 have hPR := PR_le h1.2 h2
 have hprod : prod (nz ns) = (PR ns : Nat) := jdL ns
 have hpz : ∀ k, InR .i64 (prod ((nz ns).take k)) := fun k => (jf3 (size := nz ns) (by
  rw [jiI]
  intro x hx
  obtain ⟨n, hn, rfl⟩ := List.mem_map.1 hx
  have := h2 n hn
  simp; omega) k).2.2 (by omega)
 have hfl : ∀ j, (mkF vals sm ns w j).length ≤ 4 := fun j => by simp [mkF]; omega
 refine V.en tbOk Tryz.func38 ?_
 refine V.r0 @jif ?_
 refine Lp.ghostBox 72 7 2 .i64 (by decide) (by decide) ?_
 (conv => whnf)
 refine jac (0) (fun k => k ≤ PR ns) (fun k => PR ns - k) (fun k => [(8, .int .i64 k)]) (fun k => [(7, .box [.ints .i64 (nz ns), .int .i64 w, .osl 72 0 (flat ns (mkF vals sm ns w) k).length]), (72, .arr .i64 (flat ns (mkF vals sm ns w) k))]) ?_ ?_ ?_
 ·exact V.wk
 ·exact jib _
 intro m hm
 have hfm := jeo (ns := ns) (m := m) (fun j _ => hfl j)
 (conv => whnf)
 (try simp only [hprod])
 repeat ((first | refine V.s1 ?_ | ((try ((with_reducible refine .ext ?_); (conv => whnf); (try simp only [hprod]))); (with_reducible refine jaa (r := ?_) ?_ ?_); rotate_left; (focus (first | exact (points_c _ (fun k _ => hpz k) (by omega)))); (conv => whnf))); (try simp only [hprod]))
 refine V.br (fun hq => ?_) (fun hq => ?_)
 ·rw [decide_eq_true_eq] at hq
  have hm1 : m < PR ns := by omega
  (conv => whnf)
  refine V.st ?_
  repeat ((try ((with_reducible refine .ext ?_); (conv => whnf))); (with_reducible refine jaa (r := ?_) ?_ ?_); rotate_left; (focus (first | exact (jee ns m (fun n hn => by have := h2 n hn; omega) (by omega) (by omega)))); (conv => whnf); refine V.st ?_)
  refine jac (0) (fun k => k ≤ w) (fun k => w - k) (fun k => [(10, .int .i64 k)]) (fun k => [(7, .box [.ints .i64 (nz ns), .int .i64 w, .osl 72 0 (flat ns (mkF vals sm ns w) m ++ (List.range k).map (mkV vals sm ns w m)).length]), (72, .arr .i64 (flat ns (mkF vals sm ns w) m ++ (List.range k).map (mkV vals sm ns w m)))]) ?_ ?_ ?_
  ·simp only [List.range_zero, List.map_nil, List.append_nil]
   exact V.wk
  ·exact jib _
  intro k hk
  have hb0 := mkV0_bd (w := w) (m := m) (k := k) hv
  have hbs := mk_sm (m := m) (k := k) h1.1 h2
  have hmw : (m : Int) * w = ((m * w : Nat) : Int) := by simp
  have hmw2 : m * w ≤ 6561 * 4 := Nat.mul_le_mul (by omega) (by omega)
  (conv => whnf)
  refine V.st ?_
  refine V.br (fun hq2 => ?_) (fun hq2 => ?_)
  ·rw [decide_eq_true_eq] at hq2
   (conv => whnf)
   refine V.st ?_
   refine ja7 [(11, .int .i64 (mkV0 vals w m k))] [] (CondB.mk (fun hq3 => ?_) (fun hq3 => ?_)) ?_
   ·rw [decide_eq_true_eq] at hq3
    have hvp : 0 < vals.length := by omega
    have e1 : ((((m * w : Nat) : Int) + k) % vals.length).toNat = (m * w + k) % vals.length := by
     rw [← Int.natCast_add, ← Int.natCast_emod, jih]
    have e2 : vals.getD ((m * w + k) % vals.length) 0 = mkV0 vals w m k := by unfold mkV0; rw [if_pos hvp]
    have e3 := jic (((m * w : Nat) : Int) + k) (b := vals.length) (by omega)
    have e4 := jiA (((m * w : Nat) : Int) + k) (b := vals.length) (by omega)
    (conv => whnf)
    refine V.st ?_
    refine ⟨(V.tk [0,1,2,3,4,5,6,7,8,9,10,11,12,13,14] .done), [], V.pok, .go (jad ?_)⟩
    refine V.r0 (V.a3 hmw @e1 e2) ?_
    exact V.wk
   ·rw [decide_eq_false_iff_not] at hq3
    have e2 : mkV0 vals w m k = 0 := by unfold mkV0; rw [if_neg (by omega)]
    rw [e2]
    (conv => whnf)
    refine V.st ?_
    exact V.wk
   (conv => whnf)
   refine V.st ?_
   refine ja7 [(11, .int .i64 (mkV vals sm ns w m k))] [] (CondB.mk (fun hq3 => ?_) (fun hq3 => ?_)) ?_
   ·have hli := jaj ns m
    have hki : (k : Int) % (ns.length : Int) = ((k % ns.length : Nat) : Int) := by simp
    have hkl : k % ns.length < ns.length := jik _ (by omega)
    have e2 : mkV vals sm ns w m k = 60000 * (ixl ns m).getD (k % ns.length) 0 / ((nz ns).getD (k % ns.length) 0 - 1) + mkV0 vals w m k % 5000 := by unfold mkV; rw [hq3]; rfl
    rw [e2]
    generalize mkV0 vals w m k = v0 at *
    generalize hgi : k % ns.length = i at *
    refine V.r0 (V.a3 hlen hki @jih) ?_
    refine ⟨(V.tk [0,1,2,3,4,5,6,7,8,9,10,11,12,13] (V.e1 14 [] .done)), [], V.pok, .go (jad ?_)⟩
    refine V.r0 (V.a3 hlen hki @jih) ?_
    exact V.wk
   ·have e2 : mkV vals sm ns w m k = mkV0 vals w m k := by unfold mkV; rw [hq3]; rfl
    rw [e2]
    (conv => whnf)
    refine V.st ?_
    exact V.wk
   have hst : flat ns (mkF vals sm ns w) m ++ (List.range k).map (mkV vals sm ns w m) ++ [mkV vals sm ns w m k] = flat ns (mkF vals sm ns w) m ++ (List.range (k + 1)).map (mkV vals sm ns w m) := by
    rw [List.range_succ]; simp
   have hst2 : (flat ns (mkF vals sm ns w) m ++ (List.range k).map (mkV vals sm ns w m)).length + 1 = (flat ns (mkF vals sm ns w) m ++ (List.range (k + 1)).map (mkV vals sm ns w m)).length := by rw [← hst]; simp; omega
   (conv => whnf)
   refine V.st ?_
   try refine And.intro (fun _ => ⟨rfl, by simp; omega⟩) ?_
   refine V.r0 (V.a8 @jif @ji3 @List.take_succ_cons.{0} @List.take_zero.{0} @jiY @List.length_nil.{0} hst hst2) ?_
   exact ⟨k + 1, by omega, by omega, V.wk⟩
  ·rw [decide_eq_false_iff_not] at hq2
   have hkw : k = w := by omega
   subst hkw
   have hfs : flat ns (mkF vals sm ns k) m ++ (List.range k).map (mkV vals sm ns k m) = flat ns (mkF vals sm ns k) (m + 1) := (ja3 _ _ _).symm
   rw [hfs]
   (conv => whnf)
   refine V.st ?_
   exact ⟨m + 1, by omega, by omega, V.wk⟩
 ·rw [decide_eq_false_iff_not] at hq
  have hm1 : m = PR ns := by omega
  subst hm1
  (conv => whnf)
  refine V.st ?_
  rw [jiZ (jii _)]
  exact Fin.of rfl
end Go.Proofs.YtgjgpdceghjajaaGreatDoor
end
