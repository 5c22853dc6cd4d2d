/- Laws of a small interpreter over plain values, part 8. No condition. -/
import Derived.Test.YtgjgpdceghjajaaGreatDoorSimplexRefinedH7
set_option linter.unusedSimpArgs false
set_option linter.unusedVariables false
set_option maxHeartbeats 8000000
set_option maxRecDepth 100000
section
namespace Go.V
open Go Go.RowKit
section
variable {P : Program} {tb : Tb} {N : Nat} {cx : Cx} {Q : Exit → Act → World → Prop} {o : Oper} {L : Sl} {H : Hp} {K : K2}
def catR : List D → List D → (List D → Prop) → Prop
 | [], b, K => K b
 | d :: ds, b, K => catR ds b fun r => K (d :: r)
def catF (e : Nat) (f : Nat → List D) : Nat → List D → (List D → Prop) → Prop
 | 0, acc, K => K acc
 | n + 1, acc, K => catR (f n) acc fun r => match Nat.beq (r.length) (acc.length + e) with | true => catF e f n r K | false => False
theorem catR_el : ∀ {a b : List D} {K : List D → Prop}, catR a b K → K (a ++ b)
 | [], _, _, h => h
 | _ :: ds, _, _, h => catR_el (a := ds) h
def catL (f : Nat → List D) : Nat → List D
 | 0 => []
 | n + 1 => catL f n ++ f n
theorem catF_el {e : Nat} {f : Nat → List D} : ∀ {n : Nat} {acc : List D} {K : List D → Prop}, catF e f n acc K → K (catL f n ++ acc) ∧ ∀ j, j < n → (f j).length = e
 | 0, _, _, h => ⟨h, fun j hj => absurd hj (Nat.not_lt_zero _)⟩
 | n + 1, acc, K, h => by
  have h := catR_el h
  split at h
  case h_2 => exact h.elim
  rename_i hb
  have hl := jae hb
  rw [jiP] at hl
  obtain ⟨h1, h2⟩ := catF_el h
  refine ⟨by rw [catL, jiR]; exact h1, fun j hj => ?_⟩
  rcases jip j n with g | g
  ·exact h2 j g
  ·have : j = n := by omega
   subst this; omega
theorem jfJ {e : Nat} {f : Nat → List D} {h : Pub} {b o : Nat} : ∀ {n : Nat},
  (∀ j, j < n → ∃ vs, DenL Env.dummy h (f j) vs ∧ vs.length = e ∧ (∀ v ∈ vs, v.oneCell' = true) ∧ ∀ (i : Nat) v, vs[i]? = some v → h b (o + j * e + i) = some v) →
  ∃ us, us.length = n * e ∧ DenL Env.dummy h (catL f n) us ∧ (∀ u ∈ us, u.oneCell' = true) ∧ ∀ (i : Nat) u, us[i]? = some u → h b (o + i) = some u
 | 0, _ => ⟨[], by simp, by simp [catL, DenL], by simp, by simp⟩
 | n + 1, H => by
  obtain ⟨us, h1, h2, h3, h4⟩ := jfJ (n := n) fun j hj => H j (by omega)
  obtain ⟨vs, g1, g2, g3, g4⟩ := H n (by omega)
  refine ⟨us ++ vs, by rw [jiP, h1, g2, Nat.add_mul, Nat.one_mul], h2.append g1, fun u hu => ?_, fun i u hu => ?_⟩
  ·rcases List.mem_append.1 hu with g | g
   ·exact h3 u g
   ·exact g3 u g
  ·rcases jip i us.length with g | g
   ·rw [jiS g] at hu; exact h4 i u hu
   ·rw [List.getElem?_append_right g] at hu
    have := g4 _ _ hu
    rw [h1] at this g
    have e1 : o + n * e + (i - n * e) = o + i := by omega
    rwa [e1] at this
def bsrcK (es : Nat) (H : Hp) (d : D) (K : List D → Nat → Prop) : Prop := match d with
 | .bsl j off n e' => match Nat.beq off 0, Nat.beq e' es, Nat.beq n 0 with
  | true, true, false => jbd H j fun c => match c with
   | .box ds => match Nat.beq ds.length (n * es) with | true => K ds n | false => False
   | _ => False
  | _, _, _ => False
 | .slf e' n f => match Nat.beq e' es, Nat.beq n 0 with
  | true, false => catF es f n [] fun ds => match D.pureL ds with | true => K ds n | false => False
  | _, _ => False
 | _ => False
theorem bsrc_el {es : Nat} {H : Hp} {d : D} {K : List D → Nat → Prop} (hh : bsrcK es H d K) :
  ∃ ds n, K ds n ∧ 0 < n ∧ ∀ E h a (w : World) L, Facts E h a w L H → ∀ v, Den E h d v → ∃ ad cap us, v = .slice (some ad) n cap ∧ n ≤ 281474976710656 ∧ us.length = n * es ∧ DenL E h ds us ∧ (∀ u ∈ us, u.oneCell' = true) ∧
   ∀ (j : Nat) u, us[j]? = some u → w.cell? (ad.add j) = some u := by
 unfold bsrcK at hh
 split at hh
 case h_3 => exact hh.elim
 case h_2 =>
  rename_i e' n f
  split at hh
  case h_2 => exact hh.elim
  rename_i hb1 hb2
  have h1 := jae hb1
  subst h1
  have hn : 0 < n := by
   rcases jij n with e | e
   ·rw [e] at hb2; simp at hb2
   ·exact e
  obtain ⟨hh, hlen⟩ := catF_el hh
  rw [List.append_nil] at hh
  cases hp : D.pureL (catL f n) with
  | false => rw [hp] at hh; exact hh.elim
  | true =>
   rw [hp] at hh
   refine ⟨catL f n, n, hh, hn, fun E h a w L F v hv => ?_⟩
   simp only [Den] at hv
   obtain ⟨ad, cap, rfl, h2, h3, h4⟩ := hv
   cases ad with
   | none => simp only at h4; omega
   | some ad =>
    simp only at h4
    obtain ⟨us, g1, g2, g3, g4⟩ := jfJ h4.2
    exact ⟨ad, cap, us, rfl, h3, g1, DenL.pure hp g2, g3, fun q u hu => by rw [jbK h4.1]; exact F.agree _ _ _ (g4 q u hu)⟩
 rename_i j off n e'
 split at hh
 case h_2 => exact hh.elim
 rename_i hb1 hb2 hb3
 have h1 := jae hb1
 have h2 := jae hb2
 subst h1 h2
 have hn : 0 < n := by
  rcases jij n with e | e
  ·rw [e] at hb3; simp at hb3
  ·exact e
 have hy' := jaA hh; clear hh; obtain ⟨c, hc, hh⟩ := hy'
 split at hh
 case h_2 => exact hh.elim
 rename_i ds
 cases hl : Nat.beq ds.length (n * e') with
 | false => rw [hl] at hh; exact hh.elim
 | true =>
  rw [hl] at hh
  have hl := jae hl
  refine ⟨ds, n, hh, hn, fun E h a w L F v hv => ?_⟩
  simp only [Den] at hv
  obtain ⟨hreal, cap, rfl, h3, h4, _⟩ := hv
  obtain ⟨_, vs, rest, T, hb, hd, ho, _⟩ := F.chunk _ _ hc
  exact ⟨_, cap, vs, rfl, h4, by rw [hd.length, hl], hd, ho, fun q u hu => by rw [jaS, jif]; exact jdE hb hu⟩
def jet (N off' d : Nat) (ye : Ty) (s x : Operand) (L : Sl) (H : Hp) (K : K2) : Prop := match Nat.ble ye.bytes 4096, Nat.beq ye.size 0 with
 | true, false => rdg True L s fun ds => match ds with
  | .nil => rdg True L x fun dx => bsrcK ye.size H dx fun es n => match Nat.ble n 1000000, D.freeL (off' + d) es with
   | true, true => ltK d N (newK off' d (.bsl (off' + d) 0 n ye.size) (.box es) L H K)
   | _, _ => False
  | .bsl i off len e' => match Nat.beq off 0, Nat.beq e' ye.size with
   | true, true => jbd H i fun c => match c with
    | .box ds0 => match Nat.beq ds0.length (len * ye.size) with
     | true => rdg True L x fun dx => bsrcK ye.size H dx fun es n => match Nat.ble (len + n) 1000000, D.freeL (off' + d) (ds0 ++ es) with
      | true, true => ltK d N (newK off' d (.bsl (off' + d) 0 (len + n) ye.size) (.box (ds0 ++ es)) L ((i, .gone) :: H) K)
      | _, _ => False
     | false => False
    | _ => False
   | _, _ => False
  | _ => False
 | _, _ => False
def appendK (tb : Tb) (N off' : Nat) (d t : Nat) (s x : Operand) (L : Sl) (H : Hp) (K : K2) : Prop := tyK tb t fun y => match y.kind with
 | .slice e => tyK tb e fun ye => match ye.kind with
  | .int k => zero0K ye k <| match Nat.beq ye.size 1, Nat.ble ye.bytes 8 with
   | true, true => rdg True L s fun ds => match ds with
    | .nil => rdg True L x fun dx => srcK k H dx fun ys => (True → ys.length ≤ 17592186044416) ∧ ltK d N (newK off' d (.osl (off' + d) 0 ys.length) (.arr k ys) L H K)
    | .osl i off len => match Nat.beq off 0 with
     | true => jbd H i fun c => match c with
      | .arr k' xs => match kE k k' with
       | true => rdg True L x fun dx => srcK k H dx fun ys => (True → xs.length = len ∧ len + ys.length ≤ 17592186044416) ∧
         ltK d N (newK off' d (.osl (off' + d) 0 (len + ys.length)) (.arr k (xs ++ ys)) L ((i, .gone) :: H) K)
       | false => False
      | _ => False
     | false => False
    | _ => False
   | _, _ => False
  | .struct _ => jet N off' d ye s x L H K
  | .slice _ => jet N off' d ye s x L H K
  | _ => False
 | _ => False
theorem jbp (w : World) (n c : Nat) (e : TypeId) : n ≤ grownCap w n c e := by
 simp only [grownCap, Question.cut]; exact Nat.le_add_right _ _
theorem sat_gone {E : Env} {h : Pub} {a : Act} {w : World} (S : Sat cx E h a w L H) (i : Nat) : Sat cx E h a w L ((i, .gone) :: H) := by
  have live : ∀ j c, lookH ((i, .gone) :: H) j = some c → c.live = true → lookH H j = some c := by
    intro j c hc hl
    rw [jag] at hc
    split at hc
    · cases hc; simp [Chunk.live] at hl
    · exact hc
  refine { knows := S.knows, mem := ?_, agree := S.agree, since := S.since, low := S.low, side := S.side }
  refine { ok := ?_, base := fun j c hc hl hr => S.mem.base j c (live j c hc hl) hl hr, unpub := fun j c hc hl hr => S.mem.unpub j c (live j c hc hl) hl hr,
           inj := fun j k c1 c2 hjk h1 h2 l1 l2 => S.mem.inj j k c1 c2 hjk (live j c1 h1 l1) (live k c2 h2 l2) l1 l2 }
  intro j c hc
  cases hl : c.live with
  | false => cases c <;> first | trivial | simp [Chunk.live] at hl
  | true => exact S.mem.ok j c (live j c hc hl)
theorem jfM {d t e : Nat} {ye : Ty} {s x : Operand} (hu : P.underlying t = some (.slice e)) (hte : TyOk P e ye) (hns : ∀ k, P.underlying t ≠ some (.int k)) (hd : o.dst = some d) (ho : o.op = .call { callee := .builtin .append, args := #[s, x], argTypes := #[t, t] })
  (hh : jet N cx.off d ye s x L H K) : Heavy P N cx Q o K L H := by
 unfold jet at hh
 split at hh
 case h_2 => exact hh.elim
 rename_i hb1 hb2
 have hby := jia hb1
 have hpos0 : 0 < ye.size := by
  rcases jij ye.size with e | e
  ·rw [e] at hb2; simp at hb2
  ·exact e
 have hz := jar hh; clear hh; obtain ⟨ds, hh, hs⟩ := hz
 obtain ⟨iy, z, i1, i2, i3, i4, i5, i6, _, i8, _⟩ := hte.info
 have hexec : ∀ (a : Act) (w w' : World) (v : Value), (Builtin.append_ #[t, t] o.type #[a.eval s, a.eval x]).run P w = .ok v w' → (execOp a.eval o).run P w = .ok (.value v) w' := fun a w w' v e => by
  simp [execOp, ho, resolve, invoke, builtin, e]
 have hsize : ∀ w : World, (sizeOf e).run P w = .ok ye.size w := fun w => hte.sizeOf w
 split at hh
 ·have hz := jar hh; clear hh; obtain ⟨dx, hh, hdx⟩ := hz
  have hz := bsrc_el hh; clear hh; obtain ⟨es, n, hh, hn, hsrc⟩ := hz
  split at hh
  case h_2 => exact hh.elim
  rename_i hb3 hfr
  have hle := jia hb3
  refine jbu hd hh fun E h a w S => ?_
  have hs0 := hs E h a trivial (S.facts.rd s)
  simp only [Den] at hs0
  obtain ⟨ad, cap, us, h3, h4, h5, h6, h7, h8⟩ := hsrc E h a w L S.facts _ (hdx E h a trivial (S.facts.rd x))
  have hrun := run_append_nil (P := P) w t o.type e iy z hu i1 i4 ad n cap us (by rw [h5, i2]) h8 hn (by omega) (by
   have : n * iy.bytes ≤ 1000000 * 4096 := Nat.mul_le_mul hle (by rw [i3]; exact hby)
   omega)
  rw [← hs0, ← h3] at hrun
  refine ⟨_, _, grownCap w n 0 e * ye.size, 0, hexec a w _ _ hrun, (Below.refl _ w).drew.alloc (jii _) _, ?_, ?_⟩
  ·have hcap : n ≤ grownCap w n 0 e := jbp _ _ _ _
   refine ⟨E.set_real _ _ _ _, us, (Builtin.zeroCells z.cells (grownCap w n 0 e - n)).toList, e, ?_, DenL.env (E.off_set _ _ _ _) hfr h6, h7, ?_⟩
   ·rw [Env.set_blk]
    have := heap_alloc_new w.drew (.cells (us.toArray ++ Builtin.zeroCells z.cells (grownCap w n 0 e - n)) e)
    rw [show w.drew.heap.size = w.heap.size from rfl] at this
    rw [this]
    congr 2
    apply Array.toList_inj.1
    simp
   ·rw [Env.set_siz]
    have : (Builtin.zeroCells z.cells (grownCap w n 0 e - n)).toList.length = (grownCap w n 0 e - n) * ye.size := by simp [Builtin.zeroCells, i8]
    rw [this, h5, ← Nat.add_mul]
    congr 1
    omega
  ·simp only [Den]
   exact ⟨E.set_real _ _ _ _, _, by rw [Env.set_blk], jbp _ _ _ _, by omega, .inr ⟨trivial, by rw [Env.set_siz]; exact jii _⟩⟩
 ·rename_i i off len e'
  split at hh
  case h_2 => exact hh.elim
  rename_i hb3 hb4
  have hoff := jae hb3
  have he' := jae hb4
  subst hoff
  subst he'
  have hy' := jaA hh; clear hh; obtain ⟨c, hc, hh⟩ := hy'
  split at hh
  case h_2 => exact hh.elim
  rename_i ds0
  cases hl0 : Nat.beq ds0.length (len * ye.size) with
  | false => rw [hl0] at hh; exact hh.elim
  | true =>
   rw [hl0] at hh
   have hl0 := jae hl0
   have hz := jar hh; clear hh; obtain ⟨dx, hh, hdx⟩ := hz
   have hz := bsrc_el hh; clear hh; obtain ⟨es, n, hh, hn, hsrc⟩ := hz
   split at hh
   case h_2 => exact hh.elim
   rename_i hb5 hfr
   have hle := jia hb5
   intro E h a w hN S next hnext
   obtain ⟨hlt, hK⟩ := jcX hh
   rw [jf7] at hK
   suffices hgoal : ∃ v w' E', (execOp a.eval o).run P w = .ok (.value v) w' ∧ Sat cx E' h (a.put (some d) v) w' ((d, .bsl (cx.off + d) 0 (len + n) ye.size) :: purge (cx.off + d) L) ((cx.off + d, .box (ds0 ++ es)) :: jaE (cx.off + d) ((i, .gone) :: H)) by
    obtain ⟨v, w', E', h1, h2⟩ := hgoal
    unfold Oper.wp
    rw [h1]
    simp only [Oper.upon, hd]
    exact hnext _ _ _ _ _ _ hK (jaz _ _ _) h2
   have hden := hs E h a trivial (S.facts.rd s)
   have hdl : d < a.tmps.size := by omega
   obtain ⟨ad, cap, us, h3, h4, h5, h6, h7, h8⟩ := hsrc E h a w L S.facts _ (hdx E h a trivial (S.facts.rd x))
   simp only [Den] at hden
   obtain ⟨hreal, scap, hs0, g1, g2, g3⟩ := hden
   have Sg := sat_gone S i
   obtain ⟨_, vs, rest, T, hb, hdv, hov, hsz⟩ := S.mem.ok _ _ hc
   have hvl : vs.length = len * ye.size := by rw [hdv.length, hl0]
   by_cases hfit : len + n ≤ scap
   ·-- there is room
    have hcs : scap * ye.size ≤ E.siz i := by
     rcases g3 with g3 | g3
     ·omega
     ·exact g3.2
    have hrest : (len + n) * ye.size ≤ vs.length + rest.length := by
     have := Nat.mul_le_mul_right ye.size hfit
     omega
    have hrest2 : vs.length + us.length ≤ vs.length + rest.length := by
     rw [Nat.add_mul] at hrest; omega
    obtain ⟨W, hW⟩ : ∃ W, W = w.setRow (E.blk i) (vs ++ us ++ rest.drop us.length).toArray := ⟨_, rfl⟩
    have hst := run_storeCells_at P (E.blk i) (len * ye.size) T us 0 (vs ++ rest).toArray w hb (by simp; omega) h7
    have hst2 : (storeCells ⟨E.blk i, len * ye.size, none⟩ us 0).run P w = .ok () W := by
     rw [hst, hW]
     congr 2
     apply Array.toList_inj.1
     simp only [Nat.add_zero, jiR]
     rw [jiW (by omega), jiZ (by omega)]
     congr 2
     rw [List.drop_append, ji0 (by omega)]
     simp
     congr 1
     omega
    refine ⟨.slice (some ⟨E.blk i, 0, none⟩) (len + n) scap, W, E.set (cx.off + d) (E.blk i) (E.siz i) 0, hexec a w W _ ?_, ?_⟩
    ·have hf := run_firstCells_some (P := P) w ye.size n ad n cap us h5 h8
     rw [hs0, h3]
     simp only [Builtin.append_]
     have hnz : (match (TypeDesc.slice e) with | .int _ => true | _ => false) = false := rfl
     simp only [Sem.run_bind, run_underlying hu, Result.andThen_ok, hsize, Builtin.lenOf, Sem.run_pure, hf, if_pos hfit, jaS, Bool.false_eq_true, if_false, Bool.not_false, if_true,
      ji1, List.getElem?_cons_zero, List.getElem?_cons_succ, Sem.run_ite, jif]
     rw [hst2]
     simp
    ·refine Sg.fresh (b := E.blk i) (by rw [hW]; rfl) (by rw [hW]; rfl) (by rw [hW]; rfl) (by rw [hW, size_setRow]; exact jii _) (fun q _ hq => by rw [hW]; exact setRow_other w _ _ _ hq)
      (S.mem.base i _ hc rfl hreal) (S.mem.unpub i _ hc rfl hreal) (fun q hq => by obtain ⟨cs, T', f, hcell⟩ := (S.mem.ok i _ hc).cells rfl hreal; rw [hcell] at hq; cases hq; rfl) ?_ ?_ hdl (Nat.le_add_right _ _) ?_
     ·intro j c' hj hc' hl hrj
      rw [jag] at hc'
      split at hc'
      ·cases hc'; simp [Chunk.live] at hl
      ·rename_i hij
       exact S.mem.inj j i c' _ (Ne.symm hij) hc' hc hl rfl hrj hreal
     ·refine ⟨E.set_real _ _ _ _, vs ++ us, rest.drop us.length, T, ?_, DenL.env (E.off_set _ _ _ _) hfr (hdv.append h6), ?_, ?_⟩
      ·rw [Env.set_blk, hW, setRow_heap w _ _ _ T (0, 0) hb]
      ·intro v hv
       rcases List.mem_append.1 hv with hv | hv
       ·exact hov v hv
       ·exact h7 v hv
      ·rw [Env.set_siz, hsz]; simp; omega
     ·simp only [Den]
      exact ⟨E.set_real _ _ _ _, scap, by rw [Env.set_blk], hfit, by omega, .inr ⟨trivial, by rw [Env.set_siz]; exact hcs⟩⟩
   ·-- a new block
    have holds : ∀ (j : Nat) v, vs[j]? = some v → w.cell? ((⟨E.blk i, 0, none⟩ : Addr).add j) = some v := by
     intro j v hv
     rw [jaS, jif]
     exact jdE hb hv
    have hrun := run_append_grow (P := P) w t o.type e iy z hu i1 i4 ⟨E.blk i, 0, none⟩ len scap vs (by rw [hvl, i2]) holds ad n cap us (by rw [h5, i2]) h8
     (by omega) (by omega) (growslice_fits (by omega) (by
      have : (len + n) * iy.bytes ≤ 1000000 * 4096 := Nat.mul_le_mul hle (by rw [i3]; exact hby)
      omega))
    rw [← hs0, ← h3] at hrun
    have hcap : len + n ≤ grownCap w (len + n) scap e := jbp _ _ _ _
    refine ⟨_, _, E.set (cx.off + d) w.heap.size (grownCap w (len + n) scap e * ye.size) 0, hexec a w _ _ hrun, ?_⟩
    refine Sg.alloc ?_ ?_ hdl (Nat.le_add_right _ _) ?_
    ·exact (Below.refl _ w).drew.alloc (jii _) _
    ·refine ⟨E.set_real _ _ _ _, vs ++ us, (Builtin.zeroCells z.cells (grownCap w (len + n) scap e - (len + n))).toList, e, ?_, DenL.env (E.off_set _ _ _ _) hfr (hdv.append h6), ?_, ?_⟩
     ·rw [Env.set_blk]
      have := heap_alloc_new w.drew (.cells (vs.toArray ++ us.toArray ++ Builtin.zeroCells z.cells (grownCap w (len + n) scap e - (len + n))) e)
      rw [show w.drew.heap.size = w.heap.size from rfl] at this
      rw [this]
      congr 2
      apply Array.toList_inj.1
      simp
     ·intro v hv
      rcases List.mem_append.1 hv with hv | hv
      ·exact hov v hv
      ·exact h7 v hv
     ·rw [Env.set_siz]
      have h9 : (Builtin.zeroCells z.cells (grownCap w (len + n) scap e - (len + n))).toList.length = (grownCap w (len + n) scap e - (len + n)) * ye.size := by simp [Builtin.zeroCells, i8]
      rw [h9, jiP, hvl, h5, ← Nat.add_mul, ← Nat.add_mul]
      congr 1
      omega
    ·simp only [Den]
     exact ⟨E.set_real _ _ _ _, _, by rw [Env.set_blk], hcap, by omega, .inr ⟨trivial, by rw [Env.set_siz]; exact jii _⟩⟩
 ·exact hh.elim
theorem append_el (htb : TbOk P tb) {d t : Nat} {s x : Operand} (hd : o.dst = some d) (ho : o.op = .call { callee := .builtin .append, args := #[s, x], argTypes := #[t, t] })
    (hh : appendK tb N cx.off d t s x L H K) : Heavy P N cx Q o K L H := by
  have hx := jak hh; clear hh; obtain ⟨y, hy, hh⟩ := hx
  have hty := htb _ _ hy
  split at hh
  case h_2 => exact hh.elim
  rename_i e hk
  have hu := jaw hty hk
  have hx := jak hh; clear hh; obtain ⟨ye, hye, hh⟩ := hx
  have hte := htb _ _ hye
  split at hh
  case h_2 => exact jfM hu hte (fun k h => by rw [hu] at h; cases h) hd ho hh
  case h_3 => exact jfM hu hte (fun k h => by rw [hu] at h; cases h) hd ho hh
  case h_4 => exact hh.elim
  rename_i k hke
  have hz := zero0_el hh; clear hh; obtain ⟨hz0, hh⟩ := hz
  split at hh
  case h_2 => exact hh.elim
  rename_i hb1 hb2
  have hs1 := jae hb1
  have hb8 := jia hb2
  have hz := jar hh; clear hh; obtain ⟨ds, hh, hs⟩ := hz
  obtain ⟨iy, i1, i2, i3, z, i4, i5⟩ := jeb hte
  have hsz1 : iy.size = 1 := by rw [i2, hs1]
  have hby : iy.bytes ≤ 8 := by rw [i3]; exact hb8
  have hue := jdu hte hke
  have hexec : ∀ (a : Act) (w w' : World) (v : Value), (Builtin.append_ #[t, t] o.type #[a.eval s, a.eval x]).run P w = .ok v w' → (execOp a.eval o).run P w = .ok (.value v) w' := fun a w w' v e => by
    simp [execOp, ho, resolve, invoke, builtin, e]
  have hsize : ∀ w : World, (sizeOf e).run P w = .ok 1 w := fun w => by rw [hte.sizeOf w, hs1]
  -- the cells of what is appended
  have hcells : ∀ (a : Act) (w : World) (ys : List Int) (ad : Option Addr) (cap : Nat), (match ad with | none => ys = [] | some ad => ∀ (j : Nat) u, (ys.map (Value.int k))[j]? = some u → w.cell? (ad.add j) = some u) →
      (Builtin.firstCells 1 ys.length (.slice ad ys.length cap)).run P w = .ok (ys.map (Value.int k)).toArray w := fun a w ys ad cap hc => by
    cases ad with
    | none => simp only at hc; subst hc; simp [Builtin.firstCells]
    | some ad => exact run_firstCells_some w 1 ys.length ad _ cap (ys.map (Value.int k)) (by simp) hc
  -- nothing is there yet
  have nilCase : ∀ (xs0 : Value), (∀ E h a w, Sat cx E h a w L H → a.eval s = .slice none 0 0) → ∀ (dx : D) (ys : List Int), ys.length ≤ 17592186044416 →
      (∀ E h a (w : World) L, Facts E h a w L H → ∀ v, Den E h dx v → (∀ n ∈ ys, InR k n) ∧ ys.length ≤ 281474976710656 ∧ ∃ ad cap, v = .slice ad ys.length cap ∧
        (match ad with | none => ys = [] | some ad => ∀ (j : Nat) u, (ys.map (Value.int k))[j]? = some u → w.cell? (ad.add j) = some u)) →
      (∀ (E : Env) (h : Pub) (a : Act), True → Den E h (rd L x) (a.eval x) → Den E h dx (a.eval x)) →
      ∀ E h a w, Sat cx E h a w L H → d < a.tmps.size → ∃ v w' E', (execOp a.eval o).run P w = .ok (.value v) w' ∧ Sat cx E' h (a.put (some d) v) w' ((d, .osl (cx.off + d) 0 ys.length) :: purge (cx.off + d) L) ((cx.off + d, .arr k ys) :: jaE (cx.off + d) H) := by
    intro _ hnil dx ys hlen hsrc hdx E h a w S hdl
    have hs0 := hnil E h a w S
    obtain ⟨h1, h2, ad, cap, h3, h4⟩ := hsrc E h a w L S.facts _ (hdx E h a trivial (S.facts.rd x))
    cases hys : ys with
    | nil =>
      subst hys
      refine ⟨.slice none 0 0, w, E.virt (cx.off + d), hexec a w w _ ?_, S.virt hdl (Nat.le_add_right _ _) (by simp only [Den]; exact .inl ⟨E.virt_real (cx.off + d), trivial, rfl⟩)⟩
      have hf := hcells a w [] ad cap h4
      simp only [List.length_nil, List.map_nil] at hf h3
      simp [Builtin.append_, hs0, h3, run_underlying hu, run_underlying hue, hsize, Builtin.lenOf, hf]
    | cons n ns =>
      cases ad with
      | none => simp only at h4; rw [h4] at hys; cases hys
      | some ad =>
        have hpos : 0 < ys.length := by rw [hys]; simp
        have hrun := run_append_nil (P := P) w t o.type e iy z hu i1 i4 ad ys.length cap (ys.map (Value.int k)) (by simp [hsz1]) h4 hpos (by omega) (by
          have : ys.length * iy.bytes ≤ ys.length * 8 := Nat.mul_le_mul_left _ hby
          omega)
        rw [← hs0, ← h3] at hrun
        rw [← hys]
        refine ⟨_, _, E.set (cx.off + d) w.heap.size (grownCap w ys.length 0 e) ys.length, hexec a w _ _ hrun, ?_⟩
        have hcap : ys.length ≤ grownCap w ys.length 0 e := jbp _ _ _ _
        have hzsz : z.cells.size = 1 := by
          have h5 := (i5 E h).length
          rw [hz0] at h5; simpa using h5
        refine S.alloc ?_ ?_ hdl (Nat.le_add_right _ _) ?_
        · exact (Below.refl _ w).drew.alloc (jii _) _
        · refine .inr ⟨E.set_real _ _ _ _, (Builtin.zeroCells z.cells (grownCap w ys.length 0 e - ys.length)).toList, e, ?_, ?_, h1, by rw [Env.set_kn]⟩
          · rw [Env.set_blk]
            have := heap_alloc_new w.drew (.cells ((ys.map (Value.int k)).toArray ++ Builtin.zeroCells z.cells (grownCap w ys.length 0 e - ys.length)) e)
            rw [show w.drew.heap.size = w.heap.size from rfl] at this
            rw [this]
            congr 2
            apply Array.toList_inj.1
            simp
          · rw [Env.set_siz]
            simp [Builtin.zeroCells, hzsz]; omega
        · simp only [Den]
          exact .inr ⟨E.set_real _ _ _ _, 0, _, by rw [Env.set_blk], hcap, by rw [Env.set_siz]; omega, by omega, .inl rfl, by rw [Env.set_kn]; omega⟩
  split at hh
  · -- nil
    have hz := jar hh; clear hh; obtain ⟨dx, hh, hdx⟩ := hz
    have hz := jgt hh; clear hh; obtain ⟨ys, hh, hsrc⟩ := hz
    obtain ⟨hlen, hK⟩ := hh
    intro E h a w hN S next hnext
    obtain ⟨hlt, hK⟩ := jcX hK
    rw [jf7] at hK
    obtain ⟨v, w', E', h1, h2⟩ := nilCase .nilIface (fun E h a w S => by
      have := hs E h a trivial (S.facts.rd s); simpa [Den] using this) dx ys (hlen trivial) hsrc (fun E h a _ hd => hdx E h a trivial hd) E h a w S (by omega)
    unfold Oper.wp
    rw [h1]
    simp only [Oper.upon, hd]
    exact hnext _ _ _ _ _ _ hK (jaz _ _ _) h2
  · rename_i i off len
    cases hb0 : Nat.beq off 0 with
    | false => rw [hb0] at hh; exact hh.elim
    | true =>
      rw [hb0] at hh
      have hoff := jae hb0; subst hoff
      have hy' := jaA hh; clear hh; obtain ⟨c, hc, hh⟩ := hy'
      split at hh
      case h_2 => exact hh.elim
      rename_i k' xs
      split at hh
      case h_2 => exact hh.elim
      rename_i hkk
      have := kE_eq hkk; subst this
      have hz := jar hh; clear hh; obtain ⟨dx, hh, hdx⟩ := hz
      have hz := jgt hh; clear hh; obtain ⟨ys, hh, hsrc⟩ := hz
      obtain ⟨hlen, hK⟩ := hh
      obtain ⟨hxl, hlen⟩ := hlen trivial
      intro E h a w hN S next hnext
      obtain ⟨hlt, hK⟩ := jcX hK
      rw [jf7] at hK
      suffices hgoal : ∃ v w' E', (execOp a.eval o).run P w = .ok (.value v) w' ∧ Sat cx E' h (a.put (some d) v) w' ((d, .osl (cx.off + d) 0 (len + ys.length)) :: purge (cx.off + d) L) ((cx.off + d, .arr k (xs ++ ys)) :: jaE (cx.off + d) ((i, .gone) :: H)) by
        obtain ⟨v, w', E', h1, h2⟩ := hgoal
        unfold Oper.wp
        rw [h1]
        simp only [Oper.upon, hd]
        exact hnext _ _ _ _ _ _ hK (jaz _ _ _) h2
      have hden := hs E h a trivial (S.facts.rd s)
      have hdl : d < a.tmps.size := by omega
      obtain ⟨h1, h2, ad, cap, h3, h4⟩ := hsrc E h a w L S.facts _ (hdx E h a trivial (S.facts.rd x))
      simp only [Den] at hden
      have Sg := sat_gone S i
      rcases hden with ⟨hreal, hs0, hl0⟩ | ⟨hreal, so, scap, hs0, g1, g2, g3, g4, g5⟩
      · -- a list without a block
        have hx0 : xs = [] := jiK.1 (by omega)
        subst hx0; subst hl0
        simp only [List.nil_append, jif]
        cases hys : ys with
        | nil =>
          subst hys
          refine ⟨.slice none 0 0, w, E.virt (cx.off + d), hexec a w w _ ?_, Sg.virt hdl (Nat.le_add_right _ _) (by simp only [Den]; exact .inl ⟨E.virt_real (cx.off + d), trivial, rfl⟩)⟩
          have hf := hcells a w [] ad cap h4
          simp only [List.length_nil, List.map_nil] at hf h3
          simp [Builtin.append_, hs0, h3, run_underlying hu, run_underlying hue, hsize, Builtin.lenOf, hf]
        | cons n ns =>
          cases ad with
          | none => simp only at h4; rw [h4] at hys; cases hys
          | some ad =>
            have hpos : 0 < ys.length := by rw [hys]; simp
            have hrun := run_append_nil (P := P) w t o.type e iy z hu i1 i4 ad ys.length cap (ys.map (Value.int k)) (by simp [hsz1]) h4 hpos (by omega) (by
              have : ys.length * iy.bytes ≤ ys.length * 8 := Nat.mul_le_mul_left _ hby
              omega)
            rw [← hs0, ← h3] at hrun
            rw [← hys]
            refine ⟨_, _, E.set (cx.off + d) w.heap.size (grownCap w ys.length 0 e) ys.length, hexec a w _ _ hrun, ?_⟩
            have hcap : ys.length ≤ grownCap w ys.length 0 e := jbp _ _ _ _
            have hzsz : z.cells.size = 1 := by
              have h5 := (i5 E h).length
              rw [hz0] at h5; simpa using h5
            refine Sg.alloc ?_ ?_ hdl (Nat.le_add_right _ _) ?_
            · exact (Below.refl _ w).drew.alloc (jii _) _
            · refine .inr ⟨E.set_real _ _ _ _, (Builtin.zeroCells z.cells (grownCap w ys.length 0 e - ys.length)).toList, e, ?_, ?_, h1, by rw [Env.set_kn]⟩
              · rw [Env.set_blk]
                have := heap_alloc_new w.drew (.cells ((ys.map (Value.int k)).toArray ++ Builtin.zeroCells z.cells (grownCap w ys.length 0 e - ys.length)) e)
                rw [show w.drew.heap.size = w.heap.size from rfl] at this
                rw [this]
                congr 2
                apply Array.toList_inj.1
                simp
              · rw [Env.set_siz]
                simp [Builtin.zeroCells, hzsz]; omega
            · simp only [Den]
              exact .inr ⟨E.set_real _ _ _ _, 0, _, by rw [Env.set_blk], hcap, by rw [Env.set_siz]; omega, by omega, .inl rfl, by rw [Env.set_kn]; omega⟩
      · obtain ⟨rest, T, hb, hsz, hr, hkn⟩ := jaZ hreal (S.mem.ok _ _ hc)
        have hso : so = 0 ∨ scap = 0 := g4
        by_cases hfit : len + ys.length ≤ scap
        · -- there is room
          have hrest : len + ys.length ≤ xs.length + rest.length := by omega
          obtain ⟨W, hW⟩ : ∃ W, W = w.setRow (E.blk i) (setAt (xs.map (Value.int k) ++ rest) (so + len) (ys.map (Value.int k))).toArray := ⟨_, rfl⟩
          have hst := run_storeCells_at P (E.blk i) (so + len) T (ys.map (Value.int k)) 0 (xs.map (Value.int k) ++ rest).toArray w hb (by simp; omega) jbc
          refine ⟨.slice (some ⟨E.blk i, so, none⟩) (len + ys.length) scap, W, E.set (cx.off + d) (E.blk i) (E.siz i) (len + ys.length), hexec a w W _ ?_, ?_⟩
          · have hf := hcells a w ys ad cap h4
            rw [hs0, h3]
            simp only [Builtin.append_]
            simp only [Sem.run_bind, run_underlying hu, run_underlying hue, Result.andThen_ok, hsize, Builtin.lenOf, Sem.run_pure, hf, if_pos hfit, Nat.mul_one, jaS, Bool.false_eq_true, if_false, Bool.not_false, if_true,
              ji1, List.getElem?_cons_zero, List.getElem?_cons_succ, Sem.run_ite]
            rw [hst, hW]
            simp [setAt]
          · have hlen2 : so = 0 ∨ ys = [] := by
              rcases hso with h5 | h5
              · exact .inl h5
              · exact .inr (jiK.1 (by omega))
            refine Sg.fresh (b := E.blk i) (by rw [hW]; rfl) (by rw [hW]; rfl) (by rw [hW]; rfl) (by rw [hW, size_setRow]; exact jii _) (fun q _ hq => by rw [hW]; exact setRow_other w _ _ _ hq)
              (S.mem.base i _ hc rfl hreal) (S.mem.unpub i _ hc rfl hreal) (fun q hq => by obtain ⟨cs, T', f, hcell⟩ := (S.mem.ok i _ hc).cells rfl hreal; rw [hcell] at hq; cases hq; rfl) ?_ ?_ hdl (Nat.le_add_right _ _) ?_
            · intro j c' hj hc' hl hrj
              rw [jag] at hc'
              split at hc'
              · cases hc'; simp [Chunk.live] at hl
              · rename_i hij
                exact S.mem.inj j i c' _ (Ne.symm hij) hc' hc hl rfl hrj hreal
            · refine .inr ⟨E.set_real _ _ _ _, rest.drop ys.length, T, ?_, ?_, ?_, by rw [Env.set_kn]; simp; omega⟩
              · rw [Env.set_blk, hW, setRow_heap w _ _ _ T (0, 0) hb]
                congr 2
                apply Array.toList_inj.1
                rcases hlen2 with h5 | h5
                · subst h5
                  simp only [setAt, jif, ← hxl, List.map_append]
                  rw [jiW (by simp), jiZ (by simp)]
                  congr 1
                  rw [List.drop_append]
                  simp
                · subst h5
                  simp [setAt]
              · rw [Env.set_siz, hsz]; simp; omega
              · intro n hn
                rcases List.mem_append.1 hn with hn | hn
                · exact hr n hn
                · exact h1 n hn
            · simp only [Den]
              exact .inr ⟨E.set_real _ _ _ _, so, scap, by rw [Env.set_blk], hfit, by rw [Env.set_siz]; exact g2, by omega, hso, by rw [Env.set_kn]; omega⟩
        · -- a new block
          have hys : ys ≠ [] := by
            intro e0; subst e0; simp at hfit; omega
          cases ad with
          | none => exact absurd h4 hys
          | some ad =>
            have holds : ∀ (j : Nat) v, (xs.map (Value.int k))[j]? = some v → w.cell? ((⟨E.blk i, so, none⟩ : Addr).add j) = some v := by
              intro j v hv
              rw [jaS]
              have hj : j < xs.length := by simpa using (jiT.1 hv).1
              rcases hso with h5 | h5
              · subst h5
                rw [jif]
                refine jbV hb ?_
                rw [jiS (by simpa using hj)]; exact hv
              · omega
            have hrun := run_append_grow (P := P) w t o.type e iy z hu i1 i4 ⟨E.blk i, so, none⟩ len scap (xs.map (Value.int k)) (by simp [hsz1, hxl]) holds ad ys.length cap (ys.map (Value.int k)) (by simp [hsz1]) h4
              (by omega) (by omega) (growslice_fits (by omega) (by
                have : (len + ys.length) * iy.bytes ≤ (len + ys.length) * 8 := Nat.mul_le_mul_left _ hby
                omega))
            rw [← hs0, ← h3] at hrun
            have hcap : len + ys.length ≤ grownCap w (len + ys.length) scap e := jbp _ _ _ _
            have hzsz : z.cells.size = 1 := by
              have h5 := (i5 E h).length
              rw [hz0] at h5; simpa using h5
            refine ⟨_, _, E.set (cx.off + d) w.heap.size (grownCap w (len + ys.length) scap e) (len + ys.length), hexec a w _ _ hrun, ?_⟩
            refine Sg.alloc ?_ ?_ hdl (Nat.le_add_right _ _) ?_
            · exact (Below.refl _ w).drew.alloc (jii _) _
            · refine .inr ⟨E.set_real _ _ _ _, (Builtin.zeroCells z.cells (grownCap w (len + ys.length) scap e - (len + ys.length))).toList, e, ?_, ?_, ?_, by rw [Env.set_kn]; simp; omega⟩
              · rw [Env.set_blk]
                have := heap_alloc_new w.drew (.cells ((xs.map (Value.int k)).toArray ++ (ys.map (Value.int k)).toArray ++ Builtin.zeroCells z.cells (grownCap w (len + ys.length) scap e - (len + ys.length))) e)
                rw [show w.drew.heap.size = w.heap.size from rfl] at this
                rw [this]
                congr 2
                apply Array.toList_inj.1
                simp
              · rw [Env.set_siz]
                simp [Builtin.zeroCells, hzsz]; omega
              · intro n hn
                rcases List.mem_append.1 hn with hn | hn
                · exact hr n hn
                · exact h1 n hn
            · simp only [Den]
              exact .inr ⟨E.set_real _ _ _ _, 0, _, by rw [Env.set_blk], hcap, by rw [Env.set_siz]; omega, by omega, .inl rfl, by rw [Env.set_kn]; omega⟩
  · exact hh.elim
end
end Go.V
end
section
namespace Go.V
open Go Go.RowKit
section
variable {P : Program} {tb : Tb} {N : Nat} {cx : Cx} {Q : Exit → Act → World → Prop} {o : Oper} {L : Sl} {H : Hp} {K : K2}
def dstK (N : Nat) (dst : Option Nat) (r : D) (L : Sl) (K : Sl → Prop) : Prop := match dst with
 | none => K L
 | some d => ltK d N (K ((d, r) :: L))
theorem je0 {N : Nat} {dst : Option Nat} {r : D} {L : Sl} {K : Sl → Prop} (h : dstK N dst r L K) :
  ∃ L', K L' ∧ ∀ E hp a w H v, N ≤ a.tmps.size → Sat cx E hp a w L H → Den E hp r v → Sat cx E hp (a.put dst v) w L' H := by
 cases dst with
 | none => exact ⟨L, h, fun E hp a w H v _ S _ => S⟩
 | some d =>
  obtain ⟨h1, h2⟩ := jcX h
  exact ⟨_, h2, fun E hp a w H v hN S hv => S.put (by omega) hv⟩
def jeO (k : IntKind) (ys : List Int) : Nat → Nat → List D
 | 0, _ => []
 | m + 1, j => .int k (ys.getD j 0) :: jeO k ys m (j + 1)
theorem je7 {E : Env} {h : Pub} {k : IntKind} {ys : List Int} (hr : ∀ n ∈ ys, InR k n) : ∀ (m j : Nat), j + m ≤ ys.length → DenL E h (jeO k ys m j) (((ys.drop j).take m).map (Value.int k))
 | 0, j, _ => by simp [jeO, DenL]
 | m + 1, j, hj => by
  have hlt : j < ys.length := by omega
  rw [ji2 hlt, List.take_succ_cons, List.map_cons]
  simp only [jeO, DenL]
  have e : ys.getD j 0 = ys[j] := by simp [jiJ, hlt]
  refine ⟨_, _, rfl, ?_, je7 hr m (j + 1) (by omega)⟩
  rw [e]
  simp only [Den]
  exact ⟨trivial, hr _ (jiN hlt)⟩
def copyK (tb : Tb) (N : Nat) (dst : Option Nat) (t : Nat) (s x : Operand) (L : Sl) (H : Hp) (K : K2) : Prop := tyK tb t fun y => match y.kind with
 | .slice e => tyK tb e fun ye => match ye.kind with
  | .int k => match Nat.beq ye.size 1 with
   | true => rdg True L s fun ds => match ds with
    | .osl i off len => jbd H i fun c => match c with
     | .arr k' xs => match kE k k' with
      | true => rdg True L x fun dx => srcK k H dx fun ys => (True → 0 < len ∧ off + len ≤ xs.length) ∧
        dstK N dst (.int .i64 (min ys.length len : Nat)) L fun L' => K L' ((i, .arr k (setAt xs off (ys.take len))) :: H)
      | false => False
     | _ => False
    | .bsl i off len es => match Nat.beq es 1 with
     | true => jbd H i fun c => match c with
      | .box dss => rdg True L x fun dx => srcK k H dx fun ys => (True → len ≤ ys.length) ∧ jdf dss off (jeO k ys len 0) fun ds' =>
        dstK N dst (.int .i64 (len : Nat)) L fun L' => K L' ((i, .box ds') :: H)
      | .arr k' xs => match kE k k' with
       | true => rdg True L x fun dx => srcK k H dx fun ys => (True → 0 < len ∧ off + len ≤ xs.length) ∧
         dstK N dst (.int .i64 (min ys.length len : Nat)) L fun L' => K L' ((i, .arr k (setAt xs off (ys.take len))) :: H)
       | false => False
      | _ => False
     | false => False
    | _ => False
   | false => False
  | _ => False
 | _ => False
theorem copy_el (htb : TbOk P tb) {t : Nat} {s x : Operand} (ho : o.op = .call { callee := .builtin .copy, args := #[s, x], argTypes := #[t, t] })
  (hh : copyK tb N o.dst t s x L H K) : Heavy P N cx Q o K L H := by
 have hx := jak hh; clear hh; obtain ⟨y, hy, hh⟩ := hx
 have hty := htb _ _ hy
 split at hh
 case h_2 => exact hh.elim
 rename_i e hk
 have hu := jaw hty hk
 have hx := jak hh; clear hh; obtain ⟨ye, hye, hh⟩ := hx
 have hte := htb _ _ hye
 split at hh
 case h_2 => exact hh.elim
 rename_i k hke
 cases hb1 : Nat.beq ye.size 1 with
 | false => rw [hb1] at hh; exact hh.elim
 | true =>
  rw [hb1] at hh
  have hs1 := jae hb1
  have hz := jar hh; clear hh; obtain ⟨ds, hh, hs⟩ := hz
  split at hh
  case h_3 => exact hh.elim
  case h_2 =>
   rename_i i off len es
   cases hb2 : Nat.beq es 1 with
   | false => rw [hb2] at hh; exact hh.elim
   | true =>
    rw [hb2] at hh
    have hy' := jaA hh; clear hh; obtain ⟨c, hc, hh⟩ := hy'
    split at hh
    case h_3 => exact hh.elim
    case h_2 =>
     rename_i k' xs
     split at hh
     case h_2 => exact hh.elim
     rename_i hkk
     have := kE_eq hkk; subst this
     have hz := jar hh; clear hh; obtain ⟨dx, hh, hdx⟩ := hz
     have hz := jgt hh; clear hh; obtain ⟨ys, hh, hsrc⟩ := hz
     obtain ⟨hlen, hK⟩ := hh
     obtain ⟨hpos, hfit⟩ := hlen trivial
     obtain ⟨L', hK, hput⟩ := je0 (cx := cx) hK
     intro E h a w hN S next hnext
     have hden := hs E h a trivial (S.facts.rd s)
     obtain ⟨h1, h2, ad, cap, h3, h4⟩ := hsrc E h a w L S.facts _ (hdx E h a trivial (S.facts.rd x))
     simp only [Den] at hden
     obtain ⟨hreal, scap, hs0, g1, g3, g5⟩ := hden
     obtain ⟨so, hso⟩ : ∃ so, so = off := ⟨_, rfl⟩
     subst hso
     obtain ⟨rest, T, hb, hsz, hr, hkn⟩ := jaZ hreal (S.mem.ok _ _ hc)
     obtain ⟨iy, i1, i2, i3, z, i4, i5⟩ := jeb hte
     -- the world behind
     obtain ⟨W, hW⟩ : ∃ W, W = w.setRow (E.blk i) (setAt (xs.map (Value.int k) ++ rest) so ((ys.take len).map (Value.int k))).toArray := ⟨_, rfl⟩
     have hrun : (Builtin.copy_ #[t, t] o.type #[a.eval s, a.eval x]).run P w = .ok (.int .i64 (min ys.length len : Nat)) W := by
      rw [hs0, h3]
      have hst := run_storeCells_at P (E.blk i) so T ((ys.take len).map (Value.int k)) 0 (xs.map (Value.int k) ++ rest).toArray w hb (by simp; omega) jbc
      have hmin : ((ys.take len).map (Value.int k)).length = min ys.length len := by simp [Nat.min_comm]
      have hload : (Builtin.firstCells 1 (min ys.length len) (.slice ad ys.length cap)).run P w = .ok ((ys.take len).map (Value.int k)).toArray w := by
       cases ad with
       | none => simp only at h4; subst h4; simp [Builtin.firstCells]
       | some ad =>
        rw [← hmin]
        exact run_firstCells_some w 1 _ ad _ cap ((ys.take len).map (Value.int k)) (by simp) (fun j u hu => h4 j u (by rw [List.map_take] at hu; exact ja2 hu))
      have hszr : (sizeOf e).run P w = .ok 1 w := by rw [hte.sizeOf w, hs1]
      simp only [Builtin.copy_, ji1, List.getElem?_cons_zero, List.getElem?_cons_succ, Sem.run_bind, run_underlying hu, Result.andThen_ok, Builtin.lenOf, Sem.run_pure, hszr]
      rw [show Nat.min ys.length len = min ys.length len from rfl, hload]
      simp only [Result.andThen_ok]
      rw [hst, hW]
      simp [setAt, goInt]
     unfold Oper.wp
     rw [show (execOp a.eval o).run P w = .ok (.value (.int .i64 (min ys.length len : Nat))) W by simp [execOp, ho, resolve, invoke, builtin, hrun]]
     simp only [Oper.upon]
     refine hnext _ _ E h _ _ hK (jaz _ _ _) ?_
     refine hput E h a W _ _ hN ?_ (by simp only [Den]; exact ⟨trivial, jbZ (by omega)⟩)
     refine S.write hc rfl hreal (by rw [hW]; rfl) (by rw [hW]; rfl) (by rw [hW]; rfl) (by rw [hW, size_setRow]) (fun b hb => by rw [hW]; exact setRow_other w _ _ _ hb) ?_
     have hl : (setAt xs so (ys.take len)).length = xs.length := jbQ (by simp; omega)
     refine .inr ⟨hreal, rest, T, ?_, by rw [hl]; exact hsz, ?_, by rw [hl]; exact hkn⟩
     ·rw [hW, setRow_heap w _ _ _ T (0, 0) hb]
      congr 2
      apply Array.toList_inj.1
      simp only [setAt, List.map_append, List.map_take, List.map_drop]
      rw [jiW (by simp; omega), jiX (by simp; omega)]
      simp
     ·exact jcD hr (fun n hn => h1 n (jiV hn))
    rename_i dss
    have hz := jar hh; clear hh; obtain ⟨dx, hh, hdx⟩ := hz
    have hz := jgt hh; clear hh; obtain ⟨ys, hh, hsrc⟩ := hz
    obtain ⟨hlen, hh⟩ := hh
    have hlen := hlen trivial
    obtain ⟨hle, hK⟩ := jde hh
    obtain ⟨L', hK, hput⟩ := je0 (cx := cx) hK
    intro E h a w hN S next hnext
    have hden := hs E h a trivial (S.facts.rd s)
    obtain ⟨h1, h2, ad, cap, h3, h4⟩ := hsrc E h a w L S.facts _ (hdx E h a trivial (S.facts.rd x))
    simp only [Den] at hden
    obtain ⟨hreal, cap0, hs0, hlc, hl2, _⟩ := hden
    obtain ⟨_, vs, rest, T, hb, hd1, hd2, hszr0⟩ := S.mem.ok _ _ hc
    have hil : ∀ m j, (jeO k ys m j).length = m := by
     intro m
     induction m with
     | zero => intro j; rfl
     | succ m ih => intro j; simp [jeO, ih]
    rw [hil] at hle
    have hvl := hd1.length
    obtain ⟨W, hW⟩ : ∃ W, W = w.setRow (E.blk i) (setAt (vs ++ rest) off ((ys.take len).map (Value.int k))).toArray := ⟨_, rfl⟩
    have hml : ((ys.take len).map (Value.int k)).length = len := by simp; omega
    have hrun : (Builtin.copy_ #[t, t] o.type #[a.eval s, a.eval x]).run P w = .ok (.int .i64 (len : Nat)) W := by
     rw [hs0, h3]
     have hst := run_storeCells_at P (E.blk i) off T ((ys.take len).map (Value.int k)) 0 (vs ++ rest).toArray w hb (by simp; omega) jbc
     have hload : (Builtin.firstCells 1 (min ys.length len) (.slice ad ys.length cap)).run P w = .ok ((ys.take len).map (Value.int k)).toArray w := by
      cases ad with
      | none => simp only at h4; subst h4; simp [Builtin.firstCells]
      | some ad =>
       rw [show min ys.length len = ((ys.take len).map (Value.int k)).length by simp [Nat.min_comm]]
       exact run_firstCells_some w 1 _ ad _ cap ((ys.take len).map (Value.int k)) (by simp) (fun j u hu => h4 j u (by rw [List.map_take] at hu; exact ja2 hu))
     have hszr : (sizeOf e).run P w = .ok 1 w := by rw [hte.sizeOf w, hs1]
     simp only [Builtin.copy_, ji1, List.getElem?_cons_zero, List.getElem?_cons_succ, Sem.run_bind, run_underlying hu, Result.andThen_ok, Builtin.lenOf, Sem.run_pure, hszr]
     rw [show Nat.min ys.length len = min ys.length len from rfl, hload]
     simp only [Result.andThen_ok]
     rw [hst, hW]
     simp [setAt, goInt]
     omega
    unfold Oper.wp
    rw [show (execOp a.eval o).run P w = .ok (.value (.int .i64 (len : Nat))) W by simp [execOp, ho, resolve, invoke, builtin, hrun]]
    simp only [Oper.upon]
    refine hnext _ _ E h _ _ hK (jaz _ _ _) ?_
    refine hput E h a W _ _ hN ?_ (by simp only [Den]; exact ⟨trivial, jbZ (by omega)⟩)
    refine S.write hc rfl hreal (by rw [hW]; rfl) (by rw [hW]; rfl) (by rw [hW]; rfl) (by rw [hW, size_setRow]) (fun b hb => by rw [hW]; exact setRow_other w _ _ _ hb) ?_
    have hdi := je7 (E := E) (h := h) h1 len 0 (by omega)
    rw [ji3] at hdi
    have hft : off + ((ys.take len).map (Value.int k)).length ≤ vs.length := by rw [hml]; omega
    exact ⟨hreal, _, rest, T, by rw [hW, setRow_heap w _ _ _ T (0, 0) hb, jgv hft], hd1.setAt hdi off, jcD hd2 jbc, by rw [jbQ hft]; exact hszr0⟩
  rename_i i off len
  have hy' := jaA hh; clear hh; obtain ⟨c, hc, hh⟩ := hy'
  split at hh
  case h_2 => exact hh.elim
  rename_i k' xs
  split at hh
  case h_2 => exact hh.elim
  rename_i hkk
  have := kE_eq hkk; subst this
  have hz := jar hh; clear hh; obtain ⟨dx, hh, hdx⟩ := hz
  have hz := jgt hh; clear hh; obtain ⟨ys, hh, hsrc⟩ := hz
  obtain ⟨hlen, hK⟩ := hh
  obtain ⟨hpos, hfit⟩ := hlen trivial
  obtain ⟨L', hK, hput⟩ := je0 (cx := cx) hK
  intro E h a w hN S next hnext
  have hden := hs E h a trivial (S.facts.rd s)
  obtain ⟨h1, h2, ad, cap, h3, h4⟩ := hsrc E h a w L S.facts _ (hdx E h a trivial (S.facts.rd x))
  simp only [Den] at hden
  rcases hden with ⟨_, _, hl0⟩ | ⟨hreal, so, scap, hs0, g1, g2, g3, g4, g5⟩
  ·omega
  have hso : so = off := by rcases g4 with g4 | g4 <;> omega
  subst hso
  obtain ⟨rest, T, hb, hsz, hr, hkn⟩ := jaZ hreal (S.mem.ok _ _ hc)
  obtain ⟨iy, i1, i2, i3, z, i4, i5⟩ := jeb hte
  -- the world behind
  obtain ⟨W, hW⟩ : ∃ W, W = w.setRow (E.blk i) (setAt (xs.map (Value.int k) ++ rest) so ((ys.take len).map (Value.int k))).toArray := ⟨_, rfl⟩
  have hrun : (Builtin.copy_ #[t, t] o.type #[a.eval s, a.eval x]).run P w = .ok (.int .i64 (min ys.length len : Nat)) W := by
   rw [hs0, h3]
   have hst := run_storeCells_at P (E.blk i) so T ((ys.take len).map (Value.int k)) 0 (xs.map (Value.int k) ++ rest).toArray w hb (by simp; omega) jbc
   have hmin : ((ys.take len).map (Value.int k)).length = min ys.length len := by simp [Nat.min_comm]
   have hload : (Builtin.firstCells 1 (min ys.length len) (.slice ad ys.length cap)).run P w = .ok ((ys.take len).map (Value.int k)).toArray w := by
    cases ad with
    | none => simp only at h4; subst h4; simp [Builtin.firstCells]
    | some ad =>
     rw [← hmin]
     exact run_firstCells_some w 1 _ ad _ cap ((ys.take len).map (Value.int k)) (by simp) (fun j u hu => h4 j u (by rw [List.map_take] at hu; exact ja2 hu))
   have hszr : (sizeOf e).run P w = .ok 1 w := by rw [hte.sizeOf w, hs1]
   simp only [Builtin.copy_, ji1, List.getElem?_cons_zero, List.getElem?_cons_succ, Sem.run_bind, run_underlying hu, Result.andThen_ok, Builtin.lenOf, Sem.run_pure, hszr]
   rw [show Nat.min ys.length len = min ys.length len from rfl, hload]
   simp only [Result.andThen_ok]
   rw [hst, hW]
   simp [setAt, goInt]
  unfold Oper.wp
  rw [show (execOp a.eval o).run P w = .ok (.value (.int .i64 (min ys.length len : Nat))) W by simp [execOp, ho, resolve, invoke, builtin, hrun]]
  simp only [Oper.upon]
  refine hnext _ _ E h _ _ hK (jaz _ _ _) ?_
  refine hput E h a W _ _ hN ?_ (by simp only [Den]; exact ⟨trivial, jbZ (by omega)⟩)
  refine S.write hc rfl hreal (by rw [hW]; rfl) (by rw [hW]; rfl) (by rw [hW]; rfl) (by rw [hW, size_setRow]) (fun b hb => by rw [hW]; exact setRow_other w _ _ _ hb) ?_
  have hl : (setAt xs so (ys.take len)).length = xs.length := jbQ (by simp; omega)
  refine .inr ⟨hreal, rest, T, ?_, by rw [hl]; exact hsz, ?_, by rw [hl]; exact hkn⟩
  ·rw [hW, setRow_heap w _ _ _ T (0, 0) hb]
   congr 2
   apply Array.toList_inj.1
   simp only [setAt, List.map_append, List.map_take, List.map_drop]
   rw [jiW (by simp; omega), jiX (by simp; omega)]
   simp
  ·exact jcD hr (fun n hn => h1 n (jiV hn))
end
end Go.V
end
