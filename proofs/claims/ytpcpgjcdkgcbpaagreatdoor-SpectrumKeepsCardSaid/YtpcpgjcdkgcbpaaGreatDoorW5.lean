/- Laws of a small interpreter over plain values, each proved against the model of the language: part 5. No condition. -/
import Derived.Test.YtpcpgjcdkgcbpaaGreatDoorW4
set_option linter.unusedSimpArgs false
set_option linter.unusedVariables false
set_option maxHeartbeats 8000000
set_option maxRecDepth 100000
section
namespace Go.V
open Go Go.RowKit
section
variable {P : Program} {tb : Tb} {N : Nat} {cx : Cx} {Q : Exit → Act → World → Prop} {o : Oper} {L : Sl} {H : Hp} {K : K2}
def bsrcK (es : Nat) (H : Hp) (d : D) (K : List D → Nat → Prop) : Prop := match d with
  | .bsl j off n e' => match Nat.beq off 0, Nat.beq e' es, Nat.beq n 0 with
    | true, true, false => lookHK H j fun c => match c with
      | .box ds => match Nat.beq ds.length (n * es) with | true => K ds n | false => False
      | _ => False
    | _, _, _ => False
  | _ => False
theorem bsrc_el {es : Nat} {H : Hp} {d : D} {K : List D → Nat → Prop} (hh : bsrcK es H d K) :
    ∃ ds n, K ds n ∧ 0 < n ∧ ∀ E h a (w : World) L, Facts E h a w L H → ∀ v, Den E h d v → ∃ ad cap us, v = .slice (some ad) n cap ∧ n ≤ 281474976710656 ∧ us.length = n * es ∧ DenL E h ds us ∧ (∀ u ∈ us, u.oneCell' = true) ∧
      ∀ (j : Nat) u, us[j]? = some u → w.cell? (ad.add j) = some u := by
  unfold bsrcK at hh
  split at hh
  case h_2 => exact hh.elim
  rename_i j off n e'
  split at hh
  case h_2 => exact hh.elim
  rename_i hb1 hb2 hb3
  have h1 := nbeq_true hb1
  have h2 := nbeq_true hb2
  subst h1 h2
  have hn : 0 < n := by
    rcases Nat.eq_zero_or_pos n with e | e
    · rw [e] at hb3; simp at hb3
    · exact e
  have hy' := lookHK_el hh; clear hh; obtain ⟨c, hc, hh⟩ := hy'
  split at hh
  case h_2 => exact hh.elim
  rename_i ds
  cases hl : Nat.beq ds.length (n * e') with
  | false => rw [hl] at hh; exact hh.elim
  | true =>
    rw [hl] at hh
    have hl := nbeq_true hl
    refine ⟨ds, n, hh, hn, fun E h a w L F v hv => ?_⟩
    simp only [Den] at hv
    obtain ⟨hreal, cap, rfl, h3, h4, _⟩ := hv
    obtain ⟨_, vs, rest, T, hb, hd, ho, _⟩ := F.chunk _ _ hc
    exact ⟨_, cap, vs, rfl, h4, by rw [hd.length, hl], hd, ho, fun q u hu => by rw [addr_add, Nat.zero_add]; exact cell_box hb hu⟩
def appendBK (N off' d : Nat) (ye : Ty) (s x : Operand) (L : Sl) (H : Hp) (K : K2) : Prop := match Nat.ble ye.bytes 4096, Nat.beq ye.size 0 with
  | true, false => rdg True L s fun ds => match ds with
    | .nil => rdg True L x fun dx => bsrcK ye.size H dx fun es n => match Nat.ble n 1000000, D.freeL (off' + d) es with
      | true, true => ltK d N (newK off' d (.bsl (off' + d) 0 n ye.size) (.box es) L H K)
      | _, _ => False
    | .bsl i off len e' => match Nat.beq off 0, Nat.beq e' ye.size with
      | true, true => lookHK H i fun c => match c with
        | .box ds0 => match Nat.beq ds0.length (len * ye.size) with
          | true => rdg True L x fun dx => bsrcK ye.size H dx fun es n => match Nat.ble (len + n) 1000000, D.freeL (off' + d) (ds0 ++ es) with
            | true, true => ltK d N (newK off' d (.bsl (off' + d) 0 (len + n) ye.size) (.box (ds0 ++ es)) L ((i, .gone) :: H) K)
            | _, _ => False
          | false => False
        | _ => False
      | _, _ => False
    | _ => False
  | _, _ => False
def appendK (tb : Tb) (N off' : Nat) (d t : Nat) (s x : Operand) (L : Sl) (H : Hp) (K : K2) : Prop := tyK tb t fun y => match y.kind with
  | .slice e => tyK tb e fun ye => match ye.kind with
    | .int k => zero0K ye k <| match Nat.beq ye.size 1, Nat.ble ye.bytes 8 with
      | true, true => rdg True L s fun ds => match ds with
        | .nil => rdg True L x fun dx => srcK k H dx fun ys => (True → ys.length ≤ 17592186044416) ∧ ltK d N (newK off' d (.osl (off' + d) 0 ys.length) (.arr k ys) L H K)
        | .osl i off len => match Nat.beq off 0 with
          | true => lookHK H i fun c => match c with
            | .arr k' xs => match kE k k' with
              | true => rdg True L x fun dx => srcK k H dx fun ys => (True → xs.length = len ∧ len + ys.length ≤ 17592186044416) ∧
                  ltK d N (newK off' d (.osl (off' + d) 0 (len + ys.length)) (.arr k (xs ++ ys)) L ((i, .gone) :: H) K)
              | false => False
            | _ => False
          | false => False
        | _ => False
      | _, _ => False
    | .struct _ => appendBK N off' d ye s x L H K
    | _ => False
  | _ => False
theorem le_grownCap (w : World) (n c : Nat) (e : TypeId) : n ≤ grownCap w n c e := by
  simp only [grownCap, Question.cut]; exact Nat.le_add_right _ _
theorem heap_drew' (w : World) : w.drew.heap = w.heap := rfl
theorem sat_gone {E : Env} {h : Pub} {a : Act} {w : World} (S : Sat cx E h a w L H) (i : Nat) : Sat cx E h a w L ((i, .gone) :: H) := by
  have live : ∀ j c, lookH ((i, .gone) :: H) j = some c → c.live = true → lookH H j = some c := by
    intro j c hc hl
    rw [lookH_cons] at hc
    split at hc
    · cases hc; simp [Chunk.live] at hl
    · exact hc
  refine { knows := S.knows, mem := ?_, agree := S.agree, since := S.since, low := S.low, side := S.side }
  refine { ok := ?_, base := fun j c hc hl hr => S.mem.base j c (live j c hc hl) hl hr, unpub := fun j c hc hl hr => S.mem.unpub j c (live j c hc hl) hl hr,
           inj := fun j k c1 c2 hjk h1 h2 l1 l2 => S.mem.inj j k c1 c2 hjk (live j c1 h1 l1) (live k c2 h2 l2) l1 l2 }
  intro j c hc
  cases hl : c.live with
  | false => cases c <;> first | trivial | simp [Chunk.live] at hl
  | true => exact S.mem.ok j c (live j c hc hl)
theorem appendB_el {d t e : Nat} {ye : Ty} {s x : Operand} (hu : P.underlying t = some (.slice e)) (hte : TyOk P e ye) (hns : ∀ k, P.underlying t ≠ some (.int k)) (hd : o.dst = some d) (ho : o.op = .call { callee := .builtin .append, args := #[s, x], argTypes := #[t, t] })
    (hh : appendBK N cx.off d ye s x L H K) : Heavy P N cx Q o K L H := by
  unfold appendBK at hh
  split at hh
  case h_2 => exact hh.elim
  rename_i hb1 hb2
  have hby := Nat.le_of_ble_eq_true hb1
  have hpos0 : 0 < ye.size := by
    rcases Nat.eq_zero_or_pos ye.size with e | e
    · rw [e] at hb2; simp at hb2
    · exact e
  have hz := rdg_el hh; clear hh; obtain ⟨ds, hh, hs⟩ := hz
  obtain ⟨iy, z, i1, i2, i3, i4, i5, i6, _, i8, _⟩ := hte.info
  have hexec : ∀ (a : Act) (w w' : World) (v : Value), (Builtin.append_ #[t, t] o.type #[a.eval s, a.eval x]).run P w = .ok v w' → (execOp a.eval o).run P w = .ok (.value v) w' := fun a w w' v e => by
    simp [execOp, ho, resolve, invoke, builtin, e]
  have hsize : ∀ w : World, (sizeOf e).run P w = .ok ye.size w := fun w => hte.sizeOf w
  split at hh
  · have hz := rdg_el hh; clear hh; obtain ⟨dx, hh, hdx⟩ := hz
    have hz := bsrc_el hh; clear hh; obtain ⟨es, n, hh, hn, hsrc⟩ := hz
    split at hh
    case h_2 => exact hh.elim
    rename_i hb3 hfr
    have hle := Nat.le_of_ble_eq_true hb3
    refine heavy_new hd hh fun E h a w S => ?_
    have hs0 := hs E h a trivial (S.facts.rd s)
    simp only [Den] at hs0
    obtain ⟨ad, cap, us, h3, h4, h5, h6, h7, h8⟩ := hsrc E h a w L S.facts _ (hdx E h a trivial (S.facts.rd x))
    have hrun := run_append_nil (P := P) w t o.type e iy z hu i1 i4 ad n cap us (by rw [h5, i2]) h8 hn (by omega) (by
      have : n * iy.bytes ≤ 1000000 * 4096 := Nat.mul_le_mul hle (by rw [i3]; exact hby)
      omega)
    rw [← hs0, ← h3] at hrun
    refine ⟨_, _, grownCap w n 0 e * ye.size, 0, hexec a w _ _ hrun, (Below.refl _ w).drew.alloc (Nat.le_refl _) _, ?_, ?_⟩
    · have hcap : n ≤ grownCap w n 0 e := le_grownCap _ _ _ _
      refine ⟨E.set_real _ _ _ _, us, (Builtin.zeroCells z.cells (grownCap w n 0 e - n)).toList, e, ?_, DenL.env (E.off_set _ _ _ _) hfr h6, h7, ?_⟩
      · rw [Env.set_blk]
        have := heap_alloc_new w.drew (.cells (us.toArray ++ Builtin.zeroCells z.cells (grownCap w n 0 e - n)) e)
        rw [show w.drew.heap.size = w.heap.size from rfl] at this
        rw [this]
        congr 2
        apply Array.toList_inj.1
        simp
      · rw [Env.set_siz]
        have : (Builtin.zeroCells z.cells (grownCap w n 0 e - n)).toList.length = (grownCap w n 0 e - n) * ye.size := by simp [Builtin.zeroCells, i8]
        rw [this, h5, ← Nat.add_mul]
        congr 1
        omega
    · simp only [Den]
      exact ⟨E.set_real _ _ _ _, _, by rw [Env.set_blk], le_grownCap _ _ _ _, by omega, .inr ⟨trivial, by rw [Env.set_siz]; exact Nat.le_refl _⟩⟩
  · rename_i i off len e'
    split at hh
    case h_2 => exact hh.elim
    rename_i hb3 hb4
    have hoff := nbeq_true hb3
    have he' := nbeq_true hb4
    subst hoff
    subst he'
    have hy' := lookHK_el hh; clear hh; obtain ⟨c, hc, hh⟩ := hy'
    split at hh
    case h_2 => exact hh.elim
    rename_i ds0
    cases hl0 : Nat.beq ds0.length (len * ye.size) with
    | false => rw [hl0] at hh; exact hh.elim
    | true =>
      rw [hl0] at hh
      have hl0 := nbeq_true hl0
      have hz := rdg_el hh; clear hh; obtain ⟨dx, hh, hdx⟩ := hz
      have hz := bsrc_el hh; clear hh; obtain ⟨es, n, hh, hn, hsrc⟩ := hz
      split at hh
      case h_2 => exact hh.elim
      rename_i hb5 hfr
      have hle := Nat.le_of_ble_eq_true hb5
      intro E h a w hN S next hnext
      obtain ⟨hlt, hK⟩ := ltK_el hh
      rw [newK_eq] at hK
      suffices hgoal : ∃ v w' E', (execOp a.eval o).run P w = .ok (.value v) w' ∧ Sat cx E' h (a.put (some d) v) w' ((d, .bsl (cx.off + d) 0 (len + n) ye.size) :: purge (cx.off + d) L) ((cx.off + d, .box (ds0 ++ es)) :: purgeH (cx.off + d) ((i, .gone) :: H)) by
        obtain ⟨v, w', E', h1, h2⟩ := hgoal
        unfold Oper.wp
        rw [h1]
        simp only [Oper.upon, hd]
        exact hnext _ _ _ _ _ _ hK (size_put _ _ _) h2
      have hden := hs E h a trivial (S.facts.rd s)
      have hdl : d < a.tmps.size := by omega
      obtain ⟨ad, cap, us, h3, h4, h5, h6, h7, h8⟩ := hsrc E h a w L S.facts _ (hdx E h a trivial (S.facts.rd x))
      simp only [Den] at hden
      obtain ⟨hreal, scap, hs0, g1, g2, g3⟩ := hden
      have Sg := sat_gone S i
      obtain ⟨_, vs, rest, T, hb, hdv, hov, hsz⟩ := S.mem.ok _ _ hc
      have hvl : vs.length = len * ye.size := by rw [hdv.length, hl0]
      by_cases hfit : len + n ≤ scap
      · -- there is room
        have hcs : scap * ye.size ≤ E.siz i := by
          rcases g3 with g3 | g3
          · omega
          · exact g3.2
        have hrest : (len + n) * ye.size ≤ vs.length + rest.length := by
          have := Nat.mul_le_mul_right ye.size hfit
          omega
        have hrest2 : vs.length + us.length ≤ vs.length + rest.length := by
          rw [Nat.add_mul] at hrest; omega
        obtain ⟨W, hW⟩ : ∃ W, W = w.setRow (E.blk i) (vs ++ us ++ rest.drop us.length).toArray := ⟨_, rfl⟩
        have hst := run_storeCells_at P (E.blk i) (len * ye.size) T us 0 (vs ++ rest).toArray w hb (by simp; omega) h7
        have hst2 : (storeCells ⟨E.blk i, len * ye.size, none⟩ us 0).run P w = .ok () W := by
          rw [hst, hW]
          congr 2
          apply Array.toList_inj.1
          simp only [Nat.add_zero, List.append_assoc]
          rw [List.take_append_of_le_length (by omega), List.take_of_length_le (by omega)]
          congr 2
          rw [List.drop_append, List.drop_of_length_le (by omega)]
          simp
          congr 1
          omega
        refine ⟨.slice (some ⟨E.blk i, 0, none⟩) (len + n) scap, W, E.set (cx.off + d) (E.blk i) (E.siz i) 0, hexec a w W _ ?_, ?_⟩
        · have hf := run_firstCells_some (P := P) w ye.size n ad n cap us h5 h8
          rw [hs0, h3]
          simp only [Builtin.append_]
          have hnz : (match (TypeDesc.slice e) with | .int _ => true | _ => false) = false := rfl
          simp only [Sem.run_bind, run_underlying hu, Result.andThen_ok, hsize, Builtin.lenOf, Sem.run_pure, hf, if_pos hfit, addr_add, Bool.false_eq_true, if_false, Bool.not_false, if_true,
            List.getElem?_toArray, List.getElem?_cons_zero, List.getElem?_cons_succ, Sem.run_ite, Nat.zero_add]
          rw [hst2]
          simp
        · refine Sg.fresh (b := E.blk i) (by rw [hW]; rfl) (by rw [hW]; rfl) (by rw [hW]; rfl) (by rw [hW, size_setRow]; exact Nat.le_refl _) (fun q _ hq => by rw [hW]; exact setRow_other w _ _ _ hq)
            (S.mem.base i _ hc rfl hreal) (S.mem.unpub i _ hc rfl hreal) (fun q hq => by obtain ⟨cs, T', f, hcell⟩ := (S.mem.ok i _ hc).cells rfl hreal; rw [hcell] at hq; cases hq; rfl) ?_ ?_ hdl (Nat.le_add_right _ _) ?_
          · intro j c' hj hc' hl hrj
            rw [lookH_cons] at hc'
            split at hc'
            · cases hc'; simp [Chunk.live] at hl
            · rename_i hij
              exact S.mem.inj j i c' _ (Ne.symm hij) hc' hc hl rfl hrj hreal
          · refine ⟨E.set_real _ _ _ _, vs ++ us, rest.drop us.length, T, ?_, DenL.env (E.off_set _ _ _ _) hfr (hdv.append h6), ?_, ?_⟩
            · rw [Env.set_blk, hW, setRow_heap w _ _ _ T (0, 0) hb]
            · intro v hv
              rcases List.mem_append.1 hv with hv | hv
              · exact hov v hv
              · exact h7 v hv
            · rw [Env.set_siz, hsz]; simp; omega
          · simp only [Den]
            exact ⟨E.set_real _ _ _ _, scap, by rw [Env.set_blk], hfit, by omega, .inr ⟨trivial, by rw [Env.set_siz]; exact hcs⟩⟩
      · -- a new block
        have holds : ∀ (j : Nat) v, vs[j]? = some v → w.cell? ((⟨E.blk i, 0, none⟩ : Addr).add j) = some v := by
          intro j v hv
          rw [addr_add, Nat.zero_add]
          exact cell_box hb hv
        have hrun := run_append_grow (P := P) w t o.type e iy z hu i1 i4 ⟨E.blk i, 0, none⟩ len scap vs (by rw [hvl, i2]) holds ad n cap us (by rw [h5, i2]) h8
          (by omega) (by omega) (growslice_fits (by omega) (by
            have : (len + n) * iy.bytes ≤ 1000000 * 4096 := Nat.mul_le_mul hle (by rw [i3]; exact hby)
            omega))
        rw [← hs0, ← h3] at hrun
        have hcap : len + n ≤ grownCap w (len + n) scap e := le_grownCap _ _ _ _
        refine ⟨_, _, E.set (cx.off + d) w.heap.size (grownCap w (len + n) scap e * ye.size) 0, hexec a w _ _ hrun, ?_⟩
        refine Sg.alloc ?_ ?_ hdl (Nat.le_add_right _ _) ?_
        · exact (Below.refl _ w).drew.alloc (Nat.le_refl _) _
        · refine ⟨E.set_real _ _ _ _, vs ++ us, (Builtin.zeroCells z.cells (grownCap w (len + n) scap e - (len + n))).toList, e, ?_, DenL.env (E.off_set _ _ _ _) hfr (hdv.append h6), ?_, ?_⟩
          · rw [Env.set_blk]
            have := heap_alloc_new w.drew (.cells (vs.toArray ++ us.toArray ++ Builtin.zeroCells z.cells (grownCap w (len + n) scap e - (len + n))) e)
            rw [show w.drew.heap.size = w.heap.size from rfl] at this
            rw [this]
            congr 2
            apply Array.toList_inj.1
            simp
          · intro v hv
            rcases List.mem_append.1 hv with hv | hv
            · exact hov v hv
            · exact h7 v hv
          · rw [Env.set_siz]
            have h9 : (Builtin.zeroCells z.cells (grownCap w (len + n) scap e - (len + n))).toList.length = (grownCap w (len + n) scap e - (len + n)) * ye.size := by simp [Builtin.zeroCells, i8]
            rw [h9, List.length_append, hvl, h5, ← Nat.add_mul, ← Nat.add_mul]
            congr 1
            omega
        · simp only [Den]
          exact ⟨E.set_real _ _ _ _, _, by rw [Env.set_blk], hcap, by omega, .inr ⟨trivial, by rw [Env.set_siz]; exact Nat.le_refl _⟩⟩
  · exact hh.elim
theorem append_el (htb : TbOk P tb) {d t : Nat} {s x : Operand} (hd : o.dst = some d) (ho : o.op = .call { callee := .builtin .append, args := #[s, x], argTypes := #[t, t] })
    (hh : appendK tb N cx.off d t s x L H K) : Heavy P N cx Q o K L H := by
  have hx := tyK_iff hh; clear hh; obtain ⟨y, hy, hh⟩ := hx
  have hty := htb _ _ hy
  split at hh
  case h_2 => exact hh.elim
  rename_i e hk
  have hu := kind_slice hty hk
  have hx := tyK_iff hh; clear hh; obtain ⟨ye, hye, hh⟩ := hx
  have hte := htb _ _ hye
  split at hh
  case h_2 => exact appendB_el hu hte (fun k h => by rw [hu] at h; cases h) hd ho hh
  case h_3 => exact hh.elim
  rename_i k hke
  have hz := zero0_el hh; clear hh; obtain ⟨hz0, hh⟩ := hz
  split at hh
  case h_2 => exact hh.elim
  rename_i hb1 hb2
  have hs1 := nbeq_true hb1
  have hb8 := Nat.le_of_ble_eq_true hb2
  have hz := rdg_el hh; clear hh; obtain ⟨ds, hh, hs⟩ := hz
  obtain ⟨iy, i1, i2, i3, z, i4, i5⟩ := zero_int hte
  have hsz1 : iy.size = 1 := by rw [i2, hs1]
  have hby : iy.bytes ≤ 8 := by rw [i3]; exact hb8
  have hue := kind_int hte hke
  have hexec : ∀ (a : Act) (w w' : World) (v : Value), (Builtin.append_ #[t, t] o.type #[a.eval s, a.eval x]).run P w = .ok v w' → (execOp a.eval o).run P w = .ok (.value v) w' := fun a w w' v e => by
    simp [execOp, ho, resolve, invoke, builtin, e]
  have hsize : ∀ w : World, (sizeOf e).run P w = .ok 1 w := fun w => by rw [hte.sizeOf w, hs1]
  -- the cells of what is appended
  have hcells : ∀ (a : Act) (w : World) (ys : List Int) (ad : Option Addr) (cap : Nat), (match ad with | none => ys = [] | some ad => ∀ (j : Nat) u, (ys.map (Value.int k))[j]? = some u → w.cell? (ad.add j) = some u) →
      (Builtin.firstCells 1 ys.length (.slice ad ys.length cap)).run P w = .ok (ys.map (Value.int k)).toArray w := fun a w ys ad cap hc => by
    cases ad with
    | none => simp only at hc; subst hc; simp [Builtin.firstCells]
    | some ad => exact run_firstCells_some w 1 ys.length ad _ cap (ys.map (Value.int k)) (by simp) hc
  -- nothing is there yet
  have nilCase : ∀ (xs0 : Value), (∀ E h a w, Sat cx E h a w L H → a.eval s = .slice none 0 0) → ∀ (dx : D) (ys : List Int), ys.length ≤ 17592186044416 →
      (∀ E h a (w : World) L, Facts E h a w L H → ∀ v, Den E h dx v → (∀ n ∈ ys, InR k n) ∧ ys.length ≤ 281474976710656 ∧ ∃ ad cap, v = .slice ad ys.length cap ∧
        (match ad with | none => ys = [] | some ad => ∀ (j : Nat) u, (ys.map (Value.int k))[j]? = some u → w.cell? (ad.add j) = some u)) →
      (∀ (E : Env) (h : Pub) (a : Act), True → Den E h (rd L x) (a.eval x) → Den E h dx (a.eval x)) →
      ∀ E h a w, Sat cx E h a w L H → d < a.tmps.size → ∃ v w' E', (execOp a.eval o).run P w = .ok (.value v) w' ∧ Sat cx E' h (a.put (some d) v) w' ((d, .osl (cx.off + d) 0 ys.length) :: purge (cx.off + d) L) ((cx.off + d, .arr k ys) :: purgeH (cx.off + d) H) := by
    intro _ hnil dx ys hlen hsrc hdx E h a w S hdl
    have hs0 := hnil E h a w S
    obtain ⟨h1, h2, ad, cap, h3, h4⟩ := hsrc E h a w L S.facts _ (hdx E h a trivial (S.facts.rd x))
    cases hys : ys with
    | nil =>
      subst hys
      refine ⟨.slice none 0 0, w, E.virt (cx.off + d), hexec a w w _ ?_, S.virt hdl (Nat.le_add_right _ _) (by simp only [Den]; exact .inl ⟨E.virt_real (cx.off + d), trivial, rfl⟩)⟩
      have hf := hcells a w [] ad cap h4
      simp only [List.length_nil, List.map_nil] at hf h3
      simp [Builtin.append_, hs0, h3, run_underlying hu, run_underlying hue, hsize, Builtin.lenOf, hf]
    | cons n ns =>
      cases ad with
      | none => simp only at h4; rw [h4] at hys; cases hys
      | some ad =>
        have hpos : 0 < ys.length := by rw [hys]; simp
        have hrun := run_append_nil (P := P) w t o.type e iy z hu i1 i4 ad ys.length cap (ys.map (Value.int k)) (by simp [hsz1]) h4 hpos (by omega) (by
          have : ys.length * iy.bytes ≤ ys.length * 8 := Nat.mul_le_mul_left _ hby
          omega)
        rw [← hs0, ← h3] at hrun
        rw [← hys]
        refine ⟨_, _, E.set (cx.off + d) w.heap.size (grownCap w ys.length 0 e) ys.length, hexec a w _ _ hrun, ?_⟩
        have hcap : ys.length ≤ grownCap w ys.length 0 e := le_grownCap _ _ _ _
        have hzsz : z.cells.size = 1 := by
          have h5 := (i5 E h).length
          rw [hz0] at h5; simpa using h5
        refine S.alloc ?_ ?_ hdl (Nat.le_add_right _ _) ?_
        · exact (Below.refl _ w).drew.alloc (Nat.le_refl _) _
        · refine .inr ⟨E.set_real _ _ _ _, (Builtin.zeroCells z.cells (grownCap w ys.length 0 e - ys.length)).toList, e, ?_, ?_, h1, by rw [Env.set_kn]⟩
          · rw [Env.set_blk]
            have := heap_alloc_new w.drew (.cells ((ys.map (Value.int k)).toArray ++ Builtin.zeroCells z.cells (grownCap w ys.length 0 e - ys.length)) e)
            rw [show w.drew.heap.size = w.heap.size from rfl] at this
            rw [this]
            congr 2
            apply Array.toList_inj.1
            simp
          · rw [Env.set_siz]
            simp [Builtin.zeroCells, hzsz]; omega
        · simp only [Den]
          exact .inr ⟨E.set_real _ _ _ _, 0, _, by rw [Env.set_blk], hcap, by rw [Env.set_siz]; omega, by omega, .inl rfl, by rw [Env.set_kn]; omega⟩
  split at hh
  · -- nil
    have hz := rdg_el hh; clear hh; obtain ⟨dx, hh, hdx⟩ := hz
    have hz := src_el hh; clear hh; obtain ⟨ys, hh, hsrc⟩ := hz
    obtain ⟨hlen, hK⟩ := hh
    intro E h a w hN S next hnext
    obtain ⟨hlt, hK⟩ := ltK_el hK
    rw [newK_eq] at hK
    obtain ⟨v, w', E', h1, h2⟩ := nilCase .nilIface (fun E h a w S => by
      have := hs E h a trivial (S.facts.rd s); simpa [Den] using this) dx ys (hlen trivial) hsrc (fun E h a _ hd => hdx E h a trivial hd) E h a w S (by omega)
    unfold Oper.wp
    rw [h1]
    simp only [Oper.upon, hd]
    exact hnext _ _ _ _ _ _ hK (size_put _ _ _) h2
  · rename_i i off len
    cases hb0 : Nat.beq off 0 with
    | false => rw [hb0] at hh; exact hh.elim
    | true =>
      rw [hb0] at hh
      have hoff := nbeq_true hb0; subst hoff
      have hy' := lookHK_el hh; clear hh; obtain ⟨c, hc, hh⟩ := hy'
      split at hh
      case h_2 => exact hh.elim
      rename_i k' xs
      split at hh
      case h_2 => exact hh.elim
      rename_i hkk
      have := kE_eq hkk; subst this
      have hz := rdg_el hh; clear hh; obtain ⟨dx, hh, hdx⟩ := hz
      have hz := src_el hh; clear hh; obtain ⟨ys, hh, hsrc⟩ := hz
      obtain ⟨hlen, hK⟩ := hh
      obtain ⟨hxl, hlen⟩ := hlen trivial
      intro E h a w hN S next hnext
      obtain ⟨hlt, hK⟩ := ltK_el hK
      rw [newK_eq] at hK
      suffices hgoal : ∃ v w' E', (execOp a.eval o).run P w = .ok (.value v) w' ∧ Sat cx E' h (a.put (some d) v) w' ((d, .osl (cx.off + d) 0 (len + ys.length)) :: purge (cx.off + d) L) ((cx.off + d, .arr k (xs ++ ys)) :: purgeH (cx.off + d) ((i, .gone) :: H)) by
        obtain ⟨v, w', E', h1, h2⟩ := hgoal
        unfold Oper.wp
        rw [h1]
        simp only [Oper.upon, hd]
        exact hnext _ _ _ _ _ _ hK (size_put _ _ _) h2
      have hden := hs E h a trivial (S.facts.rd s)
      have hdl : d < a.tmps.size := by omega
      obtain ⟨h1, h2, ad, cap, h3, h4⟩ := hsrc E h a w L S.facts _ (hdx E h a trivial (S.facts.rd x))
      simp only [Den] at hden
      have Sg := sat_gone S i
      rcases hden with ⟨hreal, hs0, hl0⟩ | ⟨hreal, so, scap, hs0, g1, g2, g3, g4, g5⟩
      · -- a list without a block
        have hx0 : xs = [] := List.length_eq_zero_iff.1 (by omega)
        subst hx0; subst hl0
        simp only [List.nil_append, Nat.zero_add]
        cases hys : ys with
        | nil =>
          subst hys
          refine ⟨.slice none 0 0, w, E.virt (cx.off + d), hexec a w w _ ?_, Sg.virt hdl (Nat.le_add_right _ _) (by simp only [Den]; exact .inl ⟨E.virt_real (cx.off + d), trivial, rfl⟩)⟩
          have hf := hcells a w [] ad cap h4
          simp only [List.length_nil, List.map_nil] at hf h3
          simp [Builtin.append_, hs0, h3, run_underlying hu, run_underlying hue, hsize, Builtin.lenOf, hf]
        | cons n ns =>
          cases ad with
          | none => simp only at h4; rw [h4] at hys; cases hys
          | some ad =>
            have hpos : 0 < ys.length := by rw [hys]; simp
            have hrun := run_append_nil (P := P) w t o.type e iy z hu i1 i4 ad ys.length cap (ys.map (Value.int k)) (by simp [hsz1]) h4 hpos (by omega) (by
              have : ys.length * iy.bytes ≤ ys.length * 8 := Nat.mul_le_mul_left _ hby
              omega)
            rw [← hs0, ← h3] at hrun
            rw [← hys]
            refine ⟨_, _, E.set (cx.off + d) w.heap.size (grownCap w ys.length 0 e) ys.length, hexec a w _ _ hrun, ?_⟩
            have hcap : ys.length ≤ grownCap w ys.length 0 e := le_grownCap _ _ _ _
            have hzsz : z.cells.size = 1 := by
              have h5 := (i5 E h).length
              rw [hz0] at h5; simpa using h5
            refine Sg.alloc ?_ ?_ hdl (Nat.le_add_right _ _) ?_
            · exact (Below.refl _ w).drew.alloc (Nat.le_refl _) _
            · refine .inr ⟨E.set_real _ _ _ _, (Builtin.zeroCells z.cells (grownCap w ys.length 0 e - ys.length)).toList, e, ?_, ?_, h1, by rw [Env.set_kn]⟩
              · rw [Env.set_blk]
                have := heap_alloc_new w.drew (.cells ((ys.map (Value.int k)).toArray ++ Builtin.zeroCells z.cells (grownCap w ys.length 0 e - ys.length)) e)
                rw [show w.drew.heap.size = w.heap.size from rfl] at this
                rw [this]
                congr 2
                apply Array.toList_inj.1
                simp
              · rw [Env.set_siz]
                simp [Builtin.zeroCells, hzsz]; omega
            · simp only [Den]
              exact .inr ⟨E.set_real _ _ _ _, 0, _, by rw [Env.set_blk], hcap, by rw [Env.set_siz]; omega, by omega, .inl rfl, by rw [Env.set_kn]; omega⟩
      · obtain ⟨rest, T, hb, hsz, hr, hkn⟩ := arr_real hreal (S.mem.ok _ _ hc)
        have hso : so = 0 ∨ scap = 0 := g4
        by_cases hfit : len + ys.length ≤ scap
        · -- there is room
          have hrest : len + ys.length ≤ xs.length + rest.length := by omega
          obtain ⟨W, hW⟩ : ∃ W, W = w.setRow (E.blk i) (setAt (xs.map (Value.int k) ++ rest) (so + len) (ys.map (Value.int k))).toArray := ⟨_, rfl⟩
          have hst := run_storeCells_at P (E.blk i) (so + len) T (ys.map (Value.int k)) 0 (xs.map (Value.int k) ++ rest).toArray w hb (by simp; omega) oneCell_ints
          refine ⟨.slice (some ⟨E.blk i, so, none⟩) (len + ys.length) scap, W, E.set (cx.off + d) (E.blk i) (E.siz i) (len + ys.length), hexec a w W _ ?_, ?_⟩
          · have hf := hcells a w ys ad cap h4
            rw [hs0, h3]
            simp only [Builtin.append_]
            simp only [Sem.run_bind, run_underlying hu, run_underlying hue, Result.andThen_ok, hsize, Builtin.lenOf, Sem.run_pure, hf, if_pos hfit, Nat.mul_one, addr_add, Bool.false_eq_true, if_false, Bool.not_false, if_true,
              List.getElem?_toArray, List.getElem?_cons_zero, List.getElem?_cons_succ, Sem.run_ite]
            rw [hst, hW]
            simp [setAt]
          · have hlen2 : so = 0 ∨ ys = [] := by
              rcases hso with h5 | h5
              · exact .inl h5
              · exact .inr (List.length_eq_zero_iff.1 (by omega))
            refine Sg.fresh (b := E.blk i) (by rw [hW]; rfl) (by rw [hW]; rfl) (by rw [hW]; rfl) (by rw [hW, size_setRow]; exact Nat.le_refl _) (fun q _ hq => by rw [hW]; exact setRow_other w _ _ _ hq)
              (S.mem.base i _ hc rfl hreal) (S.mem.unpub i _ hc rfl hreal) (fun q hq => by obtain ⟨cs, T', f, hcell⟩ := (S.mem.ok i _ hc).cells rfl hreal; rw [hcell] at hq; cases hq; rfl) ?_ ?_ hdl (Nat.le_add_right _ _) ?_
            · intro j c' hj hc' hl hrj
              rw [lookH_cons] at hc'
              split at hc'
              · cases hc'; simp [Chunk.live] at hl
              · rename_i hij
                exact S.mem.inj j i c' _ (Ne.symm hij) hc' hc hl rfl hrj hreal
            · refine .inr ⟨E.set_real _ _ _ _, rest.drop ys.length, T, ?_, ?_, ?_, by rw [Env.set_kn]; simp; omega⟩
              · rw [Env.set_blk, hW, setRow_heap w _ _ _ T (0, 0) hb]
                congr 2
                apply Array.toList_inj.1
                rcases hlen2 with h5 | h5
                · subst h5
                  simp only [setAt, Nat.zero_add, ← hxl, List.map_append]
                  rw [List.take_append_of_le_length (by simp), List.take_of_length_le (by simp)]
                  congr 1
                  rw [List.drop_append]
                  simp
                · subst h5
                  simp [setAt]
              · rw [Env.set_siz, hsz]; simp; omega
              · intro n hn
                rcases List.mem_append.1 hn with hn | hn
                · exact hr n hn
                · exact h1 n hn
            · simp only [Den]
              exact .inr ⟨E.set_real _ _ _ _, so, scap, by rw [Env.set_blk], hfit, by rw [Env.set_siz]; exact g2, by omega, hso, by rw [Env.set_kn]; omega⟩
        · -- a new block
          have hys : ys ≠ [] := by
            intro e0; subst e0; simp at hfit; omega
          cases ad with
          | none => exact absurd h4 hys
          | some ad =>
            have holds : ∀ (j : Nat) v, (xs.map (Value.int k))[j]? = some v → w.cell? ((⟨E.blk i, so, none⟩ : Addr).add j) = some v := by
              intro j v hv
              rw [addr_add]
              have hj : j < xs.length := by simpa using (List.getElem?_eq_some_iff.1 hv).1
              rcases hso with h5 | h5
              · subst h5
                rw [Nat.zero_add]
                refine cell_row hb ?_
                rw [List.getElem?_append_left (by simpa using hj)]; exact hv
              · omega
            have hrun := run_append_grow (P := P) w t o.type e iy z hu i1 i4 ⟨E.blk i, so, none⟩ len scap (xs.map (Value.int k)) (by simp [hsz1, hxl]) holds ad ys.length cap (ys.map (Value.int k)) (by simp [hsz1]) h4
              (by omega) (by omega) (growslice_fits (by omega) (by
                have : (len + ys.length) * iy.bytes ≤ (len + ys.length) * 8 := Nat.mul_le_mul_left _ hby
                omega))
            rw [← hs0, ← h3] at hrun
            have hcap : len + ys.length ≤ grownCap w (len + ys.length) scap e := le_grownCap _ _ _ _
            have hzsz : z.cells.size = 1 := by
              have h5 := (i5 E h).length
              rw [hz0] at h5; simpa using h5
            refine ⟨_, _, E.set (cx.off + d) w.heap.size (grownCap w (len + ys.length) scap e) (len + ys.length), hexec a w _ _ hrun, ?_⟩
            refine Sg.alloc ?_ ?_ hdl (Nat.le_add_right _ _) ?_
            · exact (Below.refl _ w).drew.alloc (Nat.le_refl _) _
            · refine .inr ⟨E.set_real _ _ _ _, (Builtin.zeroCells z.cells (grownCap w (len + ys.length) scap e - (len + ys.length))).toList, e, ?_, ?_, ?_, by rw [Env.set_kn]; simp; omega⟩
              · rw [Env.set_blk]
                have := heap_alloc_new w.drew (.cells ((xs.map (Value.int k)).toArray ++ (ys.map (Value.int k)).toArray ++ Builtin.zeroCells z.cells (grownCap w (len + ys.length) scap e - (len + ys.length))) e)
                rw [show w.drew.heap.size = w.heap.size from rfl] at this
                rw [this]
                congr 2
                apply Array.toList_inj.1
                simp
              · rw [Env.set_siz]
                simp [Builtin.zeroCells, hzsz]; omega
              · intro n hn
                rcases List.mem_append.1 hn with hn | hn
                · exact hr n hn
                · exact h1 n hn
            · simp only [Den]
              exact .inr ⟨E.set_real _ _ _ _, 0, _, by rw [Env.set_blk], hcap, by rw [Env.set_siz]; omega, by omega, .inl rfl, by rw [Env.set_kn]; omega⟩
  · exact hh.elim
end
end Go.V
end
section
namespace Go.V
open Go Go.RowKit
section
variable {P : Program} {tb : Tb} {N : Nat} {cx : Cx} {Q : Exit → Act → World → Prop} {o : Oper} {L : Sl} {H : Hp} {K : K2}
def dstK (N : Nat) (dst : Option Nat) (r : D) (L : Sl) (K : Sl → Prop) : Prop := match dst with
  | none => K L
  | some d => ltK d N (K ((d, r) :: L))
theorem dst_el {N : Nat} {dst : Option Nat} {r : D} {L : Sl} {K : Sl → Prop} (h : dstK N dst r L K) :
    ∃ L', K L' ∧ ∀ E hp a w H v, N ≤ a.tmps.size → Sat cx E hp a w L H → Den E hp r v → Sat cx E hp (a.put dst v) w L' H := by
  cases dst with
  | none => exact ⟨L, h, fun E hp a w H v _ S _ => S⟩
  | some d =>
    obtain ⟨h1, h2⟩ := ltK_el h
    exact ⟨_, h2, fun E hp a w H v hN S hv => S.put (by omega) hv⟩
def intsAt (k : IntKind) (ys : List Int) : Nat → Nat → List D
  | 0, _ => []
  | m + 1, j => .int k (ys.getD j 0) :: intsAt k ys m (j + 1)
theorem denL_intsAt {E : Env} {h : Pub} {k : IntKind} {ys : List Int} (hr : ∀ n ∈ ys, InR k n) : ∀ (m j : Nat), j + m ≤ ys.length → DenL E h (intsAt k ys m j) (((ys.drop j).take m).map (Value.int k))
  | 0, j, _ => by simp [intsAt, DenL]
  | m + 1, j, hj => by
    have hlt : j < ys.length := by omega
    rw [List.drop_eq_getElem_cons hlt, List.take_succ_cons, List.map_cons]
    simp only [intsAt, DenL]
    have e : ys.getD j 0 = ys[j] := by simp [List.getD_eq_getElem?_getD, hlt]
    refine ⟨_, _, rfl, ?_, denL_intsAt hr m (j + 1) (by omega)⟩
    rw [e]
    simp only [Den]
    exact ⟨trivial, hr _ (List.getElem_mem hlt)⟩
def copyK (tb : Tb) (N : Nat) (dst : Option Nat) (t : Nat) (s x : Operand) (L : Sl) (H : Hp) (K : K2) : Prop := tyK tb t fun y => match y.kind with
  | .slice e => tyK tb e fun ye => match ye.kind with
    | .int k => match Nat.beq ye.size 1 with
      | true => rdg True L s fun ds => match ds with
        | .osl i off len => lookHK H i fun c => match c with
          | .arr k' xs => match kE k k' with
            | true => rdg True L x fun dx => srcK k H dx fun ys => (True → 0 < len ∧ off + len ≤ xs.length) ∧
                dstK N dst (.int .i64 (min ys.length len : Nat)) L fun L' => K L' ((i, .arr k (setAt xs off (ys.take len))) :: H)
            | false => False
          | _ => False
        | .bsl i off len es => match Nat.beq es 1 with
          | true => lookHK H i fun c => match c with
            | .box dss => rdg True L x fun dx => srcK k H dx fun ys => (True → len ≤ ys.length) ∧ setAtK dss off (intsAt k ys len 0) fun ds' =>
                dstK N dst (.int .i64 (len : Nat)) L fun L' => K L' ((i, .box ds') :: H)
            | _ => False
          | false => False
        | _ => False
      | false => False
    | _ => False
  | _ => False
theorem copy_el (htb : TbOk P tb) {t : Nat} {s x : Operand} (ho : o.op = .call { callee := .builtin .copy, args := #[s, x], argTypes := #[t, t] })
    (hh : copyK tb N o.dst t s x L H K) : Heavy P N cx Q o K L H := by
  have hx := tyK_iff hh; clear hh; obtain ⟨y, hy, hh⟩ := hx
  have hty := htb _ _ hy
  split at hh
  case h_2 => exact hh.elim
  rename_i e hk
  have hu := kind_slice hty hk
  have hx := tyK_iff hh; clear hh; obtain ⟨ye, hye, hh⟩ := hx
  have hte := htb _ _ hye
  split at hh
  case h_2 => exact hh.elim
  rename_i k hke
  cases hb1 : Nat.beq ye.size 1 with
  | false => rw [hb1] at hh; exact hh.elim
  | true =>
    rw [hb1] at hh
    have hs1 := nbeq_true hb1
    have hz := rdg_el hh; clear hh; obtain ⟨ds, hh, hs⟩ := hz
    split at hh
    case h_3 => exact hh.elim
    case h_2 =>
      rename_i i off len es
      cases hb2 : Nat.beq es 1 with
      | false => rw [hb2] at hh; exact hh.elim
      | true =>
        rw [hb2] at hh
        have hy' := lookHK_el hh; clear hh; obtain ⟨c, hc, hh⟩ := hy'
        split at hh
        case h_2 => exact hh.elim
        rename_i dss
        have hz := rdg_el hh; clear hh; obtain ⟨dx, hh, hdx⟩ := hz
        have hz := src_el hh; clear hh; obtain ⟨ys, hh, hsrc⟩ := hz
        obtain ⟨hlen, hh⟩ := hh
        have hlen := hlen trivial
        obtain ⟨hle, hK⟩ := setAtK_el hh
        obtain ⟨L', hK, hput⟩ := dst_el (cx := cx) hK
        intro E h a w hN S next hnext
        have hden := hs E h a trivial (S.facts.rd s)
        obtain ⟨h1, h2, ad, cap, h3, h4⟩ := hsrc E h a w L S.facts _ (hdx E h a trivial (S.facts.rd x))
        simp only [Den] at hden
        obtain ⟨hreal, cap0, hs0, hlc, hl2, _⟩ := hden
        obtain ⟨_, vs, rest, T, hb, hd1, hd2, hszr0⟩ := S.mem.ok _ _ hc
        have hil : ∀ m j, (intsAt k ys m j).length = m := by
          intro m
          induction m with
          | zero => intro j; rfl
          | succ m ih => intro j; simp [intsAt, ih]
        rw [hil] at hle
        have hvl := hd1.length
        obtain ⟨W, hW⟩ : ∃ W, W = w.setRow (E.blk i) (setAt (vs ++ rest) off ((ys.take len).map (Value.int k))).toArray := ⟨_, rfl⟩
        have hml : ((ys.take len).map (Value.int k)).length = len := by simp; omega
        have hrun : (Builtin.copy_ #[t, t] o.type #[a.eval s, a.eval x]).run P w = .ok (.int .i64 (len : Nat)) W := by
          rw [hs0, h3]
          have hst := run_storeCells_at P (E.blk i) off T ((ys.take len).map (Value.int k)) 0 (vs ++ rest).toArray w hb (by simp; omega) oneCell_ints
          have hload : (Builtin.firstCells 1 (min ys.length len) (.slice ad ys.length cap)).run P w = .ok ((ys.take len).map (Value.int k)).toArray w := by
            cases ad with
            | none => simp only at h4; subst h4; simp [Builtin.firstCells]
            | some ad =>
              rw [show min ys.length len = ((ys.take len).map (Value.int k)).length by simp [Nat.min_comm]]
              exact run_firstCells_some w 1 _ ad _ cap ((ys.take len).map (Value.int k)) (by simp) (fun j u hu => h4 j u (by rw [List.map_take] at hu; exact take_some hu))
          have hszr : (sizeOf e).run P w = .ok 1 w := by rw [hte.sizeOf w, hs1]
          simp only [Builtin.copy_, List.getElem?_toArray, List.getElem?_cons_zero, List.getElem?_cons_succ, Sem.run_bind, run_underlying hu, Result.andThen_ok, Builtin.lenOf, Sem.run_pure, hszr]
          rw [show Nat.min ys.length len = min ys.length len from rfl, hload]
          simp only [Result.andThen_ok]
          rw [hst, hW]
          simp [setAt, goInt]
          omega
        unfold Oper.wp
        rw [show (execOp a.eval o).run P w = .ok (.value (.int .i64 (len : Nat))) W by simp [execOp, ho, resolve, invoke, builtin, hrun]]
        simp only [Oper.upon]
        refine hnext _ _ E h _ _ hK (size_put _ _ _) ?_
        refine hput E h a W _ _ hN ?_ (by simp only [Den]; exact ⟨trivial, len_inR (by omega)⟩)
        refine S.write hc rfl hreal (by rw [hW]; rfl) (by rw [hW]; rfl) (by rw [hW]; rfl) (by rw [hW, size_setRow]) (fun b hb => by rw [hW]; exact setRow_other w _ _ _ hb) ?_
        have hdi := denL_intsAt (E := E) (h := h) h1 len 0 (by omega)
        rw [List.drop_zero] at hdi
        have hft : off + ((ys.take len).map (Value.int k)).length ≤ vs.length := by rw [hml]; omega
        exact ⟨hreal, _, rest, T, by rw [hW, setRow_heap w _ _ _ T (0, 0) hb, setAt_app hft], hd1.setAt hdi off, mem_setAt hd2 oneCell_ints, by rw [length_setAt hft]; exact hszr0⟩
    rename_i i off len
    have hy' := lookHK_el hh; clear hh; obtain ⟨c, hc, hh⟩ := hy'
    split at hh
    case h_2 => exact hh.elim
    rename_i k' xs
    split at hh
    case h_2 => exact hh.elim
    rename_i hkk
    have := kE_eq hkk; subst this
    have hz := rdg_el hh; clear hh; obtain ⟨dx, hh, hdx⟩ := hz
    have hz := src_el hh; clear hh; obtain ⟨ys, hh, hsrc⟩ := hz
    obtain ⟨hlen, hK⟩ := hh
    obtain ⟨hpos, hfit⟩ := hlen trivial
    obtain ⟨L', hK, hput⟩ := dst_el (cx := cx) hK
    intro E h a w hN S next hnext
    have hden := hs E h a trivial (S.facts.rd s)
    obtain ⟨h1, h2, ad, cap, h3, h4⟩ := hsrc E h a w L S.facts _ (hdx E h a trivial (S.facts.rd x))
    simp only [Den] at hden
    rcases hden with ⟨_, _, hl0⟩ | ⟨hreal, so, scap, hs0, g1, g2, g3, g4, g5⟩
    · omega
    have hso : so = off := by rcases g4 with g4 | g4 <;> omega
    subst hso
    obtain ⟨rest, T, hb, hsz, hr, hkn⟩ := arr_real hreal (S.mem.ok _ _ hc)
    obtain ⟨iy, i1, i2, i3, z, i4, i5⟩ := zero_int hte
    -- the world behind
    obtain ⟨W, hW⟩ : ∃ W, W = w.setRow (E.blk i) (setAt (xs.map (Value.int k) ++ rest) so ((ys.take len).map (Value.int k))).toArray := ⟨_, rfl⟩
    have hrun : (Builtin.copy_ #[t, t] o.type #[a.eval s, a.eval x]).run P w = .ok (.int .i64 (min ys.length len : Nat)) W := by
      rw [hs0, h3]
      have hst := run_storeCells_at P (E.blk i) so T ((ys.take len).map (Value.int k)) 0 (xs.map (Value.int k) ++ rest).toArray w hb (by simp; omega) oneCell_ints
      have hmin : ((ys.take len).map (Value.int k)).length = min ys.length len := by simp [Nat.min_comm]
      have hload : (Builtin.firstCells 1 (min ys.length len) (.slice ad ys.length cap)).run P w = .ok ((ys.take len).map (Value.int k)).toArray w := by
        cases ad with
        | none => simp only at h4; subst h4; simp [Builtin.firstCells]
        | some ad =>
          rw [← hmin]
          exact run_firstCells_some w 1 _ ad _ cap ((ys.take len).map (Value.int k)) (by simp) (fun j u hu => h4 j u (by rw [List.map_take] at hu; exact take_some hu))
      have hszr : (sizeOf e).run P w = .ok 1 w := by rw [hte.sizeOf w, hs1]
      simp only [Builtin.copy_, List.getElem?_toArray, List.getElem?_cons_zero, List.getElem?_cons_succ, Sem.run_bind, run_underlying hu, Result.andThen_ok, Builtin.lenOf, Sem.run_pure, hszr]
      rw [show Nat.min ys.length len = min ys.length len from rfl, hload]
      simp only [Result.andThen_ok]
      rw [hst, hW]
      simp [setAt, goInt]
    unfold Oper.wp
    rw [show (execOp a.eval o).run P w = .ok (.value (.int .i64 (min ys.length len : Nat))) W by simp [execOp, ho, resolve, invoke, builtin, hrun]]
    simp only [Oper.upon]
    refine hnext _ _ E h _ _ hK (size_put _ _ _) ?_
    refine hput E h a W _ _ hN ?_ (by simp only [Den]; exact ⟨trivial, len_inR (by omega)⟩)
    refine S.write hc rfl hreal (by rw [hW]; rfl) (by rw [hW]; rfl) (by rw [hW]; rfl) (by rw [hW, size_setRow]) (fun b hb => by rw [hW]; exact setRow_other w _ _ _ hb) ?_
    have hl : (setAt xs so (ys.take len)).length = xs.length := length_setAt (by simp; omega)
    refine .inr ⟨hreal, rest, T, ?_, by rw [hl]; exact hsz, ?_, by rw [hl]; exact hkn⟩
    · rw [hW, setRow_heap w _ _ _ T (0, 0) hb]
      congr 2
      apply Array.toList_inj.1
      simp only [setAt, List.map_append, List.map_take, List.map_drop]
      rw [List.take_append_of_le_length (by simp; omega), List.drop_append_of_le_length (by simp; omega)]
      simp
    · exact mem_setAt hr (fun n hn => h1 n (List.mem_of_mem_take hn))
end
end Go.V
end
section
namespace Go.V
open Go Go.RowKit
def sub0 (k : IntKind) (xs : List Int) (off len : Nat) : D := match off with
  | 0 => .ints k (xs.take len)
  | o + 1 => .ints k ((xs.drop (o + 1)).take len)
theorem sub0_eq (k : IntKind) (xs : List Int) (off len : Nat) : sub0 k xs off len = .ints k ((xs.drop off).take len) := by cases off <;> rfl
def subK (k : IntKind) (xs : List Int) (off len : Nat) (K : D → Prop) : Prop := match off with
  | 0 => K (.ints k (xs.take len))
  | o + 1 => K (.ints k ((xs.drop (o + 1)).take len))
theorem subK_eq (k : IntKind) (xs : List Int) (off len : Nat) (K : D → Prop) : subK k xs off len K = K (sub0 k xs off len) := by cases off <;> rfl
def bslOk (ds : List D) (off len e : Nat) : Bool := match D.pureL ds with
  | true => Nat.ble (off + len * e) ds.length
  | false => false
mutual
def pubD (i : Nat) (c : Chunk) : D → D
  | .osl j off len => match Nat.beq i j with
    | true => match c with | .arr k xs => sub0 k xs off len | _ => .any
    | false => .osl j off len
  | .box j off => match Nat.beq i j with
    | true => match c with | .box ds => .ref (ds.drop off) | .arr k xs => .ref ((xs.map (D.int k)).drop off) | _ => .any
    | false => .box j off
  | .bsl j off len e => match Nat.beq i j with
    | true => match c with
      | .box ds => match bslOk ds off len e with | true => .slf e len (fun q => (ds.drop (off + q * e)).take e) | false => .any
      | .arr k xs => match Nat.beq e 1, Nat.ble (off + len) xs.length with | true, true => sub0 k xs off len | _, _ => .any
      | _ => .any
    | false => .bsl j off len e
  | .agg ds => .agg (pubL i c ds)
  | .tup ds => .tup (pubL i c ds)
  | .fn f es ds => .fn f (pubL i c es) (pubL i c ds)
  | .ref ds => .ref (pubL i c ds)
  | .gd b d => .gd b (pubD i c d)
  | .any => .any
  | .undef => .undef
  | .bool b => .bool b
  | .int k n => .int k n
  | .str s => .str s
  | .nil => .nil
  | .ints k xs => .ints k xs
  | .slf e n f => .slf e n f
  | .iarr k xs => .iarr k xs
  | .gp g => .gp g
  | .yld g => .yld g
  | .val g => .val g
  | .anyb p => .anyb p
def pubL (i : Nat) (c : Chunk) : List D → List D
  | [] => []
  | d :: ds => pubD i c d :: pubL i c ds
end
mutual
def pubDK (i : Nat) (c : Chunk) : D → (D → Prop) → Prop
  | .osl j off len, K => match Nat.beq i j with
    | true => match c with | .arr k xs => subK k xs off len K | _ => K .any
    | false => K (.osl j off len)
  | .box j off, K => match Nat.beq i j with
    | true => match c with | .box ds => K (.ref (ds.drop off)) | .arr k xs => K (.ref ((xs.map (D.int k)).drop off)) | _ => K .any
    | false => K (.box j off)
  | .bsl j off len e, K => match Nat.beq i j with
    | true => match c with
      | .box ds => match bslOk ds off len e with | true => K (.slf e len (fun q => (ds.drop (off + q * e)).take e)) | false => K .any
      | .arr k xs => match Nat.beq e 1, Nat.ble (off + len) xs.length with | true, true => subK k xs off len K | _, _ => K .any
      | _ => K .any
    | false => K (.bsl j off len e)
  | .agg ds, K => pubLK i c ds fun ds => K (.agg ds)
  | .tup ds, K => pubLK i c ds fun ds => K (.tup ds)
  | .fn f es ds, K => pubLK i c es fun es => pubLK i c ds fun ds => K (.fn f es ds)
  | .ref ds, K => pubLK i c ds fun ds => K (.ref ds)
  | .gd b d, K => pubDK i c d fun d => K (.gd b d)
  | .any, K => K .any
  | .undef, K => K .undef
  | .bool b, K => K (.bool b)
  | .int k n, K => K (.int k n)
  | .str s, K => K (.str s)
  | .nil, K => K .nil
  | .ints k xs, K => K (.ints k xs)
  | .slf e n f, K => K (.slf e n f)
  | .iarr k xs, K => K (.iarr k xs)
  | .gp g, K => K (.gp g)
  | .yld g, K => K (.yld g)
  | .val g, K => K (.val g)
  | .anyb p, K => K (.anyb p)
def pubLK (i : Nat) (c : Chunk) : List D → (List D → Prop) → Prop
  | [], K => K []
  | d :: ds, K => pubDK i c d fun d => pubLK i c ds fun ds => K (d :: ds)
end
mutual
theorem pubDK_eq (i : Nat) (c : Chunk) : ∀ (d : D) (K : D → Prop), pubDK i c d K = K (pubD i c d)
  | .osl j off len, K => by
    simp only [pubDK, pubD]
    cases Nat.beq i j <;> simp only
    cases c <;> simp only [subK_eq]
  | .box j off, K => by
    simp only [pubDK, pubD]
    cases Nat.beq i j <;> simp only
    cases c <;> simp only
  | .bsl j off len e, K => by
    simp only [pubDK, pubD]
    cases Nat.beq i j <;> simp only
    cases c <;> simp only
    · rename_i ds
      cases bslOk ds off len e <;> simp only
    · rename_i k xs
      cases Nat.beq e 1 <;> cases Nat.ble (off + len) xs.length <;> simp only [subK_eq]
  | .agg ds, K => by simp only [pubDK, pubD]; exact pubLK_eq i c ds _
  | .tup ds, K => by simp only [pubDK, pubD]; exact pubLK_eq i c ds _
  | .fn f es ds, K => by simp only [pubDK, pubD]; rw [pubLK_eq i c es]; exact pubLK_eq i c ds _
  | .ref ds, K => by simp only [pubDK, pubD]; exact pubLK_eq i c ds _
  | .gd b d, K => by simp only [pubDK, pubD]; exact pubDK_eq i c d _
  | .any, K => by simp only [pubDK, pubD]
  | .undef, K => by simp only [pubDK, pubD]
  | .bool b, K => by simp only [pubDK, pubD]
  | .int k n, K => by simp only [pubDK, pubD]
  | .str s, K => by simp only [pubDK, pubD]
  | .nil, K => by simp only [pubDK, pubD]
  | .ints k xs, K => by simp only [pubDK, pubD]
  | .slf e n f, K => by simp only [pubDK, pubD]
  | .iarr k xs, K => by simp only [pubDK, pubD]
  | .gp g, K => by simp only [pubDK, pubD]
  | .yld g, K => by simp only [pubDK, pubD]
  | .val g, K => by simp only [pubDK, pubD]
  | .anyb g, K => by simp only [pubDK, pubD]
theorem pubLK_eq (i : Nat) (c : Chunk) : ∀ (ds : List D) (K : List D → Prop), pubLK i c ds K = K (pubL i c ds)
  | [], K => by simp only [pubLK, pubL]
  | d :: ds, K => by simp only [pubLK, pubL]; rw [pubDK_eq i c d]; exact pubLK_eq i c ds _
end
def pubSl (i : Nat) (c : Chunk) : Sl → Sl
  | [] => []
  | (t, d) :: L => (t, pubD i c d) :: pubSl i c L
def pubSlK (i : Nat) (c : Chunk) : Sl → (Sl → Prop) → Prop
  | [], K => K []
  | (t, d) :: L, K => pubDK i c d fun d => pubSlK i c L fun L => K ((t, d) :: L)
theorem pubSlK_eq (i : Nat) (c : Chunk) (L : Sl) (K : Sl → Prop) : pubSlK i c L K = K (pubSl i c L) := by
  induction L generalizing K with
  | nil => rfl
  | cons x L ih => obtain ⟨t, d⟩ := x; simp only [pubSlK, pubSl, pubDK_eq, ih]
theorem look_pub (i : Nat) (c : Chunk) (L : Sl) (t : Nat) : look (pubSl i c L) t = pubD i c (look L t) := by
  induction L with
  | nil => simp [pubSl, look, pubD]
  | cons x L ih =>
    obtain ⟨s, d⟩ := x
    simp only [pubSl, look_cons]
    split
    · rfl
    · exact ih
def pubC (i : Nat) (c : Chunk) : Chunk → Chunk
  | .box ds => .box (pubL i c ds)
  | .arr k xs => .arr k xs
  | .gone => .gone
  | .lp p => .lp p
def pubHp (i : Nat) (c : Chunk) : Hp → Hp
  | [] => []
  | (j, x) :: H => (j, pubC i c x) :: pubHp i c H
def pubHpK (i : Nat) (c : Chunk) : Hp → (Hp → Prop) → Prop
  | [], K => K []
  | (j, x) :: H, K => match x with
    | .box ds => pubLK i c ds fun ds => pubHpK i c H fun H => K ((j, .box ds) :: H)
    | .arr k xs => pubHpK i c H fun H => K ((j, .arr k xs) :: H)
    | .gone => pubHpK i c H fun H => K ((j, .gone) :: H)
    | .lp p => pubHpK i c H fun H => K ((j, .lp p) :: H)
theorem pubHpK_eq (i : Nat) (c : Chunk) (H : Hp) (K : Hp → Prop) : pubHpK i c H K = K (pubHp i c H) := by
  induction H generalizing K with
  | nil => rfl
  | cons x H ih =>
    obtain ⟨t, d⟩ := x
    cases d <;> simp only [pubHpK, pubHp, pubC, pubLK_eq, ih]
theorem lookH_pub {i : Nat} {c : Chunk} {H : Hp} {j : Nat} {x : Chunk} (h : lookH (pubHp i c H) j = some x) : ∃ y, lookH H j = some y ∧ x = pubC i c y := by
  induction H with
  | nil => simp [pubHp, lookH] at h
  | cons z H ih =>
    obtain ⟨s, d⟩ := z
    simp only [pubHp] at h
    rw [lookH_cons] at h ⊢
    split
    · rename_i e; rw [if_pos e] at h; exact ⟨d, rfl, (Option.some.inj h).symm⟩
    · rename_i e; rw [if_neg e] at h; exact ih h
def chunkVals (vs : List Value) (b : Nat) (h : Pub) : Pub := fun b' o => if b' = b then vs[o]? else h b' o
theorem denL_ofInts {E : Env} {h : Pub} {k : IntKind} : ∀ {xs : List Int}, (∀ n ∈ xs, InR k n) → DenL E h (xs.map (D.int k)) (xs.map (Value.int k))
  | [], _ => by simp [DenL]
  | x :: xs, H => by
    simp only [List.map_cons, DenL]
    exact ⟨_, _, rfl, by simp only [Den]; exact ⟨trivial, H x (by simp)⟩, denL_ofInts fun n hn => H n (by simp [hn])⟩
section
variable {E : Env} {h h' : Pub} {i : Nat} {c : Chunk}
def Handed (E : Env) (h' : Pub) (i : Nat) (c : Chunk) : Prop := match c with
  | .arr k xs => E.kn i = xs.length ∧ (∀ n ∈ xs, InR k n) ∧ ∀ (o : Nat) (n : Int), xs[o]? = some n → h' (E.blk i) o = some (.int k n)
  | .box ds => ∃ vs, DenL E h' ds vs ∧ (∀ v ∈ vs, v.oneCell' = true) ∧ ∀ (o : Nat) v, vs[o]? = some v → h' (E.blk i) o = some v
  | .gone => False
  | .lp _ => False
mutual
theorem Den.pub (hh : h.Le h') (hr : E.real i = false → ∃ k, c = .arr k []) (hc : E.real i = true → Handed E h' i c) : ∀ {d : D} {v : Value}, Den E h d v → Den E h' (pubD i c d) v
  | .osl j off len, v, H => by
    simp only [pubD]
    cases hb : Nat.beq i j with
    | false => simpa [Den] using H
    | true =>
      have := nbeq_true hb; subst this
      cases c with
      | gone => simp [Den]
      | lp p => simp [Den]
      | box ds => simp [Den]
      | arr k xs =>
        simp only [Den] at H
        rcases H with ⟨H, rfl, hl0⟩ | ⟨hreal, o, cap, rfl, g1, g2, g3, g4, g5⟩
        · obtain ⟨k', hk⟩ := hr H
          cases hk
          subst hl0
          simp only
          rw [sub0_eq]
          simp only [Den, slIntsOk]
          exact ⟨none, 0, by simp, by simp, by simp, by simp, by simp⟩
        obtain ⟨h1, h2, h3⟩ := hc hreal
        simp only
        rw [sub0_eq]
        simp only [Den, slIntsOk]
        have hlen : ((xs.drop off).take len).length = len := by simp; omega
        refine ⟨some ⟨E.blk i, o, none⟩, cap, by rw [hlen], by omega, by omega, fun n hn => h2 n (List.mem_of_mem_drop (List.mem_of_mem_take hn)), rfl, ?_⟩
        intro j n hn
        have hj : j < len := by rw [← hlen]; exact (List.getElem?_eq_some_iff.1 hn).1
        have ho : o = off := by rcases g4 with g4 | g4 <;> omega
        subst ho
        exact h3 _ _ (by simpa using take_some hn)
  | .box j off, v, H => by
    simp only [pubD]
    cases hb : Nat.beq i j with
    | false => simpa [Den] using H
    | true =>
      have := nbeq_true hb; subst this
      cases c with
      | gone => simp [Den]
      | lp p => simp [Den]
      | arr k xs =>
        simp only [Den] at H ⊢
        obtain ⟨_, h2, h3⟩ := hc H.2
        refine ⟨_, _, H.1, (xs.map (Value.int k)).drop off, (denL_ofInts h2).drop off, fun v hv => ?_, fun j v hv => ?_⟩
        · obtain ⟨n, _, rfl⟩ := List.mem_map.1 (List.mem_of_mem_drop hv)
          rfl
        · rw [List.getElem?_drop, List.getElem?_map] at hv
          obtain ⟨n, hn, rfl⟩ := Option.map_eq_some_iff.1 hv
          exact h3 _ n hn
      | box ds =>
        simp only [Den] at H ⊢
        obtain ⟨vs, h1, h2, h3⟩ := hc H.2
        exact ⟨_, _, H.1, vs.drop off, h1.drop off, fun v hv => h2 v (List.mem_of_mem_drop hv), fun j v hv => h3 _ v (by simpa using hv)⟩
  | .bsl j off len e, v, H => by
    simp only [pubD]
    cases hb : Nat.beq i j with
    | false => simpa [Den] using H
    | true =>
      have := nbeq_true hb; subst this
      cases c with
      | gone => simp [Den]
      | lp p => simp [Den]
      | arr k xs =>
        simp only
        cases he : Nat.beq e 1 with
        | false => simp [Den]
        | true =>
          cases hl : Nat.ble (off + len) xs.length with
          | false => simp [Den]
          | true =>
            have hle := Nat.le_of_ble_eq_true hl
            simp only [Den] at H
            obtain ⟨hreal, cap, rfl, hlc, hlen0, _⟩ := H
            obtain ⟨h1, h2, h3⟩ := hc hreal
            simp only
            rw [sub0_eq]
            simp only [Den, slIntsOk]
            have hlen : ((xs.drop off).take len).length = len := by simp; omega
            refine ⟨some ⟨E.blk i, off, none⟩, cap, by rw [hlen], by omega, by omega, fun n hn => h2 n (List.mem_of_mem_drop (List.mem_of_mem_take hn)), rfl, ?_⟩
            intro j n hn
            exact h3 _ _ (by simpa using take_some hn)
      | box ds =>
        simp only
        cases hok : bslOk ds off len e with
        | false => simp [Den]
        | true =>
          unfold bslOk at hok
          cases hp : D.pureL ds with
          | false => rw [hp] at hok; cases hok
          | true =>
            rw [hp] at hok
            have hle := Nat.le_of_ble_eq_true hok
            simp only [Den] at H ⊢
            obtain ⟨hreal, cap, rfl, hlc, hlen, _⟩ := H
            obtain ⟨vs, h1, h2, h3⟩ := hc hreal
            have hvl := h1.length
            refine ⟨some ⟨E.blk i, off, none⟩, cap, rfl, hlc, hlen, rfl, fun q hq => ?_⟩
            have hqe : off + q * e + e ≤ ds.length := by
              have : (q + 1) * e ≤ len * e := Nat.mul_le_mul_right e hq
              rw [Nat.add_mul] at this
              omega
            refine ⟨(vs.drop (off + q * e)).take e, ((DenL.pure (E' := Env.dummy) hp h1).drop _).take _, by simp; omega, fun v hv => h2 v (List.mem_of_mem_drop (List.mem_of_mem_take hv)), fun j v hv => ?_⟩
            exact h3 _ v (by simpa using take_some hv)
  | .agg ds, v, H => by
    simp only [Den, pubD] at H ⊢
    obtain ⟨vs, h1, h2, h3⟩ := H
    exact ⟨vs, h1, DenL.pub hh hr hc h2, h3⟩
  | .tup ds, v, H => by
    simp only [Den, pubD] at H ⊢
    obtain ⟨vs, h1, h2⟩ := H
    exact ⟨vs, h1, DenL.pub hh hr hc h2⟩
  | .fn f es ds, v, H => by
    simp only [Den, pubD] at H ⊢
    obtain ⟨us, vs, h1, h2, h3⟩ := H
    exact ⟨us, vs, h1, DenL.pub hh hr hc h2, DenL.pub hh hr hc h3⟩
  | .ref ds, v, H => by
    simp only [Den, pubD] at H ⊢
    obtain ⟨b, o, h1, vs, h2, h3, h4⟩ := H
    exact ⟨b, o, h1, vs, DenL.pub hh hr hc h2, h3, fun j v hv => hh _ _ _ (h4 j v hv)⟩
  | .gd b d, v, H => by
    simp only [Den, pubD] at H ⊢
    exact ⟨fun hb => Den.pub hh hr hc (H.1 hb), H.2⟩
  | .any, v, H => Den.mono hh H
  | .undef, v, H => Den.mono hh H
  | .bool _, v, H => Den.mono hh H
  | .int _ _, v, H => Den.mono hh H
  | .str _, v, H => Den.mono hh H
  | .nil, v, H => Den.mono hh H
  | .ints _ _, v, H => Den.mono hh H
  | .slf _ _ _, v, H => Den.mono hh H
  | .iarr _ _, v, H => Den.mono hh H
  | .gp _, v, H => Den.mono hh H
  | .yld _, v, H => Den.mono hh H
  | .val _, v, H => Den.mono hh H
  | .anyb _, v, H => Den.mono hh H
theorem DenL.pub (hh : h.Le h') (hr : E.real i = false → ∃ k, c = .arr k []) (hc : E.real i = true → Handed E h' i c) : ∀ {ds : List D} {vs : List Value}, DenL E h ds vs → DenL E h' (pubL i c ds) vs
  | [], vs, H => by simpa [DenL, pubL] using H
  | d :: ds, vs, H => by
    simp only [DenL, pubL] at H ⊢
    obtain ⟨v, vs', h1, h2, h3⟩ := H
    exact ⟨v, vs', h1, Den.pub hh hr hc h2, DenL.pub hh hr hc h3⟩
end
theorem chunkVals_le {h : Pub} {b : Nat} (hb : ∀ o, h b o = none) (vs : List Value) : h.Le (chunkVals vs b h) := fun b' o v hv => by
  unfold chunkVals
  split
  · rename_i e; subst e; rw [hb o] at hv; cases hv
  · exact hv
theorem Sat.publish {cx : Cx} {a : Act} {w : World} {L : Sl} {H : Hp} (S : Sat cx E h a w L H) (hc : lookH H i = some c) (hcl : c.cel = true) :
    ∃ h', h.Le h' ∧ Sat cx E h' a w (pubSl i c L) ((i, .gone) :: pubHp i c H) ∧ ∀ d v, Den E h d v → Den E h' (pubD i c d) v := by
  have hl := Chunk.live_of_cel hcl
  have hok := S.mem.ok i c hc
  -- the published memory, with the block's cells
  obtain ⟨h', hle, hv, hr, hag, hun, hsince⟩ : ∃ h' : Pub, h.Le h' ∧ (E.real i = false → ∃ k, c = .arr k []) ∧ (E.real i = true → Handed E h' i c) ∧ Agree h' w ∧
      (∀ j x, j ≠ i → lookH H j = some x → x.live = true → E.real j = true → ∀ o, h' (E.blk j) o = none) ∧ Since cx.w0 cx.h0 w h' := by
    cases hreal : E.real i with
    | false =>
      refine ⟨h, Pub.Le.refl h, fun _ => ?_, fun e => (by cases e), S.agree, fun j x _ hj hx hrj => S.mem.unpub j x hj hx hrj, S.since⟩
      cases c with
      | gone => simp [Chunk.live] at hl
      | lp p => simp [Chunk.cel] at hcl
      | box ds => exact absurd hok.1 (by rw [hreal]; decide)
      | arr k xs =>
        rcases hok with ⟨_, rfl⟩ | ⟨hx, _⟩
        · exact ⟨k, rfl⟩
        · rw [hreal] at hx; cases hx
    | true =>
      have hun := S.mem.unpub i c hc hl hreal
      have hbase := S.mem.base i c hc hl hreal
      have key : ∀ vs : List Value, (∀ (o : Nat) v, vs[o]? = some v → w.cell? ⟨E.blk i, o, none⟩ = some v) →
          Agree (chunkVals vs (E.blk i) h) w ∧ (∀ j x, j ≠ i → lookH H j = some x → x.live = true → E.real j = true → ∀ o, chunkVals vs (E.blk i) h (E.blk j) o = none) ∧ Since cx.w0 cx.h0 w (chunkVals vs (E.blk i) h) := by
        intro vs hvs
        refine ⟨⟨fun b o v hv => ?_, S.agree.glob.mono (chunkVals_le hun vs), S.agree.blk, fun g hg => by
          obtain ⟨v, hv⟩ := S.agree.errs g hg
          exact ⟨v, chunkVals_le hun vs _ _ _ hv⟩⟩, fun j x hj hx hxl hrj o => ?_, ⟨S.since.below, S.since.le.trans (chunkVals_le hun vs), fun b hb o => ?_⟩⟩
        · unfold chunkVals at hv
          split at hv
          · rename_i e; subst e; exact hvs o v hv
          · exact S.agree b o v hv
        · unfold chunkVals
          rw [if_neg (S.mem.inj j i x c hj hx hc hxl hl hrj hreal)]
          exact S.mem.unpub j x hx hxl hrj o
        · unfold chunkVals
          rw [if_neg (by omega)]
          exact S.since.old b hb o
      cases c with
      | gone => simp [Chunk.live] at hl
      | lp p => simp [Chunk.cel] at hcl
      | box ds =>
        obtain ⟨_, vs, rest, T, hb, hd, ho, hsz⟩ := hok
        obtain ⟨k1, k2, k3⟩ := key vs fun o v hv => cell_box hb hv
        refine ⟨_, chunkVals_le hun vs, (by simp), fun _ => ⟨vs, DenL.mono (chunkVals_le hun vs) hd, ho, fun o v hv => by unfold chunkVals; rw [if_pos rfl]; exact hv⟩, k1, k2, k3⟩
      | arr k xs =>
        obtain ⟨rest, T, hb, hsz, hr, hkn⟩ := arr_real hreal hok
        obtain ⟨k1, k2, k3⟩ := key (xs.map (Value.int k)) fun o v hv => cell_row hb (by rw [List.getElem?_append_left (List.getElem?_eq_some_iff.1 hv).1]; exact hv)
        refine ⟨_, chunkVals_le hun _, (by simp), fun _ => ⟨hkn, hr, fun o n hn => by unfold chunkVals; rw [if_pos rfl, List.getElem?_map, hn]; rfl⟩, k1, k2, k3⟩
  refine ⟨h', hle, ?_, fun d v hd => Den.pub hle hv hr hd⟩
  have live : ∀ j x, lookH ((i, .gone) :: pubHp i c H) j = some x → x.live = true → j ≠ i ∧ ∃ y, lookH H j = some y ∧ x = pubC i c y ∧ y.live = true := by
    intro j x hx hxl
    rw [lookH_cons] at hx
    split at hx
    · cases hx; simp [Chunk.live] at hxl
    · rename_i e
      obtain ⟨y, h1, rfl⟩ := lookH_pub hx
      refine ⟨Ne.symm e, y, h1, rfl, ?_⟩
      cases y <;> first | rfl | simp [pubC, Chunk.live] at hxl
  refine { knows := fun t => by rw [look_pub]; exact Den.pub hle hv hr (S.knows t), mem := ?_, agree := hag, since := hsince, low := S.low, side := S.side }
  refine { ok := ?_, base := ?_, unpub := ?_, inj := ?_ }
  · intro j x hx
    cases hxl : x.live with
    | false => cases x <;> first | trivial | simp [Chunk.live] at hxl
    | true =>
      obtain ⟨hj, y, h1, rfl, hyl⟩ := live j x hx hxl
      have hy := S.mem.ok j y h1
      cases y with
      | gone => simp [Chunk.live] at hyl
      | lp p => exact hy
      | box ds =>
        obtain ⟨h0, vs, rest, T, h2, h3, h4⟩ := hy
        exact ⟨h0, vs, rest, T, h2, DenL.pub hle hv hr h3, h4⟩
      | arr k xs => exact hy
  · intro j x hx hxl hrj
    obtain ⟨hj, y, h1, rfl, hyl⟩ := live j x hx hxl
    exact S.mem.base j y h1 hyl hrj
  · intro j x hx hxl hrj o
    obtain ⟨hj, y, h1, rfl, hyl⟩ := live j x hx hxl
    exact hun j y hj h1 hyl hrj o
  · intro j k x1 x2 hjk hx1 hx2 l1 l2 r1 r2
    obtain ⟨hj, y1, g1, rfl, hy1⟩ := live j x1 hx1 l1
    obtain ⟨hk, y2, g2, rfl, hy2⟩ := live k x2 hx2 l2
    exact S.mem.inj j k y1 y2 hjk g1 g2 hy1 hy2 r1 r2
end
mutual
def D.own : D → Option Nat
  | .osl i _ _ => some i
  | .box i _ => some i
  | .bsl i _ _ _ => some i
  | .agg ds | .tup ds | .ref ds => D.ownL ds
  | .fn _ es ds => match D.ownL es with | some i => some i | none => D.ownL ds
  | .gd _ d => D.own d
  | _ => none
def D.ownL : List D → Option Nat
  | [] => none
  | d :: ds => match D.own d with | some i => some i | none => D.ownL ds
end
def handK : Nat → List D → Sl → Hp → (List D → Sl → Hp → Prop) → Prop
  | 0, _, _, _, _ => False
  | n + 1, ds, L, H, K => match D.ownL ds with
    | none => K ds L H
    | some i => lookHK H i fun c => match c with
      | .gone => False
      | .lp _ => False
      | c => pubSlK i c L fun L => pubHpK i c H fun H => pubLK i c ds fun ds => handK n ds L ((i, .gone) :: H) K
theorem pubL_map (i : Nat) (c : Chunk) (ds : List D) : pubL i c ds = ds.map (pubD i c) := by
  induction ds with
  | nil => rfl
  | cons d ds ih => simp [pubL, ih]
theorem DenL.map {E : Env} {h h' : Pub} {f : D → D} (hf : ∀ d v, Den E h d v → Den E h' (f d) v) {ds : List D} {vs : List Value} (H : DenL E h ds vs) : DenL E h' (ds.map f) vs := by
  induction ds generalizing vs with
  | nil => simpa [DenL] using H
  | cons d ds ih =>
    simp only [DenL, List.map_cons] at H ⊢
    obtain ⟨v, vs', rfl, h3, h4⟩ := H
    exact ⟨v, vs', rfl, hf d v h3, ih h4⟩
theorem hand_el {n : Nat} {ds : List D} {L : Sl} {H : Hp} {K : List D → Sl → Hp → Prop} (hh : handK n ds L H K) :
    ∃ ds' L' H', K ds' L' H' ∧ ds'.length = ds.length ∧ ∀ cx E h a w, Sat cx E h a w L H → ∃ h', h.Le h' ∧ Sat cx E h' a w L' H' ∧
      ∀ vs, DenL E h ds vs → DenL E h' ds' vs := by
  induction n generalizing ds L H with
  | zero => exact hh.elim
  | succ n ih =>
    simp only [handK] at hh
    split at hh
    · exact ⟨ds, L, H, hh, rfl, fun cx E h a w S => ⟨h, Pub.Le.refl h, S, fun vs hv => hv⟩⟩
    · rename_i i hown
      obtain ⟨c, hc, hh⟩ := lookHK_el hh
      split at hh
      · exact hh.elim
      · exact hh.elim
      · rename_i hne hne2
        have hl : c.cel = true := by
          cases c with
          | gone => exact absurd rfl hne
          | lp p => exact absurd rfl (hne2 p)
          | _ => rfl
        rw [pubSlK_eq, pubHpK_eq, pubLK_eq] at hh
        obtain ⟨ds', L', H', hK, hlen, hS⟩ := ih hh
        refine ⟨ds', L', H', hK, by rw [hlen, pubL_map]; simp, fun cx E h a w S => ?_⟩
        obtain ⟨h1, hle1, S1, hd1⟩ := S.publish hc hl
        obtain ⟨h2, hle2, S2, hd2⟩ := hS cx E h1 a w S1
        refine ⟨h2, hle1.trans hle2, S2, fun vs hv => hd2 vs ?_⟩
        rw [pubL_map]
        exact hv.map hd1
end Go.V
end
