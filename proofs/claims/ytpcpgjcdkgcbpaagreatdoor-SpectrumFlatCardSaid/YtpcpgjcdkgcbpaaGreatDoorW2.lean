/- Laws of a small interpreter over plain values, each proved against the model of the language: part 2. No condition. -/
import Derived.Test.YtpcpgjcdkgcbpaaGreatDoorW1
set_option linter.unusedSimpArgs false
set_option linter.unusedVariables false
set_option maxHeartbeats 8000000
set_option maxRecDepth 100000
section
namespace Go.V
open Go Go.RowKit
theorem take_some {α : Type} {l : List α} {n i : Nat} {v : α} (h : (l.take n)[i]? = some v) : l[i]? = some v := by
  rw [List.getElem?_take] at h
  split at h
  · exact h
  · cases h
theorem addr_add (b o n : Nat) : (⟨b, o, none⟩ : Addr).add n = ⟨b, o + n, none⟩ := by
  unfold Addr.add; split
  · simp [*]
  · rfl
theorem addr_add' {a : Addr} (h : a.spot = none) (n : Nat) : a.add n = ⟨a.block, a.off + n, none⟩ := by
  obtain ⟨b, o, s⟩ := a; simp at h; subst h; exact addr_add b o n
theorem run_loadVar_agg {P : Program} {t : Nat} {y : Ty} (hy : TyOk P t y) (ha : y.kind.isAgg = true) {w : World} {b o : Nat} {vs : List Value} (hl : vs.length = y.size)
    (hc : ∀ (i : Nat) v, vs[i]? = some v → w.cell? ⟨b, o + i, none⟩ = some v) : (loadVar t ⟨b, o, none⟩).run P w = .ok (.agg vs.toArray) w := by
  have h1 := run_loadCells_list (P := P) w ⟨b, o, none⟩ vs (fun j v hv => by rw [addr_add]; exact hc j v hv)
  rw [hl] at h1
  simp [loadVar, hy.isAgg w, ha, hy.sizeOf w, h1]
theorem run_loadVar_one {P : Program} {t : Nat} {y : Ty} (hy : TyOk P t y) (ha : y.kind.isAgg = false) {w : World} {b o : Nat} {v : Value}
    (hc : w.cell? ⟨b, o, none⟩ = some v) : (loadVar t ⟨b, o, none⟩).run P w = .ok v w := by
  simp [loadVar, hy.isAgg w, ha, hc]
theorem cell_row {w : World} {g : Nat} {vs : List Value} {T : TypeId} {fr : Nat × Nat} (hg : w.heap[g]? = some (.cells vs.toArray T fr)) {i : Nat} {v : Value} (hv : vs[i]? = some v) : w.cell? ⟨g, i, none⟩ = some v := by
  rw [cell_of_row w g i _ T fr hg]; simpa using hv
theorem cell_box {w : World} {g : Nat} {vs rest : List Value} {T : TypeId} {fr : Nat × Nat} (hg : w.heap[g]? = some (.cells (vs ++ rest).toArray T fr)) {i : Nat} {v : Value} (hv : vs[i]? = some v) : w.cell? ⟨g, i, none⟩ = some v :=
  cell_row hg (by rw [List.getElem?_append_left (List.getElem?_eq_some_iff.1 hv).1]; exact hv)
theorem arr_real {E : Env} {h : Pub} {w : World} {i : Nat} {k : IntKind} {xs : List Int} (hr : E.real i = true) (H : ChunkOk E h w i (.arr k xs)) :
    ∃ (rest : List Value) (T : TypeId), w.heap[E.blk i]? = some (.cells (xs.map (Value.int k) ++ rest).toArray T (0, 0)) ∧ E.siz i = xs.length + rest.length ∧ (∀ n ∈ xs, InR k n) ∧ E.kn i = xs.length := by
  rcases H with ⟨h1, _⟩ | ⟨_, h2⟩
  · rw [hr] at h1; cases h1
  · exact h2
def lookHK : Hp → Nat → (Chunk → Prop) → Prop
  | [], _, _ => False
  | (s, c) :: H, i, K => match Nat.beq s i with | true => K c | false => lookHK H i K
theorem lookHK_el {H : Hp} {i : Nat} {K : Chunk → Prop} (h : lookHK H i K) : ∃ c, lookH H i = some c ∧ K c := by
  induction H with
  | nil => exact h.elim
  | cons x L ih =>
    obtain ⟨s, y⟩ := x
    simp only [lookHK, lookH] at h ⊢
    cases hb : Nat.beq s i with
    | true => rw [hb] at h; exact ⟨y, rfl, h⟩
    | false => rw [hb] at h; exact ih h
def glbK : List (Nat × List Value) → Nat → (List Value → Prop) → Prop
  | [], _, _ => False
  | (s, vs) :: L, g, K => match Nat.beq s g with | true => K vs | false => glbK L g K
theorem glbK_el {L : List (Nat × List Value)} {g : Nat} {K : List Value → Prop} (h : glbK L g K) : ∃ vs, (g, vs) ∈ L ∧ K vs := by
  induction L with
  | nil => exact h.elim
  | cons x L ih =>
    obtain ⟨s, vs⟩ := x
    simp only [glbK] at h
    cases hb : Nat.beq s g with
    | true =>
      rw [hb] at h
      have := Nat.eq_of_beq_eq_true hb
      subst this
      exact ⟨vs, by simp, h⟩
    | false =>
      rw [hb] at h
      obtain ⟨vs', h1, h2⟩ := ih h
      exact ⟨vs', by simp [h1], h2⟩
def valInts (k : IntKind) : List Value → (List Int → Prop) → Prop
  | [], K => K []
  | .int k' n :: vs, K => match kE k k', inRb k n with | true, true => valInts k vs fun xs => K (n :: xs) | _, _ => False
  | _ :: _, _ => False
theorem valInts_el {k : IntKind} {vs : List Value} {K : List Int → Prop} (h : valInts k vs K) : ∃ xs, vs = xs.map (Value.int k) ∧ (∀ n ∈ xs, InR k n) ∧ K xs := by
  induction vs generalizing K with
  | nil => exact ⟨[], rfl, by simp, h⟩
  | cons v vs ih =>
    cases v with
    | int k' n =>
      simp only [valInts] at h
      cases hk : kE k k' with
      | false => rw [hk] at h; exact h.elim
      | true =>
        cases hn : inRb k n with
        | false => rw [hk, hn] at h; exact h.elim
        | true =>
          rw [hk, hn] at h
          have := kE_eq hk; subst this
          obtain ⟨xs, rfl, h1, h2⟩ := ih h
          refine ⟨n :: xs, rfl, fun m hm => ?_, h2⟩
          rcases List.mem_cons.1 hm with rfl | hm
          · exact inRb_iff hn
          · exact h1 m hm
    | _ => exact h.elim
theorem denL_ofVal (E : Env) (h : Pub) : ∀ vs : List Value, DenL E h (vs.map ofVal) vs
  | [] => by simp [DenL]
  | v :: vs => by simp only [List.map_cons, DenL]; exact ⟨v, vs, rfl, den_ofVal E h v, denL_ofVal E h vs⟩
def loadK (tb : Tb) (g : Prop) (H : Hp) (t : Nat) (d : D) (K : D → Prop) : Prop := tyK tb t fun y => match d with
  | .box i off => lookHK H i fun c => match c with
    | .box ds => match y.kind.isAgg with
      | true => dropK ds off fun ds => takeK ds y.size fun ds => K (.agg ds)
      | false => nthK ds off K
    | .arr k xs => match y.kind.isAgg with
      | true => (g → off = 0 ∧ xs.length = y.size) ∧ K (.iarr k xs)
      | false => (g → off < xs.length) ∧ K (.int k (xs.getD off 0))
    | .gone => False
    | .lp _ => False
  | .ref ds => match y.kind.isAgg with
    | true => takeK ds y.size fun ds => K (.agg ds)
    | false => nthK ds 0 K
  | .gp gl => match y.kind.isAgg with
    | true => glbK glb gl fun vs => match Nat.beq vs.length y.size, vs.all (·.oneCell') with
      | true, true => K (.agg (vs.map ofVal))
      | _, _ => False
    | false => False
  | _ => False
theorem load_el {P : Program} {tb : Tb} (htb : TbOk P tb) {g : Prop} {H : Hp} {t : Nat} {d : D} {K : D → Prop} (hh : loadK tb g H t d K) :
    ∃ r, K r ∧ ∀ E h a w L, Facts E h a w L H → ∀ v, Den E h d v → g → Gives P E h (Instr.loadAt t v) w r := by
  have hx := tyK_iff hh; clear hh; obtain ⟨y, hy, hh⟩ := hx
  have hty := htb _ _ hy
  split at hh
  · rename_i i off
    have hx := lookHK_el hh; clear hh; obtain ⟨c, hc, hh⟩ := hx
    split at hh
    · rename_i ds
      cases hag : y.kind.isAgg with
      | true =>
        rw [hag] at hh
        obtain ⟨h1, hh⟩ := dropK_el hh
        obtain ⟨h2, hh⟩ := takeK_el hh
        refine ⟨_, hh, fun E h a w L F v hv hg => ?_⟩
        simp only [Den] at hv; obtain ⟨rfl, hreal⟩ := hv
        obtain ⟨_, vs, rest, T, hb, hd, ho, hsz⟩ := F.chunk _ _ hc
        have hlen := hd.length
        refine ⟨.agg ((vs.drop off).take y.size).toArray, ?_, ?_⟩
        · simp only [Instr.loadAt, Instr.sureAddr, Sem.run_bind, Sem.run_pure, Result.andThen_ok]
          refine run_loadVar_agg hty hag ?_ (fun i v hv => ?_)
          · simp at h2 ⊢; omega
          · refine cell_box hb ?_
            have := take_some hv
            simpa using this
        · simp only [Den]
          exact ⟨_, rfl, (hd.drop off).take _, fun v hv => ho v (List.mem_of_mem_drop (List.mem_of_mem_take hv))⟩
      | false =>
        rw [hag] at hh
        obtain ⟨r, h1, hh⟩ := nthK_el hh
        refine ⟨_, hh, fun E h a w L F v hv hg => ?_⟩
        simp only [Den] at hv; obtain ⟨rfl, hreal⟩ := hv
        obtain ⟨_, vs, rest, T, hb, hd, ho, hsz⟩ := F.chunk _ _ hc
        obtain ⟨u, hu, hdu⟩ := hd.get h1
        exact ⟨u, by simp only [Instr.loadAt, Instr.sureAddr, Sem.run_bind, Sem.run_pure, Result.andThen_ok]; exact run_loadVar_one hty hag (cell_box hb hu), hdu⟩
    · rename_i k xs
      cases hag : y.kind.isAgg with
      | true =>
        rw [hag] at hh
        refine ⟨_, hh.2, fun E h a w L F v hv hg => ?_⟩
        simp only [Den] at hv; obtain ⟨rfl, hreal⟩ := hv
        obtain ⟨h0, h1⟩ := hh.1 hg; subst h0
        obtain ⟨rest, T, hb, hsz, hr, hkn⟩ := arr_real hreal (F.chunk _ _ hc)
        refine ⟨.agg (xs.map (Value.int k)).toArray, ?_, by simp only [Den]; exact ⟨trivial, hr⟩⟩
        simp only [Instr.loadAt, Instr.sureAddr, Sem.run_bind, Sem.run_pure, Result.andThen_ok]
        refine run_loadVar_agg hty hag (by simpa using h1) (fun i v hv => ?_)
        refine cell_row hb ?_
        rw [Nat.zero_add, List.getElem?_append_left]
        · exact hv
        · exact (List.getElem?_eq_some_iff.1 hv).1
      | false =>
        rw [hag] at hh
        refine ⟨_, hh.2, fun E h a w L F v hv hg => ?_⟩
        simp only [Den] at hv; obtain ⟨rfl, hreal⟩ := hv
        have h1 := hh.1 hg
        obtain ⟨rest, T, hb, hsz, hr, hkn⟩ := arr_real hreal (F.chunk _ _ hc)
        have hx : xs[off]? = some (xs.getD off 0) := by simp [List.getD, List.getElem?_eq_getElem h1]
        refine ⟨.int k (xs.getD off 0), ?_, by simp only [Den]; exact ⟨trivial, hr _ (List.mem_of_getElem? hx)⟩⟩
        simp only [Instr.loadAt, Instr.sureAddr, Sem.run_bind, Sem.run_pure, Result.andThen_ok]
        refine run_loadVar_one hty hag (cell_row hb ?_)
        rw [List.getElem?_append_left (by simpa using h1), List.getElem?_map, hx]; rfl
    · exact hh.elim
    · exact hh.elim
  · rename_i ds
    cases hag : y.kind.isAgg with
    | true =>
      rw [hag] at hh
      obtain ⟨h2, hh⟩ := takeK_el hh
      refine ⟨_, hh, fun E h a w L F v hv hg => ?_⟩
      simp only [Den] at hv
      obtain ⟨b, o, rfl, vs, hd, ho, hc⟩ := hv
      have hlen := hd.length
      refine ⟨.agg (vs.take y.size).toArray, ?_, ?_⟩
      · simp only [Instr.loadAt, Instr.sureAddr, Sem.run_bind, Sem.run_pure, Result.andThen_ok]
        refine run_loadVar_agg hty hag (by simp; omega) (fun i v hv => ?_)
        exact F.agree _ _ _ (hc i v (take_some hv))
      · simp only [Den]
        exact ⟨_, rfl, hd.take _, fun v hv => ho v (List.mem_of_mem_take hv)⟩
    | false =>
      rw [hag] at hh
      obtain ⟨r, h1, hh⟩ := nthK_el hh
      refine ⟨_, hh, fun E h a w L F v hv hg => ?_⟩
      simp only [Den] at hv
      obtain ⟨b, o, rfl, vs, hd, ho, hc⟩ := hv
      obtain ⟨u, hu, hdu⟩ := hd.get h1
      exact ⟨u, by simp only [Instr.loadAt, Instr.sureAddr, Sem.run_bind, Sem.run_pure, Result.andThen_ok]; exact run_loadVar_one hty hag (by simpa using F.agree _ _ _ (hc 0 u hu)), hdu⟩
  · rename_i gl
    cases hag : y.kind.isAgg with
    | false => rw [hag] at hh; exact hh.elim
    | true =>
      rw [hag] at hh
      obtain ⟨vs, hm, hh⟩ := glbK_el hh
      cases h1 : Nat.beq vs.length y.size with
      | false => rw [h1] at hh; exact hh.elim
      | true =>
        cases h2 : vs.all (·.oneCell') with
        | false => rw [h1, h2] at hh; exact hh.elim
        | true =>
          rw [h1, h2] at hh
          refine ⟨_, hh, fun E h a w L F v hv hg => ?_⟩
          simp only [Den] at hv
          subst hv
          refine ⟨.agg vs.toArray, ?_, ?_⟩
          · simp only [Instr.loadAt, Instr.sureAddr, Sem.run_bind, Sem.run_pure, Result.andThen_ok]
            refine run_loadVar_agg hty hag (Nat.eq_of_beq_eq_true h1) (fun i v hv => ?_)
            rw [Nat.zero_add]
            exact F.agree _ _ _ (F.agree.glob gl vs hm i v hv)
          · simp only [Den]
            exact ⟨vs, rfl, denL_ofVal _ _ vs, fun v hv => List.all_eq_true.1 h2 v hv⟩
  · exact hh.elim
def nthF : List (Nat × Nat) → Nat → (Nat → Nat → Prop) → Prop
  | [], _, _ => False
  | (o, u) :: _, 0, K => K o u
  | _ :: fs, n + 1, K => nthF fs n K
theorem nthF_el {fs : List (Nat × Nat)} {n : Nat} {K : Nat → Nat → Prop} (h : nthF fs n K) : ∃ o u, fs[n]? = some (o, u) ∧ K o u := by
  induction fs generalizing n with
  | nil => exact h.elim
  | cons x ds ih =>
    obtain ⟨o, u⟩ := x
    cases n with
    | zero => exact ⟨o, u, rfl, h⟩
    | succ n => exact ih h
def fieldAddrK (tb : Tb) (t : Nat) (d : D) (f : Nat) (K : D → Prop) : Prop := tyK tb t fun y => match y.kind with
  | .struct fs => nthF fs f fun o _ => match d with
    | .box i off => K (.box i (off + o))
    | .ref ds => dropK ds o fun ds => K (.ref ds)
    | _ => False
  | _ => False
theorem fieldAddr_el {P : Program} {tb : Tb} (htb : TbOk P tb) {t f : Nat} {d : D} {K : D → Prop} (hh : fieldAddrK tb t d f K) :
    ∃ r, K r ∧ ∀ E h w v, Den E h d v → Gives P E h (Instr.fieldAt t v f) w r := by
  have hx := tyK_iff hh; clear hh; obtain ⟨y, hy, hh⟩ := hx
  have hty := htb _ _ hy
  split at hh
  case h_2 => exact hh.elim
  rename_i fs hk
  obtain ⟨o, u, hf, hh⟩ := nthF_el hh
  have hu := hty.und; rw [hk] at hu
  obtain ⟨fields, hu, _, hff⟩ := hu
  obtain ⟨fl, iu, h1, h2, h3, h4, h5⟩ := hff _ _ _ hf
  have hrun : ∀ (w : World) (b off : Nat), (Instr.fieldAt t (.pointer (some ⟨b, off, none⟩)) f).run P w = .ok (.pointer (some ⟨b, off + o, none⟩)) w := fun w b off => by
    simp [Instr.fieldAt, run_underlying hu, h1, Instr.sureAddr, fieldPlace, sizeOf, typeInfo, h3, h4, h5, h2, addr_add]
  split at hh
  · refine ⟨_, hh, fun E h w v hv => ?_⟩
    simp only [Den] at hv; obtain ⟨rfl, hreal⟩ := hv
    exact ⟨_, hrun _ _ _, by simp only [Den]; exact ⟨trivial, hreal⟩⟩
  · obtain ⟨h6, hh⟩ := dropK_el hh
    refine ⟨_, hh, fun E h w v hv => ?_⟩
    simp only [Den] at hv
    obtain ⟨b, off, rfl, vs, hd, ho, hc⟩ := hv
    refine ⟨_, hrun _ _ _, ?_⟩
    simp only [Den]
    exact ⟨b, off + o, rfl, vs.drop o, hd.drop o, fun v hv => ho v (List.mem_of_mem_drop hv), fun i v hv => by rw [Nat.add_assoc]; exact hc (o + i) v (by simpa using hv)⟩
  · exact hh.elim
theorem run_part_agg {P : Program} {t : Nat} {y : Ty} (hy : TyOk P t y) (ha : y.kind.isAgg = true) (vs : List Value) (o : Nat) (w : World) :
    (part t vs.toArray o).run P w = .ok (.agg ((vs.drop o).take y.size).toArray) w := by
  simp only [part, Sem.run_bind, hy.isAgg w, ha, Result.andThen_ok, if_true, hy.sizeOf w, Sem.run_pure]
  congr 2
  apply Array.toList_inj.1
  simp [List.take_drop]
theorem run_part_one {P : Program} {t : Nat} {y : Ty} (hy : TyOk P t y) (ha : y.kind.isAgg = false) {vs : List Value} {o : Nat} {v : Value} (hv : vs[o]? = some v) (w : World) :
    (part t vs.toArray o).run P w = .ok v w := by
  simp [part, hy.isAgg w, ha, hv]
def partK (tb : Tb) (u : Nat) (ds : List D) (o : Nat) (K : D → Prop) : Prop := tyK tb u fun y => match y.kind.isAgg with
  | true => dropK ds o fun ds => takeK ds y.size fun ds => K (.agg ds)
  | false => nthK ds o K
theorem part_el {P : Program} {tb : Tb} (htb : TbOk P tb) {u o : Nat} {ds : List D} {K : D → Prop} (hh : partK tb u ds o K) :
    ∃ r, K r ∧ ∀ E h w vs, DenL E h ds vs → (∀ v ∈ vs, v.oneCell' = true) → Gives P E h (part u vs.toArray o) w r := by
  have hx := tyK_iff hh; clear hh; obtain ⟨y, hy, hh⟩ := hx
  have hty := htb _ _ hy
  cases hag : y.kind.isAgg with
  | true =>
    rw [hag] at hh
    obtain ⟨h1, hh⟩ := dropK_el hh
    obtain ⟨h2, hh⟩ := takeK_el hh
    refine ⟨_, hh, fun E h w vs hd ho => ⟨_, run_part_agg hty hag vs o w, ?_⟩⟩
    simp only [Den]
    exact ⟨_, rfl, (hd.drop o).take _, fun v hv => ho v (List.mem_of_mem_drop (List.mem_of_mem_take hv))⟩
  | false =>
    rw [hag] at hh
    obtain ⟨r, h1, hh⟩ := nthK_el hh
    refine ⟨_, hh, fun E h w vs hd ho => ?_⟩
    obtain ⟨v, hv, hdv⟩ := hd.get h1
    exact ⟨_, run_part_one hty hag hv w, hdv⟩
def fieldK (tb : Tb) (t : Nat) (d : D) (f : Nat) (K : D → Prop) : Prop := tyK tb t fun y => match y.kind with
  | .struct fs => nthF fs f fun o u => match d with
    | .agg ds => partK tb u ds o K
    | _ => False
  | _ => False
theorem field_el {P : Program} {tb : Tb} (htb : TbOk P tb) {t f : Nat} {d : D} {K : D → Prop} (hh : fieldK tb t d f K) :
    ∃ r, K r ∧ ∀ E h w v, Den E h d v → Gives P E h (Instr.field t v f) w r := by
  have hx := tyK_iff hh; clear hh; obtain ⟨y, hy, hh⟩ := hx
  have hty := htb _ _ hy
  split at hh
  case h_2 => exact hh.elim
  rename_i fs hk
  obtain ⟨o, u, hf, hh⟩ := nthF_el hh
  have hu := hty.und; rw [hk] at hu
  obtain ⟨fields, hu, _, hff⟩ := hu
  obtain ⟨fl, iu, h1, h2, h3, h4, h5⟩ := hff _ _ _ hf
  split at hh
  case h_2 => exact hh.elim
  rename_i ds
  obtain ⟨r, hr, hh⟩ := part_el htb hh
  refine ⟨r, hr, fun E h w v hv => ?_⟩
  simp only [Den] at hv
  obtain ⟨vs, rfl, hd, ho⟩ := hv
  obtain ⟨v', h6, h7⟩ := hh E h w vs hd ho
  exact ⟨v', by simp [Instr.field, run_underlying hu, h1, asAgg, h2, h3, h6], h7⟩
theorem run_extract {P : Program} {vs : List Value} {i : Nat} {v : Value} (h : vs[i]? = some v) (w : World) : (Instr.extract (.tuple vs.toArray) i).run P w = .ok v w := by
  simp [Instr.extract, h]
end Go.V
end
section
namespace Go.V
open Go Go.RowKit
mutual
def D.pure : D → Bool
  | .box _ _ | .osl _ _ _ | .bsl _ _ _ _ | .yld _ => false
  | .agg ds | .tup ds | .ref ds => D.pureL ds
  | .fn _ es ds => match D.pureL es with | true => D.pureL ds | false => false
  | .gd _ d => D.pure d
  | _ => true
def D.pureL : List D → Bool
  | [] => true
  | d :: ds => match D.pure d with | true => D.pureL ds | false => false
end
mutual
theorem Den.pure {E E' : Env} {h : Pub} : ∀ {d : D} {v : Value}, d.pure = true → Den E h d v → Den E' h d v
  | .any, _, _, _ => by simp [Den]
  | .undef, _, _, H => by simpa [Den] using H
  | .bool _, _, _, H => by simpa [Den] using H
  | .int _ _, _, _, H => by simpa [Den] using H
  | .str _, _, _, H => by simpa [Den] using H
  | .nil, _, _, H => by simpa [Den] using H
  | .ints k xs, v, _, H => by simpa [Den] using H
  | .slf _ _ _, _, _, H => by simpa [Den] using H
  | .iarr _ _, _, _, H => by simpa [Den] using H
  | .agg ds, v, F, H => by
    simp only [Den] at H ⊢
    simp only [D.pure] at F
    obtain ⟨vs, h1, h2, h3⟩ := H
    exact ⟨vs, h1, DenL.pure F h2, h3⟩
  | .tup ds, v, F, H => by
    simp only [Den] at H ⊢
    simp only [D.pure] at F
    obtain ⟨vs, h1, h2⟩ := H
    exact ⟨vs, h1, DenL.pure F h2⟩
  | .fn f first caps, v, F, H => by
    simp only [Den] at H ⊢
    simp only [D.pure] at F
    obtain ⟨us, vs, h1, h2, h3⟩ := H
    cases hd : D.pureL first with
    | false => rw [hd] at F; simp at F
    | true => rw [hd] at F; exact ⟨us, vs, h1, DenL.pure hd h2, DenL.pure F h3⟩
  | .ref ds, v, F, H => by
    simp only [Den] at H ⊢
    simp only [D.pure] at F
    obtain ⟨b, o, h1, vs, h2, h3, h4⟩ := H
    exact ⟨b, o, h1, vs, DenL.pure F h2, h3, h4⟩
  | .box j _, _, F, H => by simp [D.pure] at F
  | .osl j _ _, _, F, H => by simp [D.pure] at F
  | .bsl j _ _ _, _, F, H => by simp [D.pure] at F
  | .gd c d, v, F, H => by
    simp only [Den] at H ⊢
    simp only [D.pure] at F
    exact ⟨fun hc => Den.pure F (H.1 hc), H.2⟩
  | .gp _, _, _, H => by simpa [Den] using H
  | .val _, _, _, H => by simpa [Den] using H
  | .anyb _, _, _, H => by simpa [Den] using H
  | .yld _, _, F, H => by simp [D.pure] at F
theorem DenL.pure {E E' : Env} {h : Pub} : ∀ {ds : List D} {vs : List Value}, D.pureL ds = true → DenL E h ds vs → DenL E' h ds vs
  | [], _, _, H => by simpa [DenL] using H
  | d :: ds, vs, F, H => by
    simp only [DenL] at H ⊢
    simp only [D.pureL] at F
    obtain ⟨v, vs', h1, h2, h3⟩ := H
    cases hd : D.pure d with
    | false => rw [hd] at F; simp at F
    | true => rw [hd] at F; exact ⟨v, vs', h1, Den.pure hd h2, DenL.pure F h3⟩
end
def indexAddrK (tb : Tb) (g : Prop) (t : Nat) (dx di : D) (K : D → Prop) : Prop := match di with
  | .int _ i => tyK tb t fun y => match y.kind with
    | .slice e => tyK tb e fun ye => match dx with
      | .ints k xs => match Nat.beq ye.size 1 with
        | true => (g → 0 ≤ i ∧ i < xs.length) ∧ K (.ref [.int k (xs.getD i.toNat 0)])
        | false => False
      | .slf es n f => match Nat.beq ye.size es, D.pureL (f i.toNat) with
        | true, true => (g → 0 ≤ i ∧ i < n) ∧ K (.ref (f i.toNat))
        | _, _ => False
      | .osl b off len => match Nat.beq ye.size 1 with
        | true => (g → 0 ≤ i ∧ i < len) ∧ K (.box b (off + i.toNat))
        | false => False
      | .bsl b off len es => match Nat.beq ye.size es with
        | true => (g → 0 ≤ i ∧ i < len) ∧ K (.box b (off + i.toNat * es))
        | false => False
      | _ => False
    | .arr n e => tyK tb e fun ye => match dx with
      | .box b off => match Nat.beq ye.size 1 with
        | true => (g → 0 ≤ i ∧ i < n) ∧ K (.box b (off + i.toNat))
        | false => (g → 0 ≤ i ∧ i < n) ∧ K (.box b (off + i.toNat * ye.size))
      | .ref ds => (g → 0 ≤ i ∧ i < n) ∧ dropK ds (i.toNat * ye.size) fun ds => takeK ds ye.size fun ds => K (.ref ds)
      | .gp gl => match ye.kind, Nat.beq ye.size 1 with
        | .int k, true => glbK glb gl fun vs => valInts k vs fun xs => (g → 0 ≤ i ∧ i < n ∧ i < xs.length) ∧ K (.ref [.int k (xs.getD i.toNat 0)])
        | _, false => glbK glb gl fun vs => match vs.all (·.oneCell') with
          | true => (g → 0 ≤ i ∧ i < n) ∧ dropK (vs.map ofVal) (i.toNat * ye.size) fun ds => takeK ds ye.size fun ds => K (.ref ds)
          | false => False
        | _, _ => False
      | _ => False
    | _ => False
  | _ => False
theorem nbeq_true {a b : Nat} (h : Nat.beq a b = true) : a = b := Nat.eq_of_beq_eq_true h
theorem indexAddr_el {P : Program} {tb : Tb} (htb : TbOk P tb) {g : Prop} {t : Nat} {dx di : D} {K : D → Prop} (hh : indexAddrK tb g t dx di K) :
    ∃ r, K r ∧ ∀ E h w v u, GlOk h → Den E h dx v → Den E h di u → g → Gives P E h (Instr.indexAt t v u) w r := by
  unfold indexAddrK at hh
  split at hh
  case h_2 => exact hh.elim
  rename_i ki i
  have hx := tyK_iff hh; clear hh; obtain ⟨y, hy, hh⟩ := hx
  have hty := htb _ _ hy
  split at hh
  · rename_i e hk
    have hu := kind_slice hty hk
    have hx := tyK_iff hh; clear hh; obtain ⟨ye, hye, hh⟩ := hx
    have hte := htb _ _ hye
    have hrun : ∀ (w : World) (a : Addr) (len cap : Nat), 0 ≤ i → i < len → (Instr.indexAt t (.slice (some a) len cap) (.int ki i)).run P w = .ok (.pointer (some (a.add (i.toNat * ye.size)))) w := fun w a len cap h0 h1 => by
      simp [Instr.indexAt, asIntOf, run_underlying hu, h0, h1, hte.sizeOf w]
    split at hh
    · rename_i k xs
      cases hb : Nat.beq ye.size 1 with
      | false => rw [hb] at hh; exact hh.elim
      | true =>
        rw [hb] at hh
        have hsz := nbeq_true hb
        refine ⟨_, hh.2, fun E h w v u gk hv hu hg => ?_⟩
        simp only [Den] at hu; obtain ⟨rfl, _⟩ := hu
        obtain ⟨h0, h1⟩ := hh.1 hg
        simp only [Den, slIntsOk] at hv
        obtain ⟨a, cap, rfl, h2, h3, h4, h5⟩ := hv
        have h1' : i.toNat < xs.length := by omega
        cases a with
        | none => simp only at h5; obtain ⟨h5, _⟩ := h5; subst h5; simp at h1'
        | some ad =>
          refine ⟨_, hrun w ad _ _ h0 h1, ?_⟩
          rw [hsz, Nat.mul_one, addr_add' h5.1]
          have hget : xs[i.toNat]? = some (xs.getD i.toNat 0) := by simp [List.getD, List.getElem?_eq_getElem h1']
          simp only [Den, DenL]
          refine ⟨_, _, rfl, [.int k (xs.getD i.toNat 0)], ⟨_, _, rfl, ⟨rfl, h4 _ (List.mem_of_getElem? hget)⟩, rfl⟩, by simp [Value.oneCell'], ?_⟩
          intro j v hv
          cases j with
          | zero => simp at hv; subst hv; exact h5.2 _ _ hget
          | succ j => simp at hv
    · rename_i es n f
      cases hb : Nat.beq ye.size es with
      | false => rw [hb] at hh; exact hh.elim
      | true =>
        cases hp : D.pureL (f i.toNat) with
        | false => rw [hb, hp] at hh; exact hh.elim
        | true =>
          rw [hb, hp] at hh
          have hsz := nbeq_true hb
          refine ⟨_, hh.2, fun E h w v u gk hv hu hg => ?_⟩
          simp only [Den] at hu; obtain ⟨rfl, _⟩ := hu
          obtain ⟨h0, h1⟩ := hh.1 hg
          simp only [Den] at hv
          obtain ⟨a, cap, rfl, h2, h3, h5⟩ := hv
          have h1' : i.toNat < n := by omega
          cases a with
          | none => simp only at h5; omega
          | some ad =>
            refine ⟨_, hrun w ad _ _ h0 h1, ?_⟩
            obtain ⟨vs, h6, h7, h8, h9⟩ := h5.2 _ h1'
            rw [addr_add' h5.1]
            simp only [Den]
            exact ⟨_, _, rfl, vs, DenL.pure hp h6, h8, fun j v hv => by rw [hsz]; exact h9 j v hv⟩
    · rename_i b off len
      cases hb : Nat.beq ye.size 1 with
      | false => rw [hb] at hh; exact hh.elim
      | true =>
        rw [hb] at hh
        have hsz := nbeq_true hb
        refine ⟨_, hh.2, fun E h w v u gk hv hu hg => ?_⟩
        simp only [Den] at hu; obtain ⟨rfl, _⟩ := hu
        obtain ⟨h0, h1⟩ := hh.1 hg
        simp only [Den] at hv
        rcases hv with ⟨_, _, hv⟩ | ⟨hreal, o, cap, rfl, h2, h3, h4, h5, hkn⟩
        · omega
        refine ⟨_, hrun w _ _ _ h0 h1, ?_⟩
        rw [hsz, Nat.mul_one, addr_add]
        rcases h5 with rfl | h5
        · simp only [Den]; exact ⟨trivial, hreal⟩
        · omega
    · rename_i b off len es
      cases hb : Nat.beq ye.size es with
      | false => rw [hb] at hh; exact hh.elim
      | true =>
        rw [hb] at hh
        have hsz := nbeq_true hb
        refine ⟨_, hh.2, fun E h w v u gk hv hu hg => ?_⟩
        simp only [Den] at hu; obtain ⟨rfl, _⟩ := hu
        obtain ⟨h0, h1⟩ := hh.1 hg
        simp only [Den] at hv
        obtain ⟨hreal, cap, rfl, _⟩ := hv
        refine ⟨_, hrun w _ _ _ h0 h1, ?_⟩
        rw [hsz, addr_add]
        simp only [Den]; exact ⟨trivial, hreal⟩
    · exact hh.elim
  · rename_i n e hk
    have hu := kind_arr hty hk
    have hx := tyK_iff hh; clear hh; obtain ⟨ye, hye, hh⟩ := hx
    have hte := htb _ _ hye
    have hrun : ∀ (w : World) (b o : Nat), 0 ≤ i → i < n → (Instr.indexAt t (.pointer (some ⟨b, o, none⟩)) (.int ki i)).run P w = .ok (.pointer (some ⟨b, o + i.toNat * ye.size, none⟩)) w := fun w b o h0 h1 => by
      simp [Instr.indexAt, asIntOf, run_underlying hu, h0, h1, hte.sizeOf w, Instr.sureAddr, addr_add]
    split at hh
    · rename_i b off
      cases hb : Nat.beq ye.size 1 with
      | true =>
        rw [hb] at hh
        have hsz := nbeq_true hb
        refine ⟨_, hh.2, fun E h w v u gk hv hu hg => ?_⟩
        simp only [Den] at hu hv; obtain ⟨rfl, _⟩ := hu; obtain ⟨rfl, hreal⟩ := hv
        obtain ⟨h0, h1⟩ := hh.1 hg
        exact ⟨_, hrun w _ _ h0 h1, by simp only [Den]; rw [hsz, Nat.mul_one]; exact ⟨rfl, hreal⟩⟩
      | false =>
        rw [hb] at hh
        refine ⟨_, hh.2, fun E h w v u gk hv hu hg => ?_⟩
        simp only [Den] at hu hv; obtain ⟨rfl, _⟩ := hu; obtain ⟨rfl, hreal⟩ := hv
        obtain ⟨h0, h1⟩ := hh.1 hg
        exact ⟨_, hrun w _ _ h0 h1, by simp only [Den]; exact ⟨trivial, hreal⟩⟩
    · rename_i ds
      obtain ⟨hs, hh⟩ := hh
      obtain ⟨h6, hh⟩ := dropK_el hh
      obtain ⟨h7, hh⟩ := takeK_el hh
      refine ⟨_, hh, fun E h w v u gk hv hu hg => ?_⟩
      simp only [Den] at hu hv; obtain ⟨rfl, _⟩ := hu
      obtain ⟨b, o, rfl, vs, hd, ho, hc⟩ := hv
      obtain ⟨h0, h1⟩ := hs hg
      refine ⟨_, hrun w _ _ h0 h1, ?_⟩
      simp only [Den]
      exact ⟨b, _, rfl, (vs.drop _).take _, (hd.drop _).take _, fun v hv => ho v (List.mem_of_mem_drop (List.mem_of_mem_take hv)), fun j v hv => by rw [Nat.add_assoc]; exact hc _ v (by rw [List.getElem?_take] at hv; split at hv; (simpa using hv); cases hv)⟩
    · rename_i gl
      split at hh
      case h_3 => exact hh.elim
      case h_2 =>
        obtain ⟨vs, hm, hh⟩ := glbK_el hh
        cases ho : vs.all (·.oneCell') with
        | false => rw [ho] at hh; exact hh.elim
        | true =>
          rw [ho] at hh
          obtain ⟨hs, hh⟩ := hh
          obtain ⟨h6, hh⟩ := dropK_el hh
          obtain ⟨h7, hh⟩ := takeK_el hh
          refine ⟨_, hh, fun E h w v u gk hv hu hg => ?_⟩
          simp only [Den] at hu hv; obtain ⟨rfl, _⟩ := hu; subst hv
          obtain ⟨h0, h1⟩ := hs hg
          refine ⟨_, hrun w _ _ h0 h1, ?_⟩
          simp only [Den]
          exact ⟨gl, _, rfl, (vs.drop _).take _, ((denL_ofVal _ _ vs).drop _).take _, fun v hv => List.all_eq_true.1 ho v (List.mem_of_mem_drop (List.mem_of_mem_take hv)), fun j v hv => by rw [Nat.zero_add]; exact gk gl vs hm _ v (by rw [List.getElem?_take] at hv; split at hv; (simpa using hv); cases hv)⟩
      rename_i k hke hsz0
      have hsz := nbeq_true hsz0
      obtain ⟨vs, hm, hh⟩ := glbK_el hh
      obtain ⟨xs, hxs, hr, hh⟩ := valInts_el hh
      refine ⟨_, hh.2, fun E h w v u gk hv hu hg => ?_⟩
      simp only [Den] at hu hv; obtain ⟨rfl, _⟩ := hu; subst hv
      obtain ⟨h0, h1, h2⟩ := hh.1 hg
      refine ⟨_, hrun w _ _ h0 h1, ?_⟩
      have h1' : i.toNat < xs.length := by omega
      have hget : xs[i.toNat]? = some (xs.getD i.toNat 0) := by simp [List.getD, List.getElem?_eq_getElem h1']
      simp only [Den, DenL]
      refine ⟨_, _, rfl, [.int k (xs.getD i.toNat 0)], ⟨_, _, rfl, ⟨rfl, hr _ (List.mem_of_getElem? hget)⟩, rfl⟩, by simp [Value.oneCell'], ?_⟩
      intro j v hv
      cases j with
      | zero =>
        simp at hv; subst hv
        rw [hsz, Nat.mul_one, Nat.zero_add, Nat.add_zero]
        exact gk gl vs hm _ _ (by rw [hxs, List.getElem?_map, hget]; rfl)
      | succ j => simp at hv
    · exact hh.elim
  · exact hh.elim
def indexK (tb : Tb) (g : Prop) (t : Nat) (dx di : D) (K : D → Prop) : Prop := match di with
  | .int _ i => tyK tb t fun y => match y.kind with
    | .arr n e => match dx with
      | .agg ds => (g → 0 ≤ i ∧ i < n) ∧ tyK tb e fun ye => partK tb e ds (i.toNat * ye.size) K
      | .iarr k xs => tyK tb e fun ye => match ye.kind.isAgg, Nat.beq ye.size 1 with
        | false, true => (g → 0 ≤ i ∧ i < n ∧ i < xs.length) ∧ K (.int k (xs.getD i.toNat 0))
        | _, _ => False
      | _ => False
    | .str => match dx with
      | .str s => (g → 0 ≤ i ∧ i < s.length) ∧ K (.int .u8 (s.getD i.toNat 0).toNat)
      | _ => False
    | _ => False
  | _ => False
theorem u8_inR (c : UInt8) : InR .u8 (c.toNat : Int) := by
  have := c.toNat_lt
  constructor <;> simp [lo, hi] <;> omega
theorem index_el {P : Program} {tb : Tb} (htb : TbOk P tb) {g : Prop} {t : Nat} {dx di : D} {K : D → Prop} (hh : indexK tb g t dx di K) :
    ∃ r, K r ∧ ∀ E h w v u, Den E h dx v → Den E h di u → g → Gives P E h (Instr.index t v u) w r := by
  unfold indexK at hh
  split at hh
  case h_2 => exact hh.elim
  rename_i ki i
  have hx := tyK_iff hh; clear hh; obtain ⟨y, hy, hh⟩ := hx
  have hty := htb _ _ hy
  split at hh
  · rename_i n e hk
    have hu := kind_arr hty hk
    split at hh
    · rename_i ds
      obtain ⟨hs, hh⟩ := hh
      have hx := tyK_iff hh; clear hh; obtain ⟨ye, hye, hh⟩ := hx
      have hte := htb _ _ hye
      obtain ⟨r, hr, hh⟩ := part_el htb hh
      refine ⟨r, hr, fun E h w v u hv hu' hg => ?_⟩
      simp only [Den] at hu' hv; obtain ⟨rfl, _⟩ := hu'
      obtain ⟨vs, rfl, hd, ho⟩ := hv
      obtain ⟨h0, h1⟩ := hs hg
      obtain ⟨v', h6, h7⟩ := hh E h w vs hd ho
      exact ⟨v', by simp [Instr.index, asIntOf, run_underlying hu, h0, h1, hte.sizeOf w, h6], h7⟩
    · rename_i k xs
      have hx := tyK_iff hh; clear hh; obtain ⟨ye, hye, hh⟩ := hx
      have hte := htb _ _ hye
      cases ha : ye.kind.isAgg with
      | true => rw [ha] at hh; exact hh.elim
      | false =>
        cases hb : Nat.beq ye.size 1 with
        | false => rw [ha, hb] at hh; exact hh.elim
        | true =>
          rw [ha, hb] at hh
          have hsz := nbeq_true hb
          refine ⟨_, hh.2, fun E h w v u hv hu' hg => ?_⟩
          simp only [Den] at hu' hv; obtain ⟨rfl, _⟩ := hu'
          obtain ⟨rfl, hr⟩ := hv
          obtain ⟨h0, h1, h2⟩ := hh.1 hg
          have h1' : i.toNat < xs.length := by omega
          have hget : xs[i.toNat]? = some (xs.getD i.toNat 0) := by simp [List.getD, List.getElem?_eq_getElem h1']
          refine ⟨.int k (xs.getD i.toNat 0), ?_, by simp only [Den]; exact ⟨trivial, hr _ (List.mem_of_getElem? hget)⟩⟩
          have := run_part_one (P := P) hte ha (vs := xs.map (Value.int k)) (o := i.toNat) (v := .int k (xs.getD i.toNat 0)) (by rw [List.getElem?_map, hget]; rfl) w
          simp [Instr.index, asIntOf, run_underlying hu, h0, h1, hte.sizeOf w, hsz, this]
    · exact hh.elim
  · rename_i hk
    have hu := kind_str hty hk
    split at hh
    · rename_i s
      refine ⟨_, hh.2, fun E h w v u hv hu' hg => ?_⟩
      simp only [Den] at hu' hv; obtain ⟨rfl, _⟩ := hu'
      obtain ⟨rfl, _⟩ := hv
      obtain ⟨h0, h1⟩ := hh.1 hg
      have h1' : i.toNat < s.length := by omega
      refine ⟨.int .u8 (s.getD i.toNat 0).toNat, ?_, by simp only [Den]; exact ⟨trivial, u8_inR _⟩⟩
      have hlt : i.toNat < (⟨s.toArray⟩ : ByteArray).size := by simpa [ByteArray.size] using h1'
      have h3 : (if 0 ≤ i then (⟨s.toArray⟩ : ByteArray)[i.toNat]? else none) = some (s.getD i.toNat 0) := by
        rw [if_pos h0, ByteArray.getElem?_lt' _ _ hlt]
        congr 1
        simp [List.getD, List.getElem?_eq_getElem h1']
        rfl
      simp only [Instr.index, asIntOf, Sem.run_bind, Sem.run_pure, Result.andThen_ok, run_underlying hu, h3]
    · exact hh.elim
  · exact hh.elim
def lenK (tb : Tb) (t : Nat) (d : D) (K : D → Prop) : Prop := tyK tb t fun y => match y.kind with
  | .slice _ => match d with
    | .ints _ xs => K (.int .i64 xs.length)
    | .slf _ n _ => K (.int .i64 n)
    | .nil => K (.int .i64 0)
    | .osl _ _ len => K (.int .i64 len)
    | .bsl _ _ len _ => K (.int .i64 len)
    | _ => False
  | .str => match d with
    | .str s => K (.int .i64 s.length)
    | _ => False
  | _ => False
theorem len_inR {n : Nat} (h : n ≤ 281474976710656) : InR .i64 (n : Int) := by
  constructor <;> simp [lo, hi] <;> omega
theorem len_el {P : Program} {tb : Tb} (htb : TbOk P tb) {t : Nat} {d : D} {K : D → Prop} (hh : lenK tb t d K) :
    ∃ r, K r ∧ ∀ E h w v ty ats, ats[0]? = some t → Den E h d v → Gives P E h (Builtin.len_ ats ty #[v]) w r := by
  have hx := tyK_iff hh; clear hh; obtain ⟨y, hy, hh⟩ := hx
  have hty := htb _ _ hy
  split at hh
  · rename_i e hk
    have hu := kind_slice hty hk
    have hrun : ∀ (w : World) (a : Option Addr) (n c : Nat) ty (ats : Array Nat), ats[0]? = some t → (Builtin.len_ ats ty #[.slice a n c]).run P w = .ok (.int .i64 n) w := fun w a n c ty ats h0 => by
      simp [Builtin.len_, run_underlying hu, goInt, h0]
    split at hh
    · refine ⟨_, hh, fun E h w v ty ats h0 hv => ?_⟩
      simp only [Den, slIntsOk] at hv
      obtain ⟨a, cap, rfl, _, h1, _⟩ := hv
      exact ⟨_, hrun w _ _ _ _ _ h0, by simp only [Den]; exact ⟨trivial, len_inR h1⟩⟩
    · refine ⟨_, hh, fun E h w v ty ats h0 hv => ?_⟩
      simp only [Den] at hv
      obtain ⟨a, cap, rfl, _, h1, _⟩ := hv
      exact ⟨_, hrun w _ _ _ _ _ h0, by simp only [Den]; exact ⟨trivial, len_inR h1⟩⟩
    · refine ⟨_, hh, fun E h w v ty ats h0 hv => ?_⟩
      simp only [Den] at hv; subst hv
      exact ⟨_, hrun w _ _ _ _ _ h0, by simp only [Den]; exact ⟨rfl, len_inR (n := 0) (by omega)⟩⟩
    · refine ⟨_, hh, fun E h w v ty ats h0 hv => ?_⟩
      simp only [Den] at hv
      rcases hv with ⟨_, rfl, rfl⟩ | ⟨_, o, cap, rfl, _, _, h1, _⟩
      · exact ⟨_, hrun w _ _ _ _ _ h0, by simp only [Den]; exact ⟨by trivial, len_inR (n := 0) (by omega)⟩⟩
      · exact ⟨_, hrun w _ _ _ _ _ h0, by simp only [Den]; exact ⟨trivial, len_inR h1⟩⟩
    · refine ⟨_, hh, fun E h w v ty ats h0 hv => ?_⟩
      simp only [Den] at hv
      obtain ⟨_, cap, rfl, _, h1, _⟩ := hv
      exact ⟨_, hrun w _ _ _ _ _ h0, by simp only [Den]; exact ⟨trivial, len_inR h1⟩⟩
    · exact hh.elim
  · rename_i hk
    have hu := kind_str hty hk
    split at hh
    · rename_i s0
      refine ⟨_, hh, fun E h w v ty ats h0 hv => ?_⟩
      simp only [Den] at hv
      obtain ⟨rfl, h1⟩ := hv
      refine ⟨.int .i64 s0.length, ?_, by simp only [Den]; exact ⟨trivial, len_inR h1⟩⟩
      have hs : (⟨s0.toArray⟩ : ByteArray).size = s0.length := by show s0.toArray.size = _; simp
      have hg : (#[Value.string ⟨s0.toArray⟩] : Array Value)[0]? = some (.string ⟨s0.toArray⟩) := rfl
      simp only [Builtin.len_, h0, hg, Sem.run_bind, run_underlying hu, Result.andThen_ok, goInt, hs, Sem.run_pure]
    · exact hh.elim
  · exact hh.elim
def optK (g : Prop) (L : Sl) (x : Option Operand) (d : Int) (K : Int → Prop) : Prop := match x with
  | none => K d
  | some x => rdg g L x fun r => match r with | .int _ n => K n | _ => False
def sliceK (tb : Tb) (g : Prop) (L : Sl) (t : Nat) (dx : D) (lo hi : Option Operand) (K : D → Prop) : Prop := tyK tb t fun y => match y.kind with
  | .slice e => tyK tb e fun ye => match Nat.beq ye.size 1 with
    | true => match dx with
      | .ints k xs => match lo, hi with
        | none, none => K (.ints k xs)
        | none, some b => rdg g L b fun r => match r with | .int _ n => (g → 0 ≤ n ∧ n ≤ xs.length) ∧ K (.ints k (xs.take n.toNat)) | _ => False
        | some a, none => rdg g L a fun r => match r with | .int _ n => (g → 0 ≤ n ∧ n ≤ xs.length) ∧ K (.ints k (xs.drop n.toNat)) | _ => False
        | some a, some b => rdg g L a fun r => match r with
          | .int _ m => rdg g L b fun r => match r with | .int _ n => (g → 0 ≤ m ∧ m ≤ n ∧ n ≤ xs.length) ∧ K (.ints k ((xs.take n.toNat).drop m.toNat)) | _ => False
          | _ => False
      | .osl i off len => match lo, hi with
        | none, none => K (.osl i off len)
        | none, some b => rdg g L b fun r => match r with | .int _ n => (g → 0 ≤ n ∧ n ≤ len) ∧ K (.osl i off n.toNat) | _ => False
        | some a, none => rdg g L a fun r => match r with | .int _ n => (g → 0 ≤ n ∧ n ≤ len) ∧ K (.osl i (off + n.toNat) (len - n.toNat)) | _ => False
        | some a, some b => rdg g L a fun r => match r with
          | .int _ m => rdg g L b fun r => match r with | .int _ n => (g → 0 ≤ m ∧ m ≤ n ∧ n ≤ len) ∧ K (.osl i (off + m.toNat) (n.toNat - m.toNat)) | _ => False
          | _ => False
      | _ => False
    | false => match dx with
      | .slf e' q f => match Nat.beq e' ye.size with
        | true => match lo, hi with
          | none, some b => rdg g L b fun r => match r with | .int _ n => (g → 0 ≤ n ∧ n ≤ q) ∧ K (.slf e' n.toNat fun j => f (j + 0)) | _ => False
          | some a, none => rdg g L a fun r => match r with | .int _ n => (g → 0 ≤ n ∧ n ≤ q) ∧ K (.slf e' (q - n.toNat) fun j => f (j + n.toNat)) | _ => False
          | some a, some b => rdg g L a fun r => match r with
            | .int _ m => rdg g L b fun r => match r with | .int _ n => (g → 0 ≤ m ∧ m ≤ n ∧ n ≤ q) ∧ K (.slf e' (n.toNat - m.toNat) fun j => f (j + m.toNat)) | _ => False
            | _ => False
          | _, _ => False
        | false => False
      | _ => False
  | .str => match dx with
    | .str s => match lo, hi with
      | none, none => K (.str s)
      | none, some b => rdg g L b fun r => match r with | .int _ n => (g → 0 ≤ n ∧ n ≤ s.length) ∧ K (.str (s.take n.toNat)) | _ => False
      | some a, none => rdg g L a fun r => match r with | .int _ n => (g → 0 ≤ n ∧ n ≤ s.length) ∧ K (.str (s.drop n.toNat)) | _ => False
      | some a, some b => rdg g L a fun r => match r with
        | .int _ m => rdg g L b fun r => match r with | .int _ n => (g → 0 ≤ m ∧ m ≤ n ∧ n ≤ s.length) ∧ K (.str ((s.take n.toNat).drop m.toNat)) | _ => False
        | _ => False
    | _ => False
  | .arr n e => match dx, lo, hi with
    | .box i off, none, none => match Nat.ble n 1000000 with
      | true => tyK tb e fun ye => K (.bsl i off n ye.size)
      | false => False
    | _, _, _ => False
  | _ => False
inductive Lim : Option Value → Int → Int → Prop
  | none (d : Int) : Lim none d d
  | some (k : IntKind) (n d : Int) : Lim (some (.int k n)) d n
theorem run_slice_lim {P : Program} {t e : Nat} {ye : Ty} (hu : P.underlying t = some (.slice e)) (he : TyOk P e ye) {lo hi : Option Value} {m n : Int} {len cap : Nat} (a : Option Addr)
    (hlo : Lim lo 0 m) (hhi : Lim hi len n) (h0 : 0 ≤ m) (h1 : m ≤ n) (h2 : n ≤ cap) (w : World) :
    (Instr.sliceAt t (.slice a len cap) lo hi none).run P w = .ok (.slice (if cap = m.toNat then a else a.map (·.add (m.toNat * ye.size))) (n.toNat - m.toNat) (cap - m.toNat)) w := by
  have hb : (Instr.sliceBounds true len cap lo hi none).run P w = .ok (m.toNat, n.toNat, cap) w := by
    have e2 : ((n.toNat : Nat) : Int) = n := Int.toNat_of_nonneg (by omega)
    have e0 : 0 ≤ n := by omega
    have e3 : m ≤ (n.toNat : Int) := by omega
    have b1 : ∀ k, (Instr.sliceBound (.int k n) cap .sliceAcap).run P w = .ok n.toNat w := fun k => run_sliceBound w k n _ _ e0 h2
    have b2 : ∀ k, (Instr.sliceBound (.int k m) n.toNat .sliceB).run P w = .ok m.toNat w := fun k => run_sliceBound w k m _ _ h0 e3
    rcases hlo with _ | ⟨_, _, _⟩ <;> rcases hhi with _ | ⟨_, _, _⟩ <;> (try simp only [Int.toNat_natCast] at b1 b2) <;> simp [Instr.sliceBounds, b1, b2]
  simp only [Instr.sliceAt, Instr.slice, Sem.run_bind, run_underlying hu, Result.andThen_ok, hb, he.sizeOf w, Sem.run_pure]
theorem run_slice_str {P : Program} {t : Nat} (hu : P.underlying t = some .string) {lo hi : Option Value} {m n : Int} {s : ByteArray}
    (hlo : Lim lo 0 m) (hhi : Lim hi s.size n) (h0 : 0 ≤ m) (h1 : m ≤ n) (h2 : n ≤ s.size) (w : World) :
    (Instr.sliceAt t (.string s) lo hi none).run P w = .ok (.string (s.extract m.toNat n.toNat)) w := by
  have hb : (Instr.sliceBounds false s.size s.size lo hi none).run P w = .ok (m.toNat, n.toNat, s.size) w := by
    have e2 : ((n.toNat : Nat) : Int) = n := Int.toNat_of_nonneg (by omega)
    have e0 : 0 ≤ n := by omega
    have e3 : m ≤ (n.toNat : Int) := by omega
    have b1 : ∀ k, (Instr.sliceBound (.int k n) s.size .sliceAlen).run P w = .ok n.toNat w := fun k => run_sliceBound w k n _ _ e0 h2
    have b2 : ∀ k, (Instr.sliceBound (.int k m) n.toNat .sliceB).run P w = .ok m.toNat w := fun k => run_sliceBound w k m _ _ h0 e3
    rcases hlo with _ | ⟨_, _, _⟩ <;> rcases hhi with _ | ⟨_, _, _⟩ <;> (try simp only [Int.toNat_natCast] at b1 b2) <;> simp [Instr.sliceBounds, b1, b2]
  simp only [Instr.sliceAt, Instr.slice, Sem.run_bind, run_underlying hu, Result.andThen_ok, hb, Sem.run_pure, Option.isSome_none, Bool.false_eq_true, if_false]
theorem den_sub_ints {E : Env} {h : Pub} {k : IntKind} {xs : List Int} {a : Option Addr} {cap m n : Nat} (h1 : m ≤ n) (h2 : n ≤ xs.length) {s : Nat} (hs : s = 1)
    (H : Den E h (.ints k xs) (.slice a xs.length cap)) : Den E h (.ints k ((xs.take n).drop m)) (.slice (if cap = m then a else a.map (·.add (m * s))) (n - m) (cap - m)) := by
  subst hs
  simp only [Den, slIntsOk] at H ⊢
  obtain ⟨a', cap', he, h3, h4, h5, h6⟩ := H
  simp only [Value.slice.injEq, true_and] at he
  obtain ⟨rfl, rfl⟩ := he
  have hlen : ((xs.take n).drop m).length = n - m := by simp; omega
  refine ⟨_, _, by rw [hlen], by omega, by omega, fun z hz => h5 z (List.mem_of_mem_take (List.mem_of_mem_drop hz)), ?_⟩
  cases a with
  | none =>
    obtain ⟨h7, h8⟩ := h6; subst h7; subst h8
    simp only [Option.map_none, ite_self]
    exact ⟨by simp, by omega⟩
  | some ad =>
    by_cases hc : cap = m
    · rw [if_pos hc]
      refine ⟨h6.1, fun i z hz => ?_⟩
      have : i < ((xs.take n).drop m).length := (List.getElem?_eq_some_iff.1 hz).1
      omega
    · rw [if_neg hc]
      simp only [Option.map_some, Nat.mul_one]
      rw [addr_add' h6.1]
      refine ⟨rfl, fun i z hz => ?_⟩
      simp only [Nat.add_assoc]
      exact h6.2 _ _ (take_some (by simpa using hz))
theorem den_sub_osl {E : Env} {h : Pub} {i off len : Nat} {ad : Addr} {cap m n : Nat} (h1 : m ≤ n) (h2 : n ≤ len) {s : Nat} (hs : s = 1)
    (H : Den E h (.osl i off len) (.slice (some ad) len cap)) : Den E h (.osl i (off + m) (n - m)) (.slice (if cap = m then some ad else (some ad).map (·.add (m * s))) (n - m) (cap - m)) := by
  subst hs
  simp only [Den] at H ⊢
  rcases H with ⟨_, H, _⟩ | ⟨hreal, o, cap', he, h3, h4, h5, h6, hkn⟩
  · cases H
  simp only [Value.slice.injEq, true_and, Option.some.injEq] at he
  obtain ⟨rfl, rfl⟩ := he
  refine .inr ⟨hreal, ?_⟩
  split
  · exact ⟨o, cap - m, rfl, by omega, by omega, by omega, by omega, by omega⟩
  · refine ⟨o + m, cap - m, by simp [addr_add], by omega, by omega, by omega, ?_, by omega⟩
    rcases h6 with rfl | h6
    · exact .inl rfl
    · omega
theorem den_sub_slf {E : Env} {h : Pub} {e q : Nat} {f : Nat → List D} {a : Option Addr} {cap m n : Nat} (h1 : m ≤ n) (h2 : n ≤ q) {s : Nat} (hs : e = s)
    (H : Den E h (.slf e q f) (.slice a q cap)) : Den E h (.slf e (n - m) fun j => f (j + m)) (.slice (if cap = m then a else a.map (·.add (m * s))) (n - m) (cap - m)) := by
  subst hs
  simp only [Den] at H ⊢
  obtain ⟨a', cap', he, h3, h4, h6⟩ := H
  simp only [Value.slice.injEq, true_and] at he
  obtain ⟨rfl, rfl⟩ := he
  refine ⟨_, _, rfl, by omega, by omega, ?_⟩
  cases a with
  | none =>
    obtain ⟨h7, h8⟩ := h6
    simp only [Option.map_none, ite_self]
    exact ⟨by omega, by omega⟩
  | some ad =>
    by_cases hc : cap = m
    · rw [if_pos hc]
      exact ⟨h6.1, fun j hj => by omega⟩
    · rw [if_neg hc]
      simp only [Option.map_some]
      rw [addr_add' h6.1]
      refine ⟨rfl, fun j hj => ?_⟩
      obtain ⟨vs, g1, g2, g3, g4⟩ := h6.2 (j + m) (by omega)
      refine ⟨vs, g1, g2, g3, fun i v hv => ?_⟩
      have := g4 i v hv
      rw [Nat.add_mul] at this
      simp only
      rw [show ad.off + m * e + j * e + i = ad.off + (j * e + m * e) + i by omega]
      exact this
theorem den_sub_str {s : List UInt8} {m n : Nat} (_h2 : n ≤ s.length) : ((⟨s.toArray⟩ : ByteArray).extract m n) = ⟨((s.take n).drop m).toArray⟩ := by
  apply ByteArray.ext
  rw [ByteArray.data_extract]
  apply Array.toList_inj.1
  simp [List.drop_take]
theorem rdg_int {g : Prop} {L : Sl} {x : Operand} {K : Int → Prop} (h : rdg g L x fun r => match r with | .int _ n => K n | _ => False) :
    ∃ n, K n ∧ ∀ (E : Env) (hp : Pub) (a : Act), g → Den E hp (rd L x) (a.eval x) → ∃ k, a.eval x = .int k n := by
  obtain ⟨d, h1, h2⟩ := rdg_el h
  split at h1
  · rename_i k n
    refine ⟨n, h1, fun E hp a hg hd => ?_⟩
    have := h2 E hp a hg hd
    simp only [Den] at this
    exact ⟨_, this.1⟩
  · exact h1.elim
theorem slice_el {P : Program} {tb : Tb} (htb : TbOk P tb) {g : Prop} {L : Sl} {t : Nat} {dx : D} {lo hi : Option Operand} {K : D → Prop} (hh : sliceK tb g L t dx lo hi K) :
    ∃ r, K r ∧ ∀ E h (a : Act) w v, (∀ x, Den E h (rd L x) (a.eval x)) → Den E h dx v → g → Gives P E h (Instr.sliceAt t v (lo.map a.eval) (hi.map a.eval) none) w r := by
  have hx := tyK_iff hh; clear hh; obtain ⟨y, hy, hh⟩ := hx
  have hty := htb _ _ hy
  split at hh
  · rename_i e hk
    have hu := kind_slice hty hk
    have hx := tyK_iff hh; clear hh; obtain ⟨ye, hye, hh⟩ := hx
    have hte := htb _ _ hye
    cases hb : Nat.beq ye.size 1 with
    | false =>
      rw [hb] at hh
      cases dx with
      | slf e' q f =>
        dsimp only at hh
        cases hb2 : Nat.beq e' ye.size with
        | false => rw [hb2] at hh; exact hh.elim
        | true =>
          rw [hb2] at hh
          have hsz := nbeq_true hb2
          have fin : ∀ (m n : Int), 0 ≤ m → m ≤ n → n ≤ q → ∀ E h (w : World) v (lo hi : Option Value), Lim lo 0 m → Lim hi q n → Den E h (.slf e' q f) v →
              Gives P E h (Instr.sliceAt t v lo hi none) w (.slf e' (n.toNat - m.toNat) fun j => f (j + m.toNat)) := by
            intro m n h0 h1 h2 E h w v lo hi hlo hhi hv
            have hv' := hv
            simp only [Den] at hv
            obtain ⟨a, cap, rfl, h3, _⟩ := hv
            exact ⟨_, run_slice_lim hu hte a hlo hhi h0 h1 (by omega) w, den_sub_slf (by omega) (by omega) hsz hv'⟩
          cases lo with
          | none =>
            cases hi with
            | none => exact hh.elim
            | some b =>
              dsimp only at hh
              obtain ⟨n, hn, he⟩ := rdg_int hh
              refine ⟨_, hn.2, fun E h a w v hk hv hg => ?_⟩
              obtain ⟨h1, h2⟩ := hn.1 hg
              obtain ⟨k', hk'⟩ := he E h a hg (hk b)
              have := fin 0 n (by omega) h1 h2 E h w v none (some (a.eval b)) (.none _) (by rw [hk']; exact .some _ _ _) hv
              simpa using this
          | some b =>
            cases hi with
            | none =>
              dsimp only at hh
              obtain ⟨n, hn, he⟩ := rdg_int hh
              refine ⟨_, hn.2, fun E h a w v hk hv hg => ?_⟩
              obtain ⟨h1, h2⟩ := hn.1 hg
              obtain ⟨k', hk'⟩ := he E h a hg (hk b)
              have := fin n q h1 h2 (by omega) E h w v (some (a.eval b)) none (by rw [hk']; exact .some _ _ _) (.none _) hv
              simpa using this
            | some c =>
              dsimp only at hh
              obtain ⟨m, hm, hem⟩ := rdg_int hh
              obtain ⟨n, hn, he⟩ := rdg_int hm
              refine ⟨_, hn.2, fun E h a w v hk hv hg => ?_⟩
              obtain ⟨h1, h2, h3⟩ := hn.1 hg
              obtain ⟨k', hk'⟩ := hem E h a hg (hk b)
              obtain ⟨k2, hk2⟩ := he E h a hg (hk c)
              exact fin m n h1 h2 h3 E h w v (some (a.eval b)) (some (a.eval c)) (by rw [hk']; exact .some _ _ _) (by rw [hk2]; exact .some _ _ _) hv
      | _ => exact hh.elim
    | true =>
      rw [hb] at hh
      have hsz := nbeq_true hb
      have fin : ∀ (k : IntKind) (xs : List Int) (m n : Int), 0 ≤ m → m ≤ n → n ≤ xs.length → ∀ E h (w : World) v (lo hi : Option Value), Lim lo 0 m → Lim hi xs.length n → Den E h (.ints k xs) v →
          Gives P E h (Instr.sliceAt t v lo hi none) w (.ints k ((xs.take n.toNat).drop m.toNat)) := by
        intro k xs m n h0 h1 h2 E h w v lo hi hlo hhi hv
        have hv' := hv
        simp only [Den, slIntsOk] at hv
        obtain ⟨a, cap, rfl, h3, _⟩ := hv
        exact ⟨_, run_slice_lim hu hte a hlo hhi h0 h1 (by omega) w, den_sub_ints (by omega) (by omega) hsz hv'⟩
      have fino : ∀ (i off len : Nat) (m n : Int), 0 ≤ m → m ≤ n → n ≤ len → ∀ E h (w : World) v (lo hi : Option Value), Lim lo 0 m → Lim hi len n → Den E h (.osl i off len) v →
          Gives P E h (Instr.sliceAt t v lo hi none) w (.osl i (off + m.toNat) (n.toNat - m.toNat)) := by
        intro i off len m n h0 h1 h2 E h w v lo hi hlo hhi hv
        have hv' := hv
        simp only [Den] at hv
        rcases hv with ⟨hr, rfl, rfl⟩ | ⟨hr, o, cap, rfl, h3, _⟩
        · refine ⟨_, run_slice_lim hu hte none hlo hhi h0 h1 (by omega) w, ?_⟩
          simp only [Den]
          refine .inl ⟨hr, ?_, by omega⟩
          have : n.toNat - m.toNat = 0 := by omega
          simp [this]
        · exact ⟨_, run_slice_lim hu hte _ hlo hhi h0 h1 (by omega) w, den_sub_osl (by omega) (by omega) hsz hv'⟩
      cases dx with
      | ints k xs =>
        cases lo with
        | none =>
          cases hi with
          | none =>
            dsimp only at hh
            refine ⟨_, hh, fun E h a w v hk hv hg => ?_⟩
            have := fin k xs 0 xs.length (by omega) (by omega) (by omega) E h w v none none (.none _) (.none _) hv
            simpa using this
          | some b =>
            dsimp only at hh
            obtain ⟨n, hn, he⟩ := rdg_int hh
            refine ⟨_, hn.2, fun E h a w v hk hv hg => ?_⟩
            obtain ⟨h1, h2⟩ := hn.1 hg
            obtain ⟨k', hk'⟩ := he E h a hg (hk b)
            have := fin k xs 0 n (by omega) h1 h2 E h w v none (some (a.eval b)) (.none _) (by rw [hk']; exact .some _ _ _) hv
            simpa using this
        | some b =>
          cases hi with
          | none =>
            dsimp only at hh
            obtain ⟨n, hn, he⟩ := rdg_int hh
            refine ⟨_, hn.2, fun E h a w v hk hv hg => ?_⟩
            obtain ⟨h1, h2⟩ := hn.1 hg
            obtain ⟨k', hk'⟩ := he E h a hg (hk b)
            have := fin k xs n xs.length h1 h2 (by omega) E h w v (some (a.eval b)) none (by rw [hk']; exact .some _ _ _) (.none _) hv
            simpa using this
          | some c =>
            dsimp only at hh
            obtain ⟨m, hm, hem⟩ := rdg_int hh
            obtain ⟨n, hn, he⟩ := rdg_int hm
            refine ⟨_, hn.2, fun E h a w v hk hv hg => ?_⟩
            obtain ⟨h1, h2, h3⟩ := hn.1 hg
            obtain ⟨k', hk'⟩ := hem E h a hg (hk b)
            obtain ⟨k2, hk2⟩ := he E h a hg (hk c)
            exact fin k xs m n h1 h2 h3 E h w v (some (a.eval b)) (some (a.eval c)) (by rw [hk']; exact .some _ _ _) (by rw [hk2]; exact .some _ _ _) hv
      | osl i off len =>
        cases lo with
        | none =>
          cases hi with
          | none =>
            dsimp only at hh
            refine ⟨_, hh, fun E h a w v hk hv hg => ?_⟩
            have := fino i off len 0 len (by omega) (by omega) (by omega) E h w v none none (.none _) (.none _) hv
            simpa using this
          | some b =>
            dsimp only at hh
            obtain ⟨n, hn, he⟩ := rdg_int hh
            refine ⟨_, hn.2, fun E h a w v hk hv hg => ?_⟩
            obtain ⟨h1, h2⟩ := hn.1 hg
            obtain ⟨k', hk'⟩ := he E h a hg (hk b)
            have := fino i off len 0 n (by omega) h1 h2 E h w v none (some (a.eval b)) (.none _) (by rw [hk']; exact .some _ _ _) hv
            simpa using this
        | some b =>
          cases hi with
          | none =>
            dsimp only at hh
            obtain ⟨n, hn, he⟩ := rdg_int hh
            refine ⟨_, hn.2, fun E h a w v hk hv hg => ?_⟩
            obtain ⟨h1, h2⟩ := hn.1 hg
            obtain ⟨k', hk'⟩ := he E h a hg (hk b)
            have := fino i off len n len h1 h2 (by omega) E h w v (some (a.eval b)) none (by rw [hk']; exact .some _ _ _) (.none _) hv
            simpa using this
          | some c =>
            dsimp only at hh
            obtain ⟨m, hm, hem⟩ := rdg_int hh
            obtain ⟨n, hn, he⟩ := rdg_int hm
            refine ⟨_, hn.2, fun E h a w v hk hv hg => ?_⟩
            obtain ⟨h1, h2, h3⟩ := hn.1 hg
            obtain ⟨k', hk'⟩ := hem E h a hg (hk b)
            obtain ⟨k2, hk2⟩ := he E h a hg (hk c)
            exact fino i off len m n h1 h2 h3 E h w v (some (a.eval b)) (some (a.eval c)) (by rw [hk']; exact .some _ _ _) (by rw [hk2]; exact .some _ _ _) hv
      | _ => exact hh.elim
  · rename_i hk
    have hu := kind_str hty hk
    cases dx with
    | str s =>
      have fin : ∀ (m n : Int), 0 ≤ m → m ≤ n → n ≤ s.length → ∀ E h (w : World) v (lo hi : Option Value), Lim lo 0 m → Lim hi s.length n → Den E h (.str s) v →
          Gives P E h (Instr.sliceAt t v lo hi none) w (.str ((s.take n.toNat).drop m.toNat)) := by
        intro m n h0 h1 h2 E h w v lo hi hlo hhi hv
        simp only [Den] at hv
        obtain ⟨rfl, h3⟩ := hv
        have hsz : (⟨s.toArray⟩ : ByteArray).size = s.length := by show s.toArray.size = _; simp
        have hhi' : Lim hi ((⟨s.toArray⟩ : ByteArray).size : Nat) n := by rw [hsz]; exact hhi
        refine ⟨_, run_slice_str hu hlo hhi' h0 h1 (by omega) w, ?_⟩
        rw [den_sub_str (by omega)]
        simp only [Den]
        refine ⟨trivial, ?_⟩
        simp; omega
      cases lo with
      | none =>
        cases hi with
        | none =>
          dsimp only at hh
          refine ⟨_, hh, fun E h a w v hk hv hg => ?_⟩
          have := fin  0 s.length (by omega) (by omega) (by omega) E h w v none none (.none _) (.none _) hv
          simpa using this
        | some b =>
          dsimp only at hh
          obtain ⟨n, hn, he⟩ := rdg_int hh
          refine ⟨_, hn.2, fun E h a w v hk hv hg => ?_⟩
          obtain ⟨h1, h2⟩ := hn.1 hg
          obtain ⟨k', hk'⟩ := he E h a hg (hk b)
          have := fin  0 n (by omega) h1 h2 E h w v none (some (a.eval b)) (.none _) (by rw [hk']; exact .some _ _ _) hv
          simpa using this
      | some b =>
        cases hi with
        | none =>
          dsimp only at hh
          obtain ⟨n, hn, he⟩ := rdg_int hh
          refine ⟨_, hn.2, fun E h a w v hk hv hg => ?_⟩
          obtain ⟨h1, h2⟩ := hn.1 hg
          obtain ⟨k', hk'⟩ := he E h a hg (hk b)
          have := fin  n s.length h1 h2 (by omega) E h w v (some (a.eval b)) none (by rw [hk']; exact .some _ _ _) (.none _) hv
          simpa using this
        | some c =>
          dsimp only at hh
          obtain ⟨m, hm, hem⟩ := rdg_int hh
          obtain ⟨n, hn, he⟩ := rdg_int hm
          refine ⟨_, hn.2, fun E h a w v hk hv hg => ?_⟩
          obtain ⟨h1, h2, h3⟩ := hn.1 hg
          obtain ⟨k', hk'⟩ := hem E h a hg (hk b)
          obtain ⟨k2, hk2⟩ := he E h a hg (hk c)
          exact fin  m n h1 h2 h3 E h w v (some (a.eval b)) (some (a.eval c)) (by rw [hk']; exact .some _ _ _) (by rw [hk2]; exact .some _ _ _) hv
    | _ => exact hh.elim
  · rename_i n e hk
    have hu := kind_arr hty hk
    split at hh
    case h_2 => exact hh.elim
    rename_i i off
    cases hb : Nat.ble n 1000000 with
    | false => rw [hb] at hh; exact hh.elim
    | true =>
      rw [hb] at hh
      have hn := Nat.le_of_ble_eq_true hb
      have hx := tyK_iff hh; clear hh; obtain ⟨ye, hye, hh⟩ := hx
      have hte := htb _ _ hye
      refine ⟨_, hh, fun E h a w v hk hv hg => ?_⟩
      simp only [Den] at hv
      obtain ⟨rfl, hr⟩ := hv
      refine ⟨.slice (some ⟨E.blk i, off, none⟩) n n, ?_, by simp only [Den]; exact ⟨hr, n, rfl, Nat.le_refl _, by omega, .inl rfl⟩⟩
      simp only [Option.map_none, Instr.sliceAt, Sem.run_bind, run_underlying hu, Result.andThen_ok, Instr.sureAddr, Sem.run_pure, Instr.sliceBounds, hte.sizeOf w]
      simp [Addr.add]
  · exact hh.elim
end Go.V
end
