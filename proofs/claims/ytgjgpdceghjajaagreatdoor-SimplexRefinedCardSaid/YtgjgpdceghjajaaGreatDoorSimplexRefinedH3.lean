/- Laws of a small interpreter over plain values, part 3. No condition. -/
import Derived.Test.YtgjgpdceghjajaaGreatDoorSimplexRefinedH2
set_option linter.unusedSimpArgs false
set_option linter.unusedVariables false
set_option maxHeartbeats 8000000
set_option maxRecDepth 100000
section
namespace Go.V
open Go Go.RowKit
theorem ja2 {α : Type} {l : List α} {n i : Nat} {v : α} (h : (l.take n)[i]? = some v) : l[i]? = some v := by
 rw [List.getElem?_take] at h
 split at h
 ·exact h
 ·cases h
theorem jaS (b o n : Nat) : (⟨b, o, none⟩ : Addr).add n = ⟨b, o + n, none⟩ := by
 unfold Addr.add; split
 ·simp [*]
 ·rfl
theorem jbK {a : Addr} (h : a.spot = none) (n : Nat) : a.add n = ⟨a.block, a.off + n, none⟩ := by
 obtain ⟨b, o, s⟩ := a; simp at h; subst h; exact jaS b o n
theorem jbe {P : Program} {t : Nat} {y : Ty} (hy : TyOk P t y) (ha : y.kind.isAgg = true) {w : World} {b o : Nat} {vs : List Value} (hl : vs.length = y.size)
  (hc : ∀ (i : Nat) v, vs[i]? = some v → w.cell? ⟨b, o + i, none⟩ = some v) : (loadVar t ⟨b, o, none⟩).run P w = .ok (.agg vs.toArray) w := by
 have h1 := run_loadCells_list (P := P) w ⟨b, o, none⟩ vs (fun j v hv => by rw [jaS]; exact hc j v hv)
 rw [hl] at h1
 simp [loadVar, hy.isAgg w, ha, hy.sizeOf w, h1]
theorem jbJ {P : Program} {t : Nat} {y : Ty} (hy : TyOk P t y) (ha : y.kind.isAgg = false) {w : World} {b o : Nat} {v : Value}
  (hc : w.cell? ⟨b, o, none⟩ = some v) : (loadVar t ⟨b, o, none⟩).run P w = .ok v w := by
 simp [loadVar, hy.isAgg w, ha, hc]
theorem jbV {w : World} {g : Nat} {vs : List Value} {T : TypeId} {fr : Nat × Nat} (hg : w.heap[g]? = some (.cells vs.toArray T fr)) {i : Nat} {v : Value} (hv : vs[i]? = some v) : w.cell? ⟨g, i, none⟩ = some v := by
 rw [cell_of_row w g i _ T fr hg]; simpa using hv
theorem jdE {w : World} {g : Nat} {vs rest : List Value} {T : TypeId} {fr : Nat × Nat} (hg : w.heap[g]? = some (.cells (vs ++ rest).toArray T fr)) {i : Nat} {v : Value} (hv : vs[i]? = some v) : w.cell? ⟨g, i, none⟩ = some v :=
 jbV hg (by rw [jiS (jiT.1 hv).1]; exact hv)
theorem jaZ {E : Env} {h : Pub} {w : World} {i : Nat} {k : IntKind} {xs : List Int} (hr : E.real i = true) (H : ChunkOk E h w i (.arr k xs)) :
  ∃ (rest : List Value) (T : TypeId), w.heap[E.blk i]? = some (.cells (xs.map (Value.int k) ++ rest).toArray T (0, 0)) ∧ E.siz i = xs.length + rest.length ∧ (∀ n ∈ xs, InR k n) ∧ E.kn i = xs.length := by
 rcases H with ⟨h1, _⟩ | ⟨_, h2⟩
 ·rw [hr] at h1; cases h1
 ·exact h2
def jbd : Hp → Nat → (Chunk → Prop) → Prop
 | [], _, _ => False
 | (s, c) :: H, i, K => match Nat.beq s i with | true => K c | false => jbd H i K
theorem jaA {H : Hp} {i : Nat} {K : Chunk → Prop} (h : jbd H i K) : ∃ c, lookH H i = some c ∧ K c := by
 induction H with
 | nil => exact h.elim
 | cons x L ih =>
  obtain ⟨s, y⟩ := x
  simp only [jbd, lookH] at h ⊢
  cases hb : Nat.beq s i with
  | true => rw [hb] at h; exact ⟨y, rfl, h⟩
  | false => rw [hb] at h; exact ih h
def glbK : List (Nat × List Value) → Nat → (List Value → Prop) → Prop
 | [], _, _ => False
 | (s, vs) :: L, g, K => match Nat.beq s g with | true => K vs | false => glbK L g K
theorem jhu {L : List (Nat × List Value)} {g : Nat} {K : List Value → Prop} (h : glbK L g K) : ∃ vs, (g, vs) ∈ L ∧ K vs := by
 induction L with
 | nil => exact h.elim
 | cons x L ih =>
  obtain ⟨s, vs⟩ := x
  simp only [glbK] at h
  cases hb : Nat.beq s g with
  | true =>
   rw [hb] at h
   have := Nat.eq_of_beq_eq_true hb
   subst this
   exact ⟨vs, by simp, h⟩
  | false =>
   rw [hb] at h
   obtain ⟨vs', h1, h2⟩ := ih h
   exact ⟨vs', by simp [h1], h2⟩
def jfP (k : IntKind) : List Value → (List Int → Prop) → Prop
 | [], K => K []
 | .int k' n :: vs, K => match kE k k', inRb k n with | true, true => jfP k vs fun xs => K (n :: xs) | _, _ => False
 | _ :: _, _ => False
theorem valInts_el {k : IntKind} {vs : List Value} {K : List Int → Prop} (h : jfP k vs K) : ∃ xs, vs = xs.map (Value.int k) ∧ (∀ n ∈ xs, InR k n) ∧ K xs := by
 induction vs generalizing K with
 | nil => exact ⟨[], rfl, by simp, h⟩
 | cons v vs ih =>
  cases v with
  | int k' n =>
   simp only [jfP] at h
   cases hk : kE k k' with
   | false => rw [hk] at h; exact h.elim
   | true =>
    cases hn : inRb k n with
    | false => rw [hk, hn] at h; exact h.elim
    | true =>
     rw [hk, hn] at h
     have := kE_eq hk; subst this
     obtain ⟨xs, rfl, h1, h2⟩ := ih h
     refine ⟨n :: xs, rfl, fun m hm => ?_, h2⟩
     rcases jiL.1 hm with rfl | hm
     ·exact inRb_iff hn
     ·exact h1 m hm
  | _ => exact h.elim
theorem jdX (E : Env) (h : Pub) : ∀ vs : List Value, DenL E h (vs.map ofVal) vs
 | [] => by simp [DenL]
 | v :: vs => by simp only [List.map_cons, DenL]; exact ⟨v, vs, rfl, jgQ E h v, jdX E h vs⟩
def loadK (tb : Tb) (g : Prop) (H : Hp) (t : Nat) (d : D) (K : D → Prop) : Prop := tyK tb t fun y => match d with
 | .box i off => jbd H i fun c => match c with
  | .box ds => match y.kind.isAgg with
   | true => dropK ds off fun ds => takeK ds y.size fun ds => K (.agg ds)
   | false => nthK ds off K
  | .arr k xs => match y.kind.isAgg with
   | true => (g → off = 0 ∧ xs.length = y.size) ∧ K (.iarr k xs)
   | false => (g → off < xs.length) ∧ K (.int k (xs.getD off 0))
  | .gone => False
  | .lp _ => False
 | .ref ds => match y.kind.isAgg with
  | true => takeK ds y.size fun ds => K (.agg ds)
  | false => nthK ds 0 K
 | .gp gl => match y.kind.isAgg with
  | true => glbK glb gl fun vs => match Nat.beq vs.length y.size, vs.all (·.oneCell') with
   | true, true => K (.agg (vs.map ofVal))
   | _, _ => False
  | false => False
 | _ => False
theorem load_el {P : Program} {tb : Tb} (htb : TbOk P tb) {g : Prop} {H : Hp} {t : Nat} {d : D} {K : D → Prop} (hh : loadK tb g H t d K) :
  ∃ r, K r ∧ ∀ E h a w L, Facts E h a w L H → ∀ v, Den E h d v → g → Gives P E h (Instr.loadAt t v) w r := by
 have hx := jak hh; clear hh; obtain ⟨y, hy, hh⟩ := hx
 have hty := htb _ _ hy
 split at hh
 ·rename_i i off
  have hx := jaA hh; clear hh; obtain ⟨c, hc, hh⟩ := hx
  split at hh
  ·rename_i ds
   cases hag : y.kind.isAgg with
   | true =>
    rw [hag] at hh
    obtain ⟨h1, hh⟩ := jcq hh
    obtain ⟨h2, hh⟩ := jcf hh
    refine ⟨_, hh, fun E h a w L F v hv hg => ?_⟩
    simp only [Den] at hv; obtain ⟨rfl, hreal⟩ := hv
    obtain ⟨_, vs, rest, T, hb, hd, ho, hsz⟩ := F.chunk _ _ hc
    have hlen := hd.length
    refine ⟨.agg ((vs.drop off).take y.size).toArray, ?_, ?_⟩
    ·simp only [Instr.loadAt, Instr.sureAddr, Sem.run_bind, Sem.run_pure, Result.andThen_ok]
     refine jbe hty hag ?_ (fun i v hv => ?_)
     ·simp at h2 ⊢; omega
     ·refine jdE hb ?_
      have := ja2 hv
      simpa using this
    ·simp only [Den]
     exact ⟨_, rfl, (hd.drop off).take _, fun v hv => ho v (jiU (jiV hv))⟩
   | false =>
    rw [hag] at hh
    obtain ⟨r, h1, hh⟩ := jeK hh
    refine ⟨_, hh, fun E h a w L F v hv hg => ?_⟩
    simp only [Den] at hv; obtain ⟨rfl, hreal⟩ := hv
    obtain ⟨_, vs, rest, T, hb, hd, ho, hsz⟩ := F.chunk _ _ hc
    obtain ⟨u, hu, hdu⟩ := hd.get h1
    exact ⟨u, by simp only [Instr.loadAt, Instr.sureAddr, Sem.run_bind, Sem.run_pure, Result.andThen_ok]; exact jbJ hty hag (jdE hb hu), hdu⟩
  ·rename_i k xs
   cases hag : y.kind.isAgg with
   | true =>
    rw [hag] at hh
    refine ⟨_, hh.2, fun E h a w L F v hv hg => ?_⟩
    simp only [Den] at hv; obtain ⟨rfl, hreal⟩ := hv
    obtain ⟨h0, h1⟩ := hh.1 hg; subst h0
    obtain ⟨rest, T, hb, hsz, hr, hkn⟩ := jaZ hreal (F.chunk _ _ hc)
    refine ⟨.agg (xs.map (Value.int k)).toArray, ?_, by simp only [Den]; exact ⟨trivial, hr⟩⟩
    simp only [Instr.loadAt, Instr.sureAddr, Sem.run_bind, Sem.run_pure, Result.andThen_ok]
    refine jbe hty hag (by simpa using h1) (fun i v hv => ?_)
    refine jbV hb ?_
    rw [jif, jiS]
    ·exact hv
    ·exact (jiT.1 hv).1
   | false =>
    rw [hag] at hh
    refine ⟨_, hh.2, fun E h a w L F v hv hg => ?_⟩
    simp only [Den] at hv; obtain ⟨rfl, hreal⟩ := hv
    have h1 := hh.1 hg
    obtain ⟨rest, T, hb, hsz, hr, hkn⟩ := jaZ hreal (F.chunk _ _ hc)
    have hx : xs[off]? = some (xs.getD off 0) := by simp [List.getD, jiM h1]
    refine ⟨.int k (xs.getD off 0), ?_, by simp only [Den]; exact ⟨trivial, hr _ (jiO hx)⟩⟩
    simp only [Instr.loadAt, Instr.sureAddr, Sem.run_bind, Sem.run_pure, Result.andThen_ok]
    refine jbJ hty hag (jbV hb ?_)
    rw [jiS (by simpa using h1), List.getElem?_map, hx]; rfl
  ·exact hh.elim
  ·exact hh.elim
 ·rename_i ds
  cases hag : y.kind.isAgg with
  | true =>
   rw [hag] at hh
   obtain ⟨h2, hh⟩ := jcf hh
   refine ⟨_, hh, fun E h a w L F v hv hg => ?_⟩
   simp only [Den] at hv
   obtain ⟨b, o, rfl, vs, hd, ho, hc⟩ := hv
   have hlen := hd.length
   refine ⟨.agg (vs.take y.size).toArray, ?_, ?_⟩
   ·simp only [Instr.loadAt, Instr.sureAddr, Sem.run_bind, Sem.run_pure, Result.andThen_ok]
    refine jbe hty hag (by simp; omega) (fun i v hv => ?_)
    exact F.agree _ _ _ (hc i v (ja2 hv))
   ·simp only [Den]
    exact ⟨_, rfl, hd.take _, fun v hv => ho v (jiV hv)⟩
  | false =>
   rw [hag] at hh
   obtain ⟨r, h1, hh⟩ := jeK hh
   refine ⟨_, hh, fun E h a w L F v hv hg => ?_⟩
   simp only [Den] at hv
   obtain ⟨b, o, rfl, vs, hd, ho, hc⟩ := hv
   obtain ⟨u, hu, hdu⟩ := hd.get h1
   exact ⟨u, by simp only [Instr.loadAt, Instr.sureAddr, Sem.run_bind, Sem.run_pure, Result.andThen_ok]; exact jbJ hty hag (by simpa using F.agree _ _ _ (hc 0 u hu)), hdu⟩
 ·rename_i gl
  cases hag : y.kind.isAgg with
  | false => rw [hag] at hh; exact hh.elim
  | true =>
   rw [hag] at hh
   obtain ⟨vs, hm, hh⟩ := jhu hh
   cases h1 : Nat.beq vs.length y.size with
   | false => rw [h1] at hh; exact hh.elim
   | true =>
    cases h2 : vs.all (·.oneCell') with
    | false => rw [h1, h2] at hh; exact hh.elim
    | true =>
     rw [h1, h2] at hh
     refine ⟨_, hh, fun E h a w L F v hv hg => ?_⟩
     simp only [Den] at hv
     subst hv
     refine ⟨.agg vs.toArray, ?_, ?_⟩
     ·simp only [Instr.loadAt, Instr.sureAddr, Sem.run_bind, Sem.run_pure, Result.andThen_ok]
      refine jbe hty hag (Nat.eq_of_beq_eq_true h1) (fun i v hv => ?_)
      rw [jif]
      exact F.agree _ _ _ (F.agree.glob gl vs hm i v hv)
     ·simp only [Den]
      exact ⟨vs, rfl, jdX _ _ vs, fun v hv => jiI.1 h2 v hv⟩
 ·exact hh.elim
def nthF : List (Nat × Nat) → Nat → (Nat → Nat → Prop) → Prop
 | [], _, _ => False
 | (o, u) :: _, 0, K => K o u
 | _ :: fs, n + 1, K => nthF fs n K
theorem jhf {fs : List (Nat × Nat)} {n : Nat} {K : Nat → Nat → Prop} (h : nthF fs n K) : ∃ o u, fs[n]? = some (o, u) ∧ K o u := by
 induction fs generalizing n with
 | nil => exact h.elim
 | cons x ds ih =>
  obtain ⟨o, u⟩ := x
  cases n with
  | zero => exact ⟨o, u, rfl, h⟩
  | succ n => exact ih h
def jfG (tb : Tb) (t : Nat) (d : D) (f : Nat) (K : D → Prop) : Prop := tyK tb t fun y => match y.kind with
 | .struct fs => nthF fs f fun o _ => match d with
  | .box i off => K (.box i (off + o))
  | .ref ds => dropK ds o fun ds => K (.ref ds)
  | _ => False
 | _ => False
theorem jgM {P : Program} {tb : Tb} (htb : TbOk P tb) {t f : Nat} {d : D} {K : D → Prop} (hh : jfG tb t d f K) :
  ∃ r, K r ∧ ∀ E h w v, Den E h d v → Gives P E h (Instr.fieldAt t v f) w r := by
 have hx := jak hh; clear hh; obtain ⟨y, hy, hh⟩ := hx
 have hty := htb _ _ hy
 split at hh
 case h_2 => exact hh.elim
 rename_i fs hk
 obtain ⟨o, u, hf, hh⟩ := jhf hh
 have hu := hty.und; rw [hk] at hu
 obtain ⟨fields, hu, _, hff⟩ := hu
 obtain ⟨fl, iu, h1, h2, h3, h4, h5⟩ := hff _ _ _ hf
 have hrun : ∀ (w : World) (b off : Nat), (Instr.fieldAt t (.pointer (some ⟨b, off, none⟩)) f).run P w = .ok (.pointer (some ⟨b, off + o, none⟩)) w := fun w b off => by
  simp [Instr.fieldAt, run_underlying hu, h1, Instr.sureAddr, fieldPlace, sizeOf, typeInfo, h3, h4, h5, h2, jaS]
 split at hh
 ·refine ⟨_, hh, fun E h w v hv => ?_⟩
  simp only [Den] at hv; obtain ⟨rfl, hreal⟩ := hv
  exact ⟨_, hrun _ _ _, by simp only [Den]; exact ⟨trivial, hreal⟩⟩
 ·obtain ⟨h6, hh⟩ := jcq hh
  refine ⟨_, hh, fun E h w v hv => ?_⟩
  simp only [Den] at hv
  obtain ⟨b, off, rfl, vs, hd, ho, hc⟩ := hv
  refine ⟨_, hrun _ _ _, ?_⟩
  simp only [Den]
  exact ⟨b, off + o, rfl, vs.drop o, hd.drop o, fun v hv => ho v (jiU hv), fun i v hv => by rw [Nat.add_assoc]; exact hc (o + i) v (by simpa using hv)⟩
 ·exact hh.elim
theorem jgw {P : Program} {t : Nat} {y : Ty} (hy : TyOk P t y) (ha : y.kind.isAgg = true) (vs : List Value) (o : Nat) (w : World) :
  (part t vs.toArray o).run P w = .ok (.agg ((vs.drop o).take y.size).toArray) w := by
 simp only [part, Sem.run_bind, hy.isAgg w, ha, Result.andThen_ok, if_true, hy.sizeOf w, Sem.run_pure]
 congr 2
 apply Array.toList_inj.1
 simp [List.take_drop]
theorem jd0 {P : Program} {t : Nat} {y : Ty} (hy : TyOk P t y) (ha : y.kind.isAgg = false) {vs : List Value} {o : Nat} {v : Value} (hv : vs[o]? = some v) (w : World) :
  (part t vs.toArray o).run P w = .ok v w := by
 simp [part, hy.isAgg w, ha, hv]
def partK (tb : Tb) (u : Nat) (ds : List D) (o : Nat) (K : D → Prop) : Prop := tyK tb u fun y => match y.kind.isAgg with
 | true => dropK ds o fun ds => takeK ds y.size fun ds => K (.agg ds)
 | false => nthK ds o K
theorem part_el {P : Program} {tb : Tb} (htb : TbOk P tb) {u o : Nat} {ds : List D} {K : D → Prop} (hh : partK tb u ds o K) :
  ∃ r, K r ∧ ∀ E h w vs, DenL E h ds vs → (∀ v ∈ vs, v.oneCell' = true) → Gives P E h (part u vs.toArray o) w r := by
 have hx := jak hh; clear hh; obtain ⟨y, hy, hh⟩ := hx
 have hty := htb _ _ hy
 cases hag : y.kind.isAgg with
 | true =>
  rw [hag] at hh
  obtain ⟨h1, hh⟩ := jcq hh
  obtain ⟨h2, hh⟩ := jcf hh
  refine ⟨_, hh, fun E h w vs hd ho => ⟨_, jgw hty hag vs o w, ?_⟩⟩
  simp only [Den]
  exact ⟨_, rfl, (hd.drop o).take _, fun v hv => ho v (jiU (jiV hv))⟩
 | false =>
  rw [hag] at hh
  obtain ⟨r, h1, hh⟩ := jeK hh
  refine ⟨_, hh, fun E h w vs hd ho => ?_⟩
  obtain ⟨v, hv, hdv⟩ := hd.get h1
  exact ⟨_, jd0 hty hag hv w, hdv⟩
def fieldK (tb : Tb) (t : Nat) (d : D) (f : Nat) (K : D → Prop) : Prop := tyK tb t fun y => match y.kind with
 | .struct fs => nthF fs f fun o u => match d with
  | .agg ds => partK tb u ds o K
  | _ => False
 | _ => False
theorem field_el {P : Program} {tb : Tb} (htb : TbOk P tb) {t f : Nat} {d : D} {K : D → Prop} (hh : fieldK tb t d f K) :
  ∃ r, K r ∧ ∀ E h w v, Den E h d v → Gives P E h (Instr.field t v f) w r := by
 have hx := jak hh; clear hh; obtain ⟨y, hy, hh⟩ := hx
 have hty := htb _ _ hy
 split at hh
 case h_2 => exact hh.elim
 rename_i fs hk
 obtain ⟨o, u, hf, hh⟩ := jhf hh
 have hu := hty.und; rw [hk] at hu
 obtain ⟨fields, hu, _, hff⟩ := hu
 obtain ⟨fl, iu, h1, h2, h3, h4, h5⟩ := hff _ _ _ hf
 split at hh
 case h_2 => exact hh.elim
 rename_i ds
 obtain ⟨r, hr, hh⟩ := part_el htb hh
 refine ⟨r, hr, fun E h w v hv => ?_⟩
 simp only [Den] at hv
 obtain ⟨vs, rfl, hd, ho⟩ := hv
 obtain ⟨v', h6, h7⟩ := hh E h w vs hd ho
 exact ⟨v', by simp [Instr.field, run_underlying hu, h1, asAgg, h2, h3, h6], h7⟩
theorem jg3 {P : Program} {vs : List Value} {i : Nat} {v : Value} (h : vs[i]? = some v) (w : World) : (Instr.extract (.tuple vs.toArray) i).run P w = .ok v w := by
 simp [Instr.extract, h]
end Go.V
end
