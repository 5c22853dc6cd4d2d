/- Laws of a small interpreter over plain values, part 5. No condition. -/
import Derived.Test.YtgjgpdceghjajaaGreatDoorSimplexRefinedH4
set_option linter.unusedSimpArgs false
set_option linter.unusedVariables false
set_option maxHeartbeats 8000000
set_option maxRecDepth 100000
section
namespace Go.V
open Go Go.RowKit
def jd9 (d : D) (K : List D → Prop) : Prop := match d with
 | .agg ds => K ds
 | .bool b => K [.bool b]
 | .int k n => K [.int k n]
 | .str s => K [.str s]
 | .nil => K [.nil]
 | .ints k xs => K [.ints k xs]
 | .slf e n f => K [.slf e n f]
 | .fn f b c => K [.fn f b c]
 | .ref ds => K [.ref ds]
 | .box i o => K [.box i o]
 | .osl i o l => K [.osl i o l]
 | .bsl i o l e => K [.bsl i o l e]
 | .gp g => K [.gp g]
 | .yld g => K [.yld g]
 | .iarr k xs => K (xs.map (D.int k))
 | _ => False
theorem jgR {E : Env} {h : Pub} {k : IntKind} : ∀ {xs : List Int}, (∀ n ∈ xs, InR k n) → DenL E h (xs.map (D.int k)) (xs.map (Value.int k))
 | [], _ => by simp [DenL]
 | x :: xs, hx => by
  simp only [List.map_cons, DenL, Den]
  exact ⟨_, _, rfl, ⟨rfl, hx x (by simp)⟩, jgR fun n hn => hx n (by simp [hn])⟩
theorem jeq {d : D} {K : List D → Prop} (hh : jd9 d K) :
    ∃ ds, K ds ∧ ∀ E h v, Den E h d v → DenL E h ds v.cells.toList ∧ (∀ u ∈ v.cells.toList, u.oneCell' = true) := by
  cases d <;> simp only [jd9] at hh
  case agg ds =>
    refine ⟨_, hh, fun E h v hv => ?_⟩
    simp only [Den] at hv
    obtain ⟨vs, rfl, h1, h2⟩ := hv
    simp only [Value.cells]
    exact ⟨h1, h2⟩
  case iarr k xs =>
    refine ⟨_, hh, fun E h v hv => ?_⟩
    simp only [Den] at hv
    obtain ⟨rfl, h1⟩ := hv
    simp only [Value.cells]
    refine ⟨jgR h1, fun u hu => ?_⟩
    obtain ⟨n, _, rfl⟩ := List.mem_map.1 (by simpa using hu)
    rfl
  all_goals first
    | exact hh.elim
    | (refine ⟨_, hh, fun E h v hv => ?_⟩
       have hv' := hv
       simp only [Den, jaK] at hv
       have hc : v.cells.toList = [v] ∧ v.oneCell' = true := by
         first
           | (subst hv; exact ⟨rfl, rfl⟩)
           | (obtain ⟨rfl, _⟩ := hv; exact ⟨rfl, rfl⟩)
           | (obtain ⟨_, _, rfl, _⟩ := hv; exact ⟨rfl, rfl⟩)
           | (obtain ⟨_, _, rfl⟩ := hv; exact ⟨rfl, rfl⟩)
           | (rcases hv with ⟨_, rfl, _⟩ | ⟨_, _, _, rfl, _⟩ <;> exact ⟨rfl, rfl⟩)
           | (obtain ⟨_, rfl, _⟩ := hv; exact ⟨rfl, rfl⟩)
       rw [hc.1]
       simp only [DenL, List.mem_singleton]
       exact ⟨⟨v, [], rfl, hv', rfl⟩, fun u hu => by rw [hu]; exact hc.2⟩)
def setAt {α : Type} (ds : List α) (o : Nat) (ns : List α) : List α := ds.take o ++ ns ++ ds.drop (o + ns.length)
def jdf : List D → Nat → List D → (List D → Prop) → Prop
 | ds, 0, [], K => K ds
 | [], 0, _ :: _, _ => False
 | _ :: ds, 0, n :: ns, K => jdf ds 0 ns fun r => K (n :: r)
 | [], _ + 1, _, _ => False
 | d :: ds, o + 1, ns, K => jdf ds o ns fun r => K (d :: r)
theorem jde {ds : List D} {o : Nat} {ns : List D} {K : List D → Prop} (h : jdf ds o ns K) : o + ns.length ≤ ds.length ∧ K (setAt ds o ns) := by
 induction ds generalizing o ns K with
 | nil =>
  cases o with
  | zero => cases ns with
   | nil => simpa [jdf, setAt] using h
   | cons => exact h.elim
  | succ o => exact h.elim
 | cons d ds ih =>
  cases o with
  | zero =>
   cases ns with
   | nil => exact ⟨by simp, by simpa [jdf, setAt] using h⟩
   | cons n ns =>
    have := ih (o := 0) (ns := ns) h
    refine ⟨by simp at this ⊢; omega, ?_⟩
    have h2 := this.2
    simp only [setAt, List.take_zero, List.nil_append, jif] at h2 ⊢
    simpa using h2
  | succ o =>
   have := ih (o := o) (ns := ns) h
   refine ⟨by simp at this ⊢; omega, ?_⟩
   have h2 := this.2
   simp only [setAt] at h2 ⊢
   rw [show o + 1 + ns.length = (o + ns.length) + 1 by omega]
   simpa using h2
theorem DenL.setAt {E : Env} {h : Pub} {ds ns : List D} {vs us : List Value} (H : DenL E h ds vs) (G : DenL E h ns us) (o : Nat) : DenL E h (setAt ds o ns) (setAt vs o us) := by
 unfold V.setAt
 rw [G.length]
 exact ((H.take o).append G).append (H.drop _)
theorem jgv {α : Type} {ds rs ns : List α} {o : Nat} (h : o + ns.length ≤ ds.length) : setAt (ds ++ rs) o ns = setAt ds o ns ++ rs := by
 unfold setAt
 rw [jiW (by omega), jiX h, jiR, jiR, jiR]
theorem jcD {α : Type} {ds ns : List α} {o : Nat} {p : α → Prop} (h1 : ∀ x ∈ ds, p x) (h2 : ∀ x ∈ ns, p x) : ∀ x ∈ setAt ds o ns, p x := by
 intro x hx
 simp only [setAt, List.mem_append] at hx
 rcases hx with (hx | hx) | hx
 ·exact h1 x (jiV hx)
 ·exact h2 x hx
 ·exact h1 x (jiU hx)
theorem jbQ {α : Type} {ds ns : List α} {o : Nat} (h : o + ns.length ≤ ds.length) : (setAt ds o ns).length = ds.length := by
 simp [setAt]; omega
theorem jc7 (off : Nat) : ∀ (l : List Value) (s : Nat) (cells : Array Value), off + s + l.length ≤ cells.size →
  ((l.zipIdx s).foldl (fun (cs : Array Value) (p : Value × Nat) => cs.setIfInBounds (off + p.2) p.1) cells).toList = setAt cells.toList (off + s) l
 | [], s, cells, _ => by simp [setAt]
 | v :: l, s, cells, h => by
  simp only [jiY] at h
  simp only [List.zipIdx_cons, List.foldl_cons]
  rw [jc7 off l (s + 1) _ (by simp; omega)]
  simp only [setAt, Array.toList_setIfInBounds, jiY]
  rw [List.take_set, List.drop_set_of_lt (by omega)]
  rw [show off + (s + 1) = off + s + 1 by omega, List.take_succ_eq_append_getElem (by simp; omega)]
  have hmin : min (off + s) cells.size = off + s := Nat.min_eq_left (by omega)
  have e : ∀ x : Value, (List.take (off + s) cells.toList ++ [x]).set (off + s) v = List.take (off + s) cells.toList ++ [v] := fun x => by
   rw [List.set_append]; simp [hmin]
  rw [e, show off + s + 1 + l.length = off + s + (l.length + 1) by omega]
  simp
def fillK (g : Prop) (L : Sl) (place : Nat → (Nat → Nat → Prop) → Prop) : List (Nat × Operand) → List D → (List D → Prop) → Prop
 | [], ds, K => K ds
 | (i, x) :: rest, ds, K => rdg g L x fun d => jd9 d fun cs => place i fun off size => match Nat.beq cs.length size with
  | true => jdf ds off cs fun ds => fillK g L place rest ds K
  | false => False
theorem jhx {g : Prop} {L : Sl} {place : Nat → (Nat → Nat → Prop) → Prop} {pl : Nat → Option (Nat × Nat)} (hpl : ∀ i K, place i K → ∃ o s, pl i = some (o, s) ∧ K o s)
  {parts : List (Nat × Operand)} {ds : List D} {K : List D → Prop} (hh : fillK g L place parts ds K) :
  ∃ rs, K rs ∧ ∀ E h (a : Act), (∀ x, Den E h (rd L x) (a.eval x)) → g → ∀ cells : Array Value, DenL E h ds cells.toList → (∀ u ∈ cells.toList, u.oneCell' = true) →
   ∃ cells', Instr.fill pl cells (parts.map fun p => (p.1, a.eval p.2)) = some cells' ∧ DenL E h rs cells'.toList ∧ (∀ u ∈ cells'.toList, u.oneCell' = true) := by
 induction parts generalizing ds with
 | nil => exact ⟨_, hh, fun E h a _ _ cells h1 h2 => ⟨cells, rfl, h1, h2⟩⟩
 | cons p rest ih =>
  obtain ⟨i, x⟩ := p
  simp only [fillK] at hh
  obtain ⟨d, hh, hd⟩ := jar hh
  obtain ⟨cs, hh, hcs⟩ := jeq hh
  obtain ⟨o, s, hp, hh⟩ := hpl _ _ hh
  cases hb : Nat.beq cs.length s with
  | false => rw [hb] at hh; exact hh.elim
  | true =>
   rw [hb] at hh
   have hs := jae hb
   obtain ⟨hle, hh⟩ := jde hh
   obtain ⟨rs, hr, hh⟩ := ih hh
   refine ⟨rs, hr, fun E h a hk hg cells h1 h2 => ?_⟩
   obtain ⟨h3, h4⟩ := hcs E h _ (hd E h a hg (hk x))
   have hl1 := h3.length
   have hl2 := h1.length
   simp only [Array.length_toList] at hl1 hl2
   simp only [List.map_cons, Instr.fill, hp]
   rw [if_neg (by simp; omega)]
   refine hh E h a hk hg _ ?_ ?_
   ·have := jc7 o (a.eval x).cells.toList 0 cells (by simp; omega)
    rw [Nat.add_zero] at this
    rw [← Array.foldl_toList, Array.toList_zipIdx, this]
    exact h1.setAt h3 o
   ·have := jc7 o (a.eval x).cells.toList 0 cells (by simp; omega)
    rw [Nat.add_zero] at this
    rw [← Array.foldl_toList, Array.toList_zipIdx, this]
    exact jcD h2 h4
def buildK (tb : Tb) (g : Prop) (L : Sl) (t : Nat) (parts : Array (Nat × Operand)) (K : D → Prop) : Prop := tyK tb t fun y => match y.kind with
 | .struct fs => fillK g L (fun i K => nthF fs i fun o u => tyK tb u fun yu => K o yu.size) parts.toList y.zero fun ds => K (.agg ds)
 | .arr _ e => tyK tb e fun ye => fillK g L (fun i K => K (i * ye.size) ye.size) parts.toList y.zero fun ds => K (.agg ds)
 | _ => False
theorem jdi {P : Program} {α β : Type} {f : α → Sem β} {w : World} : ∀ (xs : List α) (ys : List β), xs.length = ys.length → (∀ (i : Nat) (x : α) (y : β), xs[i]? = some x → ys[i]? = some y → (f x).run P w = .ok y w) →
  (xs.mapM f).run P w = .ok ys w
 | [], [], _, _ => by simp
 | x :: xs, y :: ys, hl, h => by
  have h0 := h 0 x y rfl rfl
  have ih := jdi xs ys (by simpa using hl) (fun i x y hx hy => h (i + 1) x y (by simpa using hx) (by simpa using hy))
  simp [List.mapM_cons, h0, ih]
 | [], _ :: _, hl, _ => by simp at hl
 | _ :: _, [], hl, _ => by simp at hl
theorem build_el {P : Program} {tb : Tb} (htb : TbOk P tb) {g : Prop} {L : Sl} {t : Nat} {parts : Array (Nat × Operand)} {K : D → Prop} (hh : buildK tb g L t parts K) :
  ∃ r, K r ∧ ∀ E h (a : Act) w, (∀ x, Den E h (rd L x) (a.eval x)) → g → Gives P E h (Instr.build t (parts.map fun p => (p.1, a.eval p.2))) w r := by
 have hx := jak hh; clear hh; obtain ⟨y, hy, hh⟩ := hx
 have hty := htb _ _ hy
 obtain ⟨iy, z, i1, i2, i3, i4, i5, i6, i7, i8, i9⟩ := hty.info
 have hz : ∀ w, (zeroValue t).run P w = .ok z w := fun w => by simp [zeroValue, typeInfo, i1, i4]
 have hpl : ∀ a : Act, (parts.map fun p => (p.1, a.eval p.2)).toList = parts.toList.map fun p => (p.1, a.eval p.2) := fun a => by simp
 split at hh
 ·rename_i fs hk
  have hu := hty.und; rw [hk] at hu
  obtain ⟨fields, hu, hsz, hff⟩ := hu
  -- the places of the fields
  obtain ⟨pls, hpls, hpl2⟩ : ∃ pls : List (Nat × Nat), pls.length = fields.size ∧ ∀ i o u, fs[i]? = some (o, u) → ∃ iu, P.info? u = some iu ∧ pls[i]? = some (o, iu.size) := by
   refine ⟨fs.map fun p => (p.1, ((P.info? p.2).map (·.size)).getD 0), by simp [hsz], fun i o u hi => ?_⟩
   obtain ⟨f, iu, _, _, _, h4, _⟩ := hff i o u hi
   exact ⟨iu, h4, by rw [List.getElem?_map, hi]; simp [h4]⟩
  have hmap : ∀ w, (fields.mapM fun f => do pure (f.offset, ← sizeOf f.type) : Sem _).run P w = .ok pls.toArray w := fun w => by
   rw [Array.mapM_eq_mapM_toList]
   have := jdi (P := P) (w := w) (f := fun f : Field => (do pure (f.offset, ← sizeOf f.type) : Sem (Nat × Nat))) fields.toList pls (by simp [hpls]) (fun i f p hf hp => by
    have hi : i < fs.length := by rw [← hsz, ← hpls]; exact (jiT.1 hp).1
    obtain ⟨o, u, hfs'⟩ : ∃ o u, fs[i]? = some (o, u) := ⟨fs[i].1, fs[i].2, jiM hi⟩
    obtain ⟨f', iu, g1, g2, g3, g4, _⟩ := hff i o u hfs'
    obtain ⟨iu', g5, g6⟩ := hpl2 i o u hfs'
    rw [g4] at g5; cases g5
    have : f = f' := by rw [← Array.getElem?_toList, hf] at g1; exact Option.some.inj g1
    subst this
    rw [hp] at g6; cases g6
    simp [sizeOf, typeInfo, g3, g4, g2])
   rw [Sem.run_map, this]; rfl
  obtain ⟨rs, hr, hh⟩ := jhx (pl := fun i => pls.toArray[i]?) (fun i K h => by
   obtain ⟨o, u, h1, h2⟩ := jhf h
   obtain ⟨yu, h3, h4⟩ := jak h2
   obtain ⟨iu, h5, h6⟩ := hpl2 i o u h1
   obtain ⟨iu', _, h7, h8, _⟩ := (htb _ _ h3).info
   rw [h5] at h7; cases h7
   exact ⟨o, yu.size, by simp [h6, h8], h4⟩) hh
  refine ⟨_, hr, fun E h a w hkn hg => ?_⟩
  obtain ⟨cells', h1, h2, h3⟩ := hh E h a hkn hg z.cells (i5 E h) i6
  refine ⟨.agg cells', ?_, ?_⟩
  ·simp only [Instr.build, Sem.run_bind, hz, Result.andThen_ok, run_underlying hu, hmap, hpl a, h1, Sem.run_pure]
  ·simp only [Den]; exact ⟨cells'.toList, by simp, h2, h3⟩
 ·rename_i n e hk
  have hu := jcm hty hk
  have hx := jak hh; clear hh; obtain ⟨ye, hye, hh⟩ := hx
  have hte := htb _ _ hye
  obtain ⟨rs, hr, hh⟩ := jhx (pl := fun i => some (i * ye.size, ye.size)) (fun i K h => ⟨_, _, rfl, h⟩) hh
  refine ⟨_, hr, fun E h a w hkn hg => ?_⟩
  obtain ⟨cells', h1, h2, h3⟩ := hh E h a hkn hg z.cells (i5 E h) i6
  refine ⟨.agg cells', ?_, ?_⟩
  ·simp only [Instr.build, Sem.run_bind, hz, Result.andThen_ok, run_underlying hu, hte.sizeOf w, hpl a, h1, Sem.run_pure]
  ·simp only [Den]; exact ⟨cells'.toList, by simp, h2, h3⟩
 ·exact hh.elim
end Go.V
end
section
namespace Go.V
open Go Go.RowKit
def rdsK (g : Prop) (L : Sl) : List Operand → (List D → Prop) → Prop
 | [], K => K []
 | x :: xs, K => rdg g L x fun d => rdsK g L xs fun ds => K (d :: ds)
theorem jcW {g : Prop} {L : Sl} {xs : List Operand} {K : List D → Prop} (hh : rdsK g L xs K) :
  ∃ ds, K ds ∧ ds.length = xs.length ∧ ∀ E h (a : Act), (∀ x, Den E h (rd L x) (a.eval x)) → g → DenL E h ds (xs.map a.eval) := by
 induction xs generalizing K with
 | nil => exact ⟨[], hh, rfl, fun E h a _ _ => by simp [DenL]⟩
 | cons x xs ih =>
  obtain ⟨d, hh, hd⟩ := jar hh
  obtain ⟨ds, hh, hl, hds⟩ := ih hh
  exact ⟨d :: ds, hh, by simp [hl], fun E h a hk hg => by simp only [DenL, List.map_cons]; exact ⟨_, _, rfl, hd E h a hg (hk x), hds E h a hk hg⟩⟩
def pickK (g : Prop) (L : Sl) (c x y : Operand) (K : D → Prop) : Prop := rdg g L c fun dc => match dc with
 | .bool b => rdK L x fun dx => rdK L y fun dy => match dx, dy with
  | .bool true, .gd c2 (.bool q) => (g → b = false → c2 = true) ∧ K (.bool (b || q))
  | .gd c2 (.bool q), .bool false => (g → b = true → c2 = true) ∧ K (.bool (b && q))
  | .bool p, .bool q => K (.bool ((b && p) || (!b && q)))
  | _, _ => False
 | _ => False
theorem pick_el {g : Prop} {L : Sl} {c x y : Operand} {K : D → Prop} (hh : pickK g L c x y K) :
  ∃ r, K r ∧ ∀ P E h (a : Act) w, (∀ x, Den E h (rd L x) (a.eval x)) → g → Gives P E h (do pure (if ← asBool (a.eval c) then a.eval x else a.eval y)) w r := by
 obtain ⟨dc, hh, hc⟩ := jar hh
 split at hh
 case h_2 => exact hh.elim
 rename_i b
 rw [rdK_eq, rdK_eq] at hh
 split at hh
 ·rename_i c2 q hx hy
  refine ⟨_, hh.2, fun P E h a w hk hg => ?_⟩
  have h1 := hc E h a hg (hk c)
  have h2 := hk x; have h3 := hk y
  rw [hx] at h2; rw [hy] at h3
  simp only [Den] at h1 h2 h3
  refine ⟨_, by simp [h1, asBool]; rfl, ?_⟩
  simp only [Den]
  cases b with
  | true => simp [h2]
  | false => simp [h3.1 (hh.1 hg rfl)]
 ·rename_i c2 q hx hy
  refine ⟨_, hh.2, fun P E h a w hk hg => ?_⟩
  have h1 := hc E h a hg (hk c)
  have h2 := hk x; have h3 := hk y
  rw [hx] at h2; rw [hy] at h3
  simp only [Den] at h1 h2 h3
  refine ⟨_, by simp [h1, asBool]; rfl, ?_⟩
  simp only [Den]
  cases b with
  | true => simp [h2.1 (hh.1 hg rfl)]
  | false => simp [h3]
 ·rename_i p q hx hy
  refine ⟨_, hh, fun P E h a w hk hg => ?_⟩
  have h1 := hc E h a hg (hk c)
  have h2 := hk x; have h3 := hk y
  rw [hx] at h2; rw [hy] at h3
  simp only [Den] at h1 h2 h3
  refine ⟨_, by simp [h1, asBool]; rfl, ?_⟩
  simp only [Den]
  cases b with
  | true => simp [h2]
  | false => simp [h3]
 ·exact hh.elim
def unK (g : Prop) (op : UnOp) (d : D) (K : D → Prop) : Prop := match op, d with
 | .not, .bool b => K (.bool (!b))
 | .neg, .int k n => ((g → InR k n → InR k (0 - n)) ∧ K (.int k (0 - n))) ∨ K (.int k (k.wrap (-n)))
 | _, _ => False
theorem un_el {g : Prop} {op : UnOp} {d : D} {K : D → Prop} (hh : unK g op d K) :
  ∃ r, K r ∧ ∀ P E h w v, Den E h d v → g → Gives P E h (Op.unary op v) w r := by
 unfold unK at hh
 split at hh
 ·refine ⟨_, hh, fun P E h w v hv hg => ?_⟩
  simp only [Den] at hv; subst hv
  exact ⟨_, by simp [Op.unary]; rfl, by simp only [Den]⟩
 ·rcases hh with hh | hh
  case inr =>
   refine ⟨_, hh, fun P E h w v hv hg => ?_⟩
   simp only [Den] at hv; obtain ⟨rfl, hn⟩ := hv
   exact ⟨_, by simp [Op.unary, Op.intArith]; rfl, by simp only [Den]; exact ⟨trivial, jbL _ _⟩⟩
  refine ⟨_, hh.2, fun P E h w v hv hg => ?_⟩
  simp only [Den] at hv; obtain ⟨rfl, hn⟩ := hv
  exact ⟨_, by simp [Op.unary, Op.intArith]; rfl, by rw [show -_ = 0 - _ from (Int.zero_sub _).symm, jbG (hh.1 hg hn)]; simp only [Den]; exact ⟨trivial, hh.1 hg hn⟩⟩
 ·exact hh.elim
def convK (tb : Tb) (g : Prop) (H : Hp) (s t : Nat) (d : D) (K : D → Prop) : Prop := tyK tb s fun ys => tyK tb t fun yt => match yt.kind with
 | .int k => match d with
  | .int k' n => ((g → InR k' n → InR k n) ∧ K (.int k n)) ∨ K (.int k (k.wrap n))
  | _ => False
 | .str => match d with
  | .str b => K (.str b)
  | .ints .u8 xs => match ys.kind with
   | .slice e => tyK tb e fun ye => match ye.kind with
    | .int .u8 => K (.str (xs.map fun n => UInt8.ofNat n.toNat))
    | _ => False
   | _ => False
  | .osl i 0 len => match ys.kind with
   | .slice e => tyK tb e fun ye => match ye.kind with
    | .int .u8 => jbd H i fun c => match c with
     | .arr .u8 xs => (g → xs.length = len) ∧ K (.str (xs.map fun n => UInt8.ofNat n.toNat))
     | _ => False
    | _ => False
   | _ => False
  | _ => False
 | _ => False
theorem jfD (xs : List Int) : ∀ (b : ByteArray), (xs.foldl (fun (r : ByteArray) n => r.push (UInt8.ofNat n.toNat)) b).data.toList = b.data.toList ++ xs.map fun n => UInt8.ofNat n.toNat := by
 induction xs with
 | nil => simp
 | cons x xs ih => intro b; simp only [List.foldl_cons, List.map_cons]; rw [ih]; simp [ByteArray.push]
theorem und_some {P : Program} {t : Nat} {y : Ty} (h : TyOk P t y) : ∃ d, P.underlying t = some d := by
 have := h.und
 cases hk : y.kind <;> rw [hk] at this <;> simp only at this
 case struct fs => obtain ⟨f, h1, _⟩ := this; exact ⟨_, h1⟩
 case func => obtain ⟨a, b, c, h1⟩ := this; exact ⟨_, h1⟩
 case other => obtain ⟨d, h1, _⟩ := this; exact ⟨_, h1⟩
 all_goals exact ⟨_, this⟩
theorem conv_el {P : Program} {tb : Tb} (htb : TbOk P tb) {g : Prop} {H : Hp} {s t : Nat} {d : D} {K : D → Prop} (hh : convK tb g H s t d K) :
  ∃ r, K r ∧ ∀ E h a w L, Facts E h a w L H → ∀ v, Den E h d v → g → Gives P E h (convert s t v) w r := by
 have hx := jak hh; clear hh; obtain ⟨ys, hys, hh⟩ := hx
 have hx := jak hh; clear hh; obtain ⟨yt, hyt, hh⟩ := hx
 have hts := htb _ _ hys
 have htt := htb _ _ hyt
 split at hh
 ·rename_i k hk
  have hu := jdu htt hk
  obtain ⟨ds, hds⟩ := und_some hts
  split at hh
  ·rcases hh with hh | hh
   case inr =>
    refine ⟨_, hh, fun E h a w L F v hv hg => ?_⟩
    simp only [Den] at hv; obtain ⟨rfl, hn⟩ := hv
    refine ⟨_, by simp [convert, run_underlying hu, run_underlying hds, Conv.intToInt]; rfl, ?_⟩
    simp only [Den]; exact ⟨trivial, jbL _ _⟩
   refine ⟨_, hh.2, fun E h a w L F v hv hg => ?_⟩
   simp only [Den] at hv; obtain ⟨rfl, hn⟩ := hv
   refine ⟨_, by simp [convert, run_underlying hu, run_underlying hds, Conv.intToInt]; rfl, ?_⟩
   rw [jbG (hh.1 hg hn)]; simp only [Den]; exact ⟨trivial, hh.1 hg hn⟩
  ·exact hh.elim
 ·rename_i hk
  have hu := jel htt hk
  split at hh
  ·obtain ⟨ds, hds⟩ := und_some hts
   refine ⟨_, hh, fun E h a w L F v hv hg => ?_⟩
   have hv' := hv
   simp only [Den] at hv; obtain ⟨rfl, _⟩ := hv
   exact ⟨_, by simp [convert, run_underlying hu, run_underlying hds], hv'⟩
  ·rename_i xs
   split at hh
   case h_2 => exact hh.elim
   rename_i e hks
   have hs := jaw hts hks
   have hx := jak hh; clear hh; obtain ⟨ye, hye, hh⟩ := hx
   split at hh
   case h_2 => exact hh.elim
   rename_i hke
   have he := jdu (htb _ _ hye) hke
   refine ⟨_, hh, fun E h a w L F v hv hg => ?_⟩
   simp only [Den, jaK] at hv
   obtain ⟨ad, cap, rfl, h1, h2, h3, h4⟩ := hv
   cases ad with
   | none =>
    simp only at h4; obtain ⟨h4, _⟩ := h4; subst h4
    refine ⟨.string ByteArray.empty, ?_, by simp only [Den, List.map_nil]; exact ⟨rfl, by simp⟩⟩
    rw [run_convert_bytes_string w s t e _ _ _ hs he hu]; simp [Conv.bytesToString]
   | some ad =>
    have hl := run_loadCells_list (P := P) w ad (xs.map (Value.int .u8)) (fun j u hu => by
     rw [jbK h4.1]
     rw [List.getElem?_map] at hu
     cases hx : xs[j]? with
     | none => rw [hx] at hu; cases hu
     | some n => rw [hx] at hu; cases hu; exact F.agree _ _ _ (h4.2 j n hx))
    rw [List.length_map] at hl
    refine ⟨.string (xs.foldl (fun r n => r.push (UInt8.ofNat n.toNat)) ByteArray.empty), ?_, ?_⟩
    ·rw [run_convert_bytes_string w s t e _ _ _ hs he hu]; exact run_bytesToString w ad xs.length cap xs hl
    ·simp only [Den]
     refine ⟨?_, by simpa using h2⟩
     congr 1
     apply ByteArray.ext
     apply Array.toList_inj.1
     rw [jfD]; simp
  ·rename_i i len
   split at hh
   case h_2 => exact hh.elim
   rename_i e hks
   have hs := jaw hts hks
   have hx := jak hh; clear hh; obtain ⟨ye, hye, hh⟩ := hx
   split at hh
   case h_2 => exact hh.elim
   rename_i hke
   have he := jdu (htb _ _ hye) hke
   have hx := jaA hh; clear hh; obtain ⟨c, hc, hh⟩ := hx
   split at hh
   case h_2 => exact hh.elim
   rename_i xs
   refine ⟨_, hh.2, fun E h a w L F v hv hg => ?_⟩
   have hlen := hh.1 hg
   simp only [Den] at hv
   rcases hv with ⟨hreal, rfl, hl0⟩ | ⟨hreal, o, cap, rfl, h1, h2, h3, h4, _⟩
   ·have hx0 : xs = [] := jiK.1 (by omega)
    subst hx0
    refine ⟨.string ByteArray.empty, ?_, by simp only [Den, List.map_nil]; exact ⟨rfl, by simp⟩⟩
    rw [run_convert_bytes_string w s t e _ _ _ hs he hu]; simp [Conv.bytesToString]
   obtain ⟨rest, T, hb, hsz, hr, hkn⟩ := jaZ hreal (F.chunk _ _ hc)
   refine ⟨.string (xs.foldl (fun r n => r.push (UInt8.ofNat n.toNat)) ByteArray.empty), ?_, ?_⟩
   ·rw [run_convert_bytes_string w s t e _ _ _ hs he hu]
    refine run_bytesToString w _ len cap xs ?_
    rw [← hlen]
    have := run_loadCells_list (P := P) w ⟨E.blk i, o, none⟩ (xs.map (Value.int .u8)) (fun j u hu => by
     rw [jaS]
     have hj : j < xs.length := by simpa using (jiT.1 hu).1
     rcases h4 with rfl | h4
     ·rw [jif]
      refine jbV hb ?_
      rw [jiS (by simpa using hj)]; exact hu
     ·omega)
    simpa using this
   ·simp only [Den]
    refine ⟨?_, by simp; omega⟩
    congr 1
    apply ByteArray.ext
    apply Array.toList_inj.1
    rw [jfD]; simp
  ·exact hh.elim
 ·exact hh.elim
def jf8 (mx : Bool) (ds : List D) (K : D → Prop) : Prop := match ds with
 | [.int k m, .int k' n] => match kE k k' with
  | true => match mx with | true => K (.int k (max m n)) | false => K (.int k (min m n))
  | false => False
 | _ => False
theorem jgD {mx : Bool} {ds : List D} {K : D → Prop} (hh : jf8 mx ds K) :
  ∃ r, K r ∧ ∀ P E h w vs ats ty, DenL E h ds vs → Gives P E h (match mx with | true => Builtin.max_ ats ty vs.toArray | false => Builtin.min_ ats ty vs.toArray) w r := by
 unfold jf8 at hh
 split at hh
 case h_2 => exact hh.elim
 rename_i k m k' n
 cases hk : kE k k' with
 | false => rw [hk] at hh; exact hh.elim
 | true =>
  rw [hk] at hh
  have := kE_eq hk; subst this
  cases mx with
  | true =>
   refine ⟨_, hh, fun P E h w vs ats ty hv => ?_⟩
   simp only [DenL, Den] at hv
   obtain ⟨_, _, rfl, ⟨rfl, h1⟩, _, _, rfl, ⟨rfl, h2⟩, rfl⟩ := hv
   have e : (if n > m then n else m) = max m n := by split <;> omega
   refine ⟨.int k (max m n), ?_, ?_⟩
   ·simp [Builtin.max_, Builtin.max2]; omega
   ·simp only [Den]; refine ⟨trivial, ?_⟩
    rcases Int.le_total m n with h3 | h3
    ·rw [Int.max_eq_right h3]; exact h2
    ·rw [Int.max_eq_left h3]; exact h1
  | false =>
   refine ⟨_, hh, fun P E h w vs ats ty hv => ?_⟩
   simp only [DenL, Den] at hv
   obtain ⟨_, _, rfl, ⟨rfl, h1⟩, _, _, rfl, ⟨rfl, h2⟩, rfl⟩ := hv
   refine ⟨.int k (min m n), ?_, ?_⟩
   ·simp [Builtin.min_, Builtin.min2]; omega
   ·simp only [Den]; refine ⟨trivial, ?_⟩
    rcases Int.le_total m n with h3 | h3
    ·rw [Int.min_eq_left h3]; exact h1
    ·rw [Int.min_eq_right h3]; exact h2
def jen : D → Bool
 | .fn _ _ _ | .box _ _ | .ref _ => true
 | _ => false
theorem jhg {P : Program} {E : Env} {h : Pub} {d : D} {v : Value} {w : World} (hd : jen d = true) (hv : Den E h d v) (o : Oper) (x : Operand) (ho : o.op = .nilCheck x) (ρ : Operand → Value) (hx : ρ x = v) :
  (execOp ρ o).run P w = .ok (.value v) w := by
 cases d <;> simp only [jen] at hd <;> first | exact absurd hd (by decide) | skip
 ·simp only [Den] at hv
  obtain ⟨us, vs, rfl, _⟩ := hv
  simp [execOp, ho, hx]
 ·simp only [Den] at hv
  obtain ⟨b, o', rfl, _⟩ := hv
  simp [execOp, ho, hx]
 ·simp only [Den] at hv
  obtain ⟨rfl, _⟩ := hv
  simp [execOp, ho, hx]
def ifcK (tb : Tb) (t : Nat) (d : D) (K : D → Prop) : Prop := tyK tb t fun y => match y.kind with
 | .int _ => match d with
  | .int k n => K (.val (.iface t (.int k n)))
  | _ => False
 | .struct _ => match d with
  | .agg ds => match ds with
   | [d] => match d with
    | .int k n => K (.val (.iface t (.agg #[.int k n])))
    | _ => False
   | _ => False
  | _ => False
 | _ => False
theorem ifc_el {P : Program} {tb : Tb} (htb : TbOk P tb) {t : Nat} {d : D} {K : D → Prop} (hh : ifcK tb t d K) :
  ∃ r, K r ∧ ∀ E h w v, Den E h d v → ∃ u, (Instr.makeInterface t v).run P w = .ok u w ∧ Den E h r u := by
 obtain ⟨y, hyt, hh⟩ := jak hh
 have hu := (htb _ _ hyt).und
 split at hh
 ·rename_i k hk
  rw [hk] at hu
  split at hh
  case h_2 => exact hh.elim
  rename_i k n
  refine ⟨_, hh, fun E h w v hv => ⟨_, run_makeInterface w t v (by unfold Program.concrete; rw [hu]), ?_⟩⟩
  simp only [Den] at hv ⊢
  rw [hv.1]
 ·rename_i fs hk
  rw [hk] at hu
  obtain ⟨fields, hu, _⟩ := hu
  split at hh
  case h_2 => exact hh.elim
  split at hh
  case h_2 => exact hh.elim
  split at hh
  case h_2 => exact hh.elim
  rename_i k n
  refine ⟨_, hh, fun E h w v hv => ⟨_, run_makeInterface w t v (by unfold Program.concrete; rw [hu]), ?_⟩⟩
  simp only [Den, DenL] at hv ⊢
  obtain ⟨vs, rfl, ⟨u, _, rfl, ⟨rfl, _⟩, rfl⟩, _⟩ := hv
  rfl
 ·exact hh.elim
def jg1 (tb : Tb) (g : Prop) (L : Sl) (H : Hp) (t : Nat) (dx : D) (lo hi : Option Operand) (K : D → Prop) : Prop := match dx, lo, hi with
 | .box i 0, none, some b => tyK tb t fun y => match y.kind with
  | .arr n e => tyK tb e fun ye => match Nat.beq ye.size 1, Nat.ble n 1000000 with
   | true, true => jbd H i fun c => match c with
    | .arr _ xs => rdg g L b fun r => match r with
     | .int _ m => (g → (0 ≤ m ∧ m ≤ n) ∧ n ≤ xs.length) ∧ K (.bsl i 0 m.toNat 1)
     | _ => False
    | _ => False
   | _, _ => False
  | _ => False
 | _, _, _ => sliceK tb g L t dx lo hi K
theorem sliceH_el {P : Program} {tb : Tb} (htb : TbOk P tb) {g : Prop} {L : Sl} {H : Hp} {t : Nat} {dx : D} {lo hi : Option Operand} {K : D → Prop} (hh : jg1 tb g L H t dx lo hi K) :
  ∃ r, K r ∧ ∀ E h (a : Act) w v, Facts E h a w L H → Den E h dx v → g → Gives P E h (Instr.sliceAt t v (lo.map a.eval) (hi.map a.eval) none) w r := by
 unfold jg1 at hh
 split at hh
 ·rename_i i b
  have hx := jak hh; clear hh; obtain ⟨y, hy, hh⟩ := hx
  have hty := htb _ _ hy
  split at hh
  case h_2 => exact hh.elim
  rename_i n e hk
  have hu := jcm hty hk
  have hx := jak hh; clear hh; obtain ⟨ye, hye, hh⟩ := hx
  have hte := htb _ _ hye
  split at hh
  case h_2 => exact hh.elim
  rename_i hb1 hb2
  have hs1 := jae hb1
  have hn := jia hb2
  have hx := jaA hh; clear hh; obtain ⟨c, hc, hh⟩ := hx
  split at hh
  case h_2 => exact hh.elim
  rename_i k xs
  obtain ⟨m, hm, he⟩ := jaT hh
  refine ⟨_, hm.2, fun E h a w v F hv hg => ?_⟩
  obtain ⟨⟨h1, h2⟩, h3⟩ := hm.1 hg
  obtain ⟨k', hk'⟩ := he E h a hg (F.rd b)
  simp only [Den] at hv
  obtain ⟨rfl, hr⟩ := hv
  have hok := F.chunk _ _ hc
  simp only [ChunkOk] at hok
  rcases hok with ⟨hr0, _⟩ | ⟨_, rest, T, _, hsz, _, _⟩
  ·rw [hr] at hr0
   cases hr0
  ·have hb : (Instr.sliceBounds false n n none (some (.int k' m)) none).run P w = .ok (0, m.toNat, n) w := by
    have b1 := run_sliceBound (P := P) w k' m n .sliceAlen h1 h2
    simp [Instr.sliceBounds, b1]
   refine ⟨.slice (some ⟨E.blk i, 0, none⟩) m.toNat n, ?_, ?_⟩
   ·simp only [Option.map_none, Option.map_some, hk', Instr.sliceAt, Sem.run_bind, run_underlying hu, Result.andThen_ok, Instr.sureAddr, Sem.run_pure, hb, hte.sizeOf w]
    simp [Addr.add]
   ·simp only [Den]
    exact ⟨hr, n, rfl, by omega, by omega, .inr ⟨trivial, by omega⟩⟩
 ·obtain ⟨r, hK, h⟩ := slice_el htb hh
  exact ⟨r, hK, fun E h' a w v F hv hg => h E h' a w v F.rd hv hg⟩
def quiet (tb : Tb) (g : Prop) (L : Sl) (H : Hp) (K : D → Prop) (op : Op) : Prop := match op with
 | .move x => rdg g L x K
 | .assign x => rdK L x K
 | .pick c a b => pickK g L c a b K
 | .binOp op t x y _ => rdg g L x fun dx => rdg g L y fun dy => binD tb g op t dx dy K
 | .unOp op _ x => rdg g L x fun d => unK g op d K
 | .convert s t x => rdg g L x fun d => convK tb g H s t d K
 | .load t x => rdg g L x fun d => loadK tb g H t d K
 | .fieldAddr t x f => rdg g L x fun d => jfG tb t d f K
 | .field t x f => rdg g L x fun d => fieldK tb t d f K
 | .indexAddr t x i => rdg g L x fun dx => rdg g L i fun di => jdU tb g t dx di K
 | .index t x i => rdg g L x fun dx => rdg g L i fun di => indexK tb g t dx di K
 | .slice t x lo hi none => rdg g L x fun dx => jg1 tb g L H t dx lo hi K
 | .build t parts => buildK tb g L t parts K
 | .extract x i => rdg g L x fun d => match d with | .tup ds => nthK ds i K | _ => False
 | .makeFunc (.func f) first caps => rdsK g L first.toList fun es => rdsK g L caps.toList fun ds => K (.fn f es ds)
 | .nilCheck x => rdg g L x fun d => match jen d with | true => K d | false => False
 | .makeInterface t x => rdg g L x fun d => ifcK tb t d K
 | .call c => match c.callee with
  | .builtin b => match b with
   | .len => match c.args.toList, c.argTypes.toList with
    | [x], [t] => rdg g L x fun d => lenK tb t d K
    | _, _ => False
   | .min => rdsK g L c.args.toList fun ds => jf8 false ds K
   | .max => rdsK g L c.args.toList fun ds => jf8 true ds K
   | _ => False
  | _ => False
 | _ => False
def Val (P : Program) (E : Env) (h : Pub) (ρ : Operand → Value) (o : Oper) (w : World) (d : D) : Prop := ∃ v, (execOp ρ o).run P w = .ok (.value v) w ∧ Den E h d v
theorem jeg {P : Program} {tb : Tb} (htb : TbOk P tb) {g : Prop} {L : Sl} {H : Hp} {K : D → Prop} {o : Oper} (hh : quiet tb g L H K o.op) :
  ∃ r, K r ∧ ∀ E h a w, Facts E h a w L H → g → Val P E h a.eval o w r := by
 unfold quiet at hh
 split at hh
 ·rename_i x ho
  obtain ⟨dx, hh, hx⟩ := jar hh
  exact ⟨_, hh, fun E h a w F hg => ⟨_, by simp [execOp, ho], hx E h a hg (F.rd x)⟩⟩
 ·rename_i x ho
  rw [rdK_eq] at hh
  exact ⟨_, hh, fun E h a w F _ => ⟨_, by simp [execOp, ho], F.rd x⟩⟩
 ·rename_i c x y ho
  obtain ⟨r, hr, hh⟩ := pick_el hh
  refine ⟨r, hr, fun E h a w F hg => ?_⟩
  obtain ⟨v, h1, h2⟩ := hh P E h a w F.rd hg
  simp only [Sem.run_bind, Sem.run_pure] at h1
  exact ⟨v, by simp only [execOp, ho, Sem.run_bind, Sem.run_pure]; cases hb : (asBool (a.eval c)).run P w <;> simp [hb] at h1 ⊢; exact h1, h2⟩
 ·rename_i op t x y _ ho
  obtain ⟨dx, hh, hx⟩ := jar hh
  obtain ⟨dy, hh, hy⟩ := jar hh
  obtain ⟨r, hr, hh⟩ := bin_D htb (x := x) (y := y) hh
  refine ⟨r, hr, fun E h a w F hg => ?_⟩
  obtain ⟨v, h1, h2⟩ := hh E h w _ _ (hx E h a hg (F.rd x)) (hy E h a hg (F.rd y)) hg
  exact ⟨v, by simp only [execOp, ho]; rw [Sem.run_bind, h1]; rfl, h2⟩
 ·rename_i op _ x ho
  obtain ⟨dx, hh, hx⟩ := jar hh
  obtain ⟨r, hr, hh⟩ := un_el hh
  refine ⟨r, hr, fun E h a w F hg => ?_⟩
  obtain ⟨v, h1, h2⟩ := hh P E h w _ (hx E h a hg (F.rd x)) hg
  exact ⟨v, by simp only [execOp, ho]; rw [Sem.run_bind, h1]; rfl, h2⟩
 ·rename_i s t x ho
  obtain ⟨dx, hh, hx⟩ := jar hh
  obtain ⟨r, hr, hh⟩ := conv_el htb hh
  refine ⟨r, hr, fun E h a w F hg => ?_⟩
  obtain ⟨v, h1, h2⟩ := hh E h a w L F _ (hx E h a hg (F.rd x)) hg
  exact ⟨v, by simp only [execOp, ho]; rw [Sem.run_bind, h1]; rfl, h2⟩
 ·rename_i t x ho
  obtain ⟨dx, hh, hx⟩ := jar hh
  obtain ⟨r, hr, hh⟩ := load_el htb hh
  refine ⟨r, hr, fun E h a w F hg => ?_⟩
  obtain ⟨v, h1, h2⟩ := hh E h a w L F _ (hx E h a hg (F.rd x)) hg
  exact ⟨v, by simp only [execOp, ho]; rw [Sem.run_bind, h1]; rfl, h2⟩
 ·rename_i t x f ho
  obtain ⟨dx, hh, hx⟩ := jar hh
  obtain ⟨r, hr, hh⟩ := jgM htb hh
  refine ⟨r, hr, fun E h a w F hg => ?_⟩
  obtain ⟨v, h1, h2⟩ := hh E h w _ (hx E h a hg (F.rd x))
  exact ⟨v, by simp only [execOp, ho]; rw [Sem.run_bind, h1]; rfl, h2⟩
 ·rename_i t x f ho
  obtain ⟨dx, hh, hx⟩ := jar hh
  obtain ⟨r, hr, hh⟩ := field_el htb hh
  refine ⟨r, hr, fun E h a w F hg => ?_⟩
  obtain ⟨v, h1, h2⟩ := hh E h w _ (hx E h a hg (F.rd x))
  exact ⟨v, by simp only [execOp, ho]; rw [Sem.run_bind, h1]; rfl, h2⟩
 ·rename_i t x i ho
  obtain ⟨dx, hh, hx⟩ := jar hh
  obtain ⟨dy, hh, hy⟩ := jar hh
  obtain ⟨r, hr, hh⟩ := jgI htb hh
  refine ⟨r, hr, fun E h a w F hg => ?_⟩
  obtain ⟨v, h1, h2⟩ := hh E h w _ _ F.agree.glob (hx E h a hg (F.rd x)) (hy E h a hg (F.rd i)) hg
  exact ⟨v, by simp only [execOp, ho]; rw [Sem.run_bind, h1]; rfl, h2⟩
 ·rename_i t x i ho
  obtain ⟨dx, hh, hx⟩ := jar hh
  obtain ⟨dy, hh, hy⟩ := jar hh
  obtain ⟨r, hr, hh⟩ := index_el htb hh
  refine ⟨r, hr, fun E h a w F hg => ?_⟩
  obtain ⟨v, h1, h2⟩ := hh E h w _ _ (hx E h a hg (F.rd x)) (hy E h a hg (F.rd i)) hg
  exact ⟨v, by simp only [execOp, ho]; rw [Sem.run_bind, h1]; rfl, h2⟩
 ·rename_i t x lo hi ho
  obtain ⟨dx, hh, hx⟩ := jar hh
  obtain ⟨r, hr, hh⟩ := sliceH_el htb hh
  refine ⟨r, hr, fun E h a w F hg => ?_⟩
  obtain ⟨v, h1, h2⟩ := hh E h a w _ F (hx E h a hg (F.rd x)) hg
  exact ⟨v, by simp only [execOp, ho, Option.map_none]; rw [Sem.run_bind, h1]; rfl, h2⟩
 ·rename_i t parts ho
  obtain ⟨r, hr, hh⟩ := build_el htb hh
  refine ⟨r, hr, fun E h a w F hg => ?_⟩
  obtain ⟨v, h1, h2⟩ := hh E h a w F.rd hg
  exact ⟨v, by simp only [execOp, ho]; rw [Sem.run_bind]; rw [h1]; rfl, h2⟩
 ·rename_i x i ho
  obtain ⟨d, hh, hx⟩ := jar hh
  split at hh
  case h_2 => exact hh.elim
  rename_i ds
  obtain ⟨r, h1, hh⟩ := jeK hh
  refine ⟨r, hh, fun E h a w F hg => ?_⟩
  have h2 := hx E h a hg (F.rd x)
  simp only [Den] at h2
  obtain ⟨vs, h2, h3⟩ := h2
  obtain ⟨v, h4, h5⟩ := h3.get h1
  exact ⟨v, by simp only [execOp, ho, h2]; rw [Sem.run_bind, jg3 h4]; rfl, h5⟩
 ·rename_i f first caps ho
  obtain ⟨es, hh, _, hes⟩ := jcW hh
  obtain ⟨ds, hh, _, hds⟩ := jcW hh
  refine ⟨_, hh, fun E h a w F hg => ⟨.func (.func f) (first.map a.eval) (caps.map a.eval), by simp [execOp, ho, Instr.makeFunc], ?_⟩⟩
  simp only [Den]
  exact ⟨_, _, by congr 1 <;> (apply Array.toList_inj.1; simp), hes E h a F.rd hg, hds E h a F.rd hg⟩
 ·rename_i x ho
  obtain ⟨d, hh, hx⟩ := jar hh
  cases hf : jen d with
  | false => rw [hf] at hh; exact hh.elim
  | true =>
   rw [hf] at hh
   exact ⟨d, hh, fun E h a w F hg => ⟨_, jhg hf (hx E h a hg (F.rd x)) o x ho a.eval rfl, hx E h a hg (F.rd x)⟩⟩
 ·rename_i t x ho
  obtain ⟨d, hh, hx⟩ := jar hh
  obtain ⟨r, hr, hi⟩ := ifc_el htb hh
  refine ⟨r, hr, fun E h a w F hg => ?_⟩
  obtain ⟨u, h1, h2⟩ := hi E h w _ (hx E h a hg (F.rd x))
  exact ⟨u, by simp only [execOp, ho]; rw [Sem.run_bind]; rw [h1]; rfl, h2⟩
 ·rename_i c ho
  obtain ⟨callee, args, argTypes⟩ := c
  dsimp only at hh
  split at hh
  case h_2 => exact hh.elim
  split at hh
  ·split at hh
   case h_2 => exact hh.elim
   rename_i x t hxs hts
   obtain ⟨d, hh, hx⟩ := jar hh
   obtain ⟨r, hr, hh⟩ := len_el htb hh
   refine ⟨r, hr, fun E h a w F hg => ?_⟩
   obtain ⟨v, h1, h2⟩ := hh E h w (a.eval x) o.type argTypes (by rw [← Array.getElem?_toList, hts]; rfl) (hx E h a hg (F.rd x))
   have ha : args = #[x] := Array.toList_inj.1 (by simpa using hxs)
   subst ha
   exact ⟨v, by simp [execOp, ho, resolve, invoke, builtin, h1], h2⟩
  ·obtain ⟨ds, hh, _, hds⟩ := jcW hh
   obtain ⟨r, hr, hh⟩ := jgD hh
   refine ⟨r, hr, fun E h a w F hg => ?_⟩
   obtain ⟨v, h1, h2⟩ := hh P E h w _ argTypes o.type (hds E h a F.rd hg)
   simp only [← Array.toList_map, Array.toArray_toList] at h1
   exact ⟨v, by simp [execOp, ho, resolve, invoke, builtin, h1], h2⟩
  ·obtain ⟨ds, hh, _, hds⟩ := jcW hh
   obtain ⟨r, hr, hh⟩ := jgD hh
   refine ⟨r, hr, fun E h a w F hg => ?_⟩
   obtain ⟨v, h1, h2⟩ := hh P E h w _ argTypes o.type (hds E h a F.rd hg)
   simp only [← Array.toList_map, Array.toArray_toList] at h1
   exact ⟨v, by simp [execOp, ho, resolve, invoke, builtin, h1], h2⟩
  ·exact hh.elim
 ·exact hh.elim
end Go.V
end
