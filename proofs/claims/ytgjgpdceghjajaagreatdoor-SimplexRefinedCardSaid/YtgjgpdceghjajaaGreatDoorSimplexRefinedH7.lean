/- Laws of a small interpreter over plain values, part 7. No condition. -/
import Derived.Test.YtgjgpdceghjajaaGreatDoorSimplexRefinedH6
set_option linter.unusedSimpArgs false
set_option linter.unusedVariables false
set_option maxHeartbeats 8000000
set_option maxRecDepth 100000
section
namespace Go.V
open Go Go.RowKit
section
variable {P : Program} {tb : Tb} {N : Nat} {cx : Cx} {Q : Exit → Act → World → Prop} {o : Oper} {L : Sl} {H : Hp} {K : K2}
def jfX : Nat → List (Nat × Operand) → Bool
 | _, [] => true
 | n, (i, _) :: ps => match Nat.beq i n with | true => jfX (n + 1) ps | false => false
def jfe (tb : Tb) (N off : Nat) (d t n : Nat) (parts : Array (Nat × Operand)) (L : Sl) (H : Hp) (K : K2) : Prop := tyK tb t fun y => match y.kind with
 | .slice e => tyK tb e fun ye => match ye.kind with
  | .int k => match jfX 0 parts.toList, Nat.beq parts.toList.length n, Nat.beq ye.size 1, Nat.ble n 1000 with
   | true, true, true, true => rdsK True L (parts.toList.map (·.2)) fun ds => jc4 k ds fun xs => ltK d N (newK off d (.osl (off + d) 0 n) (.arr k xs) L H K)
   | _, _, _, _ => False
  | _ => match Nat.beq (n * ye.size) 0, Nat.ble (n * ye.size) 100000, Nat.ble n 100000 with
   | false, true, true => fillK True L (fun i K => K (i * ye.size) ye.size) parts.toList (List.replicate (n * ye.size) .any) fun ds => match D.freeL (off + d) ds with
    | true => ltK d N (newK off d (.bsl (off + d) 0 n ye.size) (.box ds) L H K)
    | false => False
   | true, _, _ => match parts.toList, Nat.beq n 0 with
    | [], true => ltK d N (newK off d (.bsl (off + d) 0 0 ye.size) (.box []) L H K)
    | _, _ => False
   | _, _, _ => False
 | _ => False
theorem denL_any {E : Env} {h : Pub} : ∀ (vs : List Value), DenL E h (List.replicate vs.length .any) vs
 | [] => by simp [DenL]
 | v :: vs => by
  simp only [jiY, List.replicate_succ, DenL, Den, true_and]
  exact ⟨v, vs, rfl, denL_any vs⟩
theorem fill_seq (vals : Operand → Value) : ∀ (ps : List (Nat × Operand)) (n : Nat) (cells : Array Value), jfX n ps = true → n + ps.length = cells.size → (∀ p ∈ ps, ∃ k m, vals p.2 = .int k m) →
  ∃ cs, Instr.fill (fun i => some (i * 1, 1)) cells (ps.map fun p => (p.1, vals p.2)) = some cs ∧ cs.toList = cells.toList.take n ++ ps.map fun p => vals p.2
 | [], n, cells, _, hl, _ => ⟨cells, rfl, by simp only [List.length_nil, Nat.add_zero] at hl; simp only [List.map_nil, List.append_nil]; rw [jiZ (by simp; omega)]⟩
 | (i, x) :: ps, n, cells, hs, hl, hv => by
  simp only [jfX] at hs
  cases hb : Nat.beq i n with
  | false => rw [hb] at hs; simp at hs
  | true =>
   rw [hb] at hs
   have := jae hb; subst this
   obtain ⟨k, m, hkm⟩ := hv (i, x) (by simp)
   simp only at hkm
   simp only [jiY] at hl
   have hc1 : (Value.int k m).cells = #[.int k m] := rfl
   simp only [List.map_cons, Instr.fill, hkm]
   rw [if_neg (by simp [hc1]; omega)]
   have hf : ((Value.int k m).cells.zipIdx.foldl (fun (cs : Array Value) (p : Value × Nat) => cs.setIfInBounds (i * 1 + p.2) p.1) cells) = cells.setIfInBounds i (.int k m) := by simp [hc1]
   obtain ⟨cs, h1, h2⟩ := fill_seq vals ps (i + 1) (cells.setIfInBounds i (.int k m)) hs (by simp; omega) (fun p hp => hv p (by simp [hp]))
   refine ⟨cs, by rw [← h1]; congr 1, ?_⟩
   rw [h2]
   simp only [Array.toList_setIfInBounds]
   rw [List.take_succ_eq_append_getElem (by simp; omega)]
   simp only [List.getElem_set_self, jiR, List.singleton_append]
   rw [List.take_set, List.set_eq_of_length_le (by simp; omega)]
theorem jgn (htb : TbOk P tb) {d t n : Nat} {parts : Array (Nat × Operand)} (hd : o.dst = some d) (ho : o.op = .buildSlice t n parts) (hh : jfe tb N cx.off d t n parts L H K) : Heavy P N cx Q o K L H := by
 have hx := jak hh; clear hh; obtain ⟨y, hy, hh⟩ := hx
 have hty := htb _ _ hy
 split at hh
 case h_2 => exact hh.elim
 rename_i e hk
 have hu := jaw hty hk
 have hx := jak hh; clear hh; obtain ⟨ye, hye, hh⟩ := hx
 have hte := htb _ _ hye
 split at hh
 case h_2 =>
  split at hh
  case h_3 => exact hh.elim
  case h_2 =>
   split at hh
   case h_2 => exact hh.elim
   rename_i hp0 hb0
   have hn := jae hb0
   subst hn
   have hpe : parts = #[] := Array.toList_inj.1 (by simpa using hp0)
   subst hpe
   refine jbu hd hh fun E h a w S => ?_
   refine ⟨.slice (some ⟨w.heap.size, 0, none⟩) 0 0, w.alloc (.cells #[] e), 0, (Chunk.kn (.box [])), ?_, (Below.refl _ w).alloc (jii _) _, ?_, ?_⟩
   ·simp only [execOp, ho, Instr.buildSlice, Sem.run_bind, run_underlying hu, Result.andThen_ok, hte.sizeOf w, Sem.run_ite]
    simp [Instr.fill, newRow, show Array.range 0 = (#[] : Array Nat) from rfl]
   ·exact ⟨E.set_real _ _ _ _, [], [], e, by rw [Env.set_blk, jbR]; simp, by simp [DenL], by simp, by rw [Env.set_siz]; simp⟩
   ·simp only [Den]
    exact ⟨E.set_real _ _ _ _, 0, by rw [Env.set_blk], jii _, by omega, .inl rfl⟩
  rename_i hb1 hb2 hb3
  have hn9 := jia hb3
  have hn0 : ¬ n * ye.size = 0 := fun e => by rw [e] at hb1; exact absurd hb1 (by decide)
  have hsz0 := jia hb2
  obtain ⟨iy, z, i1, i2, i3, i4, i5, i6, i7, i8, i9⟩ := hte.info
  obtain ⟨rs, hr, hf⟩ := jhx (pl := fun i => some (i * ye.size, ye.size)) (fun i K h => ⟨_, _, rfl, h⟩) hh
  cases hfr : D.freeL (cx.off + d) rs with
  | false => rw [hfr] at hr; exact hr.elim
  | true =>
   rw [hfr] at hr
   refine jbu hd hr fun E h a w S => ?_
   obtain ⟨zz, hzz⟩ : ∃ zz : Array Value, zz = (Array.range (n * ye.size)).map (z.cells[· % z.cells.size]!) := ⟨_, rfl⟩
   have hzs : zz.size = n * ye.size := by rw [hzz]; simp
   have hz1 : ∀ u ∈ zz.toList, u.oneCell' = true := by
    intro u hu
    rw [hzz] at hu
    simp only [Array.toList_map, List.mem_map] at hu
    obtain ⟨q, hq, rfl⟩ := hu
    have hq1 : q < n * ye.size := by simpa using hq
    have hzc : 0 < z.cells.size := by
     rw [i8]
     rcases jij ye.size with e | e
     ·rw [e, Nat.mul_zero] at hq1; omega
     ·exact e
    have hlt := jik q hzc
    refine i6 _ ?_
    rw [getElem!_pos z.cells _ hlt]
    exact Array.getElem_mem_toList hlt
   obtain ⟨cs, h3, h4, h5⟩ := hf E h a S.facts.rd trivial zz (by have := denL_any (E := E) (h := h) zz.toList; rw [Array.length_toList, hzs] at this; exact this) hz1
   refine ⟨.slice (some ⟨w.heap.size, 0, none⟩) n n, w.alloc (.cells cs e), cs.size, (Chunk.kn (.box rs)), ?_, (Below.refl _ w).alloc (jii _) _, ?_, ?_⟩
   ·have hp : (parts.map fun p => (p.1, a.eval p.2)).toList = parts.toList.map fun p => (p.1, a.eval p.2) := by simp
    have h6 : ¬ (n * ye.size > 2 ^ 24) := by simp; omega
    simp only [execOp, ho, Instr.buildSlice, Sem.run_bind, run_underlying hu, Result.andThen_ok, hte.sizeOf w, Sem.run_ite, if_neg h6, if_neg hn0, Sem.run_pure]
    have hz : (zeroValue e).run P w = .ok z w := by simp [zeroValue, typeInfo, i1, i4]
    simp only [hz, Result.andThen_ok]
    rw [hp, ← hzz, h3]
    simp [newRow]
   ·exact ⟨E.set_real _ _ _ _, cs.toList, [], e, by rw [Env.set_blk, jbR]; simp, DenL.env (E.off_set _ _ _ _) hfr h4, h5, by rw [Env.set_siz]; simp⟩
   ·simp only [Den]
    exact ⟨E.set_real _ _ _ _, n, by rw [Env.set_blk], jii _, by omega, .inl rfl⟩
 rename_i k hke
 split at hh
 case h_2 => exact hh.elim
 rename_i hb1 hb2 hb3 hb4
 have hn := jae hb2
 have hs1 := jae hb3
 have hn2 := jia hb4
 obtain ⟨ds, hh, hl, hds⟩ := jcW hh
 obtain ⟨xs, hz', rfl⟩ := jdw hh
 refine jbu hd hz' fun E h a w S => ?_
 obtain ⟨h1, h2⟩ := jdB (hds E h a S.facts.rd trivial)
 obtain ⟨iy, z, i1, i2, i3, i4, i5, i6, i7, i8, i9⟩ := hte.info
 have hlen : xs.length = n := by simp only [List.length_map] at hl hn; omega
 have hz : n ≠ 0 → (zeroValue e).run P w = .ok z w := fun _ => by simp [zeroValue, typeInfo, i1, i4]
 have hvals : ∀ p ∈ parts.toList, ∃ k m, a.eval p.2 = .int k m := by
  intro p hp
  have : a.eval p.2 ∈ (parts.toList.map (·.2)).map a.eval := by simp only [List.map_map]; exact List.mem_map.2 ⟨p, hp, rfl⟩
  rw [h1] at this
  obtain ⟨m, _, hm⟩ := List.mem_map.1 this
  exact ⟨k, m, hm.symm⟩
 obtain ⟨zz, hzz⟩ : ∃ zz : Array Value, zz = (Array.range (n * 1)).map ((if n = 0 then #[] else z.cells)[· % (if n = 0 then #[] else z.cells).size]!) := ⟨_, rfl⟩
 have hzs : zz.size = n := by rw [hzz]; simp
 obtain ⟨cs, h3, h4⟩ := fill_seq a.eval parts.toList 0 zz hb1 (by rw [hzs]; omega) hvals
 have h5 : cs.toList = xs.map (Value.int k) := by rw [h4, ← h1]; simp
 refine ⟨.slice (some ⟨w.heap.size, 0, none⟩) n n, w.alloc (.cells cs e), n, n, ?_, (Below.refl _ w).alloc (jii _) _, ?_, ?_⟩
 ·have hp : (parts.map fun p => (p.1, a.eval p.2)).toList = parts.toList.map fun p => (p.1, a.eval p.2) := by simp
  have hsz : (sizeOf e).run P w = .ok 1 w := by rw [hte.sizeOf w, hs1]
  by_cases hn0 : n = 0
  ·subst hn0
   simp only [if_true] at hzz
   simp only [execOp, ho, Instr.buildSlice, Sem.run_bind, run_underlying hu, Result.andThen_ok, hsz, Sem.run_ite]
   simp only [Nat.zero_mul, gt_iff_lt, Nat.not_lt_zero, if_false, if_true, Sem.run_pure, Result.andThen_ok]
   have hzz' : zz = (Array.range 0).map ((#[] : Array Value)[· % (#[] : Array Value).size]!) := by rw [hzz]
   rw [hp, ← hzz', show (fun i => some (i * 1, 1)) = (fun i : Nat => some (i * 1, 1)) from rfl, h3]
   simp [newRow]
  ·simp only [if_neg hn0] at hzz
   have h6 : ¬ (n * 1 > 2 ^ 24) := by simp; omega
   have h7 : ¬ (n * 1 = 0) := by omega
   simp only [execOp, ho, Instr.buildSlice, Sem.run_bind, run_underlying hu, Result.andThen_ok, hsz, Sem.run_ite, if_neg h6, if_neg h7, Sem.run_pure, hz hn0]
   rw [hp, ← hzz, h3]
   simp [newRow]
 ·refine .inr ⟨E.set_real _ _ _ _, [], e, ?_, ?_, h2, by rw [Env.set_kn]; omega⟩
  ·rw [Env.set_blk, jbR]; congr 2; apply Array.toList_inj.1; simp [h5]
  ·rw [Env.set_siz]; simp [hlen]
 ·simp only [Den]
  exact .inr ⟨E.set_real _ _ _ _, 0, n, by rw [Env.set_blk], jii _, by rw [Env.set_siz]; omega, by omega, .inl rfl, by rw [Env.set_kn]; omega⟩
def zero0K (y : Ty) (k : IntKind) (K : Prop) : Prop := match y.zero with
 | [.int k' 0] => match kE k k' with | true => K | false => False
 | _ => False
theorem zero0_el {y : Ty} {k : IntKind} {K : Prop} (h : zero0K y k K) : y.zero = [.int k 0] ∧ K := by
 unfold zero0K at h
 split at h
 ·rename_i k' heq
  cases hk : kE k k' with
  | false => rw [hk] at h; exact h.elim
  | true => rw [hk] at h; have := kE_eq hk; subst this; exact ⟨heq, h⟩
 ·exact h.elim
def repD : Nat → List D → List D
 | 0, _ => []
 | n + 1, zs => repD n zs ++ zs
theorem jd6 {i : Nat} : ∀ {a b : List D}, D.freeL i a = true → D.freeL i b = true → D.freeL i (a ++ b) = true
 | [], _, _, hb => hb
 | d :: ds, b, ha, hb => by
  simp only [List.cons_append, D.freeL] at ha ⊢
  split at ha
  ·exact jd6 ha hb
  ·cases ha
theorem jgL {i : Nat} {zs : List D} (h : D.freeL i zs = true) : ∀ n, D.freeL i (repD n zs) = true
 | 0 => rfl
 | n + 1 => jd6 (jgL h n) h
theorem jd8 {E : Env} {h : Pub} : ∀ {a b : List D} {us vs : List Value}, DenL E h a us → DenL E h b vs → DenL E h (a ++ b) (us ++ vs)
 | [], _, us, vs, ha, hb => by simp only [DenL] at ha; subst ha; exact hb
 | d :: ds, b, us, vs, ha, hb => by
  simp only [List.cons_append, DenL] at ha ⊢
  obtain ⟨v, vs', rfl, h1, h2⟩ := ha
  exact ⟨v, vs' ++ vs, rfl, h1, jd8 h2 hb⟩
theorem jdt {E : Env} {h : Pub} {z : Array Value} {zs : List D} (hz : 0 < z.size) (hd : DenL E h zs z.toList) : ∀ n, DenL E h (repD n zs) (madeCells z (n * z.size)).toList
 | 0 => by simp [repD, DenL, madeCells]
 | n + 1 => by
  have e : (madeCells z ((n + 1) * z.size)).toList = (madeCells z (n * z.size)).toList ++ z.toList := by
   simp only [madeCells, Array.toList_map, Array.toList_range]
   rw [Nat.add_mul, Nat.one_mul, List.range_add, List.map_append, List.map_map]
   congr 1
   apply List.ext_getElem?
   intro i
   simp only [List.getElem?_map]
   by_cases hi : i < z.size
   ·have e2 : (n * z.size + i) % z.size = i := by rw [jil, Nat.mul_add_mod, jim hi]
    simp [hi, e2]
   ·simp [hi]
  rw [e]
  exact jd8 (jdt hz hd n) hd
def jfB (tb : Tb) (N off : Nat) (d t : Nat) (l c : Operand) (L : Sl) (H : Hp) (K : K2) : Prop := tyK tb t fun y => match y.kind with
 | .slice e => tyK tb e fun ye => match ye.kind with
  | .int k => zero0K ye k <| match Nat.beq ye.size 1, Nat.ble ye.bytes 8 with
   | true, true => rdg True L l fun dl => rdg True L c fun dc => match dl, dc with
    | .int _ m, .int _ n => (True → 0 ≤ m ∧ m ≤ n ∧ n ≤ 17592186044416) ∧ ltK d N (newK off d (.osl (off + d) 0 m.toNat) (.arr k (List.replicate m.toNat 0)) L H K)
    | _, _ => False
   | _, _ => False
  | _ => match Nat.beq ye.size 0, Nat.ble ye.bytes 1000, D.freeL (off + d) ye.zero with
   | false, true, true => rdg True L l fun dl => rdg True L c fun dc => match dl, dc with
    | .int _ m, .int _ n => (True → m = n ∧ 0 ≤ m ∧ m ≤ 100000) ∧ ltK d N (newK off d (.bsl (off + d) 0 m.toNat ye.size) (.box (repD m.toNat ye.zero)) L H K)
    | _, _ => False
   | _, _, _ => False
 | _ => False
theorem zero_inR (k : IntKind) : InR k 0 := ⟨jb9 k, jdF k⟩
theorem jgb {k : IntKind} {z : Value} (hz : z = .int k 0) (n : Nat) : (madeCells z.cells n).toList = List.replicate n (.int k 0) := by
 subst hz
 simp only [madeCells, Value.cells]
 apply List.ext_getElem?
 intro i
 by_cases hi : i < n
 ·simp [hi, Nat.mod_one]
 ·simp [hi]
theorem jeb {e : Nat} {ye : Ty} (hte : TyOk P e ye) : ∃ iy, P.info? e = some iy ∧ iy.size = ye.size ∧ iy.bytes = ye.bytes ∧ ∃ z, iy.zero = some z ∧ (∀ E h, DenL E h ye.zero z.cells.toList) := by
 obtain ⟨iy, z, i1, i2, i3, i4, i5, _⟩ := hte.info
 exact ⟨iy, i1, i2, i3, z, i4, i5⟩
theorem jgE (htb : TbOk P tb) {d t : Nat} {l c : Operand} (hd : o.dst = some d) (ho : o.op = .makeSlice t l c) (hh : jfB tb N cx.off d t l c L H K) : Heavy P N cx Q o K L H := by
 have hx := jak hh; clear hh; obtain ⟨y, hy, hh⟩ := hx
 have hty := htb _ _ hy
 split at hh
 case h_2 => exact hh.elim
 rename_i e hk
 have hu := jaw hty hk
 have hx := jak hh; clear hh; obtain ⟨ye, hye, hh⟩ := hx
 have hte := htb _ _ hye
 split at hh
 case h_2 =>
  split at hh
  case h_2 => exact hh.elim
  rename_i hb1 hb2 hb3
  have hb8 := jia hb2
  have hz := jar hh; clear hh; obtain ⟨dl, hh, hl⟩ := hz
  have hz := jar hh; clear hh; obtain ⟨dc, hh, hc⟩ := hz
  split at hh
  case h_2 => exact hh.elim
  rename_i k1 m k2 n
  obtain ⟨g1, g2, g3⟩ := hh.1 trivial
  subst g1
  obtain ⟨iy, z, i1, i2, i3, i4, i5, i6, i7, i8, i9⟩ := hte.info
  refine jbu hd hh.2 fun E h a w S => ?_
  have h1 := hl E h a trivial (S.facts.rd l)
  have h2 := hc E h a trivial (S.facts.rd c)
  simp only [Den] at h1 h2
  have hbytes : (iy.bytes : Int) * m ≤ 281474976710656 := by
   have e1 : (iy.bytes : Int) ≤ 1000 := by rw [i3]; omega
   have e2 : (iy.bytes : Int) * m ≤ 1000 * m := jin e1 (by omega)
   omega
  have hrun := run_make (P := P) w t e iy z hu i1 i4 k1 k2 m m g2 (Int.le_refl _) hbytes (by omega)
  have hs0 : 0 < z.cells.size := by
   rw [i8]
   rcases jij ye.size with e | e
   ·rw [e] at hb1; exact absurd hb1 (by decide)
   ·exact e
  have hcl : ∀ v ∈ (madeCells z.cells (m.toNat * iy.size)).toList, v.oneCell' = true := by
   intro v hv
   simp only [madeCells, Array.toList_map, List.mem_map] at hv
   obtain ⟨q, _, rfl⟩ := hv
   refine i6 _ ?_
   have hlt := jik q hs0
   rw [getElem!_pos z.cells _ hlt]
   exact Array.getElem_mem_toList hlt
  refine ⟨_, _, (madeCells z.cells (m.toNat * iy.size)).size, Chunk.kn (.box (repD m.toNat ye.zero)), by simp only [execOp, ho, h1.1, h2.1]; rw [Sem.run_bind, hrun]; rfl, (Below.refl _ w).alloc (jii _) _, ?_, ?_⟩
  ·have hdn : DenL E h (repD m.toNat ye.zero) (madeCells z.cells (m.toNat * iy.size)).toList := by
    rw [i2, ← i8]
    exact jdt hs0 (i5 E h) _
   exact ⟨E.set_real _ _ _ _, (madeCells z.cells (m.toNat * iy.size)).toList, [], e, by rw [Env.set_blk, jbR]; simp, DenL.env (E.off_set _ _ _ _) (jgL hb3 _) hdn, hcl, by rw [Env.set_siz]; simp⟩
  ·simp only [Den]
   exact ⟨E.set_real _ _ _ _, m.toNat, by rw [Env.set_blk], jii _, by omega, .inl rfl⟩
 rename_i k hke
 obtain ⟨hz0, hh⟩ := zero0_el hh
 split at hh
 case h_2 => exact hh.elim
 rename_i hb1 hb2
 have hs1 := jae hb1
 have hb8 := jia hb2
 have hz := jar hh; clear hh; obtain ⟨dl, hh, hl⟩ := hz
 have hz := jar hh; clear hh; obtain ⟨dc, hh, hc⟩ := hz
 split at hh
 case h_2 => exact hh.elim
 rename_i k1 m k2 n
 obtain ⟨g1, g2, g3⟩ := hh.1 trivial
 obtain ⟨iy, i1, i2, i3, z, i4, i5⟩ := jeb hte
 refine jbu hd hh.2 fun E h a w S => ?_
 have h1 := hl E h a trivial (S.facts.rd l)
 have h2 := hc E h a trivial (S.facts.rd c)
 simp only [Den] at h1 h2
 have hzc : z.cells.toList = [.int k 0] := by
  have := i5 E h
  rw [hz0] at this
  simp only [DenL, Den] at this
  obtain ⟨_, _, h3, ⟨rfl, _⟩, rfl⟩ := this
  exact h3
 have hbytes : (iy.bytes : Int) * n ≤ 281474976710656 := by
  have : (iy.bytes : Int) ≤ 8 := by rw [i3]; omega
  have h4 : (iy.bytes : Int) * n ≤ 8 * n := jin this (by omega)
  omega
 have hrun := run_make (P := P) w t e iy z hu i1 i4 k1 k2 m n g1 g2 hbytes (by omega)
 have hmc : (madeCells z.cells (n.toNat * iy.size)).toList = List.replicate n.toNat (.int k 0) := by
  rw [i2, hs1, Nat.mul_one]
  have hz' : z.cells = #[.int k 0] := Array.toList_inj.1 (by simpa using hzc)
  have := jgb (k := k) (z := .int k 0) rfl n.toNat
  rw [hz']; exact this
 refine ⟨_, _, n.toNat, m.toNat, by simp only [execOp, ho, h1.1, h2.1]; rw [Sem.run_bind, hrun]; rfl, (Below.refl _ w).alloc (jii _) _, ?_, ?_⟩
 ·refine .inr ⟨E.set_real _ _ _ _, List.replicate (n.toNat - m.toNat) (.int k 0), e, ?_, ?_, ?_, by rw [Env.set_kn]; simp⟩
  ·rw [Env.set_blk, jbR]
   congr 2
   apply Array.toList_inj.1
   rw [hmc]
   simp only [List.map_replicate, List.replicate_append_replicate]
   congr 1; omega
  ·rw [Env.set_siz]; simp; omega
  ·intro x hx
   rw [List.eq_of_mem_replicate hx]; exact zero_inR k
 ·simp only [Den]
  exact .inr ⟨E.set_real _ _ _ _, 0, n.toNat, by rw [Env.set_blk], by omega, by rw [Env.set_siz]; omega, by omega, .inl rfl, by rw [Env.set_kn]; omega⟩
def srcK (k : IntKind) (H : Hp) (d : D) (K : List Int → Prop) : Prop := match d with
 | .ints k' ys => match kE k k' with | true => K ys | false => False
 | .nil => K []
 | .osl i off len => jbd H i fun c => match c with
  | .arr k' ys => match kE k k' with | true => (True → off + len ≤ ys.length) ∧ K ((ys.drop off).take len) | false => False
  | _ => False
 | _ => False
theorem jgt {k : IntKind} {H : Hp} {d : D} {K : List Int → Prop} (hh : srcK k H d K) :
  ∃ ys, K ys ∧ ∀ E h a (w : World) L, Facts E h a w L H → ∀ v, Den E h d v → (∀ n ∈ ys, InR k n) ∧ ys.length ≤ 281474976710656 ∧ ∃ ad cap, v = .slice ad ys.length cap ∧
   (match ad with | none => ys = [] | some ad => ∀ (j : Nat) u, (ys.map (Value.int k))[j]? = some u → w.cell? (ad.add j) = some u) := by
 unfold srcK at hh
 split at hh
 ·rename_i k' ys
  split at hh
  case h_2 => exact hh.elim
  rename_i hk
  have := kE_eq hk; subst this
  refine ⟨ys, hh, fun E h a w L F v hv => ?_⟩
  simp only [Den, jaK] at hv
  obtain ⟨ad, cap, rfl, h1, h2, h3, h4⟩ := hv
  refine ⟨h3, h2, ad, cap, rfl, ?_⟩
  cases ad with
  | none => exact h4.1
  | some ad =>
   intro j u hu
   rw [List.getElem?_map] at hu
   cases hx : ys[j]? with
   | none => rw [hx] at hu; cases hu
   | some n => rw [hx] at hu; cases hu; rw [jbK h4.1]; exact F.agree _ _ _ (h4.2 j n hx)
 ·refine ⟨[], hh, fun E h a w L F v hv => ?_⟩
  simp only [Den] at hv
  exact ⟨by simp, by simp, none, 0, by simpa using hv, rfl⟩
 ·rename_i i off len
  have hy' := jaA hh; clear hh; obtain ⟨c, hc, hh⟩ := hy'
  split at hh
  case h_2 => exact hh.elim
  rename_i k' ys
  split at hh
  case h_2 => exact hh.elim
  rename_i hk
  have := kE_eq hk; subst this
  have hle := hh.1 trivial
  refine ⟨_, hh.2, fun E h a w L F v hv => ?_⟩
  simp only [Den] at hv
  rcases hv with ⟨hreal, rfl, hl0⟩ | ⟨hreal, o, cap, rfl, h1, h2, h3, h4, hko⟩
  ·subst hl0
   simp only [List.take_zero]
   exact ⟨by simp, by simp, none, 0, rfl, trivial⟩
  obtain ⟨rest, T, hb, hsz, hr, hkn⟩ := jaZ hreal (F.chunk _ _ hc)
  have hlen : ((ys.drop off).take len).length = len := by simp; omega
  refine ⟨fun n hn => hr n (jiU (jiV hn)), by omega, _, cap, by rw [hlen], ?_⟩
  intro j u hu
  have hj : j < len := by
   have := (jiT.1 hu).1
   simp at this; omega
  rw [jaS]
  have ho : o = off := by rcases h4 with h4 | h4 <;> omega
  subst ho
  refine jbV hb ?_
  rw [jiS (by simp; omega)]
  rw [List.map_take, List.map_drop] at hu
  have := ja2 hu
  simpa using this
 ·exact hh.elim
def Env.virt (E : Env) (i : Nat) : Env := ⟨E.blk, E.siz, E.kn, fun j => if j = i then false else E.real j, E.lpr⟩
theorem Env.off_virt (E : Env) (i : Nat) : E.off (E.virt i) i := fun j hj => by simp [Env.virt, hj]
theorem Env.virt_real (E : Env) (i : Nat) : (E.virt i).real i = false := by simp [Env.virt]
section
variable {E : Env} {h : Pub} {a : Act} {w : World}
theorem Sat.fresh (S : Sat cx E h a w L H) {i : Nat} {r : D} {c : Chunk} {v : Value} {w' : World} {b s n : Nat}
    (ho : w'.os = w.os) (ht : w'.tape = w.tape) (hout : w'.output = w.output) (hsz : w.heap.size ≤ w'.heap.size)
    (hkeep : ∀ k, k < w.heap.size → k ≠ b → w'.heap[k]? = w.heap[k]?) (hB : cx.w0.heap.size ≤ b) (hpub : ∀ o, h b o = none)
    (hcell : ∀ o, w.heap[b]? = some o → o.isCells = true)
    (hinj : ∀ j c', j ≠ i → lookH H j = some c' → c'.live = true → E.real j = true → E.blk j ≠ b)
    (hc : ChunkOk (E.set i b s n) h w' i c) {d : Nat} (hi : d < a.tmps.size) (hoff' : cx.off ≤ i) (hv : Den (E.set i b s n) h r v) :
    Sat cx (E.set i b s n) h (a.put (some d) v) w' ((d, r) :: purge i L) ((i, c) :: jaE i H) := by
  have hoff := E.off_set i b s n
  have live : ∀ j c', j ≠ i → lookH ((i, c) :: jaE i H) j = some c' → c'.live = true → ∃ c0, lookH H j = some c0 ∧ c' = jb5 i c0 ∧ c0.live = true := by
    intro j c' hj hc' hl
    rw [jag, if_neg (Ne.symm hj)] at hc'
    obtain ⟨c0, h1, h2⟩ := ja9 hc'
    exact ⟨c0, h1, h2, by rw [h2, ja8] at hl; exact hl⟩
  refine { knows := ?_, mem := ?_, agree := ?_, since := ?_, low := fun j hj => jeM S.low hoff hoff' j hj, side := S.side.keep fun k o hko hno => (by
    by_cases e : k = b
    · subst e; rw [hcell o hko] at hno; cases hno
    · rw [hkeep k (Array.getElem?_eq_some_iff.1 hko).1 e]; exact hko) }
  · exact jcE (fun t => jbF hoff (S.knows t)) hi hv
  · refine { ok := ?_, base := ?_, unpub := ?_, inj := ?_ }
    · intro j c' hc'
      by_cases hj : j = i
      · subst hj; rw [jag, if_pos rfl] at hc'; cases hc'; exact hc
      · cases hl : c'.live with
        | false => cases c' <;> first | trivial | (simp [Chunk.live] at hl)
        | true =>
          obtain ⟨c0, h1, rfl, hl'⟩ := live j c' hj hc' hl
          have h4 := S.mem.ok j _ h1
          exact ChunkOk.env hoff hj (h4.keep fun hl hr => hkeep _ (h4.lt hl hr) (hinj j _ hj h1 hl hr))
    · intro j c' hc' hl hr
      by_cases hj : j = i
      · subst hj; rw [Env.set_blk]; exact hB
      · obtain ⟨c0, h1, rfl, hl'⟩ := live j c' hj hc' hl
        rw [E.set_real_ne _ _ _ hj] at hr
        rw [E.set_blk_ne _ _ _ hj]; exact S.mem.base j _ h1 hl' hr
    · intro j c' hc' hl hr o
      by_cases hj : j = i
      · subst hj; rw [Env.set_blk]; exact hpub o
      · obtain ⟨c0, h1, rfl, hl'⟩ := live j c' hj hc' hl
        rw [E.set_real_ne _ _ _ hj] at hr
        rw [E.set_blk_ne _ _ _ hj]; exact S.mem.unpub j _ h1 hl' hr o
    · intro j k c1 c2 hjk h1 h2 l1 l2 r1 r2
      by_cases hj : j = i
      · subst hj
        obtain ⟨c0, g1, rfl, l2'⟩ := live k c2 (Ne.symm hjk) h2 l2
        rw [E.set_real_ne _ _ _ (Ne.symm hjk)] at r2
        rw [Env.set_blk, E.set_blk_ne _ _ _ (Ne.symm hjk)]
        exact (hinj k _ (Ne.symm hjk) g1 l2' r2).symm
      · obtain ⟨c0, g1, rfl, l1'⟩ := live j c1 hj h1 l1
        rw [E.set_real_ne _ _ _ hj] at r1
        by_cases hk : k = i
        · subst hk
          rw [Env.set_blk, E.set_blk_ne _ _ _ hj]
          exact hinj j _ hj g1 l1' r1
        · obtain ⟨c0', g2, rfl, l2'⟩ := live k c2 hk h2 l2
          rw [E.set_real_ne _ _ _ hk] at r2
          rw [E.set_blk_ne _ _ _ hj, E.set_blk_ne _ _ _ hk]
          exact S.mem.inj j k _ _ hjk g1 g2 l1' l2' r1 r2
  · exact S.agree.of_blocks fun k ⟨o, v, hw⟩ => hkeep k (S.agree.lt hw) (fun e => by subst e; rw [hpub o] at hw; cases hw)
  · exact ⟨S.since.below.trans ⟨ho, ht, hout, hsz, fun k hk => hkeep k (jio hk S.since.below.size) (by omega)⟩, S.since.le, S.since.old⟩
theorem Sat.virt (S : Sat cx E h a w L H) {i : Nat} {r : D} {k : IntKind} {v : Value} {d : Nat} (hi : d < a.tmps.size) (hoff' : cx.off ≤ i) (hv : Den (E.virt i) h r v) :
  Sat cx (E.virt i) h (a.put (some d) v) w ((d, r) :: purge i L) ((i, .arr k []) :: jaE i H) := by
 have hoff := E.off_virt i
 have live : ∀ j c', j ≠ i → lookH ((i, .arr k []) :: jaE i H) j = some c' → c'.live = true → ∃ c0, lookH H j = some c0 ∧ c' = jb5 i c0 ∧ c0.live = true := by
  intro j c' hj hc' hl
  rw [jag, if_neg (Ne.symm hj)] at hc'
  obtain ⟨c0, h1, h2⟩ := ja9 hc'
  exact ⟨c0, h1, h2, by rw [h2, ja8] at hl; exact hl⟩
 have hne : ∀ j, (E.virt i).real j = true → j ≠ i := fun j hr e => by subst e; rw [E.virt_real] at hr; cases hr
 have hre : ∀ j, j ≠ i → (E.virt i).real j = E.real j := fun j hj => (hoff j hj).2.2.2.1
 refine { knows := ?_, mem := ?_, agree := S.agree, since := S.since, low := fun j hj => jeM S.low hoff hoff' j hj, side := S.side }
 ·exact jcE (fun t => jbF hoff (S.knows t)) hi hv
 ·refine { ok := ?_, base := ?_, unpub := ?_, inj := ?_ }
  ·intro j c' hc'
   by_cases hj : j = i
   ·subst hj; rw [jag, if_pos rfl] at hc'; cases hc'; exact .inl ⟨E.virt_real _, rfl⟩
   ·cases hl : c'.live with
    | false => cases c' <;> first | trivial | (simp [Chunk.live] at hl)
    | true =>
     obtain ⟨c0, h1, rfl, hl'⟩ := live j c' hj hc' hl
     exact ChunkOk.env hoff hj (S.mem.ok j _ h1)
  ·intro j c' hc' hl hr
   have hj := hne j hr
   obtain ⟨c0, h1, rfl, hl'⟩ := live j c' hj hc' hl
   rw [hre j hj] at hr
   exact S.mem.base j _ h1 hl' hr
  ·intro j c' hc' hl hr o
   have hj := hne j hr
   obtain ⟨c0, h1, rfl, hl'⟩ := live j c' hj hc' hl
   rw [hre j hj] at hr
   exact S.mem.unpub j _ h1 hl' hr o
  ·intro j k' c1 c2 hjk h1 h2 l1 l2 r1 r2
   have hj := hne j r1
   have hk := hne k' r2
   obtain ⟨c0, g1, rfl, l1'⟩ := live j c1 hj h1 l1
   obtain ⟨c0', g2, rfl, l2'⟩ := live k' c2 hk h2 l2
   rw [hre j hj] at r1
   rw [hre k' hk] at r2
   exact S.mem.inj j k' _ _ hjk g1 g2 l1' l2' r1 r2
end
end
end Go.V
end
