/- Laws of a small interpreter over plain values, part 4. No condition. -/
import Derived.Test.YtgjgpdceghjajaaGreatDoorSimplexRefinedH3
set_option linter.unusedSimpArgs false
set_option linter.unusedVariables false
set_option maxHeartbeats 8000000
set_option maxRecDepth 100000
section
namespace Go.V
open Go Go.RowKit
mutual
def D.pure : D → Bool
 | .box _ _ | .osl _ _ _ | .bsl _ _ _ _ | .yld _ => false
 | .agg ds | .tup ds | .ref ds => D.pureL ds
 | .fn _ es ds => match D.pureL es with | true => D.pureL ds | false => false
 | .gd _ d => D.pure d
 | _ => true
def D.pureL : List D → Bool
 | [] => true
 | d :: ds => match D.pure d with | true => D.pureL ds | false => false
end
mutual
theorem Den.pure {E E' : Env} {h : Pub} : ∀ {d : D} {v : Value}, d.pure = true → Den E h d v → Den E' h d v
 | .any, _, _, _ => by simp [Den]
 | .undef, _, _, H => by simpa [Den] using H
 | .bool _, _, _, H => by simpa [Den] using H
 | .int _ _, _, _, H => by simpa [Den] using H
 | .str _, _, _, H => by simpa [Den] using H
 | .nil, _, _, H => by simpa [Den] using H
 | .ints k xs, v, _, H => by simpa [Den] using H
 | .slf _ _ _, _, _, H => by simpa [Den] using H
 | .iarr _ _, _, _, H => by simpa [Den] using H
 | .agg ds, v, F, H => by
  simp only [Den] at H ⊢
  simp only [D.pure] at F
  obtain ⟨vs, h1, h2, h3⟩ := H
  exact ⟨vs, h1, DenL.pure F h2, h3⟩
 | .tup ds, v, F, H => by
  simp only [Den] at H ⊢
  simp only [D.pure] at F
  obtain ⟨vs, h1, h2⟩ := H
  exact ⟨vs, h1, DenL.pure F h2⟩
 | .fn f first caps, v, F, H => by
  simp only [Den] at H ⊢
  simp only [D.pure] at F
  obtain ⟨us, vs, h1, h2, h3⟩ := H
  cases hd : D.pureL first with
  | false => rw [hd] at F; simp at F
  | true => rw [hd] at F; exact ⟨us, vs, h1, DenL.pure hd h2, DenL.pure F h3⟩
 | .ref ds, v, F, H => by
  simp only [Den] at H ⊢
  simp only [D.pure] at F
  obtain ⟨b, o, h1, vs, h2, h3, h4⟩ := H
  exact ⟨b, o, h1, vs, DenL.pure F h2, h3, h4⟩
 | .box j _, _, F, H => by simp [D.pure] at F
 | .osl j _ _, _, F, H => by simp [D.pure] at F
 | .bsl j _ _ _, _, F, H => by simp [D.pure] at F
 | .gd c d, v, F, H => by
  simp only [Den] at H ⊢
  simp only [D.pure] at F
  exact ⟨fun hc => Den.pure F (H.1 hc), H.2⟩
 | .gp _, _, _, H => by simpa [Den] using H
 | .val _, _, _, H => by simpa [Den] using H
 | .anyb _, _, _, H => by simpa [Den] using H
 | .yld _, _, F, H => by simp [D.pure] at F
theorem DenL.pure {E E' : Env} {h : Pub} : ∀ {ds : List D} {vs : List Value}, D.pureL ds = true → DenL E h ds vs → DenL E' h ds vs
 | [], _, _, H => by simpa [DenL] using H
 | d :: ds, vs, F, H => by
  simp only [DenL] at H ⊢
  simp only [D.pureL] at F
  obtain ⟨v, vs', h1, h2, h3⟩ := H
  cases hd : D.pure d with
  | false => rw [hd] at F; simp at F
  | true => rw [hd] at F; exact ⟨v, vs', h1, Den.pure hd h2, DenL.pure F h3⟩
end
def jdU (tb : Tb) (g : Prop) (t : Nat) (dx di : D) (K : D → Prop) : Prop := match di with
 | .int _ i => tyK tb t fun y => match y.kind with
  | .slice e => tyK tb e fun ye => match dx with
   | .ints k xs => match Nat.beq ye.size 1 with
    | true => (g → 0 ≤ i ∧ i < xs.length) ∧ K (.ref [.int k (xs.getD i.toNat 0)])
    | false => False
   | .slf es n f => match Nat.beq ye.size es, D.pureL (f i.toNat) with
    | true, true => (g → 0 ≤ i ∧ i < n) ∧ K (.ref (f i.toNat))
    | _, _ => False
   | .osl b off len => match Nat.beq ye.size 1 with
    | true => (g → 0 ≤ i ∧ i < len) ∧ K (.box b (off + i.toNat))
    | false => False
   | .bsl b off len es => match Nat.beq ye.size es with
    | true => (g → 0 ≤ i ∧ i < len) ∧ K (.box b (off + i.toNat * es))
    | false => False
   | _ => False
  | .arr n e => tyK tb e fun ye => match dx with
   | .box b off => match Nat.beq ye.size 1 with
    | true => (g → 0 ≤ i ∧ i < n) ∧ K (.box b (off + i.toNat))
    | false => (g → 0 ≤ i ∧ i < n) ∧ K (.box b (off + i.toNat * ye.size))
   | .ref ds => (g → 0 ≤ i ∧ i < n) ∧ dropK ds (i.toNat * ye.size) fun ds => takeK ds ye.size fun ds => K (.ref ds)
   | .gp gl => match ye.kind, Nat.beq ye.size 1 with
    | .int k, true => glbK glb gl fun vs => jfP k vs fun xs => (g → 0 ≤ i ∧ i < n ∧ i < xs.length) ∧ K (.ref [.int k (xs.getD i.toNat 0)])
    | _, false => glbK glb gl fun vs => match vs.all (·.oneCell') with
     | true => (g → 0 ≤ i ∧ i < n) ∧ dropK (vs.map ofVal) (i.toNat * ye.size) fun ds => takeK ds ye.size fun ds => K (.ref ds)
     | false => False
    | _, _ => False
   | _ => False
  | _ => False
 | _ => False
theorem jae {a b : Nat} (h : Nat.beq a b = true) : a = b := Nat.eq_of_beq_eq_true h
theorem jgI {P : Program} {tb : Tb} (htb : TbOk P tb) {g : Prop} {t : Nat} {dx di : D} {K : D → Prop} (hh : jdU tb g t dx di K) :
  ∃ r, K r ∧ ∀ E h w v u, GlOk h → Den E h dx v → Den E h di u → g → Gives P E h (Instr.indexAt t v u) w r := by
 unfold jdU at hh
 split at hh
 case h_2 => exact hh.elim
 rename_i ki i
 have hx := jak hh; clear hh; obtain ⟨y, hy, hh⟩ := hx
 have hty := htb _ _ hy
 split at hh
 ·rename_i e hk
  have hu := jaw hty hk
  have hx := jak hh; clear hh; obtain ⟨ye, hye, hh⟩ := hx
  have hte := htb _ _ hye
  have hrun : ∀ (w : World) (a : Addr) (len cap : Nat), 0 ≤ i → i < len → (Instr.indexAt t (.slice (some a) len cap) (.int ki i)).run P w = .ok (.pointer (some (a.add (i.toNat * ye.size)))) w := fun w a len cap h0 h1 => by
   simp [Instr.indexAt, asIntOf, run_underlying hu, h0, h1, hte.sizeOf w]
  split at hh
  ·rename_i k xs
   cases hb : Nat.beq ye.size 1 with
   | false => rw [hb] at hh; exact hh.elim
   | true =>
    rw [hb] at hh
    have hsz := jae hb
    refine ⟨_, hh.2, fun E h w v u gk hv hu hg => ?_⟩
    simp only [Den] at hu; obtain ⟨rfl, _⟩ := hu
    obtain ⟨h0, h1⟩ := hh.1 hg
    simp only [Den, jaK] at hv
    obtain ⟨a, cap, rfl, h2, h3, h4, h5⟩ := hv
    have h1' : i.toNat < xs.length := by omega
    cases a with
    | none => simp only at h5; obtain ⟨h5, _⟩ := h5; subst h5; simp at h1'
    | some ad =>
     refine ⟨_, hrun w ad _ _ h0 h1, ?_⟩
     rw [hsz, Nat.mul_one, jbK h5.1]
     have hget : xs[i.toNat]? = some (xs.getD i.toNat 0) := by simp [List.getD, jiM h1']
     simp only [Den, DenL]
     refine ⟨_, _, rfl, [.int k (xs.getD i.toNat 0)], ⟨_, _, rfl, ⟨rfl, h4 _ (jiO hget)⟩, rfl⟩, by simp [Value.oneCell'], ?_⟩
     intro j v hv
     cases j with
     | zero => simp at hv; subst hv; exact h5.2 _ _ hget
     | succ j => simp at hv
  ·rename_i es n f
   cases hb : Nat.beq ye.size es with
   | false => rw [hb] at hh; exact hh.elim
   | true =>
    cases hp : D.pureL (f i.toNat) with
    | false => rw [hb, hp] at hh; exact hh.elim
    | true =>
     rw [hb, hp] at hh
     have hsz := jae hb
     refine ⟨_, hh.2, fun E h w v u gk hv hu hg => ?_⟩
     simp only [Den] at hu; obtain ⟨rfl, _⟩ := hu
     obtain ⟨h0, h1⟩ := hh.1 hg
     simp only [Den] at hv
     obtain ⟨a, cap, rfl, h2, h3, h5⟩ := hv
     have h1' : i.toNat < n := by omega
     cases a with
     | none => simp only at h5; omega
     | some ad =>
      refine ⟨_, hrun w ad _ _ h0 h1, ?_⟩
      obtain ⟨vs, h6, h7, h8, h9⟩ := h5.2 _ h1'
      rw [jbK h5.1]
      simp only [Den]
      exact ⟨_, _, rfl, vs, DenL.pure hp h6, h8, fun j v hv => by rw [hsz]; exact h9 j v hv⟩
  ·rename_i b off len
   cases hb : Nat.beq ye.size 1 with
   | false => rw [hb] at hh; exact hh.elim
   | true =>
    rw [hb] at hh
    have hsz := jae hb
    refine ⟨_, hh.2, fun E h w v u gk hv hu hg => ?_⟩
    simp only [Den] at hu; obtain ⟨rfl, _⟩ := hu
    obtain ⟨h0, h1⟩ := hh.1 hg
    simp only [Den] at hv
    rcases hv with ⟨_, _, hv⟩ | ⟨hreal, o, cap, rfl, h2, h3, h4, h5, hkn⟩
    ·omega
    refine ⟨_, hrun w _ _ _ h0 h1, ?_⟩
    rw [hsz, Nat.mul_one, jaS]
    rcases h5 with rfl | h5
    ·simp only [Den]; exact ⟨trivial, hreal⟩
    ·omega
  ·rename_i b off len es
   cases hb : Nat.beq ye.size es with
   | false => rw [hb] at hh; exact hh.elim
   | true =>
    rw [hb] at hh
    have hsz := jae hb
    refine ⟨_, hh.2, fun E h w v u gk hv hu hg => ?_⟩
    simp only [Den] at hu; obtain ⟨rfl, _⟩ := hu
    obtain ⟨h0, h1⟩ := hh.1 hg
    simp only [Den] at hv
    obtain ⟨hreal, cap, rfl, _⟩ := hv
    refine ⟨_, hrun w _ _ _ h0 h1, ?_⟩
    rw [hsz, jaS]
    simp only [Den]; exact ⟨trivial, hreal⟩
  ·exact hh.elim
 ·rename_i n e hk
  have hu := jcm hty hk
  have hx := jak hh; clear hh; obtain ⟨ye, hye, hh⟩ := hx
  have hte := htb _ _ hye
  have hrun : ∀ (w : World) (b o : Nat), 0 ≤ i → i < n → (Instr.indexAt t (.pointer (some ⟨b, o, none⟩)) (.int ki i)).run P w = .ok (.pointer (some ⟨b, o + i.toNat * ye.size, none⟩)) w := fun w b o h0 h1 => by
   simp [Instr.indexAt, asIntOf, run_underlying hu, h0, h1, hte.sizeOf w, Instr.sureAddr, jaS]
  split at hh
  ·rename_i b off
   cases hb : Nat.beq ye.size 1 with
   | true =>
    rw [hb] at hh
    have hsz := jae hb
    refine ⟨_, hh.2, fun E h w v u gk hv hu hg => ?_⟩
    simp only [Den] at hu hv; obtain ⟨rfl, _⟩ := hu; obtain ⟨rfl, hreal⟩ := hv
    obtain ⟨h0, h1⟩ := hh.1 hg
    exact ⟨_, hrun w _ _ h0 h1, by simp only [Den]; rw [hsz, Nat.mul_one]; exact ⟨rfl, hreal⟩⟩
   | false =>
    rw [hb] at hh
    refine ⟨_, hh.2, fun E h w v u gk hv hu hg => ?_⟩
    simp only [Den] at hu hv; obtain ⟨rfl, _⟩ := hu; obtain ⟨rfl, hreal⟩ := hv
    obtain ⟨h0, h1⟩ := hh.1 hg
    exact ⟨_, hrun w _ _ h0 h1, by simp only [Den]; exact ⟨trivial, hreal⟩⟩
  ·rename_i ds
   obtain ⟨hs, hh⟩ := hh
   obtain ⟨h6, hh⟩ := jcq hh
   obtain ⟨h7, hh⟩ := jcf hh
   refine ⟨_, hh, fun E h w v u gk hv hu hg => ?_⟩
   simp only [Den] at hu hv; obtain ⟨rfl, _⟩ := hu
   obtain ⟨b, o, rfl, vs, hd, ho, hc⟩ := hv
   obtain ⟨h0, h1⟩ := hs hg
   refine ⟨_, hrun w _ _ h0 h1, ?_⟩
   simp only [Den]
   exact ⟨b, _, rfl, (vs.drop _).take _, (hd.drop _).take _, fun v hv => ho v (jiU (jiV hv)), fun j v hv => by rw [Nat.add_assoc]; exact hc _ v (by rw [List.getElem?_take] at hv; split at hv; (simpa using hv); cases hv)⟩
  ·rename_i gl
   split at hh
   case h_3 => exact hh.elim
   case h_2 =>
    obtain ⟨vs, hm, hh⟩ := jhu hh
    cases ho : vs.all (·.oneCell') with
    | false => rw [ho] at hh; exact hh.elim
    | true =>
     rw [ho] at hh
     obtain ⟨hs, hh⟩ := hh
     obtain ⟨h6, hh⟩ := jcq hh
     obtain ⟨h7, hh⟩ := jcf hh
     refine ⟨_, hh, fun E h w v u gk hv hu hg => ?_⟩
     simp only [Den] at hu hv; obtain ⟨rfl, _⟩ := hu; subst hv
     obtain ⟨h0, h1⟩ := hs hg
     refine ⟨_, hrun w _ _ h0 h1, ?_⟩
     simp only [Den]
     exact ⟨gl, _, rfl, (vs.drop _).take _, ((jdX _ _ vs).drop _).take _, fun v hv => jiI.1 ho v (jiU (jiV hv)), fun j v hv => by rw [jif]; exact gk gl vs hm _ v (by rw [List.getElem?_take] at hv; split at hv; (simpa using hv); cases hv)⟩
   rename_i k hke hsz0
   have hsz := jae hsz0
   obtain ⟨vs, hm, hh⟩ := jhu hh
   obtain ⟨xs, hxs, hr, hh⟩ := valInts_el hh
   refine ⟨_, hh.2, fun E h w v u gk hv hu hg => ?_⟩
   simp only [Den] at hu hv; obtain ⟨rfl, _⟩ := hu; subst hv
   obtain ⟨h0, h1, h2⟩ := hh.1 hg
   refine ⟨_, hrun w _ _ h0 h1, ?_⟩
   have h1' : i.toNat < xs.length := by omega
   have hget : xs[i.toNat]? = some (xs.getD i.toNat 0) := by simp [List.getD, jiM h1']
   simp only [Den, DenL]
   refine ⟨_, _, rfl, [.int k (xs.getD i.toNat 0)], ⟨_, _, rfl, ⟨rfl, hr _ (jiO hget)⟩, rfl⟩, by simp [Value.oneCell'], ?_⟩
   intro j v hv
   cases j with
   | zero =>
    simp at hv; subst hv
    rw [hsz, Nat.mul_one, jif, Nat.add_zero]
    exact gk gl vs hm _ _ (by rw [hxs, List.getElem?_map, hget]; rfl)
   | succ j => simp at hv
  ·exact hh.elim
 ·exact hh.elim
def indexK (tb : Tb) (g : Prop) (t : Nat) (dx di : D) (K : D → Prop) : Prop := match di with
 | .int _ i => tyK tb t fun y => match y.kind with
  | .arr n e => match dx with
   | .agg ds => (g → 0 ≤ i ∧ i < n) ∧ tyK tb e fun ye => partK tb e ds (i.toNat * ye.size) K
   | .iarr k xs => tyK tb e fun ye => match ye.kind.isAgg, Nat.beq ye.size 1 with
    | false, true => (g → 0 ≤ i ∧ i < n ∧ i < xs.length) ∧ K (.int k (xs.getD i.toNat 0))
    | _, _ => False
   | _ => False
  | .str => match dx with
   | .str s => (g → 0 ≤ i ∧ i < s.length) ∧ K (.int .u8 (s.getD i.toNat 0).toNat)
   | _ => False
  | _ => False
 | _ => False
theorem u8_inR (c : UInt8) : InR .u8 (c.toNat : Int) := by
 have := c.toNat_lt
 constructor <;> simp [lo, hi] <;> omega
theorem index_el {P : Program} {tb : Tb} (htb : TbOk P tb) {g : Prop} {t : Nat} {dx di : D} {K : D → Prop} (hh : indexK tb g t dx di K) :
  ∃ r, K r ∧ ∀ E h w v u, Den E h dx v → Den E h di u → g → Gives P E h (Instr.index t v u) w r := by
 unfold indexK at hh
 split at hh
 case h_2 => exact hh.elim
 rename_i ki i
 have hx := jak hh; clear hh; obtain ⟨y, hy, hh⟩ := hx
 have hty := htb _ _ hy
 split at hh
 ·rename_i n e hk
  have hu := jcm hty hk
  split at hh
  ·rename_i ds
   obtain ⟨hs, hh⟩ := hh
   have hx := jak hh; clear hh; obtain ⟨ye, hye, hh⟩ := hx
   have hte := htb _ _ hye
   obtain ⟨r, hr, hh⟩ := part_el htb hh
   refine ⟨r, hr, fun E h w v u hv hu' hg => ?_⟩
   simp only [Den] at hu' hv; obtain ⟨rfl, _⟩ := hu'
   obtain ⟨vs, rfl, hd, ho⟩ := hv
   obtain ⟨h0, h1⟩ := hs hg
   obtain ⟨v', h6, h7⟩ := hh E h w vs hd ho
   exact ⟨v', by simp [Instr.index, asIntOf, run_underlying hu, h0, h1, hte.sizeOf w, h6], h7⟩
  ·rename_i k xs
   have hx := jak hh; clear hh; obtain ⟨ye, hye, hh⟩ := hx
   have hte := htb _ _ hye
   cases ha : ye.kind.isAgg with
   | true => rw [ha] at hh; exact hh.elim
   | false =>
    cases hb : Nat.beq ye.size 1 with
    | false => rw [ha, hb] at hh; exact hh.elim
    | true =>
     rw [ha, hb] at hh
     have hsz := jae hb
     refine ⟨_, hh.2, fun E h w v u hv hu' hg => ?_⟩
     simp only [Den] at hu' hv; obtain ⟨rfl, _⟩ := hu'
     obtain ⟨rfl, hr⟩ := hv
     obtain ⟨h0, h1, h2⟩ := hh.1 hg
     have h1' : i.toNat < xs.length := by omega
     have hget : xs[i.toNat]? = some (xs.getD i.toNat 0) := by simp [List.getD, jiM h1']
     refine ⟨.int k (xs.getD i.toNat 0), ?_, by simp only [Den]; exact ⟨trivial, hr _ (jiO hget)⟩⟩
     have := jd0 (P := P) hte ha (vs := xs.map (Value.int k)) (o := i.toNat) (v := .int k (xs.getD i.toNat 0)) (by rw [List.getElem?_map, hget]; rfl) w
     simp [Instr.index, asIntOf, run_underlying hu, h0, h1, hte.sizeOf w, hsz, this]
  ·exact hh.elim
 ·rename_i hk
  have hu := jel hty hk
  split at hh
  ·rename_i s
   refine ⟨_, hh.2, fun E h w v u hv hu' hg => ?_⟩
   simp only [Den] at hu' hv; obtain ⟨rfl, _⟩ := hu'
   obtain ⟨rfl, _⟩ := hv
   obtain ⟨h0, h1⟩ := hh.1 hg
   have h1' : i.toNat < s.length := by omega
   refine ⟨.int .u8 (s.getD i.toNat 0).toNat, ?_, by simp only [Den]; exact ⟨trivial, u8_inR _⟩⟩
   have hlt : i.toNat < (⟨s.toArray⟩ : ByteArray).size := by simpa [ByteArray.size] using h1'
   have h3 : (if 0 ≤ i then (⟨s.toArray⟩ : ByteArray)[i.toNat]? else none) = some (s.getD i.toNat 0) := by
    rw [if_pos h0, ByteArray.getElem?_lt' _ _ hlt]
    congr 1
    simp [List.getD, jiM h1']
    rfl
   simp only [Instr.index, asIntOf, Sem.run_bind, Sem.run_pure, Result.andThen_ok, run_underlying hu, h3]
  ·exact hh.elim
 ·exact hh.elim
def lenK (tb : Tb) (t : Nat) (d : D) (K : D → Prop) : Prop := tyK tb t fun y => match y.kind with
 | .slice _ => match d with
  | .ints _ xs => K (.int .i64 xs.length)
  | .slf _ n _ => K (.int .i64 n)
  | .nil => K (.int .i64 0)
  | .osl _ _ len => K (.int .i64 len)
  | .bsl _ _ len _ => K (.int .i64 len)
  | _ => False
 | .str => match d with
  | .str s => K (.int .i64 s.length)
  | _ => False
 | _ => False
theorem jbZ {n : Nat} (h : n ≤ 281474976710656) : InR .i64 (n : Int) := by
 constructor <;> simp [lo, hi] <;> omega
theorem len_el {P : Program} {tb : Tb} (htb : TbOk P tb) {t : Nat} {d : D} {K : D → Prop} (hh : lenK tb t d K) :
  ∃ r, K r ∧ ∀ E h w v ty ats, ats[0]? = some t → Den E h d v → Gives P E h (Builtin.len_ ats ty #[v]) w r := by
 have hx := jak hh; clear hh; obtain ⟨y, hy, hh⟩ := hx
 have hty := htb _ _ hy
 split at hh
 ·rename_i e hk
  have hu := jaw hty hk
  have hrun : ∀ (w : World) (a : Option Addr) (n c : Nat) ty (ats : Array Nat), ats[0]? = some t → (Builtin.len_ ats ty #[.slice a n c]).run P w = .ok (.int .i64 n) w := fun w a n c ty ats h0 => by
   simp [Builtin.len_, run_underlying hu, goInt, h0]
  split at hh
  ·refine ⟨_, hh, fun E h w v ty ats h0 hv => ?_⟩
   simp only [Den, jaK] at hv
   obtain ⟨a, cap, rfl, _, h1, _⟩ := hv
   exact ⟨_, hrun w _ _ _ _ _ h0, by simp only [Den]; exact ⟨trivial, jbZ h1⟩⟩
  ·refine ⟨_, hh, fun E h w v ty ats h0 hv => ?_⟩
   simp only [Den] at hv
   obtain ⟨a, cap, rfl, _, h1, _⟩ := hv
   exact ⟨_, hrun w _ _ _ _ _ h0, by simp only [Den]; exact ⟨trivial, jbZ h1⟩⟩
  ·refine ⟨_, hh, fun E h w v ty ats h0 hv => ?_⟩
   simp only [Den] at hv; subst hv
   exact ⟨_, hrun w _ _ _ _ _ h0, by simp only [Den]; exact ⟨rfl, jbZ (n := 0) (by omega)⟩⟩
  ·refine ⟨_, hh, fun E h w v ty ats h0 hv => ?_⟩
   simp only [Den] at hv
   rcases hv with ⟨_, rfl, rfl⟩ | ⟨_, o, cap, rfl, _, _, h1, _⟩
   ·exact ⟨_, hrun w _ _ _ _ _ h0, by simp only [Den]; exact ⟨by trivial, jbZ (n := 0) (by omega)⟩⟩
   ·exact ⟨_, hrun w _ _ _ _ _ h0, by simp only [Den]; exact ⟨trivial, jbZ h1⟩⟩
  ·refine ⟨_, hh, fun E h w v ty ats h0 hv => ?_⟩
   simp only [Den] at hv
   obtain ⟨_, cap, rfl, _, h1, _⟩ := hv
   exact ⟨_, hrun w _ _ _ _ _ h0, by simp only [Den]; exact ⟨trivial, jbZ h1⟩⟩
  ·exact hh.elim
 ·rename_i hk
  have hu := jel hty hk
  split at hh
  ·rename_i s0
   refine ⟨_, hh, fun E h w v ty ats h0 hv => ?_⟩
   simp only [Den] at hv
   obtain ⟨rfl, h1⟩ := hv
   refine ⟨.int .i64 s0.length, ?_, by simp only [Den]; exact ⟨trivial, jbZ h1⟩⟩
   have hs : (⟨s0.toArray⟩ : ByteArray).size = s0.length := by show s0.toArray.size = _; simp
   have hg : (#[Value.string ⟨s0.toArray⟩] : Array Value)[0]? = some (.string ⟨s0.toArray⟩) := rfl
   simp only [Builtin.len_, h0, hg, Sem.run_bind, run_underlying hu, Result.andThen_ok, goInt, hs, Sem.run_pure]
  ·exact hh.elim
 ·exact hh.elim
def sliceK (tb : Tb) (g : Prop) (L : Sl) (t : Nat) (dx : D) (lo hi : Option Operand) (K : D → Prop) : Prop := tyK tb t fun y => match y.kind with
 | .slice e => tyK tb e fun ye => match Nat.beq ye.size 1 with
  | true => match dx with
   | .ints k xs => match lo, hi with
    | none, none => K (.ints k xs)
    | none, some b => rdg g L b fun r => match r with | .int _ n => (g → 0 ≤ n ∧ n ≤ xs.length) ∧ K (.ints k (xs.take n.toNat)) | _ => False
    | some a, none => rdg g L a fun r => match r with | .int _ n => (g → 0 ≤ n ∧ n ≤ xs.length) ∧ K (.ints k (xs.drop n.toNat)) | _ => False
    | some a, some b => rdg g L a fun r => match r with
     | .int _ m => rdg g L b fun r => match r with | .int _ n => (g → 0 ≤ m ∧ m ≤ n ∧ n ≤ xs.length) ∧ K (.ints k ((xs.take n.toNat).drop m.toNat)) | _ => False
     | _ => False
   | .osl i off len => match lo, hi with
    | none, none => K (.osl i off len)
    | none, some b => rdg g L b fun r => match r with | .int _ n => (g → 0 ≤ n ∧ n ≤ len) ∧ K (.osl i off n.toNat) | _ => False
    | some a, none => rdg g L a fun r => match r with | .int _ n => (g → 0 ≤ n ∧ n ≤ len) ∧ K (.osl i (off + n.toNat) (len - n.toNat)) | _ => False
    | some a, some b => rdg g L a fun r => match r with
     | .int _ m => rdg g L b fun r => match r with | .int _ n => (g → 0 ≤ m ∧ m ≤ n ∧ n ≤ len) ∧ K (.osl i (off + m.toNat) (n.toNat - m.toNat)) | _ => False
     | _ => False
   | _ => False
  | false => match dx with
   | .slf e' q f => match Nat.beq e' ye.size with
    | true => match lo, hi with
     | none, some b => rdg g L b fun r => match r with | .int _ n => (g → 0 ≤ n ∧ n ≤ q) ∧ K (.slf e' n.toNat fun j => f (j + 0)) | _ => False
     | some a, none => rdg g L a fun r => match r with | .int _ n => (g → 0 ≤ n ∧ n ≤ q) ∧ K (.slf e' (q - n.toNat) fun j => f (j + n.toNat)) | _ => False
     | some a, some b => rdg g L a fun r => match r with
      | .int _ m => rdg g L b fun r => match r with | .int _ n => (g → 0 ≤ m ∧ m ≤ n ∧ n ≤ q) ∧ K (.slf e' (n.toNat - m.toNat) fun j => f (j + m.toNat)) | _ => False
      | _ => False
     | _, _ => False
    | false => False
   | _ => False
 | .str => match dx with
  | .str s => match lo, hi with
   | none, none => K (.str s)
   | none, some b => rdg g L b fun r => match r with | .int _ n => (g → 0 ≤ n ∧ n ≤ s.length) ∧ K (.str (s.take n.toNat)) | _ => False
   | some a, none => rdg g L a fun r => match r with | .int _ n => (g → 0 ≤ n ∧ n ≤ s.length) ∧ K (.str (s.drop n.toNat)) | _ => False
   | some a, some b => rdg g L a fun r => match r with
    | .int _ m => rdg g L b fun r => match r with | .int _ n => (g → 0 ≤ m ∧ m ≤ n ∧ n ≤ s.length) ∧ K (.str ((s.take n.toNat).drop m.toNat)) | _ => False
    | _ => False
  | _ => False
 | .arr n e => match dx, lo, hi with
  | .box i off, none, none => match Nat.ble n 1000000 with
   | true => tyK tb e fun ye => K (.bsl i off n ye.size)
   | false => False
  | _, _, _ => False
 | _ => False
inductive Lim : Option Value → Int → Int → Prop
  | none (d : Int) : Lim none d d
  | some (k : IntKind) (n d : Int) : Lim (some (.int k n)) d n
theorem jbx {P : Program} {t e : Nat} {ye : Ty} (hu : P.underlying t = some (.slice e)) (he : TyOk P e ye) {lo hi : Option Value} {m n : Int} {len cap : Nat} (a : Option Addr)
  (hlo : Lim lo 0 m) (hhi : Lim hi len n) (h0 : 0 ≤ m) (h1 : m ≤ n) (h2 : n ≤ cap) (w : World) :
  (Instr.sliceAt t (.slice a len cap) lo hi none).run P w = .ok (.slice (if cap = m.toNat then a else a.map (·.add (m.toNat * ye.size))) (n.toNat - m.toNat) (cap - m.toNat)) w := by
 have hb : (Instr.sliceBounds true len cap lo hi none).run P w = .ok (m.toNat, n.toNat, cap) w := by
  have e2 : ((n.toNat : Nat) : Int) = n := jig (by omega)
  have e0 : 0 ≤ n := by omega
  have e3 : m ≤ (n.toNat : Int) := by omega
  have b1 : ∀ k, (Instr.sliceBound (.int k n) cap .sliceAcap).run P w = .ok n.toNat w := fun k => run_sliceBound w k n _ _ e0 h2
  have b2 : ∀ k, (Instr.sliceBound (.int k m) n.toNat .sliceB).run P w = .ok m.toNat w := fun k => run_sliceBound w k m _ _ h0 e3
  rcases hlo with _ | ⟨_, _, _⟩ <;> rcases hhi with _ | ⟨_, _, _⟩ <;> (try simp only [jih] at b1 b2) <;> simp [Instr.sliceBounds, b1, b2]
 simp only [Instr.sliceAt, Instr.slice, Sem.run_bind, run_underlying hu, Result.andThen_ok, hb, he.sizeOf w, Sem.run_pure]
theorem jfY {P : Program} {t : Nat} (hu : P.underlying t = some .string) {lo hi : Option Value} {m n : Int} {s : ByteArray}
  (hlo : Lim lo 0 m) (hhi : Lim hi s.size n) (h0 : 0 ≤ m) (h1 : m ≤ n) (h2 : n ≤ s.size) (w : World) :
  (Instr.sliceAt t (.string s) lo hi none).run P w = .ok (.string (s.extract m.toNat n.toNat)) w := by
 have hb : (Instr.sliceBounds false s.size s.size lo hi none).run P w = .ok (m.toNat, n.toNat, s.size) w := by
  have e2 : ((n.toNat : Nat) : Int) = n := jig (by omega)
  have e0 : 0 ≤ n := by omega
  have e3 : m ≤ (n.toNat : Int) := by omega
  have b1 : ∀ k, (Instr.sliceBound (.int k n) s.size .sliceAlen).run P w = .ok n.toNat w := fun k => run_sliceBound w k n _ _ e0 h2
  have b2 : ∀ k, (Instr.sliceBound (.int k m) n.toNat .sliceB).run P w = .ok m.toNat w := fun k => run_sliceBound w k m _ _ h0 e3
  rcases hlo with _ | ⟨_, _, _⟩ <;> rcases hhi with _ | ⟨_, _, _⟩ <;> (try simp only [jih] at b1 b2) <;> simp [Instr.sliceBounds, b1, b2]
 simp only [Instr.sliceAt, Instr.slice, Sem.run_bind, run_underlying hu, Result.andThen_ok, hb, Sem.run_pure, Option.isSome_none, Bool.false_eq_true, if_false]
theorem jgP {E : Env} {h : Pub} {k : IntKind} {xs : List Int} {a : Option Addr} {cap m n : Nat} (h1 : m ≤ n) (h2 : n ≤ xs.length) {s : Nat} (hs : s = 1)
  (H : Den E h (.ints k xs) (.slice a xs.length cap)) : Den E h (.ints k ((xs.take n).drop m)) (.slice (if cap = m then a else a.map (·.add (m * s))) (n - m) (cap - m)) := by
 subst hs
 simp only [Den, jaK] at H ⊢
 obtain ⟨a', cap', he, h3, h4, h5, h6⟩ := H
 simp only [Value.slice.injEq, true_and] at he
 obtain ⟨rfl, rfl⟩ := he
 have hlen : ((xs.take n).drop m).length = n - m := by simp; omega
 refine ⟨_, _, by rw [hlen], by omega, by omega, fun z hz => h5 z (jiV (jiU hz)), ?_⟩
 cases a with
 | none =>
  obtain ⟨h7, h8⟩ := h6; subst h7; subst h8
  simp only [Option.map_none, ite_self]
  exact ⟨by simp, by omega⟩
 | some ad =>
  by_cases hc : cap = m
  ·rw [if_pos hc]
   refine ⟨h6.1, fun i z hz => ?_⟩
   have : i < ((xs.take n).drop m).length := (jiT.1 hz).1
   omega
  ·rw [if_neg hc]
   simp only [Option.map_some, Nat.mul_one]
   rw [jbK h6.1]
   refine ⟨rfl, fun i z hz => ?_⟩
   simp only [Nat.add_assoc]
   exact h6.2 _ _ (ja2 (by simpa using hz))
theorem jhF {E : Env} {h : Pub} {i off len : Nat} {ad : Addr} {cap m n : Nat} (h1 : m ≤ n) (h2 : n ≤ len) {s : Nat} (hs : s = 1)
  (H : Den E h (.osl i off len) (.slice (some ad) len cap)) : Den E h (.osl i (off + m) (n - m)) (.slice (if cap = m then some ad else (some ad).map (·.add (m * s))) (n - m) (cap - m)) := by
 subst hs
 simp only [Den] at H ⊢
 rcases H with ⟨_, H, _⟩ | ⟨hreal, o, cap', he, h3, h4, h5, h6, hkn⟩
 ·cases H
 simp only [Value.slice.injEq, true_and, Option.some.injEq] at he
 obtain ⟨rfl, rfl⟩ := he
 refine .inr ⟨hreal, ?_⟩
 split
 ·exact ⟨o, cap - m, rfl, by omega, by omega, by omega, by omega, by omega⟩
 ·refine ⟨o + m, cap - m, by simp [jaS], by omega, by omega, by omega, ?_, by omega⟩
  rcases h6 with rfl | h6
  ·exact .inl rfl
  ·omega
theorem jhE {E : Env} {h : Pub} {e q : Nat} {f : Nat → List D} {a : Option Addr} {cap m n : Nat} (h1 : m ≤ n) (h2 : n ≤ q) {s : Nat} (hs : e = s)
  (H : Den E h (.slf e q f) (.slice a q cap)) : Den E h (.slf e (n - m) fun j => f (j + m)) (.slice (if cap = m then a else a.map (·.add (m * s))) (n - m) (cap - m)) := by
 subst hs
 simp only [Den] at H ⊢
 obtain ⟨a', cap', he, h3, h4, h6⟩ := H
 simp only [Value.slice.injEq, true_and] at he
 obtain ⟨rfl, rfl⟩ := he
 refine ⟨_, _, rfl, by omega, by omega, ?_⟩
 cases a with
 | none =>
  obtain ⟨h7, h8⟩ := h6
  simp only [Option.map_none, ite_self]
  exact ⟨by omega, by omega⟩
 | some ad =>
  by_cases hc : cap = m
  ·rw [if_pos hc]
   exact ⟨h6.1, fun j hj => by omega⟩
  ·rw [if_neg hc]
   simp only [Option.map_some]
   rw [jbK h6.1]
   refine ⟨rfl, fun j hj => ?_⟩
   obtain ⟨vs, g1, g2, g3, g4⟩ := h6.2 (j + m) (by omega)
   refine ⟨vs, g1, g2, g3, fun i v hv => ?_⟩
   have := g4 i v hv
   rw [Nat.add_mul] at this
   simp only
   rw [show ad.off + m * e + j * e + i = ad.off + (j * e + m * e) + i by omega]
   exact this
theorem jhD {s : List UInt8} {m n : Nat} (_h2 : n ≤ s.length) : ((⟨s.toArray⟩ : ByteArray).extract m n) = ⟨((s.take n).drop m).toArray⟩ := by
 apply ByteArray.ext
 rw [ByteArray.data_extract]
 apply Array.toList_inj.1
 simp [List.drop_take]
theorem jaT {g : Prop} {L : Sl} {x : Operand} {K : Int → Prop} (h : rdg g L x fun r => match r with | .int _ n => K n | _ => False) :
  ∃ n, K n ∧ ∀ (E : Env) (hp : Pub) (a : Act), g → Den E hp (rd L x) (a.eval x) → ∃ k, a.eval x = .int k n := by
 obtain ⟨d, h1, h2⟩ := jar h
 split at h1
 ·rename_i k n
  refine ⟨n, h1, fun E hp a hg hd => ?_⟩
  have := h2 E hp a hg hd
  simp only [Den] at this
  exact ⟨_, this.1⟩
 ·exact h1.elim
theorem slice_el {P : Program} {tb : Tb} (htb : TbOk P tb) {g : Prop} {L : Sl} {t : Nat} {dx : D} {lo hi : Option Operand} {K : D → Prop} (hh : sliceK tb g L t dx lo hi K) :
  ∃ r, K r ∧ ∀ E h (a : Act) w v, (∀ x, Den E h (rd L x) (a.eval x)) → Den E h dx v → g → Gives P E h (Instr.sliceAt t v (lo.map a.eval) (hi.map a.eval) none) w r := by
 have hx := jak hh; clear hh; obtain ⟨y, hy, hh⟩ := hx
 have hty := htb _ _ hy
 split at hh
 ·rename_i e hk
  have hu := jaw hty hk
  have hx := jak hh; clear hh; obtain ⟨ye, hye, hh⟩ := hx
  have hte := htb _ _ hye
  cases hb : Nat.beq ye.size 1 with
  | false =>
   rw [hb] at hh
   cases dx with
   | slf e' q f =>
    dsimp only at hh
    cases hb2 : Nat.beq e' ye.size with
    | false => rw [hb2] at hh; exact hh.elim
    | true =>
     rw [hb2] at hh
     have hsz := jae hb2
     have fin : ∀ (m n : Int), 0 ≤ m → m ≤ n → n ≤ q → ∀ E h (w : World) v (lo hi : Option Value), Lim lo 0 m → Lim hi q n → Den E h (.slf e' q f) v →
       Gives P E h (Instr.sliceAt t v lo hi none) w (.slf e' (n.toNat - m.toNat) fun j => f (j + m.toNat)) := by
      intro m n h0 h1 h2 E h w v lo hi hlo hhi hv
      have hv' := hv
      simp only [Den] at hv
      obtain ⟨a, cap, rfl, h3, _⟩ := hv
      exact ⟨_, jbx hu hte a hlo hhi h0 h1 (by omega) w, jhE (by omega) (by omega) hsz hv'⟩
     cases lo with
     | none =>
      cases hi with
      | none => exact hh.elim
      | some b =>
       dsimp only at hh
       obtain ⟨n, hn, he⟩ := jaT hh
       refine ⟨_, hn.2, fun E h a w v hk hv hg => ?_⟩
       obtain ⟨h1, h2⟩ := hn.1 hg
       obtain ⟨k', hk'⟩ := he E h a hg (hk b)
       have := fin 0 n (by omega) h1 h2 E h w v none (some (a.eval b)) (.none _) (by rw [hk']; exact .some _ _ _) hv
       simpa using this
     | some b =>
      cases hi with
      | none =>
       dsimp only at hh
       obtain ⟨n, hn, he⟩ := jaT hh
       refine ⟨_, hn.2, fun E h a w v hk hv hg => ?_⟩
       obtain ⟨h1, h2⟩ := hn.1 hg
       obtain ⟨k', hk'⟩ := he E h a hg (hk b)
       have := fin n q h1 h2 (by omega) E h w v (some (a.eval b)) none (by rw [hk']; exact .some _ _ _) (.none _) hv
       simpa using this
      | some c =>
       dsimp only at hh
       obtain ⟨m, hm, hem⟩ := jaT hh
       obtain ⟨n, hn, he⟩ := jaT hm
       refine ⟨_, hn.2, fun E h a w v hk hv hg => ?_⟩
       obtain ⟨h1, h2, h3⟩ := hn.1 hg
       obtain ⟨k', hk'⟩ := hem E h a hg (hk b)
       obtain ⟨k2, hk2⟩ := he E h a hg (hk c)
       exact fin m n h1 h2 h3 E h w v (some (a.eval b)) (some (a.eval c)) (by rw [hk']; exact .some _ _ _) (by rw [hk2]; exact .some _ _ _) hv
   | _ => exact hh.elim
  | true =>
   rw [hb] at hh
   have hsz := jae hb
   have fin : ∀ (k : IntKind) (xs : List Int) (m n : Int), 0 ≤ m → m ≤ n → n ≤ xs.length → ∀ E h (w : World) v (lo hi : Option Value), Lim lo 0 m → Lim hi xs.length n → Den E h (.ints k xs) v →
     Gives P E h (Instr.sliceAt t v lo hi none) w (.ints k ((xs.take n.toNat).drop m.toNat)) := by
    intro k xs m n h0 h1 h2 E h w v lo hi hlo hhi hv
    have hv' := hv
    simp only [Den, jaK] at hv
    obtain ⟨a, cap, rfl, h3, _⟩ := hv
    exact ⟨_, jbx hu hte a hlo hhi h0 h1 (by omega) w, jgP (by omega) (by omega) hsz hv'⟩
   have fino : ∀ (i off len : Nat) (m n : Int), 0 ≤ m → m ≤ n → n ≤ len → ∀ E h (w : World) v (lo hi : Option Value), Lim lo 0 m → Lim hi len n → Den E h (.osl i off len) v →
     Gives P E h (Instr.sliceAt t v lo hi none) w (.osl i (off + m.toNat) (n.toNat - m.toNat)) := by
    intro i off len m n h0 h1 h2 E h w v lo hi hlo hhi hv
    have hv' := hv
    simp only [Den] at hv
    rcases hv with ⟨hr, rfl, rfl⟩ | ⟨hr, o, cap, rfl, h3, _⟩
    ·refine ⟨_, jbx hu hte none hlo hhi h0 h1 (by omega) w, ?_⟩
     simp only [Den]
     refine .inl ⟨hr, ?_, by omega⟩
     have : n.toNat - m.toNat = 0 := by omega
     simp [this]
    ·exact ⟨_, jbx hu hte _ hlo hhi h0 h1 (by omega) w, jhF (by omega) (by omega) hsz hv'⟩
   cases dx with
   | ints k xs =>
    cases lo with
    | none =>
     cases hi with
     | none =>
      dsimp only at hh
      refine ⟨_, hh, fun E h a w v hk hv hg => ?_⟩
      have := fin k xs 0 xs.length (by omega) (by omega) (by omega) E h w v none none (.none _) (.none _) hv
      simpa using this
     | some b =>
      dsimp only at hh
      obtain ⟨n, hn, he⟩ := jaT hh
      refine ⟨_, hn.2, fun E h a w v hk hv hg => ?_⟩
      obtain ⟨h1, h2⟩ := hn.1 hg
      obtain ⟨k', hk'⟩ := he E h a hg (hk b)
      have := fin k xs 0 n (by omega) h1 h2 E h w v none (some (a.eval b)) (.none _) (by rw [hk']; exact .some _ _ _) hv
      simpa using this
    | some b =>
     cases hi with
     | none =>
      dsimp only at hh
      obtain ⟨n, hn, he⟩ := jaT hh
      refine ⟨_, hn.2, fun E h a w v hk hv hg => ?_⟩
      obtain ⟨h1, h2⟩ := hn.1 hg
      obtain ⟨k', hk'⟩ := he E h a hg (hk b)
      have := fin k xs n xs.length h1 h2 (by omega) E h w v (some (a.eval b)) none (by rw [hk']; exact .some _ _ _) (.none _) hv
      simpa using this
     | some c =>
      dsimp only at hh
      obtain ⟨m, hm, hem⟩ := jaT hh
      obtain ⟨n, hn, he⟩ := jaT hm
      refine ⟨_, hn.2, fun E h a w v hk hv hg => ?_⟩
      obtain ⟨h1, h2, h3⟩ := hn.1 hg
      obtain ⟨k', hk'⟩ := hem E h a hg (hk b)
      obtain ⟨k2, hk2⟩ := he E h a hg (hk c)
      exact fin k xs m n h1 h2 h3 E h w v (some (a.eval b)) (some (a.eval c)) (by rw [hk']; exact .some _ _ _) (by rw [hk2]; exact .some _ _ _) hv
   | osl i off len =>
    cases lo with
    | none =>
     cases hi with
     | none =>
      dsimp only at hh
      refine ⟨_, hh, fun E h a w v hk hv hg => ?_⟩
      have := fino i off len 0 len (by omega) (by omega) (by omega) E h w v none none (.none _) (.none _) hv
      simpa using this
     | some b =>
      dsimp only at hh
      obtain ⟨n, hn, he⟩ := jaT hh
      refine ⟨_, hn.2, fun E h a w v hk hv hg => ?_⟩
      obtain ⟨h1, h2⟩ := hn.1 hg
      obtain ⟨k', hk'⟩ := he E h a hg (hk b)
      have := fino i off len 0 n (by omega) h1 h2 E h w v none (some (a.eval b)) (.none _) (by rw [hk']; exact .some _ _ _) hv
      simpa using this
    | some b =>
     cases hi with
     | none =>
      dsimp only at hh
      obtain ⟨n, hn, he⟩ := jaT hh
      refine ⟨_, hn.2, fun E h a w v hk hv hg => ?_⟩
      obtain ⟨h1, h2⟩ := hn.1 hg
      obtain ⟨k', hk'⟩ := he E h a hg (hk b)
      have := fino i off len n len h1 h2 (by omega) E h w v (some (a.eval b)) none (by rw [hk']; exact .some _ _ _) (.none _) hv
      simpa using this
     | some c =>
      dsimp only at hh
      obtain ⟨m, hm, hem⟩ := jaT hh
      obtain ⟨n, hn, he⟩ := jaT hm
      refine ⟨_, hn.2, fun E h a w v hk hv hg => ?_⟩
      obtain ⟨h1, h2, h3⟩ := hn.1 hg
      obtain ⟨k', hk'⟩ := hem E h a hg (hk b)
      obtain ⟨k2, hk2⟩ := he E h a hg (hk c)
      exact fino i off len m n h1 h2 h3 E h w v (some (a.eval b)) (some (a.eval c)) (by rw [hk']; exact .some _ _ _) (by rw [hk2]; exact .some _ _ _) hv
   | _ => exact hh.elim
 ·rename_i hk
  have hu := jel hty hk
  cases dx with
  | str s =>
   have fin : ∀ (m n : Int), 0 ≤ m → m ≤ n → n ≤ s.length → ∀ E h (w : World) v (lo hi : Option Value), Lim lo 0 m → Lim hi s.length n → Den E h (.str s) v →
     Gives P E h (Instr.sliceAt t v lo hi none) w (.str ((s.take n.toNat).drop m.toNat)) := by
    intro m n h0 h1 h2 E h w v lo hi hlo hhi hv
    simp only [Den] at hv
    obtain ⟨rfl, h3⟩ := hv
    have hsz : (⟨s.toArray⟩ : ByteArray).size = s.length := by show s.toArray.size = _; simp
    have hhi' : Lim hi ((⟨s.toArray⟩ : ByteArray).size : Nat) n := by rw [hsz]; exact hhi
    refine ⟨_, jfY hu hlo hhi' h0 h1 (by omega) w, ?_⟩
    rw [jhD (by omega)]
    simp only [Den]
    refine ⟨trivial, ?_⟩
    simp; omega
   cases lo with
   | none =>
    cases hi with
    | none =>
     dsimp only at hh
     refine ⟨_, hh, fun E h a w v hk hv hg => ?_⟩
     have := fin  0 s.length (by omega) (by omega) (by omega) E h w v none none (.none _) (.none _) hv
     simpa using this
    | some b =>
     dsimp only at hh
     obtain ⟨n, hn, he⟩ := jaT hh
     refine ⟨_, hn.2, fun E h a w v hk hv hg => ?_⟩
     obtain ⟨h1, h2⟩ := hn.1 hg
     obtain ⟨k', hk'⟩ := he E h a hg (hk b)
     have := fin  0 n (by omega) h1 h2 E h w v none (some (a.eval b)) (.none _) (by rw [hk']; exact .some _ _ _) hv
     simpa using this
   | some b =>
    cases hi with
    | none =>
     dsimp only at hh
     obtain ⟨n, hn, he⟩ := jaT hh
     refine ⟨_, hn.2, fun E h a w v hk hv hg => ?_⟩
     obtain ⟨h1, h2⟩ := hn.1 hg
     obtain ⟨k', hk'⟩ := he E h a hg (hk b)
     have := fin  n s.length h1 h2 (by omega) E h w v (some (a.eval b)) none (by rw [hk']; exact .some _ _ _) (.none _) hv
     simpa using this
    | some c =>
     dsimp only at hh
     obtain ⟨m, hm, hem⟩ := jaT hh
     obtain ⟨n, hn, he⟩ := jaT hm
     refine ⟨_, hn.2, fun E h a w v hk hv hg => ?_⟩
     obtain ⟨h1, h2, h3⟩ := hn.1 hg
     obtain ⟨k', hk'⟩ := hem E h a hg (hk b)
     obtain ⟨k2, hk2⟩ := he E h a hg (hk c)
     exact fin  m n h1 h2 h3 E h w v (some (a.eval b)) (some (a.eval c)) (by rw [hk']; exact .some _ _ _) (by rw [hk2]; exact .some _ _ _) hv
  | _ => exact hh.elim
 ·rename_i n e hk
  have hu := jcm hty hk
  split at hh
  case h_2 => exact hh.elim
  rename_i i off
  cases hb : Nat.ble n 1000000 with
  | false => rw [hb] at hh; exact hh.elim
  | true =>
   rw [hb] at hh
   have hn := jia hb
   have hx := jak hh; clear hh; obtain ⟨ye, hye, hh⟩ := hx
   have hte := htb _ _ hye
   refine ⟨_, hh, fun E h a w v hk hv hg => ?_⟩
   simp only [Den] at hv
   obtain ⟨rfl, hr⟩ := hv
   refine ⟨.slice (some ⟨E.blk i, off, none⟩) n n, ?_, by simp only [Den]; exact ⟨hr, n, rfl, jii _, by omega, .inl rfl⟩⟩
   simp only [Option.map_none, Instr.sliceAt, Sem.run_bind, run_underlying hu, Result.andThen_ok, Instr.sureAddr, Sem.run_pure, Instr.sliceBounds, hte.sizeOf w]
   simp [Addr.add]
 ·exact hh.elim
end Go.V
end
