/- Laws of a small interpreter over plain values, part 1. No condition. -/
import Derived.WalkKit
import Derived.WalkSpells
import Derived.WalkLawsBesides
import Derived.RangeFuncNested
import Derived.ChangeKeysEq
set_option linter.unusedSimpArgs false
set_option linter.unusedVariables false
set_option maxHeartbeats 8000000
set_option maxRecDepth 100000
namespace Go
theorem jh9 : type_of% @Bool.and_eq_true := @Bool.and_eq_true
theorem jia : type_of% @Nat.le_of_ble_eq_true := @Nat.le_of_ble_eq_true
theorem jib : type_of% @Nat.zero_le := @Nat.zero_le
theorem jic : type_of% @Int.emod_nonneg := @Int.emod_nonneg
theorem jid : type_of% @Int.emod_add_mul_ediv := @Int.emod_add_mul_ediv
theorem jie : type_of% @Int.mul_nonneg := @Int.mul_nonneg
theorem jif : type_of% @Nat.zero_add := @Nat.zero_add
theorem jig : type_of% @Int.toNat_of_nonneg := @Int.toNat_of_nonneg
theorem jih : type_of% @Int.toNat_natCast := @Int.toNat_natCast
theorem jii : type_of% @Nat.le_refl := @Nat.le_refl
theorem jij : type_of% @Nat.eq_zero_or_pos := @Nat.eq_zero_or_pos
theorem jik : type_of% @Nat.mod_lt := @Nat.mod_lt
theorem jil : type_of% @Nat.mul_comm := @Nat.mul_comm
theorem jim : type_of% @Nat.mod_eq_of_lt := @Nat.mod_eq_of_lt
theorem jin : type_of% @Int.mul_le_mul_of_nonneg_right := @Int.mul_le_mul_of_nonneg_right
theorem jio : type_of% @Nat.lt_of_lt_of_le := @Nat.lt_of_lt_of_le
theorem jip : type_of% @Nat.lt_or_ge := @Nat.lt_or_ge
theorem jiq : type_of% @Nat.le_trans := @Nat.le_trans
theorem jir : type_of% @Bool.or_eq_false_iff := @Bool.or_eq_false_iff
theorem jis : type_of% @Int.natCast_mul := @Int.natCast_mul
theorem jit : type_of% @Int.mul_add := @Int.mul_add
theorem jiu : type_of% @Int.mul_comm := @Int.mul_comm
theorem jiv : type_of% @Int.mul_assoc := @Int.mul_assoc
theorem jiw : type_of% @Int.mul_le_mul_of_nonneg_left := @Int.mul_le_mul_of_nonneg_left
theorem jix : type_of% @Int.natAbs_natCast := @Int.natAbs_natCast
theorem jiy : type_of% @Nat.pow_le_pow_right := @Nat.pow_le_pow_right
theorem jiz : type_of% @Nat.div_le_self := @Nat.div_le_self
theorem jiA : type_of% @Int.emod_lt_of_pos := @Int.emod_lt_of_pos
theorem jiB : type_of% @Int.add_zero := @Int.add_zero
theorem jiC : type_of% @Int.natCast_pow := @Int.natCast_pow
theorem jiD : type_of% @Int.add_mul := @Int.add_mul
theorem jiE : type_of% @Int.one_mul := @Int.one_mul
theorem jiF : type_of% @Int.sign_eq_neg_one_of_neg := @Int.sign_eq_neg_one_of_neg
theorem jiG : type_of% @Int.sign_eq_one_of_pos := @Int.sign_eq_one_of_pos
theorem jiH : type_of% @Rat.num_divInt_den := @Rat.num_divInt_den
theorem jiI : type_of% @List.all_eq_true.{0} := @List.all_eq_true.{0}
theorem jiJ : type_of% @List.getD_eq_getElem?_getD.{0} := @List.getD_eq_getElem?_getD.{0}
theorem jiK : type_of% @List.length_eq_zero_iff.{0} := @List.length_eq_zero_iff.{0}
theorem jiL : type_of% @List.mem_cons.{0} := @List.mem_cons.{0}
theorem jiM : type_of% @List.getElem?_eq_getElem.{0} := @List.getElem?_eq_getElem.{0}
theorem jiN : type_of% @List.getElem_mem.{0} := @List.getElem_mem.{0}
theorem jiO : type_of% @List.mem_of_getElem?.{0} := @List.mem_of_getElem?.{0}
theorem jiP : type_of% @List.length_append.{0} := @List.length_append.{0}
theorem jiQ : type_of% @List.length_take.{0} := @List.length_take.{0}
theorem jiR : type_of% @List.append_assoc.{0} := @List.append_assoc.{0}
theorem jiS : type_of% @List.getElem?_append_left.{0} := @List.getElem?_append_left.{0}
theorem jiT : type_of% @List.getElem?_eq_some_iff.{0} := @List.getElem?_eq_some_iff.{0}
theorem jiU : type_of% @List.mem_of_mem_drop.{0} := @List.mem_of_mem_drop.{0}
theorem jiV : type_of% @List.mem_of_mem_take.{0} := @List.mem_of_mem_take.{0}
theorem jiW : type_of% @List.take_append_of_le_length.{0} := @List.take_append_of_le_length.{0}
theorem jiX : type_of% @List.drop_append_of_le_length.{0} := @List.drop_append_of_le_length.{0}
theorem jiY : type_of% @List.length_cons.{0} := @List.length_cons.{0}
theorem jiZ : type_of% @List.take_of_length_le.{0} := @List.take_of_length_le.{0}
theorem ji0 : type_of% @List.drop_of_length_le.{0} := @List.drop_of_length_le.{0}
theorem ji1 : type_of% @List.getElem?_toArray.{0} := @List.getElem?_toArray.{0}
theorem ji2 : type_of% @List.drop_eq_getElem_cons.{0} := @List.drop_eq_getElem_cons.{0}
theorem ji3 : type_of% @List.drop_zero.{0} := @List.drop_zero.{0}
theorem ji4 : type_of% @List.mem_filter.{0} := @List.mem_filter.{0}
theorem ji5 : type_of% @List.getElem?_eq_none.{0} := @List.getElem?_eq_none.{0}
theorem ji6 : type_of% @List.length_set.{0} := @List.length_set.{0}
theorem ji7 : type_of% @List.length_drop.{0} := @List.length_drop.{0}
theorem ji8 : type_of% @List.getElem?_take_of_lt.{0} := @List.getElem?_take_of_lt.{0}
theorem ji9 : type_of% @List.take_add_one.{0} := @List.take_add_one.{0}
theorem jja : type_of% @List.take_length.{0} := @List.take_length.{0}
end Go
section
namespace Go.V
open Go
def glb : List (Nat × List Value) :=
 [(2, [.int .u64 1, .int .u64 10, .int .u64 100, .int .u64 1000, .int .u64 10000, .int .u64 100000, .int .u64 1000000, .int .u64 10000000, .int .u64 100000000, .int .u64 1000000000, .int .u64 10000000000, .int .u64 100000000000, .int .u64 1000000000000, .int .u64 10000000000000, .int .u64 100000000000000, .int .u64 1000000000000000, .int .u64 10000000000000000, .int .u64 100000000000000000, .int .u64 1000000000000000000, .int .u64 10000000000000000000])]
def glbE : List Nat := [1]
end Go.V
end
section
namespace Go.V
open Go Go.RowKit
def lo : IntKind → Int
 | .i8 => -128 | .i16 => -32768 | .i32 => -2147483648 | .i64 => -9223372036854775808 | _ => 0
def hi : IntKind → Int
 | .i8 => 127 | .i16 => 32767 | .i32 => 2147483647 | .i64 => 9223372036854775807
 | .u8 => 255 | .u16 => 65535 | .u32 => 4294967295 | .u64 => 18446744073709551615
def InR (k : IntKind) (n : Int) : Prop := lo k ≤ n ∧ n ≤ hi k
theorem jbG {k : IntKind} {n : Int} (h : InR k n) : k.wrap n = n := by
 obtain ⟨h1, h2⟩ := h
 cases k <;> simp only [lo, hi] at h1 h2 <;> simp [IntKind.wrap, IntKind.signed, IntKind.bits] <;> omega
inductive D where
  | any
  | undef
  | bool (b : Bool)
  | int (k : IntKind) (n : Int)
  | str (s : List UInt8)
  | nil
  | ints (k : IntKind) (xs : List Int)
  | slf (e n : Nat) (f : Nat → List D)
  | iarr (k : IntKind) (xs : List Int)
  | agg (ds : List D)
  | tup (ds : List D)
  | fn (f : Nat) (first caps : List D)
  | ref (ds : List D)
  | box (i off : Nat)
  | osl (i off len : Nat)
  | bsl (i off len e : Nat)
  | gd (c : Bool) (d : D)
  | gp (g : Nat)
  | yld (i : Nat)
  | val (v : Value)
  | anyb (p : Bool → Prop)
inductive Chunk where
  | box (ds : List D)
  | arr (k : IntKind) (xs : List Int)
  | gone
  /-- the record of a loop over a function, between its rounds: what it is to do next, if a round has left the loop -/
  | lp (p : Option Code)
abbrev Pub := Nat → Nat → Option Value
structure Env where
 blk : Nat → Nat
 siz : Nat → Nat
 kn : Nat → Nat
 real : Nat → Bool
 lpr : Nat → Option Loop
def Env.dummy : Env := ⟨fun _ => 0, fun _ => 0, fun _ => 0, fun _ => false, fun _ => none⟩
def jaK (h : Pub) (k : IntKind) (xs : List Int) (v : Value) : Prop :=
 ∃ a cap, v = .slice a xs.length cap ∧ xs.length ≤ cap ∧ xs.length ≤ 281474976710656 ∧ (∀ n ∈ xs, InR k n) ∧
  match a with
  | none => xs = [] ∧ cap = 0
  | some ad => ad.spot = none ∧ ∀ (i : Nat) (n : Int), xs[i]? = some n → h ad.block (ad.off + i) = some (.int k n)
mutual
def Den (E : Env) (h : Pub) : D → Value → Prop
 | .any, _ => True
 | .undef, v => v = Go.undef
 | .bool b, v => v = .bool b
 | .int k n, v => v = .int k n ∧ InR k n
 | .str s, v => v = .string ⟨s.toArray⟩ ∧ s.length ≤ 281474976710656
 | .nil, v => v = .slice none 0 0
 | .ints k xs, v => jaK h k xs v
 | .slf e n f, v => ∃ a cap, v = .slice a n cap ∧ n ≤ cap ∧ n ≤ 281474976710656 ∧
   match a with
   | none => n = 0 ∧ cap = 0
   | some ad => ad.spot = none ∧ ∀ j, j < n → ∃ vs, DenL Env.dummy h (f j) vs ∧ vs.length = e ∧ (∀ v ∈ vs, v.oneCell' = true) ∧ ∀ (i : Nat) v, vs[i]? = some v → h ad.block (ad.off + j * e + i) = some v
 | .iarr k xs, v => v = .agg (xs.map (Value.int k)).toArray ∧ (∀ n ∈ xs, InR k n)
 | .agg ds, v => ∃ vs, v = .agg vs.toArray ∧ DenL E h ds vs ∧ (∀ v ∈ vs, v.oneCell' = true)
 | .tup ds, v => ∃ vs, v = .tuple vs.toArray ∧ DenL E h ds vs
 | .fn f first caps, v => ∃ us vs, v = .func (.func f) us.toArray vs.toArray ∧ DenL E h first us ∧ DenL E h caps vs
 | .ref ds, v => ∃ b o, v = .pointer (some ⟨b, o, none⟩) ∧ ∃ vs, DenL E h ds vs ∧ (∀ v ∈ vs, v.oneCell' = true) ∧ ∀ (i : Nat) v, vs[i]? = some v → h b (o + i) = some v
 | .box i off, v => v = .pointer (some ⟨E.blk i, off, none⟩) ∧ E.real i = true
 | .osl i off len, v => (E.real i = false ∧ v = .slice none 0 0 ∧ len = 0) ∨
   (E.real i = true ∧ ∃ o cap, v = .slice (some ⟨E.blk i, o, none⟩) len cap ∧ len ≤ cap ∧ o + cap ≤ E.siz i ∧ len ≤ 281474976710656 ∧ (o = off ∨ cap = 0) ∧ off + len ≤ E.kn i)
 | .bsl i off len e, v => E.real i = true ∧ ∃ cap, v = .slice (some ⟨E.blk i, off, none⟩) len cap ∧ len ≤ cap ∧ len ≤ 281474976710656 ∧ (cap = len ∨ (off = 0 ∧ cap * e ≤ E.siz i))
 | .gd c d, v => (c = true → Den E h d v) ∧ (c = false → v = Go.undef)
 | .gp g, v => v = .pointer (some ⟨g, 0, none⟩)
 | .yld i, v => v = .func (.yield (E.blk i)) #[] #[]
 | .val u, v => v = u
 | .anyb p, v => ∃ b, v = .bool b ∧ p b
def DenL (E : Env) (h : Pub) : List D → List Value → Prop
 | [], vs => vs = []
 | d :: ds, vs => ∃ v vs', vs = v :: vs' ∧ Den E h d v ∧ DenL E h ds vs'
end
def Pub.Le (h h' : Pub) : Prop := ∀ b o v, h b o = some v → h' b o = some v
theorem Pub.Le.refl (h : Pub) : h.Le h := fun _ _ _ e => e
theorem Pub.Le.trans {a b c : Pub} (h : a.Le b) (k : b.Le c) : a.Le c := fun _ _ _ e => k _ _ _ (h _ _ _ e)
mutual
theorem Den.mono {E : Env} {h h' : Pub} (hh : h.Le h') : ∀ {d : D} {v : Value}, Den E h d v → Den E h' d v
 | .any, _, _ => by simp [Den]
 | .undef, _, H => by simpa [Den] using H
 | .bool _, _, H => by simpa [Den] using H
 | .int _ _, _, H => by simpa [Den] using H
 | .str _, _, H => by simpa [Den] using H
 | .nil, _, H => by simpa [Den] using H
 | .ints k xs, v, H => by
  simp only [Den, jaK] at H ⊢
  obtain ⟨a, cap, h1, h2, h2', h3, h4⟩ := H
  refine ⟨a, cap, h1, h2, h2', h3, ?_⟩
  cases a with
  | none => exact h4
  | some ad => exact ⟨h4.1, fun i n hn => hh _ _ _ (h4.2 i n hn)⟩
 | .slf e n f, v, H => by
  simp only [Den] at H ⊢
  obtain ⟨a, cap, h1, h2, h3, h4⟩ := H
  refine ⟨a, cap, h1, h2, h3, ?_⟩
  cases a with
  | none => exact h4
  | some ad =>
   refine ⟨h4.1, fun j hj => ?_⟩
   obtain ⟨vs, h5, h6, h7, h8⟩ := h4.2 j hj
   exact ⟨vs, DenL.mono hh h5, h6, h7, fun i v hv => hh _ _ _ (h8 i v hv)⟩
 | .iarr _ _, _, H => by simpa [Den] using H
 | .agg ds, v, H => by
  simp only [Den] at H ⊢
  obtain ⟨vs, h1, h2, h3⟩ := H
  exact ⟨vs, h1, DenL.mono hh h2, h3⟩
 | .tup ds, v, H => by
  simp only [Den] at H ⊢
  obtain ⟨vs, h1, h2⟩ := H
  exact ⟨vs, h1, DenL.mono hh h2⟩
 | .fn f first caps, v, H => by
  simp only [Den] at H ⊢
  obtain ⟨us, vs, h1, h2, h3⟩ := H
  exact ⟨us, vs, h1, DenL.mono hh h2, DenL.mono hh h3⟩
 | .ref ds, v, H => by
  simp only [Den] at H ⊢
  obtain ⟨b, o, h1, vs, h2, h3, h4⟩ := H
  exact ⟨b, o, h1, vs, DenL.mono hh h2, h3, fun i n hn => hh _ _ _ (h4 i n hn)⟩
 | .box _ _, _, H => by simpa [Den] using H
 | .osl _ _ _, _, H => by simpa [Den] using H
 | .bsl _ _ _ _, _, H => by simpa [Den] using H
 | .gd c d, v, H => by
  simp only [Den] at H ⊢
  exact ⟨fun hc => Den.mono hh (H.1 hc), H.2⟩
 | .gp _, _, H => by simpa [Den] using H
 | .yld _, _, H => by simpa [Den] using H
 | .val _, _, H => by simpa [Den] using H
 | .anyb _, _, H => by simpa [Den] using H
theorem DenL.mono {E : Env} {h h' : Pub} (hh : h.Le h') : ∀ {ds : List D} {vs : List Value}, DenL E h ds vs → DenL E h' ds vs
 | [], _, H => by simpa [DenL] using H
 | d :: ds, vs, H => by
  simp only [DenL] at H ⊢
  obtain ⟨v, vs', h1, h2, h3⟩ := H
  exact ⟨v, vs', h1, Den.mono hh h2, DenL.mono hh h3⟩
end
mutual
def D.free (i : Nat) : D → Bool
 | .any | .undef | .bool _ | .int _ _ | .str _ | .nil | .ints _ _ | .gp _ | .slf _ _ _ | .iarr _ _ | .val _ | .anyb _ => true
 | .yld j => match Nat.beq i j with | true => false | false => true
 | .agg ds | .tup ds | .ref ds => D.freeL i ds
 | .fn _ es ds => match D.freeL i es with | true => D.freeL i ds | false => false
 | .box j _ => match Nat.beq i j with | true => false | false => true
 | .osl j _ _ => match Nat.beq i j with | true => false | false => true
 | .bsl j _ _ _ => match Nat.beq i j with | true => false | false => true
 | .gd _ d => D.free i d
def D.freeL (i : Nat) : List D → Bool
 | [] => true
 | d :: ds => match D.free i d with | true => D.freeL i ds | false => false
end
def Env.off (E E' : Env) (i : Nat) : Prop := ∀ j, j ≠ i → E'.blk j = E.blk j ∧ E'.siz j = E.siz j ∧ E'.kn j = E.kn j ∧ E'.real j = E.real j ∧ E'.lpr j = E.lpr j
theorem jaP {i j : Nat} (h : (match Nat.beq i j with | true => false | false => true) = true) : j ≠ i := by
 intro e; subst e
 rw [Nat.beq_refl] at h; simp at h
mutual
theorem Den.env {E E' : Env} {h : Pub} {i : Nat} (he : E.off E' i) : ∀ {d : D} {v : Value}, d.free i = true → Den E h d v → Den E' h d v
 | .any, _, _, _ => by simp [Den]
 | .undef, _, _, H => by simpa [Den] using H
 | .bool _, _, _, H => by simpa [Den] using H
 | .int _ _, _, _, H => by simpa [Den] using H
 | .str _, _, _, H => by simpa [Den] using H
 | .nil, _, _, H => by simpa [Den] using H
 | .ints k xs, v, _, H => by simpa [Den] using H
 | .slf _ _ _, _, _, H => by simpa [Den] using H
 | .iarr _ _, _, _, H => by simpa [Den] using H
 | .agg ds, v, F, H => by
  simp only [Den] at H ⊢
  simp only [D.free] at F
  obtain ⟨vs, h1, h2, h3⟩ := H
  exact ⟨vs, h1, DenL.env he F h2, h3⟩
 | .tup ds, v, F, H => by
  simp only [Den] at H ⊢
  simp only [D.free] at F
  obtain ⟨vs, h1, h2⟩ := H
  exact ⟨vs, h1, DenL.env he F h2⟩
 | .fn f first caps, v, F, H => by
  simp only [Den] at H ⊢
  simp only [D.free] at F
  obtain ⟨us, vs, h1, h2, h3⟩ := H
  cases hd : D.freeL i first with
  | false => rw [hd] at F; simp at F
  | true => rw [hd] at F; exact ⟨us, vs, h1, DenL.env he hd h2, DenL.env he F h3⟩
 | .ref ds, v, F, H => by
  simp only [Den] at H ⊢
  simp only [D.free] at F
  obtain ⟨b, o, h1, vs, h2, h3, h4⟩ := H
  exact ⟨b, o, h1, vs, DenL.env he F h2, h3, h4⟩
 | .box j _, _, F, H => by
  simp only [Den] at H ⊢
  simp only [D.free] at F
  rw [(he j (jaP F)).1, (he j (jaP F)).2.2.2.1]; exact H
 | .osl j _ _, _, F, H => by
  simp only [Den] at H ⊢
  simp only [D.free] at F
  rw [(he j (jaP F)).1, (he j (jaP F)).2.1, (he j (jaP F)).2.2.1, (he j (jaP F)).2.2.2.1]; exact H
 | .bsl j _ _ _, _, F, H => by
  simp only [Den] at H ⊢
  simp only [D.free] at F
  rw [(he j (jaP F)).1, (he j (jaP F)).2.1, (he j (jaP F)).2.2.2.1]; exact H
 | .gd c d, v, F, H => by
  simp only [Den] at H ⊢
  simp only [D.free] at F
  exact ⟨fun hc => Den.env he F (H.1 hc), H.2⟩
 | .gp _, _, _, H => by simpa [Den] using H
 | .val _, _, _, H => by simpa [Den] using H
 | .anyb _, _, _, H => by simpa [Den] using H
 | .yld j, _, F, H => by
  simp only [Den] at H ⊢
  simp only [D.free] at F
  rw [(he j (jaP F)).1]; exact H
theorem DenL.env {E E' : Env} {h : Pub} {i : Nat} (he : E.off E' i) : ∀ {ds : List D} {vs : List Value}, D.freeL i ds = true → DenL E h ds vs → DenL E' h ds vs
 | [], _, _, H => by simpa [DenL] using H
 | d :: ds, vs, F, H => by
  simp only [DenL] at H ⊢
  simp only [D.freeL] at F
  obtain ⟨v, vs', h1, h2, h3⟩ := H
  cases hd : D.free i d with
  | false => rw [hd] at F; simp at F
  | true => rw [hd] at F; exact ⟨v, vs', h1, Den.env he hd h2, DenL.env he F h3⟩
end
abbrev Sl := List (Nat × D)
abbrev Hp := List (Nat × Chunk)
def look : Sl → Nat → D
 | [], _ => .any
 | (s, d) :: L, t => match Nat.beq s t with | true => d | false => look L t
def lookH : Hp → Nat → Option Chunk
 | [], _ => none
 | (s, c) :: H, i => match Nat.beq s i with | true => some c | false => lookH H i
theorem jaI (s : Nat) (d : D) (L : Sl) (t : Nat) : look ((s, d) :: L) t = if s = t then d else look L t := by
 rw [look]
 by_cases h : s = t
 ·subst h; simp [Nat.beq_refl]
 ·have : Nat.beq s t = false := by
   cases hb : Nat.beq s t with
   | false => rfl
   | true => exact absurd (Nat.eq_of_beq_eq_true hb) h
  simp [this, h]
theorem jag (s : Nat) (c : Chunk) (H : Hp) (i : Nat) : lookH ((s, c) :: H) i = if s = i then some c else lookH H i := by
 rw [lookH]
 by_cases h : s = i
 ·subst h; simp [Nat.beq_refl]
 ·have : Nat.beq s i = false := by
   cases hb : Nat.beq s i with
   | false => rfl
   | true => exact absurd (Nat.eq_of_beq_eq_true hb) h
  simp [this, h]
def lpRec (r : Loop) (p : Option Code) : Loop := { r with state := if p.isNone then .ready else .done, pending := p }
def ChunkOk (E : Env) (h : Pub) (w : World) (i : Nat) : Chunk → Prop
 | .gone => True
 | .lp p => E.real i = true ∧ ∃ r, E.lpr i = some r ∧ w.heap[E.blk i]? = some (.loop (lpRec r p))
 | .box ds => E.real i = true ∧ ∃ vs rest T, w.heap[E.blk i]? = some (.cells (vs ++ rest).toArray T (0, 0)) ∧ DenL E h ds vs ∧ (∀ v ∈ vs, v.oneCell' = true) ∧ E.siz i = vs.length + rest.length
 | .arr k xs => (E.real i = false ∧ xs = []) ∨ (E.real i = true ∧ ∃ (rest : List Value) (T : TypeId), w.heap[E.blk i]? = some (.cells (xs.map (Value.int k) ++ rest).toArray T (0, 0)) ∧ E.siz i = xs.length + rest.length ∧ (∀ n ∈ xs, InR k n) ∧ E.kn i = xs.length)
def Chunk.cel : Chunk → Bool
 | .gone => false
 | .lp _ => false
 | _ => true
def Chunk.live : Chunk → Bool
 | .gone => false
 | _ => true
theorem Chunk.live_of_cel {c : Chunk} (h : c.cel = true) : c.live = true := by cases c <;> first | rfl | cases h
structure MemOk (B : Nat) (E : Env) (h : Pub) (w : World) (H : Hp) : Prop where
 ok : ∀ i c, lookH H i = some c → ChunkOk E h w i c
 base : ∀ i c, lookH H i = some c → c.live = true → E.real i = true → B ≤ E.blk i
 unpub : ∀ i c, lookH H i = some c → c.live = true → E.real i = true → ∀ o, h (E.blk i) o = none
 inj : ∀ i j c c', i ≠ j → lookH H i = some c → lookH H j = some c' → c.live = true → c'.live = true → E.real i = true → E.real j = true → E.blk i ≠ E.blk j
def GlOk (h : Pub) : Prop := ∀ g vs, (g, vs) ∈ glb → ∀ (i : Nat) v, vs[i]? = some v → h g i = some v
theorem GlOk.mono {h h' : Pub} (H : GlOk h) (hh : h.Le h') : GlOk h' := fun g vs hg i v hv => hh _ _ _ (H g vs hg i v hv)
def GlW (w : World) : Prop := (∀ g vs, (g, vs) ∈ glb → vs ≠ [] ∧ ∃ T f, w.heap[g]? = some (.cells vs.toArray T f)) ∧
 ∀ g, g ∈ glbE → ∃ tp p T f, w.heap[g]? = some (.cells #[.iface tp p] T f)
def GlLt (B : Nat) : Prop := (∀ g vs, (g, vs) ∈ glb → g < B) ∧ ∀ g, g ∈ glbE → g < B
structure Agree (h : Pub) (w : World) : Prop where
 cells : ∀ b o v, h b o = some v → w.cell? ⟨b, o, none⟩ = some v
 glob : GlOk h
 blk : GlW w
 errs : ∀ g, g ∈ glbE → ∃ v, h g 0 = some v
instance {h : Pub} {w : World} : CoeFun (Agree h w) (fun _ => ∀ b o v, h b o = some v → w.cell? ⟨b, o, none⟩ = some v) := ⟨Agree.cells⟩
structure Since (w0 : World) (h0 : Pub) (w : World) (h : Pub) : Prop where
 below : Below w0.heap.size w0 w
 le : h0.Le h
 old : ∀ b, b < w0.heap.size → ∀ o, h b o = h0 b o
structure Cx where
 w0 : World
 h0 : Pub
 off : Nat
 E0 : Env
 ds : List Deferred
 objs : Nat → Option Obj
def held (o : Obj) : Prop := o.isCells = false ∧ ∀ r, o = .loop r → r.state = .busy
structure Side (cx : Cx) (ds : List Deferred) (w : World) : Prop where
 marks : ∃ ms : List Nat, ms.Nodup ∧ ds = ms.map (fun b => ({ target := .collected b, args := #[] } : Deferred)) ++ cx.ds ∧ ∀ b ∈ ms, cx.w0.heap.size ≤ b ∧ cx.objs b = none ∧ w.heap[b]? = some (.deferred (some []))
 objs : ∀ b o, cx.objs b = some o → cx.w0.heap.size ≤ b ∧ held o ∧ w.heap[b]? = some o
theorem Side.keep {cx : Cx} {ds : List Deferred} {w w' : World} (hs : Side cx ds w) (hk : ∀ (b : Nat) o, w.heap[b]? = some o → o.isCells = false → w'.heap[b]? = some o) : Side cx ds w' := by
 obtain ⟨⟨ms, h0, h1, h2⟩, h3⟩ := hs
 exact ⟨⟨ms, h0, h1, fun b hb => ⟨(h2 b hb).1, (h2 b hb).2.1, hk b _ (h2 b hb).2.2 rfl⟩⟩, fun b o ho => ⟨(h3 b o ho).1, (h3 b o ho).2.1, hk b o (h3 b o ho).2.2 (h3 b o ho).2.1.1⟩⟩
theorem Side.below {cx : Cx} {ds : List Deferred} {w w' : World} (hs : Side cx ds w) (hb : Below w.heap.size w w') : Side cx ds w' :=
 hs.keep fun b o ho _ => by rw [hb.block b (Array.getElem?_eq_some_iff.1 ho).1]; exact ho
structure Sat (cx : Cx) (E : Env) (h : Pub) (a : Act) (w : World) (L : Sl) (H : Hp) : Prop where
 knows : ∀ t, Den E h (look L t) (a.tmps.getD t Go.undef)
 mem : MemOk cx.w0.heap.size E h w H
 agree : Agree h w
 since : Since cx.w0 cx.h0 w h
 low : ∀ j, j < cx.off → E.blk j = cx.E0.blk j ∧ E.siz j = cx.E0.siz j ∧ E.kn j = cx.E0.kn j ∧ E.real j = cx.E0.real j ∧ E.lpr j = cx.E0.lpr j
 side : Side cx a.defers w
end Go.V
end
section
namespace Go.V
open Go Go.RowKit
inductive TyK where
  | int (k : IntKind) | bool | str | slice (e : Nat) | struct (fs : List (Nat × Nat)) | arr (n e : Nat) | ptr (e : Nat) | func | other
structure Ty where
 size : Nat
 bytes : Nat
 kind : TyK
 zero : List D
def TyK.isAgg : TyK → Bool
 | .struct _ => true
 | .arr _ _ => true
 | _ => false
abbrev Tb := List (Nat × Ty)
def tyK : Tb → Nat → (Ty → Prop) → Prop
 | [], _, _ => False
 | (s, y) :: L, t, K => match Nat.beq s t with | true => K y | false => tyK L t K
def tyL : Tb → Nat → Option Ty
 | [], _ => none
 | (s, y) :: L, t => match Nat.beq s t with | true => some y | false => tyL L t
theorem jak {tb : Tb} {t : Nat} {K : Ty → Prop} (h : tyK tb t K) : ∃ y, tyL tb t = some y ∧ K y := by
 induction tb with
 | nil => exact h.elim
 | cons x L ih =>
  obtain ⟨s, y⟩ := x
  simp only [tyK, tyL] at h ⊢
  cases hb : Nat.beq s t with
  | true => rw [hb] at h; exact ⟨y, rfl, h⟩
  | false => rw [hb] at h; exact ih h
structure TyOk (P : Program) (t : Nat) (y : Ty) : Prop where
 info : ∃ i z, P.info? t = some i ∧ i.size = y.size ∧ i.bytes = y.bytes ∧ i.zero = some z ∧ (∀ E h, DenL E h y.zero z.cells.toList) ∧ (∀ v ∈ z.cells.toList, v.oneCell' = true) ∧
  (y.kind.isAgg = true → ∃ cs, z = .agg cs) ∧ z.cells.size = y.size ∧ (y.kind.isAgg = false → z.oneCell' = true ∧ y.size = 1)
 und : match y.kind with
  | .int k => P.underlying t = some (.int k)
  | .bool => P.underlying t = some .bool
  | .str => P.underlying t = some .string
  | .slice e => P.underlying t = some (.slice e)
  | .arr n e => P.underlying t = some (.array n e)
  | .ptr e => P.underlying t = some (.pointer e)
  | .func => ∃ a b c, P.underlying t = some (.func a b c)
  | .struct fs => ∃ fields, P.underlying t = some (.struct fields) ∧ fields.size = fs.length ∧ ∀ (j o u : Nat), fs[j]? = some (o, u) → ∃ f iu, fields[j]? = some f ∧ f.offset = o ∧ f.type = u ∧ P.info? u = some iu ∧ iu.size ≠ 0
  | .other => ∃ d, P.underlying t = some d ∧ (∀ f, d ≠ .struct f) ∧ (∀ n e, d ≠ .array n e)
 eqs : ∀ fields, P.underlying t = some (.struct fields) → P.stoodInHeld t = false ∧ ∀ f ∈ fields.toList, f.name ≠ "_"
def TbOk (P : Program) (tb : Tb) : Prop := ∀ t y, tyL tb t = some y → TyOk P t y
section
variable {P : Program} {t : Nat} {y : Ty}
theorem TyOk.sizeOf (h : TyOk P t y) (w : World) : (sizeOf t).run P w = .ok y.size w := by
 obtain ⟨i, z, h1, h2, _⟩ := h.info
 simp [Go.sizeOf, typeInfo, h1, h2]
theorem TyOk.isAgg (h : TyOk P t y) (w : World) : (Go.isAgg t).run P w = .ok y.kind.isAgg w := by
 have := h.und
 cases hk : y.kind <;> rw [hk] at this <;> simp only at this
 case struct fs => obtain ⟨f, h1, _⟩ := this; simp [Go.isAgg, run_underlying h1, TyK.isAgg]
 case func => obtain ⟨a, b, c, h1⟩ := this; simp [Go.isAgg, run_underlying h1, TyK.isAgg]
 case other =>
  obtain ⟨d, h1, h2, h3⟩ := this
  simp only [Go.isAgg, Sem.run_bind, run_underlying h1, Result.andThen_ok, TyK.isAgg]
  cases d <;> first | rfl | exact absurd rfl (h2 _) | exact absurd rfl (h3 _ _)
 all_goals simp [Go.isAgg, run_underlying this, TyK.isAgg]
end
-- reading the frame
def lookK : Sl → Nat → (D → Prop) → Prop
 | [], _, K => K .any
 | (s, d) :: L, t, K => match Nat.beq s t with | true => K d | false => lookK L t K
theorem jbz (L : Sl) (t : Nat) (K : D → Prop) : lookK L t K = K (look L t) := by
 induction L with
 | nil => rfl
 | cons x L ih =>
  obtain ⟨s, d⟩ := x
  simp only [lookK, look]
  cases hb : Nat.beq s t with
  | true => rfl
  | false => exact ih
def inRb (k : IntKind) (n : Int) : Bool := decide (lo k ≤ n) && decide (n ≤ hi k)
theorem inRb_iff {k : IntKind} {n : Int} (h : inRb k n = true) : InR k n := by
 simp only [inRb, jh9, decide_eq_true_eq] at h; exact h
def ofVal : Value → D
 | .bool b => .bool b
 | .int k n => match inRb k n with | true => .int k n | false => .any
 | .string s => match Nat.ble s.size 1000000 with | true => .str s.data.toList | false => .any
 | .slice none 0 0 => .nil
 | .tuple vs => match vs.toList with | [] => .undef | _ => .any
 | _ => .any
theorem jgQ (E : Env) (h : Pub) (v : Value) : Den E h (ofVal v) v := by
 cases v with
 | bool b => simp [ofVal, Den]
 | int k n =>
  simp only [ofVal]
  cases hr : inRb k n with
  | true => simp only [Den]; exact ⟨trivial, inRb_iff hr⟩
  | false => simp [Den]
 | string s =>
  simp only [ofVal]
  cases hr : Nat.ble s.size 1000000 with
  | true =>
   have := jia hr
   simp only [Den]
   refine ⟨by simp, ?_⟩
   have h2 : s.data.toList.length = s.size := Array.length_toList
   omega
  | false => simp [Den]
 | slice a n c =>
  cases a with
  | some a => simp [ofVal, Den]
  | none =>
   cases n with
   | succ n => simp [ofVal, Den]
   | zero => cases c with
    | zero => simp [ofVal, Den]
    | succ c => simp [ofVal, Den]
 | tuple vs =>
  simp only [ofVal]
  split
  ·rename_i hvs
   simp only [Den, Go.undef]
   congr 1
   exact Array.toList_inj.1 (by simpa using hvs)
  ·simp [Den]
 | _ => simp [ofVal, Den]
def rd (L : Sl) : Operand → D
 | .tmp t => look L t
 | .const v => ofVal v
 | .global g => .gp g
 | .func f => .fn f [] []
def ofValK (v : Value) (K : D → Prop) : Prop := match v with
 | .bool b => K (.bool b)
 | .int k n => match inRb k n with | true => K (.int k n) | false => K .any
 | .string s => match Nat.ble s.size 1000000 with | true => K (.str s.data.toList) | false => K .any
 | .slice none 0 0 => K .nil
 | .tuple vs => match vs.toList with | [] => K .undef | _ => K .any
 | _ => K .any
theorem ofValK_eq (v : Value) (K : D → Prop) : ofValK v K = K (ofVal v) := by
 unfold ofValK ofVal
 split <;> first | rfl | (split <;> rfl)
def rdK (L : Sl) (x : Operand) (K : D → Prop) : Prop := match x with
 | .tmp t => lookK L t K
 | .const v => ofValK v K
 | .global g => K (.gp g)
 | .func f => K (.fn f [] [])
theorem rdK_eq (L : Sl) (x : Operand) (K : D → Prop) : rdK L x K = K (rd L x) := by
 cases x <;> first | rfl | exact jbz _ _ _ | exact ofValK_eq _ _
theorem den_rd {E : Env} {h : Pub} {L : Sl} {a : Act} (hk : ∀ t, Den E h (look L t) (a.tmps.getD t Go.undef)) (x : Operand) : Den E h (rd L x) (a.eval x) := by
 cases x with
 | tmp t => exact hk t
 | const v => exact jgQ E h v
 | global g => simp [rd, Act.eval, Den]
 | func f => simp [rd, Act.eval, Den, DenL]
def rdg (g : Prop) (L : Sl) (x : Operand) (K : D → Prop) : Prop :=
 rdK L x fun d => match d with
  | .gd c d => (g → c = true) ∧ K d
  | d => K d
theorem jar {g : Prop} {L : Sl} {x : Operand} {K : D → Prop} (h : rdg g L x K) :
  ∃ d, K d ∧ ∀ (E : Env) (hp : Pub) (a : Act), g → Den E hp (rd L x) (a.eval x) → Den E hp d (a.eval x) := by
 unfold rdg at h
 rw [rdK_eq] at h
 generalize rd L x = d0 at h
 cases d0 with
 | gd c d =>
  exact ⟨d, h.2, fun E hp a hg H => by simp only [Den] at H; exact H.1 (h.1 hg)⟩
 | _ => exact ⟨_, h, fun E hp a _ H => H⟩
def nthK : List D → Nat → (D → Prop) → Prop
 | [], _, _ => False
 | d :: _, 0, K => K d
 | _ :: ds, n + 1, K => nthK ds n K
theorem jeK {ds : List D} {n : Nat} {K : D → Prop} (h : nthK ds n K) : ∃ d, ds[n]? = some d ∧ K d := by
 induction ds generalizing n with
 | nil => exact h.elim
 | cons d ds ih =>
  cases n with
  | zero => exact ⟨d, rfl, h⟩
  | succ n => exact ih h
def dropK : List D → Nat → (List D → Prop) → Prop
 | ds, 0, K => K ds
 | [], _ + 1, _ => False
 | _ :: ds, n + 1, K => dropK ds n K
theorem jcq {ds : List D} {n : Nat} {K : List D → Prop} (h : dropK ds n K) : n ≤ ds.length ∧ K (ds.drop n) := by
 induction n generalizing ds with
 | zero => exact ⟨jib _, by simpa [dropK] using h⟩
 | succ n ih =>
  cases ds with
  | nil => exact h.elim
  | cons d ds => have := ih h; exact ⟨by simp; exact this.1, by simpa using this.2⟩
def takeK : List D → Nat → (List D → Prop) → Prop
 | _, 0, K => K []
 | [], _ + 1, _ => False
 | d :: ds, n + 1, K => takeK ds n fun r => K (d :: r)
theorem jcf {ds : List D} {n : Nat} {K : List D → Prop} (h : takeK ds n K) : n ≤ ds.length ∧ K (ds.take n) := by
 induction n generalizing ds K with
 | zero => exact ⟨jib _, by simpa [takeK] using h⟩
 | succ n ih =>
  cases ds with
  | nil => exact h.elim
  | cons d ds => have := ih h; exact ⟨by simp; exact this.1, by simpa using this.2⟩
theorem DenL.length {E : Env} {h : Pub} {ds : List D} {vs : List Value} (H : DenL E h ds vs) : vs.length = ds.length := by
 induction ds generalizing vs with
 | nil => simp only [DenL] at H; simp [H]
 | cons d ds ih =>
  simp only [DenL] at H
  obtain ⟨v, vs', rfl, _, h2⟩ := H
  simp [ih h2]
theorem DenL.get {E : Env} {h : Pub} {ds : List D} {vs : List Value} (H : DenL E h ds vs) {i : Nat} {d : D} (hd : ds[i]? = some d) : ∃ v, vs[i]? = some v ∧ Den E h d v := by
 induction ds generalizing vs i with
 | nil => simp at hd
 | cons x ds ih =>
  simp only [DenL] at H
  obtain ⟨v, vs', rfl, h1, h2⟩ := H
  cases i with
  | zero => simp at hd; subst hd; exact ⟨v, rfl, h1⟩
  | succ i => simpa using ih h2 (by simpa using hd)
theorem DenL.drop {E : Env} {h : Pub} {ds : List D} {vs : List Value} (H : DenL E h ds vs) (n : Nat) : DenL E h (ds.drop n) (vs.drop n) := by
 induction n generalizing ds vs with
 | zero => simpa using H
 | succ n ih =>
  cases ds with
  | nil => simp only [DenL] at H; subst H; simp [DenL]
  | cons d ds =>
   simp only [DenL] at H
   obtain ⟨v, vs', rfl, _, h2⟩ := H
   simpa using ih h2
theorem DenL.take {E : Env} {h : Pub} {ds : List D} {vs : List Value} (H : DenL E h ds vs) (n : Nat) : DenL E h (ds.take n) (vs.take n) := by
 induction n generalizing ds vs with
 | zero => simp [DenL]
 | succ n ih =>
  cases ds with
  | nil => simp only [DenL] at H; subst H; simp [DenL]
  | cons d ds =>
   simp only [DenL] at H
   obtain ⟨v, vs', rfl, h1, h2⟩ := H
   simp only [List.take_succ_cons, DenL]
   exact ⟨v, _, rfl, h1, ih h2⟩
theorem DenL.append {E : Env} {h : Pub} {ds es : List D} {vs us : List Value} (H : DenL E h ds vs) (G : DenL E h es us) : DenL E h (ds ++ es) (vs ++ us) := by
 induction ds generalizing vs with
 | nil => simp only [DenL] at H; subst H; simpa using G
 | cons d ds ih =>
  simp only [DenL] at H
  obtain ⟨v, vs', rfl, h1, h2⟩ := H
  simp only [List.cons_append, DenL]
  exact ⟨v, _, rfl, h1, ih h2⟩
end Go.V
end
section
namespace Go.V
open Go Go.RowKit
theorem guard_arr {P : Program} {t e n : Nat} {k : IntKind} (hu : P.underlying t = some (.array n e)) (hue : P.underlying e = some (.int k)) : P.eqGuardType P.depth t = false := by
 have : ∀ d, P.eqGuardType (d + 2) t = false := fun d => by
  simp only [Program.eqGuardType, hu, hue]
 exact this _
theorem jcV {P : Program} {e : Nat} {k : IntKind} {i : TypeInfo} (hue : P.underlying e = some (.int k)) (hi : P.info? e = some i) (hs : i.size = 1) (xs ys : List Int) (d : Nat) (w : World) :
  ∀ is : List Nat, (∀ j ∈ is, j < xs.length ∧ j < ys.length) →
   (Op.eqItems (d + 1) e (P.cellsOf e) (xs.map (Value.int k)).toArray (ys.map (Value.int k)).toArray is).run P w = .ok (is.all fun j => xs.getD j 0 == ys.getD j 0) w
 | [], _ => by simp [Op.eqItems]
 | j :: is, h => by
  have hc : P.cellsOf e = 1 := by simp [Program.cellsOf, hi, hs]
  have hpl : P.plainKey e = true := by simp [Program.plainKey, hue]
  obtain ⟨h1, h2⟩ := h j (by simp)
  have g1 : (xs.map (Value.int k)).toArray[j * P.cellsOf e]? = some (.int k (xs.getD j 0)) := by
   rw [hc, Nat.mul_one]; simp [h1]
  have g2 : (ys.map (Value.int k)).toArray[j * P.cellsOf e]? = some (.int k (ys.getD j 0)) := by
   rw [hc, Nat.mul_one]; simp [h2]
  have ih := jcV hue hi hs xs ys d w is (fun q hq => h q (by simp [hq]))
  simp only [Op.eqItems, Sem.run_bind, run_part_plain w hpl g1, run_part_plain w hpl g2, Result.andThen_ok, run_equalIn_int w d e k k _ _ hue]
  cases hb : xs.getD j 0 == ys.getD j 0
  ·simp only [List.all_cons, hb]; simp
  ·simp only [List.all_cons, hb, Bool.true_and]; simpa using ih
theorem all_eq {xs ys : List Int} {n : Nat} (hx : xs.length = n) (hy : ys.length = n) : ((List.range n).all fun j => xs.getD j 0 == ys.getD j 0) = decide (xs = ys) := by
 by_cases h : xs = ys
 ·subst h; simp
 ·simp only [h, decide_false]
  rw [Bool.eq_false_iff]
  intro ha
  simp only [jiI, List.mem_range, beq_iff_eq] at ha
  refine h (List.ext_getElem (by omega) fun j h1 h2 => ?_)
  have := ha j (by omega)
  simpa [jiJ, h1, h2] using this
theorem jg5 {P : Program} {t e n : Nat} {k : IntKind} {i : TypeInfo} (hu : P.underlying t = some (.array n e)) (hue : P.underlying e = some (.int k)) (hi : P.info? e = some i) (hs : i.size = 1) {xs ys : List Int} (hx : xs.length = n) (hy : ys.length = n) (w : World) :
  (Op.equal t (.agg (xs.map (Value.int k)).toArray) (.agg (ys.map (Value.int k)).toArray)).run P w = .ok (decide (xs = ys)) w := by
 have : ∀ d, (Op.equalIn (d + 2) t (.agg (xs.map (Value.int k)).toArray) (.agg (ys.map (Value.int k)).toArray)).run P w = .ok (decide (xs = ys)) w := fun d => by
  rw [run_equalIn_array w (d + 1) _ _ hu hi, jcV hue hi hs xs ys d w _ (fun j hj => by simp at hj; omega), all_eq hx hy]
 exact this 9998
theorem jdj {P : Program} {t e n : Nat} {k : IntKind} (hu : P.underlying t = some (.array n e)) (hue : P.underlying e = some (.int k)) (op : BinOp) (x y : Operand) (a b : Array Value) (w : World) :
  (eqGuard op t x y (.agg a) (.agg b)).run P w = .ok () w := by
 have hg := guard_arr hu hue
 have hp : (program : Sem Program).run P w = .ok P w := rfl
 cases op <;> simp [eqGuard, Sem.run_bind, hp, hg]
end Go.V
end
