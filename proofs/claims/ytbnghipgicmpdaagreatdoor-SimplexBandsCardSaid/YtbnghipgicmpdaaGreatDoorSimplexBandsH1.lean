/- Laws of a small interpreter over plain values, part 1. No condition. -/
import Derived.WalkKit
import Derived.WalkSpells
import Derived.WalkLawsBesides
import Derived.RangeFuncNested
import Derived.MapKept
import Derived.ChangeKeysEq
set_option linter.unusedSimpArgs false
set_option linter.unusedVariables false
set_option maxHeartbeats 8000000
set_option maxRecDepth 100000
namespace Go
theorem Jo {p : Prop} (h : p := by omega) : p := h
theorem Jd {p : Prop} (h : p := by decide) : p := h
theorem Js {p : Prop} (h : p := by simp) : p := h
theorem jjv : type_of% @Bool.and_eq_true := @Bool.and_eq_true
theorem jjw : type_of% @Nat.le_of_ble_eq_true := @Nat.le_of_ble_eq_true
theorem jjx : type_of% @Nat.zero_le := @Nat.zero_le
theorem jjy : type_of% @Int.ediv_nonneg := @Int.ediv_nonneg
theorem jjz : type_of% @Int.emod_nonneg := @Int.emod_nonneg
theorem jjA : type_of% @Int.emod_add_mul_ediv := @Int.emod_add_mul_ediv
theorem jjB : type_of% @Int.mul_nonneg := @Int.mul_nonneg
theorem jjC : type_of% @Nat.zero_add := @Nat.zero_add
theorem jjD : type_of% @Nat.add_zero := @Nat.add_zero
theorem jjE : type_of% @Int.toNat_of_nonneg := @Int.toNat_of_nonneg
theorem jjF : type_of% @Int.toNat_natCast := @Int.toNat_natCast
theorem jjG : type_of% @Nat.le_refl := @Nat.le_refl
theorem jjH : type_of% @Nat.le_trans := @Nat.le_trans
theorem jjI : type_of% @Nat.eq_zero_or_pos := @Nat.eq_zero_or_pos
theorem jjJ : type_of% @Nat.mod_lt := @Nat.mod_lt
theorem jjK : type_of% @Nat.mul_comm := @Nat.mul_comm
theorem jjL : type_of% @Nat.mod_eq_of_lt := @Nat.mod_eq_of_lt
theorem jjM : type_of% @Int.mul_le_mul_of_nonneg_right := @Int.mul_le_mul_of_nonneg_right
theorem jjN : type_of% @Nat.lt_of_lt_of_le := @Nat.lt_of_lt_of_le
theorem jjO : type_of% @Nat.lt_or_ge := @Nat.lt_or_ge
theorem jjP : type_of% @Bool.or_eq_false_iff := @Bool.or_eq_false_iff
theorem jjQ : type_of% @Int.natCast_mul := @Int.natCast_mul
theorem jjR : type_of% @Int.mul_add := @Int.mul_add
theorem jjS : type_of% @Int.mul_comm := @Int.mul_comm
theorem jjT : type_of% @Int.mul_assoc := @Int.mul_assoc
theorem jjU : type_of% @Int.mul_le_mul_of_nonneg_left := @Int.mul_le_mul_of_nonneg_left
theorem jjV : type_of% @Int.natAbs_natCast := @Int.natAbs_natCast
theorem jjW : type_of% @Nat.pow_le_pow_right := @Nat.pow_le_pow_right
theorem jjX : type_of% @Nat.div_le_self := @Nat.div_le_self
theorem jjY : type_of% @Int.emod_lt_of_pos := @Int.emod_lt_of_pos
theorem jjZ : type_of% @Int.add_zero := @Int.add_zero
theorem jj0 : type_of% @Int.natCast_pow := @Int.natCast_pow
theorem jj1 : type_of% @Int.add_mul := @Int.add_mul
theorem jj2 : type_of% @Int.one_mul := @Int.one_mul
theorem jj3 : type_of% @Bool.false_and := @Bool.false_and
theorem jj4 : type_of% @Int.sign_eq_neg_one_of_neg := @Int.sign_eq_neg_one_of_neg
theorem jj5 : type_of% @Int.sign_eq_one_of_pos := @Int.sign_eq_one_of_pos
theorem jj6 : type_of% @Rat.num_divInt_den := @Rat.num_divInt_den
theorem jj7 : type_of% @List.all_eq_true.{0} := @List.all_eq_true.{0}
theorem jj8 : type_of% @List.getD_eq_getElem?_getD.{0} := @List.getD_eq_getElem?_getD.{0}
theorem jj9 : type_of% @List.length_eq_zero_iff.{0} := @List.length_eq_zero_iff.{0}
theorem jka : type_of% @List.mem_cons.{0} := @List.mem_cons.{0}
theorem jkb : type_of% @List.getElem?_eq_getElem.{0} := @List.getElem?_eq_getElem.{0}
theorem jkc : type_of% @List.mem_of_getElem?.{0} := @List.mem_of_getElem?.{0}
theorem jkd : type_of% @List.length_append.{0} := @List.length_append.{0}
theorem jke : type_of% @List.length_take.{0} := @List.length_take.{0}
theorem jkf : type_of% @List.append_assoc.{0} := @List.append_assoc.{0}
theorem jkg : type_of% @List.getElem?_append_left.{0} := @List.getElem?_append_left.{0}
theorem jkh : type_of% @List.getElem?_eq_some_iff.{0} := @List.getElem?_eq_some_iff.{0}
theorem jki : type_of% @List.mem_of_mem_drop.{0} := @List.mem_of_mem_drop.{0}
theorem jkj : type_of% @List.mem_of_mem_take.{0} := @List.mem_of_mem_take.{0}
theorem jkk : type_of% @List.nil_append.{0} := @List.nil_append.{0}
theorem jkl : type_of% @List.take_append_of_le_length.{0} := @List.take_append_of_le_length.{0}
theorem jkm : type_of% @List.drop_append_of_le_length.{0} := @List.drop_append_of_le_length.{0}
theorem jkn : type_of% @List.length_cons.{0} := @List.length_cons.{0}
theorem jko : type_of% @List.take_of_length_le.{0} := @List.take_of_length_le.{0}
theorem jkp : type_of% @List.getElem?_append_right.{0} := @List.getElem?_append_right.{0}
theorem jkq : type_of% @List.drop_of_length_le.{0} := @List.drop_of_length_le.{0}
theorem jkr : type_of% @List.getElem?_toArray.{0} := @List.getElem?_toArray.{0}
theorem jks : type_of% @List.drop_eq_getElem_cons.{0} := @List.drop_eq_getElem_cons.{0}
theorem jkt : type_of% @List.length_drop.{0} := @List.length_drop.{0}
theorem jku : type_of% @List.drop_zero.{0} := @List.drop_zero.{0}
theorem jkv : type_of% @List.mem_filter.{0} := @List.mem_filter.{0}
theorem jkw : type_of% @List.length_set.{0} := @List.length_set.{0}
theorem jkx : type_of% @List.getElem?_take_of_lt.{0} := @List.getElem?_take_of_lt.{0}
theorem jky : type_of% @List.take_add_one.{0} := @List.take_add_one.{0}
theorem jkz : type_of% @List.take_length.{0} := @List.take_length.{0}
end Go
section
namespace Go.V
open Go
def glb:List (Nat×List Value):=
 [(2,[.int .u64 1,.int .u64 10,.int .u64 100,.int .u64 1000,.int .u64 10000,.int .u64 100000,.int .u64 1000000,.int .u64 10000000,.int .u64 100000000,.int .u64 1000000000,.int .u64 10000000000,.int .u64 100000000000,.int .u64 1000000000000,.int .u64 10000000000000,.int .u64 100000000000000,.int .u64 1000000000000000,.int .u64 10000000000000000,.int .u64 100000000000000000,.int .u64 1000000000000000000,.int .u64 10000000000000000000])]
def glbE:List Nat:=[1]
def inlF:List Nat:=[]
end Go.V
end
section
namespace Go.V
open Go Go.RowKit
def lo:IntKind→Int
 | .i8 => -128 | .i16 => -32768 | .i32 => -2147483648 | .i64 => -9223372036854775808|_=>0
def hi:IntKind→Int
 | .i8=>127 | .i16=>32767 | .i32=>2147483647 | .i64=>9223372036854775807
 | .u8=>255 | .u16=>65535 | .u32=>4294967295 | .u64=>18446744073709551615
def InR (k:IntKind)(n:Int):Prop:=lo k≤n∧n≤hi k
theorem jbX {k:IntKind}{n:Int}(h:InR k n):k.wrap n=n:=by
 obtain⟨h1,h2⟩:=h
 cases k<;>simp only[lo,hi] at h1 h2<;>simp[IntKind.wrap,IntKind.signed,IntKind.bits]<;>omega
inductive D where
  | any
  | undef
  | bool (b : Bool)
  | int (k : IntKind) (n : Int)
  | str (s : List UInt8)
  | nil
  | ints (k : IntKind) (xs : List Int)
  | slf (e n : Nat) (f : Nat → List D)
  | iarr (k : IntKind) (xs : List Int)
  | agg (ds : List D)
  | tup (ds : List D)
  | fn (f : Nat) (first caps : List D)
  | ref (ds : List D)
  | box (i off : Nat)
  | osl (i off len : Nat)
  | bsl (i off len e : Nat)
  | gd (c : Bool) (d : D)
  | gp (g : Nat)
  | yld (i : Nat)
  | val (v : Value)
  | anyb (p : Bool → Prop)
  | mapr (i : Nat)
inductive Chunk where
  | box (ds : List D)
  | arr (k : IntKind) (xs : List Int)
  | gone
  /-- the record of a loop over a function, between its rounds: what it is to do next, if a round has left the loop -/
  | lp (p : Option Code)
  /-- a map of one's own, from ints to values that name nothing of one's own -/
  | mp (es : List (Int × D))
abbrev Pub:=Nat→Nat→Option Value
structure Env where
 blk:Nat→Nat
 siz:Nat→Nat
 kn:Nat→Nat
 real:Nat→Bool
 lpr:Nat→Option Loop
def Env.dummy:Env:=⟨fun _=>0,fun _=>0,fun _=>0,fun _=>false,fun _=>none⟩
def jaQ (h:Pub)(k:IntKind)(xs:List Int)(v:Value):Prop:=
 ∃ a cap,v = .slice a xs.length cap∧xs.length≤cap∧xs.length≤281474976710656∧(∀ n∈xs,InR k n) ∧
  match a with
  | none=>xs=[]∧cap=0
  | some ad=>ad.spot=none ∧ ∀ (i:Nat) (n:Int),xs[i]? = some n→h ad.block (ad.off+i)=some (.int k n)
mutual
def Den (E:Env)(h:Pub):D→Value→Prop
 | .any,_=>True
 | .undef,v=>v=Go.undef
 | .bool b,v=>v = .bool b
 | .int k n,v=>v = .int k n∧InR k n
 | .str s,v=>v = .string ⟨s.toArray⟩∧s.length≤281474976710656
 | .nil,v=>v = .slice none 0 0
 | .ints k xs,v=>jaQ h k xs v
 | .slf e n f,v => ∃ a cap,v = .slice a n cap∧n≤cap∧n≤281474976710656 ∧
   match a with
   | none=>n=0∧cap=0
   | some ad=>ad.spot=none ∧ ∀ j,j<n → ∃ vs,DenL Env.dummy h (f j) vs∧vs.length=e∧(∀ v∈vs,v.oneCell'=true) ∧ ∀ (i:Nat) v,vs[i]? = some v→h ad.block (ad.off+j*e+i)=some v
 | .iarr k xs,v=>v = .agg (xs.map (Value.int k)).toArray∧(∀ n∈xs,InR k n)
 | .agg ds,v => ∃ vs,v = .agg vs.toArray∧DenL E h ds vs∧(∀ v∈vs,v.oneCell'=true)
 | .tup ds,v => ∃ vs,v = .tuple vs.toArray∧DenL E h ds vs
 | .fn f first caps,v => ∃ us vs,v = .func (.func f) us.toArray vs.toArray∧DenL E h first us∧DenL E h caps vs
 | .ref ds,v => ∃ b o,v = .pointer (some ⟨b,o,none⟩) ∧ ∃ vs,DenL E h ds vs∧(∀ v∈vs,v.oneCell'=true) ∧ ∀ (i:Nat) v,vs[i]? = some v→h b (o+i)=some v
 | .box i off,v=>v = .pointer (some ⟨E.blk i,off,none⟩)∧E.real i=true
 | .osl i off len,v=>(E.real i=false∧v = .slice none 0 0∧len=0) ∨
   (E.real i=true ∧ ∃ o cap,v = .slice (some ⟨E.blk i,o,none⟩) len cap∧len≤cap∧o+cap≤E.siz i∧len≤281474976710656∧(o=off∨cap=0)∧off+len≤E.kn i)
 | .bsl i off len e,v=>E.real i=true ∧ ∃ cap,v = .slice (some ⟨E.blk i,off,none⟩) len cap∧len≤cap∧len≤281474976710656∧(cap=len∨off≠0∨cap*e≤E.siz i)
 | .gd c d,v=>(c=true→Den E h d v)∧(c=false→v=Go.undef)
 | .gp g,v=>v = .pointer (some ⟨g,0,none⟩)
 | .yld i,v=>v = .func (.yield (E.blk i)) #[] #[]
 | .val u,v=>v=u
 | .anyb p,v => ∃ b,v = .bool b∧p b
 | .mapr i,v=>v = .map (some (E.blk i))∧E.real i=true
def DenL (E:Env)(h:Pub):List D→List Value→Prop
 | [],vs=>vs=[]
 | d::ds,vs => ∃ v vs',vs=v::vs'∧Den E h d v∧DenL E h ds vs'
end
def Pub.Le (h h':Pub):Prop := ∀ b o v,h b o=some v→h' b o=some v
theorem Pub.Le.refl (h:Pub):h.Le h:=fun _ _ _ e=>e
theorem Pub.Le.trans {a b c:Pub}(h:a.Le b)(k:b.Le c):a.Le c:=fun _ _ _ e=>k _ _ _ (h _ _ _ e)
mutual
theorem Den.mono {E:Env}{h h':Pub}(hh:h.Le h'):∀ {d:D} {v:Value},Den E h d v→Den E h' d v
 | .any,_,_=>by simp[Den]
 | .undef,_,H=>by simpa [Den] using H
 | .bool _,_,H=>by simpa [Den] using H
 | .int _ _,_,H=>by simpa [Den] using H
 | .str _,_,H=>by simpa [Den] using H
 | .nil,_,H=>by simpa [Den] using H
 | .ints k xs,v,H=>by
  simp only[Den,jaQ] at H ⊢
  obtain⟨a,cap,h1,h2,h2',h3,h4⟩:=H
  refine⟨a,cap,h1,h2,h2',h3,?_⟩
  cases a with
  | none=>exact h4
  | some ad=>exact⟨h4.1,fun i n hn=>hh _ _ _ (h4.2 i n hn)⟩
 | .slf e n f,v,H=>by
  simp only[Den] at H ⊢
  obtain⟨a,cap,h1,h2,h3,h4⟩:=H
  refine⟨a,cap,h1,h2,h3,?_⟩
  cases a with
  | none=>exact h4
  | some ad=>
   refine⟨h4.1,fun j hj=>?_⟩
   obtain⟨vs,h5,h6,h7,h8⟩:=h4.2 j hj
   exact⟨vs,DenL.mono hh h5,h6,h7,fun i v hv=>hh _ _ _ (h8 i v hv)⟩
 | .iarr _ _,_,H=>by simpa [Den] using H
 | .agg ds,v,H=>by
  simp only[Den] at H ⊢
  obtain⟨vs,h1,h2,h3⟩:=H
  exact⟨vs,h1,DenL.mono hh h2,h3⟩
 | .tup ds,v,H=>by
  simp only[Den] at H ⊢
  obtain⟨vs,h1,h2⟩:=H
  exact⟨vs,h1,DenL.mono hh h2⟩
 | .fn f first caps,v,H=>by
  simp only[Den] at H ⊢
  obtain⟨us,vs,h1,h2,h3⟩:=H
  exact⟨us,vs,h1,DenL.mono hh h2,DenL.mono hh h3⟩
 | .ref ds,v,H=>by
  simp only[Den] at H ⊢
  obtain⟨b,o,h1,vs,h2,h3,h4⟩:=H
  exact⟨b,o,h1,vs,DenL.mono hh h2,h3,fun i n hn=>hh _ _ _ (h4 i n hn)⟩
 | .box _ _,_,H=>by simpa [Den] using H
 | .osl _ _ _,_,H=>by simpa [Den] using H
 | .bsl _ _ _ _,_,H=>by simpa [Den] using H
 | .gd c d,v,H=>by
  simp only[Den] at H ⊢
  exact⟨fun hc=>Den.mono hh (H.1 hc),H.2⟩
 | .gp _,_,H=>by simpa [Den] using H
 | .yld _,_,H=>by simpa [Den] using H
 | .val _,_,H=>by simpa [Den] using H
 | .anyb _,_,H=>by simpa [Den] using H
 | .mapr _,_,H=>by simpa [Den] using H
theorem DenL.mono {E:Env}{h h':Pub}(hh:h.Le h'):∀ {ds:List D} {vs:List Value},DenL E h ds vs→DenL E h' ds vs
 | [],_,H=>by simpa [DenL] using H
 | d::ds,vs,H=>by
  simp only[DenL] at H ⊢
  obtain⟨v,vs',h1,h2,h3⟩:=H
  exact⟨v,vs',h1,Den.mono hh h2,DenL.mono hh h3⟩
end
mutual
def D.free (i:Nat):D→Bool
 | .any | .undef | .bool _ | .int _ _ | .str _ | .nil | .ints _ _ | .gp _ | .slf _ _ _ | .iarr _ _ | .val _ | .anyb _=>true
 | .yld j=>match Nat.beq i j with|true=>false|false=>true
 | .agg ds | .tup ds | .ref ds=>D.freeL i ds
 | .fn _ es ds=>match D.freeL i es with|true=>D.freeL i ds|false=>false
 | .box j _=>match Nat.beq i j with|true=>false|false=>true
 | .osl j _ _=>match Nat.beq i j with|true=>false|false=>true
 | .bsl j _ _ _=>match Nat.beq i j with|true=>false|false=>true
 | .gd _ d=>D.free i d
 | .mapr j=>match Nat.beq i j with|true=>false|false=>true
def D.freeL (i:Nat):List D→Bool
 | []=>true
 | d::ds=>match D.free i d with|true=>D.freeL i ds|false=>false
end
def Env.off (E E':Env)(i:Nat):Prop := ∀ j,j≠i→E'.blk j=E.blk j∧E'.siz j=E.siz j∧E'.kn j=E.kn j∧E'.real j=E.real j∧E'.lpr j=E.lpr j
theorem jaL {i j:Nat}(h:(match Nat.beq i j with|true=>false|false=>true)=true):j≠i:=by
 intro e;subst e
 rw[Nat.beq_refl] at h;simp at h
mutual
theorem Den.env {E E':Env}{h:Pub}{i:Nat}(he:E.off E' i):∀ {d:D} {v:Value},d.free i=true→Den E h d v→Den E' h d v
 | .any,_,_,_=>by simp[Den]
 | .undef,_,_,H=>by simpa [Den] using H
 | .bool _,_,_,H=>by simpa [Den] using H
 | .int _ _,_,_,H=>by simpa [Den] using H
 | .str _,_,_,H=>by simpa [Den] using H
 | .nil,_,_,H=>by simpa [Den] using H
 | .ints k xs,v,_,H=>by simpa [Den] using H
 | .slf _ _ _,_,_,H=>by simpa [Den] using H
 | .iarr _ _,_,_,H=>by simpa [Den] using H
 | .agg ds,v,F,H=>by
  simp only[Den] at H ⊢
  simp only[D.free] at F
  obtain⟨vs,h1,h2,h3⟩:=H
  exact⟨vs,h1,DenL.env he F h2,h3⟩
 | .tup ds,v,F,H=>by
  simp only[Den] at H ⊢
  simp only[D.free] at F
  obtain⟨vs,h1,h2⟩:=H
  exact⟨vs,h1,DenL.env he F h2⟩
 | .fn f first caps,v,F,H=>by
  simp only[Den] at H ⊢
  simp only[D.free] at F
  obtain⟨us,vs,h1,h2,h3⟩:=H
  cases hd:D.freeL i first with
  | false=>rw[hd] at F;simp at F
  | true=>rw[hd] at F;exact⟨us,vs,h1,DenL.env he hd h2,DenL.env he F h3⟩
 | .ref ds,v,F,H=>by
  simp only[Den] at H ⊢
  simp only[D.free] at F
  obtain⟨b,o,h1,vs,h2,h3,h4⟩:=H
  exact⟨b,o,h1,vs,DenL.env he F h2,h3,h4⟩
 | .box j _,_,F,H=>by
  simp only[Den] at H ⊢
  simp only[D.free] at F
  rw[(he j (jaL F)).1,(he j (jaL F)).2.2.2.1];exact H
 | .osl j _ _,_,F,H=>by
  simp only[Den] at H ⊢
  simp only[D.free] at F
  rw[(he j (jaL F)).1,(he j (jaL F)).2.1,(he j (jaL F)).2.2.1,(he j (jaL F)).2.2.2.1];exact H
 | .bsl j _ _ _,_,F,H=>by
  simp only[Den] at H ⊢
  simp only[D.free] at F
  rw[(he j (jaL F)).1,(he j (jaL F)).2.1,(he j (jaL F)).2.2.2.1];exact H
 | .gd c d,v,F,H=>by
  simp only[Den] at H ⊢
  simp only[D.free] at F
  exact⟨fun hc=>Den.env he F (H.1 hc),H.2⟩
 | .gp _,_,_,H=>by simpa [Den] using H
 | .val _,_,_,H=>by simpa [Den] using H
 | .anyb _,_,_,H=>by simpa [Den] using H
 | .yld j,_,F,H=>by
  simp only[Den] at H ⊢
  simp only[D.free] at F
  rw[(he j (jaL F)).1];exact H
 | .mapr j,_,F,H=>by
  simp only[Den] at H ⊢
  simp only[D.free] at F
  rw[(he j (jaL F)).1,(he j (jaL F)).2.2.2.1];exact H
theorem DenL.env {E E':Env}{h:Pub}{i:Nat}(he:E.off E' i):∀ {ds:List D} {vs:List Value},D.freeL i ds=true→DenL E h ds vs→DenL E' h ds vs
 | [],_,_,H=>by simpa [DenL] using H
 | d::ds,vs,F,H=>by
  simp only[DenL] at H ⊢
  simp only[D.freeL] at F
  obtain⟨v,vs',h1,h2,h3⟩:=H
  cases hd:D.free i d with
  | false=>rw[hd] at F;simp at F
  | true=>rw[hd] at F;exact⟨v,vs',h1,Den.env he hd h2,DenL.env he F h3⟩
end
abbrev Sl:=List (Nat×D)
abbrev Hp:=List (Nat×Chunk)
def look:Sl→Nat→D
 | [],_ => .any
 | (s,d)::L,t=>match Nat.beq s t with|true=>d|false=>look L t
def lookH:Hp→Nat→Option Chunk
 | [],_=>none
 | (s,c)::H,i=>match Nat.beq s i with|true=>some c|false=>lookH H i
theorem jaI (s:Nat)(d:D)(L:Sl)(t:Nat):look ((s,d)::L) t=if s=t then d else look L t:=by
 rw[look]
 by_cases h:s=t
 ·subst h;simp[Nat.beq_refl]
 ·have:Nat.beq s t=false:=by
   cases hb:Nat.beq s t with
   | false=>rfl
   | true=>exact absurd (Nat.eq_of_beq_eq_true hb) h
  simp[this,h]
theorem jag (s:Nat)(c:Chunk)(H:Hp)(i:Nat):lookH ((s,c)::H) i=if s=i then some c else lookH H i:=by
 rw[lookH]
 by_cases h:s=i
 ·subst h;simp[Nat.beq_refl]
 ·have:Nat.beq s i=false:=by
   cases hb:Nat.beq s i with
   | false=>rfl
   | true=>exact absurd (Nat.eq_of_beq_eq_true hb) h
  simp[this,h]
def lpRec (r:Loop)(p:Option Code):Loop := { r with state:=if p.isNone then .ready else .done,pending:=p }
def MpOk (h:Pub):List (Int×D)→List MapEntry→Prop
 | [],l=>l=[]
 | (k,d)::es,l => ∃ e l',l=e::l'∧e.key = .int .i64 k∧Den Env.dummy h d e.val∧MpOk h es l'
theorem MpOk.mono {h h':Pub}(hh:h.Le h'):∀ {es:List (Int×D)} {l:List MapEntry},MpOk h es l→MpOk h' es l
 | [],_,H=>H
 | (_,_)::_,_,H=>by
  obtain⟨e,l',h1,h2,h3,h4⟩:=H
  exact⟨e,l',h1,h2,Den.mono hh h3,MpOk.mono hh h4⟩
def ChunkOk (E:Env)(h:Pub)(w:World)(i:Nat):Chunk→Prop
 | .gone=>True
 | .lp p=>E.real i=true ∧ ∃ r,E.lpr i=some r∧w.heap[E.blk i]? = some (.loop (lpRec r p))
 | .mp es=>E.real i=true ∧ ∃ l ck,w.heap[E.blk i]? = some (.map l ck)∧MpOk h es l.toList
 | .box ds=>E.real i=true ∧ ∃ vs rest T,w.heap[E.blk i]? = some (.cells (vs++rest).toArray T (0,0))∧DenL E h ds vs∧(∀ v∈vs,v.oneCell'=true)∧E.siz i=vs.length+rest.length
 | .arr k xs=>(E.real i=false∧xs=[])∨(E.real i=true ∧ ∃ (rest:List Value) (T:TypeId),w.heap[E.blk i]? = some (.cells (xs.map (Value.int k)++rest).toArray T (0,0))∧E.siz i=xs.length+rest.length∧(∀ n∈xs,InR k n)∧E.kn i=xs.length)
def Chunk.cel:Chunk→Bool
 | .gone=>false
 | .lp _=>false
 | .mp _=>false
 | _=>true
def Chunk.live:Chunk→Bool
 | .gone=>false
 | _=>true
theorem Chunk.live_of_cel {c:Chunk}(h:c.cel=true):c.live=true:=by cases c<;>first|rfl|cases h
structure MemOk (B:Nat)(E:Env)(h:Pub)(w:World)(H:Hp):Prop where
 ok:∀ i c,lookH H i=some c→ChunkOk E h w i c
 base:∀ i c,lookH H i=some c→c.live=true→E.real i=true→B≤E.blk i
 unpub:∀ i c,lookH H i=some c→c.live=true→E.real i=true → ∀ o,h (E.blk i) o=none
 inj:∀ i j c c',i≠j→lookH H i=some c→lookH H j=some c'→c.live=true→c'.live=true→E.real i=true→E.real j=true→E.blk i≠E.blk j
def GlOk (h:Pub):Prop := ∀ g vs,(g,vs)∈glb → ∀ (i:Nat) v,vs[i]? = some v→h g i=some v
theorem GlOk.mono {h h':Pub}(H:GlOk h)(hh:h.Le h'):GlOk h':=fun g vs hg i v hv=>hh _ _ _ (H g vs hg i v hv)
def GlW (w:World):Prop:=(∀ g vs,(g,vs)∈glb→vs≠[] ∧ ∃ T f,w.heap[g]? = some (.cells vs.toArray T f)) ∧
 ∀ g,g∈glbE → ∃ tp p T f,w.heap[g]? = some (.cells #[.iface tp p] T f)
def GlLt (B:Nat):Prop:=(∀ g vs,(g,vs)∈glb→g<B) ∧ ∀ g,g∈glbE→g<B
structure Agree (h:Pub)(w:World):Prop where
 cells:∀ b o v,h b o=some v→w.cell? ⟨b,o,none⟩=some v
 glob:GlOk h
 blk:GlW w
 errs:∀ g,g∈glbE → ∃ v,h g 0=some v
instance {h:Pub} {w:World} : CoeFun (Agree h w) (fun _ => ∀ b o v,h b o=some v→w.cell? ⟨b,o,none⟩=some v):=⟨Agree.cells⟩
structure Since (w0:World)(h0:Pub)(w:World)(h:Pub):Prop where
 below:Below w0.heap.size w0 w
 le:h0.Le h
 old:∀ b,b<w0.heap.size → ∀ o,h b o=h0 b o
structure Cx where
 w0:World
 h0:Pub
 off:Nat
 E0:Env
 ds:List Deferred
 objs:Nat→Option Obj
def held (o:Obj):Prop:=o.isCells=false∧(∀ r,o = .loop r→r.state = .busy) ∧ ∀ l ck,o ≠ .map l ck
structure Side (cx:Cx)(ds:List Deferred)(w:World):Prop where
 marks:∃ ms:List Nat,ms.Nodup∧ds=ms.map (fun b=>({ target := .collected b,args := #[] } : Deferred))++cx.ds ∧ ∀ b∈ms,cx.w0.heap.size≤b∧cx.objs b=none∧w.heap[b]? = some (.deferred (some []))
 objs:∀ b o,cx.objs b=some o→cx.w0.heap.size≤b∧held o∧w.heap[b]? = some o
theorem Side.keep {cx:Cx}{ds:List Deferred}{w w':World}(hs:Side cx ds w)(hk:∀ (b:Nat) o,w.heap[b]? = some o→o.isCells=false→w'.heap[b]? = some o):Side cx ds w':=by
 obtain⟨⟨ms,h0,h1,h2⟩,h3⟩:=hs
 exact⟨⟨ms,h0,h1,fun b hb=>⟨(h2 b hb).1,(h2 b hb).2.1,hk b _ (h2 b hb).2.2 rfl⟩⟩,fun b o ho=>⟨(h3 b o ho).1,(h3 b o ho).2.1,hk b o (h3 b o ho).2.2 (h3 b o ho).2.1.1⟩⟩
theorem Side.below {cx:Cx}{ds:List Deferred}{w w':World}(hs:Side cx ds w)(hb:Below w.heap.size w w'):Side cx ds w':=
 hs.keep fun b o ho _=>by rw[hb.block b (Array.getElem?_eq_some_iff.1 ho).1];exact ho
structure Sat (cx:Cx)(E:Env)(h:Pub)(a:Act)(w:World)(L:Sl)(H:Hp):Prop where
 knows:∀ t,Den E h (look L t) (a.tmps.getD t Go.undef)
 mem:MemOk cx.w0.heap.size E h w H
 agree:Agree h w
 since:Since cx.w0 cx.h0 w h
 low:∀ j,j<cx.off→E.blk j=cx.E0.blk j∧E.siz j=cx.E0.siz j∧E.kn j=cx.E0.kn j∧E.real j=cx.E0.real j∧E.lpr j=cx.E0.lpr j
 side:Side cx a.defers w
end Go.V
end
section
namespace Go.V
open Go Go.RowKit
inductive TyK where
  | int (k : IntKind) | bool | str | slice (e : Nat) | struct (fs : List (Nat × Nat)) | arr (n e : Nat) | ptr (e : Nat) | func | map (k e : Nat) | other
structure Ty where
 size:Nat
 bytes:Nat
 kind:TyK
 zero:List D
def TyK.isAgg:TyK→Bool
 | .struct _=>true
 | .arr _ _=>true
 | _=>false
abbrev Tb:=List (Nat×Ty)
def tyK:Tb→Nat→(Ty→Prop)→Prop
 | [],_,_=>False
 | (s,y)::L,t,K=>match Nat.beq s t with|true=>K y|false=>tyK L t K
def tyL:Tb→Nat→Option Ty
 | [],_=>none
 | (s,y)::L,t=>match Nat.beq s t with|true=>some y|false=>tyL L t
theorem jak {tb:Tb}{t:Nat}{K:Ty→Prop}(h:tyK tb t K):∃ y,tyL tb t=some y∧K y:=by
 induction tb with
 | nil=>exact h.elim
 | cons x L ih=>
  obtain⟨s,y⟩:=x
  simp only[tyK,tyL] at h ⊢
  cases hb:Nat.beq s t with
  | true=>rw[hb] at h;exact⟨y,rfl,h⟩
  | false=>rw[hb] at h;exact ih h
structure TyOk (P:Program)(t:Nat)(y:Ty):Prop where
 info:∃ i z,P.info? t=some i∧i.size=y.size∧i.bytes=y.bytes∧i.zero=some z∧(∀ E h,DenL E h y.zero z.cells.toList)∧(∀ v∈z.cells.toList,v.oneCell'=true) ∧
  (y.kind.isAgg=true → ∃ cs,z = .agg cs)∧z.cells.size=y.size∧(y.kind.isAgg=false→z.oneCell'=true∧y.size=1)
 und:match y.kind with
  | .int k=>P.underlying t=some (.int k)
  | .bool=>P.underlying t=some .bool
  | .str=>P.underlying t=some .string
  | .slice e=>P.underlying t=some (.slice e)
  | .arr n e=>P.underlying t=some (.array n e)
  | .ptr e=>P.underlying t=some (.pointer e)
  | .map k e=>P.underlying t=some (.map k e)
  | .func => ∃ a b c,P.underlying t=some (.func a b c)
  | .struct fs => ∃ fields,P.underlying t=some (.struct fields)∧fields.size=fs.length ∧ ∀ (j o u:Nat),fs[j]? = some (o,u) → ∃ f iu,fields[j]? = some f∧f.offset=o∧f.type=u∧P.info? u=some iu∧iu.size≠0
  | .other => ∃ d,P.underlying t=some d∧(∀ f,d ≠ .struct f)∧(∀ n e,d ≠ .array n e)
 eqs:∀ fields,P.underlying t=some (.struct fields)→P.stoodInHeld t=false ∧ ∀ f∈fields.toList,f.name ≠ "_"
def TbOk (P:Program)(tb:Tb):Prop := ∀ t y,tyL tb t=some y→TyOk P t y
section
variable {P : Program} {t : Nat} {y : Ty}
theorem TyOk.sizeOf (h:TyOk P t y)(w:World):(sizeOf t).run P w = .ok y.size w:=by
 obtain⟨i,z,h1,h2,_⟩:=h.info
 simp[Go.sizeOf,typeInfo,h1,h2]
theorem TyOk.isAgg (h:TyOk P t y)(w:World):(Go.isAgg t).run P w = .ok y.kind.isAgg w:=by
 have:=h.und
 cases hk:y.kind<;>rw[hk] at this<;>simp only at this
 case struct fs=>obtain⟨f,h1,_⟩:=this;simp[Go.isAgg,run_underlying h1,TyK.isAgg]
 case func=>obtain⟨a,b,c,h1⟩:=this;simp[Go.isAgg,run_underlying h1,TyK.isAgg]
 case other=>
  obtain⟨d,h1,h2,h3⟩:=this
  simp only[Go.isAgg,Sem.run_bind,run_underlying h1,Result.andThen_ok,TyK.isAgg]
  cases d<;>first|rfl|exact absurd rfl (h2 _)|exact absurd rfl (h3 _ _)
 all_goals simp[Go.isAgg,run_underlying this,TyK.isAgg]
end
-- reading the frame
def lookK:Sl→Nat→(D→Prop)→Prop
 | [],_,K=>K .any
 | (s,d)::L,t,K=>match Nat.beq s t with|true=>K d|false=>lookK L t K
theorem jbS (L:Sl)(t:Nat)(K:D→Prop):lookK L t K=K (look L t):=by
 induction L with
 | nil=>rfl
 | cons x L ih=>
  obtain⟨s,d⟩:=x
  simp only[lookK,look]
  cases hb:Nat.beq s t with
  | true=>rfl
  | false=>exact ih
def inRb (k:IntKind)(n:Int):Bool:=decide (lo k≤n) && decide (n≤hi k)
theorem inRb_iff {k:IntKind}{n:Int}(h:inRb k n=true):InR k n:=by
 simp only[inRb,jjv,decide_eq_true_eq] at h;exact h
def ofVal:Value→D
 | .bool b => .bool b
 | .int k n=>match inRb k n with|true => .int k n|false => .any
 | .string s=>match Nat.ble s.size 1000000 with|true => .str s.data.toList|false => .any
 | .slice none 0 0 => .nil
 | .tuple vs=>match vs.toList with|[] => .undef|_ => .any
 | _ => .any
theorem jhO (E:Env)(h:Pub)(v:Value):Den E h (ofVal v) v:=by
 cases v with
 | bool b=>simp[ofVal,Den]
 | int k n=>
  simp only[ofVal]
  cases hr:inRb k n with
  | true=>simp only[Den];exact⟨trivial,inRb_iff hr⟩
  | false=>simp[Den]
 | string s=>
  simp only[ofVal]
  cases hr:Nat.ble s.size 1000000 with
  | true=>
   have:=jjw hr
   simp only[Den]
   refine⟨Js,?_⟩
   have h2:s.data.toList.length=s.size:=Array.length_toList
   omega
  | false=>simp[Den]
 | slice a n c=>
  cases a with
  | some a=>simp[ofVal,Den]
  | none=>
   cases n with
   | succ n=>simp[ofVal,Den]
   | zero=>cases c with
    | zero=>simp[ofVal,Den]
    | succ c=>simp[ofVal,Den]
 | tuple vs=>
  simp only[ofVal]
  split
  ·rename_i hvs
   simp only[Den,Go.undef]
   congr 1
   exact Array.toList_inj.1 (by simpa using hvs)
  ·simp[Den]
 | _=>simp[ofVal,Den]
def rd (L:Sl):Operand→D
 | .tmp t=>look L t
 | .const v=>ofVal v
 | .global g => .gp g
 | .func f => .fn f [] []
def ofValK (v:Value)(K:D→Prop):Prop:=match v with
 | .bool b=>K (.bool b)
 | .int k n=>match inRb k n with|true=>K (.int k n)|false=>K .any
 | .string s=>match Nat.ble s.size 1000000 with|true=>K (.str s.data.toList)|false=>K .any
 | .slice none 0 0=>K .nil
 | .tuple vs=>match vs.toList with|[]=>K .undef|_=>K .any
 | _=>K .any
theorem ofValK_eq (v:Value)(K:D→Prop):ofValK v K=K (ofVal v):=by
 unfold ofValK ofVal
 split<;>first|rfl|(split<;>rfl)
def rdK (L:Sl)(x:Operand)(K:D→Prop):Prop:=match x with
 | .tmp t=>lookK L t K
 | .const v=>ofValK v K
 | .global g=>K (.gp g)
 | .func f=>K (.fn f [] [])
theorem rdK_eq (L:Sl)(x:Operand)(K:D→Prop):rdK L x K=K (rd L x):=by
 cases x<;>first|rfl|exact jbS _ _ _|exact ofValK_eq _ _
theorem den_rd {E:Env}{h:Pub}{L:Sl}{a:Act}(hk:∀ t,Den E h (look L t) (a.tmps.getD t Go.undef))(x:Operand):Den E h (rd L x) (a.eval x):=by
 cases x with
 | tmp t=>exact hk t
 | const v=>exact jhO E h v
 | global g=>simp[rd,Act.eval,Den]
 | func f=>simp[rd,Act.eval,Den,DenL]
def rdg (g:Prop)(L:Sl)(x:Operand)(K:D→Prop):Prop:=
 rdK L x fun d=>match d with
  | .gd c d=>(g→c=true)∧K d
  | d=>K d
theorem jat {g:Prop}{L:Sl}{x:Operand}{K:D→Prop}(h:rdg g L x K) :
  ∃ d,K d ∧ ∀ (E:Env) (hp:Pub) (a:Act),g→Den E hp (rd L x) (a.eval x)→Den E hp d (a.eval x):=by
 unfold rdg at h
 rw[rdK_eq] at h
 generalize rd L x=d0 at h
 cases d0 with
 | gd c d=>
  exact⟨d,h.2,fun E hp a hg H=>by simp only[Den] at H;exact H.1 (h.1 hg)⟩
 | _=>exact⟨_,h,fun E hp a _ H=>H⟩
def nthK:List D→Nat→(D→Prop)→Prop
 | [],_,_=>False
 | d::_,0,K=>K d
 | _::ds,n+1,K=>nthK ds n K
theorem jfl {ds:List D}{n:Nat}{K:D→Prop}(h:nthK ds n K):∃ d,ds[n]? = some d∧K d:=by
 induction ds generalizing n with
 | nil=>exact h.elim
 | cons d ds ih=>
  cases n with
  | zero=>exact⟨d,rfl,h⟩
  | succ n=>exact ih h
def dropK:List D→Nat→(List D→Prop)→Prop
 | ds,0,K=>K ds
 | [],_+1,_=>False
 | _::ds,n+1,K=>dropK ds n K
theorem jcb {ds:List D}{n:Nat}{K:List D→Prop}(h:dropK ds n K):n≤ds.length∧K (ds.drop n):=by
 induction n generalizing ds with
 | zero=>exact⟨jjx _,by simpa [dropK] using h⟩
 | succ n ih=>
  cases ds with
  | nil=>exact h.elim
  | cons d ds=>have:=ih h;exact⟨by simp;exact this.1,by simpa using this.2⟩
def takeK:List D→Nat→(List D→Prop)→Prop
 | _,0,K=>K []
 | [],_+1,_=>False
 | d::ds,n+1,K=>takeK ds n fun r=>K (d::r)
theorem jbQ {ds:List D}{n:Nat}{K:List D→Prop}(h:takeK ds n K):n≤ds.length∧K (ds.take n):=by
 induction n generalizing ds K with
 | zero=>exact⟨jjx _,by simpa [takeK] using h⟩
 | succ n ih=>
  cases ds with
  | nil=>exact h.elim
  | cons d ds=>have:=ih h;exact⟨by simp;exact this.1,by simpa using this.2⟩
theorem DenL.length {E:Env}{h:Pub}{ds:List D}{vs:List Value}(H:DenL E h ds vs):vs.length=ds.length:=by
 induction ds generalizing vs with
 | nil=>simp only[DenL] at H;simp[H]
 | cons d ds ih=>
  simp only[DenL] at H
  obtain⟨v,vs',rfl,_,h2⟩:=H
  simp[ih h2]
theorem DenL.get {E:Env}{h:Pub}{ds:List D}{vs:List Value}(H:DenL E h ds vs){i:Nat}{d:D}(hd:ds[i]? = some d):∃ v,vs[i]? = some v∧Den E h d v:=by
 induction ds generalizing vs i with
 | nil=>simp at hd
 | cons x ds ih=>
  simp only[DenL] at H
  obtain⟨v,vs',rfl,h1,h2⟩:=H
  cases i with
  | zero=>simp at hd;subst hd;exact⟨v,rfl,h1⟩
  | succ i=>simpa using ih h2 (by simpa using hd)
theorem DenL.drop {E:Env}{h:Pub}{ds:List D}{vs:List Value}(H:DenL E h ds vs)(n:Nat):DenL E h (ds.drop n) (vs.drop n):=by
 induction n generalizing ds vs with
 | zero=>simpa using H
 | succ n ih=>
  cases ds with
  | nil=>simp only[DenL] at H;subst H;simp[DenL]
  | cons d ds=>
   simp only[DenL] at H
   obtain⟨v,vs',rfl,_,h2⟩:=H
   simpa using ih h2
theorem DenL.take {E:Env}{h:Pub}{ds:List D}{vs:List Value}(H:DenL E h ds vs)(n:Nat):DenL E h (ds.take n) (vs.take n):=by
 induction n generalizing ds vs with
 | zero=>simp[DenL]
 | succ n ih=>
  cases ds with
  | nil=>simp only[DenL] at H;subst H;simp[DenL]
  | cons d ds=>
   simp only[DenL] at H
   obtain⟨v,vs',rfl,h1,h2⟩:=H
   simp only[List.take_succ_cons,DenL]
   exact⟨v,_,rfl,h1,ih h2⟩
theorem DenL.append {E:Env}{h:Pub}{ds es:List D}{vs us:List Value}(H:DenL E h ds vs)(G:DenL E h es us):DenL E h (ds++es) (vs++us):=by
 induction ds generalizing vs with
 | nil=>simp only[DenL] at H;subst H;simpa using G
 | cons d ds ih=>
  simp only[DenL] at H
  obtain⟨v,vs',rfl,h1,h2⟩:=H
  simp only[List.cons_append,DenL]
  exact⟨v,_,rfl,h1,ih h2⟩
end Go.V
end
section
namespace Go.V
open Go Go.RowKit
theorem guard_arr {P:Program}{t e n:Nat}{k:IntKind}(hu:P.underlying t=some (.array n e))(hue:P.underlying e=some (.int k)):P.eqGuardType P.depth t=false:=by
 have:∀ d,P.eqGuardType (d+2) t=false:=fun d=>by
  simp only[Program.eqGuardType,hu,hue]
 exact this _
theorem jdj {P:Program}{e:Nat}{k:IntKind}{i:TypeInfo}(hue:P.underlying e=some (.int k))(hi:P.info? e=some i)(hs:i.size=1)(xs ys:List Int)(d:Nat)(w:World) :
  ∀ is:List Nat,(∀ j∈is,j<xs.length∧j<ys.length) →
   (Op.eqItems (d+1) e (P.cellsOf e) (xs.map (Value.int k)).toArray (ys.map (Value.int k)).toArray is).run P w = .ok (is.all fun j=>xs.getD j 0 == ys.getD j 0) w
 | [],_=>by simp[Op.eqItems]
 | j::is,h=>by
  have hc:P.cellsOf e=1:=by simp[Program.cellsOf,hi,hs]
  have hpl:P.plainKey e=true:=by simp[Program.plainKey,hue]
  obtain⟨h1,h2⟩:=h j Js
  have g1:(xs.map (Value.int k)).toArray[j*P.cellsOf e]? = some (.int k (xs.getD j 0)):=by
   rw[hc,Nat.mul_one];simp[h1]
  have g2:(ys.map (Value.int k)).toArray[j*P.cellsOf e]? = some (.int k (ys.getD j 0)):=by
   rw[hc,Nat.mul_one];simp[h2]
  have ih:=jdj hue hi hs xs ys d w is (fun q hq=>h q (by simp[hq]))
  simp only[Op.eqItems,Sem.run_bind,run_part_plain w hpl g1,run_part_plain w hpl g2,Result.andThen_ok,run_equalIn_int w d e k k _ _ hue]
  cases hb:xs.getD j 0 == ys.getD j 0
  ·simp only[List.all_cons,hb];simp
  ·simp only[List.all_cons,hb,Bool.true_and];simpa using ih
theorem all_eq {xs ys:List Int}{n:Nat}(hx:xs.length=n)(hy:ys.length=n):((List.range n).all fun j=>xs.getD j 0 == ys.getD j 0)=decide (xs=ys):=by
 by_cases h:xs=ys
 ·subst h;simp
 ·simp only[h,decide_false]
  rw[Bool.eq_false_iff]
  intro ha
  simp only[jj7,List.mem_range,beq_iff_eq] at ha
  refine h (List.ext_getElem Jo fun j h1 h2=>?_)
  have:=ha j Jo
  simpa [jj8,h1,h2] using this
theorem jh6 {P:Program}{t e n:Nat}{k:IntKind}{i:TypeInfo}(hu:P.underlying t=some (.array n e))(hue:P.underlying e=some (.int k))(hi:P.info? e=some i)(hs:i.size=1){xs ys:List Int}(hx:xs.length=n)(hy:ys.length=n)(w:World) :
  (Op.equal t (.agg (xs.map (Value.int k)).toArray) (.agg (ys.map (Value.int k)).toArray)).run P w = .ok (decide (xs=ys)) w:=by
 have:∀ d,(Op.equalIn (d+2) t (.agg (xs.map (Value.int k)).toArray) (.agg (ys.map (Value.int k)).toArray)).run P w = .ok (decide (xs=ys)) w:=fun d=>by
  rw[run_equalIn_array w (d+1) _ _ hu hi,jdj hue hi hs xs ys d w _ (fun j hj=>by simp at hj;omega),all_eq hx hy]
 exact this 9998
theorem jdH {P:Program}{t e n:Nat}{k:IntKind}(hu:P.underlying t=some (.array n e))(hue:P.underlying e=some (.int k))(op:BinOp)(x y:Operand)(a b:Array Value)(w:World) :
  (eqGuard op t x y (.agg a) (.agg b)).run P w = .ok () w:=by
 have hg:=guard_arr hu hue
 have hp:(program:Sem Program).run P w = .ok P w:=rfl
 cases op<;>simp[eqGuard,Sem.run_bind,hp,hg]
end Go.V
end
section
namespace Go.V
open Go Go.RowKit
structure Facts (E:Env)(h:Pub)(a:Act)(w:World)(L:Sl)(H:Hp):Prop where
 knows:∀ t,Den E h (look L t) (a.tmps.getD t Go.undef)
 chunk:∀ i c,lookH H i=some c→ChunkOk E h w i c
 agree:Agree h w
theorem Facts.rd {E:Env}{h:Pub}{a:Act}{w:World}{L:Sl}{H:Hp}(F:Facts E h a w L H)(x:Operand):Den E h (rd L x) (a.eval x):=den_rd F.knows x
def Gives (P:Program)(E:Env)(h:Pub)(s:Sem Value)(w:World)(d:D):Prop := ∃ v,s.run P w = .ok v w∧Den E h d v
theorem Gives.pure {P:Program}{E:Env}{h:Pub}{w:World}{d:D}{v:Value}(H:Den E h d v):Gives P E h (Pure.pure v) w d:=⟨v,rfl,H⟩
def kE:IntKind→IntKind→Bool
 | .i8,.i8 | .i16,.i16 | .i32,.i32 | .i64,.i64 | .u8,.u8 | .u16,.u16 | .u32,.u32 | .u64,.u64=>true
 | _,_=>false
theorem kE_eq {a b:IntKind}(h:kE a b=true):a=b:=by cases a<;>cases b<;>first|rfl|exact absurd h Jd
theorem jb3 (k:IntKind)(n:Int):InR k (k.wrap n):=by
 cases k<;>simp[InR,lo,hi,IntKind.wrap,IntKind.signed,IntKind.bits]<;>(try split)<;>omega
def wrO (k:IntKind)(A:Prop)(z:Int)(K:D→Prop):Prop:=match k with
 | .u64=>(A∧K (.int .u64 z))∨K (.int .u64 (IntKind.u64.wrap z))
 | k=>A∧K (.int k z)
theorem wrO_el {g:Prop}{k:IntKind}{m n z:Int}{K:D→Prop}(H:wrO k (g→InR k m→InR k n→InR k z) z K) :
  ∃ z',K (.int k z')∧(g→InR k m→InR k n→k.wrap z=z'∧InR k z'):=by
 have plain:∀ k:IntKind,((g→InR k m→InR k n→InR k z)∧K (.int k z)) → ∃ z',K (.int k z')∧(g→InR k m→InR k n→k.wrap z=z'∧InR k z'):=fun k h=>⟨z,h.2,fun a b c=>⟨jbX (h.1 a b c),h.1 a b c⟩⟩
 cases k<;>simp only[wrO] at H
 case u64=>
  rcases H with H|H
  ·exact plain _ H
  ·exact⟨_,H,fun _ _ _=>⟨rfl,jb3 _ _⟩⟩
 all_goals exact plain _ H
def binI (g:Prop)(op:BinOp)(k:IntKind)(m n:Int)(K:D→Prop):Prop:=match op with
 | .add=>wrO k (g→InR k m→InR k n→InR k (m+n)) (m+n) K
 | .sub=>wrO k (g→InR k m→InR k n→InR k (m-n)) (m-n) K
 | .mul=>wrO k (g→InR k m→InR k n→InR k (m*n)) (m*n) K
 | .quo=>((g→InR k m→InR k n→0≤m∧0<n)∧K (.int k (m/n)))∨((g→InR k m→InR k n→n≠0∧InR k (m.tdiv n))∧K (.int k (m.tdiv n)))
 | .rem=>((g→InR k m→InR k n→0≤m∧0<n)∧K (.int k (m%n)))∨((g→InR k m→InR k n→n≠0)∧K (.int k (m.tmod n)))
 | .eql=>K (.bool (decide (m=n)))
 | .neq=>K (.bool (decide (m≠n)))
 | .lss=>K (.bool (decide (m<n)))
 | .leq=>K (.bool (decide (m≤n)))
 | .gtr=>K (.bool (decide (m>n)))
 | .geq=>K (.bool (decide (m≥n)))
 | .and=>K (.int k (bits .and k m n))
 | .or=>K (.int k (bits .or k m n))
 | .xor=>K (.int k (bits .xor k m n))
 | .andNot=>K (.int k (bits .andNot k m n))
 | _=>False
theorem jcp (k:IntKind):lo k≤0:=by cases k<;>decide
theorem jd7 (k:IntKind):0≤hi k:=by cases k<;>decide
theorem inR_ediv {k:IntKind}{m n:Int}(hm:InR k m)(h0:0≤m)(h1:0<n):InR k (m/n):=by
 have h2:m/n≤m:=by
  have:=Int.ediv_le_self (a:=m) n h0;exact this
 have h3:0≤m/n:=jjy h0 Jo
 exact⟨by have:=jcp k;omega,by have:=hm.2;omega⟩
theorem inR_emod {k:IntKind}{m n:Int}(hm:InR k m)(h0:0≤m)(h1:0<n):InR k (m%n):=by
 have h3:0≤m%n:=jjz _ Jo
 have h2:m%n≤m:=by
  have:=jjA m n
  have h4:0≤n*(m/n):=jjB Jo (jjy h0 Jo)
  omega
 exact⟨by have:=jcp k;omega,by have:=hm.2;omega⟩
theorem inR_tmod {k:IntKind}{m n:Int}(hm:InR k m):InR k (m.tmod n):=by
 obtain⟨h1,h2⟩:=hm
 have h5:=jcp k;have h6:=jd7 k
 have hle:(m.tmod n).natAbs≤m.natAbs:=by rw[Int.natAbs_tmod];exact Nat.mod_le _ _
 rcases Int.le_total 0 m with h0|h0
 ·have:=Int.tmod_nonneg n h0
  exact⟨Jo,Jo⟩
 ·have:m.tmod n≤0:=by
   have h7:=Int.tmod_nonneg n (a := -m) Jo
   rw[Int.neg_tmod] at h7;omega
  exact⟨Jo,Jo⟩
theorem bin_int {P:Program}{op:BinOp}{t:Nat}{x y:Operand}{k:IntKind}{m n:Int}{g:Prop}{K:D→Prop}
  (H:binI g op k m n K):∃ d,K d ∧ ∀ E h w,InR k m→InR k n→g→Gives P E h (do eqGuard op t x y (.int k m) (.int k n);binOp op t (.int k m) (.int k n)) w d:=by
 cases op<;>simp only[binI] at H
 case add=>
  obtain⟨z,hz,hr⟩:=wrO_el H
  exact⟨_,hz,fun _ _ _ hm hn hg=>⟨_,by simp[eqGuard,binOp,Op.intArith];rfl,by rw[(hr hg hm hn).1];simp only[Den];exact⟨trivial,(hr hg hm hn).2⟩⟩⟩
 case sub=>
  obtain⟨z,hz,hr⟩:=wrO_el H
  exact⟨_,hz,fun _ _ _ hm hn hg=>⟨_,by simp[eqGuard,binOp,Op.intArith];rfl,by rw[(hr hg hm hn).1];simp only[Den];exact⟨trivial,(hr hg hm hn).2⟩⟩⟩
 case mul=>
  obtain⟨z,hz,hr⟩:=wrO_el H
  exact⟨_,hz,fun _ _ _ hm hn hg=>⟨_,by simp[eqGuard,binOp,Op.intArith];rfl,by rw[(hr hg hm hn).1];simp only[Den];exact⟨trivial,(hr hg hm hn).2⟩⟩⟩
 case quo=>
  rcases H with H|H
  ·refine⟨_,H.2,fun _ _ _ hm hn hg=>⟨.int k (k.wrap (m.tdiv n)),?_,?_⟩⟩
   ·have:=(H.1 hg hm hn).2
    simp[eqGuard,binOp,Op.intDiv,show n≠0 by omega]
   ·have h1:=inR_ediv hm (H.1 hg hm hn).1 (H.1 hg hm hn).2
    rw[Int.tdiv_eq_ediv_of_nonneg (H.1 hg hm hn).1,jbX h1];exact⟨rfl,h1⟩
  ·refine⟨_,H.2,fun _ _ _ hm hn hg=>⟨.int k (k.wrap (m.tdiv n)),?_,?_⟩⟩
   ·have:=(H.1 hg hm hn).1
    simp[eqGuard,binOp,Op.intDiv,this]
   ·rw[jbX (H.1 hg hm hn).2];exact⟨rfl,(H.1 hg hm hn).2⟩
 case rem=>
  rcases H with H|H
  ·refine⟨_,H.2,fun _ _ _ hm hn hg=>⟨.int k (m.tmod n),?_,?_⟩⟩
   ·have:=(H.1 hg hm hn).2
    simp[eqGuard,binOp,Op.intDiv,show n≠0 by omega]
   ·have h1:=inR_emod hm (H.1 hg hm hn).1 (H.1 hg hm hn).2
    rw[Int.tmod_eq_emod_of_nonneg (H.1 hg hm hn).1];exact⟨rfl,h1⟩
  ·refine⟨_,H.2,fun _ _ _ hm hn hg=>⟨.int k (m.tmod n),?_,?_⟩⟩
   ·have:=H.1 hg hm hn
    simp[eqGuard,binOp,Op.intDiv,this]
   ·exact⟨rfl,inR_tmod hm⟩
 case eql=>exact⟨_,H,fun _ _ _ _ _ _=>⟨_,by simp[eqGuard,binOp,Op.intCmp];rfl,by simp only[Den];congr 1⟩⟩
 case neq=>exact⟨_,H,fun _ _ _ _ _ _=>⟨_,by simp[eqGuard,binOp,Op.intCmp];rfl,by simp only[Den];congr 1;by_cases e:m=n<;>simp[e]⟩⟩
 case lss=>exact⟨_,H,fun _ _ _ _ _ _=>⟨_,by simp[eqGuard,binOp,Op.intCmp];rfl,by simp only[Den]⟩⟩
 case leq=>exact⟨_,H,fun _ _ _ _ _ _=>⟨_,by simp[eqGuard,binOp,Op.intCmp];rfl,by simp only[Den]⟩⟩
 case gtr=>exact⟨_,H,fun _ _ _ _ _ _=>⟨_,by simp[eqGuard,binOp,Op.intCmp];rfl,by simp only[Den]⟩⟩
 case geq=>exact⟨_,H,fun _ _ _ _ _ _=>⟨_,by simp[eqGuard,binOp,Op.intCmp];rfl,by simp only[Den]⟩⟩
 case and=>exact⟨_,H,fun _ _ _ _ _ _=>⟨_,by simp[eqGuard,binOp,intBits_and];rfl,by simp only[Den];exact⟨trivial,jb3 _ _⟩⟩⟩
 case or=>exact⟨_,H,fun _ _ _ _ _ _=>⟨_,by simp[eqGuard,binOp,intBits_or];rfl,by simp only[Den];exact⟨trivial,jb3 _ _⟩⟩⟩
 case xor=>exact⟨_,H,fun _ _ _ _ _ _=>⟨_,by simp[eqGuard,binOp,intBits_xor];rfl,by simp only[Den];exact⟨trivial,jb3 _ _⟩⟩⟩
 case andNot=>exact⟨_,H,fun _ _ _ _ _ _=>⟨_,by simp[eqGuard,binOp,intBits_andNot];rfl,by simp only[Den];exact⟨trivial,jb3 _ _⟩⟩⟩
 all_goals exact H.elim
def eqP (tb:Tb)(u:Nat)(d e:D)(K:Bool→Prop):Prop:=tyK tb u fun y=>match y.kind,d,e with
 | .int k,.int k1 m,.int k2 n=>match kE k k1,kE k k2 with
  | true,true=>K (decide (m=n))
  | _,_=>False
 | .str,.str a,.str b=>K (decide (a=b))
 | .bool,.bool a,.bool b=>K (a == b)
 | _,_,_=>False
def eqFs (tb:Tb):List (Nat×Nat)→Nat→List D→List D→(Bool→Prop)→Prop
 | [],_,[],[],K=>K true
 | (o,u)::fs,j,d::ds,e::es,K=>match Nat.beq o j with
  | true=>eqP tb u d e fun b=>eqFs tb fs (j+1) ds es fun c=>K (b && c)
  | false=>False
 | _,_,_,_,_=>False
def eqItD (tb:Tb)(fs:List (Nat×Nat))(sz:Nat):Nat→List D→List D→(Bool→Prop)→Prop
 | 0,[],[],K=>K true
 | n+1,ds,es,K=>takeK ds sz fun a=>dropK ds sz fun ds'=>takeK es sz fun b=>dropK es sz fun es'=>eqFs tb fs 0 a b fun x=>eqItD tb fs sz n ds' es' fun y=>K (x && y)
 | _,_,_,_=>False
def eqArr (tb:Tb)(n e:Nat)(ds es:List D)(K:Bool→Prop):Prop:=match n with
 | 0=>False
 | m+1=>tyK tb e fun ye=>match ye.kind with
  | .struct fs=>eqItD tb fs ye.size (m+1) ds es K
  | _=>False
theorem eqP_el {P:Program}{tb:Tb}(htb:TbOk P tb){u:Nat}{d e:D}{K:Bool→Prop}(H:eqP tb u d e K) :
  ∃ b,K b∧P.plainKey u=true ∧ ∀ (E:Env) (h:Pub) (w:World) (x y:Value),Den E h d x→Den E h e y → ∀ n,(Op.equalIn (n+1) u x y).run P w = .ok b w:=by
 unfold eqP at H
 obtain⟨y,h1,H⟩:=jak H
 have hty:=htb _ _ h1
 split at H
 ·rename_i k k1 m k2 n hk h0
  have hu:P.underlying u=some (.int k):=by have:=hty.und;rw[hk] at this;exact this
  cases e1:kE k k1 with
  | false=>rw[e1] at H;exact H.elim
  | true=>
   cases e2:kE k k2 with
   | false=>rw[e1,e2] at H;exact H.elim
   | true=>
    rw[e1,e2] at H
    have:=kE_eq e1;subst this
    have:=kE_eq e2;subst this
    refine⟨_,H,by simp[Program.plainKey,hu],fun E h w x y hx hy n=>?_⟩
    simp only[Den] at hx hy
    obtain⟨rfl,_⟩:=hx;obtain⟨rfl,_⟩:=hy
    rw[run_equalIn_int w n u k k _ _ hu];rfl
 ·rename_i a b hk h0
  have hu:P.underlying u=some .string:=by have:=hty.und;rw[hk] at this;exact this
  refine⟨_,H,by simp[Program.plainKey,hu],fun E h w x y hx hy n=>?_⟩
  simp only[Den] at hx hy
  obtain⟨rfl,_⟩:=hx;obtain⟨rfl,_⟩:=hy
  rw[run_equalIn_string w n u _ _ hu]
  simp only[ByteArray.toList_eq]
  congr 1
  by_cases hab:a=b
  ·subst hab;simp
  ·simp[hab]
 ·rename_i a b hk h0
  have hu:P.underlying u=some .bool:=by have:=hty.und;rw[hk] at this;exact this
  refine⟨_,H,by simp[Program.plainKey,hu],fun E h w x y hx hy n=>?_⟩
  simp only[Den] at hx hy
  subst hx hy
  exact run_equalIn_bool w n u a b hu
 ·exact H.elim
theorem jix {P : Program} {tb : Tb} (htb : TbOk P tb) : ∀ {fs : List (Nat × Nat)} {j : Nat} {ds es : List D} {K : Bool → Prop}, eqFs tb fs j ds es K →
    ∃ b, K b ∧ (∀ o u, (o, u) ∈ fs → P.plainKey u = true) ∧ ∀ (E : Env) (h : Pub) (w : World) (vs us : List Value), DenL E h ds vs → DenL E h es us → ∀ (xs ys : Array Value), (∀ i, i < vs.length → xs[j + i]? = vs[i]?) → (∀ i, i < us.length → ys[j + i]? = us[i]?) →
      ∀ fields : List Field, fields.length = fs.length → (∀ (i o u : Nat), fs[i]? = some (o, u) → ∃ f, fields[i]? = some f ∧ f.offset = o ∧ f.type = u ∧ f.name ≠ "_") → ∀ n, (Op.eqFields (n + 1) xs ys fields).run P w = .ok b w
  | [], j, [], [], K, H => ⟨true, H, fun _ _ h => by simp at h, fun E h w vs us _ _ xs ys _ _ fields hl _ n => by
      have : fields = [] := jj9.1 hl
      subst this; simp [Op.eqFields]⟩
  | (o, u) :: fs, j, d :: ds, e :: es, K, H => by
    unfold eqFs at H
    cases hb : Nat.beq o j with
    | false => rw [hb] at H; exact H.elim
    | true =>
      rw [hb] at H
      have := Nat.eq_of_beq_eq_true hb; subst this
      obtain ⟨b, H, hp, hrun⟩ := eqP_el htb H
      obtain ⟨c, H, hp2, hrun2⟩ := jix htb H
      refine ⟨b && c, H, fun o' u' hm => ?_, fun E h w vs us hvs hus xs ys hxs hys fields hl hf n => ?_⟩
      · rcases jka.1 hm with hm | hm
        · cases hm; exact hp
        · exact hp2 _ _ hm
      · simp only [DenL] at hvs hus
        obtain ⟨v, vs, rfl, hv, hvs⟩ := hvs
        obtain ⟨v2, us, rfl, hv2, hus⟩ := hus
        cases fields with
        | nil => simp at hl
        | cons f fields =>
          obtain ⟨f', e1, e2, e3, e4⟩ := hf 0 o u rfl
          simp at e1; subst e1
          have r2 := hrun2 E h w vs us hvs hus xs ys (fun i hi => by have := hxs (i + 1) (by simp; omega); rw [← Nat.add_assoc, Nat.add_right_comm] at this; simpa using this) (fun i hi => by have := hys (i + 1) (by simp; omega); rw [← Nat.add_assoc, Nat.add_right_comm] at this; simpa using this) fields (by simpa using hl) (fun i o' u' hi => by
            obtain ⟨g, g1, g2⟩ := hf (i + 1) o' u' (by simpa using hi)
            exact ⟨g, by simpa using g1, g2⟩) n
          have p1 : (part f.type xs f.offset).run P w = .ok v w := run_part_plain w (by rw [e3]; exact hp) (by have := hxs 0 Js; rw [e2]; simpa using this)
          have p2 : (part f.type ys f.offset).run P w = .ok v2 w := run_part_plain w (by rw [e3]; exact hp) (by have := hys 0 Js; rw [e2]; simpa using this)
          have p3 := hrun E h w v v2 hv hv2 n
          rw [← e3] at p3
          simp only [Op.eqFields, e4, ne_eq, not_false_eq_true, if_true, Sem.run_bind, p1, p2, p3, Result.andThen_ok]
          cases b
          · simp
          · simpa using r2
  | [], _, _ :: _, _, _, H => by simp [eqFs] at H
  | [], _, [], _ :: _, _, H => by simp [eqFs] at H
  | _ :: _, _, [], _, _, H => by simp [eqFs] at H
  | _ :: _, _, _ :: _, [], _, H => by simp [eqFs] at H
theorem guard_str {P:Program}{t:Nat}{fields:Array Field}(hu:P.underlying t=some (.struct fields))(hp:∀ f∈fields.toList,P.plainKey f.type=true):P.eqGuardType P.depth t=false:=by
 have:∀ d,P.eqGuardType (d+2) t=false:=fun d=>by
  simp only[Program.eqGuardType,hu]
  rw[← Array.any_toList,List.any_eq_false]
  intro f hf
  have h:=hp f hf
  unfold Program.plainKey at h
  unfold Program.eqGuardType
  split at h<;>simp_all
 exact this _
theorem jgG {P:Program}{t:Nat}{fields:Array Field}(hu:P.underlying t=some (.struct fields))(hp:∀ f∈fields.toList,P.plainKey f.type=true)(op:BinOp)(x y:Operand)(a b:Array Value)(w:World) :
  (eqGuard op t x y (.agg a) (.agg b)).run P w = .ok () w:=by
 have hg:=guard_str hu hp
 have hp:(program:Sem Program).run P w = .ok P w:=rfl
 cases op<;>simp[eqGuard,Sem.run_bind,hp,hg]
def binD (tb:Tb)(g:Prop)(op:BinOp)(t:Nat)(dx dy:D)(K:D→Prop):Prop:=match dx,dy with
 | .int k m,.int k' n=>match op with
  | .shr=>(g→InR k m→0≤n∧n≤k.bits)∧K (.int k (m/2^n.toNat))
  | .shl=>(g→InR k m→0≤n∧n≤k.bits)∧K (.int k (k.wrap (m*2^n.toNat)))
  | op=>match kE k k' with|true=>binI g op k m n K|false=>False
 | .bool a,.bool b=>match op with
  | .eql=>tyK tb t fun y=>match y.kind with | .bool=>K (.bool (a == b))|_=>False
  | .neq=>tyK tb t fun y=>match y.kind with | .bool=>K (.bool (!(a == b)))|_=>False
  | _=>False
 | .str a,.str b=>match op with
  | .eql=>K (.bool (decide (a=b)))
  | .neq=>K (.bool (decide (a≠b)))
  | .add=>(g→a.length+b.length≤281474976710656)∧K (.str (a++b))
  | _=>False
 | .nil,.nil=>match op with
  | .eql=>tyK tb t fun y=>match y.kind with | .slice _=>K (.bool true)|_=>False
  | .neq=>tyK tb t fun y=>match y.kind with | .slice _=>K (.bool false)|_=>False
  | _=>False
 | .ints _ xs,.nil=>match op with
  | .eql=>tyK tb t fun y=>match y.kind with | .slice _=>K (.anyb fun b=>b=true→xs=[])|_=>False
  | .neq=>tyK tb t fun y=>match y.kind with | .slice _=>K (.anyb fun b=>b=false→xs=[])|_=>False
  | _=>False
 | .iarr k xs,.iarr k' ys=>match kE k k' with
  | true=>tyK tb t fun y=>match y.kind with
   | .arr n e=>tyK tb e fun ye=>match ye.kind with
    | .int k2=>match kE k k2 with
     | true=>match op with
      | .eql=>(g→xs.length=n∧ys.length=n)∧K (.bool (decide (xs=ys)))
      | .neq=>(g→xs.length=n∧ys.length=n)∧K (.bool (!decide (xs=ys)))
      | _=>False
     | false=>False
    | _=>False
   | _=>False
  | false=>False
 | .osl _ _ len,.nil=>match op with
  | .eql=>tyK tb t fun y=>match y.kind with | .slice _=>((g→0<len)∧K (.bool false))∨K (.anyb fun b=>b=true→len=0)|_=>False
  | .neq=>tyK tb t fun y=>match y.kind with | .slice _=>((g→0<len)∧K (.bool true))∨K (.anyb fun b=>b=false→len=0)|_=>False
  | _=>False
 | .slf _ n _,.nil=>match op with
  | .eql=>tyK tb t fun y=>match y.kind with | .slice _=>(g→0<n)∧K (.bool false)|_=>False
  | .neq=>tyK tb t fun y=>match y.kind with | .slice _=>(g→0<n)∧K (.bool true)|_=>False
  | _=>False
 | .agg ds,.agg es=>match op with
  | .eql=>tyK tb t fun y=>match y.kind with | .struct fs=>eqFs tb fs 0 ds es fun b=>K (.bool b) | .arr n e=>eqArr tb n e ds es fun b=>K (.bool b)|_=>False
  | .neq=>tyK tb t fun y=>match y.kind with | .struct fs=>eqFs tb fs 0 ds es fun b=>K (.bool (!b)) | .arr n e=>eqArr tb n e ds es fun b=>K (.bool (!b))|_=>False
  | _=>False
 | _,_=>False
theorem inR_shr {k : IntKind} {m : Int} (h : InR k m) (n : Nat) : InR k (m / 2 ^ n) := by
  have hp : (1 : Int) ≤ 2 ^ n := by
    have : (0 : Int) < 2 ^ n := Int.pow_pos Jd
    omega
  have h1 := jcp k
  have h2 := jd7 k
  obtain ⟨h3, h4⟩ := h
  rcases Int.le_total 0 m with h0 | h0
  · have h5 : 0 ≤ m / 2 ^ n := jjy h0 Jo
    have h6 : m / 2 ^ n ≤ m := Int.ediv_le_self _ h0
    exact ⟨Jo, Jo⟩
  · have h5 : m ≤ m / 2 ^ n := Int.le_ediv_of_mul_le Jo (by
      have := Int.mul_le_mul_of_nonpos_left h0 hp
      omega)
    have h6 : m / 2 ^ n ≤ 0 := by
      have := Int.ediv_le_ediv (by omega : (0 : Int) < 2 ^ n) h0
      simpa using this
    exact ⟨Jo, Jo⟩
theorem jhB {P:Program}{t:Nat}{y:Ty}(h:TyOk P t y)(hk:y.kind = .bool):P.underlying t=some .bool:=by
 have:=h.und;rw[hk] at this;exact this
theorem jeK {P:Program}{t:Nat}{y:Ty}(h:TyOk P t y)(hk:y.kind = .str):P.underlying t=some .string:=by
 have:=h.und;rw[hk] at this;exact this
theorem jdT {P:Program}{t:Nat}{y:Ty}{k:IntKind}(h:TyOk P t y)(hk:y.kind = .int k):P.underlying t=some (.int k):=by
 have:=h.und;rw[hk] at this;exact this
theorem jaw {P:Program}{t:Nat}{y:Ty}{e:Nat}(h:TyOk P t y)(hk:y.kind = .slice e):P.underlying t=some (.slice e):=by
 have:=h.und;rw[hk] at this;exact this
theorem jcD {P:Program}{t:Nat}{y:Ty}{n e:Nat}(h:TyOk P t y)(hk:y.kind = .arr n e):P.underlying t=some (.array n e):=by
 have:=h.und;rw[hk] at this;exact this
theorem je2 {P:Program}{t:Nat}(hu:P.underlying t=some .bool)(a b:Bool)(w:World):(Op.equal t (.bool a) (.bool b)).run P w = .ok (a == b) w:=by
 have:∀ d,(Op.equalIn (d+1) t (.bool a) (.bool b)).run P w = .ok (a == b) w:=fun d=>by simp[Op.equalIn,run_underlying hu]
 exact this 9999
theorem jbU {P:Program}{t e:Nat}(hu:P.underlying t=some (.slice e))(w:World):(Op.equal t (.slice none 0 0) (.slice none 0 0)).run P w = .ok true w:=by
 have:∀ d,(Op.equalIn (d+1) t (.slice none 0 0) (.slice none 0 0)).run P w = .ok true w:=fun d=>by simp[Op.equalIn,run_underlying hu]
 exact this 9999
theorem jbr {P:Program}{t e:Nat}(hu:P.underlying t=some (.slice e))(w:World)(a:Addr)(n c:Nat):(Op.equal t (.slice (some a) n c) (.slice none 0 0)).run P w = .ok false w:=by
 have:∀ d,(Op.equalIn (d+1) t (.slice (some a) n c) (.slice none 0 0)).run P w = .ok false w:=fun d=>by simp[Op.equalIn,run_underlying hu]
 exact this 9999
theorem jb7 {P:Program}{t:Nat}{u v:Value}{b:Bool}{w:World}(x y:Operand)(hb:binOp .eql t u v=(do pure (.bool (← Op.equal t u v))))(hg:eqGuard .eql t x y u v=pure ())(H:(Op.equal t u v).run P w = .ok b w) :
  (do eqGuard .eql t x y u v;binOp .eql t u v:Sem Value).run P w = .ok (.bool b) w:=by
 rw[hg,hb];simp only[Sem.run_bind,Sem.run_pure,Result.andThen_ok,H]
theorem jb6 {P:Program}{t:Nat}{u v:Value}{b:Bool}{w:World}(x y:Operand)(hb:binOp .neq t u v=(do pure (.bool (!(← Op.equal t u v)))))(hg:eqGuard .neq t x y u v=pure ())(H:(Op.equal t u v).run P w = .ok b w) :
  (do eqGuard .neq t x y u v;binOp .neq t u v:Sem Value).run P w = .ok (.bool (!b)) w:=by
 rw[hg,hb];simp only[Sem.run_bind,Sem.run_pure,Result.andThen_ok,H]
theorem jf2 {P:Program}{tb:Tb}(htb:TbOk P tb){t:Nat}{y:Ty}{fs:List (Nat×Nat)}{ds es:List D}{K:Bool→Prop}(h1:tyL tb t=some y)(hk:y.kind = .struct fs)(H:eqFs tb fs 0 ds es K) :
  ∃ b,K b ∧ ∀ (E:Env) (h:Pub) (w:World) (u v:Value),Den E h (.agg ds) u→Den E h (.agg es) v→(Op.equal t u v).run P w = .ok b w ∧ ∃ a c,u = .agg a∧v = .agg c ∧ ∀ (op:BinOp) (x y:Operand),(eqGuard op t x y (.agg a) (.agg c)).run P w = .ok () w:=by
 obtain⟨b,hK,hp,hr⟩:=jix htb H
 have hty:=htb _ _ h1
 have hu:=hty.und
 rw[hk] at hu
 obtain⟨fields,hu,hl,hf⟩:=hu
 obtain⟨e1,e2⟩:=hty.eqs _ hu
 have hfo:P.fieldsOf t=fields:=by simp[Program.fieldsOf,hu]
 have hpl:∀ f∈fields.toList,P.plainKey f.type=true:=fun f hm=>by
  obtain⟨i,hi,rfl⟩:=List.mem_iff_getElem.1 hm
  have hi2:i<fs.length:=by rw[← hl];simpa using hi
  obtain⟨f',iu,g1,g2,g3,_⟩:=hf i fs[i].1 fs[i].2 (by simp[hi2])
  have:fields.toList[i]? = some f':=by rw[← g1];simp
  rw[jkb hi] at this
  cases this
  rw[g3]
  exact hp fs[i].1 fs[i].2 (List.getElem_mem hi2)
 refine⟨b,hK,fun E h w u v hu' hv'=>?_⟩
 simp only[Den] at hu' hv'
 obtain⟨vs,rfl,hvs,_⟩:=hu'
 obtain⟨us,rfl,hus,_⟩:=hv'
 refine⟨?_,_,_,rfl,rfl,fun op x y=>jgG hu hpl op x y _ _ w⟩
 have:∀ d,(Op.equalIn (d+2) t (.agg vs.toArray) (.agg us.toArray)).run P w = .ok b w:=fun d=>by
  rw[run_equalIn_struct w (d+1) t _ _ (by rw[hfo];exact hu) e1,hfo]
  exact hr E h w vs us hvs hus _ _ (fun i _=>Js) (fun i _=>Js) fields.toList (by simpa using hl) (fun i o u hi=>by
   obtain⟨f,iu,g1,g2,g3,_⟩:=hf i o u hi
   have g4:fields.toList[i]? = some f:=by rw[← g1];simp
   exact⟨f,g4,g2,g3,e2 f (jkc g4)⟩) d
 exact this 9998
theorem jh5 {P:Program}{tb:Tb}(htb:TbOk P tb){t:Nat}{y:Ty}{fs:List (Nat×Nat)}{ds es:List D}{K:Bool→Prop}(h1:tyL tb t=some y)(hk:y.kind = .struct fs)(H:eqFs tb fs 0 ds es K) :
  (∃ fields,P.underlying t=some (.struct fields) ∧ ∀ f∈fields.toList,P.plainKey f.type=true) ∧ ∃ b,K b ∧ ∀ (E:Env) (h:Pub) (w:World) (vs us:List Value),DenL E h ds vs→DenL E h es us → ∀ d,(Op.equalIn (d+2) t (.agg vs.toArray) (.agg us.toArray)).run P w = .ok b w:=by
 obtain⟨b,hK,hp,hr⟩:=jix htb H
 have hty:=htb _ _ h1
 have hu:=hty.und
 rw[hk] at hu
 obtain⟨fields,hu,hl,hf⟩:=hu
 obtain⟨e1,e2⟩:=hty.eqs _ hu
 have hfo:P.fieldsOf t=fields:=by simp[Program.fieldsOf,hu]
 have hpl:∀ f∈fields.toList,P.plainKey f.type=true:=fun f hm=>by
  obtain⟨i,hi,rfl⟩:=List.mem_iff_getElem.1 hm
  have hi2:i<fs.length:=by rw[← hl];simpa using hi
  obtain⟨f',iu,g1,g2,g3,_⟩:=hf i fs[i].1 fs[i].2 (by simp[hi2])
  have:fields.toList[i]? = some f':=by rw[← g1];simp
  rw[jkb hi] at this
  cases this
  rw[g3]
  exact hp fs[i].1 fs[i].2 (List.getElem_mem hi2)
 refine⟨⟨fields,hu,hpl⟩,b,hK,fun E h w vs us hvs hus d=>?_⟩
 rw[run_equalIn_struct w (d+1) t _ _ (by rw[hfo];exact hu) e1,hfo]
 exact hr E h w vs us hvs hus _ _ (fun i _=>Js) (fun i _=>Js) fields.toList (by simpa using hl) (fun i o u hi=>by
  obtain⟨f,iu,g1,g2,g3,_⟩:=hf i o u hi
  have g4:fields.toList[i]? = some f:=by rw[← g1];simp
  exact⟨f,g4,g2,g3,e2 f (jkc g4)⟩) d
theorem jdF {P:Program}{t:Nat}{y:Ty}(hy:TyOk P t y)(ha:y.kind.isAgg=true)(vs:List Value)(o:Nat)(w:World) :
  (part t vs.toArray o).run P w = .ok (.agg ((vs.drop o).take y.size).toArray) w:=by
 simp only[part,Sem.run_bind,hy.isAgg w,ha,Result.andThen_ok,if_true,hy.sizeOf w,Sem.run_pure]
 congr 2
 apply Array.toList_inj.1
 simp[List.take_drop]
theorem eqIt_el {P:Program}{tb:Tb}(htb:TbOk P tb){e:Nat}{ye:Ty}{fs:List (Nat×Nat)}(h1:tyL tb e=some ye)(hk:ye.kind = .struct fs):∀ {n:Nat} {ds es:List D} {K:Bool→Prop},eqItD tb fs ye.size n ds es K →
  (n≠0 → ∃ fields,P.underlying e=some (.struct fields) ∧ ∀ f∈fields.toList,P.plainKey f.type=true) ∧ ∃ b,K b ∧ ∀ (E:Env) (h:Pub) (w:World) (vs us:List Value),DenL E h ds vs→DenL E h es us → ∀ (p1 p2:List Value) (j:Nat),p1.length=j*ye.size→p2.length=j*ye.size → ∀ d,
   (Op.eqItems (d+2) e (P.cellsOf e) (p1++vs).toArray (p2++us).toArray (List.range' j n)).run P w = .ok b w
 | 0,[],[],K,H=>⟨fun h=>absurd rfl h,true,H,fun E h w vs us _ _ p1 p2 j _ _ d=>by simp[Op.eqItems]⟩
 | 0,_::_,_,_,H=>by simp[eqItD] at H
 | 0,[],_::_,_,H=>by simp[eqItD] at H
 | n+1,ds,es,K,H=>by
  unfold eqItD at H
  obtain⟨l1,H⟩:=jbQ H
  obtain⟨_,H⟩:=jcb H
  obtain⟨l2,H⟩:=jbQ H
  obtain⟨_,H⟩:=jcb H
  obtain⟨hpl,x,H,hr⟩:=jh5 htb h1 hk H
  obtain⟨_,y,hK,hr2⟩:=eqIt_el htb h1 hk H
  have hty:=htb _ _ h1
  have hag:ye.kind.isAgg=true:=by rw[hk];rfl
  obtain⟨i,z,i1,i2,_⟩:=hty.info
  have hc:P.cellsOf e=ye.size:=by simp[Program.cellsOf,i1,i2]
  refine⟨fun _=>hpl,x && y,hK,fun E h w vs us hv hu p1 p2 j e1 e2 d=>?_⟩
  have lv:=hv.length
  have lu:=hu.length
  have r1:=hr E h w (vs.take ye.size) (us.take ye.size) (hv.take _) (hu.take _) d
  have r2:=hr2 E h w (vs.drop ye.size) (us.drop ye.size) (hv.drop _) (hu.drop _) (p1++vs.take ye.size) (p2++us.take ye.size) (j+1) (by rw[jkd,jke,e1,Nat.min_eq_left Jo,Nat.add_mul,Nat.one_mul]) (by rw[jkd,jke,e2,Nat.min_eq_left Jo,Nat.add_mul,Nat.one_mul]) d
  rw[jkf,List.take_append_drop,jkf,List.take_append_drop] at r2
  have q1:(part e (p1++vs).toArray (j*P.cellsOf e)).run P w = .ok (.agg (vs.take ye.size).toArray) w:=by
   rw[jdF hty hag,hc,← e1,List.drop_left]
  have q2:(part e (p2++us).toArray (j*P.cellsOf e)).run P w = .ok (.agg (us.take ye.size).toArray) w:=by
   rw[jdF hty hag,hc,← e2,List.drop_left]
  rw[List.range'_succ]
  simp only[Op.eqItems,Sem.run_bind,q1,q2,r1,Result.andThen_ok]
  cases x
  ·simp
  ·simpa using r2
theorem guard_arrs {P:Program}{t n e:Nat}{fields:Array Field}(hu:P.underlying t=some (.array n e))(hue:P.underlying e=some (.struct fields))(hp:∀ f∈fields.toList,P.plainKey f.type=true):P.eqGuardType P.depth t=false:=by
 have:∀ d,P.eqGuardType (d+3) t=false:=fun d=>by
  simp only[Program.eqGuardType,hu,hue]
  rw[← Array.any_toList,List.any_eq_false]
  intro f hf
  have h:=hp f hf
  unfold Program.plainKey at h
  unfold Program.eqGuardType
  split at h<;>simp_all
 exact this _
theorem je3 {P:Program}{tb:Tb}(htb:TbOk P tb){t n e:Nat}{y:Ty}{ds es:List D}{K:Bool→Prop}(h1:tyL tb t=some y)(hk:y.kind = .arr n e)(H:eqArr tb n e ds es K) :
  ∃ b,K b ∧ ∀ (E:Env) (h:Pub) (w:World) (u v:Value),Den E h (.agg ds) u→Den E h (.agg es) v→(Op.equal t u v).run P w = .ok b w ∧ ∃ a c,u = .agg a∧v = .agg c ∧ ∀ (op:BinOp) (x y:Operand),(eqGuard op t x y (.agg a) (.agg c)).run P w = .ok () w:=by
 unfold eqArr at H
 cases n with
 | zero=>exact H.elim
 | succ m=>
  obtain⟨ye,h3,H⟩:=jak H
  have hu:=jcD (htb _ _ h1) hk
  split at H
  case h_2=>exact H.elim
  rename_i fs hke
  obtain⟨hpl,b,hK,hr⟩:=eqIt_el htb h3 hke H
  obtain⟨fields,hue,hpl⟩:=hpl Jo
  obtain⟨i,z,i1,i2,_⟩:=(htb _ _ h3).info
  refine⟨b,hK,fun E h w u v hu' hv'=>?_⟩
  simp only[Den] at hu' hv'
  obtain⟨vs,rfl,hvs,_⟩:=hu'
  obtain⟨us,rfl,hus,_⟩:=hv'
  refine⟨?_,_,_,rfl,rfl,fun op x y=>?_⟩
  ·have:∀ d,(Op.equalIn (d+3) t (.agg vs.toArray) (.agg us.toArray)).run P w = .ok b w:=fun d=>by
    rw[run_equalIn_array w (d+2) _ _ hu i1,List.range_eq_range']
    have:=hr E h w vs us hvs hus [] [] 0 Js Js d
    simpa using this
   exact this 9997
  ·have hg:=guard_arrs hu hue hpl
   have hp:(program:Sem Program).run P w = .ok P w:=rfl
   cases op<;>simp[eqGuard,Sem.run_bind,hp,hg]
theorem bin_D {P:Program}{tb:Tb}(htb:TbOk P tb){op:BinOp}{t:Nat}{x y:Operand}{dx dy:D}{g:Prop}{K:D→Prop}
  (H:binD tb g op t dx dy K):∃ d,K d ∧ ∀ E h w u v,Den E h dx u→Den E h dy v→g→Gives P E h (do eqGuard op t x y u v;binOp op t u v) w d:=by
 unfold binD at H
 split at H
 ·rename_i k m k' n
  by_cases hop:op = .shr
  ·subst hop
   refine⟨_,H.2,fun E h w u v hu hv hg=>?_⟩
   simp only[Den] at hu hv
   obtain⟨rfl,h1⟩:=hu;obtain⟨rfl,h2⟩:=hv
   obtain⟨h3,h4⟩:=H.1 hg h1
   refine⟨.int k (m/2^n.toNat),?_,by simp only[Den];exact⟨trivial,inR_shr h1 _⟩⟩
   have e1:binOp .shr t (.int k m) (.int k' n)=Op.shift .shr k m k' n:=rfl
   have e2:eqGuard .shr t x y (.int k m) (.int k' n)=pure ():=by simp[eqGuard]
   rw[e1,e2,shift_shr k k' m n h3 h4]
   rfl
  by_cases hop2:op = .shl
  ·subst hop2
   refine⟨_,H.2,fun E h w u v hu hv hg=>?_⟩
   simp only[Den] at hu hv
   obtain⟨rfl,h1⟩:=hu;obtain⟨rfl,h2⟩:=hv
   obtain⟨h3,h4⟩:=H.1 hg h1
   refine⟨.int k (k.wrap (m*2^n.toNat)),?_,by simp only[Den];exact⟨trivial,jb3 _ _⟩⟩
   have e1:binOp .shl t (.int k m) (.int k' n)=Op.shift .shl k m k' n:=rfl
   have e2:eqGuard .shl t x y (.int k m) (.int k' n)=pure ():=by simp[eqGuard]
   rw[e1,e2,shift_shl k k' m n h3 h4]
   rfl
  have H2:(match kE k k' with|true=>binI g op k m n K|false=>False):=by
   cases op<;>first|exact H|exact absurd rfl hop|exact absurd rfl hop2
  cases hk:kE k k' with
  | false=>rw[hk] at H2;exact H2.elim
  | true=>
   rw[hk] at H2
   have:=kE_eq hk;subst this
   obtain⟨d,hd,hh⟩:=bin_int (P:=P) (t:=t) (x:=x) (y:=y) H2
   refine⟨d,hd,fun E h w u v hu hv hg=>?_⟩
   simp only[Den] at hu hv
   obtain⟨rfl,h1⟩:=hu;obtain⟨rfl,h2⟩:=hv
   exact hh E h w h1 h2 hg
 ·rename_i a b
  split at H
  ·obtain⟨y',h1,h2⟩:=jak H
   have hty:=htb _ _ h1
   split at h2<;>first|exact h2.elim|skip
   rename_i hk
   have hu:=jhB hty hk
   refine⟨_,h2,fun E h w u v hu' hv' hg=>?_⟩
   simp only[Den] at hu' hv'
   subst hu' hv'
   exact⟨_,jb7 x y rfl rfl (je2 hu _ _ w),by simp only[Den]⟩
  ·obtain⟨y',h1,h2⟩:=jak H
   have hty:=htb _ _ h1
   split at h2<;>first|exact h2.elim|skip
   rename_i hk
   have hu:=jhB hty hk
   refine⟨_,h2,fun E h w u v hu' hv' hg=>?_⟩
   simp only[Den] at hu' hv'
   subst hu' hv'
   exact⟨_,jb6 x y rfl rfl (je2 hu _ _ w),by simp only[Den]⟩
  ·exact H.elim
 ·rename_i a b
  split at H
  ·refine⟨_,H,fun E h w u v hu' hv' hg=>?_⟩
   simp only[Den] at hu' hv'
   obtain⟨rfl,_⟩:=hu';obtain⟨rfl,_⟩:=hv'
   refine⟨.bool (decide (a=b)),?_,by simp only[Den]⟩
   simp[eqGuard,binOp,Op.stringOp]
   by_cases e:a=b<;>simp[e]
  ·refine⟨_,H,fun E h w u v hu' hv' hg=>?_⟩
   simp only[Den] at hu' hv'
   obtain⟨rfl,_⟩:=hu';obtain⟨rfl,_⟩:=hv'
   refine⟨.bool (decide (a≠b)),?_,by simp only[Den]⟩
   simp[eqGuard,binOp,Op.stringOp]
   by_cases e:a=b<;>simp[e]
  ·refine⟨_,H.2,fun E h w u v hu' hv' hg=>?_⟩
   simp only[Den] at hu' hv'
   obtain⟨rfl,_⟩:=hu';obtain⟨rfl,_⟩:=hv'
   have hl:=H.1 hg
   refine⟨.string ⟨(a++b).toArray⟩,?_,by simp only[Den];exact⟨trivial,by simpa using hl⟩⟩
   have h1:¬ ((((⟨a.toArray⟩:ByteArray).size+(⟨b.toArray⟩:ByteArray).size:Nat):Int)>IntKind.i64.max):=by
    simp only[ByteArray.size,List.size_toArray,IntKind.max,IntKind.signed,IntKind.bits]
    simp;omega
   simp only[eqGuard,binOp,Op.stringOp]
   rw[if_neg h1]
   simp
   apply ByteArray.ext
   simp
  ·exact H.elim
 ·split at H
  ·obtain⟨y',h1,h2⟩:=jak H
   have hty:=htb _ _ h1
   split at h2<;>first|exact h2.elim|skip
   rename_i hk
   have hu:=jaw hty hk
   refine⟨_,h2,fun E h w u v hu' hv' hg=>?_⟩
   simp only[Den] at hu' hv'
   subst hu' hv'
   exact⟨_,jb7 x y rfl rfl (jbU hu w),by simp only[Den]⟩
  ·obtain⟨y',h1,h2⟩:=jak H
   have hty:=htb _ _ h1
   split at h2<;>first|exact h2.elim|skip
   rename_i hk
   have hu:=jaw hty hk
   refine⟨_,h2,fun E h w u v hu' hv' hg=>?_⟩
   simp only[Den] at hu' hv'
   subst hu' hv'
   exact⟨_,jb6 x y rfl rfl (jbU hu w),by simp only[Den];rfl⟩
  ·exact H.elim
 ·have den:∀ {E:Env} {h:Pub} {k:IntKind} {xs:List Int} {u:Value},Den E h (.ints k xs) u → ∃ a c,u = .slice a xs.length c∧(a=none→xs=[]∧c=0):=by
   intro E h k xs u hu
   simp only[Den,jaQ] at hu
   obtain⟨a,c,rfl,_,_,_,h5⟩:=hu
   refine⟨a,c,rfl,fun e=>?_⟩
   subst e;exact h5
  split at H
  ·obtain⟨y',h1,h2⟩:=jak H
   have hty:=htb _ _ h1
   split at h2<;>first|exact h2.elim|skip
   rename_i hk
   have hu:=jaw hty hk
   refine⟨_,h2,fun E h w u v hu' hv' hg=>?_⟩
   obtain⟨a,c,rfl,ha⟩:=den hu'
   simp only[Den] at hv'
   subst hv'
   cases a with
   | none=>
    obtain⟨rfl,rfl⟩:=ha rfl
    exact⟨_,jb7 x y rfl rfl (jbU hu w),by simp only[Den];exact⟨true,rfl,Js⟩⟩
   | some a=>exact⟨_,jb7 x y rfl rfl (jbr hu w _ _ _),by simp only[Den];exact⟨false,rfl,fun e=>by cases e⟩⟩
  ·obtain⟨y',h1,h2⟩:=jak H
   have hty:=htb _ _ h1
   split at h2<;>first|exact h2.elim|skip
   rename_i hk
   have hu:=jaw hty hk
   refine⟨_,h2,fun E h w u v hu' hv' hg=>?_⟩
   obtain⟨a,c,rfl,ha⟩:=den hu'
   simp only[Den] at hv'
   subst hv'
   cases a with
   | none=>
    obtain⟨rfl,rfl⟩:=ha rfl
    exact⟨_,jb6 x y rfl rfl (jbU hu w),by simp only[Den];exact⟨false,rfl,Js⟩⟩
   | some a=>exact⟨_,jb6 x y rfl rfl (jbr hu w _ _ _),by simp only[Den];exact⟨true,rfl,fun e=>by cases e⟩⟩
  ·exact H.elim
 ·rename_i k xs k' ys
  cases hkk:kE k k' with
  | false=>rw[hkk] at H;exact H.elim
  | true=>
   rw[hkk] at H
   have:=kE_eq hkk;subst this
   obtain⟨y',h1,h2⟩:=jak H
   have hty:=htb _ _ h1
   split at h2<;>first|exact h2.elim|skip
   rename_i n e hk
   have hu:=jcD hty hk
   obtain⟨ye,h3,h4⟩:=jak h2
   have hte:=htb _ _ h3
   split at h4<;>first|exact h4.elim|skip
   rename_i k2 hke
   have hue:=jdT hte hke
   cases hk2:kE k k2 with
   | false=>rw[hk2] at h4;exact h4.elim
   | true=>
    rw[hk2] at h4
    have:=kE_eq hk2;subst this
    obtain⟨iy,z,i1,i2,_,_,_,_,_,_,i9⟩:=hte.info
    have hs1:iy.size=1:=by rw[i2];exact(i9 (by rw[hke];rfl)).2
    have key:∀ (E:Env) (h:Pub) (w:World) (u v:Value),Den E h (.iarr k xs) u→Den E h (.iarr k ys) v→xs.length=n∧ys.length=n→(Op.equal t u v).run P w = .ok (decide (xs=ys)) w ∧ ∃ a b,u = .agg a∧v = .agg b:=by
     intro E h w u v hu' hv' hl
     simp only[Den] at hu' hv'
     obtain⟨rfl,_⟩:=hu';obtain⟨rfl,_⟩:=hv'
     exact⟨jh6 hu hue i1 hs1 hl.1 hl.2 w,_,_,rfl,rfl⟩
    cases op
    case eql=>
     refine⟨_,h4.2,fun E h w u v hu' hv' hg=>?_⟩
     obtain⟨hq,a,b,rfl,rfl⟩:=key E h w u v hu' hv' (h4.1 hg)
     refine⟨.bool (decide (xs=ys)),?_,by simp only[Den]⟩
     simp only[Sem.run_bind,jdH hu hue,Result.andThen_ok,binOp,hq,Sem.run_pure]
    case neq=>
     refine⟨_,h4.2,fun E h w u v hu' hv' hg=>?_⟩
     obtain⟨hq,a,b,rfl,rfl⟩:=key E h w u v hu' hv' (h4.1 hg)
     refine⟨.bool (!decide (xs=ys)),?_,by simp only[Den]⟩
     simp only[Sem.run_bind,jdH hu hue,Result.andThen_ok,binOp,hq,Sem.run_pure]
    all_goals exact h4.elim
 ·split at H
  ·obtain⟨y',h1,h2⟩:=jak H
   have hty:=htb _ _ h1
   split at h2<;>first|exact h2.elim|skip
   rename_i hk
   have hu:=jaw hty hk
   rcases h2 with h2|h2
   ·refine⟨_,h2.2,fun E h w u v hu' hv' hg=>?_⟩
    have hpos:=h2.1 hg
    simp only[Den] at hu' hv'
    rcases hu' with⟨_,_,hu'⟩|⟨_,o,cap,rfl,_⟩
    ·omega
    subst hv'
    exact⟨_,jb7 x y rfl rfl (jbr hu w _ _ _),by simp only[Den]⟩
   ·refine⟨_,h2,fun E h w u v hu' hv' hg=>?_⟩
    simp only[Den] at hu' hv'
    subst hv'
    rcases hu' with⟨_,rfl,hl⟩|⟨_,o,cap,rfl,_⟩
    ·exact⟨_,jb7 x y rfl rfl (jbU hu w),by simp only[Den];exact⟨_,rfl,fun _=>hl⟩⟩
    ·exact⟨_,jb7 x y rfl rfl (jbr hu w _ _ _),by simp only[Den];exact⟨_,rfl,fun e=>by simp at e⟩⟩
  ·obtain⟨y',h1,h2⟩:=jak H
   have hty:=htb _ _ h1
   split at h2<;>first|exact h2.elim|skip
   rename_i hk
   have hu:=jaw hty hk
   rcases h2 with h2|h2
   ·refine⟨_,h2.2,fun E h w u v hu' hv' hg=>?_⟩
    have hpos:=h2.1 hg
    simp only[Den] at hu' hv'
    rcases hu' with⟨_,_,hu'⟩|⟨_,o,cap,rfl,_⟩
    ·omega
    subst hv'
    exact⟨_,jb6 x y rfl rfl (jbr hu w _ _ _),by simp only[Den];rfl⟩
   ·refine⟨_,h2,fun E h w u v hu' hv' hg=>?_⟩
    simp only[Den] at hu' hv'
    subst hv'
    rcases hu' with⟨_,rfl,hl⟩|⟨_,o,cap,rfl,_⟩
    ·exact⟨_,jb6 x y rfl rfl (jbU hu w),by simp only[Den];exact⟨_,rfl,fun _=>hl⟩⟩
    ·exact⟨_,jb6 x y rfl rfl (jbr hu w _ _ _),by simp only[Den];exact⟨_,rfl,fun e=>by simp at e⟩⟩
  ·exact H.elim
 ·have den:∀ {E:Env} {h:Pub} {e n:Nat} {f:Nat→List D} {u:Value},Den E h (.slf e n f) u→0<n → ∃ a c,u = .slice (some a) n c:=by
   intro E h e n f u hu hn
   simp only[Den] at hu
   obtain⟨a,c,rfl,_,_,h5⟩:=hu
   cases a with
   | none=>simp only at h5;omega
   | some a=>exact⟨a,c,rfl⟩
  split at H
  ·obtain⟨y',h1,h2⟩:=jak H
   have hty:=htb _ _ h1
   split at h2<;>first|exact h2.elim|skip
   rename_i hk
   have hu:=jaw hty hk
   refine⟨_,h2.2,fun E h w u v hu' hv' hg=>?_⟩
   obtain⟨a,c,rfl⟩:=den hu' (h2.1 hg)
   simp only[Den] at hv'
   subst hv'
   exact⟨_,jb7 x y rfl rfl (jbr hu w _ _ _),by simp only[Den]⟩
  ·obtain⟨y',h1,h2⟩:=jak H
   have hty:=htb _ _ h1
   split at h2<;>first|exact h2.elim|skip
   rename_i hk
   have hu:=jaw hty hk
   refine⟨_,h2.2,fun E h w u v hu' hv' hg=>?_⟩
   obtain⟨a,c,rfl⟩:=den hu' (h2.1 hg)
   simp only[Den] at hv'
   subst hv'
   exact⟨_,jb6 x y rfl rfl (jbr hu w _ _ _),by simp only[Den];rfl⟩
  ·exact H.elim
 ·rename_i ds es
  split at H
  ·obtain⟨y',h1,h2⟩:=jak H
   have hty:=htb _ _ h1
   split at h2<;>first|exact h2.elim|skip
   ·rename_i fs hk
    obtain⟨b,hK,key⟩:=jf2 htb h1 hk h2
    refine⟨_,hK,fun E h w u v hu' hv' _=>?_⟩
    obtain⟨hq,a,c,rfl,rfl,hg⟩:=key E h w u v hu' hv'
    refine⟨.bool b,?_,by simp only[Den]⟩
    simp only[Sem.run_bind,hg,Result.andThen_ok,binOp,hq,Sem.run_pure]
   ·rename_i n e hk
    obtain⟨b,hK,key⟩:=je3 htb h1 hk h2
    refine⟨_,hK,fun E h w u v hu' hv' _=>?_⟩
    obtain⟨hq,a,c,rfl,rfl,hg⟩:=key E h w u v hu' hv'
    refine⟨.bool b,?_,by simp only[Den]⟩
    simp only[Sem.run_bind,hg,Result.andThen_ok,binOp,hq,Sem.run_pure]
  ·obtain⟨y',h1,h2⟩:=jak H
   have hty:=htb _ _ h1
   split at h2<;>first|exact h2.elim|skip
   ·rename_i fs hk
    obtain⟨b,hK,key⟩:=jf2 htb h1 hk h2
    refine⟨_,hK,fun E h w u v hu' hv' _=>?_⟩
    obtain⟨hq,a,c,rfl,rfl,hg⟩:=key E h w u v hu' hv'
    refine⟨.bool (!b),?_,by simp only[Den]⟩
    simp only[Sem.run_bind,hg,Result.andThen_ok,binOp,hq,Sem.run_pure]
   ·rename_i n e hk
    obtain⟨b,hK,key⟩:=je3 htb h1 hk h2
    refine⟨_,hK,fun E h w u v hu' hv' _=>?_⟩
    obtain⟨hq,a,c,rfl,rfl,hg⟩:=key E h w u v hu' hv'
    refine⟨.bool (!b),?_,by simp only[Den]⟩
    simp only[Sem.run_bind,hg,Result.andThen_ok,binOp,hq,Sem.run_pure]
  ·exact H.elim
 ·exact H.elim
end Go.V
end
section
namespace Go.V
open Go Go.RowKit
theorem jaY {α:Type}{l:List α}{n i:Nat}{v:α}(h:(l.take n)[i]? = some v):l[i]? = some v:=by
 rw[List.getElem?_take] at h
 split at h
 ·exact h
 ·cases h
theorem jaO (b o n:Nat):(⟨b,o,none⟩:Addr).add n=⟨b,o+n,none⟩:=by
 unfold Addr.add;split
 ·simp[*]
 ·rfl
theorem jbO {a:Addr}(h:a.spot=none)(n:Nat):a.add n=⟨a.block,a.off+n,none⟩:=by
 obtain⟨b,o,s⟩:=a;simp at h;subst h;exact jaO b o n
theorem jbx {P:Program}{t:Nat}{y:Ty}(hy:TyOk P t y)(ha:y.kind.isAgg=true){w:World}{b o:Nat}{vs:List Value}(hl:vs.length=y.size)
  (hc:∀ (i:Nat) v,vs[i]? = some v→w.cell? ⟨b,o+i,none⟩=some v):(loadVar t ⟨b,o,none⟩).run P w = .ok (.agg vs.toArray) w:=by
 have h1:=run_loadCells_list (P:=P) w ⟨b,o,none⟩ vs (fun j v hv=>by rw[jaO];exact hc j v hv)
 rw[hl] at h1
 simp[loadVar,hy.isAgg w,ha,hy.sizeOf w,h1]
theorem jbZ {P:Program}{t:Nat}{y:Ty}(hy:TyOk P t y)(ha:y.kind.isAgg=false){w:World}{b o:Nat}{v:Value}
  (hc:w.cell? ⟨b,o,none⟩=some v):(loadVar t ⟨b,o,none⟩).run P w = .ok v w:=by
 simp[loadVar,hy.isAgg w,ha,hc]
theorem jcd {w:World}{g:Nat}{vs:List Value}{T:TypeId}{fr:Nat×Nat}(hg:w.heap[g]? = some (.cells vs.toArray T fr)){i:Nat}{v:Value}(hv:vs[i]? = some v):w.cell? ⟨g,i,none⟩=some v:=by
 rw[cell_of_row w g i _ T fr hg];simpa using hv
theorem jcH {w:World}{g:Nat}{vs rest:List Value}{T:TypeId}{fr:Nat×Nat}(hg:w.heap[g]? = some (.cells (vs++rest).toArray T fr)){i:Nat}{v:Value}(hv:vs[i]? = some v):w.cell? ⟨g,i,none⟩=some v:=
 jcd hg (by rw[jkg (jkh.1 hv).1];exact hv)
theorem jbc {E:Env}{h:Pub}{w:World}{i:Nat}{k:IntKind}{xs:List Int}(hr:E.real i=true)(H:ChunkOk E h w i (.arr k xs)) :
  ∃ (rest:List Value) (T:TypeId),w.heap[E.blk i]? = some (.cells (xs.map (Value.int k)++rest).toArray T (0,0))∧E.siz i=xs.length+rest.length∧(∀ n∈xs,InR k n)∧E.kn i=xs.length:=by
 rcases H with⟨h1,_⟩|⟨_,h2⟩
 ·rw[hr] at h1;cases h1
 ·exact h2
def jaU:Hp→Nat→(Chunk→Prop)→Prop
 | [],_,_=>False
 | (s,c)::H,i,K=>match Nat.beq s i with|true=>K c|false=>jaU H i K
theorem jay {H:Hp}{i:Nat}{K:Chunk→Prop}(h:jaU H i K):∃ c,lookH H i=some c∧K c:=by
 induction H with
 | nil=>exact h.elim
 | cons x L ih=>
  obtain⟨s,y⟩:=x
  simp only[jaU,lookH] at h ⊢
  cases hb:Nat.beq s i with
  | true=>rw[hb] at h;exact⟨y,rfl,h⟩
  | false=>rw[hb] at h;exact ih h
def glbK:List (Nat×List Value)→Nat→(List Value→Prop)→Prop
 | [],_,_=>False
 | (s,vs)::L,g,K=>match Nat.beq s g with|true=>K vs|false=>glbK L g K
theorem jit {L:List (Nat×List Value)}{g:Nat}{K:List Value→Prop}(h:glbK L g K):∃ vs,(g,vs)∈L∧K vs:=by
 induction L with
 | nil=>exact h.elim
 | cons x L ih=>
  obtain⟨s,vs⟩:=x
  simp only[glbK] at h
  cases hb:Nat.beq s g with
  | true=>
   rw[hb] at h
   have:=Nat.eq_of_beq_eq_true hb
   subst this
   exact⟨vs,Js,h⟩
  | false=>
   rw[hb] at h
   obtain⟨vs',h1,h2⟩:=ih h
   exact⟨vs',by simp[h1],h2⟩
def jgu (k:IntKind):List Value→(List Int→Prop)→Prop
 | [],K=>K []
 | .int k' n::vs,K=>match kE k k',inRb k n with|true,true=>jgu k vs fun xs=>K (n::xs)|_,_=>False
 | _::_,_=>False
theorem valInts_el {k:IntKind}{vs:List Value}{K:List Int→Prop}(h:jgu k vs K):∃ xs,vs=xs.map (Value.int k)∧(∀ n∈xs,InR k n)∧K xs:=by
 induction vs generalizing K with
 | nil=>exact⟨[],rfl,Js,h⟩
 | cons v vs ih=>
  cases v with
  | int k' n=>
   simp only[jgu] at h
   cases hk:kE k k' with
   | false=>rw[hk] at h;exact h.elim
   | true=>
    cases hn:inRb k n with
    | false=>rw[hk,hn] at h;exact h.elim
    | true=>
     rw[hk,hn] at h
     have:=kE_eq hk;subst this
     obtain⟨xs,rfl,h1,h2⟩:=ih h
     refine⟨n::xs,rfl,fun m hm=>?_,h2⟩
     rcases jka.1 hm with rfl|hm
     ·exact inRb_iff hn
     ·exact h1 m hm
  | _=>exact h.elim
theorem jel (E:Env)(h:Pub):∀ vs:List Value,DenL E h (vs.map ofVal) vs
 | []=>by simp[DenL]
 | v::vs=>by simp only[List.map_cons,DenL];exact⟨v,vs,rfl,jhO E h v,jel E h vs⟩
def loadK (tb:Tb)(g:Prop)(H:Hp)(t:Nat)(d:D)(K:D→Prop):Prop:=tyK tb t fun y=>match d with
 | .box i off=>jaU H i fun c=>match c with
  | .box ds=>match y.kind.isAgg with
   | true=>dropK ds off fun ds=>takeK ds y.size fun ds=>K (.agg ds)
   | false=>nthK ds off K
  | .arr k xs=>match y.kind.isAgg with
   | true=>(g→off=0∧xs.length=y.size)∧K (.iarr k xs)
   | false=>(g→off<xs.length)∧K (.int k (xs.getD off 0))
  | .gone=>False
  | .lp _=>False
  | .mp _=>False
 | .ref ds=>match y.kind.isAgg with
  | true=>takeK ds y.size fun ds=>K (.agg ds)
  | false=>nthK ds 0 K
 | .gp gl=>match y.kind.isAgg with
  | true=>glbK glb gl fun vs=>match Nat.beq vs.length y.size,vs.all (·.oneCell') with
   | true,true=>K (.agg (vs.map ofVal))
   | _,_=>False
  | false=>False
 | _=>False
theorem load_el {P:Program}{tb:Tb}(htb:TbOk P tb){g:Prop}{H:Hp}{t:Nat}{d:D}{K:D→Prop}(hh:loadK tb g H t d K) :
  ∃ r,K r ∧ ∀ E h a w L,Facts E h a w L H → ∀ v,Den E h d v→g→Gives P E h (Instr.loadAt t v) w r:=by
 have hx:=jak hh;clear hh;obtain⟨y,hy,hh⟩:=hx
 have hty:=htb _ _ hy
 split at hh
 ·rename_i i off
  have hx:=jay hh;clear hh;obtain⟨c,hc,hh⟩:=hx
  split at hh
  ·rename_i ds
   cases hag:y.kind.isAgg with
   | true=>
    rw[hag] at hh
    obtain⟨h1,hh⟩:=jcb hh
    obtain⟨h2,hh⟩:=jbQ hh
    refine⟨_,hh,fun E h a w L F v hv hg=>?_⟩
    simp only[Den] at hv;obtain⟨rfl,hreal⟩:=hv
    obtain⟨_,vs,rest,T,hb,hd,ho,hsz⟩:=F.chunk _ _ hc
    have hlen:=hd.length
    refine⟨.agg ((vs.drop off).take y.size).toArray,?_,?_⟩
    ·simp only[Instr.loadAt,Instr.sureAddr,Sem.run_bind,Sem.run_pure,Result.andThen_ok]
     refine jbx hty hag ?_ (fun i v hv=>?_)
     ·simp at h2 ⊢; omega
     ·refine jcH hb ?_
      have:=jaY hv
      simpa using this
    ·simp only[Den]
     exact⟨_,rfl,(hd.drop off).take _,fun v hv=>ho v (jki (jkj hv))⟩
   | false=>
    rw[hag] at hh
    obtain⟨r,h1,hh⟩:=jfl hh
    refine⟨_,hh,fun E h a w L F v hv hg=>?_⟩
    simp only[Den] at hv;obtain⟨rfl,hreal⟩:=hv
    obtain⟨_,vs,rest,T,hb,hd,ho,hsz⟩:=F.chunk _ _ hc
    obtain⟨u,hu,hdu⟩:=hd.get h1
    exact⟨u,by simp only[Instr.loadAt,Instr.sureAddr,Sem.run_bind,Sem.run_pure,Result.andThen_ok];exact jbZ hty hag (jcH hb hu),hdu⟩
  ·rename_i k xs
   cases hag:y.kind.isAgg with
   | true=>
    rw[hag] at hh
    refine⟨_,hh.2,fun E h a w L F v hv hg=>?_⟩
    simp only[Den] at hv;obtain⟨rfl,hreal⟩:=hv
    obtain⟨h0,h1⟩:=hh.1 hg;subst h0
    obtain⟨rest,T,hb,hsz,hr,hkn⟩:=jbc hreal (F.chunk _ _ hc)
    refine⟨.agg (xs.map (Value.int k)).toArray,?_,by simp only[Den];exact⟨trivial,hr⟩⟩
    simp only[Instr.loadAt,Instr.sureAddr,Sem.run_bind,Sem.run_pure,Result.andThen_ok]
    refine jbx hty hag (by simpa using h1) (fun i v hv=>?_)
    refine jcd hb ?_
    rw[jjC,jkg]
    ·exact hv
    ·exact(jkh.1 hv).1
   | false=>
    rw[hag] at hh
    refine⟨_,hh.2,fun E h a w L F v hv hg=>?_⟩
    simp only[Den] at hv;obtain⟨rfl,hreal⟩:=hv
    have h1:=hh.1 hg
    obtain⟨rest,T,hb,hsz,hr,hkn⟩:=jbc hreal (F.chunk _ _ hc)
    have hx:xs[off]? = some (xs.getD off 0):=by simp[List.getD,jkb h1]
    refine⟨.int k (xs.getD off 0),?_,by simp only[Den];exact⟨trivial,hr _ (jkc hx)⟩⟩
    simp only[Instr.loadAt,Instr.sureAddr,Sem.run_bind,Sem.run_pure,Result.andThen_ok]
    refine jbZ hty hag (jcd hb ?_)
    rw[jkg (by simpa using h1),List.getElem?_map,hx];rfl
  ·exact hh.elim
  ·exact hh.elim
  ·exact hh.elim
 ·rename_i ds
  cases hag:y.kind.isAgg with
  | true=>
   rw[hag] at hh
   obtain⟨h2,hh⟩:=jbQ hh
   refine⟨_,hh,fun E h a w L F v hv hg=>?_⟩
   simp only[Den] at hv
   obtain⟨b,o,rfl,vs,hd,ho,hc⟩:=hv
   have hlen:=hd.length
   refine⟨.agg (vs.take y.size).toArray,?_,?_⟩
   ·simp only[Instr.loadAt,Instr.sureAddr,Sem.run_bind,Sem.run_pure,Result.andThen_ok]
    refine jbx hty hag (by simp;omega) (fun i v hv=>?_)
    exact F.agree _ _ _ (hc i v (jaY hv))
   ·simp only[Den]
    exact⟨_,rfl,hd.take _,fun v hv=>ho v (jkj hv)⟩
  | false=>
   rw[hag] at hh
   obtain⟨r,h1,hh⟩:=jfl hh
   refine⟨_,hh,fun E h a w L F v hv hg=>?_⟩
   simp only[Den] at hv
   obtain⟨b,o,rfl,vs,hd,ho,hc⟩:=hv
   obtain⟨u,hu,hdu⟩:=hd.get h1
   exact⟨u,by simp only[Instr.loadAt,Instr.sureAddr,Sem.run_bind,Sem.run_pure,Result.andThen_ok];exact jbZ hty hag (by simpa using F.agree _ _ _ (hc 0 u hu)),hdu⟩
 ·rename_i gl
  cases hag:y.kind.isAgg with
  | false=>rw[hag] at hh;exact hh.elim
  | true=>
   rw[hag] at hh
   obtain⟨vs,hm,hh⟩:=jit hh
   cases h1:Nat.beq vs.length y.size with
   | false=>rw[h1] at hh;exact hh.elim
   | true=>
    cases h2:vs.all (·.oneCell') with
    | false=>rw[h1,h2] at hh;exact hh.elim
    | true=>
     rw[h1,h2] at hh
     refine⟨_,hh,fun E h a w L F v hv hg=>?_⟩
     simp only[Den] at hv
     subst hv
     refine⟨.agg vs.toArray,?_,?_⟩
     ·simp only[Instr.loadAt,Instr.sureAddr,Sem.run_bind,Sem.run_pure,Result.andThen_ok]
      refine jbx hty hag (Nat.eq_of_beq_eq_true h1) (fun i v hv=>?_)
      rw[jjC]
      exact F.agree _ _ _ (F.agree.glob gl vs hm i v hv)
     ·simp only[Den]
      exact⟨vs,rfl,jel _ _ vs,fun v hv=>jj7.1 h2 v hv⟩
 ·exact hh.elim
def nthF:List (Nat×Nat)→Nat→(Nat→Nat→Prop)→Prop
 | [],_,_=>False
 | (o,u)::_,0,K=>K o u
 | _::fs,n+1,K=>nthF fs n K
theorem jif {fs:List (Nat×Nat)}{n:Nat}{K:Nat→Nat→Prop}(h:nthF fs n K):∃ o u,fs[n]? = some (o,u)∧K o u:=by
 induction fs generalizing n with
 | nil=>exact h.elim
 | cons x ds ih=>
  obtain⟨o,u⟩:=x
  cases n with
  | zero=>exact⟨o,u,rfl,h⟩
  | succ n=>exact ih h
def jgk (tb:Tb)(t:Nat)(d:D)(f:Nat)(K:D→Prop):Prop:=tyK tb t fun y=>match y.kind with
 | .struct fs=>nthF fs f fun o _=>match d with
  | .box i off=>K (.box i (off+o))
  | .ref ds=>dropK ds o fun ds=>K (.ref ds)
  | _=>False
 | _=>False
theorem jhK {P:Program}{tb:Tb}(htb:TbOk P tb){t f:Nat}{d:D}{K:D→Prop}(hh:jgk tb t d f K) :
  ∃ r,K r ∧ ∀ E h w v,Den E h d v→Gives P E h (Instr.fieldAt t v f) w r:=by
 have hx:=jak hh;clear hh;obtain⟨y,hy,hh⟩:=hx
 have hty:=htb _ _ hy
 split at hh
 case h_2=>exact hh.elim
 rename_i fs hk
 obtain⟨o,u,hf,hh⟩:=jif hh
 have hu:=hty.und;rw[hk] at hu
 obtain⟨fields,hu,_,hff⟩:=hu
 obtain⟨fl,iu,h1,h2,h3,h4,h5⟩:=hff _ _ _ hf
 have hrun:∀ (w:World) (b off:Nat),(Instr.fieldAt t (.pointer (some ⟨b,off,none⟩)) f).run P w = .ok (.pointer (some ⟨b,off+o,none⟩)) w:=fun w b off=>by
  simp[Instr.fieldAt,run_underlying hu,h1,Instr.sureAddr,fieldPlace,sizeOf,typeInfo,h3,h4,h5,h2,jaO]
 split at hh
 ·refine⟨_,hh,fun E h w v hv=>?_⟩
  simp only[Den] at hv;obtain⟨rfl,hreal⟩:=hv
  exact⟨_,hrun _ _ _,by simp only[Den];exact⟨trivial,hreal⟩⟩
 ·obtain⟨h6,hh⟩:=jcb hh
  refine⟨_,hh,fun E h w v hv=>?_⟩
  simp only[Den] at hv
  obtain⟨b,off,rfl,vs,hd,ho,hc⟩:=hv
  refine⟨_,hrun _ _ _,?_⟩
  simp only[Den]
  exact⟨b,off+o,rfl,vs.drop o,hd.drop o,fun v hv=>ho v (jki hv),fun i v hv=>by rw[Nat.add_assoc];exact hc (o+i) v (by simpa using hv)⟩
 ·exact hh.elim
theorem jhn {P:Program}{t:Nat}{y:Ty}(hy:TyOk P t y)(ha:y.kind.isAgg=true)(vs:List Value)(o:Nat)(w:World) :
  (part t vs.toArray o).run P w = .ok (.agg ((vs.drop o).take y.size).toArray) w:=by
 simp only[part,Sem.run_bind,hy.isAgg w,ha,Result.andThen_ok,if_true,hy.sizeOf w,Sem.run_pure]
 congr 2
 apply Array.toList_inj.1
 simp[List.take_drop]
theorem jeo {P:Program}{t:Nat}{y:Ty}(hy:TyOk P t y)(ha:y.kind.isAgg=false){vs:List Value}{o:Nat}{v:Value}(hv:vs[o]? = some v)(w:World) :
  (part t vs.toArray o).run P w = .ok v w:=by
 simp[part,hy.isAgg w,ha,hv]
def partK (tb:Tb)(u:Nat)(ds:List D)(o:Nat)(K:D→Prop):Prop:=tyK tb u fun y=>match y.kind.isAgg with
 | true=>dropK ds o fun ds=>takeK ds y.size fun ds=>K (.agg ds)
 | false=>nthK ds o K
theorem part_el {P:Program}{tb:Tb}(htb:TbOk P tb){u o:Nat}{ds:List D}{K:D→Prop}(hh:partK tb u ds o K) :
  ∃ r,K r ∧ ∀ E h w vs,DenL E h ds vs→(∀ v∈vs,v.oneCell'=true)→Gives P E h (part u vs.toArray o) w r:=by
 have hx:=jak hh;clear hh;obtain⟨y,hy,hh⟩:=hx
 have hty:=htb _ _ hy
 cases hag:y.kind.isAgg with
 | true=>
  rw[hag] at hh
  obtain⟨h1,hh⟩:=jcb hh
  obtain⟨h2,hh⟩:=jbQ hh
  refine⟨_,hh,fun E h w vs hd ho=>⟨_,jhn hty hag vs o w,?_⟩⟩
  simp only[Den]
  exact⟨_,rfl,(hd.drop o).take _,fun v hv=>ho v (jki (jkj hv))⟩
 | false=>
  rw[hag] at hh
  obtain⟨r,h1,hh⟩:=jfl hh
  refine⟨_,hh,fun E h w vs hd ho=>?_⟩
  obtain⟨v,hv,hdv⟩:=hd.get h1
  exact⟨_,jeo hty hag hv w,hdv⟩
def fieldK (tb:Tb)(t:Nat)(d:D)(f:Nat)(K:D→Prop):Prop:=tyK tb t fun y=>match y.kind with
 | .struct fs=>nthF fs f fun o u=>match d with
  | .agg ds=>partK tb u ds o K
  | _=>False
 | _=>False
theorem field_el {P:Program}{tb:Tb}(htb:TbOk P tb){t f:Nat}{d:D}{K:D→Prop}(hh:fieldK tb t d f K) :
  ∃ r,K r ∧ ∀ E h w v,Den E h d v→Gives P E h (Instr.field t v f) w r:=by
 have hx:=jak hh;clear hh;obtain⟨y,hy,hh⟩:=hx
 have hty:=htb _ _ hy
 split at hh
 case h_2=>exact hh.elim
 rename_i fs hk
 obtain⟨o,u,hf,hh⟩:=jif hh
 have hu:=hty.und;rw[hk] at hu
 obtain⟨fields,hu,_,hff⟩:=hu
 obtain⟨fl,iu,h1,h2,h3,h4,h5⟩:=hff _ _ _ hf
 split at hh
 case h_2=>exact hh.elim
 rename_i ds
 obtain⟨r,hr,hh⟩:=part_el htb hh
 refine⟨r,hr,fun E h w v hv=>?_⟩
 simp only[Den] at hv
 obtain⟨vs,rfl,hd,ho⟩:=hv
 obtain⟨v',h6,h7⟩:=hh E h w vs hd ho
 exact⟨v',by simp[Instr.field,run_underlying hu,h1,asAgg,h2,h3,h6],h7⟩
theorem jh4 {P:Program}{vs:List Value}{i:Nat}{v:Value}(h:vs[i]? = some v)(w:World):(Instr.extract (.tuple vs.toArray) i).run P w = .ok v w:=by
 simp[Instr.extract,h]
end Go.V
end
section
namespace Go.V
open Go Go.RowKit
mutual
def D.pure:D→Bool
 | .box _ _ | .osl _ _ _ | .bsl _ _ _ _ | .yld _ | .mapr _=>false
 | .agg ds | .tup ds | .ref ds=>D.pureL ds
 | .fn _ es ds=>match D.pureL es with|true=>D.pureL ds|false=>false
 | .gd _ d=>D.pure d
 | _=>true
def D.pureL:List D→Bool
 | []=>true
 | d::ds=>match D.pure d with|true=>D.pureL ds|false=>false
end
mutual
theorem Den.pure {E E':Env}{h:Pub} : ∀ {d:D} {v:Value},d.pure=true→Den E h d v→Den E' h d v
 | .any,_,_,_=>by simp[Den]
 | .undef,_,_,H=>by simpa [Den] using H
 | .bool _,_,_,H=>by simpa [Den] using H
 | .int _ _,_,_,H=>by simpa [Den] using H
 | .str _,_,_,H=>by simpa [Den] using H
 | .nil,_,_,H=>by simpa [Den] using H
 | .ints k xs,v,_,H=>by simpa [Den] using H
 | .slf _ _ _,_,_,H=>by simpa [Den] using H
 | .iarr _ _,_,_,H=>by simpa [Den] using H
 | .agg ds,v,F,H=>by
  simp only[Den] at H ⊢
  simp only[D.pure] at F
  obtain⟨vs,h1,h2,h3⟩:=H
  exact⟨vs,h1,DenL.pure F h2,h3⟩
 | .tup ds,v,F,H=>by
  simp only[Den] at H ⊢
  simp only[D.pure] at F
  obtain⟨vs,h1,h2⟩:=H
  exact⟨vs,h1,DenL.pure F h2⟩
 | .fn f first caps,v,F,H=>by
  simp only[Den] at H ⊢
  simp only[D.pure] at F
  obtain⟨us,vs,h1,h2,h3⟩:=H
  cases hd:D.pureL first with
  | false=>rw[hd] at F;simp at F
  | true=>rw[hd] at F;exact⟨us,vs,h1,DenL.pure hd h2,DenL.pure F h3⟩
 | .ref ds,v,F,H=>by
  simp only[Den] at H ⊢
  simp only[D.pure] at F
  obtain⟨b,o,h1,vs,h2,h3,h4⟩:=H
  exact⟨b,o,h1,vs,DenL.pure F h2,h3,h4⟩
 | .box j _,_,F,H=>by simp[D.pure] at F
 | .osl j _ _,_,F,H=>by simp[D.pure] at F
 | .bsl j _ _ _,_,F,H=>by simp[D.pure] at F
 | .gd c d,v,F,H=>by
  simp only[Den] at H ⊢
  simp only[D.pure] at F
  exact⟨fun hc=>Den.pure F (H.1 hc),H.2⟩
 | .gp _,_,_,H=>by simpa [Den] using H
 | .val _,_,_,H=>by simpa [Den] using H
 | .anyb _,_,_,H=>by simpa [Den] using H
 | .yld _,_,F,H=>by simp[D.pure] at F
 | .mapr _,_,F,H=>by simp[D.pure] at F
theorem DenL.pure {E E':Env}{h:Pub} : ∀ {ds:List D} {vs:List Value},D.pureL ds=true→DenL E h ds vs→DenL E' h ds vs
 | [],_,_,H=>by simpa [DenL] using H
 | d::ds,vs,F,H=>by
  simp only[DenL] at H ⊢
  simp only[D.pureL] at F
  obtain⟨v,vs',h1,h2,h3⟩:=H
  cases hd:D.pure d with
  | false=>rw[hd] at F;simp at F
  | true=>rw[hd] at F;exact⟨v,vs',h1,Den.pure hd h2,DenL.pure F h3⟩
end
def jei (tb:Tb)(g:Prop)(t:Nat)(dx di:D)(K:D→Prop):Prop:=match di with
 | .int _ i=>tyK tb t fun y=>match y.kind with
  | .slice e=>tyK tb e fun ye=>match dx with
   | .ints k xs=>match Nat.beq ye.size 1 with
    | true=>(g→0≤i∧i<xs.length)∧K (.ref [.int k (xs.getD i.toNat 0)])
    | false=>False
   | .slf es n f=>match Nat.beq ye.size es,D.pureL (f i.toNat) with
    | true,true=>(g→0≤i∧i<n)∧K (.ref (f i.toNat))
    | _,_=>False
   | .osl b off len=>match Nat.beq ye.size 1 with
    | true=>(g→0≤i∧i<len)∧K (.box b (off+i.toNat))
    | false=>False
   | .bsl b off len es=>match Nat.beq ye.size es with
    | true=>(g→0≤i∧i<len)∧K (.box b (off+i.toNat*es))
    | false=>False
   | _=>False
  | .arr n e=>tyK tb e fun ye=>match dx with
   | .box b off=>match Nat.beq ye.size 1 with
    | true=>(g→0≤i∧i<n)∧K (.box b (off+i.toNat))
    | false=>(g→0≤i∧i<n)∧K (.box b (off+i.toNat*ye.size))
   | .ref ds=>(g→0≤i∧i<n)∧dropK ds (i.toNat*ye.size) fun ds=>takeK ds ye.size fun ds=>K (.ref ds)
   | .gp gl=>match ye.kind,Nat.beq ye.size 1 with
    | .int k,true=>glbK glb gl fun vs=>jgu k vs fun xs=>(g→0≤i∧i<n∧i<xs.length)∧K (.ref [.int k (xs.getD i.toNat 0)])
    | _,false=>glbK glb gl fun vs=>match vs.all (·.oneCell') with
     | true=>(g→0≤i∧i<n)∧dropK (vs.map ofVal) (i.toNat*ye.size) fun ds=>takeK ds ye.size fun ds=>K (.ref ds)
     | false=>False
    | _,_=>False
   | _=>False
  | _=>False
 | _=>False
theorem jae {a b:Nat}(h:Nat.beq a b=true):a=b:=Nat.eq_of_beq_eq_true h
theorem jhE {P:Program}{tb:Tb}(htb:TbOk P tb){g:Prop}{t:Nat}{dx di:D}{K:D→Prop}(hh:jei tb g t dx di K) :
  ∃ r,K r ∧ ∀ E h w v u,GlOk h→Den E h dx v→Den E h di u→g→Gives P E h (Instr.indexAt t v u) w r:=by
 unfold jei at hh
 split at hh
 case h_2=>exact hh.elim
 rename_i ki i
 have hx:=jak hh;clear hh;obtain⟨y,hy,hh⟩:=hx
 have hty:=htb _ _ hy
 split at hh
 ·rename_i e hk
  have hu:=jaw hty hk
  have hx:=jak hh;clear hh;obtain⟨ye,hye,hh⟩:=hx
  have hte:=htb _ _ hye
  have hrun:∀ (w:World) (a:Addr) (len cap:Nat),0≤i→i<len→(Instr.indexAt t (.slice (some a) len cap) (.int ki i)).run P w = .ok (.pointer (some (a.add (i.toNat*ye.size)))) w:=fun w a len cap h0 h1=>by
   simp[Instr.indexAt,asIntOf,run_underlying hu,h0,h1,hte.sizeOf w]
  split at hh
  ·rename_i k xs
   cases hb:Nat.beq ye.size 1 with
   | false=>rw[hb] at hh;exact hh.elim
   | true=>
    rw[hb] at hh
    have hsz:=jae hb
    refine⟨_,hh.2,fun E h w v u gk hv hu hg=>?_⟩
    simp only[Den] at hu;obtain⟨rfl,_⟩:=hu
    obtain⟨h0,h1⟩:=hh.1 hg
    simp only[Den,jaQ] at hv
    obtain⟨a,cap,rfl,h2,h3,h4,h5⟩:=hv
    have h1':i.toNat<xs.length:=Jo
    cases a with
    | none=>simp only at h5;obtain⟨h5,_⟩:=h5;subst h5;simp at h1'
    | some ad=>
     refine⟨_,hrun w ad _ _ h0 h1,?_⟩
     rw[hsz,Nat.mul_one,jbO h5.1]
     have hget:xs[i.toNat]? = some (xs.getD i.toNat 0):=by simp[List.getD,jkb h1']
     simp only[Den,DenL]
     refine⟨_,_,rfl,[.int k (xs.getD i.toNat 0)],⟨_,_,rfl,⟨rfl,h4 _ (jkc hget)⟩,rfl⟩,by simp[Value.oneCell'],?_⟩
     intro j v hv
     cases j with
     | zero=>simp at hv;subst hv;exact h5.2 _ _ hget
     | succ j=>simp at hv
  ·rename_i es n f
   cases hb:Nat.beq ye.size es with
   | false=>rw[hb] at hh;exact hh.elim
   | true=>
    cases hp:D.pureL (f i.toNat) with
    | false=>rw[hb,hp] at hh;exact hh.elim
    | true=>
     rw[hb,hp] at hh
     have hsz:=jae hb
     refine⟨_,hh.2,fun E h w v u gk hv hu hg=>?_⟩
     simp only[Den] at hu;obtain⟨rfl,_⟩:=hu
     obtain⟨h0,h1⟩:=hh.1 hg
     simp only[Den] at hv
     obtain⟨a,cap,rfl,h2,h3,h5⟩:=hv
     have h1':i.toNat<n:=Jo
     cases a with
     | none=>simp only at h5;omega
     | some ad=>
      refine⟨_,hrun w ad _ _ h0 h1,?_⟩
      obtain⟨vs,h6,h7,h8,h9⟩:=h5.2 _ h1'
      rw[jbO h5.1]
      simp only[Den]
      exact⟨_,_,rfl,vs,DenL.pure hp h6,h8,fun j v hv=>by rw[hsz];exact h9 j v hv⟩
  ·rename_i b off len
   cases hb:Nat.beq ye.size 1 with
   | false=>rw[hb] at hh;exact hh.elim
   | true=>
    rw[hb] at hh
    have hsz:=jae hb
    refine⟨_,hh.2,fun E h w v u gk hv hu hg=>?_⟩
    simp only[Den] at hu;obtain⟨rfl,_⟩:=hu
    obtain⟨h0,h1⟩:=hh.1 hg
    simp only[Den] at hv
    rcases hv with⟨_,_,hv⟩|⟨hreal,o,cap,rfl,h2,h3,h4,h5,hkn⟩
    ·omega
    refine⟨_,hrun w _ _ _ h0 h1,?_⟩
    rw[hsz,Nat.mul_one,jaO]
    rcases h5 with rfl|h5
    ·simp only[Den];exact⟨trivial,hreal⟩
    ·omega
  ·rename_i b off len es
   cases hb:Nat.beq ye.size es with
   | false=>rw[hb] at hh;exact hh.elim
   | true=>
    rw[hb] at hh
    have hsz:=jae hb
    refine⟨_,hh.2,fun E h w v u gk hv hu hg=>?_⟩
    simp only[Den] at hu;obtain⟨rfl,_⟩:=hu
    obtain⟨h0,h1⟩:=hh.1 hg
    simp only[Den] at hv
    obtain⟨hreal,cap,rfl,_⟩:=hv
    refine⟨_,hrun w _ _ _ h0 h1,?_⟩
    rw[hsz,jaO]
    simp only[Den];exact⟨trivial,hreal⟩
  ·exact hh.elim
 ·rename_i n e hk
  have hu:=jcD hty hk
  have hx:=jak hh;clear hh;obtain⟨ye,hye,hh⟩:=hx
  have hte:=htb _ _ hye
  have hrun:∀ (w:World) (b o:Nat),0≤i→i<n→(Instr.indexAt t (.pointer (some ⟨b,o,none⟩)) (.int ki i)).run P w = .ok (.pointer (some ⟨b,o+i.toNat*ye.size,none⟩)) w:=fun w b o h0 h1=>by
   simp[Instr.indexAt,asIntOf,run_underlying hu,h0,h1,hte.sizeOf w,Instr.sureAddr,jaO]
  split at hh
  ·rename_i b off
   cases hb:Nat.beq ye.size 1 with
   | true=>
    rw[hb] at hh
    have hsz:=jae hb
    refine⟨_,hh.2,fun E h w v u gk hv hu hg=>?_⟩
    simp only[Den] at hu hv;obtain⟨rfl,_⟩:=hu;obtain⟨rfl,hreal⟩:=hv
    obtain⟨h0,h1⟩:=hh.1 hg
    exact⟨_,hrun w _ _ h0 h1,by simp only[Den];rw[hsz,Nat.mul_one];exact⟨rfl,hreal⟩⟩
   | false=>
    rw[hb] at hh
    refine⟨_,hh.2,fun E h w v u gk hv hu hg=>?_⟩
    simp only[Den] at hu hv;obtain⟨rfl,_⟩:=hu;obtain⟨rfl,hreal⟩:=hv
    obtain⟨h0,h1⟩:=hh.1 hg
    exact⟨_,hrun w _ _ h0 h1,by simp only[Den];exact⟨trivial,hreal⟩⟩
  ·rename_i ds
   obtain⟨hs,hh⟩:=hh
   obtain⟨h6,hh⟩:=jcb hh
   obtain⟨h7,hh⟩:=jbQ hh
   refine⟨_,hh,fun E h w v u gk hv hu hg=>?_⟩
   simp only[Den] at hu hv;obtain⟨rfl,_⟩:=hu
   obtain⟨b,o,rfl,vs,hd,ho,hc⟩:=hv
   obtain⟨h0,h1⟩:=hs hg
   refine⟨_,hrun w _ _ h0 h1,?_⟩
   simp only[Den]
   exact⟨b,_,rfl,(vs.drop _).take _,(hd.drop _).take _,fun v hv=>ho v (jki (jkj hv)),fun j v hv=>by rw[Nat.add_assoc];exact hc _ v (by rw[List.getElem?_take] at hv;split at hv;(simpa using hv);cases hv)⟩
  ·rename_i gl
   split at hh
   case h_3=>exact hh.elim
   case h_2=>
    obtain⟨vs,hm,hh⟩:=jit hh
    cases ho:vs.all (·.oneCell') with
    | false=>rw[ho] at hh;exact hh.elim
    | true=>
     rw[ho] at hh
     obtain⟨hs,hh⟩:=hh
     obtain⟨h6,hh⟩:=jcb hh
     obtain⟨h7,hh⟩:=jbQ hh
     refine⟨_,hh,fun E h w v u gk hv hu hg=>?_⟩
     simp only[Den] at hu hv;obtain⟨rfl,_⟩:=hu;subst hv
     obtain⟨h0,h1⟩:=hs hg
     refine⟨_,hrun w _ _ h0 h1,?_⟩
     simp only[Den]
     exact⟨gl,_,rfl,(vs.drop _).take _,((jel _ _ vs).drop _).take _,fun v hv=>jj7.1 ho v (jki (jkj hv)),fun j v hv=>by rw[jjC];exact gk gl vs hm _ v (by rw[List.getElem?_take] at hv;split at hv;(simpa using hv);cases hv)⟩
   rename_i k hke hsz0
   have hsz:=jae hsz0
   obtain⟨vs,hm,hh⟩:=jit hh
   obtain⟨xs,hxs,hr,hh⟩:=valInts_el hh
   refine⟨_,hh.2,fun E h w v u gk hv hu hg=>?_⟩
   simp only[Den] at hu hv;obtain⟨rfl,_⟩:=hu;subst hv
   obtain⟨h0,h1,h2⟩:=hh.1 hg
   refine⟨_,hrun w _ _ h0 h1,?_⟩
   have h1':i.toNat<xs.length:=Jo
   have hget:xs[i.toNat]? = some (xs.getD i.toNat 0):=by simp[List.getD,jkb h1']
   simp only[Den,DenL]
   refine⟨_,_,rfl,[.int k (xs.getD i.toNat 0)],⟨_,_,rfl,⟨rfl,hr _ (jkc hget)⟩,rfl⟩,by simp[Value.oneCell'],?_⟩
   intro j v hv
   cases j with
   | zero=>
    simp at hv;subst hv
    rw[hsz,Nat.mul_one,jjC,jjD]
    exact gk gl vs hm _ _ (by rw[hxs,List.getElem?_map,hget];rfl)
   | succ j=>simp at hv
  ·exact hh.elim
 ·exact hh.elim
def indexK (tb:Tb)(g:Prop)(t:Nat)(dx di:D)(K:D→Prop):Prop:=match di with
 | .int _ i=>tyK tb t fun y=>match y.kind with
  | .arr n e=>match dx with
   | .agg ds=>(g→0≤i∧i<n)∧tyK tb e fun ye=>partK tb e ds (i.toNat*ye.size) K
   | .iarr k xs=>tyK tb e fun ye=>match ye.kind.isAgg,Nat.beq ye.size 1 with
    | false,true=>(g→0≤i∧i<n∧i<xs.length)∧K (.int k (xs.getD i.toNat 0))
    | _,_=>False
   | _=>False
  | .str=>match dx with
   | .str s=>(g→0≤i∧i<s.length)∧K (.int .u8 (s.getD i.toNat 0).toNat)
   | _=>False
  | _=>False
 | _=>False
theorem u8_inR (c:UInt8):InR .u8 (c.toNat:Int):=by
 have:=c.toNat_lt
 constructor<;>simp[lo,hi]<;>omega
theorem index_el {P:Program}{tb:Tb}(htb:TbOk P tb){g:Prop}{t:Nat}{dx di:D}{K:D→Prop}(hh:indexK tb g t dx di K) :
  ∃ r,K r ∧ ∀ E h w v u,Den E h dx v→Den E h di u→g→Gives P E h (Instr.index t v u) w r:=by
 unfold indexK at hh
 split at hh
 case h_2=>exact hh.elim
 rename_i ki i
 have hx:=jak hh;clear hh;obtain⟨y,hy,hh⟩:=hx
 have hty:=htb _ _ hy
 split at hh
 ·rename_i n e hk
  have hu:=jcD hty hk
  split at hh
  ·rename_i ds
   obtain⟨hs,hh⟩:=hh
   have hx:=jak hh;clear hh;obtain⟨ye,hye,hh⟩:=hx
   have hte:=htb _ _ hye
   obtain⟨r,hr,hh⟩:=part_el htb hh
   refine⟨r,hr,fun E h w v u hv hu' hg=>?_⟩
   simp only[Den] at hu' hv;obtain⟨rfl,_⟩:=hu'
   obtain⟨vs,rfl,hd,ho⟩:=hv
   obtain⟨h0,h1⟩:=hs hg
   obtain⟨v',h6,h7⟩:=hh E h w vs hd ho
   exact⟨v',by simp[Instr.index,asIntOf,run_underlying hu,h0,h1,hte.sizeOf w,h6],h7⟩
  ·rename_i k xs
   have hx:=jak hh;clear hh;obtain⟨ye,hye,hh⟩:=hx
   have hte:=htb _ _ hye
   cases ha:ye.kind.isAgg with
   | true=>rw[ha] at hh;exact hh.elim
   | false=>
    cases hb:Nat.beq ye.size 1 with
    | false=>rw[ha,hb] at hh;exact hh.elim
    | true=>
     rw[ha,hb] at hh
     have hsz:=jae hb
     refine⟨_,hh.2,fun E h w v u hv hu' hg=>?_⟩
     simp only[Den] at hu' hv;obtain⟨rfl,_⟩:=hu'
     obtain⟨rfl,hr⟩:=hv
     obtain⟨h0,h1,h2⟩:=hh.1 hg
     have h1':i.toNat<xs.length:=Jo
     have hget:xs[i.toNat]? = some (xs.getD i.toNat 0):=by simp[List.getD,jkb h1']
     refine⟨.int k (xs.getD i.toNat 0),?_,by simp only[Den];exact⟨trivial,hr _ (jkc hget)⟩⟩
     have:=jeo (P:=P) hte ha (vs:=xs.map (Value.int k)) (o:=i.toNat) (v := .int k (xs.getD i.toNat 0)) (by rw[List.getElem?_map,hget];rfl) w
     simp[Instr.index,asIntOf,run_underlying hu,h0,h1,hte.sizeOf w,hsz,this]
  ·exact hh.elim
 ·rename_i hk
  have hu:=jeK hty hk
  split at hh
  ·rename_i s
   refine⟨_,hh.2,fun E h w v u hv hu' hg=>?_⟩
   simp only[Den] at hu' hv;obtain⟨rfl,_⟩:=hu'
   obtain⟨rfl,_⟩:=hv
   obtain⟨h0,h1⟩:=hh.1 hg
   have h1':i.toNat<s.length:=Jo
   refine⟨.int .u8 (s.getD i.toNat 0).toNat,?_,by simp only[Den];exact⟨trivial,u8_inR _⟩⟩
   have hlt:i.toNat<(⟨s.toArray⟩:ByteArray).size:=by simpa [ByteArray.size] using h1'
   have h3:(if 0≤i then (⟨s.toArray⟩:ByteArray)[i.toNat]? else none)=some (s.getD i.toNat 0):=by
    rw[if_pos h0,ByteArray.getElem?_lt' _ _ hlt]
    congr 1
    simp[List.getD,jkb h1']
    rfl
   simp only[Instr.index,asIntOf,Sem.run_bind,Sem.run_pure,Result.andThen_ok,run_underlying hu,h3]
  ·exact hh.elim
 ·exact hh.elim
def lenK (tb:Tb)(t:Nat)(d:D)(K:D→Prop):Prop:=tyK tb t fun y=>match y.kind with
 | .slice _=>match d with
  | .ints _ xs=>K (.int .i64 xs.length)
  | .slf _ n _=>K (.int .i64 n)
  | .nil=>K (.int .i64 0)
  | .osl _ _ len=>K (.int .i64 len)
  | .bsl _ _ len _=>K (.int .i64 len)
  | _=>False
 | .str=>match d with
  | .str s=>K (.int .i64 s.length)
  | _=>False
 | _=>False
theorem jb1 {n:Nat}(h:n≤281474976710656):InR .i64 (n:Int):=by
 constructor<;>simp[lo,hi]<;>omega
theorem len_el {P:Program}{tb:Tb}(htb:TbOk P tb){t:Nat}{d:D}{K:D→Prop}(hh:lenK tb t d K) :
  ∃ r,K r ∧ ∀ E h w v ty ats,ats[0]? = some t→Den E h d v→Gives P E h (Builtin.len_ ats ty #[v]) w r:=by
 have hx:=jak hh;clear hh;obtain⟨y,hy,hh⟩:=hx
 have hty:=htb _ _ hy
 split at hh
 ·rename_i e hk
  have hu:=jaw hty hk
  have hrun:∀ (w:World) (a:Option Addr) (n c:Nat) ty (ats:Array Nat),ats[0]? = some t→(Builtin.len_ ats ty #[.slice a n c]).run P w = .ok (.int .i64 n) w:=fun w a n c ty ats h0=>by
   simp[Builtin.len_,run_underlying hu,goInt,h0]
  split at hh
  ·refine⟨_,hh,fun E h w v ty ats h0 hv=>?_⟩
   simp only[Den,jaQ] at hv
   obtain⟨a,cap,rfl,_,h1,_⟩:=hv
   exact⟨_,hrun w _ _ _ _ _ h0,by simp only[Den];exact⟨trivial,jb1 h1⟩⟩
  ·refine⟨_,hh,fun E h w v ty ats h0 hv=>?_⟩
   simp only[Den] at hv
   obtain⟨a,cap,rfl,_,h1,_⟩:=hv
   exact⟨_,hrun w _ _ _ _ _ h0,by simp only[Den];exact⟨trivial,jb1 h1⟩⟩
  ·refine⟨_,hh,fun E h w v ty ats h0 hv=>?_⟩
   simp only[Den] at hv;subst hv
   exact⟨_,hrun w _ _ _ _ _ h0,by simp only[Den];exact⟨rfl,jb1 (n:=0) Jo⟩⟩
  ·refine⟨_,hh,fun E h w v ty ats h0 hv=>?_⟩
   simp only[Den] at hv
   rcases hv with⟨_,rfl,rfl⟩|⟨_,o,cap,rfl,_,_,h1,_⟩
   ·exact⟨_,hrun w _ _ _ _ _ h0,by simp only[Den];exact⟨by trivial,jb1 (n:=0) Jo⟩⟩
   ·exact⟨_,hrun w _ _ _ _ _ h0,by simp only[Den];exact⟨trivial,jb1 h1⟩⟩
  ·refine⟨_,hh,fun E h w v ty ats h0 hv=>?_⟩
   simp only[Den] at hv
   obtain⟨_,cap,rfl,_,h1,_⟩:=hv
   exact⟨_,hrun w _ _ _ _ _ h0,by simp only[Den];exact⟨trivial,jb1 h1⟩⟩
  ·exact hh.elim
 ·rename_i hk
  have hu:=jeK hty hk
  split at hh
  ·rename_i s0
   refine⟨_,hh,fun E h w v ty ats h0 hv=>?_⟩
   simp only[Den] at hv
   obtain⟨rfl,h1⟩:=hv
   refine⟨.int .i64 s0.length,?_,by simp only[Den];exact⟨trivial,jb1 h1⟩⟩
   have hs:(⟨s0.toArray⟩:ByteArray).size=s0.length:=by show s0.toArray.size=_;simp
   have hg:(#[Value.string ⟨s0.toArray⟩]:Array Value)[0]? = some (.string ⟨s0.toArray⟩):=rfl
   simp only[Builtin.len_,h0,hg,Sem.run_bind,run_underlying hu,Result.andThen_ok,goInt,hs,Sem.run_pure]
  ·exact hh.elim
 ·exact hh.elim
def sliceK (tb:Tb)(g:Prop)(L:Sl)(t:Nat)(dx:D)(lo hi:Option Operand)(K:D→Prop):Prop:=tyK tb t fun y=>match y.kind with
 | .slice e=>tyK tb e fun ye=>match Nat.beq ye.size 1 with
  | true=>match dx with
   | .ints k xs=>match lo,hi with
    | none,none=>K (.ints k xs)
    | none,some b=>rdg g L b fun r=>match r with | .int _ n=>(g→0≤n∧n≤xs.length)∧K (.ints k (xs.take n.toNat))|_=>False
    | some a,none=>rdg g L a fun r=>match r with | .int _ n=>(g→0≤n∧n≤xs.length)∧K (.ints k (xs.drop n.toNat))|_=>False
    | some a,some b=>rdg g L a fun r=>match r with
     | .int _ m=>rdg g L b fun r=>match r with | .int _ n=>(g→0≤m∧m≤n∧n≤xs.length)∧K (.ints k ((xs.take n.toNat).drop m.toNat))|_=>False
     | _=>False
   | .osl i off len=>match lo,hi with
    | none,none=>K (.osl i off len)
    | none,some b=>rdg g L b fun r=>match r with | .int _ n=>(g→0≤n∧n≤len)∧K (.osl i off n.toNat)|_=>False
    | some a,none=>rdg g L a fun r=>match r with | .int _ n=>(g→0≤n∧n≤len)∧K (.osl i (off+n.toNat) (len-n.toNat))|_=>False
    | some a,some b=>rdg g L a fun r=>match r with
     | .int _ m=>rdg g L b fun r=>match r with | .int _ n=>(g→0≤m∧m≤n∧n≤len)∧K (.osl i (off+m.toNat) (n.toNat-m.toNat))|_=>False
     | _=>False
   | _=>False
  | false=>match dx with
   | .slf e' q f=>match Nat.beq e' ye.size with
    | true=>match lo,hi with
     | none,some b=>rdg g L b fun r=>match r with | .int _ n=>(g→0≤n∧n≤q)∧K (.slf e' n.toNat fun j=>f (j+0))|_=>False
     | some a,none=>rdg g L a fun r=>match r with | .int _ n=>(g→0≤n∧n≤q)∧K (.slf e' (q-n.toNat) fun j=>f (j+n.toNat))|_=>False
     | some a,some b=>rdg g L a fun r=>match r with
      | .int _ m=>rdg g L b fun r=>match r with | .int _ n=>(g→0≤m∧m≤n∧n≤q)∧K (.slf e' (n.toNat-m.toNat) fun j=>f (j+m.toNat))|_=>False
      | _=>False
     | _,_=>False
    | false=>False
   | _=>False
 | .str=>match dx with
  | .str s=>match lo,hi with
   | none,none=>K (.str s)
   | none,some b=>rdg g L b fun r=>match r with | .int _ n=>(g→0≤n∧n≤s.length)∧K (.str (s.take n.toNat))|_=>False
   | some a,none=>rdg g L a fun r=>match r with | .int _ n=>(g→0≤n∧n≤s.length)∧K (.str (s.drop n.toNat))|_=>False
   | some a,some b=>rdg g L a fun r=>match r with
    | .int _ m=>rdg g L b fun r=>match r with | .int _ n=>(g→0≤m∧m≤n∧n≤s.length)∧K (.str ((s.take n.toNat).drop m.toNat))|_=>False
    | _=>False
  | _=>False
 | .arr n e=>match dx,lo,hi with
  | .box i off,none,none=>match Nat.ble n 1000000 with
   | true=>tyK tb e fun ye=>K (.bsl i off n ye.size)
   | false=>False
  | _,_,_=>False
 | _=>False
inductive Lim : Option Value → Int → Int → Prop
  | none (d : Int) : Lim none d d
  | some (k : IntKind) (n d : Int) : Lim (some (.int k n)) d n
theorem jba {P:Program}{t e:Nat}{ye:Ty}(hu:P.underlying t=some (.slice e))(he:TyOk P e ye){lo hi:Option Value}{m n:Int}{len cap:Nat}(a:Option Addr)
  (hlo:Lim lo 0 m) (hhi:Lim hi len n) (h0:0≤m) (h1:m≤n) (h2:n≤cap) (w:World) :
  (Instr.sliceAt t (.slice a len cap) lo hi none).run P w = .ok (.slice (if cap=m.toNat then a else a.map (·.add (m.toNat*ye.size))) (n.toNat-m.toNat) (cap-m.toNat)) w:=by
 have hb:(Instr.sliceBounds true len cap lo hi none).run P w = .ok (m.toNat,n.toNat,cap) w:=by
  have e2:((n.toNat:Nat):Int)=n:=jjE Jo
  have e0:0≤n:=Jo
  have e3:m≤(n.toNat:Int):=Jo
  have b1:∀ k,(Instr.sliceBound (.int k n) cap .sliceAcap).run P w = .ok n.toNat w:=fun k=>run_sliceBound w k n _ _ e0 h2
  have b2:∀ k,(Instr.sliceBound (.int k m) n.toNat .sliceB).run P w = .ok m.toNat w:=fun k=>run_sliceBound w k m _ _ h0 e3
  rcases hlo with _|⟨_,_,_⟩<;>rcases hhi with _|⟨_,_,_⟩<;>(try simp only[jjF] at b1 b2)<;>simp[Instr.sliceBounds,b1,b2]
 simp only[Instr.sliceAt,Instr.slice,Sem.run_bind,run_underlying hu,Result.andThen_ok,hb,he.sizeOf w,Sem.run_pure]
theorem jgF {P:Program}{t:Nat}(hu:P.underlying t=some .string){lo hi:Option Value}{m n:Int}{s:ByteArray}
  (hlo:Lim lo 0 m) (hhi:Lim hi s.size n) (h0:0≤m) (h1:m≤n) (h2:n≤s.size) (w:World) :
  (Instr.sliceAt t (.string s) lo hi none).run P w = .ok (.string (s.extract m.toNat n.toNat)) w:=by
 have hb:(Instr.sliceBounds false s.size s.size lo hi none).run P w = .ok (m.toNat,n.toNat,s.size) w:=by
  have e2:((n.toNat:Nat):Int)=n:=jjE Jo
  have e0:0≤n:=Jo
  have e3:m≤(n.toNat:Int):=Jo
  have b1:∀ k,(Instr.sliceBound (.int k n) s.size .sliceAlen).run P w = .ok n.toNat w:=fun k=>run_sliceBound w k n _ _ e0 h2
  have b2:∀ k,(Instr.sliceBound (.int k m) n.toNat .sliceB).run P w = .ok m.toNat w:=fun k=>run_sliceBound w k m _ _ h0 e3
  rcases hlo with _|⟨_,_,_⟩<;>rcases hhi with _|⟨_,_,_⟩<;>(try simp only[jjF] at b1 b2)<;>simp[Instr.sliceBounds,b1,b2]
 simp only[Instr.sliceAt,Instr.slice,Sem.run_bind,run_underlying hu,Result.andThen_ok,hb,Sem.run_pure,Option.isSome_none,Bool.false_eq_true,if_false]
theorem jhN {E:Env}{h:Pub}{k:IntKind}{xs:List Int}{a:Option Addr}{cap m n:Nat}(h1:m≤n)(h2:n≤xs.length){s:Nat}(hs:s=1)
  (H:Den E h (.ints k xs) (.slice a xs.length cap)):Den E h (.ints k ((xs.take n).drop m)) (.slice (if cap=m then a else a.map (·.add (m*s))) (n-m) (cap-m)):=by
 subst hs
 simp only[Den,jaQ] at H ⊢
 obtain⟨a',cap',he,h3,h4,h5,h6⟩:=H
 simp only[Value.slice.injEq,true_and] at he
 obtain⟨rfl,rfl⟩:=he
 have hlen:((xs.take n).drop m).length=n-m:=by simp;omega
 refine⟨_,_,by rw[hlen],Jo,Jo,fun z hz=>h5 z (jkj (jki hz)),?_⟩
 cases a with
 | none=>
  obtain⟨h7,h8⟩:=h6;subst h7;subst h8
  simp only[Option.map_none,ite_self]
  exact⟨Js,Jo⟩
 | some ad=>
  by_cases hc:cap=m
  ·rw[if_pos hc]
   refine⟨h6.1,fun i z hz=>?_⟩
   have:i<((xs.take n).drop m).length:=(jkh.1 hz).1
   omega
  ·rw[if_neg hc]
   simp only[Option.map_some,Nat.mul_one]
   rw[jbO h6.1]
   refine⟨rfl,fun i z hz=>?_⟩
   simp only[Nat.add_assoc]
   exact h6.2 _ _ (jaY (by simpa using hz))
theorem jiD {E:Env}{h:Pub}{i off len:Nat}{ad:Addr}{cap m n:Nat}(h1:m≤n)(h2:n≤len){s:Nat}(hs:s=1)
  (H:Den E h (.osl i off len) (.slice (some ad) len cap)):Den E h (.osl i (off+m) (n-m)) (.slice (if cap=m then some ad else (some ad).map (·.add (m*s))) (n-m) (cap-m)):=by
 subst hs
 simp only[Den] at H ⊢
 rcases H with⟨_,H,_⟩|⟨hreal,o,cap',he,h3,h4,h5,h6,hkn⟩
 ·cases H
 simp only[Value.slice.injEq,true_and,Option.some.injEq] at he
 obtain⟨rfl,rfl⟩:=he
 refine .inr ⟨hreal,?_⟩
 split
 ·exact⟨o,cap-m,rfl,Jo,Jo,Jo,Jo,Jo⟩
 ·refine⟨o+m,cap-m,by simp[jaO],Jo,Jo,Jo,?_,Jo⟩
  rcases h6 with rfl|h6
  ·exact .inl rfl
  ·omega
theorem jiC {E:Env}{h:Pub}{e q:Nat}{f:Nat→List D}{a:Option Addr}{cap m n:Nat}(h1:m≤n)(h2:n≤q){s:Nat}(hs:e=s)
  (H:Den E h (.slf e q f) (.slice a q cap)):Den E h (.slf e (n-m) fun j=>f (j+m)) (.slice (if cap=m then a else a.map (·.add (m*s))) (n-m) (cap-m)):=by
 subst hs
 simp only[Den] at H ⊢
 obtain⟨a',cap',he,h3,h4,h6⟩:=H
 simp only[Value.slice.injEq,true_and] at he
 obtain⟨rfl,rfl⟩:=he
 refine⟨_,_,rfl,Jo,Jo,?_⟩
 cases a with
 | none=>
  obtain⟨h7,h8⟩:=h6
  simp only[Option.map_none,ite_self]
  exact⟨Jo,Jo⟩
 | some ad=>
  by_cases hc:cap=m
  ·rw[if_pos hc]
   exact⟨h6.1,fun j hj=>Jo⟩
  ·rw[if_neg hc]
   simp only[Option.map_some]
   rw[jbO h6.1]
   refine⟨rfl,fun j hj=>?_⟩
   obtain⟨vs,g1,g2,g3,g4⟩:=h6.2 (j+m) Jo
   refine⟨vs,g1,g2,g3,fun i v hv=>?_⟩
   have:=g4 i v hv
   rw[Nat.add_mul] at this
   simp only
   rw[show ad.off+m*e+j*e+i=ad.off+(j*e+m*e)+i by omega]
   exact this
theorem jiB {s:List UInt8}{m n:Nat}(_h2:n≤s.length):((⟨s.toArray⟩:ByteArray).extract m n)=⟨((s.take n).drop m).toArray⟩:=by
 apply ByteArray.ext
 rw[ByteArray.data_extract]
 apply Array.toList_inj.1
 simp[List.drop_take]
theorem jaW {g:Prop}{L:Sl}{x:Operand}{K:Int→Prop}(h:rdg g L x fun r=>match r with | .int _ n=>K n|_=>False) :
  ∃ n,K n ∧ ∀ (E:Env) (hp:Pub) (a:Act),g→Den E hp (rd L x) (a.eval x) → ∃ k,a.eval x = .int k n:=by
 obtain⟨d,h1,h2⟩:=jat h
 split at h1
 ·rename_i k n
  refine⟨n,h1,fun E hp a hg hd=>?_⟩
  have:=h2 E hp a hg hd
  simp only[Den] at this
  exact⟨_,this.1⟩
 ·exact h1.elim
theorem slice_el {P:Program}{tb:Tb}(htb:TbOk P tb){g:Prop}{L:Sl}{t:Nat}{dx:D}{lo hi:Option Operand}{K:D→Prop}(hh:sliceK tb g L t dx lo hi K) :
  ∃ r,K r ∧ ∀ E h (a:Act) w v,(∀ x,Den E h (rd L x) (a.eval x))→Den E h dx v→g→Gives P E h (Instr.sliceAt t v (lo.map a.eval) (hi.map a.eval) none) w r:=by
 have hx:=jak hh;clear hh;obtain⟨y,hy,hh⟩:=hx
 have hty:=htb _ _ hy
 split at hh
 ·rename_i e hk
  have hu:=jaw hty hk
  have hx:=jak hh;clear hh;obtain⟨ye,hye,hh⟩:=hx
  have hte:=htb _ _ hye
  cases hb:Nat.beq ye.size 1 with
  | false=>
   rw[hb] at hh
   cases dx with
   | slf e' q f=>
    dsimp only at hh
    cases hb2:Nat.beq e' ye.size with
    | false=>rw[hb2] at hh;exact hh.elim
    | true=>
     rw[hb2] at hh
     have hsz:=jae hb2
     have fin:∀ (m n:Int),0≤m→m≤n→n≤q → ∀ E h (w:World) v (lo hi:Option Value),Lim lo 0 m→Lim hi q n→Den E h (.slf e' q f) v →
       Gives P E h (Instr.sliceAt t v lo hi none) w (.slf e' (n.toNat-m.toNat) fun j=>f (j+m.toNat)):=by
      intro m n h0 h1 h2 E h w v lo hi hlo hhi hv
      have hv':=hv
      simp only[Den] at hv
      obtain⟨a,cap,rfl,h3,_⟩:=hv
      exact⟨_,jba hu hte a hlo hhi h0 h1 Jo w,jiC Jo Jo hsz hv'⟩
     cases lo with
     | none=>
      cases hi with
      | none=>exact hh.elim
      | some b=>
       dsimp only at hh
       obtain⟨n,hn,he⟩:=jaW hh
       refine⟨_,hn.2,fun E h a w v hk hv hg=>?_⟩
       obtain⟨h1,h2⟩:=hn.1 hg
       obtain⟨k',hk'⟩:=he E h a hg (hk b)
       have:=fin 0 n Jo h1 h2 E h w v none (some (a.eval b)) (.none _) (by rw[hk'];exact .some _ _ _) hv
       simpa using this
     | some b=>
      cases hi with
      | none=>
       dsimp only at hh
       obtain⟨n,hn,he⟩:=jaW hh
       refine⟨_,hn.2,fun E h a w v hk hv hg=>?_⟩
       obtain⟨h1,h2⟩:=hn.1 hg
       obtain⟨k',hk'⟩:=he E h a hg (hk b)
       have:=fin n q h1 h2 Jo E h w v (some (a.eval b)) none (by rw[hk'];exact .some _ _ _) (.none _) hv
       simpa using this
      | some c=>
       dsimp only at hh
       obtain⟨m,hm,hem⟩:=jaW hh
       obtain⟨n,hn,he⟩:=jaW hm
       refine⟨_,hn.2,fun E h a w v hk hv hg=>?_⟩
       obtain⟨h1,h2,h3⟩:=hn.1 hg
       obtain⟨k',hk'⟩:=hem E h a hg (hk b)
       obtain⟨k2,hk2⟩:=he E h a hg (hk c)
       exact fin m n h1 h2 h3 E h w v (some (a.eval b)) (some (a.eval c)) (by rw[hk'];exact .some _ _ _) (by rw[hk2];exact .some _ _ _) hv
   | _=>exact hh.elim
  | true=>
   rw[hb] at hh
   have hsz:=jae hb
   have fin:∀ (k:IntKind) (xs:List Int) (m n:Int),0≤m→m≤n→n≤xs.length → ∀ E h (w:World) v (lo hi:Option Value),Lim lo 0 m→Lim hi xs.length n→Den E h (.ints k xs) v →
     Gives P E h (Instr.sliceAt t v lo hi none) w (.ints k ((xs.take n.toNat).drop m.toNat)):=by
    intro k xs m n h0 h1 h2 E h w v lo hi hlo hhi hv
    have hv':=hv
    simp only[Den,jaQ] at hv
    obtain⟨a,cap,rfl,h3,_⟩:=hv
    exact⟨_,jba hu hte a hlo hhi h0 h1 Jo w,jhN Jo Jo hsz hv'⟩
   have fino:∀ (i off len:Nat) (m n:Int),0≤m→m≤n→n≤len → ∀ E h (w:World) v (lo hi:Option Value),Lim lo 0 m→Lim hi len n→Den E h (.osl i off len) v →
     Gives P E h (Instr.sliceAt t v lo hi none) w (.osl i (off+m.toNat) (n.toNat-m.toNat)):=by
    intro i off len m n h0 h1 h2 E h w v lo hi hlo hhi hv
    have hv':=hv
    simp only[Den] at hv
    rcases hv with⟨hr,rfl,rfl⟩|⟨hr,o,cap,rfl,h3,_⟩
    ·refine⟨_,jba hu hte none hlo hhi h0 h1 Jo w,?_⟩
     simp only[Den]
     refine .inl ⟨hr,?_,Jo⟩
     have:n.toNat-m.toNat=0:=Jo
     simp[this]
    ·exact⟨_,jba hu hte _ hlo hhi h0 h1 Jo w,jiD Jo Jo hsz hv'⟩
   cases dx with
   | ints k xs=>
    cases lo with
    | none=>
     cases hi with
     | none=>
      dsimp only at hh
      refine⟨_,hh,fun E h a w v hk hv hg=>?_⟩
      have:=fin k xs 0 xs.length Jo Jo Jo E h w v none none (.none _) (.none _) hv
      simpa using this
     | some b=>
      dsimp only at hh
      obtain⟨n,hn,he⟩:=jaW hh
      refine⟨_,hn.2,fun E h a w v hk hv hg=>?_⟩
      obtain⟨h1,h2⟩:=hn.1 hg
      obtain⟨k',hk'⟩:=he E h a hg (hk b)
      have:=fin k xs 0 n Jo h1 h2 E h w v none (some (a.eval b)) (.none _) (by rw[hk'];exact .some _ _ _) hv
      simpa using this
    | some b=>
     cases hi with
     | none=>
      dsimp only at hh
      obtain⟨n,hn,he⟩:=jaW hh
      refine⟨_,hn.2,fun E h a w v hk hv hg=>?_⟩
      obtain⟨h1,h2⟩:=hn.1 hg
      obtain⟨k',hk'⟩:=he E h a hg (hk b)
      have:=fin k xs n xs.length h1 h2 Jo E h w v (some (a.eval b)) none (by rw[hk'];exact .some _ _ _) (.none _) hv
      simpa using this
     | some c=>
      dsimp only at hh
      obtain⟨m,hm,hem⟩:=jaW hh
      obtain⟨n,hn,he⟩:=jaW hm
      refine⟨_,hn.2,fun E h a w v hk hv hg=>?_⟩
      obtain⟨h1,h2,h3⟩:=hn.1 hg
      obtain⟨k',hk'⟩:=hem E h a hg (hk b)
      obtain⟨k2,hk2⟩:=he E h a hg (hk c)
      exact fin k xs m n h1 h2 h3 E h w v (some (a.eval b)) (some (a.eval c)) (by rw[hk'];exact .some _ _ _) (by rw[hk2];exact .some _ _ _) hv
   | osl i off len=>
    cases lo with
    | none=>
     cases hi with
     | none=>
      dsimp only at hh
      refine⟨_,hh,fun E h a w v hk hv hg=>?_⟩
      have:=fino i off len 0 len Jo Jo Jo E h w v none none (.none _) (.none _) hv
      simpa using this
     | some b=>
      dsimp only at hh
      obtain⟨n,hn,he⟩:=jaW hh
      refine⟨_,hn.2,fun E h a w v hk hv hg=>?_⟩
      obtain⟨h1,h2⟩:=hn.1 hg
      obtain⟨k',hk'⟩:=he E h a hg (hk b)
      have:=fino i off len 0 n Jo h1 h2 E h w v none (some (a.eval b)) (.none _) (by rw[hk'];exact .some _ _ _) hv
      simpa using this
    | some b=>
     cases hi with
     | none=>
      dsimp only at hh
      obtain⟨n,hn,he⟩:=jaW hh
      refine⟨_,hn.2,fun E h a w v hk hv hg=>?_⟩
      obtain⟨h1,h2⟩:=hn.1 hg
      obtain⟨k',hk'⟩:=he E h a hg (hk b)
      have:=fino i off len n len h1 h2 Jo E h w v (some (a.eval b)) none (by rw[hk'];exact .some _ _ _) (.none _) hv
      simpa using this
     | some c=>
      dsimp only at hh
      obtain⟨m,hm,hem⟩:=jaW hh
      obtain⟨n,hn,he⟩:=jaW hm
      refine⟨_,hn.2,fun E h a w v hk hv hg=>?_⟩
      obtain⟨h1,h2,h3⟩:=hn.1 hg
      obtain⟨k',hk'⟩:=hem E h a hg (hk b)
      obtain⟨k2,hk2⟩:=he E h a hg (hk c)
      exact fino i off len m n h1 h2 h3 E h w v (some (a.eval b)) (some (a.eval c)) (by rw[hk'];exact .some _ _ _) (by rw[hk2];exact .some _ _ _) hv
   | _=>exact hh.elim
 ·rename_i hk
  have hu:=jeK hty hk
  cases dx with
  | str s=>
   have fin:∀ (m n:Int),0≤m→m≤n→n≤s.length → ∀ E h (w:World) v (lo hi:Option Value),Lim lo 0 m→Lim hi s.length n→Den E h (.str s) v →
     Gives P E h (Instr.sliceAt t v lo hi none) w (.str ((s.take n.toNat).drop m.toNat)):=by
    intro m n h0 h1 h2 E h w v lo hi hlo hhi hv
    simp only[Den] at hv
    obtain⟨rfl,h3⟩:=hv
    have hsz:(⟨s.toArray⟩:ByteArray).size=s.length:=by show s.toArray.size=_;simp
    have hhi':Lim hi ((⟨s.toArray⟩:ByteArray).size:Nat) n:=by rw[hsz];exact hhi
    refine⟨_,jgF hu hlo hhi' h0 h1 Jo w,?_⟩
    rw[jiB Jo]
    simp only[Den]
    refine⟨trivial,?_⟩
    simp;omega
   cases lo with
   | none=>
    cases hi with
    | none=>
     dsimp only at hh
     refine⟨_,hh,fun E h a w v hk hv hg=>?_⟩
     have:=fin  0 s.length Jo Jo Jo E h w v none none (.none _) (.none _) hv
     simpa using this
    | some b=>
     dsimp only at hh
     obtain⟨n,hn,he⟩:=jaW hh
     refine⟨_,hn.2,fun E h a w v hk hv hg=>?_⟩
     obtain⟨h1,h2⟩:=hn.1 hg
     obtain⟨k',hk'⟩:=he E h a hg (hk b)
     have:=fin  0 n Jo h1 h2 E h w v none (some (a.eval b)) (.none _) (by rw[hk'];exact .some _ _ _) hv
     simpa using this
   | some b=>
    cases hi with
    | none=>
     dsimp only at hh
     obtain⟨n,hn,he⟩:=jaW hh
     refine⟨_,hn.2,fun E h a w v hk hv hg=>?_⟩
     obtain⟨h1,h2⟩:=hn.1 hg
     obtain⟨k',hk'⟩:=he E h a hg (hk b)
     have:=fin  n s.length h1 h2 Jo E h w v (some (a.eval b)) none (by rw[hk'];exact .some _ _ _) (.none _) hv
     simpa using this
    | some c=>
     dsimp only at hh
     obtain⟨m,hm,hem⟩:=jaW hh
     obtain⟨n,hn,he⟩:=jaW hm
     refine⟨_,hn.2,fun E h a w v hk hv hg=>?_⟩
     obtain⟨h1,h2,h3⟩:=hn.1 hg
     obtain⟨k',hk'⟩:=hem E h a hg (hk b)
     obtain⟨k2,hk2⟩:=he E h a hg (hk c)
     exact fin  m n h1 h2 h3 E h w v (some (a.eval b)) (some (a.eval c)) (by rw[hk'];exact .some _ _ _) (by rw[hk2];exact .some _ _ _) hv
  | _=>exact hh.elim
 ·rename_i n e hk
  have hu:=jcD hty hk
  split at hh
  case h_2=>exact hh.elim
  rename_i i off
  cases hb:Nat.ble n 1000000 with
  | false=>rw[hb] at hh;exact hh.elim
  | true=>
   rw[hb] at hh
   have hn:=jjw hb
   have hx:=jak hh;clear hh;obtain⟨ye,hye,hh⟩:=hx
   have hte:=htb _ _ hye
   refine⟨_,hh,fun E h a w v hk hv hg=>?_⟩
   simp only[Den] at hv
   obtain⟨rfl,hr⟩:=hv
   refine⟨.slice (some ⟨E.blk i,off,none⟩) n n,?_,by simp only[Den];exact⟨hr,n,rfl,jjG _,Jo,.inl rfl⟩⟩
   simp only[Option.map_none,Instr.sliceAt,Sem.run_bind,run_underlying hu,Result.andThen_ok,Instr.sureAddr,Sem.run_pure,Instr.sliceBounds,hte.sizeOf w]
   simp[Addr.add]
 ·exact hh.elim
end Go.V
end
section
namespace Go.V
open Go Go.RowKit
def jex (d:D)(K:List D→Prop):Prop:=match d with
 | .agg ds=>K ds
 | .bool b=>K [.bool b]
 | .int k n=>K [.int k n]
 | .str s=>K [.str s]
 | .nil=>K [.nil]
 | .ints k xs=>K [.ints k xs]
 | .slf e n f=>K [.slf e n f]
 | .fn f b c=>K [.fn f b c]
 | .ref ds=>K [.ref ds]
 | .box i o=>K [.box i o]
 | .osl i o l=>K [.osl i o l]
 | .bsl i o l e=>K [.bsl i o l e]
 | .gp g=>K [.gp g]
 | .yld g=>K [.yld g]
 | .mapr g=>K [.mapr g]
 | .iarr k xs=>K (xs.map (D.int k))
 | _=>False
theorem jhP {E:Env}{h:Pub}{k:IntKind} : ∀ {xs:List Int},(∀ n∈xs,InR k n)→DenL E h (xs.map (D.int k)) (xs.map (Value.int k))
 | [],_=>by simp[DenL]
 | x::xs,hx=>by
  simp only[List.map_cons,DenL,Den]
  exact⟨_,_,rfl,⟨rfl,hx x Js⟩,jhP fun n hn=>hx n (by simp[hn])⟩
theorem jeP {d : D} {K : List D → Prop} (hh : jex d K) :
    ∃ ds, K ds ∧ ∀ E h v, Den E h d v → DenL E h ds v.cells.toList ∧ (∀ u ∈ v.cells.toList, u.oneCell' = true) := by
  cases d <;> simp only [jex] at hh
  case agg ds =>
    refine ⟨_, hh, fun E h v hv => ?_⟩
    simp only [Den] at hv
    obtain ⟨vs, rfl, h1, h2⟩ := hv
    simp only [Value.cells]
    exact ⟨h1, h2⟩
  case iarr k xs =>
    refine ⟨_, hh, fun E h v hv => ?_⟩
    simp only [Den] at hv
    obtain ⟨rfl, h1⟩ := hv
    simp only [Value.cells]
    refine ⟨jhP h1, fun u hu => ?_⟩
    obtain ⟨n, _, rfl⟩ := List.mem_map.1 (by simpa using hu)
    rfl
  all_goals first
    | exact hh.elim
    | (refine ⟨_, hh, fun E h v hv => ?_⟩
       have hv' := hv
       simp only [Den, jaQ] at hv
       have hc : v.cells.toList = [v] ∧ v.oneCell' = true := by
         first
           | (subst hv; exact ⟨rfl, rfl⟩)
           | (obtain ⟨rfl, _⟩ := hv; exact ⟨rfl, rfl⟩)
           | (obtain ⟨_, _, rfl, _⟩ := hv; exact ⟨rfl, rfl⟩)
           | (obtain ⟨_, _, rfl⟩ := hv; exact ⟨rfl, rfl⟩)
           | (rcases hv with ⟨_, rfl, _⟩ | ⟨_, _, _, rfl, _⟩ <;> exact ⟨rfl, rfl⟩)
           | (obtain ⟨_, rfl, _⟩ := hv; exact ⟨rfl, rfl⟩)
       rw [hc.1]
       simp only [DenL, List.mem_singleton]
       exact ⟨⟨v, [], rfl, hv', rfl⟩, fun u hu => by rw [hu]; exact hc.2⟩)
def setAt {α:Type}(ds:List α)(o:Nat)(ns:List α):List α:=ds.take o++ns++ds.drop (o+ns.length)
def jbq:List D→Nat→List D→(List D→Prop)→Prop
 | ds,0,[],K=>K ds
 | [],0,_::_,_=>False
 | _::ds,0,n::ns,K=>jbq ds 0 ns fun r=>K (n::r)
 | [],_+1,_,_=>False
 | d::ds,o+1,ns,K=>jbq ds o ns fun r=>K (d::r)
theorem jcP {ds:List D}{o:Nat}{ns:List D}{K:List D→Prop}(h:jbq ds o ns K):o+ns.length≤ds.length∧K (setAt ds o ns):=by
 induction ds generalizing o ns K with
 | nil=>
  cases o with
  | zero=>cases ns with
   | nil=>simpa [jbq,setAt] using h
   | cons=>exact h.elim
  | succ o=>exact h.elim
 | cons d ds ih=>
  cases o with
  | zero=>
   cases ns with
   | nil=>exact⟨Js,by simpa [jbq,setAt] using h⟩
   | cons n ns=>
    have:=ih (o:=0) (ns:=ns) h
    refine⟨by simp at this ⊢; omega,?_⟩
    have h2:=this.2
    simp only[setAt,List.take_zero,jkk,jjC] at h2 ⊢
    simpa using h2
  | succ o=>
   have:=ih (o:=o) (ns:=ns) h
   refine⟨by simp at this ⊢; omega,?_⟩
   have h2:=this.2
   simp only[setAt] at h2 ⊢
   rw[show o+1+ns.length=(o+ns.length)+1 by omega]
   simpa using h2
theorem DenL.setAt {E:Env}{h:Pub}{ds ns:List D}{vs us:List Value}(H:DenL E h ds vs)(G:DenL E h ns us)(o:Nat):DenL E h (setAt ds o ns) (setAt vs o us):=by
 unfold V.setAt
 rw[G.length]
 exact((H.take o).append G).append (H.drop _)
theorem je1 {α:Type}{ds rs ns:List α}{o:Nat}(h:o+ns.length≤ds.length):setAt (ds++rs) o ns=setAt ds o ns++rs:=by
 unfold setAt
 rw[jkl Jo,jkm h,jkf,jkf,jkf]
theorem jco {α:Type}{ds ns:List α}{o:Nat}{p:α→Prop}(h1:∀ x∈ds,p x)(h2:∀ x∈ns,p x):∀ x∈setAt ds o ns,p x:=by
 intro x hx
 simp only[setAt,List.mem_append] at hx
 rcases hx with(hx|hx)|hx
 ·exact h1 x (jkj hx)
 ·exact h2 x hx
 ·exact h1 x (jki hx)
theorem jbM {α:Type}{ds ns:List α}{o:Nat}(h:o+ns.length≤ds.length):(setAt ds o ns).length=ds.length:=by
 simp[setAt];omega
theorem jdu (off:Nat):∀ (l:List Value) (s:Nat) (cells:Array Value),off+s+l.length≤cells.size →
  ((l.zipIdx s).foldl (fun (cs:Array Value) (p:Value×Nat)=>cs.setIfInBounds (off+p.2) p.1) cells).toList=setAt cells.toList (off+s) l
 | [],s,cells,_=>by simp[setAt]
 | v::l,s,cells,h=>by
  simp only[jkn] at h
  simp only[List.zipIdx_cons,List.foldl_cons]
  rw[jdu off l (s+1) _ (by simp;omega)]
  simp only[setAt,Array.toList_setIfInBounds,jkn]
  rw[List.take_set,List.drop_set_of_lt Jo]
  rw[show off+(s+1)=off+s+1 by omega,List.take_succ_eq_append_getElem (by simp;omega)]
  have hmin:min (off+s) cells.size=off+s:=Nat.min_eq_left Jo
  have e:∀ x:Value,(List.take (off+s) cells.toList++[x]).set (off+s) v=List.take (off+s) cells.toList++[v]:=fun x=>by
   rw[List.set_append];simp[hmin]
  rw[e,show off+s+1+l.length=off+s+(l.length+1) by omega]
  simp
def fillK (g:Prop)(L:Sl)(place:Nat→(Nat→Nat→Prop)→Prop):List (Nat×Operand)→List D→(List D→Prop)→Prop
 | [],ds,K=>K ds
 | (i,x)::rest,ds,K=>rdg g L x fun d=>jex d fun cs=>place i fun off size=>match Nat.beq cs.length size with
  | true=>jbq ds off cs fun ds=>fillK g L place rest ds K
  | false=>False
theorem jiw {g:Prop}{L:Sl}{place:Nat→(Nat→Nat→Prop)→Prop}{pl:Nat→Option (Nat×Nat)}(hpl:∀ i K,place i K → ∃ o s,pl i=some (o,s)∧K o s)
  {parts:List (Nat×Operand)} {ds:List D} {K:List D→Prop} (hh:fillK g L place parts ds K) :
  ∃ rs,K rs ∧ ∀ E h (a:Act),(∀ x,Den E h (rd L x) (a.eval x))→g → ∀ cells:Array Value,DenL E h ds cells.toList→(∀ u∈cells.toList,u.oneCell'=true) →
   ∃ cells',Instr.fill pl cells (parts.map fun p=>(p.1,a.eval p.2))=some cells'∧DenL E h rs cells'.toList∧(∀ u∈cells'.toList,u.oneCell'=true):=by
 induction parts generalizing ds with
 | nil=>exact⟨_,hh,fun E h a _ _ cells h1 h2=>⟨cells,rfl,h1,h2⟩⟩
 | cons p rest ih=>
  obtain⟨i,x⟩:=p
  simp only[fillK] at hh
  obtain⟨d,hh,hd⟩:=jat hh
  obtain⟨cs,hh,hcs⟩:=jeP hh
  obtain⟨o,s,hp,hh⟩:=hpl _ _ hh
  cases hb:Nat.beq cs.length s with
  | false=>rw[hb] at hh;exact hh.elim
  | true=>
   rw[hb] at hh
   have hs:=jae hb
   obtain⟨hle,hh⟩:=jcP hh
   obtain⟨rs,hr,hh⟩:=ih hh
   refine⟨rs,hr,fun E h a hk hg cells h1 h2=>?_⟩
   obtain⟨h3,h4⟩:=hcs E h _ (hd E h a hg (hk x))
   have hl1:=h3.length
   have hl2:=h1.length
   simp only[Array.length_toList] at hl1 hl2
   simp only[List.map_cons,Instr.fill,hp]
   rw[if_neg (by simp;omega)]
   refine hh E h a hk hg _ ?_ ?_
   ·have:=jdu o (a.eval x).cells.toList 0 cells (by simp;omega)
    rw[jjD] at this
    rw[← Array.foldl_toList,Array.toList_zipIdx,this]
    exact h1.setAt h3 o
   ·have:=jdu o (a.eval x).cells.toList 0 cells (by simp;omega)
    rw[jjD] at this
    rw[← Array.foldl_toList,Array.toList_zipIdx,this]
    exact jco h2 h4
def buildK (tb:Tb)(g:Prop)(L:Sl)(t:Nat)(parts:Array (Nat×Operand))(K:D→Prop):Prop:=tyK tb t fun y=>match y.kind with
 | .struct fs=>fillK g L (fun i K=>nthF fs i fun o u=>tyK tb u fun yu=>K o yu.size) parts.toList y.zero fun ds=>K (.agg ds)
 | .arr _ e=>tyK tb e fun ye=>fillK g L (fun i K=>K (i*ye.size) ye.size) parts.toList y.zero fun ds=>K (.agg ds)
 | _=>False
theorem jdG {P:Program}{α β:Type}{f:α→Sem β}{w:World} : ∀ (xs:List α) (ys:List β),xs.length=ys.length→(∀ (i:Nat) (x:α) (y:β),xs[i]? = some x→ys[i]? = some y→(f x).run P w = .ok y w) →
  (xs.mapM f).run P w = .ok ys w
 | [],[],_,_=>Js
 | x::xs,y::ys,hl,h=>by
  have h0:=h 0 x y rfl rfl
  have ih:=jdG xs ys (by simpa using hl) (fun i x y hx hy=>h (i+1) x y (by simpa using hx) (by simpa using hy))
  simp[List.mapM_cons,h0,ih]
 | [],_::_,hl,_=>by simp at hl
 | _::_,[],hl,_=>by simp at hl
theorem build_el {P:Program}{tb:Tb}(htb:TbOk P tb){g:Prop}{L:Sl}{t:Nat}{parts:Array (Nat×Operand)}{K:D→Prop}(hh:buildK tb g L t parts K) :
  ∃ r,K r ∧ ∀ E h (a:Act) w,(∀ x,Den E h (rd L x) (a.eval x))→g→Gives P E h (Instr.build t (parts.map fun p=>(p.1,a.eval p.2))) w r:=by
 have hx:=jak hh;clear hh;obtain⟨y,hy,hh⟩:=hx
 have hty:=htb _ _ hy
 obtain⟨iy,z,i1,i2,i3,i4,i5,i6,i7,i8,i9⟩:=hty.info
 have hz:∀ w,(zeroValue t).run P w = .ok z w:=fun w=>by simp[zeroValue,typeInfo,i1,i4]
 have hpl:∀ a:Act,(parts.map fun p=>(p.1,a.eval p.2)).toList=parts.toList.map fun p=>(p.1,a.eval p.2):=fun a=>Js
 split at hh
 ·rename_i fs hk
  have hu:=hty.und;rw[hk] at hu
  obtain⟨fields,hu,hsz,hff⟩:=hu
  -- the places of the fields
  obtain⟨pls,hpls,hpl2⟩:∃ pls:List (Nat×Nat),pls.length=fields.size ∧ ∀ i o u,fs[i]? = some (o,u) → ∃ iu,P.info? u=some iu∧pls[i]? = some (o,iu.size):=by
   refine⟨fs.map fun p=>(p.1,((P.info? p.2).map (·.size)).getD 0),by simp[hsz],fun i o u hi=>?_⟩
   obtain⟨f,iu,_,_,_,h4,_⟩:=hff i o u hi
   exact⟨iu,h4,by rw[List.getElem?_map,hi];simp[h4]⟩
  have hmap:∀ w,(fields.mapM fun f=>do pure (f.offset,← sizeOf f.type):Sem _).run P w = .ok pls.toArray w:=fun w=>by
   rw[Array.mapM_eq_mapM_toList]
   have:=jdG (P:=P) (w:=w) (f:=fun f:Field=>(do pure (f.offset,← sizeOf f.type):Sem (Nat×Nat))) fields.toList pls (by simp[hpls]) (fun i f p hf hp=>by
    have hi:i<fs.length:=by rw[← hsz,← hpls];exact(jkh.1 hp).1
    obtain⟨o,u,hfs'⟩:∃ o u,fs[i]? = some (o,u):=⟨fs[i].1,fs[i].2,jkb hi⟩
    obtain⟨f',iu,g1,g2,g3,g4,_⟩:=hff i o u hfs'
    obtain⟨iu',g5,g6⟩:=hpl2 i o u hfs'
    rw[g4] at g5;cases g5
    have:f=f':=by rw[← Array.getElem?_toList,hf] at g1;exact Option.some.inj g1
    subst this
    rw[hp] at g6;cases g6
    simp[sizeOf,typeInfo,g3,g4,g2])
   rw[Sem.run_map,this];rfl
  obtain⟨rs,hr,hh⟩:=jiw (pl:=fun i=>pls.toArray[i]?) (fun i K h=>by
   obtain⟨o,u,h1,h2⟩:=jif h
   obtain⟨yu,h3,h4⟩:=jak h2
   obtain⟨iu,h5,h6⟩:=hpl2 i o u h1
   obtain⟨iu',_,h7,h8,_⟩:=(htb _ _ h3).info
   rw[h5] at h7;cases h7
   exact⟨o,yu.size,by simp[h6,h8],h4⟩) hh
  refine⟨_,hr,fun E h a w hkn hg=>?_⟩
  obtain⟨cells',h1,h2,h3⟩:=hh E h a hkn hg z.cells (i5 E h) i6
  refine⟨.agg cells',?_,?_⟩
  ·simp only[Instr.build,Sem.run_bind,hz,Result.andThen_ok,run_underlying hu,hmap,hpl a,h1,Sem.run_pure]
  ·simp only[Den];exact⟨cells'.toList,Js,h2,h3⟩
 ·rename_i n e hk
  have hu:=jcD hty hk
  have hx:=jak hh;clear hh;obtain⟨ye,hye,hh⟩:=hx
  have hte:=htb _ _ hye
  obtain⟨rs,hr,hh⟩:=jiw (pl:=fun i=>some (i*ye.size,ye.size)) (fun i K h=>⟨_,_,rfl,h⟩) hh
  refine⟨_,hr,fun E h a w hkn hg=>?_⟩
  obtain⟨cells',h1,h2,h3⟩:=hh E h a hkn hg z.cells (i5 E h) i6
  refine⟨.agg cells',?_,?_⟩
  ·simp only[Instr.build,Sem.run_bind,hz,Result.andThen_ok,run_underlying hu,hte.sizeOf w,hpl a,h1,Sem.run_pure]
  ·simp only[Den];exact⟨cells'.toList,Js,h2,h3⟩
 ·exact hh.elim
end Go.V
end
