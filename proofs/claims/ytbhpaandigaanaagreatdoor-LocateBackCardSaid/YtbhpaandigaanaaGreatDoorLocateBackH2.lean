/- Laws of a small interpreter over plain values, part 2. No condition. -/
import Derived.Test.YtbhpaandigaanaaGreatDoorLocateBackH1
set_option linter.unusedSimpArgs false
set_option linter.unusedVariables false
set_option maxHeartbeats 8000000
set_option maxRecDepth 100000
section
namespace Go.V
open Go Go.RowKit
mutual
def D.pure:D→Bool
 | .box _ _ | .osl _ _ _ | .bsl _ _ _ _ | .yld _ | .mapr _=>false
 | .agg ds | .tup ds | .ref ds=>D.pureL ds
 | .fn _ es ds=>match D.pureL es with|true=>D.pureL ds|false=>false
 | .gd _ d=>D.pure d
 | _=>true
def D.pureL:List D→Bool
 | []=>true
 | d::ds=>match D.pure d with|true=>D.pureL ds|false=>false
end
mutual
theorem Den.pure {E E':Env}{h:Pub} : ∀ {d:D} {v:Value},d.pure=true→Den E h d v→Den E' h d v
 | .any,_,_,_=>by simp[Den]
 | .undef,_,_,H=>by simpa [Den] using H
 | .bool _,_,_,H=>by simpa [Den] using H
 | .int _ _,_,_,H=>by simpa [Den] using H
 | .str _,_,_,H=>by simpa [Den] using H
 | .nil,_,_,H=>by simpa [Den] using H
 | .ints k xs,v,_,H=>by simpa [Den] using H
 | .slf _ _ _,_,_,H=>by simpa [Den] using H
 | .iarr _ _,_,_,H=>by simpa [Den] using H
 | .agg ds,v,F,H=>by
  simp only[Den] at H ⊢
  simp only[D.pure] at F
  obtain⟨vs,h1,h2,h3⟩:=H
  exact⟨vs,h1,DenL.pure F h2,h3⟩
 | .tup ds,v,F,H=>by
  simp only[Den] at H ⊢
  simp only[D.pure] at F
  obtain⟨vs,h1,h2⟩:=H
  exact⟨vs,h1,DenL.pure F h2⟩
 | .fn f first caps,v,F,H=>by
  simp only[Den] at H ⊢
  simp only[D.pure] at F
  obtain⟨us,vs,h1,h2,h3⟩:=H
  cases hd:D.pureL first with
  | false=>rw[hd] at F;simp at F
  | true=>rw[hd] at F;exact⟨us,vs,h1,DenL.pure hd h2,DenL.pure F h3⟩
 | .ref ds,v,F,H=>by
  simp only[Den] at H ⊢
  simp only[D.pure] at F
  obtain⟨b,o,h1,vs,h2,h3,h4⟩:=H
  exact⟨b,o,h1,vs,DenL.pure F h2,h3,h4⟩
 | .box j _,_,F,H=>by simp[D.pure] at F
 | .osl j _ _,_,F,H=>by simp[D.pure] at F
 | .bsl j _ _ _,_,F,H=>by simp[D.pure] at F
 | .gd c d,v,F,H=>by
  simp only[Den] at H ⊢
  simp only[D.pure] at F
  exact⟨fun hc=>Den.pure F (H.1 hc),H.2⟩
 | .gp _,_,_,H=>by simpa [Den] using H
 | .val _,_,_,H=>by simpa [Den] using H
 | .anyb _,_,_,H=>by simpa [Den] using H
 | .yld _,_,F,H=>by simp[D.pure] at F
 | .mapr _,_,F,H=>by simp[D.pure] at F
theorem DenL.pure {E E':Env}{h:Pub} : ∀ {ds:List D} {vs:List Value},D.pureL ds=true→DenL E h ds vs→DenL E' h ds vs
 | [],_,_,H=>by simpa [DenL] using H
 | d::ds,vs,F,H=>by
  simp only[DenL] at H ⊢
  simp only[D.pureL] at F
  obtain⟨v,vs',h1,h2,h3⟩:=H
  cases hd:D.pure d with
  | false=>rw[hd] at F;simp at F
  | true=>rw[hd] at F;exact⟨v,vs',h1,Den.pure hd h2,DenL.pure F h3⟩
end
def jdc (tb:Tb)(g:Prop)(t:Nat)(dx di:D)(K:D→Prop):Prop:=match di with
 | .int _ i=>tyK tb t fun y=>match y.kind with
  | .slice e=>tyK tb e fun ye=>match dx with
   | .ints k xs=>match Nat.beq ye.size 1 with
    | true=>(g→0≤i∧i<xs.length)∧K (.ref [.int k (xs.getD i.toNat 0)])
    | false=>False
   | .slf es n f=>match Nat.beq ye.size es,D.pureL (f i.toNat) with
    | true,true=>(g→0≤i∧i<n)∧K (.ref (f i.toNat))
    | _,_=>False
   | .osl b off len=>match Nat.beq ye.size 1 with
    | true=>(g→0≤i∧i<len)∧K (.box b (off+i.toNat))
    | false=>False
   | .bsl b off len es=>match Nat.beq ye.size es with
    | true=>(g→0≤i∧i<len)∧K (.box b (off+i.toNat*es))
    | false=>False
   | _=>False
  | .arr n e=>tyK tb e fun ye=>match dx with
   | .box b off=>match Nat.beq ye.size 1 with
    | true=>(g→0≤i∧i<n)∧K (.box b (off+i.toNat))
    | false=>(g→0≤i∧i<n)∧K (.box b (off+i.toNat*ye.size))
   | .ref ds=>(g→0≤i∧i<n)∧dropK ds (i.toNat*ye.size) fun ds=>takeK ds ye.size fun ds=>K (.ref ds)
   | .gp gl=>match ye.kind,Nat.beq ye.size 1 with
    | .int k,true=>glbK glb gl fun vs=>jeU k vs fun xs=>(g→0≤i∧i<n∧i<xs.length)∧K (.ref [.int k (xs.getD i.toNat 0)])
    | _,false=>glbK glb gl fun vs=>match vs.all (·.oneCell') with
     | true=>(g→0≤i∧i<n)∧dropK (vs.map ofVal) (i.toNat*ye.size) fun ds=>takeK ds ye.size fun ds=>K (.ref ds)
     | false=>False
    | _,_=>False
   | _=>False
  | _=>False
 | _=>False
theorem jac {a b:Nat}(h:Nat.beq a b=true):a=b:=Nat.eq_of_beq_eq_true h
theorem jfH {P:Program}{tb:Tb}(htb:TbOk P tb){g:Prop}{t:Nat}{dx di:D}{K:D→Prop}(hh:jdc tb g t dx di K) :
  ∃ r,K r ∧ ∀ E h w v u,GlOk h→Den E h dx v→Den E h di u→g→Gives P E h (Instr.indexAt t v u) w r:=by
 unfold jdc at hh
 split at hh
 case h_2=>exact hh.elim
 rename_i ki i
 have hx:=jaj hh;clear hh;obtain⟨y,hy,hh⟩:=hx
 have hty:=htb _ _ hy
 split at hh
 ·rename_i e hk
  have hu:=jan hty hk
  have hx:=jaj hh;clear hh;obtain⟨ye,hye,hh⟩:=hx
  have hte:=htb _ _ hye
  have hrun:∀ (w:World) (a:Addr) (len cap:Nat),0≤i→i<len→(Instr.indexAt t (.slice (some a) len cap) (.int ki i)).run P w = .ok (.pointer (some (a.add (i.toNat*ye.size)))) w:=fun w a len cap h0 h1=>by
   simp[Instr.indexAt,asIntOf,run_underlying hu,h0,h1,hte.sizeOf w]
  split at hh
  ·rename_i k xs
   cases hb:Nat.beq ye.size 1 with
   | false=>rw[hb] at hh;exact hh.elim
   | true=>
    rw[hb] at hh
    have hsz:=jac hb
    refine⟨_,hh.2,fun E h w v u gk hv hu hg=>?_⟩
    simp only[Den] at hu;obtain⟨rfl,_⟩:=hu
    obtain⟨h0,h1⟩:=hh.1 hg
    simp only[Den,jaD] at hv
    obtain⟨a,cap,rfl,h2,h3,h4,h5⟩:=hv
    have h1':i.toNat<xs.length:=by omega
    cases a with
    | none=>simp only at h5;obtain⟨h5,_⟩:=h5;subst h5;simp at h1'
    | some ad=>
     refine⟨_,hrun w ad _ _ h0 h1,?_⟩
     rw[hsz,Nat.mul_one,jbi h5.1]
     have hget:xs[i.toNat]? = some (xs.getD i.toNat 0):=by simp[List.getD,jhI h1']
     simp only[Den,DenL]
     refine⟨_,_,rfl,[.int k (xs.getD i.toNat 0)],⟨_,_,rfl,⟨rfl,h4 _ (jhJ hget)⟩,rfl⟩,by simp[Value.oneCell'],?_⟩
     intro j v hv
     cases j with
     | zero=>simp at hv;subst hv;exact h5.2 _ _ hget
     | succ j=>simp at hv
  ·rename_i es n f
   cases hb:Nat.beq ye.size es with
   | false=>rw[hb] at hh;exact hh.elim
   | true=>
    cases hp:D.pureL (f i.toNat) with
    | false=>rw[hb,hp] at hh;exact hh.elim
    | true=>
     rw[hb,hp] at hh
     have hsz:=jac hb
     refine⟨_,hh.2,fun E h w v u gk hv hu hg=>?_⟩
     simp only[Den] at hu;obtain⟨rfl,_⟩:=hu
     obtain⟨h0,h1⟩:=hh.1 hg
     simp only[Den] at hv
     obtain⟨a,cap,rfl,h2,h3,h5⟩:=hv
     have h1':i.toNat<n:=by omega
     cases a with
     | none=>simp only at h5;omega
     | some ad=>
      refine⟨_,hrun w ad _ _ h0 h1,?_⟩
      obtain⟨vs,h6,h7,h8,h9⟩:=h5.2 _ h1'
      rw[jbi h5.1]
      simp only[Den]
      exact⟨_,_,rfl,vs,DenL.pure hp h6,h8,fun j v hv=>by rw[hsz];exact h9 j v hv⟩
  ·rename_i b off len
   cases hb:Nat.beq ye.size 1 with
   | false=>rw[hb] at hh;exact hh.elim
   | true=>
    rw[hb] at hh
    have hsz:=jac hb
    refine⟨_,hh.2,fun E h w v u gk hv hu hg=>?_⟩
    simp only[Den] at hu;obtain⟨rfl,_⟩:=hu
    obtain⟨h0,h1⟩:=hh.1 hg
    simp only[Den] at hv
    rcases hv with⟨_,_,hv⟩|⟨hreal,o,cap,rfl,h2,h3,h4,h5,hkn⟩
    ·omega
    refine⟨_,hrun w _ _ _ h0 h1,?_⟩
    rw[hsz,Nat.mul_one,jaB]
    rcases h5 with rfl|h5
    ·simp only[Den];exact⟨trivial,hreal⟩
    ·omega
  ·rename_i b off len es
   cases hb:Nat.beq ye.size es with
   | false=>rw[hb] at hh;exact hh.elim
   | true=>
    rw[hb] at hh
    have hsz:=jac hb
    refine⟨_,hh.2,fun E h w v u gk hv hu hg=>?_⟩
    simp only[Den] at hu;obtain⟨rfl,_⟩:=hu
    obtain⟨h0,h1⟩:=hh.1 hg
    simp only[Den] at hv
    obtain⟨hreal,cap,rfl,_⟩:=hv
    refine⟨_,hrun w _ _ _ h0 h1,?_⟩
    rw[hsz,jaB]
    simp only[Den];exact⟨trivial,hreal⟩
  ·exact hh.elim
 ·rename_i n e hk
  have hu:=jb5 hty hk
  have hx:=jaj hh;clear hh;obtain⟨ye,hye,hh⟩:=hx
  have hte:=htb _ _ hye
  have hrun:∀ (w:World) (b o:Nat),0≤i→i<n→(Instr.indexAt t (.pointer (some ⟨b,o,none⟩)) (.int ki i)).run P w = .ok (.pointer (some ⟨b,o+i.toNat*ye.size,none⟩)) w:=fun w b o h0 h1=>by
   simp[Instr.indexAt,asIntOf,run_underlying hu,h0,h1,hte.sizeOf w,Instr.sureAddr,jaB]
  split at hh
  ·rename_i b off
   cases hb:Nat.beq ye.size 1 with
   | true=>
    rw[hb] at hh
    have hsz:=jac hb
    refine⟨_,hh.2,fun E h w v u gk hv hu hg=>?_⟩
    simp only[Den] at hu hv;obtain⟨rfl,_⟩:=hu;obtain⟨rfl,hreal⟩:=hv
    obtain⟨h0,h1⟩:=hh.1 hg
    exact⟨_,hrun w _ _ h0 h1,by simp only[Den];rw[hsz,Nat.mul_one];exact⟨rfl,hreal⟩⟩
   | false=>
    rw[hb] at hh
    refine⟨_,hh.2,fun E h w v u gk hv hu hg=>?_⟩
    simp only[Den] at hu hv;obtain⟨rfl,_⟩:=hu;obtain⟨rfl,hreal⟩:=hv
    obtain⟨h0,h1⟩:=hh.1 hg
    exact⟨_,hrun w _ _ h0 h1,by simp only[Den];exact⟨trivial,hreal⟩⟩
  ·rename_i ds
   obtain⟨hs,hh⟩:=hh
   obtain⟨h6,hh⟩:=jbF hh
   obtain⟨h7,hh⟩:=jbk hh
   refine⟨_,hh,fun E h w v u gk hv hu hg=>?_⟩
   simp only[Den] at hu hv;obtain⟨rfl,_⟩:=hu
   obtain⟨b,o,rfl,vs,hd,ho,hc⟩:=hv
   obtain⟨h0,h1⟩:=hs hg
   refine⟨_,hrun w _ _ h0 h1,?_⟩
   simp only[Den]
   exact⟨b,_,rfl,(vs.drop _).take _,(hd.drop _).take _,fun v hv=>ho v (jhP (jhQ hv)),fun j v hv=>by rw[Nat.add_assoc];exact hc _ v (by rw[List.getElem?_take] at hv;split at hv;(simpa using hv);cases hv)⟩
  ·rename_i gl
   split at hh
   case h_3=>exact hh.elim
   case h_2=>
    obtain⟨vs,hm,hh⟩:=jgo hh
    cases ho:vs.all (·.oneCell') with
    | false=>rw[ho] at hh;exact hh.elim
    | true=>
     rw[ho] at hh
     obtain⟨hs,hh⟩:=hh
     obtain⟨h6,hh⟩:=jbF hh
     obtain⟨h7,hh⟩:=jbk hh
     refine⟨_,hh,fun E h w v u gk hv hu hg=>?_⟩
     simp only[Den] at hu hv;obtain⟨rfl,_⟩:=hu;subst hv
     obtain⟨h0,h1⟩:=hs hg
     refine⟨_,hrun w _ _ h0 h1,?_⟩
     simp only[Den]
     exact⟨gl,_,rfl,(vs.drop _).take _,((jde _ _ vs).drop _).take _,fun v hv=>jhE.1 ho v (jhP (jhQ hv)),fun j v hv=>by rw[jg8];exact gk gl vs hm _ v (by rw[List.getElem?_take] at hv;split at hv;(simpa using hv);cases hv)⟩
   rename_i k hke hsz0
   have hsz:=jac hsz0
   obtain⟨vs,hm,hh⟩:=jgo hh
   obtain⟨xs,hxs,hr,hh⟩:=valInts_el hh
   refine⟨_,hh.2,fun E h w v u gk hv hu hg=>?_⟩
   simp only[Den] at hu hv;obtain⟨rfl,_⟩:=hu;subst hv
   obtain⟨h0,h1,h2⟩:=hh.1 hg
   refine⟨_,hrun w _ _ h0 h1,?_⟩
   have h1':i.toNat<xs.length:=by omega
   have hget:xs[i.toNat]? = some (xs.getD i.toNat 0):=by simp[List.getD,jhI h1']
   simp only[Den,DenL]
   refine⟨_,_,rfl,[.int k (xs.getD i.toNat 0)],⟨_,_,rfl,⟨rfl,hr _ (jhJ hget)⟩,rfl⟩,by simp[Value.oneCell'],?_⟩
   intro j v hv
   cases j with
   | zero=>
    simp at hv;subst hv
    rw[hsz,Nat.mul_one,jg8,jg9]
    exact gk gl vs hm _ _ (by rw[hxs,List.getElem?_map,hget];rfl)
   | succ j=>simp at hv
  ·exact hh.elim
 ·exact hh.elim
def indexK (tb:Tb)(g:Prop)(t:Nat)(dx di:D)(K:D→Prop):Prop:=match di with
 | .int _ i=>tyK tb t fun y=>match y.kind with
  | .arr n e=>match dx with
   | .agg ds=>(g→0≤i∧i<n)∧tyK tb e fun ye=>partK tb e ds (i.toNat*ye.size) K
   | .iarr k xs=>tyK tb e fun ye=>match ye.kind.isAgg,Nat.beq ye.size 1 with
    | false,true=>(g→0≤i∧i<n∧i<xs.length)∧K (.int k (xs.getD i.toNat 0))
    | _,_=>False
   | _=>False
  | .str=>match dx with
   | .str s=>(g→0≤i∧i<s.length)∧K (.int .u8 (s.getD i.toNat 0).toNat)
   | _=>False
  | _=>False
 | _=>False
theorem u8_inR (c:UInt8):InR .u8 (c.toNat:Int):=by
 have:=c.toNat_lt
 constructor<;>simp[lo,hi]<;>omega
theorem index_el {P:Program}{tb:Tb}(htb:TbOk P tb){g:Prop}{t:Nat}{dx di:D}{K:D→Prop}(hh:indexK tb g t dx di K) :
  ∃ r,K r ∧ ∀ E h w v u,Den E h dx v→Den E h di u→g→Gives P E h (Instr.index t v u) w r:=by
 unfold indexK at hh
 split at hh
 case h_2=>exact hh.elim
 rename_i ki i
 have hx:=jaj hh;clear hh;obtain⟨y,hy,hh⟩:=hx
 have hty:=htb _ _ hy
 split at hh
 ·rename_i n e hk
  have hu:=jb5 hty hk
  split at hh
  ·rename_i ds
   obtain⟨hs,hh⟩:=hh
   have hx:=jaj hh;clear hh;obtain⟨ye,hye,hh⟩:=hx
   have hte:=htb _ _ hye
   obtain⟨r,hr,hh⟩:=part_el htb hh
   refine⟨r,hr,fun E h w v u hv hu' hg=>?_⟩
   simp only[Den] at hu' hv;obtain⟨rfl,_⟩:=hu'
   obtain⟨vs,rfl,hd,ho⟩:=hv
   obtain⟨h0,h1⟩:=hs hg
   obtain⟨v',h6,h7⟩:=hh E h w vs hd ho
   exact⟨v',by simp[Instr.index,asIntOf,run_underlying hu,h0,h1,hte.sizeOf w,h6],h7⟩
  ·rename_i k xs
   have hx:=jaj hh;clear hh;obtain⟨ye,hye,hh⟩:=hx
   have hte:=htb _ _ hye
   cases ha:ye.kind.isAgg with
   | true=>rw[ha] at hh;exact hh.elim
   | false=>
    cases hb:Nat.beq ye.size 1 with
    | false=>rw[ha,hb] at hh;exact hh.elim
    | true=>
     rw[ha,hb] at hh
     have hsz:=jac hb
     refine⟨_,hh.2,fun E h w v u hv hu' hg=>?_⟩
     simp only[Den] at hu' hv;obtain⟨rfl,_⟩:=hu'
     obtain⟨rfl,hr⟩:=hv
     obtain⟨h0,h1,h2⟩:=hh.1 hg
     have h1':i.toNat<xs.length:=by omega
     have hget:xs[i.toNat]? = some (xs.getD i.toNat 0):=by simp[List.getD,jhI h1']
     refine⟨.int k (xs.getD i.toNat 0),?_,by simp only[Den];exact⟨trivial,hr _ (jhJ hget)⟩⟩
     have:=jdi (P:=P) hte ha (vs:=xs.map (Value.int k)) (o:=i.toNat) (v := .int k (xs.getD i.toNat 0)) (by rw[List.getElem?_map,hget];rfl) w
     simp[Instr.index,asIntOf,run_underlying hu,h0,h1,hte.sizeOf w,hsz,this]
  ·exact hh.elim
 ·rename_i hk
  have hu:=jdC hty hk
  split at hh
  ·rename_i s
   refine⟨_,hh.2,fun E h w v u hv hu' hg=>?_⟩
   simp only[Den] at hu' hv;obtain⟨rfl,_⟩:=hu'
   obtain⟨rfl,_⟩:=hv
   obtain⟨h0,h1⟩:=hh.1 hg
   have h1':i.toNat<s.length:=by omega
   refine⟨.int .u8 (s.getD i.toNat 0).toNat,?_,by simp only[Den];exact⟨trivial,u8_inR _⟩⟩
   have hlt:i.toNat<(⟨s.toArray⟩:ByteArray).size:=by simpa [ByteArray.size] using h1'
   have h3:(if 0≤i then (⟨s.toArray⟩:ByteArray)[i.toNat]? else none)=some (s.getD i.toNat 0):=by
    rw[if_pos h0,ByteArray.getElem?_lt' _ _ hlt]
    congr 1
    simp[List.getD,jhI h1']
    rfl
   simp only[Instr.index,asIntOf,Sem.run_bind,Sem.run_pure,Result.andThen_ok,run_underlying hu,h3]
  ·exact hh.elim
 ·exact hh.elim
def lenK (tb:Tb)(t:Nat)(d:D)(K:D→Prop):Prop:=tyK tb t fun y=>match y.kind with
 | .slice _=>match d with
  | .ints _ xs=>K (.int .i64 xs.length)
  | .slf _ n _=>K (.int .i64 n)
  | .nil=>K (.int .i64 0)
  | .osl _ _ len=>K (.int .i64 len)
  | .bsl _ _ len _=>K (.int .i64 len)
  | _=>False
 | .str=>match d with
  | .str s=>K (.int .i64 s.length)
  | _=>False
 | _=>False
theorem jbw {n:Nat}(h:n≤281474976710656):InR .i64 (n:Int):=by
 constructor<;>simp[lo,hi]<;>omega
theorem len_el {P:Program}{tb:Tb}(htb:TbOk P tb){t:Nat}{d:D}{K:D→Prop}(hh:lenK tb t d K) :
  ∃ r,K r ∧ ∀ E h w v ty ats,ats[0]? = some t→Den E h d v→Gives P E h (Builtin.len_ ats ty #[v]) w r:=by
 have hx:=jaj hh;clear hh;obtain⟨y,hy,hh⟩:=hx
 have hty:=htb _ _ hy
 split at hh
 ·rename_i e hk
  have hu:=jan hty hk
  have hrun:∀ (w:World) (a:Option Addr) (n c:Nat) ty (ats:Array Nat),ats[0]? = some t→(Builtin.len_ ats ty #[.slice a n c]).run P w = .ok (.int .i64 n) w:=fun w a n c ty ats h0=>by
   simp[Builtin.len_,run_underlying hu,goInt,h0]
  split at hh
  ·refine⟨_,hh,fun E h w v ty ats h0 hv=>?_⟩
   simp only[Den,jaD] at hv
   obtain⟨a,cap,rfl,_,h1,_⟩:=hv
   exact⟨_,hrun w _ _ _ _ _ h0,by simp only[Den];exact⟨trivial,jbw h1⟩⟩
  ·refine⟨_,hh,fun E h w v ty ats h0 hv=>?_⟩
   simp only[Den] at hv
   obtain⟨a,cap,rfl,_,h1,_⟩:=hv
   exact⟨_,hrun w _ _ _ _ _ h0,by simp only[Den];exact⟨trivial,jbw h1⟩⟩
  ·refine⟨_,hh,fun E h w v ty ats h0 hv=>?_⟩
   simp only[Den] at hv;subst hv
   exact⟨_,hrun w _ _ _ _ _ h0,by simp only[Den];exact⟨rfl,jbw (n:=0) (by omega)⟩⟩
  ·refine⟨_,hh,fun E h w v ty ats h0 hv=>?_⟩
   simp only[Den] at hv
   rcases hv with⟨_,rfl,rfl⟩|⟨_,o,cap,rfl,_,_,h1,_⟩
   ·exact⟨_,hrun w _ _ _ _ _ h0,by simp only[Den];exact⟨by trivial,jbw (n:=0) (by omega)⟩⟩
   ·exact⟨_,hrun w _ _ _ _ _ h0,by simp only[Den];exact⟨trivial,jbw h1⟩⟩
  ·refine⟨_,hh,fun E h w v ty ats h0 hv=>?_⟩
   simp only[Den] at hv
   obtain⟨_,cap,rfl,_,h1,_⟩:=hv
   exact⟨_,hrun w _ _ _ _ _ h0,by simp only[Den];exact⟨trivial,jbw h1⟩⟩
  ·exact hh.elim
 ·rename_i hk
  have hu:=jdC hty hk
  split at hh
  ·rename_i s0
   refine⟨_,hh,fun E h w v ty ats h0 hv=>?_⟩
   simp only[Den] at hv
   obtain⟨rfl,h1⟩:=hv
   refine⟨.int .i64 s0.length,?_,by simp only[Den];exact⟨trivial,jbw h1⟩⟩
   have hs:(⟨s0.toArray⟩:ByteArray).size=s0.length:=by show s0.toArray.size=_;simp
   have hg:(#[Value.string ⟨s0.toArray⟩]:Array Value)[0]? = some (.string ⟨s0.toArray⟩):=rfl
   simp only[Builtin.len_,h0,hg,Sem.run_bind,run_underlying hu,Result.andThen_ok,goInt,hs,Sem.run_pure]
  ·exact hh.elim
 ·exact hh.elim
def sliceK (tb:Tb)(g:Prop)(L:Sl)(t:Nat)(dx:D)(lo hi:Option Operand)(K:D→Prop):Prop:=tyK tb t fun y=>match y.kind with
 | .slice e=>tyK tb e fun ye=>match Nat.beq ye.size 1 with
  | true=>match dx with
   | .ints k xs=>match lo,hi with
    | none,none=>K (.ints k xs)
    | none,some b=>rdg g L b fun r=>match r with | .int _ n=>(g→0≤n∧n≤xs.length)∧K (.ints k (xs.take n.toNat))|_=>False
    | some a,none=>rdg g L a fun r=>match r with | .int _ n=>(g→0≤n∧n≤xs.length)∧K (.ints k (xs.drop n.toNat))|_=>False
    | some a,some b=>rdg g L a fun r=>match r with
     | .int _ m=>rdg g L b fun r=>match r with | .int _ n=>(g→0≤m∧m≤n∧n≤xs.length)∧K (.ints k ((xs.take n.toNat).drop m.toNat))|_=>False
     | _=>False
   | .osl i off len=>match lo,hi with
    | none,none=>K (.osl i off len)
    | none,some b=>rdg g L b fun r=>match r with | .int _ n=>(g→0≤n∧n≤len)∧K (.osl i off n.toNat)|_=>False
    | some a,none=>rdg g L a fun r=>match r with | .int _ n=>(g→0≤n∧n≤len)∧K (.osl i (off+n.toNat) (len-n.toNat))|_=>False
    | some a,some b=>rdg g L a fun r=>match r with
     | .int _ m=>rdg g L b fun r=>match r with | .int _ n=>(g→0≤m∧m≤n∧n≤len)∧K (.osl i (off+m.toNat) (n.toNat-m.toNat))|_=>False
     | _=>False
   | _=>False
  | false=>match dx with
   | .slf e' q f=>match Nat.beq e' ye.size with
    | true=>match lo,hi with
     | none,some b=>rdg g L b fun r=>match r with | .int _ n=>(g→0≤n∧n≤q)∧K (.slf e' n.toNat fun j=>f (j+0))|_=>False
     | some a,none=>rdg g L a fun r=>match r with | .int _ n=>(g→0≤n∧n≤q)∧K (.slf e' (q-n.toNat) fun j=>f (j+n.toNat))|_=>False
     | some a,some b=>rdg g L a fun r=>match r with
      | .int _ m=>rdg g L b fun r=>match r with | .int _ n=>(g→0≤m∧m≤n∧n≤q)∧K (.slf e' (n.toNat-m.toNat) fun j=>f (j+m.toNat))|_=>False
      | _=>False
     | _,_=>False
    | false=>False
   | _=>False
 | .str=>match dx with
  | .str s=>match lo,hi with
   | none,none=>K (.str s)
   | none,some b=>rdg g L b fun r=>match r with | .int _ n=>(g→0≤n∧n≤s.length)∧K (.str (s.take n.toNat))|_=>False
   | some a,none=>rdg g L a fun r=>match r with | .int _ n=>(g→0≤n∧n≤s.length)∧K (.str (s.drop n.toNat))|_=>False
   | some a,some b=>rdg g L a fun r=>match r with
    | .int _ m=>rdg g L b fun r=>match r with | .int _ n=>(g→0≤m∧m≤n∧n≤s.length)∧K (.str ((s.take n.toNat).drop m.toNat))|_=>False
    | _=>False
  | _=>False
 | .arr n e=>match dx,lo,hi with
  | .box i off,none,none=>match Nat.ble n 1000000 with
   | true=>tyK tb e fun ye=>K (.bsl i off n ye.size)
   | false=>False
  | _,_,_=>False
 | _=>False
inductive Lim : Option Value → Int → Int → Prop
  | none (d : Int) : Lim none d d
  | some (k : IntKind) (n d : Int) : Lim (some (.int k n)) d n
theorem jaQ {P:Program}{t e:Nat}{ye:Ty}(hu:P.underlying t=some (.slice e))(he:TyOk P e ye){lo hi:Option Value}{m n:Int}{len cap:Nat}(a:Option Addr)
  (hlo:Lim lo 0 m) (hhi:Lim hi len n) (h0:0≤m) (h1:m≤n) (h2:n≤cap) (w:World) :
  (Instr.sliceAt t (.slice a len cap) lo hi none).run P w = .ok (.slice (if cap=m.toNat then a else a.map (·.add (m.toNat*ye.size))) (n.toNat-m.toNat) (cap-m.toNat)) w:=by
 have hb:(Instr.sliceBounds true len cap lo hi none).run P w = .ok (m.toNat,n.toNat,cap) w:=by
  have e2:((n.toNat:Nat):Int)=n:=Int.toNat_of_nonneg (by omega)
  have e0:0≤n:=by omega
  have e3:m≤(n.toNat:Int):=by omega
  have b1:∀ k,(Instr.sliceBound (.int k n) cap .sliceAcap).run P w = .ok n.toNat w:=fun k=>run_sliceBound w k n _ _ e0 h2
  have b2:∀ k,(Instr.sliceBound (.int k m) n.toNat .sliceB).run P w = .ok m.toNat w:=fun k=>run_sliceBound w k m _ _ h0 e3
  rcases hlo with _|⟨_,_,_⟩<;>rcases hhi with _|⟨_,_,_⟩<;>(try simp only[jha] at b1 b2)<;>simp[Instr.sliceBounds,b1,b2]
 simp only[Instr.sliceAt,Instr.slice,Sem.run_bind,run_underlying hu,Result.andThen_ok,hb,he.sizeOf w,Sem.run_pure]
theorem je1 {P:Program}{t:Nat}(hu:P.underlying t=some .string){lo hi:Option Value}{m n:Int}{s:ByteArray}
  (hlo:Lim lo 0 m) (hhi:Lim hi s.size n) (h0:0≤m) (h1:m≤n) (h2:n≤s.size) (w:World) :
  (Instr.sliceAt t (.string s) lo hi none).run P w = .ok (.string (s.extract m.toNat n.toNat)) w:=by
 have hb:(Instr.sliceBounds false s.size s.size lo hi none).run P w = .ok (m.toNat,n.toNat,s.size) w:=by
  have e2:((n.toNat:Nat):Int)=n:=Int.toNat_of_nonneg (by omega)
  have e0:0≤n:=by omega
  have e3:m≤(n.toNat:Int):=by omega
  have b1:∀ k,(Instr.sliceBound (.int k n) s.size .sliceAlen).run P w = .ok n.toNat w:=fun k=>run_sliceBound w k n _ _ e0 h2
  have b2:∀ k,(Instr.sliceBound (.int k m) n.toNat .sliceB).run P w = .ok m.toNat w:=fun k=>run_sliceBound w k m _ _ h0 e3
  rcases hlo with _|⟨_,_,_⟩<;>rcases hhi with _|⟨_,_,_⟩<;>(try simp only[jha] at b1 b2)<;>simp[Instr.sliceBounds,b1,b2]
 simp only[Instr.sliceAt,Instr.slice,Sem.run_bind,run_underlying hu,Result.andThen_ok,hb,Sem.run_pure,Option.isSome_none,Bool.false_eq_true,if_false]
theorem jfO {E:Env}{h:Pub}{k:IntKind}{xs:List Int}{a:Option Addr}{cap m n:Nat}(h1:m≤n)(h2:n≤xs.length){s:Nat}(hs:s=1)
  (H:Den E h (.ints k xs) (.slice a xs.length cap)):Den E h (.ints k ((xs.take n).drop m)) (.slice (if cap=m then a else a.map (·.add (m*s))) (n-m) (cap-m)):=by
 subst hs
 simp only[Den,jaD] at H ⊢
 obtain⟨a',cap',he,h3,h4,h5,h6⟩:=H
 simp only[Value.slice.injEq,true_and] at he
 obtain⟨rfl,rfl⟩:=he
 have hlen:((xs.take n).drop m).length=n-m:=by simp;omega
 refine⟨_,_,by rw[hlen],by omega,by omega,fun z hz=>h5 z (jhQ (jhP hz)),?_⟩
 cases a with
 | none=>
  obtain⟨h7,h8⟩:=h6;subst h7;subst h8
  simp only[Option.map_none,ite_self]
  exact⟨by simp,by omega⟩
 | some ad=>
  by_cases hc:cap=m
  ·rw[if_pos hc]
   refine⟨h6.1,fun i z hz=>?_⟩
   have:i<((xs.take n).drop m).length:=(jhO.1 hz).1
   omega
  ·rw[if_neg hc]
   simp only[Option.map_some,Nat.mul_one]
   rw[jbi h6.1]
   refine⟨rfl,fun i z hz=>?_⟩
   simp only[Nat.add_assoc]
   exact h6.2 _ _ (jaJ (by simpa using hz))
theorem jgy {E:Env}{h:Pub}{i off len:Nat}{ad:Addr}{cap m n:Nat}(h1:m≤n)(h2:n≤len){s:Nat}(hs:s=1)
  (H:Den E h (.osl i off len) (.slice (some ad) len cap)):Den E h (.osl i (off+m) (n-m)) (.slice (if cap=m then some ad else (some ad).map (·.add (m*s))) (n-m) (cap-m)):=by
 subst hs
 simp only[Den] at H ⊢
 rcases H with⟨_,H,_⟩|⟨hreal,o,cap',he,h3,h4,h5,h6,hkn⟩
 ·cases H
 simp only[Value.slice.injEq,true_and,Option.some.injEq] at he
 obtain⟨rfl,rfl⟩:=he
 refine .inr ⟨hreal,?_⟩
 split
 ·exact⟨o,cap-m,rfl,by omega,by omega,by omega,by omega,by omega⟩
 ·refine⟨o+m,cap-m,by simp[jaB],by omega,by omega,by omega,?_,by omega⟩
  rcases h6 with rfl|h6
  ·exact .inl rfl
  ·omega
theorem jgx {E:Env}{h:Pub}{e q:Nat}{f:Nat→List D}{a:Option Addr}{cap m n:Nat}(h1:m≤n)(h2:n≤q){s:Nat}(hs:e=s)
  (H:Den E h (.slf e q f) (.slice a q cap)):Den E h (.slf e (n-m) fun j=>f (j+m)) (.slice (if cap=m then a else a.map (·.add (m*s))) (n-m) (cap-m)):=by
 subst hs
 simp only[Den] at H ⊢
 obtain⟨a',cap',he,h3,h4,h6⟩:=H
 simp only[Value.slice.injEq,true_and] at he
 obtain⟨rfl,rfl⟩:=he
 refine⟨_,_,rfl,by omega,by omega,?_⟩
 cases a with
 | none=>
  obtain⟨h7,h8⟩:=h6
  simp only[Option.map_none,ite_self]
  exact⟨by omega,by omega⟩
 | some ad=>
  by_cases hc:cap=m
  ·rw[if_pos hc]
   exact⟨h6.1,fun j hj=>by omega⟩
  ·rw[if_neg hc]
   simp only[Option.map_some]
   rw[jbi h6.1]
   refine⟨rfl,fun j hj=>?_⟩
   obtain⟨vs,g1,g2,g3,g4⟩:=h6.2 (j+m) (by omega)
   refine⟨vs,g1,g2,g3,fun i v hv=>?_⟩
   have:=g4 i v hv
   rw[jg7] at this
   simp only
   rw[show ad.off+m*e+j*e+i=ad.off+(j*e+m*e)+i by omega]
   exact this
theorem jgw {s:List UInt8}{m n:Nat}(_h2:n≤s.length):((⟨s.toArray⟩:ByteArray).extract m n)=⟨((s.take n).drop m).toArray⟩:=by
 apply ByteArray.ext
 rw[ByteArray.data_extract]
 apply Array.toList_inj.1
 simp[List.drop_take]
theorem jaI {g:Prop}{L:Sl}{x:Operand}{K:Int→Prop}(h:rdg g L x fun r=>match r with | .int _ n=>K n|_=>False) :
  ∃ n,K n ∧ ∀ (E:Env) (hp:Pub) (a:Act),g→Den E hp (rd L x) (a.eval x) → ∃ k,a.eval x = .int k n:=by
 obtain⟨d,h1,h2⟩:=jam h
 split at h1
 ·rename_i k n
  refine⟨n,h1,fun E hp a hg hd=>?_⟩
  have:=h2 E hp a hg hd
  simp only[Den] at this
  exact⟨_,this.1⟩
 ·exact h1.elim
theorem slice_el {P:Program}{tb:Tb}(htb:TbOk P tb){g:Prop}{L:Sl}{t:Nat}{dx:D}{lo hi:Option Operand}{K:D→Prop}(hh:sliceK tb g L t dx lo hi K) :
  ∃ r,K r ∧ ∀ E h (a:Act) w v,(∀ x,Den E h (rd L x) (a.eval x))→Den E h dx v→g→Gives P E h (Instr.sliceAt t v (lo.map a.eval) (hi.map a.eval) none) w r:=by
 have hx:=jaj hh;clear hh;obtain⟨y,hy,hh⟩:=hx
 have hty:=htb _ _ hy
 split at hh
 ·rename_i e hk
  have hu:=jan hty hk
  have hx:=jaj hh;clear hh;obtain⟨ye,hye,hh⟩:=hx
  have hte:=htb _ _ hye
  cases hb:Nat.beq ye.size 1 with
  | false=>
   rw[hb] at hh
   cases dx with
   | slf e' q f=>
    dsimp only at hh
    cases hb2:Nat.beq e' ye.size with
    | false=>rw[hb2] at hh;exact hh.elim
    | true=>
     rw[hb2] at hh
     have hsz:=jac hb2
     have fin:∀ (m n:Int),0≤m→m≤n→n≤q → ∀ E h (w:World) v (lo hi:Option Value),Lim lo 0 m→Lim hi q n→Den E h (.slf e' q f) v →
       Gives P E h (Instr.sliceAt t v lo hi none) w (.slf e' (n.toNat-m.toNat) fun j=>f (j+m.toNat)):=by
      intro m n h0 h1 h2 E h w v lo hi hlo hhi hv
      have hv':=hv
      simp only[Den] at hv
      obtain⟨a,cap,rfl,h3,_⟩:=hv
      exact⟨_,jaQ hu hte a hlo hhi h0 h1 (by omega) w,jgx (by omega) (by omega) hsz hv'⟩
     cases lo with
     | none=>
      cases hi with
      | none=>exact hh.elim
      | some b=>
       dsimp only at hh
       obtain⟨n,hn,he⟩:=jaI hh
       refine⟨_,hn.2,fun E h a w v hk hv hg=>?_⟩
       obtain⟨h1,h2⟩:=hn.1 hg
       obtain⟨k',hk'⟩:=he E h a hg (hk b)
       have:=fin 0 n (by omega) h1 h2 E h w v none (some (a.eval b)) (.none _) (by rw[hk'];exact .some _ _ _) hv
       simpa using this
     | some b=>
      cases hi with
      | none=>
       dsimp only at hh
       obtain⟨n,hn,he⟩:=jaI hh
       refine⟨_,hn.2,fun E h a w v hk hv hg=>?_⟩
       obtain⟨h1,h2⟩:=hn.1 hg
       obtain⟨k',hk'⟩:=he E h a hg (hk b)
       have:=fin n q h1 h2 (by omega) E h w v (some (a.eval b)) none (by rw[hk'];exact .some _ _ _) (.none _) hv
       simpa using this
      | some c=>
       dsimp only at hh
       obtain⟨m,hm,hem⟩:=jaI hh
       obtain⟨n,hn,he⟩:=jaI hm
       refine⟨_,hn.2,fun E h a w v hk hv hg=>?_⟩
       obtain⟨h1,h2,h3⟩:=hn.1 hg
       obtain⟨k',hk'⟩:=hem E h a hg (hk b)
       obtain⟨k2,hk2⟩:=he E h a hg (hk c)
       exact fin m n h1 h2 h3 E h w v (some (a.eval b)) (some (a.eval c)) (by rw[hk'];exact .some _ _ _) (by rw[hk2];exact .some _ _ _) hv
   | _=>exact hh.elim
  | true=>
   rw[hb] at hh
   have hsz:=jac hb
   have fin:∀ (k:IntKind) (xs:List Int) (m n:Int),0≤m→m≤n→n≤xs.length → ∀ E h (w:World) v (lo hi:Option Value),Lim lo 0 m→Lim hi xs.length n→Den E h (.ints k xs) v →
     Gives P E h (Instr.sliceAt t v lo hi none) w (.ints k ((xs.take n.toNat).drop m.toNat)):=by
    intro k xs m n h0 h1 h2 E h w v lo hi hlo hhi hv
    have hv':=hv
    simp only[Den,jaD] at hv
    obtain⟨a,cap,rfl,h3,_⟩:=hv
    exact⟨_,jaQ hu hte a hlo hhi h0 h1 (by omega) w,jfO (by omega) (by omega) hsz hv'⟩
   have fino:∀ (i off len:Nat) (m n:Int),0≤m→m≤n→n≤len → ∀ E h (w:World) v (lo hi:Option Value),Lim lo 0 m→Lim hi len n→Den E h (.osl i off len) v →
     Gives P E h (Instr.sliceAt t v lo hi none) w (.osl i (off+m.toNat) (n.toNat-m.toNat)):=by
    intro i off len m n h0 h1 h2 E h w v lo hi hlo hhi hv
    have hv':=hv
    simp only[Den] at hv
    rcases hv with⟨hr,rfl,rfl⟩|⟨hr,o,cap,rfl,h3,_⟩
    ·refine⟨_,jaQ hu hte none hlo hhi h0 h1 (by omega) w,?_⟩
     simp only[Den]
     refine .inl ⟨hr,?_,by omega⟩
     have:n.toNat-m.toNat=0:=by omega
     simp[this]
    ·exact⟨_,jaQ hu hte _ hlo hhi h0 h1 (by omega) w,jgy (by omega) (by omega) hsz hv'⟩
   cases dx with
   | ints k xs=>
    cases lo with
    | none=>
     cases hi with
     | none=>
      dsimp only at hh
      refine⟨_,hh,fun E h a w v hk hv hg=>?_⟩
      have:=fin k xs 0 xs.length (by omega) (by omega) (by omega) E h w v none none (.none _) (.none _) hv
      simpa using this
     | some b=>
      dsimp only at hh
      obtain⟨n,hn,he⟩:=jaI hh
      refine⟨_,hn.2,fun E h a w v hk hv hg=>?_⟩
      obtain⟨h1,h2⟩:=hn.1 hg
      obtain⟨k',hk'⟩:=he E h a hg (hk b)
      have:=fin k xs 0 n (by omega) h1 h2 E h w v none (some (a.eval b)) (.none _) (by rw[hk'];exact .some _ _ _) hv
      simpa using this
    | some b=>
     cases hi with
     | none=>
      dsimp only at hh
      obtain⟨n,hn,he⟩:=jaI hh
      refine⟨_,hn.2,fun E h a w v hk hv hg=>?_⟩
      obtain⟨h1,h2⟩:=hn.1 hg
      obtain⟨k',hk'⟩:=he E h a hg (hk b)
      have:=fin k xs n xs.length h1 h2 (by omega) E h w v (some (a.eval b)) none (by rw[hk'];exact .some _ _ _) (.none _) hv
      simpa using this
     | some c=>
      dsimp only at hh
      obtain⟨m,hm,hem⟩:=jaI hh
      obtain⟨n,hn,he⟩:=jaI hm
      refine⟨_,hn.2,fun E h a w v hk hv hg=>?_⟩
      obtain⟨h1,h2,h3⟩:=hn.1 hg
      obtain⟨k',hk'⟩:=hem E h a hg (hk b)
      obtain⟨k2,hk2⟩:=he E h a hg (hk c)
      exact fin k xs m n h1 h2 h3 E h w v (some (a.eval b)) (some (a.eval c)) (by rw[hk'];exact .some _ _ _) (by rw[hk2];exact .some _ _ _) hv
   | osl i off len=>
    cases lo with
    | none=>
     cases hi with
     | none=>
      dsimp only at hh
      refine⟨_,hh,fun E h a w v hk hv hg=>?_⟩
      have:=fino i off len 0 len (by omega) (by omega) (by omega) E h w v none none (.none _) (.none _) hv
      simpa using this
     | some b=>
      dsimp only at hh
      obtain⟨n,hn,he⟩:=jaI hh
      refine⟨_,hn.2,fun E h a w v hk hv hg=>?_⟩
      obtain⟨h1,h2⟩:=hn.1 hg
      obtain⟨k',hk'⟩:=he E h a hg (hk b)
      have:=fino i off len 0 n (by omega) h1 h2 E h w v none (some (a.eval b)) (.none _) (by rw[hk'];exact .some _ _ _) hv
      simpa using this
    | some b=>
     cases hi with
     | none=>
      dsimp only at hh
      obtain⟨n,hn,he⟩:=jaI hh
      refine⟨_,hn.2,fun E h a w v hk hv hg=>?_⟩
      obtain⟨h1,h2⟩:=hn.1 hg
      obtain⟨k',hk'⟩:=he E h a hg (hk b)
      have:=fino i off len n len h1 h2 (by omega) E h w v (some (a.eval b)) none (by rw[hk'];exact .some _ _ _) (.none _) hv
      simpa using this
     | some c=>
      dsimp only at hh
      obtain⟨m,hm,hem⟩:=jaI hh
      obtain⟨n,hn,he⟩:=jaI hm
      refine⟨_,hn.2,fun E h a w v hk hv hg=>?_⟩
      obtain⟨h1,h2,h3⟩:=hn.1 hg
      obtain⟨k',hk'⟩:=hem E h a hg (hk b)
      obtain⟨k2,hk2⟩:=he E h a hg (hk c)
      exact fino i off len m n h1 h2 h3 E h w v (some (a.eval b)) (some (a.eval c)) (by rw[hk'];exact .some _ _ _) (by rw[hk2];exact .some _ _ _) hv
   | _=>exact hh.elim
 ·rename_i hk
  have hu:=jdC hty hk
  cases dx with
  | str s=>
   have fin:∀ (m n:Int),0≤m→m≤n→n≤s.length → ∀ E h (w:World) v (lo hi:Option Value),Lim lo 0 m→Lim hi s.length n→Den E h (.str s) v →
     Gives P E h (Instr.sliceAt t v lo hi none) w (.str ((s.take n.toNat).drop m.toNat)):=by
    intro m n h0 h1 h2 E h w v lo hi hlo hhi hv
    simp only[Den] at hv
    obtain⟨rfl,h3⟩:=hv
    have hsz:(⟨s.toArray⟩:ByteArray).size=s.length:=by show s.toArray.size=_;simp
    have hhi':Lim hi ((⟨s.toArray⟩:ByteArray).size:Nat) n:=by rw[hsz];exact hhi
    refine⟨_,je1 hu hlo hhi' h0 h1 (by omega) w,?_⟩
    rw[jgw (by omega)]
    simp only[Den]
    refine⟨trivial,?_⟩
    simp;omega
   cases lo with
   | none=>
    cases hi with
    | none=>
     dsimp only at hh
     refine⟨_,hh,fun E h a w v hk hv hg=>?_⟩
     have:=fin  0 s.length (by omega) (by omega) (by omega) E h w v none none (.none _) (.none _) hv
     simpa using this
    | some b=>
     dsimp only at hh
     obtain⟨n,hn,he⟩:=jaI hh
     refine⟨_,hn.2,fun E h a w v hk hv hg=>?_⟩
     obtain⟨h1,h2⟩:=hn.1 hg
     obtain⟨k',hk'⟩:=he E h a hg (hk b)
     have:=fin  0 n (by omega) h1 h2 E h w v none (some (a.eval b)) (.none _) (by rw[hk'];exact .some _ _ _) hv
     simpa using this
   | some b=>
    cases hi with
    | none=>
     dsimp only at hh
     obtain⟨n,hn,he⟩:=jaI hh
     refine⟨_,hn.2,fun E h a w v hk hv hg=>?_⟩
     obtain⟨h1,h2⟩:=hn.1 hg
     obtain⟨k',hk'⟩:=he E h a hg (hk b)
     have:=fin  n s.length h1 h2 (by omega) E h w v (some (a.eval b)) none (by rw[hk'];exact .some _ _ _) (.none _) hv
     simpa using this
    | some c=>
     dsimp only at hh
     obtain⟨m,hm,hem⟩:=jaI hh
     obtain⟨n,hn,he⟩:=jaI hm
     refine⟨_,hn.2,fun E h a w v hk hv hg=>?_⟩
     obtain⟨h1,h2,h3⟩:=hn.1 hg
     obtain⟨k',hk'⟩:=hem E h a hg (hk b)
     obtain⟨k2,hk2⟩:=he E h a hg (hk c)
     exact fin  m n h1 h2 h3 E h w v (some (a.eval b)) (some (a.eval c)) (by rw[hk'];exact .some _ _ _) (by rw[hk2];exact .some _ _ _) hv
  | _=>exact hh.elim
 ·rename_i n e hk
  have hu:=jb5 hty hk
  split at hh
  case h_2=>exact hh.elim
  rename_i i off
  cases hb:Nat.ble n 1000000 with
  | false=>rw[hb] at hh;exact hh.elim
  | true=>
   rw[hb] at hh
   have hn:=jg1 hb
   have hx:=jaj hh;clear hh;obtain⟨ye,hye,hh⟩:=hx
   have hte:=htb _ _ hye
   refine⟨_,hh,fun E h a w v hk hv hg=>?_⟩
   simp only[Den] at hv
   obtain⟨rfl,hr⟩:=hv
   refine⟨.slice (some ⟨E.blk i,off,none⟩) n n,?_,by simp only[Den];exact⟨hr,n,rfl,jhb _,by omega,.inl rfl⟩⟩
   simp only[Option.map_none,Instr.sliceAt,Sem.run_bind,run_underlying hu,Result.andThen_ok,Instr.sureAddr,Sem.run_pure,Instr.sliceBounds,hte.sizeOf w]
   simp[Addr.add]
 ·exact hh.elim
end Go.V
end
section
namespace Go.V
open Go Go.RowKit
def jdr (d:D)(K:List D→Prop):Prop:=match d with
 | .agg ds=>K ds
 | .bool b=>K [.bool b]
 | .int k n=>K [.int k n]
 | .str s=>K [.str s]
 | .nil=>K [.nil]
 | .ints k xs=>K [.ints k xs]
 | .slf e n f=>K [.slf e n f]
 | .fn f b c=>K [.fn f b c]
 | .ref ds=>K [.ref ds]
 | .box i o=>K [.box i o]
 | .osl i o l=>K [.osl i o l]
 | .bsl i o l e=>K [.bsl i o l e]
 | .gp g=>K [.gp g]
 | .yld g=>K [.yld g]
 | .mapr g=>K [.mapr g]
 | .iarr k xs=>K (xs.map (D.int k))
 | _=>False
theorem jfQ {E:Env}{h:Pub}{k:IntKind} : ∀ {xs:List Int},(∀ n∈xs,InR k n)→DenL E h (xs.map (D.int k)) (xs.map (Value.int k))
 | [],_=>by simp[DenL]
 | x::xs,hx=>by
  simp only[List.map_cons,DenL,Den]
  exact⟨_,_,rfl,⟨rfl,hx x (by simp)⟩,jfQ fun n hn=>hx n (by simp[hn])⟩
theorem jdF {d : D} {K : List D → Prop} (hh : jdr d K) :
    ∃ ds, K ds ∧ ∀ E h v, Den E h d v → DenL E h ds v.cells.toList ∧ (∀ u ∈ v.cells.toList, u.oneCell' = true) := by
  cases d <;> simp only [jdr] at hh
  case agg ds =>
    refine ⟨_, hh, fun E h v hv => ?_⟩
    simp only [Den] at hv
    obtain ⟨vs, rfl, h1, h2⟩ := hv
    simp only [Value.cells]
    exact ⟨h1, h2⟩
  case iarr k xs =>
    refine ⟨_, hh, fun E h v hv => ?_⟩
    simp only [Den] at hv
    obtain ⟨rfl, h1⟩ := hv
    simp only [Value.cells]
    refine ⟨jfQ h1, fun u hu => ?_⟩
    obtain ⟨n, _, rfl⟩ := List.mem_map.1 (by simpa using hu)
    rfl
  all_goals first
    | exact hh.elim
    | (refine ⟨_, hh, fun E h v hv => ?_⟩
       have hv' := hv
       simp only [Den, jaD] at hv
       have hc : v.cells.toList = [v] ∧ v.oneCell' = true := by
         first
           | (subst hv; exact ⟨rfl, rfl⟩)
           | (obtain ⟨rfl, _⟩ := hv; exact ⟨rfl, rfl⟩)
           | (obtain ⟨_, _, rfl, _⟩ := hv; exact ⟨rfl, rfl⟩)
           | (obtain ⟨_, _, rfl⟩ := hv; exact ⟨rfl, rfl⟩)
           | (rcases hv with ⟨_, rfl, _⟩ | ⟨_, _, _, rfl, _⟩ <;> exact ⟨rfl, rfl⟩)
           | (obtain ⟨_, rfl, _⟩ := hv; exact ⟨rfl, rfl⟩)
       rw [hc.1]
       simp only [DenL, List.mem_singleton]
       exact ⟨⟨v, [], rfl, hv', rfl⟩, fun u hu => by rw [hu]; exact hc.2⟩)
def setAt {α:Type}(ds:List α)(o:Nat)(ns:List α):List α:=ds.take o++ns++ds.drop (o+ns.length)
def jb8:List D→Nat→List D→(List D→Prop)→Prop
 | ds,0,[],K=>K ds
 | [],0,_::_,_=>False
 | _::ds,0,n::ns,K=>jb8 ds 0 ns fun r=>K (n::r)
 | [],_+1,_,_=>False
 | d::ds,o+1,ns,K=>jb8 ds o ns fun r=>K (d::r)
theorem jcb {ds:List D}{o:Nat}{ns:List D}{K:List D→Prop}(h:jb8 ds o ns K):o+ns.length≤ds.length∧K (setAt ds o ns):=by
 induction ds generalizing o ns K with
 | nil=>
  cases o with
  | zero=>cases ns with
   | nil=>simpa [jb8,setAt] using h
   | cons=>exact h.elim
  | succ o=>exact h.elim
 | cons d ds ih=>
  cases o with
  | zero=>
   cases ns with
   | nil=>exact⟨by simp,by simpa [jb8,setAt] using h⟩
   | cons n ns=>
    have:=ih (o:=0) (ns:=ns) h
    refine⟨by simp at this ⊢; omega,?_⟩
    have h2:=this.2
    simp only[setAt,List.take_zero,jhR,jg8] at h2 ⊢
    simpa using h2
  | succ o=>
   have:=ih (o:=o) (ns:=ns) h
   refine⟨by simp at this ⊢; omega,?_⟩
   have h2:=this.2
   simp only[setAt] at h2 ⊢
   rw[show o+1+ns.length=(o+ns.length)+1 by omega]
   simpa using h2
theorem DenL.setAt {E:Env}{h:Pub}{ds ns:List D}{vs us:List Value}(H:DenL E h ds vs)(G:DenL E h ns us)(o:Nat):DenL E h (setAt ds o ns) (setAt vs o us):=by
 unfold V.setAt
 rw[G.length]
 exact((H.take o).append G).append (H.drop _)
theorem jdJ {α:Type}{ds rs ns:List α}{o:Nat}(h:o+ns.length≤ds.length):setAt (ds++rs) o ns=setAt ds o ns++rs:=by
 unfold setAt
 rw[List.take_append_of_le_length (by omega),List.drop_append_of_le_length h,jhM,jhM,jhM]
theorem jbS {α:Type}{ds ns:List α}{o:Nat}{p:α→Prop}(h1:∀ x∈ds,p x)(h2:∀ x∈ns,p x):∀ x∈setAt ds o ns,p x:=by
 intro x hx
 simp only[setAt,List.mem_append] at hx
 rcases hx with(hx|hx)|hx
 ·exact h1 x (jhQ hx)
 ·exact h2 x hx
 ·exact h1 x (jhP hx)
theorem jbh {α:Type}{ds ns:List α}{o:Nat}(h:o+ns.length≤ds.length):(setAt ds o ns).length=ds.length:=by
 simp[setAt];omega
theorem jcE (off:Nat):∀ (l:List Value) (s:Nat) (cells:Array Value),off+s+l.length≤cells.size →
  ((l.zipIdx s).foldl (fun (cs:Array Value) (p:Value×Nat)=>cs.setIfInBounds (off+p.2) p.1) cells).toList=setAt cells.toList (off+s) l
 | [],s,cells,_=>by simp[setAt]
 | v::l,s,cells,h=>by
  simp only[jhS] at h
  simp only[List.zipIdx_cons,List.foldl_cons]
  rw[jcE off l (s+1) _ (by simp;omega)]
  simp only[setAt,Array.toList_setIfInBounds,jhS]
  rw[List.take_set,List.drop_set_of_lt (by omega)]
  rw[show off+(s+1)=off+s+1 by omega,List.take_succ_eq_append_getElem (by simp;omega)]
  have hmin:min (off+s) cells.size=off+s:=Nat.min_eq_left (by omega)
  have e:∀ x:Value,(List.take (off+s) cells.toList++[x]).set (off+s) v=List.take (off+s) cells.toList++[v]:=fun x=>by
   rw[List.set_append];simp[hmin]
  rw[e,show off+s+1+l.length=off+s+(l.length+1) by omega]
  simp
def fillK (g:Prop)(L:Sl)(place:Nat→(Nat→Nat→Prop)→Prop):List (Nat×Operand)→List D→(List D→Prop)→Prop
 | [],ds,K=>K ds
 | (i,x)::rest,ds,K=>rdg g L x fun d=>jdr d fun cs=>place i fun off size=>match Nat.beq cs.length size with
  | true=>jb8 ds off cs fun ds=>fillK g L place rest ds K
  | false=>False
theorem jgq {g:Prop}{L:Sl}{place:Nat→(Nat→Nat→Prop)→Prop}{pl:Nat→Option (Nat×Nat)}(hpl:∀ i K,place i K → ∃ o s,pl i=some (o,s)∧K o s)
  {parts:List (Nat×Operand)} {ds:List D} {K:List D→Prop} (hh:fillK g L place parts ds K) :
  ∃ rs,K rs ∧ ∀ E h (a:Act),(∀ x,Den E h (rd L x) (a.eval x))→g → ∀ cells:Array Value,DenL E h ds cells.toList→(∀ u∈cells.toList,u.oneCell'=true) →
   ∃ cells',Instr.fill pl cells (parts.map fun p=>(p.1,a.eval p.2))=some cells'∧DenL E h rs cells'.toList∧(∀ u∈cells'.toList,u.oneCell'=true):=by
 induction parts generalizing ds with
 | nil=>exact⟨_,hh,fun E h a _ _ cells h1 h2=>⟨cells,rfl,h1,h2⟩⟩
 | cons p rest ih=>
  obtain⟨i,x⟩:=p
  simp only[fillK] at hh
  obtain⟨d,hh,hd⟩:=jam hh
  obtain⟨cs,hh,hcs⟩:=jdF hh
  obtain⟨o,s,hp,hh⟩:=hpl _ _ hh
  cases hb:Nat.beq cs.length s with
  | false=>rw[hb] at hh;exact hh.elim
  | true=>
   rw[hb] at hh
   have hs:=jac hb
   obtain⟨hle,hh⟩:=jcb hh
   obtain⟨rs,hr,hh⟩:=ih hh
   refine⟨rs,hr,fun E h a hk hg cells h1 h2=>?_⟩
   obtain⟨h3,h4⟩:=hcs E h _ (hd E h a hg (hk x))
   have hl1:=h3.length
   have hl2:=h1.length
   simp only[Array.length_toList] at hl1 hl2
   simp only[List.map_cons,Instr.fill,hp]
   rw[if_neg (by simp;omega)]
   refine hh E h a hk hg _ ?_ ?_
   ·have:=jcE o (a.eval x).cells.toList 0 cells (by simp;omega)
    rw[jg9] at this
    rw[← Array.foldl_toList,Array.toList_zipIdx,this]
    exact h1.setAt h3 o
   ·have:=jcE o (a.eval x).cells.toList 0 cells (by simp;omega)
    rw[jg9] at this
    rw[← Array.foldl_toList,Array.toList_zipIdx,this]
    exact jbS h2 h4
def buildK (tb:Tb)(g:Prop)(L:Sl)(t:Nat)(parts:Array (Nat×Operand))(K:D→Prop):Prop:=tyK tb t fun y=>match y.kind with
 | .struct fs=>fillK g L (fun i K=>nthF fs i fun o u=>tyK tb u fun yu=>K o yu.size) parts.toList y.zero fun ds=>K (.agg ds)
 | .arr _ e=>tyK tb e fun ye=>fillK g L (fun i K=>K (i*ye.size) ye.size) parts.toList y.zero fun ds=>K (.agg ds)
 | _=>False
theorem jcM {P:Program}{α β:Type}{f:α→Sem β}{w:World} : ∀ (xs:List α) (ys:List β),xs.length=ys.length→(∀ (i:Nat) (x:α) (y:β),xs[i]? = some x→ys[i]? = some y→(f x).run P w = .ok y w) →
  (xs.mapM f).run P w = .ok ys w
 | [],[],_,_=>by simp
 | x::xs,y::ys,hl,h=>by
  have h0:=h 0 x y rfl rfl
  have ih:=jcM xs ys (by simpa using hl) (fun i x y hx hy=>h (i+1) x y (by simpa using hx) (by simpa using hy))
  simp[List.mapM_cons,h0,ih]
 | [],_::_,hl,_=>by simp at hl
 | _::_,[],hl,_=>by simp at hl
theorem build_el {P:Program}{tb:Tb}(htb:TbOk P tb){g:Prop}{L:Sl}{t:Nat}{parts:Array (Nat×Operand)}{K:D→Prop}(hh:buildK tb g L t parts K) :
  ∃ r,K r ∧ ∀ E h (a:Act) w,(∀ x,Den E h (rd L x) (a.eval x))→g→Gives P E h (Instr.build t (parts.map fun p=>(p.1,a.eval p.2))) w r:=by
 have hx:=jaj hh;clear hh;obtain⟨y,hy,hh⟩:=hx
 have hty:=htb _ _ hy
 obtain⟨iy,z,i1,i2,i3,i4,i5,i6,i7,i8,i9⟩:=hty.info
 have hz:∀ w,(zeroValue t).run P w = .ok z w:=fun w=>by simp[zeroValue,typeInfo,i1,i4]
 have hpl:∀ a:Act,(parts.map fun p=>(p.1,a.eval p.2)).toList=parts.toList.map fun p=>(p.1,a.eval p.2):=fun a=>by simp
 split at hh
 ·rename_i fs hk
  have hu:=hty.und;rw[hk] at hu
  obtain⟨fields,hu,hsz,hff⟩:=hu
  -- the places of the fields
  obtain⟨pls,hpls,hpl2⟩:∃ pls:List (Nat×Nat),pls.length=fields.size ∧ ∀ i o u,fs[i]? = some (o,u) → ∃ iu,P.info? u=some iu∧pls[i]? = some (o,iu.size):=by
   refine⟨fs.map fun p=>(p.1,((P.info? p.2).map (·.size)).getD 0),by simp[hsz],fun i o u hi=>?_⟩
   obtain⟨f,iu,_,_,_,h4,_⟩:=hff i o u hi
   exact⟨iu,h4,by rw[List.getElem?_map,hi];simp[h4]⟩
  have hmap:∀ w,(fields.mapM fun f=>do pure (f.offset,← sizeOf f.type):Sem _).run P w = .ok pls.toArray w:=fun w=>by
   rw[Array.mapM_eq_mapM_toList]
   have:=jcM (P:=P) (w:=w) (f:=fun f:Field=>(do pure (f.offset,← sizeOf f.type):Sem (Nat×Nat))) fields.toList pls (by simp[hpls]) (fun i f p hf hp=>by
    have hi:i<fs.length:=by rw[← hsz,← hpls];exact(jhO.1 hp).1
    obtain⟨o,u,hfs'⟩:∃ o u,fs[i]? = some (o,u):=⟨fs[i].1,fs[i].2,jhI hi⟩
    obtain⟨f',iu,g1,g2,g3,g4,_⟩:=hff i o u hfs'
    obtain⟨iu',g5,g6⟩:=hpl2 i o u hfs'
    rw[g4] at g5;cases g5
    have:f=f':=by rw[← Array.getElem?_toList,hf] at g1;exact Option.some.inj g1
    subst this
    rw[hp] at g6;cases g6
    simp[sizeOf,typeInfo,g3,g4,g2])
   rw[Sem.run_map,this];rfl
  obtain⟨rs,hr,hh⟩:=jgq (pl:=fun i=>pls.toArray[i]?) (fun i K h=>by
   obtain⟨o,u,h1,h2⟩:=jgf h
   obtain⟨yu,h3,h4⟩:=jaj h2
   obtain⟨iu,h5,h6⟩:=hpl2 i o u h1
   obtain⟨iu',_,h7,h8,_⟩:=(htb _ _ h3).info
   rw[h5] at h7;cases h7
   exact⟨o,yu.size,by simp[h6,h8],h4⟩) hh
  refine⟨_,hr,fun E h a w hkn hg=>?_⟩
  obtain⟨cells',h1,h2,h3⟩:=hh E h a hkn hg z.cells (i5 E h) i6
  refine⟨.agg cells',?_,?_⟩
  ·simp only[Instr.build,Sem.run_bind,hz,Result.andThen_ok,run_underlying hu,hmap,hpl a,h1,Sem.run_pure]
  ·simp only[Den];exact⟨cells'.toList,by simp,h2,h3⟩
 ·rename_i n e hk
  have hu:=jb5 hty hk
  have hx:=jaj hh;clear hh;obtain⟨ye,hye,hh⟩:=hx
  have hte:=htb _ _ hye
  obtain⟨rs,hr,hh⟩:=jgq (pl:=fun i=>some (i*ye.size,ye.size)) (fun i K h=>⟨_,_,rfl,h⟩) hh
  refine⟨_,hr,fun E h a w hkn hg=>?_⟩
  obtain⟨cells',h1,h2,h3⟩:=hh E h a hkn hg z.cells (i5 E h) i6
  refine⟨.agg cells',?_,?_⟩
  ·simp only[Instr.build,Sem.run_bind,hz,Result.andThen_ok,run_underlying hu,hte.sizeOf w,hpl a,h1,Sem.run_pure]
  ·simp only[Den];exact⟨cells'.toList,by simp,h2,h3⟩
 ·exact hh.elim
end Go.V
end
section
namespace Go.V
open Go Go.RowKit
def rdsK (g:Prop)(L:Sl):List Operand→(List D→Prop)→Prop
 | [],K=>K []
 | x::xs,K=>rdg g L x fun d=>rdsK g L xs fun ds=>K (d::ds)
theorem jcv {g:Prop}{L:Sl}{xs:List Operand}{K:List D→Prop}(hh:rdsK g L xs K) :
  ∃ ds,K ds∧ds.length=xs.length ∧ ∀ E h (a:Act),(∀ x,Den E h (rd L x) (a.eval x))→g→DenL E h ds (xs.map a.eval):=by
 induction xs generalizing K with
 | nil=>exact⟨[],hh,rfl,fun E h a _ _=>by simp[DenL]⟩
 | cons x xs ih=>
  obtain⟨d,hh,hd⟩:=jam hh
  obtain⟨ds,hh,hl,hds⟩:=ih hh
  exact⟨d::ds,hh,by simp[hl],fun E h a hk hg=>by simp only[DenL,List.map_cons];exact⟨_,_,rfl,hd E h a hg (hk x),hds E h a hk hg⟩⟩
def pickK (g:Prop)(L:Sl)(c x y:Operand)(K:D→Prop):Prop:=rdg g L c fun dc=>match dc with
 | .bool b=>rdK L x fun dx=>rdK L y fun dy=>match dx,dy with
  | .bool true,.gd c2 (.bool q)=>(g→b=false→c2=true)∧K (.bool (b || q))
  | .gd c2 (.bool q),.bool false=>(g→b=true→c2=true)∧K (.bool (b && q))
  | .bool p,.bool q=>K (.bool ((b && p) || (!b && q)))
  | _,_=>False
 | _=>False
theorem pick_el {g:Prop}{L:Sl}{c x y:Operand}{K:D→Prop}(hh:pickK g L c x y K) :
  ∃ r,K r ∧ ∀ P E h (a:Act) w,(∀ x,Den E h (rd L x) (a.eval x))→g→Gives P E h (do pure (if ← asBool (a.eval c) then a.eval x else a.eval y)) w r:=by
 obtain⟨dc,hh,hc⟩:=jam hh
 split at hh
 case h_2=>exact hh.elim
 rename_i b
 rw[rdK_eq,rdK_eq] at hh
 split at hh
 ·rename_i c2 q hx hy
  refine⟨_,hh.2,fun P E h a w hk hg=>?_⟩
  have h1:=hc E h a hg (hk c)
  have h2:=hk x;have h3:=hk y
  rw[hx] at h2;rw[hy] at h3
  simp only[Den] at h1 h2 h3
  refine⟨_,by simp[h1,asBool];rfl,?_⟩
  simp only[Den]
  cases b with
  | true=>simp[h2]
  | false=>simp[h3.1 (hh.1 hg rfl)]
 ·rename_i c2 q hx hy
  refine⟨_,hh.2,fun P E h a w hk hg=>?_⟩
  have h1:=hc E h a hg (hk c)
  have h2:=hk x;have h3:=hk y
  rw[hx] at h2;rw[hy] at h3
  simp only[Den] at h1 h2 h3
  refine⟨_,by simp[h1,asBool];rfl,?_⟩
  simp only[Den]
  cases b with
  | true=>simp[h2.1 (hh.1 hg rfl)]
  | false=>simp[h3]
 ·rename_i p q hx hy
  refine⟨_,hh,fun P E h a w hk hg=>?_⟩
  have h1:=hc E h a hg (hk c)
  have h2:=hk x;have h3:=hk y
  rw[hx] at h2;rw[hy] at h3
  simp only[Den] at h1 h2 h3
  refine⟨_,by simp[h1,asBool];rfl,?_⟩
  simp only[Den]
  cases b with
  | true=>simp[h2]
  | false=>simp[h3]
 ·exact hh.elim
def unK (g:Prop)(op:UnOp)(d:D)(K:D→Prop):Prop:=match op,d with
 | .not,.bool b=>K (.bool (!b))
 | .neg,.int k n=>((g→InR k n→InR k (0-n))∧K (.int k (0-n)))∨K (.int k (k.wrap (-n)))
 | _,_=>False
theorem un_el {g:Prop}{op:UnOp}{d:D}{K:D→Prop}(hh:unK g op d K) :
  ∃ r,K r ∧ ∀ P E h w v,Den E h d v→g→Gives P E h (Op.unary op v) w r:=by
 unfold unK at hh
 split at hh
 ·refine⟨_,hh,fun P E h w v hv hg=>?_⟩
  simp only[Den] at hv;subst hv
  exact⟨_,by simp[Op.unary];rfl,by simp only[Den]⟩
 ·rcases hh with hh|hh
  case inr=>
   refine⟨_,hh,fun P E h w v hv hg=>?_⟩
   simp only[Den] at hv;obtain⟨rfl,hn⟩:=hv
   exact⟨_,by simp[Op.unary,Op.intArith];rfl,by simp only[Den];exact⟨trivial,jbz _ _⟩⟩
  refine⟨_,hh.2,fun P E h w v hv hg=>?_⟩
  simp only[Den] at hv;obtain⟨rfl,hn⟩:=hv
  exact⟨_,by simp[Op.unary,Op.intArith];rfl,by rw[show -_=0-_ from (Int.zero_sub _).symm,jbr (hh.1 hg hn)];simp only[Den];exact⟨trivial,hh.1 hg hn⟩⟩
 ·exact hh.elim
def convK (tb:Tb)(g:Prop)(H:Hp)(s t:Nat)(d:D)(K:D→Prop):Prop:=tyK tb s fun ys=>tyK tb t fun yt=>match yt.kind with
 | .int k=>match d with
  | .int k' n=>((g→InR k' n→InR k n)∧K (.int k n))∨K (.int k (k.wrap n))
  | _=>False
 | .str=>match d with
  | .str b=>K (.str b)
  | .ints .u8 xs=>match ys.kind with
   | .slice e=>tyK tb e fun ye=>match ye.kind with
    | .int .u8=>K (.str (xs.map fun n=>UInt8.ofNat n.toNat))
    | _=>False
   | _=>False
  | .osl i 0 len=>match ys.kind with
   | .slice e=>tyK tb e fun ye=>match ye.kind with
    | .int .u8=>jaG H i fun c=>match c with
     | .arr .u8 xs=>(g→xs.length=len)∧K (.str (xs.map fun n=>UInt8.ofNat n.toNat))
     | _=>False
    | _=>False
   | _=>False
  | _=>False
 | _=>False
theorem jeM (xs:List Int):∀ (b:ByteArray),(xs.foldl (fun (r:ByteArray) n=>r.push (UInt8.ofNat n.toNat)) b).data.toList=b.data.toList++xs.map fun n=>UInt8.ofNat n.toNat:=by
 induction xs with
 | nil=>simp
 | cons x xs ih=>intro b;simp only[List.foldl_cons,List.map_cons];rw[ih];simp[ByteArray.push]
theorem und_some {P:Program}{t:Nat}{y:Ty}(h:TyOk P t y):∃ d,P.underlying t=some d:=by
 have:=h.und
 cases hk:y.kind<;>rw[hk] at this<;>simp only at this
 case struct fs=>obtain⟨f,h1,_⟩:=this;exact⟨_,h1⟩
 case func=>obtain⟨a,b,c,h1⟩:=this;exact⟨_,h1⟩
 case other=>obtain⟨d,h1,_⟩:=this;exact⟨_,h1⟩
 all_goals exact⟨_,this⟩
theorem conv_el {P:Program}{tb:Tb}(htb:TbOk P tb){g:Prop}{H:Hp}{s t:Nat}{d:D}{K:D→Prop}(hh:convK tb g H s t d K) :
  ∃ r,K r ∧ ∀ E h a w L,Facts E h a w L H → ∀ v,Den E h d v→g→Gives P E h (convert s t v) w r:=by
 have hx:=jaj hh;clear hh;obtain⟨ys,hys,hh⟩:=hx
 have hx:=jaj hh;clear hh;obtain⟨yt,hyt,hh⟩:=hx
 have hts:=htb _ _ hys
 have htt:=htb _ _ hyt
 split at hh
 ·rename_i k hk
  have hu:=jcU htt hk
  obtain⟨ds,hds⟩:=und_some hts
  split at hh
  ·rcases hh with hh|hh
   case inr=>
    refine⟨_,hh,fun E h a w L F v hv hg=>?_⟩
    simp only[Den] at hv;obtain⟨rfl,hn⟩:=hv
    refine⟨_,by simp[convert,run_underlying hu,run_underlying hds,Conv.intToInt];rfl,?_⟩
    simp only[Den];exact⟨trivial,jbz _ _⟩
   refine⟨_,hh.2,fun E h a w L F v hv hg=>?_⟩
   simp only[Den] at hv;obtain⟨rfl,hn⟩:=hv
   refine⟨_,by simp[convert,run_underlying hu,run_underlying hds,Conv.intToInt];rfl,?_⟩
   rw[jbr (hh.1 hg hn)];simp only[Den];exact⟨trivial,hh.1 hg hn⟩
  ·exact hh.elim
 ·rename_i hk
  have hu:=jdC htt hk
  split at hh
  ·obtain⟨ds,hds⟩:=und_some hts
   refine⟨_,hh,fun E h a w L F v hv hg=>?_⟩
   have hv':=hv
   simp only[Den] at hv;obtain⟨rfl,_⟩:=hv
   exact⟨_,by simp[convert,run_underlying hu,run_underlying hds],hv'⟩
  ·rename_i xs
   split at hh
   case h_2=>exact hh.elim
   rename_i e hks
   have hs:=jan hts hks
   have hx:=jaj hh;clear hh;obtain⟨ye,hye,hh⟩:=hx
   split at hh
   case h_2=>exact hh.elim
   rename_i hke
   have he:=jcU (htb _ _ hye) hke
   refine⟨_,hh,fun E h a w L F v hv hg=>?_⟩
   simp only[Den,jaD] at hv
   obtain⟨ad,cap,rfl,h1,h2,h3,h4⟩:=hv
   cases ad with
   | none=>
    simp only at h4;obtain⟨h4,_⟩:=h4;subst h4
    refine⟨.string ByteArray.empty,?_,by simp only[Den,List.map_nil];exact⟨rfl,by simp⟩⟩
    rw[run_convert_bytes_string w s t e _ _ _ hs he hu];simp[Conv.bytesToString]
   | some ad=>
    have hl:=run_loadCells_list (P:=P) w ad (xs.map (Value.int .u8)) (fun j u hu=>by
     rw[jbi h4.1]
     rw[List.getElem?_map] at hu
     cases hx:xs[j]? with
     | none=>rw[hx] at hu;cases hu
     | some n=>rw[hx] at hu;cases hu;exact F.agree _ _ _ (h4.2 j n hx))
    rw[List.length_map] at hl
    refine⟨.string (xs.foldl (fun r n=>r.push (UInt8.ofNat n.toNat)) ByteArray.empty),?_,?_⟩
    ·rw[run_convert_bytes_string w s t e _ _ _ hs he hu];exact run_bytesToString w ad xs.length cap xs hl
    ·simp only[Den]
     refine⟨?_,by simpa using h2⟩
     congr 1
     apply ByteArray.ext
     apply Array.toList_inj.1
     rw[jeM];simp
  ·rename_i i len
   split at hh
   case h_2=>exact hh.elim
   rename_i e hks
   have hs:=jan hts hks
   have hx:=jaj hh;clear hh;obtain⟨ye,hye,hh⟩:=hx
   split at hh
   case h_2=>exact hh.elim
   rename_i hke
   have he:=jcU (htb _ _ hye) hke
   have hx:=jao hh;clear hh;obtain⟨c,hc,hh⟩:=hx
   split at hh
   case h_2=>exact hh.elim
   rename_i xs
   refine⟨_,hh.2,fun E h a w L F v hv hg=>?_⟩
   have hlen:=hh.1 hg
   simp only[Den] at hv
   rcases hv with⟨hreal,rfl,hl0⟩|⟨hreal,o,cap,rfl,h1,h2,h3,h4,_⟩
   ·have hx0:xs=[]:=jhG.1 (by omega)
    subst hx0
    refine⟨.string ByteArray.empty,?_,by simp only[Den,List.map_nil];exact⟨rfl,by simp⟩⟩
    rw[run_convert_bytes_string w s t e _ _ _ hs he hu];simp[Conv.bytesToString]
   obtain⟨rest,T,hb,hsz,hr,hkn⟩:=jaT hreal (F.chunk _ _ hc)
   refine⟨.string (xs.foldl (fun r n=>r.push (UInt8.ofNat n.toNat)) ByteArray.empty),?_,?_⟩
   ·rw[run_convert_bytes_string w s t e _ _ _ hs he hu]
    refine run_bytesToString w _ len cap xs ?_
    rw[← hlen]
    have:=run_loadCells_list (P:=P) w ⟨E.blk i,o,none⟩ (xs.map (Value.int .u8)) (fun j u hu=>by
     rw[jaB]
     have hj:j<xs.length:=by simpa using (jhO.1 hu).1
     rcases h4 with rfl|h4
     ·rw[jg8]
      refine jbH hb ?_
      rw[jhN (by simpa using hj)];exact hu
     ·omega)
    simpa using this
   ·simp only[Den]
    refine⟨?_,by simp;omega⟩
    congr 1
    apply ByteArray.ext
    apply Array.toList_inj.1
    rw[jeM];simp
  ·exact hh.elim
 ·exact hh.elim
def jfb (mx:Bool)(ds:List D)(K:D→Prop):Prop:=match ds with
 | [.int k m,.int k' n]=>match kE k k' with
  | true=>match mx with|true=>K (.int k (max m n))|false=>K (.int k (min m n))
  | false=>False
 | _=>False
theorem jfC {mx:Bool}{ds:List D}{K:D→Prop}(hh:jfb mx ds K) :
  ∃ r,K r ∧ ∀ P E h w vs ats ty,DenL E h ds vs→Gives P E h (match mx with|true=>Builtin.max_ ats ty vs.toArray|false=>Builtin.min_ ats ty vs.toArray) w r:=by
 unfold jfb at hh
 split at hh
 case h_2=>exact hh.elim
 rename_i k m k' n
 cases hk:kE k k' with
 | false=>rw[hk] at hh;exact hh.elim
 | true=>
  rw[hk] at hh
  have:=kE_eq hk;subst this
  cases mx with
  | true=>
   refine⟨_,hh,fun P E h w vs ats ty hv=>?_⟩
   simp only[DenL,Den] at hv
   obtain⟨_,_,rfl,⟨rfl,h1⟩,_,_,rfl,⟨rfl,h2⟩,rfl⟩:=hv
   have e:(if n>m then n else m)=max m n:=by split<;>omega
   refine⟨.int k (max m n),?_,?_⟩
   ·simp[Builtin.max_,Builtin.max2];omega
   ·simp only[Den];refine⟨trivial,?_⟩
    rcases Int.le_total m n with h3|h3
    ·rw[Int.max_eq_right h3];exact h2
    ·rw[Int.max_eq_left h3];exact h1
  | false=>
   refine⟨_,hh,fun P E h w vs ats ty hv=>?_⟩
   simp only[DenL,Den] at hv
   obtain⟨_,_,rfl,⟨rfl,h1⟩,_,_,rfl,⟨rfl,h2⟩,rfl⟩:=hv
   refine⟨.int k (min m n),?_,?_⟩
   ·simp[Builtin.min_,Builtin.min2];omega
   ·simp only[Den];refine⟨trivial,?_⟩
    rcases Int.le_total m n with h3|h3
    ·rw[Int.min_eq_left h3];exact h1
    ·rw[Int.min_eq_right h3];exact h2
def jdD:D→Bool
 | .fn _ _ _ | .box _ _ | .ref _=>true
 | _=>false
theorem jgg {P:Program}{E:Env}{h:Pub}{d:D}{v:Value}{w:World}(hd:jdD d=true)(hv:Den E h d v)(o:Oper)(x:Operand)(ho:o.op = .nilCheck x)(ρ:Operand→Value)(hx:ρ x=v) :
  (execOp ρ o).run P w = .ok (.value v) w:=by
 cases d<;>simp only[jdD] at hd<;>first|exact absurd hd (by decide)|skip
 ·simp only[Den] at hv
  obtain⟨us,vs,rfl,_⟩:=hv
  simp[execOp,ho,hx]
 ·simp only[Den] at hv
  obtain⟨b,o',rfl,_⟩:=hv
  simp[execOp,ho,hx]
 ·simp only[Den] at hv
  obtain⟨rfl,_⟩:=hv
  simp[execOp,ho,hx]
def ifcK (tb:Tb)(t:Nat)(d:D)(K:D→Prop):Prop:=tyK tb t fun y=>match y.kind with
 | .int _=>match d with
  | .int k n=>K (.val (.iface t (.int k n)))
  | _=>False
 | .struct _=>match d with
  | .agg ds=>match ds with
   | [d]=>match d with
    | .int k n=>K (.val (.iface t (.agg #[.int k n])))
    | _=>False
   | _=>False
  | _=>False
 | _=>False
theorem ifc_el {P:Program}{tb:Tb}(htb:TbOk P tb){t:Nat}{d:D}{K:D→Prop}(hh:ifcK tb t d K) :
  ∃ r,K r ∧ ∀ E h w v,Den E h d v → ∃ u,(Instr.makeInterface t v).run P w = .ok u w∧Den E h r u:=by
 obtain⟨y,hyt,hh⟩:=jaj hh
 have hu:=(htb _ _ hyt).und
 split at hh
 ·rename_i k hk
  rw[hk] at hu
  split at hh
  case h_2=>exact hh.elim
  rename_i k n
  refine⟨_,hh,fun E h w v hv=>⟨_,run_makeInterface w t v (by unfold Program.concrete;rw[hu]),?_⟩⟩
  simp only[Den] at hv ⊢
  rw[hv.1]
 ·rename_i fs hk
  rw[hk] at hu
  obtain⟨fields,hu,_⟩:=hu
  split at hh
  case h_2=>exact hh.elim
  split at hh
  case h_2=>exact hh.elim
  split at hh
  case h_2=>exact hh.elim
  rename_i k n
  refine⟨_,hh,fun E h w v hv=>⟨_,run_makeInterface w t v (by unfold Program.concrete;rw[hu]),?_⟩⟩
  simp only[Den,DenL] at hv ⊢
  obtain⟨vs,rfl,⟨u,_,rfl,⟨rfl,_⟩,rfl⟩,_⟩:=hv
  rfl
 ·exact hh.elim
def jf2 (tb:Tb)(g:Prop)(L:Sl)(H:Hp)(t:Nat)(dx:D)(lo hi:Option Operand)(K:D→Prop):Prop:=match dx,lo,hi with
 | .box i 0,none,some b=>tyK tb t fun y=>match y.kind with
  | .arr n e=>tyK tb e fun ye=>match Nat.beq ye.size 1,Nat.ble n 1000000 with
   | true,true=>jaG H i fun c=>match c with
    | .arr _ xs=>rdg g L b fun r=>match r with
     | .int _ m=>(g→(0≤m∧m≤n)∧n≤xs.length)∧K (.bsl i 0 m.toNat 1)
     | _=>False
    | _=>False
   | _,_=>False
  | _=>False
 | .bsl i off len es,none,some b=>tyK tb t fun y=>match y.kind with
  | .slice e=>tyK tb e fun ye=>match Nat.beq ye.size es with
   | true=>jaG H i fun c=>match c with
    | .box ds=>match Nat.ble (off+len*es) ds.length with
     | true=>rdg g L b fun r=>match r with
      | .int _ n=>(g→0≤n∧n≤len)∧K (.bsl i off n.toNat es)
      | _=>False
     | false=>False
    | _=>False
   | false=>False
  | _=>False
 | .bsl i off len es,some b,none=>tyK tb t fun y=>match y.kind with
  | .slice e=>tyK tb e fun ye=>match Nat.beq ye.size es with
   | true=>rdg g L b fun r=>match r with
    | .int _ n=>(g→0≤n∧n<len)∧K (.bsl i (off+n.toNat*es) (len-n.toNat) es)
    | _=>False
   | false=>False
  | _=>False
 | _,_,_=>sliceK tb g L t dx lo hi K
theorem sliceH_el {P:Program}{tb:Tb}(htb:TbOk P tb){g:Prop}{L:Sl}{H:Hp}{t:Nat}{dx:D}{lo hi:Option Operand}{K:D→Prop}(hh:jf2 tb g L H t dx lo hi K) :
  ∃ r,K r ∧ ∀ E h (a:Act) w v,Facts E h a w L H→Den E h dx v→g→Gives P E h (Instr.sliceAt t v (lo.map a.eval) (hi.map a.eval) none) w r:=by
 unfold jf2 at hh
 split at hh
 ·rename_i i b
  have hx:=jaj hh;clear hh;obtain⟨y,hy,hh⟩:=hx
  have hty:=htb _ _ hy
  split at hh
  case h_2=>exact hh.elim
  rename_i n e hk
  have hu:=jb5 hty hk
  have hx:=jaj hh;clear hh;obtain⟨ye,hye,hh⟩:=hx
  have hte:=htb _ _ hye
  split at hh
  case h_2=>exact hh.elim
  rename_i hb1 hb2
  have hs1:=jac hb1
  have hn:=jg1 hb2
  have hx:=jao hh;clear hh;obtain⟨c,hc,hh⟩:=hx
  split at hh
  case h_2=>exact hh.elim
  rename_i k xs
  obtain⟨m,hm,he⟩:=jaI hh
  refine⟨_,hm.2,fun E h a w v F hv hg=>?_⟩
  obtain⟨⟨h1,h2⟩,h3⟩:=hm.1 hg
  obtain⟨k',hk'⟩:=he E h a hg (F.rd b)
  simp only[Den] at hv
  obtain⟨rfl,hr⟩:=hv
  have hok:=F.chunk _ _ hc
  simp only[ChunkOk] at hok
  rcases hok with⟨hr0,_⟩|⟨_,rest,T,_,hsz,_,_⟩
  ·rw[hr] at hr0
   cases hr0
  ·have hb:(Instr.sliceBounds false n n none (some (.int k' m)) none).run P w = .ok (0,m.toNat,n) w:=by
    have b1:=run_sliceBound (P:=P) w k' m n .sliceAlen h1 h2
    simp[Instr.sliceBounds,b1]
   refine⟨.slice (some ⟨E.blk i,0,none⟩) m.toNat n,?_,?_⟩
   ·simp only[Option.map_none,Option.map_some,hk',Instr.sliceAt,Sem.run_bind,run_underlying hu,Result.andThen_ok,Instr.sureAddr,Sem.run_pure,hb,hte.sizeOf w]
    simp[Addr.add]
   ·simp only[Den]
    exact⟨hr,n,rfl,by omega,by omega,.inr (.inr (by omega))⟩
 ·rename_i i off len es b
  have hx:=jaj hh;clear hh;obtain⟨y,hy,hh⟩:=hx
  have hty:=htb _ _ hy
  split at hh
  case h_2=>exact hh.elim
  rename_i e hk
  have hu:=jan hty hk
  have hx:=jaj hh;clear hh;obtain⟨ye,hye,hh⟩:=hx
  have hte:=htb _ _ hye
  split at hh
  case h_2=>exact hh.elim
  rename_i hb1
  have hs1:=jac hb1
  have hx:=jao hh;clear hh;obtain⟨c,hc,hh⟩:=hx
  split at hh
  case h_2=>exact hh.elim
  rename_i ds
  split at hh
  case h_2=>exact hh.elim
  rename_i hb2
  have hdl:=jg1 hb2
  obtain⟨n,hn,he⟩:=jaI hh
  refine⟨_,hn.2,fun E h a w v F hv hg=>?_⟩
  obtain⟨h1,h2⟩:=hn.1 hg
  obtain⟨k',hk'⟩:=he E h a hg (F.rd b)
  simp only[Den] at hv
  obtain⟨hr,cap,rfl,h3,h4,h5⟩:=hv
  obtain⟨_,vs,rest,T,_,hd,_,hsz⟩:=F.chunk _ _ hc
  have hvl:=hd.length
  have hrun:=jaQ (P:=P) hu hte (some ⟨E.blk i,off,none⟩) (.none 0) (.some k' n len) (Int.le_refl 0) h1 (show n≤(cap:Int) by omega) w
  simp only[Option.map_none,Option.map_some,hk']
  refine⟨_,hrun,?_⟩
  simp only[Den]
  refine⟨hr,cap,?_,by omega,by omega,?_⟩
  ·simp[Addr.add]
  ·rcases h5 with h5|h5|h5
   ·subst h5;exact .inr (.inr (by omega))
   ·exact .inr (.inl h5)
   ·exact .inr (.inr h5)
 ·rename_i i off len es b
  have hx:=jaj hh;clear hh;obtain⟨y,hy,hh⟩:=hx
  have hty:=htb _ _ hy
  split at hh
  case h_2=>exact hh.elim
  rename_i e hk
  have hu:=jan hty hk
  have hx:=jaj hh;clear hh;obtain⟨ye,hye,hh⟩:=hx
  have hte:=htb _ _ hye
  split at hh
  case h_2=>exact hh.elim
  rename_i hb1
  have hs1:=jac hb1
  obtain⟨n,hn,he⟩:=jaI hh
  refine⟨_,hn.2,fun E h a w v F hv hg=>?_⟩
  obtain⟨h1,h2⟩:=hn.1 hg
  obtain⟨k',hk'⟩:=he E h a hg (F.rd b)
  simp only[Den] at hv
  obtain⟨hr,cap,rfl,h3,h4,h5⟩:=hv
  have hrun:=jaQ (P:=P) hu hte (some ⟨E.blk i,off,none⟩) (.some k' n 0) (.none len) h1 (show n≤(len:Int) by omega) (show (len:Int)≤(cap:Int) by omega) w
  simp only[Option.map_none,Option.map_some,hk']
  refine⟨_,hrun,?_⟩
  simp only[Den]
  refine⟨hr,cap-n.toNat,?_,by omega,by omega,?_⟩
  ·rw[if_neg (by omega),← hs1]
   simp[jaB]
  ·rcases h5 with h5|h5|h5
   ·exact .inl (by omega)
   ·exact .inr (.inl (by omega))
   ·exact .inr (.inr (jhc (jhd _ (Nat.sub_le _ _)) h5))
 ·obtain⟨r,hK,h⟩:=slice_el htb hh
  exact⟨r,hK,fun E h' a w v F hv hg=>h E h' a w v F.rd hv hg⟩
def findM (k:Int):List (Int×D)→(Option D→Prop)→Prop
 | [],K=>K none
 | (j,d)::es,K=>match decide (j=k) with|true=>K (some d)|false=>findM k es K
def lkM (k:Int):List (Int×D)→Option D
 | []=>none
 | (j,d)::es=>match decide (j=k) with|true=>some d|false=>lkM k es
theorem findM_eq (k:Int)(es:List (Int×D))(K:Option D→Prop):findM k es K=K (lkM k es):=by
 induction es with
 | nil=>rfl
 | cons x es ih=>
  obtain⟨j,d⟩:=x
  simp only[findM,lkM]
  cases decide (j=k)<;>simp[ih]
theorem jcY {h:Pub}{kd:IntKind}{k:Int} : ∀ {es:List (Int×D)} {l:List MapEntry},MpOk h es l → ∀ i:Nat,
  (∀ d,lkM k es=some d → ∃ j v,Instr.findNow (.int kd) (.int .i64 k) l i=some (some (j,v))∧Den Env.dummy h d v)∧(lkM k es=none→Instr.findNow (.int kd) (.int .i64 k) l i=some none)
 | [],l,H,i=>by
  simp only[MpOk] at H;subst H
  exact⟨fun d hd=>by simp[lkM] at hd,fun _=>rfl⟩
 | (j,d)::es,l,H,i=>by
  obtain⟨e,l',rfl,h1,h2,h3⟩:=H
  have ih:=jcY (kd:=kd) (k:=k) h3 (i+1)
  have hs:Instr.sameNow (.int kd) (.int .i64 k) e.key=some (k == j):=by rw[h1];simp[Instr.sameNow]
  by_cases hj:j=k
  ·subst hj
   have hs':Instr.sameNow (.int kd) (.int .i64 j) e.key=some true:=by rw[hs];simp
   refine⟨fun d' hd=>?_,fun hn=>by simp[lkM] at hn⟩
   simp[lkM] at hd;subst hd
   exact⟨i,e.val,by simp[Instr.findNow,hs'],h2⟩
  ·have hs':Instr.sameNow (.int kd) (.int .i64 k) e.key=some false:=by rw[hs];simp[Ne.symm hj]
   refine⟨fun d' hd=>?_,fun hn=>?_⟩
   ·simp[lkM,hj] at hd
    obtain⟨j',v,g1,g2⟩:=ih.1 d' hd
    exact⟨j',v,by simp[Instr.findNow,hs',g1],g2⟩
   ·simp[lkM,hj] at hn
    simp[Instr.findNow,hs',ih.2 hn]
def lookupK (tb:Tb)(H:Hp)(t:Nat)(dx dk:D)(ok:Bool)(K:D→Prop):Prop:=tyK tb t fun y=>match y.kind with
 | .map kt et=>tyK tb kt fun yk=>match yk.kind with
  | .int .i64=>match dx with
   | .mapr i=>match dk with
    | .int kk k=>match kE kk .i64 with
     | true=>jaG H i fun c=>match c with
      | .mp es=>findM k es fun r=>match r with
       | some d=>match D.pure d with
        | true=>match ok with
         | true=>K (.tup [d,.bool true])
         | false=>K d
        | false=>False
       | none=>match ok with
        | true=>tyK tb et fun _=>K (.tup [.any,.bool false])
        | false=>False
      | _=>False
     | false=>False
    | _=>False
   | _=>False
  | _=>False
 | _=>False
theorem lookup_el {P:Program}{tb:Tb}(htb:TbOk P tb){H:Hp}{t:Nat}{dx dk:D}{ok:Bool}{K:D→Prop}(hh:lookupK tb H t dx dk ok K) :
  ∃ r,K r ∧ ∀ E h (a:Act) w L vx vk,Facts E h a w L H→Den E h dx vx→Den E h dk vk→Gives P E h (Instr.lookup t vx vk ok) w r:=by
 have hz:=jaj hh;clear hh;obtain⟨y,hy,hh⟩:=hz
 split at hh
 case h_2=>exact hh.elim
 rename_i kt et hk
 have hm:P.underlying t=some (.map kt et):=by have:=(htb _ _ hy).und;rw[hk] at this;exact this
 have hz:=jaj hh;clear hh;obtain⟨yk,hyk,hh⟩:=hz
 split at hh
 case h_2=>exact hh.elim
 rename_i hkd
 have hd:P.underlying kt=some (.int .i64):=by have:=(htb _ _ hyk).und;rw[hkd] at this;exact this
 split at hh
 case h_2=>exact hh.elim
 rename_i i
 split at hh
 case h_2=>exact hh.elim
 rename_i kk k
 split at hh
 case h_2=>exact hh.elim
 rename_i hke
 have:=kE_eq hke;subst this
 have hz:=jao hh;clear hh;obtain⟨c,hc,hh⟩:=hz
 split at hh
 case h_2=>exact hh.elim
 rename_i es
 rw[findM_eq] at hh
 have key:∀ E h (a:Act) w L vx vk,Facts E h a w L H→Den E h (.mapr i) vx→Den E h (.int .i64 k) vk → ∃ l ck,vx = .map (some (E.blk i))∧vk = .int .i64 k∧w.heap[E.blk i]? = some (.map l ck)∧MpOk h es l.toList:=by
  intro E h a w L vx vk F hx hv
  simp only[Den] at hx hv
  obtain⟨_,l,ck,h1,h2⟩:=F.chunk _ _ hc
  exact⟨l,ck,hx.1,hv.1,h1,h2⟩
 have hck:∀ (e:Bool) (w:World),(Instr.checkKey e 10000 kt (.int .i64 k)).run P w = .ok () w:=fun e w=>MapKept.run_checkKey hd (k := .int .i64 k) (show IntKind.i64 = .i64 from rfl) e 9999
 cases hl:lkM k es with
 | some d=>
  rw[hl] at hh
  dsimp only at hh
  split at hh
  case h_2=>exact hh.elim
  rename_i hp
  cases ok with
  | true=>
   dsimp only at hh
   refine⟨_,hh,fun E h a w L vx vk F hx hv=>?_⟩
   obtain⟨l,ck,rfl,rfl,hb,hmp⟩:=key E h a w L vx vk F hx hv
   obtain⟨j,v,g1,g2⟩:=(jcY (kd := .i64) (k:=k) hmp 0).1 d hl
   refine⟨.tuple #[v,.bool true],?_,?_⟩
   ·simp[Instr.lookup,run_underlying hm,MapKept.run_getObj_map hb,hck,MapKept.run_findKey hd g1]
   ·simp only[Den,DenL]
    exact⟨_,rfl,_,_,rfl,Den.pure hp g2,_,_,rfl,rfl,rfl⟩
  | false=>
   dsimp only at hh
   refine⟨_,hh,fun E h a w L vx vk F hx hv=>?_⟩
   obtain⟨l,ck,rfl,rfl,hb,hmp⟩:=key E h a w L vx vk F hx hv
   obtain⟨j,v,g1,g2⟩:=(jcY (kd := .i64) (k:=k) hmp 0).1 d hl
   refine⟨v,?_,Den.pure hp g2⟩
   simp[Instr.lookup,run_underlying hm,MapKept.run_getObj_map hb,hck,MapKept.run_findKey hd g1]
 | none=>
  rw[hl] at hh
  dsimp only at hh
  cases ok with
  | false=>exact hh.elim
  | true=>
   have hz:=jaj hh;clear hh;obtain⟨ye,hye,hh⟩:=hz
   obtain⟨iy,z,i1,i2,i3,i4,_⟩:=(htb _ _ hye).info
   refine⟨_,hh,fun E h a w L vx vk F hx hv=>?_⟩
   obtain⟨l,ck,rfl,rfl,hb,hmp⟩:=key E h a w L vx vk F hx hv
   have g1:=(jcY (kd := .i64) (k:=k) hmp 0).2 hl
   refine⟨.tuple #[z,.bool false],?_,?_⟩
   ·simp[Instr.lookup,run_underlying hm,MapKept.run_getObj_map hb,hck,MapKept.run_findKey hd g1,zeroValue,typeInfo,i1,i4]
   ·simp only[Den,DenL]
    exact⟨_,rfl,_,_,rfl,trivial,_,_,rfl,rfl,rfl⟩
def quiet (tb:Tb)(g:Prop)(L:Sl)(H:Hp)(K:D→Prop)(op:Op):Prop:=match op with
 | .move x=>rdg g L x K
 | .assign x=>rdK L x K
 | .pick c a b=>pickK g L c a b K
 | .binOp op t x y _=>rdg g L x fun dx=>rdg g L y fun dy=>binD tb g op t dx dy K
 | .unOp op _ x=>rdg g L x fun d=>unK g op d K
 | .convert s t x=>rdg g L x fun d=>convK tb g H s t d K
 | .load t x=>rdg g L x fun d=>loadK tb g H t d K
 | .fieldAddr t x f=>rdg g L x fun d=>jeO tb t d f K
 | .field t x f=>rdg g L x fun d=>fieldK tb t d f K
 | .indexAddr t x i=>rdg g L x fun dx=>rdg g L i fun di=>jdc tb g t dx di K
 | .index t x i=>rdg g L x fun dx=>rdg g L i fun di=>indexK tb g t dx di K
 | .slice t x lo hi none=>rdg g L x fun dx=>jf2 tb g L H t dx lo hi K
 | .build t parts=>buildK tb g L t parts K
 | .extract x i=>rdg g L x fun d=>match d with | .tup ds=>nthK ds i K|_=>False
 | .makeFunc (.func f) first caps=>rdsK g L first.toList fun es=>rdsK g L caps.toList fun ds=>K (.fn f es ds)
 | .nilCheck x=>rdg g L x fun d=>match jdD d with|true=>K d|false=>False
 | .makeInterface t x=>rdg g L x fun d=>ifcK tb t d K
 | .lookup t x k ok=>rdg g L x fun dx=>rdg g L k fun dk=>lookupK tb H t dx dk ok K
 | .call c=>match c.callee with
  | .builtin b=>match b with
   | .len=>match c.args.toList,c.argTypes.toList with
    | [x],[t]=>rdg g L x fun d=>lenK tb t d K
    | _,_=>False
   | .min=>rdsK g L c.args.toList fun ds=>jfb false ds K
   | .max=>rdsK g L c.args.toList fun ds=>jfb true ds K
   | _=>False
  | _=>False
 | _=>False
def Val (P:Program)(E:Env)(h:Pub)(ρ:Operand→Value)(o:Oper)(w:World)(d:D):Prop := ∃ v,(execOp ρ o).run P w = .ok (.value v) w∧Den E h d v
theorem jdx {P:Program}{tb:Tb}(htb:TbOk P tb){g:Prop}{L:Sl}{H:Hp}{K:D→Prop}{o:Oper}(hh:quiet tb g L H K o.op) :
  ∃ r,K r ∧ ∀ E h a w,Facts E h a w L H→g→Val P E h a.eval o w r:=by
 unfold quiet at hh
 split at hh
 ·rename_i x ho
  obtain⟨dx,hh,hx⟩:=jam hh
  exact⟨_,hh,fun E h a w F hg=>⟨_,by simp[execOp,ho],hx E h a hg (F.rd x)⟩⟩
 ·rename_i x ho
  rw[rdK_eq] at hh
  exact⟨_,hh,fun E h a w F _=>⟨_,by simp[execOp,ho],F.rd x⟩⟩
 ·rename_i c x y ho
  obtain⟨r,hr,hh⟩:=pick_el hh
  refine⟨r,hr,fun E h a w F hg=>?_⟩
  obtain⟨v,h1,h2⟩:=hh P E h a w F.rd hg
  simp only[Sem.run_bind,Sem.run_pure] at h1
  exact⟨v,by simp only[execOp,ho,Sem.run_bind,Sem.run_pure];cases hb:(asBool (a.eval c)).run P w<;>simp[hb] at h1 ⊢; exact h1,h2⟩
 ·rename_i op t x y _ ho
  obtain⟨dx,hh,hx⟩:=jam hh
  obtain⟨dy,hh,hy⟩:=jam hh
  obtain⟨r,hr,hh⟩:=bin_D htb (x:=x) (y:=y) hh
  refine⟨r,hr,fun E h a w F hg=>?_⟩
  obtain⟨v,h1,h2⟩:=hh E h w _ _ (hx E h a hg (F.rd x)) (hy E h a hg (F.rd y)) hg
  exact⟨v,by simp only[execOp,ho];rw[Sem.run_bind,h1];rfl,h2⟩
 ·rename_i op _ x ho
  obtain⟨dx,hh,hx⟩:=jam hh
  obtain⟨r,hr,hh⟩:=un_el hh
  refine⟨r,hr,fun E h a w F hg=>?_⟩
  obtain⟨v,h1,h2⟩:=hh P E h w _ (hx E h a hg (F.rd x)) hg
  exact⟨v,by simp only[execOp,ho];rw[Sem.run_bind,h1];rfl,h2⟩
 ·rename_i s t x ho
  obtain⟨dx,hh,hx⟩:=jam hh
  obtain⟨r,hr,hh⟩:=conv_el htb hh
  refine⟨r,hr,fun E h a w F hg=>?_⟩
  obtain⟨v,h1,h2⟩:=hh E h a w L F _ (hx E h a hg (F.rd x)) hg
  exact⟨v,by simp only[execOp,ho];rw[Sem.run_bind,h1];rfl,h2⟩
 ·rename_i t x ho
  obtain⟨dx,hh,hx⟩:=jam hh
  obtain⟨r,hr,hh⟩:=load_el htb hh
  refine⟨r,hr,fun E h a w F hg=>?_⟩
  obtain⟨v,h1,h2⟩:=hh E h a w L F _ (hx E h a hg (F.rd x)) hg
  exact⟨v,by simp only[execOp,ho];rw[Sem.run_bind,h1];rfl,h2⟩
 ·rename_i t x f ho
  obtain⟨dx,hh,hx⟩:=jam hh
  obtain⟨r,hr,hh⟩:=jfM htb hh
  refine⟨r,hr,fun E h a w F hg=>?_⟩
  obtain⟨v,h1,h2⟩:=hh E h w _ (hx E h a hg (F.rd x))
  exact⟨v,by simp only[execOp,ho];rw[Sem.run_bind,h1];rfl,h2⟩
 ·rename_i t x f ho
  obtain⟨dx,hh,hx⟩:=jam hh
  obtain⟨r,hr,hh⟩:=field_el htb hh
  refine⟨r,hr,fun E h a w F hg=>?_⟩
  obtain⟨v,h1,h2⟩:=hh E h w _ (hx E h a hg (F.rd x))
  exact⟨v,by simp only[execOp,ho];rw[Sem.run_bind,h1];rfl,h2⟩
 ·rename_i t x i ho
  obtain⟨dx,hh,hx⟩:=jam hh
  obtain⟨dy,hh,hy⟩:=jam hh
  obtain⟨r,hr,hh⟩:=jfH htb hh
  refine⟨r,hr,fun E h a w F hg=>?_⟩
  obtain⟨v,h1,h2⟩:=hh E h w _ _ F.agree.glob (hx E h a hg (F.rd x)) (hy E h a hg (F.rd i)) hg
  exact⟨v,by simp only[execOp,ho];rw[Sem.run_bind,h1];rfl,h2⟩
 ·rename_i t x i ho
  obtain⟨dx,hh,hx⟩:=jam hh
  obtain⟨dy,hh,hy⟩:=jam hh
  obtain⟨r,hr,hh⟩:=index_el htb hh
  refine⟨r,hr,fun E h a w F hg=>?_⟩
  obtain⟨v,h1,h2⟩:=hh E h w _ _ (hx E h a hg (F.rd x)) (hy E h a hg (F.rd i)) hg
  exact⟨v,by simp only[execOp,ho];rw[Sem.run_bind,h1];rfl,h2⟩
 ·rename_i t x lo hi ho
  obtain⟨dx,hh,hx⟩:=jam hh
  obtain⟨r,hr,hh⟩:=sliceH_el htb hh
  refine⟨r,hr,fun E h a w F hg=>?_⟩
  obtain⟨v,h1,h2⟩:=hh E h a w _ F (hx E h a hg (F.rd x)) hg
  exact⟨v,by simp only[execOp,ho,Option.map_none];rw[Sem.run_bind,h1];rfl,h2⟩
 ·rename_i t parts ho
  obtain⟨r,hr,hh⟩:=build_el htb hh
  refine⟨r,hr,fun E h a w F hg=>?_⟩
  obtain⟨v,h1,h2⟩:=hh E h a w F.rd hg
  exact⟨v,by simp only[execOp,ho];rw[Sem.run_bind];rw[h1];rfl,h2⟩
 ·rename_i x i ho
  obtain⟨d,hh,hx⟩:=jam hh
  split at hh
  case h_2=>exact hh.elim
  rename_i ds
  obtain⟨r,h1,hh⟩:=jdU hh
  refine⟨r,hh,fun E h a w F hg=>?_⟩
  have h2:=hx E h a hg (F.rd x)
  simp only[Den] at h2
  obtain⟨vs,h2,h3⟩:=h2
  obtain⟨v,h4,h5⟩:=h3.get h1
  exact⟨v,by simp only[execOp,ho,h2];rw[Sem.run_bind,jf4 h4];rfl,h5⟩
 ·rename_i f first caps ho
  obtain⟨es,hh,_,hes⟩:=jcv hh
  obtain⟨ds,hh,_,hds⟩:=jcv hh
  refine⟨_,hh,fun E h a w F hg=>⟨.func (.func f) (first.map a.eval) (caps.map a.eval),by simp[execOp,ho,Instr.makeFunc],?_⟩⟩
  simp only[Den]
  exact⟨_,_,by congr 1<;>(apply Array.toList_inj.1;simp),hes E h a F.rd hg,hds E h a F.rd hg⟩
 ·rename_i x ho
  obtain⟨d,hh,hx⟩:=jam hh
  cases hf:jdD d with
  | false=>rw[hf] at hh;exact hh.elim
  | true=>
   rw[hf] at hh
   exact⟨d,hh,fun E h a w F hg=>⟨_,jgg hf (hx E h a hg (F.rd x)) o x ho a.eval rfl,hx E h a hg (F.rd x)⟩⟩
 ·rename_i t x ho
  obtain⟨d,hh,hx⟩:=jam hh
  obtain⟨r,hr,hi⟩:=ifc_el htb hh
  refine⟨r,hr,fun E h a w F hg=>?_⟩
  obtain⟨u,h1,h2⟩:=hi E h w _ (hx E h a hg (F.rd x))
  exact⟨u,by simp only[execOp,ho];rw[Sem.run_bind];rw[h1];rfl,h2⟩
 ·rename_i t x k ok ho
  obtain⟨dx,hh,hx⟩:=jam hh
  obtain⟨dk,hh,hk⟩:=jam hh
  obtain⟨r,hr,hi⟩:=lookup_el htb hh
  refine⟨r,hr,fun E h a w F hg=>?_⟩
  obtain⟨u,h1,h2⟩:=hi E h a w L _ _ F (hx E h a hg (F.rd x)) (hk E h a hg (F.rd k))
  exact⟨u,by simp only[execOp,ho];rw[Sem.run_bind];rw[h1];rfl,h2⟩
 ·rename_i c ho
  obtain⟨callee,args,argTypes⟩:=c
  dsimp only at hh
  split at hh
  case h_2=>exact hh.elim
  split at hh
  ·split at hh
   case h_2=>exact hh.elim
   rename_i x t hxs hts
   obtain⟨d,hh,hx⟩:=jam hh
   obtain⟨r,hr,hh⟩:=len_el htb hh
   refine⟨r,hr,fun E h a w F hg=>?_⟩
   obtain⟨v,h1,h2⟩:=hh E h w (a.eval x) o.type argTypes (by rw[← Array.getElem?_toList,hts];rfl) (hx E h a hg (F.rd x))
   have ha:args = #[x]:=Array.toList_inj.1 (by simpa using hxs)
   subst ha
   exact⟨v,by simp[execOp,ho,resolve,invoke,builtin,h1],h2⟩
  ·obtain⟨ds,hh,_,hds⟩:=jcv hh
   obtain⟨r,hr,hh⟩:=jfC hh
   refine⟨r,hr,fun E h a w F hg=>?_⟩
   obtain⟨v,h1,h2⟩:=hh P E h w _ argTypes o.type (hds E h a F.rd hg)
   simp only[← Array.toList_map,Array.toArray_toList] at h1
   exact⟨v,by simp[execOp,ho,resolve,invoke,builtin,h1],h2⟩
  ·obtain⟨ds,hh,_,hds⟩:=jcv hh
   obtain⟨r,hr,hh⟩:=jfC hh
   refine⟨r,hr,fun E h a w F hg=>?_⟩
   obtain⟨v,h1,h2⟩:=hh P E h w _ argTypes o.type (hds E h a F.rd hg)
   simp only[← Array.toList_map,Array.toArray_toList] at h1
   exact⟨v,by simp[execOp,ho,resolve,invoke,builtin,h1],h2⟩
  ·exact hh.elim
 ·exact hh.elim
end Go.V
end
section
namespace Go.V
open Go Go.RowKit
def Env.set (E:Env)(i b s n:Nat):Env:=⟨fun j=>if j=i then b else E.blk j,fun j=>if j=i then s else E.siz j,fun j=>if j=i then n else E.kn j,fun j=>if j=i then true else E.real j,E.lpr⟩
theorem Env.off_set (E:Env)(i b s n:Nat):E.off (E.set i b s n) i:=fun j hj=>by simp[Env.set,hj]
theorem Env.set_blk (E:Env)(i b s n:Nat):(E.set i b s n).blk i=b:=by simp[Env.set]
theorem Env.set_siz (E:Env)(i b s n:Nat):(E.set i b s n).siz i=s:=by simp[Env.set]
theorem Env.set_real (E:Env)(i b s n:Nat):(E.set i b s n).real i=true:=by simp[Env.set]
theorem Env.set_real_ne (E:Env){i j:Nat}(b s n:Nat)(h:j≠i):(E.set i b s n).real j=E.real j:=by simp[Env.set,h]
theorem Env.set_kn (E:Env)(i b s n:Nat):(E.set i b s n).kn i=n:=by simp[Env.set]
theorem Env.set_blk_ne (E:Env){i j:Nat}(b s n:Nat)(h:j≠i):(E.set i b s n).blk j=E.blk j:=by simp[Env.set,h]
def purge (i:Nat):Sl→Sl
 | []=>[]
 | (t,d)::L=>(t,match D.free i d with|true=>d|false => .any)::purge i L
def jdk (i:Nat):Sl→(Sl→Prop)→Prop
 | [],K=>K []
 | (t,d)::L,K=>match D.free i d with
  | true=>jdk i L fun L'=>K ((t,d)::L')
  | false=>jdk i L fun L'=>K ((t,.any)::L')
theorem jcO (i:Nat)(L:Sl)(K:Sl→Prop):jdk i L K=K (purge i L):=by
 induction L generalizing K with
 | nil=>rfl
 | cons x L ih=>
  obtain⟨t,d⟩:=x
  simp only[jdk,purge]
  cases D.free i d<;>simp[ih]
def jcB (i:Nat):List D→List D
 | []=>[]
 | d::ds=>(match D.free i d with|true=>d|false => .any)::jcB i ds
def jcP (i:Nat):List D→(List D→Prop)→Prop
 | [],K=>K []
 | d::ds,K=>match D.free i d with
  | true=>jcP i ds fun ds'=>K (d::ds')
  | false=>jcP i ds fun ds'=>K (.any::ds')
theorem jf9 (i:Nat)(ds:List D)(K:List D→Prop):jcP i ds K=K (jcB i ds):=by
 induction ds generalizing K with
 | nil=>rfl
 | cons d ds ih=>
  simp only[jcP,jcB]
  cases D.free i d<;>simp[ih]
def jbO (i:Nat):Chunk→Chunk
 | .box ds => .box (jcB i ds)
 | .arr k xs => .arr k xs
 | .gone => .gone
 | .lp p => .lp p
 | .mp p => .mp p
theorem jbc (i:Nat)(c:Chunk):(jbO i c).live=c.live:=by cases c<;>rfl
def jaK (i:Nat):Hp→Hp
 | []=>[]
 | (j,c)::H=>(j,jbO i c)::jaK i H
def jbu (i:Nat):Hp→(Hp→Prop)→Prop
 | [],K=>K []
 | (j,c)::H,K=>match c with
  | .box ds=>jcP i ds fun ds'=>jbu i H fun H'=>K ((j,.box ds')::H')
  | .arr k xs=>jbu i H fun H'=>K ((j,.arr k xs)::H')
  | .gone=>jbu i H fun H'=>K ((j,.gone)::H')
  | .lp p=>jbu i H fun H'=>K ((j,.lp p)::H')
  | .mp p=>jbu i H fun H'=>K ((j,.mp p)::H')
theorem jcn (i:Nat)(H:Hp)(K:Hp→Prop):jbu i H K=K (jaK i H):=by
 induction H generalizing K with
 | nil=>rfl
 | cons x L ih=>
  obtain⟨t,d⟩:=x
  cases d<;>simp[jbu,jaK,jbO,jf9,ih]
theorem jbT {i:Nat}{L:Sl}{t:Nat}{E E':Env}{h:Pub}{v:Value}(he:E.off E' i)(H:Den E h (look L t) v):Den E' h (look (purge i L) t) v:=by
 induction L with
 | nil=>simp[purge,look,Den]
 | cons x L ih=>
  obtain⟨s,d⟩:=x
  simp only[purge]
  rw[jav] at H ⊢
  split
  ·rename_i hs
   rw[if_pos hs] at H
   cases hf:D.free i d with
   | true=>exact Den.env he hf H
   | false=>simp[Den]
  ·rename_i hs
   rw[if_neg hs] at H
   exact ih H
theorem jbd {i:Nat}{H:Hp}{j:Nat}{c:Chunk}(h:lookH (jaK i H) j=some c):∃ c0,lookH H j=some c0∧c=jbO i c0:=by
 induction H with
 | nil=>simp[jaK,lookH] at h
 | cons x H ih=>
  obtain⟨s,d⟩:=x
  simp only[jaK] at h
  rw[jai] at h ⊢
  split
  ·rename_i hs
   rw[if_pos hs] at h
   exact⟨d,rfl,(Option.some.inj h).symm⟩
  ·rename_i hs
   rw[if_neg hs] at h
   exact ih h
theorem jeP {E E':Env}{h:Pub}{i:Nat}(he:E.off E' i):∀ {ds:List D} {vs:List Value},DenL E h ds vs→DenL E' h (jcB i ds) vs
 | [],_,H=>by simpa [DenL,jcB] using H
 | d::ds,vs,H=>by
  simp only[DenL,jcB] at H ⊢
  obtain⟨v,vs',h1,h2,h3⟩:=H
  refine⟨v,vs',h1,?_,jeP he h3⟩
  cases hf:D.free i d with
  | true=>exact Den.env he hf h2
  | false=>simp[Den]
theorem ChunkOk.env {E E':Env}{h:Pub}{w:World}{i j:Nat}{c:Chunk}(he:E.off E' i)(hj:j≠i)(H:ChunkOk E h w j c):ChunkOk E' h w j (jbO i c):=by
 cases c with
 | gone=>trivial
 | box ds=>
  obtain⟨h0,vs,rest,T,h1,h2,h3,h4⟩:=H
  exact⟨by rw[(he j hj).2.2.2.1];exact h0,vs,rest,T,by rw[(he j hj).1];exact h1,jeP he h2,h3,by rw[(he j hj).2.1];exact h4⟩
 | arr k xs=>
  simp only[ChunkOk,jbO] at H ⊢
  rw[(he j hj).1,(he j hj).2.1,(he j hj).2.2.1,(he j hj).2.2.2.1];exact H
 | lp p=>
  simp only[ChunkOk,jbO] at H ⊢
  rw[(he j hj).1,(he j hj).2.2.2.1,(he j hj).2.2.2.2];exact H
 | mp p=>
  simp only[ChunkOk,jbO] at H ⊢
  rw[(he j hj).1,(he j hj).2.2.2.1];exact H
theorem ChunkOk.heap {E:Env}{h:Pub}{w w':World}{j:Nat}{c:Chunk}(hb:w'.heap[E.blk j]? = w.heap[E.blk j]?)(H:ChunkOk E h w j c):ChunkOk E h w' j c:=by
 cases c with
 | gone=>trivial
 | box ds=>
  obtain⟨h0,vs,rest,T,h1,h2,h3⟩:=H
  exact⟨h0,vs,rest,T,by rw[hb];exact h1,h2,h3⟩
 | arr k xs=>
  simp only[ChunkOk] at H ⊢
  rw[hb];exact H
 | lp p=>
  simp only[ChunkOk] at H ⊢
  rw[hb];exact H
 | mp p=>
  simp only[ChunkOk] at H ⊢
  rw[hb];exact H
theorem ChunkOk.virt {E:Env}{h:Pub}{w w':World}{j:Nat}{c:Chunk}(hr:E.real j=false)(H:ChunkOk E h w j c):ChunkOk E h w' j c:=by
 cases c with
 | gone=>trivial
 | box ds=>exact absurd H.1 (by rw[hr];decide)
 | arr k xs=>
  rcases H with H|H
  ·exact .inl H
  ·exact absurd H.1 (by rw[hr];decide)
 | lp p=>exact absurd H.1 (by rw[hr];decide)
 | mp p=>exact absurd H.1 (by rw[hr];decide)
theorem ChunkOk.keep {E:Env}{h:Pub}{w w':World}{j:Nat}{c:Chunk}(hb:c.live=true→E.real j=true→w'.heap[E.blk j]? = w.heap[E.blk j]?)(H:ChunkOk E h w j c):ChunkOk E h w' j c:=by
 cases hl:c.live with
 | false=>cases c<;>first|trivial|simp[Chunk.live] at hl
 | true=>
  cases hr:E.real j with
  | false=>exact H.virt hr
  | true=>exact H.heap (hb hl hr)
theorem ChunkOk.mono {E:Env}{h h':Pub}{w:World}{j:Nat}{c:Chunk}(hh:h.Le h')(H:ChunkOk E h w j c):ChunkOk E h' w j c:=by
 cases c with
 | gone=>trivial
 | box ds=>
  obtain⟨h0,vs,rest,T,h1,h2,h3⟩:=H
  exact⟨h0,vs,rest,T,h1,DenL.mono hh h2,h3⟩
 | arr k xs=>exact H
 | lp p=>exact H
 | mp p=>
  obtain⟨h0,l,ck,h1,h2⟩:=H
  exact⟨h0,l,ck,h1,h2.mono hh⟩
theorem ChunkOk.lt {E:Env}{h:Pub}{w:World}{j:Nat}{c:Chunk}(hl:c.live=true)(hr:E.real j=true)(H:ChunkOk E h w j c):E.blk j<w.heap.size:=by
 cases c with
 | gone=>simp[Chunk.live] at hl
 | box ds=>obtain⟨_,vs,rest,T,h1,_⟩:=H;exact(Array.getElem?_eq_some_iff.1 h1).1
 | arr k xs=>obtain⟨r,T,h1,_⟩:=jaT hr H;exact(Array.getElem?_eq_some_iff.1 h1).1
 | lp p=>obtain⟨_,r,_,h1⟩:=H;exact(Array.getElem?_eq_some_iff.1 h1).1
 | mp p=>obtain⟨_,l,ck,h1,_⟩:=H;exact(Array.getElem?_eq_some_iff.1 h1).1
theorem ChunkOk.cells {E:Env}{h:Pub}{w:World}{j:Nat}{c:Chunk}(hl:c.cel=true)(hr:E.real j=true)(H:ChunkOk E h w j c):∃ cs T f,w.heap[E.blk j]? = some (.cells cs T f):=by
 cases c with
 | gone=>simp[Chunk.cel] at hl
 | lp p=>simp[Chunk.cel] at hl
 | mp p=>simp[Chunk.cel] at hl
 | box ds=>obtain⟨_,vs,rest,T,h1,_⟩:=H;exact⟨_,_,_,h1⟩
 | arr k xs=>obtain⟨r,T,h1,_⟩:=jaT hr H;exact⟨_,_,_,h1⟩
theorem Agree.lt {h:Pub}{w:World}(ha:Agree h w){b o:Nat}{v:Value}(hv:h b o=some v):b<w.heap.size:=
 World.block_lt_of_cell? (w:=w) (a:=⟨b,o,none⟩) (ha b o v hv)
section
variable {cx : Cx} {E : Env} {h : Pub} {a : Act} {w : World} {L : Sl} {H : Hp}
theorem jfe {cx:Cx}{E E':Env}{i:Nat}(hl:∀ j,j<cx.off→E.blk j=cx.E0.blk j∧E.siz j=cx.E0.siz j∧E.kn j=cx.E0.kn j∧E.real j=cx.E0.real j∧E.lpr j=cx.E0.lpr j)(he:E.off E' i)(ho:cx.off≤i) :
  ∀ j,j<cx.off→E'.blk j=cx.E0.blk j∧E'.siz j=cx.E0.siz j∧E'.kn j=cx.E0.kn j∧E'.real j=cx.E0.real j∧E'.lpr j=cx.E0.lpr j:=fun j hj=>by
 obtain⟨h1,h2,h3,h4,h5⟩:=he j (by omega)
 rw[h1,h2,h3,h4,h5];exact hl j hj
theorem Sat.facts (S:Sat cx E h a w L H):Facts E h a w L H:=⟨S.knows,fun i c hc=>S.mem.ok i c hc,S.agree⟩
theorem jcr (a:Act)(d t:Nat)(v:Value):(a.put (some d) v).tmps.getD t Go.undef=if d=t∧d<a.tmps.size then v else a.tmps.getD t Go.undef:=by
 simp only[Act.put,Array.getD_eq_getD_getElem?,Array.getElem?_setIfInBounds]
 by_cases h:d=t
 ·subst h
  by_cases h2:d<a.tmps.size
  ·simp[h2]
  ·simp[h2]
 ·simp[h]
theorem jcg {E:Env}{h:Pub}{a:Act}{L:Sl}(hk:∀ t,Den E h (look L t) (a.tmps.getD t Go.undef)){d:Nat}{r:D}{v:Value}(hd:d<a.tmps.size)(hv:Den E h r v) :
  ∀ t,Den E h (look ((d,r)::L) t) ((a.put (some d) v).tmps.getD t Go.undef):=by
 intro t
 rw[jav,jcr]
 by_cases e:d=t
 ·rw[if_pos e,if_pos ⟨e,hd⟩];exact hv
 ·rw[if_neg e,if_neg (fun x=>e x.1)];exact hk t
theorem Sat.put (S : Sat cx E h a w L H) {d : Nat} {r : D} {v : Value} (hd : d < a.tmps.size) (hv : Den E h r v) : Sat cx E h (a.put (some d) v) w ((d, r) :: L) H :=
  { knows := jcg S.knows hd hv
    mem := S.mem, agree := S.agree, since := S.since, low := S.low, side := S.side }
theorem Agree.of_blocks {h:Pub}{w w':World}(ha:Agree h w)(hb:∀ b,(∃ o v,h b o=some v)→w'.heap[b]? = w.heap[b]?):Agree h w':=⟨fun b o v hv=>by
 rw[World.cell?_of_block (w:=w) (hb b ⟨o,v,hv⟩)];exact ha b o v hv,ha.glob,⟨fun g vs hg=>by
 obtain⟨h1,T,f,h2⟩:=ha.blk.1 g vs hg
 obtain⟨v,hv⟩:∃ v,vs[0]? = some v:=by cases vs with|nil=>exact absurd rfl h1|cons v r=>exact⟨v,rfl⟩
 exact⟨h1,T,f,(hb g ⟨0,v,ha.glob g vs hg 0 v hv⟩).trans h2⟩,fun g hg=>by
 obtain⟨tp,p,T,f,h2⟩:=ha.blk.2 g hg
 obtain⟨v,hv⟩:=ha.errs g hg
 exact⟨tp,p,T,f,(hb g ⟨0,v,hv⟩).trans h2⟩⟩,ha.errs⟩
theorem Sat.world (S : Sat cx E h a w L H) {w' : World} (hb : Below w.heap.size w w') : Sat cx E h a w' L H :=
  { knows := S.knows
    mem :=
      { ok := fun i c hc => (S.mem.ok i c hc).keep fun hl hr => hb.block _ ((S.mem.ok i c hc).lt hl hr)
        base := S.mem.base, unpub := S.mem.unpub, inj := S.mem.inj }
    agree := S.agree.of_blocks fun b ⟨_, _, hv⟩ => hb.block b (S.agree.lt hv)
    since := ⟨S.since.below.trans (hb.mono S.since.below.size), S.since.le, S.since.old⟩
    low := S.low
    side := S.side.below hb }
theorem Sat.alloc (S:Sat cx E h a w L H){i:Nat}{r:D}{c:Chunk}{v:Value}{w':World}{s n:Nat}
  (hb:Below w.heap.size w w')
  (hc:ChunkOk (E.set i w.heap.size s n) h w' i c) {d:Nat} (hi:d<a.tmps.size) (ho:cx.off≤i) (hv:Den (E.set i w.heap.size s n) h r v) :
  Sat cx (E.set i w.heap.size s n) h (a.put (some d) v) w' ((d,r)::purge i L) ((i,c)::jaK i H):=by
 have hoff:=E.off_set i w.heap.size s n
 have hsz:cx.w0.heap.size≤w.heap.size:=S.since.below.size
 have live:∀ j c',j≠i→lookH ((i,c)::jaK i H) j=some c'→c'.live=true → ∃ c0,lookH H j=some c0∧c'=jbO i c0∧c0.live=true:=by
  intro j c' hj hc' hl
  rw[jai,if_neg (Ne.symm hj)] at hc'
  obtain⟨c0,h1,h2⟩:=jbd hc'
  exact⟨c0,h1,h2,by rw[h2,jbc] at hl;exact hl⟩
 refine { knows:=?_,mem:=?_,agree:=?_,since:=?_,low:=fun j hj=>jfe S.low hoff ho j hj,side:=S.side.below hb }
 ·exact jcg (fun t=>jbT hoff (S.knows t)) hi hv
 ·refine { ok:=?_,base:=?_,unpub:=?_,inj:=?_ }
  ·intro j c' hc'
   by_cases hj:j=i
   ·subst hj;rw[jai,if_pos rfl] at hc';cases hc';exact hc
   ·cases hl:c'.live with
    | false=>cases c'<;>first|trivial|(simp[Chunk.live] at hl)
    | true=>
     obtain⟨c0,h1,rfl,hl'⟩:=live j c' hj hc' hl
     have h4:=S.mem.ok j _ h1
     refine ChunkOk.env hoff hj (h4.keep fun hl hr=>hb.block _ (h4.lt hl hr))
  ·intro j c' hc' hl hr
   by_cases hj:j=i
   ·subst hj;rw[Env.set_blk];exact hsz
   ·obtain⟨c0,h1,rfl,hl'⟩:=live j c' hj hc' hl
    rw[E.set_real_ne _ _ _ hj] at hr
    rw[E.set_blk_ne _ _ _ hj];exact S.mem.base j _ h1 hl' hr
  ·intro j c' hc' hl hr o
   by_cases hj:j=i
   ·subst hj
    rw[Env.set_blk]
    cases ho:h w.heap.size o with
    | none=>rfl
    | some v'=>exact absurd (S.agree.lt ho) (Nat.lt_irrefl _)
   ·obtain⟨c0,h1,rfl,hl'⟩:=live j c' hj hc' hl
    rw[E.set_real_ne _ _ _ hj] at hr
    rw[E.set_blk_ne _ _ _ hj];exact S.mem.unpub j _ h1 hl' hr o
  ·intro j k c1 c2 hjk h1 h2 l1 l2 r1 r2
   by_cases hj:j=i
   ·subst hj
    obtain⟨c0,g1,rfl,l2'⟩:=live k c2 (Ne.symm hjk) h2 l2
    rw[E.set_real_ne _ _ _ (Ne.symm hjk)] at r2
    rw[Env.set_blk,E.set_blk_ne _ _ _ (Ne.symm hjk)]
    have:=(S.mem.ok k _ g1).lt l2' r2
    omega
   ·obtain⟨c0,g1,rfl,l1'⟩:=live j c1 hj h1 l1
    by_cases hk:k=i
    ·subst hk
     rw[E.set_real_ne _ _ _ hj] at r1
     rw[Env.set_blk,E.set_blk_ne _ _ _ hj]
     have:=(S.mem.ok j _ g1).lt l1' r1
     omega
    ·obtain⟨c0',g2,rfl,l2'⟩:=live k c2 hk h2 l2
     rw[E.set_real_ne _ _ _ hj] at r1
     rw[E.set_real_ne _ _ _ hk] at r2
     rw[E.set_blk_ne _ _ _ hj,E.set_blk_ne _ _ _ hk]
     exact S.mem.inj j k _ _ hjk g1 g2 l1' l2' r1 r2
 ·exact S.agree.of_blocks fun b ⟨_,_,hv⟩=>hb.block b (S.agree.lt hv)
 ·exact⟨S.since.below.trans (hb.mono S.since.below.size),S.since.le,S.since.old⟩
theorem Sat.write (S:Sat cx E h a w L H){i:Nat}{c c':Chunk}{w':World}(hc:lookH H i=some c)(hl:c.live=true)(hr:E.real i=true)
  (ho:w'.os=w.os) (ht:w'.tape=w.tape) (hout:w'.output=w.output) (hsz:w'.heap.size=w.heap.size) (hb:∀ b,b≠E.blk i→w'.heap[b]? = w.heap[b]?)
  (hc':ChunkOk E h w' i c') (hcel:c.cel=true:=by rfl):Sat cx E h a w' L ((i,c')::H):=by
 have hbase:=S.mem.base i c hc hl hr
 refine { knows:=S.knows,mem:=?_,agree:=?_,since:=?_,low:=S.low,side:=S.side.keep fun b o hbo hno=>?_ }
 ·refine { ok:=?_,base:=?_,unpub:=?_,inj:=?_ }
  ·intro j d hd
   rw[jai] at hd
   split at hd
   ·rename_i e;subst e;cases hd;exact hc'
   ·rename_i e
    exact(S.mem.ok j d hd).keep fun hld hrd=>hb _ (S.mem.inj j i d c (Ne.symm e) hd hc hld hl hrd hr)
  ·intro j d hd hld hrd
   rw[jai] at hd
   split at hd
   ·rename_i e;subst e;exact hbase
   ·exact S.mem.base j d hd hld hrd
  ·intro j d hd hld hrd o
   rw[jai] at hd
   split at hd
   ·rename_i e;subst e;exact S.mem.unpub i c hc hl hr o
   ·exact S.mem.unpub j d hd hld hrd o
  ·intro j k c1 c2 hjk h1 h2 l1 l2 r1 r2
   rw[jai] at h1 h2
   split at h1
   ·rename_i e;subst e
    rw[if_neg hjk] at h2
    exact S.mem.inj i k c c2 hjk hc h2 hl l2 r1 r2
   ·split at h2
    ·rename_i e;subst e
     exact S.mem.inj j i c1 c hjk h1 hc l1 hl r1 r2
    ·exact S.mem.inj j k c1 c2 hjk h1 h2 l1 l2 r1 r2
 ·refine S.agree.of_blocks fun b ⟨o,v,hv⟩=>hb b (fun e=>?_)
  subst e
  rw[S.mem.unpub i c hc hl hr o] at hv;cases hv
 ·refine⟨S.since.below.trans ⟨ho,ht,hout,by omega,fun k hk=>hb k (by omega)⟩,S.since.le,S.since.old⟩
 ·rw[hb b (fun e=>?_)]
  ·exact hbo
  ·subst e
   obtain⟨cs,T,f,hcell⟩:=(S.mem.ok i c hc).cells hcel hr
   rw[hcell] at hbo;cases hbo;cases hno
end
end Go.V
end
