/- Laws of a small interpreter over plain values, part 2. No condition. -/
import Derived.Test.YtbnghipgicmpdaaGreatDoorSimplexBandsH1
set_option linter.unusedSimpArgs false
set_option linter.unusedVariables false
set_option maxHeartbeats 8000000
set_option maxRecDepth 100000
section
namespace Go.V
open Go Go.RowKit
def rdsK (g:Prop)(L:Sl):List Operand→(List D→Prop)→Prop
 | [],K=>K []
 | x::xs,K=>rdg g L x fun d=>rdsK g L xs fun ds=>K (d::ds)
theorem jdk {g:Prop}{L:Sl}{xs:List Operand}{K:List D→Prop}(hh:rdsK g L xs K) :
  ∃ ds,K ds∧ds.length=xs.length ∧ ∀ E h (a:Act),(∀ x,Den E h (rd L x) (a.eval x))→g→DenL E h ds (xs.map a.eval):=by
 induction xs generalizing K with
 | nil=>exact⟨[],hh,rfl,fun E h a _ _=>by simp[DenL]⟩
 | cons x xs ih=>
  obtain⟨d,hh,hd⟩:=jat hh
  obtain⟨ds,hh,hl,hds⟩:=ih hh
  exact⟨d::ds,hh,by simp[hl],fun E h a hk hg=>by simp only[DenL,List.map_cons];exact⟨_,_,rfl,hd E h a hg (hk x),hds E h a hk hg⟩⟩
def pickK (g:Prop)(L:Sl)(c x y:Operand)(K:D→Prop):Prop:=rdg g L c fun dc=>match dc with
 | .bool b=>rdK L x fun dx=>rdK L y fun dy=>match dx,dy with
  | .bool true,.gd c2 (.bool q)=>(g→b=false→c2=true)∧K (.bool (b || q))
  | .gd c2 (.bool q),.bool false=>(g→b=true→c2=true)∧K (.bool (b && q))
  | .bool p,.bool q=>K (.bool ((b && p) || (!b && q)))
  | _,_=>False
 | _=>False
theorem pick_el {g:Prop}{L:Sl}{c x y:Operand}{K:D→Prop}(hh:pickK g L c x y K) :
  ∃ r,K r ∧ ∀ P E h (a:Act) w,(∀ x,Den E h (rd L x) (a.eval x))→g→Gives P E h (do pure (if ← asBool (a.eval c) then a.eval x else a.eval y)) w r:=by
 obtain⟨dc,hh,hc⟩:=jat hh
 split at hh
 case h_2=>exact hh.elim
 rename_i b
 rw[rdK_eq,rdK_eq] at hh
 split at hh
 ·rename_i c2 q hx hy
  refine⟨_,hh.2,fun P E h a w hk hg=>?_⟩
  have h1:=hc E h a hg (hk c)
  have h2:=hk x;have h3:=hk y
  rw[hx] at h2;rw[hy] at h3
  simp only[Den] at h1 h2 h3
  refine⟨_,by simp[h1,asBool];rfl,?_⟩
  simp only[Den]
  cases b with
  | true=>simp[h2]
  | false=>simp[h3.1 (hh.1 hg rfl)]
 ·rename_i c2 q hx hy
  refine⟨_,hh.2,fun P E h a w hk hg=>?_⟩
  have h1:=hc E h a hg (hk c)
  have h2:=hk x;have h3:=hk y
  rw[hx] at h2;rw[hy] at h3
  simp only[Den] at h1 h2 h3
  refine⟨_,by simp[h1,asBool];rfl,?_⟩
  simp only[Den]
  cases b with
  | true=>simp[h2.1 (hh.1 hg rfl)]
  | false=>simp[h3]
 ·rename_i p q hx hy
  refine⟨_,hh,fun P E h a w hk hg=>?_⟩
  have h1:=hc E h a hg (hk c)
  have h2:=hk x;have h3:=hk y
  rw[hx] at h2;rw[hy] at h3
  simp only[Den] at h1 h2 h3
  refine⟨_,by simp[h1,asBool];rfl,?_⟩
  simp only[Den]
  cases b with
  | true=>simp[h2]
  | false=>simp[h3]
 ·exact hh.elim
def unK (g:Prop)(op:UnOp)(d:D)(K:D→Prop):Prop:=match op,d with
 | .not,.bool b=>K (.bool (!b))
 | .neg,.int k n=>((g→InR k n→InR k (0-n))∧K (.int k (0-n)))∨K (.int k (k.wrap (-n)))
 | _,_=>False
theorem un_el {g:Prop}{op:UnOp}{d:D}{K:D→Prop}(hh:unK g op d K) :
  ∃ r,K r ∧ ∀ P E h w v,Den E h d v→g→Gives P E h (Op.unary op v) w r:=by
 unfold unK at hh
 split at hh
 ·refine⟨_,hh,fun P E h w v hv hg=>?_⟩
  simp only[Den] at hv;subst hv
  exact⟨_,by simp[Op.unary];rfl,by simp only[Den]⟩
 ·rcases hh with hh|hh
  case inr=>
   refine⟨_,hh,fun P E h w v hv hg=>?_⟩
   simp only[Den] at hv;obtain⟨rfl,hn⟩:=hv
   exact⟨_,by simp[Op.unary,Op.intArith];rfl,by simp only[Den];exact⟨trivial,jb3 _ _⟩⟩
  refine⟨_,hh.2,fun P E h w v hv hg=>?_⟩
  simp only[Den] at hv;obtain⟨rfl,hn⟩:=hv
  exact⟨_,by simp[Op.unary,Op.intArith];rfl,by rw[show -_=0-_ from (Int.zero_sub _).symm,jbX (hh.1 hg hn)];simp only[Den];exact⟨trivial,hh.1 hg hn⟩⟩
 ·exact hh.elim
def convK (tb:Tb)(g:Prop)(H:Hp)(s t:Nat)(d:D)(K:D→Prop):Prop:=tyK tb s fun ys=>tyK tb t fun yt=>match yt.kind with
 | .int k=>match d with
  | .int k' n=>((g→InR k' n→InR k n)∧K (.int k n))∨K (.int k (k.wrap n))
  | _=>False
 | .str=>match d with
  | .str b=>K (.str b)
  | .ints .u8 xs=>match ys.kind with
   | .slice e=>tyK tb e fun ye=>match ye.kind with
    | .int .u8=>K (.str (xs.map fun n=>UInt8.ofNat n.toNat))
    | _=>False
   | _=>False
  | .osl i 0 len=>match ys.kind with
   | .slice e=>tyK tb e fun ye=>match ye.kind with
    | .int .u8=>jaU H i fun c=>match c with
     | .arr .u8 xs=>(g→xs.length=len)∧K (.str (xs.map fun n=>UInt8.ofNat n.toNat))
     | _=>False
    | _=>False
   | _=>False
  | _=>False
 | _=>False
theorem jgg (xs:List Int):∀ (b:ByteArray),(xs.foldl (fun (r:ByteArray) n=>r.push (UInt8.ofNat n.toNat)) b).data.toList=b.data.toList++xs.map fun n=>UInt8.ofNat n.toNat:=by
 induction xs with
 | nil=>simp
 | cons x xs ih=>intro b;simp only[List.foldl_cons,List.map_cons];rw[ih];simp[ByteArray.push]
theorem und_some {P:Program}{t:Nat}{y:Ty}(h:TyOk P t y):∃ d,P.underlying t=some d:=by
 have:=h.und
 cases hk:y.kind<;>rw[hk] at this<;>simp only at this
 case struct fs=>obtain⟨f,h1,_⟩:=this;exact⟨_,h1⟩
 case func=>obtain⟨a,b,c,h1⟩:=this;exact⟨_,h1⟩
 case other=>obtain⟨d,h1,_⟩:=this;exact⟨_,h1⟩
 all_goals exact⟨_,this⟩
theorem conv_el {P:Program}{tb:Tb}(htb:TbOk P tb){g:Prop}{H:Hp}{s t:Nat}{d:D}{K:D→Prop}(hh:convK tb g H s t d K) :
  ∃ r,K r ∧ ∀ E h a w L,Facts E h a w L H → ∀ v,Den E h d v→g→Gives P E h (convert s t v) w r:=by
 have hx:=jak hh;clear hh;obtain⟨ys,hys,hh⟩:=hx
 have hx:=jak hh;clear hh;obtain⟨yt,hyt,hh⟩:=hx
 have hts:=htb _ _ hys
 have htt:=htb _ _ hyt
 split at hh
 ·rename_i k hk
  have hu:=jdT htt hk
  obtain⟨ds,hds⟩:=und_some hts
  split at hh
  ·rcases hh with hh|hh
   case inr=>
    refine⟨_,hh,fun E h a w L F v hv hg=>?_⟩
    simp only[Den] at hv;obtain⟨rfl,hn⟩:=hv
    refine⟨_,by simp[convert,run_underlying hu,run_underlying hds,Conv.intToInt];rfl,?_⟩
    simp only[Den];exact⟨trivial,jb3 _ _⟩
   refine⟨_,hh.2,fun E h a w L F v hv hg=>?_⟩
   simp only[Den] at hv;obtain⟨rfl,hn⟩:=hv
   refine⟨_,by simp[convert,run_underlying hu,run_underlying hds,Conv.intToInt];rfl,?_⟩
   rw[jbX (hh.1 hg hn)];simp only[Den];exact⟨trivial,hh.1 hg hn⟩
  ·exact hh.elim
 ·rename_i hk
  have hu:=jeK htt hk
  split at hh
  ·obtain⟨ds,hds⟩:=und_some hts
   refine⟨_,hh,fun E h a w L F v hv hg=>?_⟩
   have hv':=hv
   simp only[Den] at hv;obtain⟨rfl,_⟩:=hv
   exact⟨_,by simp[convert,run_underlying hu,run_underlying hds],hv'⟩
  ·rename_i xs
   split at hh
   case h_2=>exact hh.elim
   rename_i e hks
   have hs:=jaw hts hks
   have hx:=jak hh;clear hh;obtain⟨ye,hye,hh⟩:=hx
   split at hh
   case h_2=>exact hh.elim
   rename_i hke
   have he:=jdT (htb _ _ hye) hke
   refine⟨_,hh,fun E h a w L F v hv hg=>?_⟩
   simp only[Den,jaQ] at hv
   obtain⟨ad,cap,rfl,h1,h2,h3,h4⟩:=hv
   cases ad with
   | none=>
    simp only at h4;obtain⟨h4,_⟩:=h4;subst h4
    refine⟨.string ByteArray.empty,?_,by simp only[Den,List.map_nil];exact⟨rfl,Js⟩⟩
    rw[run_convert_bytes_string w s t e _ _ _ hs he hu];simp[Conv.bytesToString]
   | some ad=>
    have hl:=run_loadCells_list (P:=P) w ad (xs.map (Value.int .u8)) (fun j u hu=>by
     rw[jbO h4.1]
     rw[List.getElem?_map] at hu
     cases hx:xs[j]? with
     | none=>rw[hx] at hu;cases hu
     | some n=>rw[hx] at hu;cases hu;exact F.agree _ _ _ (h4.2 j n hx))
    rw[List.length_map] at hl
    refine⟨.string (xs.foldl (fun r n=>r.push (UInt8.ofNat n.toNat)) ByteArray.empty),?_,?_⟩
    ·rw[run_convert_bytes_string w s t e _ _ _ hs he hu];exact run_bytesToString w ad xs.length cap xs hl
    ·simp only[Den]
     refine⟨?_,by simpa using h2⟩
     congr 1
     apply ByteArray.ext
     apply Array.toList_inj.1
     rw[jgg];simp
  ·rename_i i len
   split at hh
   case h_2=>exact hh.elim
   rename_i e hks
   have hs:=jaw hts hks
   have hx:=jak hh;clear hh;obtain⟨ye,hye,hh⟩:=hx
   split at hh
   case h_2=>exact hh.elim
   rename_i hke
   have he:=jdT (htb _ _ hye) hke
   have hx:=jay hh;clear hh;obtain⟨c,hc,hh⟩:=hx
   split at hh
   case h_2=>exact hh.elim
   rename_i xs
   refine⟨_,hh.2,fun E h a w L F v hv hg=>?_⟩
   have hlen:=hh.1 hg
   simp only[Den] at hv
   rcases hv with⟨hreal,rfl,hl0⟩|⟨hreal,o,cap,rfl,h1,h2,h3,h4,_⟩
   ·have hx0:xs=[]:=jj9.1 Jo
    subst hx0
    refine⟨.string ByteArray.empty,?_,by simp only[Den,List.map_nil];exact⟨rfl,Js⟩⟩
    rw[run_convert_bytes_string w s t e _ _ _ hs he hu];simp[Conv.bytesToString]
   obtain⟨rest,T,hb,hsz,hr,hkn⟩:=jbc hreal (F.chunk _ _ hc)
   refine⟨.string (xs.foldl (fun r n=>r.push (UInt8.ofNat n.toNat)) ByteArray.empty),?_,?_⟩
   ·rw[run_convert_bytes_string w s t e _ _ _ hs he hu]
    refine run_bytesToString w _ len cap xs ?_
    rw[← hlen]
    have:=run_loadCells_list (P:=P) w ⟨E.blk i,o,none⟩ (xs.map (Value.int .u8)) (fun j u hu=>by
     rw[jaO]
     have hj:j<xs.length:=by simpa using (jkh.1 hu).1
     rcases h4 with rfl|h4
     ·rw[jjC]
      refine jcd hb ?_
      rw[jkg (by simpa using hj)];exact hu
     ·omega)
    simpa using this
   ·simp only[Den]
    refine⟨?_,by simp;omega⟩
    congr 1
    apply ByteArray.ext
    apply Array.toList_inj.1
    rw[jgg];simp
  ·exact hh.elim
 ·exact hh.elim
def jgU (mx:Bool)(ds:List D)(K:D→Prop):Prop:=match ds with
 | [.int k m,.int k' n]=>match kE k k' with
  | true=>match mx with|true=>K (.int k (max m n))|false=>K (.int k (min m n))
  | false=>False
 | [.int k m,.int k' n,.int k2 p]=>match kE k k' with
  | true=>match kE k k2 with
   | true=>match mx with|true=>K (.int k (max (max m n) p))|false=>K (.int k (min (min m n) p))
   | false=>False
  | false=>False
 | _=>False
theorem jhz {mx:Bool}{ds:List D}{K:D→Prop}(hh:jgU mx ds K) :
  ∃ r,K r ∧ ∀ P E h w vs ats ty,DenL E h ds vs→Gives P E h (match mx with|true=>Builtin.max_ ats ty vs.toArray|false=>Builtin.min_ ats ty vs.toArray) w r:=by
 unfold jgU at hh
 split at hh
 case h_3=>exact hh.elim
 case h_2=>
  rename_i k m k' n k2 p
  cases hk:kE k k' with
  | false=>rw[hk] at hh;exact hh.elim
  | true=>
   rw[hk] at hh
   have:=kE_eq hk;subst this
   dsimp only at hh
   cases hk2:kE k k2 with
   | false=>rw[hk2] at hh;exact hh.elim
   | true=>
    rw[hk2] at hh
    have:=kE_eq hk2;subst this
    cases mx with
    | true=>
     refine⟨_,hh,fun P E h w vs ats ty hv=>?_⟩
     simp only[DenL,Den] at hv
     obtain⟨_,_,rfl,⟨rfl,h1⟩,_,_,rfl,⟨rfl,h2⟩,_,_,rfl,⟨rfl,h3⟩,rfl⟩:=hv
     refine⟨.int k (max (max m n) p),?_,?_⟩
     ·have e1:(if n>m then n else m)=max m n:=by split<;>omega
      have e2:(if p>max m n then p else max m n)=max (max m n) p:=by split<;>omega
      simp[Builtin.max_,Builtin.max2];omega
     ·simp only[Den];refine⟨trivial,?_⟩
      have q:InR k (max m n):=by
       rcases Int.le_total m n with g|g
       ·rw[Int.max_eq_right g];exact h2
       ·rw[Int.max_eq_left g];exact h1
      rcases Int.le_total (max m n) p with g|g
      ·rw[Int.max_eq_right g];exact h3
      ·rw[Int.max_eq_left g];exact q
    | false=>
     refine⟨_,hh,fun P E h w vs ats ty hv=>?_⟩
     simp only[DenL,Den] at hv
     obtain⟨_,_,rfl,⟨rfl,h1⟩,_,_,rfl,⟨rfl,h2⟩,_,_,rfl,⟨rfl,h3⟩,rfl⟩:=hv
     refine⟨.int k (min (min m n) p),?_,?_⟩
     ·simp[Builtin.min_,Builtin.min2];omega
     ·simp only[Den];refine⟨trivial,?_⟩
      have q:InR k (min m n):=by
       rcases Int.le_total m n with g|g
       ·rw[Int.min_eq_left g];exact h1
       ·rw[Int.min_eq_right g];exact h2
      rcases Int.le_total (min m n) p with g|g
      ·rw[Int.min_eq_left g];exact q
      ·rw[Int.min_eq_right g];exact h3
 rename_i k m k' n
 cases hk:kE k k' with
 | false=>rw[hk] at hh;exact hh.elim
 | true=>
  rw[hk] at hh
  have:=kE_eq hk;subst this
  cases mx with
  | true=>
   refine⟨_,hh,fun P E h w vs ats ty hv=>?_⟩
   simp only[DenL,Den] at hv
   obtain⟨_,_,rfl,⟨rfl,h1⟩,_,_,rfl,⟨rfl,h2⟩,rfl⟩:=hv
   have e:(if n>m then n else m)=max m n:=by split<;>omega
   refine⟨.int k (max m n),?_,?_⟩
   ·simp[Builtin.max_,Builtin.max2];omega
   ·simp only[Den];refine⟨trivial,?_⟩
    rcases Int.le_total m n with h3|h3
    ·rw[Int.max_eq_right h3];exact h2
    ·rw[Int.max_eq_left h3];exact h1
  | false=>
   refine⟨_,hh,fun P E h w vs ats ty hv=>?_⟩
   simp only[DenL,Den] at hv
   obtain⟨_,_,rfl,⟨rfl,h1⟩,_,_,rfl,⟨rfl,h2⟩,rfl⟩:=hv
   refine⟨.int k (min m n),?_,?_⟩
   ·simp[Builtin.min_,Builtin.min2];omega
   ·simp only[Den];refine⟨trivial,?_⟩
    rcases Int.le_total m n with h3|h3
    ·rw[Int.min_eq_left h3];exact h1
    ·rw[Int.min_eq_right h3];exact h2
def jeL:D→Bool
 | .fn _ _ _ | .box _ _ | .ref _=>true
 | _=>false
theorem jig {P:Program}{E:Env}{h:Pub}{d:D}{v:Value}{w:World}(hd:jeL d=true)(hv:Den E h d v)(o:Oper)(x:Operand)(ho:o.op = .nilCheck x)(ρ:Operand→Value)(hx:ρ x=v) :
  (execOp ρ o).run P w = .ok (.value v) w:=by
 cases d<;>simp only[jeL] at hd<;>first|exact absurd hd Jd|skip
 ·simp only[Den] at hv
  obtain⟨us,vs,rfl,_⟩:=hv
  simp[execOp,ho,hx]
 ·simp only[Den] at hv
  obtain⟨b,o',rfl,_⟩:=hv
  simp[execOp,ho,hx]
 ·simp only[Den] at hv
  obtain⟨rfl,_⟩:=hv
  simp[execOp,ho,hx]
def ifcK (tb:Tb)(t:Nat)(d:D)(K:D→Prop):Prop:=tyK tb t fun y=>match y.kind with
 | .int _=>match d with
  | .int k n=>K (.val (.iface t (.int k n)))
  | _=>False
 | .struct _=>match d with
  | .agg ds=>match ds with
   | [d]=>match d with
    | .int k n=>K (.val (.iface t (.agg #[.int k n])))
    | _=>False
   | _=>False
  | _=>False
 | _=>False
theorem ifc_el {P:Program}{tb:Tb}(htb:TbOk P tb){t:Nat}{d:D}{K:D→Prop}(hh:ifcK tb t d K) :
  ∃ r,K r ∧ ∀ E h w v,Den E h d v → ∃ u,(Instr.makeInterface t v).run P w = .ok u w∧Den E h r u:=by
 obtain⟨y,hyt,hh⟩:=jak hh
 have hu:=(htb _ _ hyt).und
 split at hh
 ·rename_i k hk
  rw[hk] at hu
  split at hh
  case h_2=>exact hh.elim
  rename_i k n
  refine⟨_,hh,fun E h w v hv=>⟨_,run_makeInterface w t v (by unfold Program.concrete;rw[hu]),?_⟩⟩
  simp only[Den] at hv ⊢
  rw[hv.1]
 ·rename_i fs hk
  rw[hk] at hu
  obtain⟨fields,hu,_⟩:=hu
  split at hh
  case h_2=>exact hh.elim
  split at hh
  case h_2=>exact hh.elim
  split at hh
  case h_2=>exact hh.elim
  rename_i k n
  refine⟨_,hh,fun E h w v hv=>⟨_,run_makeInterface w t v (by unfold Program.concrete;rw[hu]),?_⟩⟩
  simp only[Den,DenL] at hv ⊢
  obtain⟨vs,rfl,⟨u,_,rfl,⟨rfl,_⟩,rfl⟩,_⟩:=hv
  rfl
 ·exact hh.elim
def jh2 (tb:Tb)(g:Prop)(L:Sl)(H:Hp)(t:Nat)(dx:D)(lo hi:Option Operand)(K:D→Prop):Prop:=match dx,lo,hi with
 | .box i 0,none,some b=>tyK tb t fun y=>match y.kind with
  | .arr n e=>tyK tb e fun ye=>match Nat.beq ye.size 1,Nat.ble n 1000000 with
   | true,true=>jaU H i fun c=>match c with
    | .arr _ xs=>rdg g L b fun r=>match r with
     | .int _ m=>(g→(0≤m∧m≤n)∧n≤xs.length)∧K (.bsl i 0 m.toNat 1)
     | _=>False
    | _=>False
   | _,_=>False
  | _=>False
 | .bsl i off len es,none,some b=>tyK tb t fun y=>match y.kind with
  | .slice e=>tyK tb e fun ye=>match Nat.beq ye.size es with
   | true=>jaU H i fun c=>match c with
    | .box ds=>match Nat.ble (off+len*es) ds.length with
     | true=>rdg g L b fun r=>match r with
      | .int _ n=>(g→0≤n∧n≤len)∧K (.bsl i off n.toNat es)
      | _=>False
     | false=>False
    | _=>False
   | false=>False
  | _=>False
 | .bsl i off len es,some b,none=>tyK tb t fun y=>match y.kind with
  | .slice e=>tyK tb e fun ye=>match Nat.beq ye.size es with
   | true=>rdg g L b fun r=>match r with
    | .int _ n=>(g→0≤n∧n<len)∧K (.bsl i (off+n.toNat*es) (len-n.toNat) es)
    | _=>False
   | false=>False
  | _=>False
 | _,_,_=>sliceK tb g L t dx lo hi K
theorem sliceH_el {P:Program}{tb:Tb}(htb:TbOk P tb){g:Prop}{L:Sl}{H:Hp}{t:Nat}{dx:D}{lo hi:Option Operand}{K:D→Prop}(hh:jh2 tb g L H t dx lo hi K) :
  ∃ r,K r ∧ ∀ E h (a:Act) w v,Facts E h a w L H→Den E h dx v→g→Gives P E h (Instr.sliceAt t v (lo.map a.eval) (hi.map a.eval) none) w r:=by
 unfold jh2 at hh
 split at hh
 ·rename_i i b
  have hx:=jak hh;clear hh;obtain⟨y,hy,hh⟩:=hx
  have hty:=htb _ _ hy
  split at hh
  case h_2=>exact hh.elim
  rename_i n e hk
  have hu:=jcD hty hk
  have hx:=jak hh;clear hh;obtain⟨ye,hye,hh⟩:=hx
  have hte:=htb _ _ hye
  split at hh
  case h_2=>exact hh.elim
  rename_i hb1 hb2
  have hs1:=jae hb1
  have hn:=jjw hb2
  have hx:=jay hh;clear hh;obtain⟨c,hc,hh⟩:=hx
  split at hh
  case h_2=>exact hh.elim
  rename_i k xs
  obtain⟨m,hm,he⟩:=jaW hh
  refine⟨_,hm.2,fun E h a w v F hv hg=>?_⟩
  obtain⟨⟨h1,h2⟩,h3⟩:=hm.1 hg
  obtain⟨k',hk'⟩:=he E h a hg (F.rd b)
  simp only[Den] at hv
  obtain⟨rfl,hr⟩:=hv
  have hok:=F.chunk _ _ hc
  simp only[ChunkOk] at hok
  rcases hok with⟨hr0,_⟩|⟨_,rest,T,_,hsz,_,_⟩
  ·rw[hr] at hr0
   cases hr0
  ·have hb:(Instr.sliceBounds false n n none (some (.int k' m)) none).run P w = .ok (0,m.toNat,n) w:=by
    have b1:=run_sliceBound (P:=P) w k' m n .sliceAlen h1 h2
    simp[Instr.sliceBounds,b1]
   refine⟨.slice (some ⟨E.blk i,0,none⟩) m.toNat n,?_,?_⟩
   ·simp only[Option.map_none,Option.map_some,hk',Instr.sliceAt,Sem.run_bind,run_underlying hu,Result.andThen_ok,Instr.sureAddr,Sem.run_pure,hb,hte.sizeOf w]
    simp[Addr.add]
   ·simp only[Den]
    exact⟨hr,n,rfl,Jo,Jo,.inr (.inr Jo)⟩
 ·rename_i i off len es b
  have hx:=jak hh;clear hh;obtain⟨y,hy,hh⟩:=hx
  have hty:=htb _ _ hy
  split at hh
  case h_2=>exact hh.elim
  rename_i e hk
  have hu:=jaw hty hk
  have hx:=jak hh;clear hh;obtain⟨ye,hye,hh⟩:=hx
  have hte:=htb _ _ hye
  split at hh
  case h_2=>exact hh.elim
  rename_i hb1
  have hs1:=jae hb1
  have hx:=jay hh;clear hh;obtain⟨c,hc,hh⟩:=hx
  split at hh
  case h_2=>exact hh.elim
  rename_i ds
  split at hh
  case h_2=>exact hh.elim
  rename_i hb2
  have hdl:=jjw hb2
  obtain⟨n,hn,he⟩:=jaW hh
  refine⟨_,hn.2,fun E h a w v F hv hg=>?_⟩
  obtain⟨h1,h2⟩:=hn.1 hg
  obtain⟨k',hk'⟩:=he E h a hg (F.rd b)
  simp only[Den] at hv
  obtain⟨hr,cap,rfl,h3,h4,h5⟩:=hv
  obtain⟨_,vs,rest,T,_,hd,_,hsz⟩:=F.chunk _ _ hc
  have hvl:=hd.length
  have hrun:=jba (P:=P) hu hte (some ⟨E.blk i,off,none⟩) (.none 0) (.some k' n len) (Int.le_refl 0) h1 (show n≤(cap:Int) by omega) w
  simp only[Option.map_none,Option.map_some,hk']
  refine⟨_,hrun,?_⟩
  simp only[Den]
  refine⟨hr,cap,?_,Jo,Jo,?_⟩
  ·simp[Addr.add]
  ·rcases h5 with h5|h5|h5
   ·subst h5;exact .inr (.inr Jo)
   ·exact .inr (.inl h5)
   ·exact .inr (.inr h5)
 ·rename_i i off len es b
  have hx:=jak hh;clear hh;obtain⟨y,hy,hh⟩:=hx
  have hty:=htb _ _ hy
  split at hh
  case h_2=>exact hh.elim
  rename_i e hk
  have hu:=jaw hty hk
  have hx:=jak hh;clear hh;obtain⟨ye,hye,hh⟩:=hx
  have hte:=htb _ _ hye
  split at hh
  case h_2=>exact hh.elim
  rename_i hb1
  have hs1:=jae hb1
  obtain⟨n,hn,he⟩:=jaW hh
  refine⟨_,hn.2,fun E h a w v F hv hg=>?_⟩
  obtain⟨h1,h2⟩:=hn.1 hg
  obtain⟨k',hk'⟩:=he E h a hg (F.rd b)
  simp only[Den] at hv
  obtain⟨hr,cap,rfl,h3,h4,h5⟩:=hv
  have hrun:=jba (P:=P) hu hte (some ⟨E.blk i,off,none⟩) (.some k' n 0) (.none len) h1 (show n≤(len:Int) by omega) (show (len:Int)≤(cap:Int) by omega) w
  simp only[Option.map_none,Option.map_some,hk']
  refine⟨_,hrun,?_⟩
  simp only[Den]
  refine⟨hr,cap-n.toNat,?_,Jo,Jo,?_⟩
  ·rw[if_neg Jo,← hs1]
   simp[jaO]
  ·rcases h5 with h5|h5|h5
   ·exact .inl Jo
   ·exact .inr (.inl Jo)
   ·exact .inr (.inr (jjH (Nat.mul_le_mul_right _ (Nat.sub_le _ _)) h5))
 ·obtain⟨r,hK,h⟩:=slice_el htb hh
  exact⟨r,hK,fun E h' a w v F hv hg=>h E h' a w v F.rd hv hg⟩
def findM (k:Int):List (Int×D)→(Option D→Prop)→Prop
 | [],K=>K none
 | (j,d)::es,K=>match decide (j=k) with|true=>K (some d)|false=>findM k es K
def lkM (k:Int):List (Int×D)→Option D
 | []=>none
 | (j,d)::es=>match decide (j=k) with|true=>some d|false=>lkM k es
theorem findM_eq (k:Int)(es:List (Int×D))(K:Option D→Prop):findM k es K=K (lkM k es):=by
 induction es with
 | nil=>rfl
 | cons x es ih=>
  obtain⟨j,d⟩:=x
  simp only[findM,lkM]
  cases decide (j=k)<;>simp[ih]
theorem jdZ {h:Pub}{kd:IntKind}{k:Int} : ∀ {es:List (Int×D)} {l:List MapEntry},MpOk h es l → ∀ i:Nat,
  (∀ d,lkM k es=some d → ∃ j v,Instr.findNow (.int kd) (.int .i64 k) l i=some (some (j,v))∧Den Env.dummy h d v)∧(lkM k es=none→Instr.findNow (.int kd) (.int .i64 k) l i=some none)
 | [],l,H,i=>by
  simp only[MpOk] at H;subst H
  exact⟨fun d hd=>by simp[lkM] at hd,fun _=>rfl⟩
 | (j,d)::es,l,H,i=>by
  obtain⟨e,l',rfl,h1,h2,h3⟩:=H
  have ih:=jdZ (kd:=kd) (k:=k) h3 (i+1)
  have hs:Instr.sameNow (.int kd) (.int .i64 k) e.key=some (k == j):=by rw[h1];simp[Instr.sameNow]
  by_cases hj:j=k
  ·subst hj
   have hs':Instr.sameNow (.int kd) (.int .i64 j) e.key=some true:=by rw[hs];simp
   refine⟨fun d' hd=>?_,fun hn=>by simp[lkM] at hn⟩
   simp[lkM] at hd;subst hd
   exact⟨i,e.val,by simp[Instr.findNow,hs'],h2⟩
  ·have hs':Instr.sameNow (.int kd) (.int .i64 k) e.key=some false:=by rw[hs];simp[Ne.symm hj]
   refine⟨fun d' hd=>?_,fun hn=>?_⟩
   ·simp[lkM,hj] at hd
    obtain⟨j',v,g1,g2⟩:=ih.1 d' hd
    exact⟨j',v,by simp[Instr.findNow,hs',g1],g2⟩
   ·simp[lkM,hj] at hn
    simp[Instr.findNow,hs',ih.2 hn]
def lookupK (tb:Tb)(H:Hp)(t:Nat)(dx dk:D)(ok:Bool)(K:D→Prop):Prop:=tyK tb t fun y=>match y.kind with
 | .map kt et=>tyK tb kt fun yk=>match yk.kind with
  | .int .i64=>match dx with
   | .mapr i=>match dk with
    | .int kk k=>match kE kk .i64 with
     | true=>jaU H i fun c=>match c with
      | .mp es=>findM k es fun r=>match r with
       | some d=>match D.pure d with
        | true=>match ok with
         | true=>K (.tup [d,.bool true])
         | false=>K d
        | false=>False
       | none=>match ok with
        | true=>tyK tb et fun _=>K (.tup [.any,.bool false])
        | false=>False
      | _=>False
     | false=>False
    | _=>False
   | _=>False
  | _=>False
 | _=>False
theorem lookup_el {P:Program}{tb:Tb}(htb:TbOk P tb){H:Hp}{t:Nat}{dx dk:D}{ok:Bool}{K:D→Prop}(hh:lookupK tb H t dx dk ok K) :
  ∃ r,K r ∧ ∀ E h (a:Act) w L vx vk,Facts E h a w L H→Den E h dx vx→Den E h dk vk→Gives P E h (Instr.lookup t vx vk ok) w r:=by
 have hz:=jak hh;clear hh;obtain⟨y,hy,hh⟩:=hz
 split at hh
 case h_2=>exact hh.elim
 rename_i kt et hk
 have hm:P.underlying t=some (.map kt et):=by have:=(htb _ _ hy).und;rw[hk] at this;exact this
 have hz:=jak hh;clear hh;obtain⟨yk,hyk,hh⟩:=hz
 split at hh
 case h_2=>exact hh.elim
 rename_i hkd
 have hd:P.underlying kt=some (.int .i64):=by have:=(htb _ _ hyk).und;rw[hkd] at this;exact this
 split at hh
 case h_2=>exact hh.elim
 rename_i i
 split at hh
 case h_2=>exact hh.elim
 rename_i kk k
 split at hh
 case h_2=>exact hh.elim
 rename_i hke
 have:=kE_eq hke;subst this
 have hz:=jay hh;clear hh;obtain⟨c,hc,hh⟩:=hz
 split at hh
 case h_2=>exact hh.elim
 rename_i es
 rw[findM_eq] at hh
 have key:∀ E h (a:Act) w L vx vk,Facts E h a w L H→Den E h (.mapr i) vx→Den E h (.int .i64 k) vk → ∃ l ck,vx = .map (some (E.blk i))∧vk = .int .i64 k∧w.heap[E.blk i]? = some (.map l ck)∧MpOk h es l.toList:=by
  intro E h a w L vx vk F hx hv
  simp only[Den] at hx hv
  obtain⟨_,l,ck,h1,h2⟩:=F.chunk _ _ hc
  exact⟨l,ck,hx.1,hv.1,h1,h2⟩
 have hck:∀ (e:Bool) (w:World),(Instr.checkKey e 10000 kt (.int .i64 k)).run P w = .ok () w:=fun e w=>MapKept.run_checkKey hd (k := .int .i64 k) (show IntKind.i64 = .i64 from rfl) e 9999
 cases hl:lkM k es with
 | some d=>
  rw[hl] at hh
  dsimp only at hh
  split at hh
  case h_2=>exact hh.elim
  rename_i hp
  cases ok with
  | true=>
   dsimp only at hh
   refine⟨_,hh,fun E h a w L vx vk F hx hv=>?_⟩
   obtain⟨l,ck,rfl,rfl,hb,hmp⟩:=key E h a w L vx vk F hx hv
   obtain⟨j,v,g1,g2⟩:=(jdZ (kd := .i64) (k:=k) hmp 0).1 d hl
   refine⟨.tuple #[v,.bool true],?_,?_⟩
   ·simp[Instr.lookup,run_underlying hm,MapKept.run_getObj_map hb,hck,MapKept.run_findKey hd g1]
   ·simp only[Den,DenL]
    exact⟨_,rfl,_,_,rfl,Den.pure hp g2,_,_,rfl,rfl,rfl⟩
  | false=>
   dsimp only at hh
   refine⟨_,hh,fun E h a w L vx vk F hx hv=>?_⟩
   obtain⟨l,ck,rfl,rfl,hb,hmp⟩:=key E h a w L vx vk F hx hv
   obtain⟨j,v,g1,g2⟩:=(jdZ (kd := .i64) (k:=k) hmp 0).1 d hl
   refine⟨v,?_,Den.pure hp g2⟩
   simp[Instr.lookup,run_underlying hm,MapKept.run_getObj_map hb,hck,MapKept.run_findKey hd g1]
 | none=>
  rw[hl] at hh
  dsimp only at hh
  cases ok with
  | false=>exact hh.elim
  | true=>
   have hz:=jak hh;clear hh;obtain⟨ye,hye,hh⟩:=hz
   obtain⟨iy,z,i1,i2,i3,i4,_⟩:=(htb _ _ hye).info
   refine⟨_,hh,fun E h a w L vx vk F hx hv=>?_⟩
   obtain⟨l,ck,rfl,rfl,hb,hmp⟩:=key E h a w L vx vk F hx hv
   have g1:=(jdZ (kd := .i64) (k:=k) hmp 0).2 hl
   refine⟨.tuple #[z,.bool false],?_,?_⟩
   ·simp[Instr.lookup,run_underlying hm,MapKept.run_getObj_map hb,hck,MapKept.run_findKey hd g1,zeroValue,typeInfo,i1,i4]
   ·simp only[Den,DenL]
    exact⟨_,rfl,_,_,rfl,trivial,_,_,rfl,rfl,rfl⟩
def quiet (tb:Tb)(g:Prop)(L:Sl)(H:Hp)(K:D→Prop)(op:Op):Prop:=match op with
 | .move x=>rdg g L x K
 | .assign x=>rdK L x K
 | .pick c a b=>pickK g L c a b K
 | .binOp op t x y _=>rdg g L x fun dx=>rdg g L y fun dy=>binD tb g op t dx dy K
 | .unOp op _ x=>rdg g L x fun d=>unK g op d K
 | .convert s t x=>rdg g L x fun d=>convK tb g H s t d K
 | .load t x=>rdg g L x fun d=>loadK tb g H t d K
 | .fieldAddr t x f=>rdg g L x fun d=>jgk tb t d f K
 | .field t x f=>rdg g L x fun d=>fieldK tb t d f K
 | .indexAddr t x i=>rdg g L x fun dx=>rdg g L i fun di=>jei tb g t dx di K
 | .index t x i=>rdg g L x fun dx=>rdg g L i fun di=>indexK tb g t dx di K
 | .slice t x lo hi none=>rdg g L x fun dx=>jh2 tb g L H t dx lo hi K
 | .build t parts=>buildK tb g L t parts K
 | .extract x i=>rdg g L x fun d=>match d with | .tup ds=>nthK ds i K|_=>False
 | .makeFunc (.func f) first caps=>rdsK g L first.toList fun es=>rdsK g L caps.toList fun ds=>K (.fn f es ds)
 | .nilCheck x=>rdg g L x fun d=>match jeL d with|true=>K d|false=>False
 | .makeInterface t x=>rdg g L x fun d=>ifcK tb t d K
 | .lookup t x k ok=>rdg g L x fun dx=>rdg g L k fun dk=>lookupK tb H t dx dk ok K
 | .call c=>match c.callee with
  | .builtin b=>match b with
   | .len=>match c.args.toList,c.argTypes.toList with
    | [x],[t]=>rdg g L x fun d=>lenK tb t d K
    | _,_=>False
   | .min=>rdsK g L c.args.toList fun ds=>jgU false ds K
   | .max=>rdsK g L c.args.toList fun ds=>jgU true ds K
   | _=>False
  | _=>False
 | _=>False
def Val (P:Program)(E:Env)(h:Pub)(ρ:Operand→Value)(o:Oper)(w:World)(d:D):Prop := ∃ v,(execOp ρ o).run P w = .ok (.value v) w∧Den E h d v
theorem jeD {P:Program}{tb:Tb}(htb:TbOk P tb){g:Prop}{L:Sl}{H:Hp}{K:D→Prop}{o:Oper}(hh:quiet tb g L H K o.op) :
  ∃ r,K r ∧ ∀ E h a w,Facts E h a w L H→g→Val P E h a.eval o w r:=by
 unfold quiet at hh
 split at hh
 ·rename_i x ho
  obtain⟨dx,hh,hx⟩:=jat hh
  exact⟨_,hh,fun E h a w F hg=>⟨_,by simp[execOp,ho],hx E h a hg (F.rd x)⟩⟩
 ·rename_i x ho
  rw[rdK_eq] at hh
  exact⟨_,hh,fun E h a w F _=>⟨_,by simp[execOp,ho],F.rd x⟩⟩
 ·rename_i c x y ho
  obtain⟨r,hr,hh⟩:=pick_el hh
  refine⟨r,hr,fun E h a w F hg=>?_⟩
  obtain⟨v,h1,h2⟩:=hh P E h a w F.rd hg
  simp only[Sem.run_bind,Sem.run_pure] at h1
  exact⟨v,by simp only[execOp,ho,Sem.run_bind,Sem.run_pure];cases hb:(asBool (a.eval c)).run P w<;>simp[hb] at h1 ⊢; exact h1,h2⟩
 ·rename_i op t x y _ ho
  obtain⟨dx,hh,hx⟩:=jat hh
  obtain⟨dy,hh,hy⟩:=jat hh
  obtain⟨r,hr,hh⟩:=bin_D htb (x:=x) (y:=y) hh
  refine⟨r,hr,fun E h a w F hg=>?_⟩
  obtain⟨v,h1,h2⟩:=hh E h w _ _ (hx E h a hg (F.rd x)) (hy E h a hg (F.rd y)) hg
  exact⟨v,by simp only[execOp,ho];rw[Sem.run_bind,h1];rfl,h2⟩
 ·rename_i op _ x ho
  obtain⟨dx,hh,hx⟩:=jat hh
  obtain⟨r,hr,hh⟩:=un_el hh
  refine⟨r,hr,fun E h a w F hg=>?_⟩
  obtain⟨v,h1,h2⟩:=hh P E h w _ (hx E h a hg (F.rd x)) hg
  exact⟨v,by simp only[execOp,ho];rw[Sem.run_bind,h1];rfl,h2⟩
 ·rename_i s t x ho
  obtain⟨dx,hh,hx⟩:=jat hh
  obtain⟨r,hr,hh⟩:=conv_el htb hh
  refine⟨r,hr,fun E h a w F hg=>?_⟩
  obtain⟨v,h1,h2⟩:=hh E h a w L F _ (hx E h a hg (F.rd x)) hg
  exact⟨v,by simp only[execOp,ho];rw[Sem.run_bind,h1];rfl,h2⟩
 ·rename_i t x ho
  obtain⟨dx,hh,hx⟩:=jat hh
  obtain⟨r,hr,hh⟩:=load_el htb hh
  refine⟨r,hr,fun E h a w F hg=>?_⟩
  obtain⟨v,h1,h2⟩:=hh E h a w L F _ (hx E h a hg (F.rd x)) hg
  exact⟨v,by simp only[execOp,ho];rw[Sem.run_bind,h1];rfl,h2⟩
 ·rename_i t x f ho
  obtain⟨dx,hh,hx⟩:=jat hh
  obtain⟨r,hr,hh⟩:=jhK htb hh
  refine⟨r,hr,fun E h a w F hg=>?_⟩
  obtain⟨v,h1,h2⟩:=hh E h w _ (hx E h a hg (F.rd x))
  exact⟨v,by simp only[execOp,ho];rw[Sem.run_bind,h1];rfl,h2⟩
 ·rename_i t x f ho
  obtain⟨dx,hh,hx⟩:=jat hh
  obtain⟨r,hr,hh⟩:=field_el htb hh
  refine⟨r,hr,fun E h a w F hg=>?_⟩
  obtain⟨v,h1,h2⟩:=hh E h w _ (hx E h a hg (F.rd x))
  exact⟨v,by simp only[execOp,ho];rw[Sem.run_bind,h1];rfl,h2⟩
 ·rename_i t x i ho
  obtain⟨dx,hh,hx⟩:=jat hh
  obtain⟨dy,hh,hy⟩:=jat hh
  obtain⟨r,hr,hh⟩:=jhE htb hh
  refine⟨r,hr,fun E h a w F hg=>?_⟩
  obtain⟨v,h1,h2⟩:=hh E h w _ _ F.agree.glob (hx E h a hg (F.rd x)) (hy E h a hg (F.rd i)) hg
  exact⟨v,by simp only[execOp,ho];rw[Sem.run_bind,h1];rfl,h2⟩
 ·rename_i t x i ho
  obtain⟨dx,hh,hx⟩:=jat hh
  obtain⟨dy,hh,hy⟩:=jat hh
  obtain⟨r,hr,hh⟩:=index_el htb hh
  refine⟨r,hr,fun E h a w F hg=>?_⟩
  obtain⟨v,h1,h2⟩:=hh E h w _ _ (hx E h a hg (F.rd x)) (hy E h a hg (F.rd i)) hg
  exact⟨v,by simp only[execOp,ho];rw[Sem.run_bind,h1];rfl,h2⟩
 ·rename_i t x lo hi ho
  obtain⟨dx,hh,hx⟩:=jat hh
  obtain⟨r,hr,hh⟩:=sliceH_el htb hh
  refine⟨r,hr,fun E h a w F hg=>?_⟩
  obtain⟨v,h1,h2⟩:=hh E h a w _ F (hx E h a hg (F.rd x)) hg
  exact⟨v,by simp only[execOp,ho,Option.map_none];rw[Sem.run_bind,h1];rfl,h2⟩
 ·rename_i t parts ho
  obtain⟨r,hr,hh⟩:=build_el htb hh
  refine⟨r,hr,fun E h a w F hg=>?_⟩
  obtain⟨v,h1,h2⟩:=hh E h a w F.rd hg
  exact⟨v,by simp only[execOp,ho];rw[Sem.run_bind];rw[h1];rfl,h2⟩
 ·rename_i x i ho
  obtain⟨d,hh,hx⟩:=jat hh
  split at hh
  case h_2=>exact hh.elim
  rename_i ds
  obtain⟨r,h1,hh⟩:=jfl hh
  refine⟨r,hh,fun E h a w F hg=>?_⟩
  have h2:=hx E h a hg (F.rd x)
  simp only[Den] at h2
  obtain⟨vs,h2,h3⟩:=h2
  obtain⟨v,h4,h5⟩:=h3.get h1
  exact⟨v,by simp only[execOp,ho,h2];rw[Sem.run_bind,jh4 h4];rfl,h5⟩
 ·rename_i f first caps ho
  obtain⟨es,hh,_,hes⟩:=jdk hh
  obtain⟨ds,hh,_,hds⟩:=jdk hh
  refine⟨_,hh,fun E h a w F hg=>⟨.func (.func f) (first.map a.eval) (caps.map a.eval),by simp[execOp,ho,Instr.makeFunc],?_⟩⟩
  simp only[Den]
  exact⟨_,_,by congr 1<;>(apply Array.toList_inj.1;simp),hes E h a F.rd hg,hds E h a F.rd hg⟩
 ·rename_i x ho
  obtain⟨d,hh,hx⟩:=jat hh
  cases hf:jeL d with
  | false=>rw[hf] at hh;exact hh.elim
  | true=>
   rw[hf] at hh
   exact⟨d,hh,fun E h a w F hg=>⟨_,jig hf (hx E h a hg (F.rd x)) o x ho a.eval rfl,hx E h a hg (F.rd x)⟩⟩
 ·rename_i t x ho
  obtain⟨d,hh,hx⟩:=jat hh
  obtain⟨r,hr,hi⟩:=ifc_el htb hh
  refine⟨r,hr,fun E h a w F hg=>?_⟩
  obtain⟨u,h1,h2⟩:=hi E h w _ (hx E h a hg (F.rd x))
  exact⟨u,by simp only[execOp,ho];rw[Sem.run_bind];rw[h1];rfl,h2⟩
 ·rename_i t x k ok ho
  obtain⟨dx,hh,hx⟩:=jat hh
  obtain⟨dk,hh,hk⟩:=jat hh
  obtain⟨r,hr,hi⟩:=lookup_el htb hh
  refine⟨r,hr,fun E h a w F hg=>?_⟩
  obtain⟨u,h1,h2⟩:=hi E h a w L _ _ F (hx E h a hg (F.rd x)) (hk E h a hg (F.rd k))
  exact⟨u,by simp only[execOp,ho];rw[Sem.run_bind];rw[h1];rfl,h2⟩
 ·rename_i c ho
  obtain⟨callee,args,argTypes⟩:=c
  dsimp only at hh
  split at hh
  case h_2=>exact hh.elim
  split at hh
  ·split at hh
   case h_2=>exact hh.elim
   rename_i x t hxs hts
   obtain⟨d,hh,hx⟩:=jat hh
   obtain⟨r,hr,hh⟩:=len_el htb hh
   refine⟨r,hr,fun E h a w F hg=>?_⟩
   obtain⟨v,h1,h2⟩:=hh E h w (a.eval x) o.type argTypes (by rw[← Array.getElem?_toList,hts];rfl) (hx E h a hg (F.rd x))
   have ha:args = #[x]:=Array.toList_inj.1 (by simpa using hxs)
   subst ha
   exact⟨v,by simp[execOp,ho,resolve,invoke,builtin,h1],h2⟩
  ·obtain⟨ds,hh,_,hds⟩:=jdk hh
   obtain⟨r,hr,hh⟩:=jhz hh
   refine⟨r,hr,fun E h a w F hg=>?_⟩
   obtain⟨v,h1,h2⟩:=hh P E h w _ argTypes o.type (hds E h a F.rd hg)
   simp only[← Array.toList_map,Array.toArray_toList] at h1
   exact⟨v,by simp[execOp,ho,resolve,invoke,builtin,h1],h2⟩
  ·obtain⟨ds,hh,_,hds⟩:=jdk hh
   obtain⟨r,hr,hh⟩:=jhz hh
   refine⟨r,hr,fun E h a w F hg=>?_⟩
   obtain⟨v,h1,h2⟩:=hh P E h w _ argTypes o.type (hds E h a F.rd hg)
   simp only[← Array.toList_map,Array.toArray_toList] at h1
   exact⟨v,by simp[execOp,ho,resolve,invoke,builtin,h1],h2⟩
  ·exact hh.elim
 ·exact hh.elim
end Go.V
end
section
namespace Go.V
open Go Go.RowKit
def Env.set (E:Env)(i b s n:Nat):Env:=⟨fun j=>if j=i then b else E.blk j,fun j=>if j=i then s else E.siz j,fun j=>if j=i then n else E.kn j,fun j=>if j=i then true else E.real j,E.lpr⟩
theorem Env.off_set (E:Env)(i b s n:Nat):E.off (E.set i b s n) i:=fun j hj=>by simp[Env.set,hj]
theorem Env.set_blk (E:Env)(i b s n:Nat):(E.set i b s n).blk i=b:=by simp[Env.set]
theorem Env.set_siz (E:Env)(i b s n:Nat):(E.set i b s n).siz i=s:=by simp[Env.set]
theorem Env.set_real (E:Env)(i b s n:Nat):(E.set i b s n).real i=true:=by simp[Env.set]
theorem Env.set_real_ne (E:Env){i j:Nat}(b s n:Nat)(h:j≠i):(E.set i b s n).real j=E.real j:=by simp[Env.set,h]
theorem Env.set_kn (E:Env)(i b s n:Nat):(E.set i b s n).kn i=n:=by simp[Env.set]
theorem Env.set_blk_ne (E:Env){i j:Nat}(b s n:Nat)(h:j≠i):(E.set i b s n).blk j=E.blk j:=by simp[Env.set,h]
def purge (i:Nat):Sl→Sl
 | []=>[]
 | (t,d)::L=>(t,match D.free i d with|true=>d|false => .any)::purge i L
def jeq (i:Nat):Sl→(Sl→Prop)→Prop
 | [],K=>K []
 | (t,d)::L,K=>match D.free i d with
  | true=>jeq i L fun L'=>K ((t,d)::L')
  | false=>jeq i L fun L'=>K ((t,.any)::L')
theorem jdK (i:Nat)(L:Sl)(K:Sl→Prop):jeq i L K=K (purge i L):=by
 induction L generalizing K with
 | nil=>rfl
 | cons x L ih=>
  obtain⟨t,d⟩:=x
  simp only[jeq,purge]
  cases D.free i d<;>simp[ih]
def jcy (i:Nat):List D→List D
 | []=>[]
 | d::ds=>(match D.free i d with|true=>d|false => .any)::jcy i ds
def jdb (i:Nat):List D→(List D→Prop)→Prop
 | [],K=>K []
 | d::ds,K=>match D.free i d with
  | true=>jdb i ds fun ds'=>K (d::ds')
  | false=>jdb i ds fun ds'=>K (.any::ds')
theorem je7 (i:Nat)(ds:List D)(K:List D→Prop):jdb i ds K=K (jcy i ds):=by
 induction ds generalizing K with
 | nil=>rfl
 | cons d ds ih=>
  simp only[jdb,jcy]
  cases D.free i d<;>simp[ih]
def jb8 (i:Nat):Chunk→Chunk
 | .box ds => .box (jcy i ds)
 | .arr k xs => .arr k xs
 | .gone => .gone
 | .lp p => .lp p
 | .mp p => .mp p
theorem jbm (i:Nat)(c:Chunk):(jb8 i c).live=c.live:=by cases c<;>rfl
def jaK (i:Nat):Hp→Hp
 | []=>[]
 | (j,c)::H=>(j,jb8 i c)::jaK i H
def jb0 (i:Nat):Hp→(Hp→Prop)→Prop
 | [],K=>K []
 | (j,c)::H,K=>match c with
  | .box ds=>jdb i ds fun ds'=>jb0 i H fun H'=>K ((j,.box ds')::H')
  | .arr k xs=>jb0 i H fun H'=>K ((j,.arr k xs)::H')
  | .gone=>jb0 i H fun H'=>K ((j,.gone)::H')
  | .lp p=>jb0 i H fun H'=>K ((j,.lp p)::H')
  | .mp p=>jb0 i H fun H'=>K ((j,.mp p)::H')
theorem jda (i:Nat)(H:Hp)(K:Hp→Prop):jb0 i H K=K (jaK i H):=by
 induction H generalizing K with
 | nil=>rfl
 | cons x L ih=>
  obtain⟨t,d⟩:=x
  cases d<;>simp[jb0,jaK,jb8,je7,ih]
theorem jbW {i:Nat}{L:Sl}{t:Nat}{E E':Env}{h:Pub}{v:Value}(he:E.off E' i)(H:Den E h (look L t) v):Den E' h (look (purge i L) t) v:=by
 induction L with
 | nil=>simp[purge,look,Den]
 | cons x L ih=>
  obtain⟨s,d⟩:=x
  simp only[purge]
  rw[jaI] at H ⊢
  split
  ·rename_i hs
   rw[if_pos hs] at H
   cases hf:D.free i d with
   | true=>exact Den.env he hf H
   | false=>simp[Den]
  ·rename_i hs
   rw[if_neg hs] at H
   exact ih H
theorem jbo {i:Nat}{H:Hp}{j:Nat}{c:Chunk}(h:lookH (jaK i H) j=some c):∃ c0,lookH H j=some c0∧c=jb8 i c0:=by
 induction H with
 | nil=>simp[jaK,lookH] at h
 | cons x H ih=>
  obtain⟨s,d⟩:=x
  simp only[jaK] at h
  rw[jag] at h ⊢
  split
  ·rename_i hs
   rw[if_pos hs] at h
   exact⟨d,rfl,(Option.some.inj h).symm⟩
  ·rename_i hs
   rw[if_neg hs] at h
   exact ih h
theorem jgl {E E':Env}{h:Pub}{i:Nat}(he:E.off E' i):∀ {ds:List D} {vs:List Value},DenL E h ds vs→DenL E' h (jcy i ds) vs
 | [],_,H=>by simpa [DenL,jcy] using H
 | d::ds,vs,H=>by
  simp only[DenL,jcy] at H ⊢
  obtain⟨v,vs',h1,h2,h3⟩:=H
  refine⟨v,vs',h1,?_,jgl he h3⟩
  cases hf:D.free i d with
  | true=>exact Den.env he hf h2
  | false=>simp[Den]
theorem ChunkOk.env {E E':Env}{h:Pub}{w:World}{i j:Nat}{c:Chunk}(he:E.off E' i)(hj:j≠i)(H:ChunkOk E h w j c):ChunkOk E' h w j (jb8 i c):=by
 cases c with
 | gone=>trivial
 | box ds=>
  obtain⟨h0,vs,rest,T,h1,h2,h3,h4⟩:=H
  exact⟨by rw[(he j hj).2.2.2.1];exact h0,vs,rest,T,by rw[(he j hj).1];exact h1,jgl he h2,h3,by rw[(he j hj).2.1];exact h4⟩
 | arr k xs=>
  simp only[ChunkOk,jb8] at H ⊢
  rw[(he j hj).1,(he j hj).2.1,(he j hj).2.2.1,(he j hj).2.2.2.1];exact H
 | lp p=>
  simp only[ChunkOk,jb8] at H ⊢
  rw[(he j hj).1,(he j hj).2.2.2.1,(he j hj).2.2.2.2];exact H
 | mp p=>
  simp only[ChunkOk,jb8] at H ⊢
  rw[(he j hj).1,(he j hj).2.2.2.1];exact H
theorem ChunkOk.heap {E:Env}{h:Pub}{w w':World}{j:Nat}{c:Chunk}(hb:w'.heap[E.blk j]? = w.heap[E.blk j]?)(H:ChunkOk E h w j c):ChunkOk E h w' j c:=by
 cases c with
 | gone=>trivial
 | box ds=>
  obtain⟨h0,vs,rest,T,h1,h2,h3⟩:=H
  exact⟨h0,vs,rest,T,by rw[hb];exact h1,h2,h3⟩
 | arr k xs=>
  simp only[ChunkOk] at H ⊢
  rw[hb];exact H
 | lp p=>
  simp only[ChunkOk] at H ⊢
  rw[hb];exact H
 | mp p=>
  simp only[ChunkOk] at H ⊢
  rw[hb];exact H
theorem ChunkOk.virt {E:Env}{h:Pub}{w w':World}{j:Nat}{c:Chunk}(hr:E.real j=false)(H:ChunkOk E h w j c):ChunkOk E h w' j c:=by
 cases c with
 | gone=>trivial
 | box ds=>exact absurd H.1 (by rw[hr];decide)
 | arr k xs=>
  rcases H with H|H
  ·exact .inl H
  ·exact absurd H.1 (by rw[hr];decide)
 | lp p=>exact absurd H.1 (by rw[hr];decide)
 | mp p=>exact absurd H.1 (by rw[hr];decide)
theorem ChunkOk.keep {E:Env}{h:Pub}{w w':World}{j:Nat}{c:Chunk}(hb:c.live=true→E.real j=true→w'.heap[E.blk j]? = w.heap[E.blk j]?)(H:ChunkOk E h w j c):ChunkOk E h w' j c:=by
 cases hl:c.live with
 | false=>cases c<;>first|trivial|simp[Chunk.live] at hl
 | true=>
  cases hr:E.real j with
  | false=>exact H.virt hr
  | true=>exact H.heap (hb hl hr)
theorem ChunkOk.mono {E:Env}{h h':Pub}{w:World}{j:Nat}{c:Chunk}(hh:h.Le h')(H:ChunkOk E h w j c):ChunkOk E h' w j c:=by
 cases c with
 | gone=>trivial
 | box ds=>
  obtain⟨h0,vs,rest,T,h1,h2,h3⟩:=H
  exact⟨h0,vs,rest,T,h1,DenL.mono hh h2,h3⟩
 | arr k xs=>exact H
 | lp p=>exact H
 | mp p=>
  obtain⟨h0,l,ck,h1,h2⟩:=H
  exact⟨h0,l,ck,h1,h2.mono hh⟩
theorem ChunkOk.lt {E:Env}{h:Pub}{w:World}{j:Nat}{c:Chunk}(hl:c.live=true)(hr:E.real j=true)(H:ChunkOk E h w j c):E.blk j<w.heap.size:=by
 cases c with
 | gone=>simp[Chunk.live] at hl
 | box ds=>obtain⟨_,vs,rest,T,h1,_⟩:=H;exact(Array.getElem?_eq_some_iff.1 h1).1
 | arr k xs=>obtain⟨r,T,h1,_⟩:=jbc hr H;exact(Array.getElem?_eq_some_iff.1 h1).1
 | lp p=>obtain⟨_,r,_,h1⟩:=H;exact(Array.getElem?_eq_some_iff.1 h1).1
 | mp p=>obtain⟨_,l,ck,h1,_⟩:=H;exact(Array.getElem?_eq_some_iff.1 h1).1
theorem ChunkOk.cells {E:Env}{h:Pub}{w:World}{j:Nat}{c:Chunk}(hl:c.cel=true)(hr:E.real j=true)(H:ChunkOk E h w j c):∃ cs T f,w.heap[E.blk j]? = some (.cells cs T f):=by
 cases c with
 | gone=>simp[Chunk.cel] at hl
 | lp p=>simp[Chunk.cel] at hl
 | mp p=>simp[Chunk.cel] at hl
 | box ds=>obtain⟨_,vs,rest,T,h1,_⟩:=H;exact⟨_,_,_,h1⟩
 | arr k xs=>obtain⟨r,T,h1,_⟩:=jbc hr H;exact⟨_,_,_,h1⟩
theorem Agree.lt {h:Pub}{w:World}(ha:Agree h w){b o:Nat}{v:Value}(hv:h b o=some v):b<w.heap.size:=
 World.block_lt_of_cell? (w:=w) (a:=⟨b,o,none⟩) (ha b o v hv)
section
variable {cx : Cx} {E : Env} {h : Pub} {a : Act} {w : World} {L : Sl} {H : Hp}
theorem jfn {cx:Cx}{E E':Env}{i:Nat}(hl:∀ j,j<cx.off→E.blk j=cx.E0.blk j∧E.siz j=cx.E0.siz j∧E.kn j=cx.E0.kn j∧E.real j=cx.E0.real j∧E.lpr j=cx.E0.lpr j)(he:E.off E' i)(ho:cx.off≤i) :
  ∀ j,j<cx.off→E'.blk j=cx.E0.blk j∧E'.siz j=cx.E0.siz j∧E'.kn j=cx.E0.kn j∧E'.real j=cx.E0.real j∧E'.lpr j=cx.E0.lpr j:=fun j hj=>by
 obtain⟨h1,h2,h3,h4,h5⟩:=he j Jo
 rw[h1,h2,h3,h4,h5];exact hl j hj
theorem Sat.facts (S:Sat cx E h a w L H):Facts E h a w L H:=⟨S.knows,fun i c hc=>S.mem.ok i c hc,S.agree⟩
theorem jdf (a:Act)(d t:Nat)(v:Value):(a.put (some d) v).tmps.getD t Go.undef=if d=t∧d<a.tmps.size then v else a.tmps.getD t Go.undef:=by
 simp only[Act.put,Array.getD_eq_getD_getElem?,Array.getElem?_setIfInBounds]
 by_cases h:d=t
 ·subst h
  by_cases h2:d<a.tmps.size
  ·simp[h2]
  ·simp[h2]
 ·simp[h]
theorem jcZ {E:Env}{h:Pub}{a:Act}{L:Sl}(hk:∀ t,Den E h (look L t) (a.tmps.getD t Go.undef)){d:Nat}{r:D}{v:Value}(hd:d<a.tmps.size)(hv:Den E h r v) :
  ∀ t,Den E h (look ((d,r)::L) t) ((a.put (some d) v).tmps.getD t Go.undef):=by
 intro t
 rw[jaI,jdf]
 by_cases e:d=t
 ·rw[if_pos e,if_pos ⟨e,hd⟩];exact hv
 ·rw[if_neg e,if_neg (fun x=>e x.1)];exact hk t
theorem Sat.put (S : Sat cx E h a w L H) {d : Nat} {r : D} {v : Value} (hd : d < a.tmps.size) (hv : Den E h r v) : Sat cx E h (a.put (some d) v) w ((d, r) :: L) H :=
  { knows := jcZ S.knows hd hv
    mem := S.mem, agree := S.agree, since := S.since, low := S.low, side := S.side }
theorem Agree.of_blocks {h:Pub}{w w':World}(ha:Agree h w)(hb:∀ b,(∃ o v,h b o=some v)→w'.heap[b]? = w.heap[b]?):Agree h w':=⟨fun b o v hv=>by
 rw[World.cell?_of_block (w:=w) (hb b ⟨o,v,hv⟩)];exact ha b o v hv,ha.glob,⟨fun g vs hg=>by
 obtain⟨h1,T,f,h2⟩:=ha.blk.1 g vs hg
 obtain⟨v,hv⟩:∃ v,vs[0]? = some v:=by cases vs with|nil=>exact absurd rfl h1|cons v r=>exact⟨v,rfl⟩
 exact⟨h1,T,f,(hb g ⟨0,v,ha.glob g vs hg 0 v hv⟩).trans h2⟩,fun g hg=>by
 obtain⟨tp,p,T,f,h2⟩:=ha.blk.2 g hg
 obtain⟨v,hv⟩:=ha.errs g hg
 exact⟨tp,p,T,f,(hb g ⟨0,v,hv⟩).trans h2⟩⟩,ha.errs⟩
theorem Sat.world (S : Sat cx E h a w L H) {w' : World} (hb : Below w.heap.size w w') : Sat cx E h a w' L H :=
  { knows := S.knows
    mem :=
      { ok := fun i c hc => (S.mem.ok i c hc).keep fun hl hr => hb.block _ ((S.mem.ok i c hc).lt hl hr)
        base := S.mem.base, unpub := S.mem.unpub, inj := S.mem.inj }
    agree := S.agree.of_blocks fun b ⟨_, _, hv⟩ => hb.block b (S.agree.lt hv)
    since := ⟨S.since.below.trans (hb.mono S.since.below.size), S.since.le, S.since.old⟩
    low := S.low
    side := S.side.below hb }
theorem Sat.alloc (S:Sat cx E h a w L H){i:Nat}{r:D}{c:Chunk}{v:Value}{w':World}{s n:Nat}
  (hb:Below w.heap.size w w')
  (hc:ChunkOk (E.set i w.heap.size s n) h w' i c) {d:Nat} (hi:d<a.tmps.size) (ho:cx.off≤i) (hv:Den (E.set i w.heap.size s n) h r v) :
  Sat cx (E.set i w.heap.size s n) h (a.put (some d) v) w' ((d,r)::purge i L) ((i,c)::jaK i H):=by
 have hoff:=E.off_set i w.heap.size s n
 have hsz:cx.w0.heap.size≤w.heap.size:=S.since.below.size
 have live:∀ j c',j≠i→lookH ((i,c)::jaK i H) j=some c'→c'.live=true → ∃ c0,lookH H j=some c0∧c'=jb8 i c0∧c0.live=true:=by
  intro j c' hj hc' hl
  rw[jag,if_neg (Ne.symm hj)] at hc'
  obtain⟨c0,h1,h2⟩:=jbo hc'
  exact⟨c0,h1,h2,by rw[h2,jbm] at hl;exact hl⟩
 refine { knows:=?_,mem:=?_,agree:=?_,since:=?_,low:=fun j hj=>jfn S.low hoff ho j hj,side:=S.side.below hb }
 ·exact jcZ (fun t=>jbW hoff (S.knows t)) hi hv
 ·refine { ok:=?_,base:=?_,unpub:=?_,inj:=?_ }
  ·intro j c' hc'
   by_cases hj:j=i
   ·subst hj;rw[jag,if_pos rfl] at hc';cases hc';exact hc
   ·cases hl:c'.live with
    | false=>cases c'<;>first|trivial|(simp[Chunk.live] at hl)
    | true=>
     obtain⟨c0,h1,rfl,hl'⟩:=live j c' hj hc' hl
     have h4:=S.mem.ok j _ h1
     refine ChunkOk.env hoff hj (h4.keep fun hl hr=>hb.block _ (h4.lt hl hr))
  ·intro j c' hc' hl hr
   by_cases hj:j=i
   ·subst hj;rw[Env.set_blk];exact hsz
   ·obtain⟨c0,h1,rfl,hl'⟩:=live j c' hj hc' hl
    rw[E.set_real_ne _ _ _ hj] at hr
    rw[E.set_blk_ne _ _ _ hj];exact S.mem.base j _ h1 hl' hr
  ·intro j c' hc' hl hr o
   by_cases hj:j=i
   ·subst hj
    rw[Env.set_blk]
    cases ho:h w.heap.size o with
    | none=>rfl
    | some v'=>exact absurd (S.agree.lt ho) (Nat.lt_irrefl _)
   ·obtain⟨c0,h1,rfl,hl'⟩:=live j c' hj hc' hl
    rw[E.set_real_ne _ _ _ hj] at hr
    rw[E.set_blk_ne _ _ _ hj];exact S.mem.unpub j _ h1 hl' hr o
  ·intro j k c1 c2 hjk h1 h2 l1 l2 r1 r2
   by_cases hj:j=i
   ·subst hj
    obtain⟨c0,g1,rfl,l2'⟩:=live k c2 (Ne.symm hjk) h2 l2
    rw[E.set_real_ne _ _ _ (Ne.symm hjk)] at r2
    rw[Env.set_blk,E.set_blk_ne _ _ _ (Ne.symm hjk)]
    have:=(S.mem.ok k _ g1).lt l2' r2
    omega
   ·obtain⟨c0,g1,rfl,l1'⟩:=live j c1 hj h1 l1
    by_cases hk:k=i
    ·subst hk
     rw[E.set_real_ne _ _ _ hj] at r1
     rw[Env.set_blk,E.set_blk_ne _ _ _ hj]
     have:=(S.mem.ok j _ g1).lt l1' r1
     omega
    ·obtain⟨c0',g2,rfl,l2'⟩:=live k c2 hk h2 l2
     rw[E.set_real_ne _ _ _ hj] at r1
     rw[E.set_real_ne _ _ _ hk] at r2
     rw[E.set_blk_ne _ _ _ hj,E.set_blk_ne _ _ _ hk]
     exact S.mem.inj j k _ _ hjk g1 g2 l1' l2' r1 r2
 ·exact S.agree.of_blocks fun b ⟨_,_,hv⟩=>hb.block b (S.agree.lt hv)
 ·exact⟨S.since.below.trans (hb.mono S.since.below.size),S.since.le,S.since.old⟩
theorem Sat.write (S:Sat cx E h a w L H){i:Nat}{c c':Chunk}{w':World}(hc:lookH H i=some c)(hl:c.live=true)(hr:E.real i=true)
  (ho:w'.os=w.os) (ht:w'.tape=w.tape) (hout:w'.output=w.output) (hsz:w'.heap.size=w.heap.size) (hb:∀ b,b≠E.blk i→w'.heap[b]? = w.heap[b]?)
  (hc':ChunkOk E h w' i c') (hcel:c.cel=true:=by rfl):Sat cx E h a w' L ((i,c')::H):=by
 have hbase:=S.mem.base i c hc hl hr
 refine { knows:=S.knows,mem:=?_,agree:=?_,since:=?_,low:=S.low,side:=S.side.keep fun b o hbo hno=>?_ }
 ·refine { ok:=?_,base:=?_,unpub:=?_,inj:=?_ }
  ·intro j d hd
   rw[jag] at hd
   split at hd
   ·rename_i e;subst e;cases hd;exact hc'
   ·rename_i e
    exact(S.mem.ok j d hd).keep fun hld hrd=>hb _ (S.mem.inj j i d c (Ne.symm e) hd hc hld hl hrd hr)
  ·intro j d hd hld hrd
   rw[jag] at hd
   split at hd
   ·rename_i e;subst e;exact hbase
   ·exact S.mem.base j d hd hld hrd
  ·intro j d hd hld hrd o
   rw[jag] at hd
   split at hd
   ·rename_i e;subst e;exact S.mem.unpub i c hc hl hr o
   ·exact S.mem.unpub j d hd hld hrd o
  ·intro j k c1 c2 hjk h1 h2 l1 l2 r1 r2
   rw[jag] at h1 h2
   split at h1
   ·rename_i e;subst e
    rw[if_neg hjk] at h2
    exact S.mem.inj i k c c2 hjk hc h2 hl l2 r1 r2
   ·split at h2
    ·rename_i e;subst e
     exact S.mem.inj j i c1 c hjk h1 hc l1 hl r1 r2
    ·exact S.mem.inj j k c1 c2 hjk h1 h2 l1 l2 r1 r2
 ·refine S.agree.of_blocks fun b ⟨o,v,hv⟩=>hb b (fun e=>?_)
  subst e
  rw[S.mem.unpub i c hc hl hr o] at hv;cases hv
 ·refine⟨S.since.below.trans ⟨ho,ht,hout,Jo,fun k hk=>hb k Jo⟩,S.since.le,S.since.old⟩
 ·rw[hb b (fun e=>?_)]
  ·exact hbo
  ·subst e
   obtain⟨cs,T,f,hcell⟩:=(S.mem.ok i c hc).cells hcel hr
   rw[hcell] at hbo;cases hbo;cases hno
end
end Go.V
end
section
namespace Go.V
open Go Go.RowKit
abbrev K2:=Sl→Hp→Prop
def ltK (d N:Nat)(K:Prop):Prop:=match Nat.blt d N with|true=>K|false=>False
theorem jcJ {d N:Nat}{K:Prop}(h:ltK d N K):d<N∧K:=by
 unfold ltK at h
 cases hb:Nat.blt d N with
 | true=>rw[hb] at h;exact⟨by have:=jjw hb;omega,h⟩
 | false=>rw[hb] at h;exact h.elim
def newK (off d:Nat)(r:D)(c:Chunk)(L:Sl)(H:Hp)(K:K2):Prop:=
 jeq (off+d) L fun L'=>jb0 (off+d) H fun H'=>K ((d,r)::L') ((off+d,c)::H')
theorem jgR (off d:Nat)(r:D)(c:Chunk)(L:Sl)(H:Hp)(K:K2):newK off d r c L H K=K ((d,r)::purge (off+d) L) ((off+d,c)::jaK (off+d) H):=by
 unfold newK;rw[jdK,jda]
def jdr (k:IntKind):List D→(List Int→Prop)→Prop
 | [],K=>K []
 | .int k' n::ds,K=>match kE k k' with|true=>jdr k ds fun xs=>K (n::xs)|false=>False
 | _::_,_=>False
theorem jdU {k:IntKind}{ds:List D}{K:List Int→Prop}(hh:jdr k ds K) :
  ∃ xs,K xs∧ds=xs.map (D.int k):=by
 induction ds generalizing K with
 | nil=>exact⟨[],hh,rfl⟩
 | cons d ds ih=>
  cases d<;>simp only[jdr] at hh
  case int k' n=>
   cases hk:kE k k' with
   | false=>rw[hk] at hh;exact hh.elim
   | true=>
    rw[hk] at hh
    have:=kE_eq hk;subst this
    obtain⟨xs,h1,h2⟩:=ih hh
    exact⟨n::xs,h1,by simp[h2]⟩
  all_goals exact hh.elim
theorem jd3 {E:Env}{h:Pub}{k:IntKind}{xs:List Int}{vs:List Value}(H:DenL E h (xs.map (D.int k)) vs):vs=xs.map (Value.int k) ∧ ∀ n∈xs,InR k n:=by
 induction xs generalizing vs with
 | nil=>simp only[List.map_nil,DenL] at H;simp[H]
 | cons x xs ih=>
  simp only[List.map_cons,DenL,Den] at H
  obtain⟨v,vs',rfl,⟨rfl,h1⟩,h2⟩:=H
  obtain⟨rfl,h3⟩:=ih h2
  refine⟨rfl,fun n hn=>?_⟩
  rcases jka.1 hn with rfl|hn
  ·exact h1
  ·exact h3 n hn
theorem jbt {k:IntKind}{xs:List Int} : ∀ v∈xs.map (Value.int k),v.oneCell'=true:=by
 intro v hv
 obtain⟨n,_,rfl⟩:=List.mem_map.1 hv
 rfl
def chunkK (tb:Tb)(y:Ty)(d:D)(K:Chunk→Prop):Prop:=match d with
 | .iarr k xs=>K (.arr k xs)
 | d=>match y.kind with
  | .arr _ e=>tyK tb e fun ye=>match ye.kind with
   | .int k=>jex d fun ds=>jdr k ds fun xs=>K (.arr k xs)
   | _=>jex d fun ds=>K (.box ds)
  | _=>jex d fun ds=>K (.box ds)
theorem chunk_el {tb:Tb}{y:Ty}{d:D}{K:Chunk→Prop}(hh:chunkK tb y d K) :
  ∃ c,K c∧c.live=true ∧ ∀ E h v,Den E h d v → ∀ (w:World) (i T:Nat),w.heap[E.blk i]? = some (.cells v.cells T (0,0))→E.siz i=v.cells.size→E.real i=true→(∀ k xs,c = .arr k xs→E.kn i=xs.length)→ChunkOk E h w i c:=by
 have box:∀ {K:Chunk→Prop},jex d (fun ds=>K (.box ds)) → ∃ c,K c∧c.live=true ∧ ∀ E h v,Den E h d v → ∀ (w:World) (i T:Nat),w.heap[E.blk i]? = some (.cells v.cells T (0,0))→E.siz i=v.cells.size→E.real i=true→(∀ k xs,c = .arr k xs→E.kn i=xs.length)→ChunkOk E h w i c:=by
  intro K hh
  obtain⟨ds,h1,h2⟩:=jeP hh
  exact⟨_,h1,rfl,fun E h v hv w i T hw hs hr _=>⟨hr,v.cells.toList,[],T,by simpa using hw,(h2 E h v hv).1,(h2 E h v hv).2,by simpa using hs⟩⟩
 unfold chunkK at hh
 split at hh
 ·rename_i k xs
  refine⟨_,hh,rfl,fun E h v hv w i T hw hs hreal hkn=>?_⟩
  simp only[Den] at hv
  obtain⟨rfl,hr⟩:=hv
  exact .inr ⟨hreal,[],T,by simpa [Value.cells] using hw,by simpa [Value.cells] using hs,hr,hkn _ _ rfl⟩
 ·split at hh
  ·have hx:=jak hh;clear hh;obtain⟨ye,hye,hh⟩:=hx
   split at hh
   ·rename_i k _
    obtain⟨ds,h1,h2⟩:=jeP hh
    obtain⟨xs,h3,rfl⟩:=jdU h1
    refine⟨_,h3,rfl,fun E h v hv w i T hw hs hreal hkn=>?_⟩
    obtain⟨h4,h5⟩:=jd3 (h2 E h v hv).1
    refine .inr ⟨hreal,[],T,?_,?_,h5,hkn _ _ rfl⟩
    ·rw[hw];congr 2;apply Array.toList_inj.1;simp[h4]
    ·rw[hs,← Array.length_toList,h4];simp
   ·exact box hh
  ·exact box hh
theorem jf1 {P:Program}(t:TypeId)(v:Value)(w:World):(newVar t v).run P w = .ok ⟨w.heap.size,0,none⟩ (w.alloc (.cells v.cells t)):=by
 simp[newVar,newRow]
theorem jca (w:World)(c:Array Value)(t:TypeId):(w.alloc (.cells c t)).heap[w.heap.size]? = some (.cells c t (0,0)):=heap_alloc_new w _
def Heavy (P:Program)(N:Nat)(cx:Cx)(Q:Exit→Act→World→Prop)(o:Oper)(K:K2)(L:Sl)(H:Hp):Prop:=
 ∀ E h a w,N≤a.tmps.size→Sat cx E h a w L H → ∀ next:Act→World→Prop,
  (∀ L' H' E' h' a' w',K L' H'→a'.tmps.size=a.tmps.size→Sat cx E' h' a' w' L' H'→next a' w')→o.wp P a w next Q
theorem jaB (a:Act)(d:Option Nat)(v:Value):(a.put d v).tmps.size=a.tmps.size:=by
 cases d<;>simp[Act.put]
section
variable {P : Program} {tb : Tb} {N : Nat} {cx : Cx} {Q : Exit → Act → World → Prop} {o : Oper} {L : Sl} {H : Hp} {K : K2}
theorem jbA {d : Nat} {r : D} {c : Chunk} (hd : o.dst = some d) (hK : ltK d N (newK cx.off d r c L H K))
    (hrun : ∀ E h a w, Sat cx E h a w L H → ∃ v w' s n, (execOp a.eval o).run P w = .ok (.value v) w' ∧ Below w.heap.size w w' ∧
      ChunkOk (E.set (cx.off + d) w.heap.size s n) h w' (cx.off + d) c ∧ Den (E.set (cx.off + d) w.heap.size s n) h r v) : Heavy P N cx Q o K L H := by
  intro E h a w hN S next hnext
  obtain ⟨hlt, hK⟩ := jcJ hK
  rw [jgR] at hK
  obtain ⟨v, w', s, n, h1, h2, h3, h4⟩ := hrun E h a w S
  unfold Oper.wp
  rw [h1]
  simp only [Oper.upon, hd]
  exact hnext _ _ _ _ _ _ hK (jaB _ _ _) (S.alloc h2 h3 Jo (Nat.le_add_right _ _) h4)
def Chunk.kn:Chunk→Nat
 | .arr _ xs=>xs.length
 | _=>0
def jfT (tb:Tb)(y:Ty)(K:Chunk→Prop):Prop:=match y.kind with
 | .arr _ e=>tyK tb e fun ye=>match ye.kind with
  | .int k=>jdr k y.zero fun xs=>K (.arr k xs)
  | _=>K (.box y.zero)
 | _=>K (.box y.zero)
def allocK (tb:Tb)(N off:Nat)(d t:Nat)(L:Sl)(H:Hp)(K:K2):Prop:=tyK tb t fun y=>jfT tb y fun c=>ltK d N (newK off d (.box (off+d) 0) c L H K)
theorem alloc_el (htb:TbOk P tb){d t:Nat}(hd:o.dst=some d)(ho:o.op = .alloc t)(hh:allocK tb N cx.off d t L H K):Heavy P N cx Q o K L H:=by
 have hx:=jak hh;clear hh;obtain⟨y,hy,hh⟩:=hx
 have hty:=htb _ _ hy
 obtain⟨iy,z,i1,i2,i3,i4,i5,i6,i7,i8,i9⟩:=hty.info
 have hrun:∀ (a:Act) (w:World),(execOp a.eval o).run P w = .ok (.value (.pointer (some ⟨w.heap.size,0,none⟩))) (w.alloc (.cells z.cells t)):=fun a w=>by
  simp[execOp,ho,Instr.alloc,zeroValue,typeInfo,i1,i4,jf1]
 have fin:∀ c,(∀ (E:Env) (h:Pub) (w:World),ChunkOk (E.set (cx.off+d) w.heap.size z.cells.size c.kn) h (w.alloc (.cells z.cells t)) (cx.off+d) c)→ltK d N (newK cx.off d (.box (cx.off+d) 0) c L H K)→Heavy P N cx Q o K L H:=fun c hc hK=>
  jbA hd hK fun E h a w S=>⟨_,_,z.cells.size,c.kn,hrun a w,(Below.refl _ w).alloc (jjG _) _,hc E h w,by simp only[Den];rw[Env.set_blk,Env.set_real];exact⟨rfl,rfl⟩⟩
 have box:∀ (E:Env) (h:Pub) (w:World),ChunkOk (E.set (cx.off+d) w.heap.size z.cells.size (Chunk.kn (.box y.zero))) h (w.alloc (.cells z.cells t)) (cx.off+d) (.box y.zero):=fun E h w=>
  ⟨E.set_real _ _ _ _,z.cells.toList,[],t,by rw[Env.set_blk,jca];simp,i5 _ h,i6,by rw[Env.set_siz];simp⟩
 unfold jfT at hh
 split at hh
 ·have hx:=jak hh;clear hh;obtain⟨ye,hye,hh⟩:=hx
  split at hh
  ·obtain⟨xs,h1,h2⟩:=jdU hh
   refine fin _ (fun E h w=>?_) h1
   obtain⟨h4,h5⟩:=jd3 (E:=E) (h:=h) (by rw[← h2];exact i5 E h)
   refine .inr ⟨E.set_real _ _ _ _,[],t,?_,?_,h5,E.set_kn _ _ _ _⟩
   ·rw[Env.set_blk,jca];congr 2;apply Array.toList_inj.1;simp[h4]
   ·rw[Env.set_siz,← Array.length_toList,h4];simp
  ·exact fin (.box y.zero) box hh
 ·exact fin (.box y.zero) box hh
def boxK (tb:Tb)(N off:Nat)(d t:Nat)(x:Operand)(L:Sl)(H:Hp)(K:K2):Prop:=tyK tb t fun y=>rdg True L x fun r=>match D.free (off+d) r with
 | true=>chunkK tb y r fun c=>ltK d N (newK off d (.box (off+d) 0) c L H K)
 | false=>False
theorem box_el {d t:Nat}{x:Operand}(hd:o.dst=some d)(ho:o.op = .box t x)(hh:boxK tb N cx.off d t x L H K):Heavy P N cx Q o K L H:=by
 have hx:=jak hh;clear hh;obtain⟨y,hy,hh⟩:=hx
 obtain⟨r,hh,hr⟩:=jat hh
 cases hf:D.free (cx.off+d) r with
 | false=>rw[hf] at hh;exact hh.elim
 | true=>
  rw[hf] at hh
  obtain⟨c,hh,hl,hc⟩:=chunk_el hh
  refine jbA hd hh fun E h a w S=>?_
  have hv:=hr E h a trivial (S.facts.rd x)
  refine⟨.pointer (some ⟨w.heap.size,0,none⟩),w.alloc (.cells (a.eval x).cells t),(a.eval x).cells.size,c.kn,by simp[execOp,ho,Instr.box,jf1],(Below.refl _ w).alloc (jjG _) _,?_,by simp only[Den];rw[Env.set_blk,Env.set_real];exact⟨rfl,rfl⟩⟩
  exact hc _ h _ (Den.env (E.off_set (cx.off+d) _ _ _) hf hv) _ (cx.off+d) t (by rw[Env.set_blk,jca]) (by rw[Env.set_siz]) (E.set_real _ _ _ _) (fun k xs e=>by rw[Env.set_kn,e];rfl)
theorem jds {i:Nat}{c c':Chunk}(hd:o.dst=none)(hK:K L ((i,c')::H))(hc:lookH H i=some c)(hl:c.cel=true)
  (hrun:∀ E h a w,Sat cx E h a w L H→E.real i=true ∧ ∃ cs,(execOp a.eval o).run P w = .ok .skip (w.setRow (E.blk i) cs)∧ChunkOk E h (w.setRow (E.blk i) cs) i c'):Heavy P N cx Q o K L H:=by
 intro E h a w hN S next hnext
 obtain⟨hreal,cs,h1,h2⟩:=hrun E h a w S
 unfold Oper.wp
 rw[h1]
 simp only[Oper.upon,hd]
 exact hnext L ((i,c')::H) E h a _ hK rfl (S.write (w':=w.setRow (E.blk i) cs) hc (Chunk.live_of_cel hl) hreal rfl rfl rfl (size_setRow _ _ _) (fun b hb=>setRow_other w _ _ _ hb) h2 hl)
def storeK (tb:Tb)(t:Nat)(ax x:Operand)(L:Sl)(H:Hp)(K:K2):Prop:=tyK tb t fun y=>rdg True L ax fun da=>rdg True L x fun dx=>match da with
 | .box i off=>jaU H i fun c=>match c with
  | .box ds=>jex dx fun cs=>match Nat.beq cs.length y.size with
   | true=>jbq ds off cs fun ds'=>K L ((i,.box ds')::H)
   | false=>False
  | .arr k xs=>match dx with
   | .int k' n=>match kE k k',Nat.beq y.size 1 with
    | true,true=>(True→off<xs.length)∧K L ((i,.arr k (xs.set off n))::H)
    | _,_=>False
   | .iarr k' ys=>match kE k k' with
    | true=>(True→off=0∧ys.length=xs.length∧ys.length=y.size)∧K L ((i,.arr k ys)::H)
    | false=>False
   | .agg ds=>jdr k ds fun ys=>(True→off=0∧ys.length=xs.length∧ys.length=y.size)∧K L ((i,.arr k ys)::H)
   | _=>False
  | .gone=>False
  | .lp _=>False
  | .mp _=>False
 | _=>False
theorem jcQ {t:Nat}{y:Ty}(hy:TyOk P t y){w:World}{g off:Nat}{cur:List Value}{T:TypeId}{v:Value}(hg:w.heap[g]? = some (.cells cur.toArray T (0,0)))
  (hs:v.cells.size=y.size) (hl:off+v.cells.size≤cur.length) (h1:∀ u∈v.cells.toList,u.oneCell'=true) :
  (Instr.storeAt t (.pointer (some ⟨g,off,none⟩)) v).run P w = .ok () (w.setRow g (setAt cur off v.cells.toList).toArray):=by
 have:=run_storeCells_at P g off T v.cells.toList 0 cur.toArray w hg (by simp;omega) h1
 simp only[Instr.storeAt,Instr.sureAddr,storeVar,Sem.run_bind,Sem.run_pure,Result.andThen_ok,hy.sizeOf w,Sem.run_ite,hs]
 simp only[ne_eq,not_true_eq_false,if_false]
 rw[this]
 simp[setAt]
theorem store_el (htb:TbOk P tb){t:Nat}{ax x:Operand}(hd:o.dst=none)(ho:o.op = .store t ax x)(hh:storeK tb t ax x L H K):Heavy P N cx Q o K L H:=by
 have hx:=jak hh;clear hh;obtain⟨y,hy,hh⟩:=hx
 have hty:=htb _ _ hy
 have hz:=jat hh;clear hh;obtain⟨da,hh,ha⟩:=hz
 have hz:=jat hh;clear hh;obtain⟨dx,hh,hx⟩:=hz
 split at hh
 case h_2=>exact hh.elim
 rename_i i off
 have hy':=jay hh;clear hh;obtain⟨c,hc,hh⟩:=hy'
 have hrun:∀ (a:Act) (w w':World),(Instr.storeAt t (a.eval ax) (a.eval x)).run P w = .ok () w'→(execOp a.eval o).run P w = .ok .skip w':=fun a w w' e=>by
  simp only[execOp,ho];rw[Sem.run_bind,e];rfl
 have har:∀ k xs ys,lookH H i=some (.arr k xs)→(off=0∧ys.length=xs.length∧ys.length=y.size)→K L ((i,.arr k ys)::H) →
   (∀ E h v,Den E h dx v→v.cells.toList=ys.map (Value.int k) ∧ ∀ n∈ys,InR k n)→Heavy P N cx Q o K L H:=by
  intro k xs ys hc hk hK hden
  obtain⟨rfl,hl1,hl2⟩:=hk
  refine jds hd hK hc rfl fun E h a w S=>?_
  have hda:=ha E h a trivial (S.facts.rd ax)
  simp only[Den] at hda
  obtain⟨hda,hreal⟩:=hda
  obtain⟨rest,T,hb,hsz,hr,hkn⟩:=jbc hreal (S.mem.ok _ _ hc)
  obtain⟨h3,h4⟩:=hden E h _ (hx E h a trivial (S.facts.rd x))
  have hsz2:(a.eval x).cells.size=ys.length:=by rw[← Array.length_toList,h3];simp
  refine⟨hreal,_,hrun a w _ (by rw[hda];exact jcQ hty hb Jo (by simp;omega) (by rw[h3];exact jbt)),?_⟩
  refine .inr ⟨hreal,rest,T,?_,Jo,h4,Jo⟩
  rw[setRow_heap w _ _ _ T (0,0) hb,h3]
  congr 2
  apply Array.toList_inj.1
  simp[setAt,hl1]
 split at hh
 ·rename_i ds
  obtain⟨cs,hh,hcs⟩:=jeP hh
  cases hb:Nat.beq cs.length y.size with
  | false=>rw[hb] at hh;exact hh.elim
  | true=>
   rw[hb] at hh
   have hs:=jae hb
   obtain⟨hle,hh⟩:=jcP hh
   refine jds hd hh hc rfl fun E h a w S=>?_
   obtain⟨hreal,vs,rest,T,hb,h1,h2,hsz⟩:=S.mem.ok _ _ hc
   have hda:=ha E h a trivial (S.facts.rd ax)
   simp only[Den] at hda
   obtain⟨hda,_⟩:=hda
   obtain⟨h3,h4⟩:=hcs E h _ (hx E h a trivial (S.facts.rd x))
   have hl1:=h3.length
   have hl2:=h1.length
   simp only[Array.length_toList] at hl1
   refine⟨hreal,_,hrun a w _ (by rw[hda];exact jcQ hty hb Jo (by simp;omega) h4),?_⟩
   have hfit:off+(Value.cells (a.eval x)).toList.length≤vs.length:=by rw[Array.length_toList];omega
   exact⟨hreal,_,rest,T,by rw[setRow_heap w _ _ _ T (0,0) hb,je1 hfit],h1.setAt h3 off,jco h2 h4,by rw[jbM hfit];exact hsz⟩
 ·rename_i k xs
  split at hh
  ·rename_i k' n
   split at hh
   case h_2=>exact hh.elim
   rename_i hk hb1
   have:=kE_eq hk;subst this
   have hs:=jae hb1
   have hlt:=hh.1 trivial
   refine jds hd hh.2 hc rfl fun E h a w S=>?_
   have hda:=ha E h a trivial (S.facts.rd ax)
   have hdx:=hx E h a trivial (S.facts.rd x)
   simp only[Den] at hda hdx
   obtain⟨hdx,hrn⟩:=hdx
   obtain⟨hda,hreal⟩:=hda
   obtain⟨rest,T,hb,hsz,hr,hkn⟩:=jbc hreal (S.mem.ok _ _ hc)
   refine⟨hreal,_,hrun a w _ (by rw[hda,hdx];exact jcQ hty hb (by rw[hs];rfl) (by simp[Value.cells];omega) (by simp[Value.cells,Value.oneCell'])),?_⟩
   refine .inr ⟨hreal,rest,T,?_,by simp[hsz],?_,by simp[hkn]⟩
   ·rw[setRow_heap w _ _ _ T (0,0) hb]
    congr 2
    apply Array.toList_inj.1
    simp only[Value.cells,setAt,List.length_singleton,List.map_set]
    rw[← List.set_append_left _ _ (by simpa using hlt)]
    rw[List.set_eq_take_append_cons_drop,if_pos (by simp;omega)]
    simp
   ·intro m hm
    rcases List.mem_or_eq_of_mem_set hm with hm|rfl
    ·exact hr m hm
    ·exact hrn
  ·rename_i k' ys
   split at hh
   case h_2=>exact hh.elim
   rename_i hk
   have:=kE_eq hk;subst this
   refine har _ _ _ hc (hh.1 trivial) hh.2 (fun E h v hv=>?_)
   simp only[Den] at hv
   obtain⟨rfl,h1⟩:=hv
   exact⟨by simp[Value.cells],h1⟩
  ·rename_i ds
   obtain⟨ys,hz,rfl⟩:=jdU hh
   refine har _ _ _ hc (hz.1 trivial) hz.2 (fun E h v hv=>?_)
   simp only[Den] at hv
   obtain⟨vs,rfl,h1,_⟩:=hv
   obtain⟨h2,h3⟩:=jd3 h1
   exact⟨by simp[Value.cells,h2],h3⟩
  ·exact hh.elim
 ·exact hh.elim
 ·exact hh.elim
 ·exact hh.elim
end
end Go.V
end
section
namespace Go.V
open Go Go.RowKit
section
variable {P : Program} {tb : Tb} {N : Nat} {cx : Cx} {Q : Exit → Act → World → Prop} {o : Oper} {L : Sl} {H : Hp} {K : K2}
def jgE:Nat→List (Nat×Operand)→Bool
 | _,[]=>true
 | n,(i,_)::ps=>match Nat.beq i n with|true=>jgE (n+1) ps|false=>false
def jfL (tb:Tb)(N off:Nat)(d t n:Nat)(parts:Array (Nat×Operand))(L:Sl)(H:Hp)(K:K2):Prop:=tyK tb t fun y=>match y.kind with
 | .slice e=>tyK tb e fun ye=>match ye.kind with
  | .int k=>match jgE 0 parts.toList,Nat.beq parts.toList.length n,Nat.beq ye.size 1,Nat.ble n 1000 with
   | true,true,true,true=>rdsK True L (parts.toList.map (·.2)) fun ds=>jdr k ds fun xs=>ltK d N (newK off d (.osl (off+d) 0 n) (.arr k xs) L H K)
   | _,_,_,_=>False
  | _=>match Nat.beq (n*ye.size) 0,Nat.ble (n*ye.size) 100000,Nat.ble n 100000 with
   | false,true,true=>fillK True L (fun i K=>K (i*ye.size) ye.size) parts.toList (List.replicate (n*ye.size) .any) fun ds=>match D.freeL (off+d) ds with
    | true=>ltK d N (newK off d (.bsl (off+d) 0 n ye.size) (.box ds) L H K)
    | false=>False
   | true,_,_=>match parts.toList,Nat.beq n 0 with
    | [],true=>ltK d N (newK off d (.bsl (off+d) 0 0 ye.size) (.box []) L H K)
    | _,_=>False
   | _,_,_=>False
 | _=>False
theorem denL_any {E:Env}{h:Pub} : ∀ (vs:List Value),DenL E h (List.replicate vs.length .any) vs
 | []=>by simp[DenL]
 | v::vs=>by
  simp only[jkn,List.replicate_succ,DenL,Den,true_and]
  exact⟨v,vs,rfl,denL_any vs⟩
theorem fill_seq (vals:Operand→Value):∀ (ps:List (Nat×Operand)) (n:Nat) (cells:Array Value),jgE n ps=true→n+ps.length=cells.size→(∀ p∈ps, ∃ k m,vals p.2 = .int k m) →
  ∃ cs,Instr.fill (fun i=>some (i*1,1)) cells (ps.map fun p=>(p.1,vals p.2))=some cs∧cs.toList=cells.toList.take n++ps.map fun p=>vals p.2
 | [],n,cells,_,hl,_=>⟨cells,rfl,by simp only[List.length_nil,jjD] at hl;simp only[List.map_nil,List.append_nil];rw[jko (by simp;omega)]⟩
 | (i,x)::ps,n,cells,hs,hl,hv=>by
  simp only[jgE] at hs
  cases hb:Nat.beq i n with
  | false=>rw[hb] at hs;simp at hs
  | true=>
   rw[hb] at hs
   have:=jae hb;subst this
   obtain⟨k,m,hkm⟩:=hv (i,x) Js
   simp only at hkm
   simp only[jkn] at hl
   have hc1:(Value.int k m).cells = #[.int k m]:=rfl
   simp only[List.map_cons,Instr.fill,hkm]
   rw[if_neg (by simp[hc1];omega)]
   have hf:((Value.int k m).cells.zipIdx.foldl (fun (cs:Array Value) (p:Value×Nat)=>cs.setIfInBounds (i*1+p.2) p.1) cells)=cells.setIfInBounds i (.int k m):=by simp[hc1]
   obtain⟨cs,h1,h2⟩:=fill_seq vals ps (i+1) (cells.setIfInBounds i (.int k m)) hs (by simp;omega) (fun p hp=>hv p (by simp[hp]))
   refine⟨cs,by rw[← h1];congr 1,?_⟩
   rw[h2]
   simp only[Array.toList_setIfInBounds]
   rw[List.take_succ_eq_append_getElem (by simp;omega)]
   simp only[List.getElem_set_self,jkf,List.singleton_append]
   rw[List.take_set,List.set_eq_of_length_le (by simp;omega)]
theorem jhd (htb:TbOk P tb){d t n:Nat}{parts:Array (Nat×Operand)}(hd:o.dst=some d)(ho:o.op = .buildSlice t n parts)(hh:jfL tb N cx.off d t n parts L H K):Heavy P N cx Q o K L H:=by
 have hx:=jak hh;clear hh;obtain⟨y,hy,hh⟩:=hx
 have hty:=htb _ _ hy
 split at hh
 case h_2=>exact hh.elim
 rename_i e hk
 have hu:=jaw hty hk
 have hx:=jak hh;clear hh;obtain⟨ye,hye,hh⟩:=hx
 have hte:=htb _ _ hye
 split at hh
 case h_2=>
  split at hh
  case h_3=>exact hh.elim
  case h_2=>
   split at hh
   case h_2=>exact hh.elim
   rename_i hp0 hb0
   have hn:=jae hb0
   subst hn
   have hpe:parts = #[]:=Array.toList_inj.1 (by simpa using hp0)
   subst hpe
   refine jbA hd hh fun E h a w S=>?_
   refine⟨.slice (some ⟨w.heap.size,0,none⟩) 0 0,w.alloc (.cells #[] e),0,(Chunk.kn (.box [])),?_,(Below.refl _ w).alloc (jjG _) _,?_,?_⟩
   ·simp only[execOp,ho,Instr.buildSlice,Sem.run_bind,run_underlying hu,Result.andThen_ok,hte.sizeOf w,Sem.run_ite]
    simp[Instr.fill,newRow,show Array.range 0=(#[]:Array Nat) from rfl]
   ·exact⟨E.set_real _ _ _ _,[],[],e,by rw[Env.set_blk,jca];simp,by simp[DenL],Js,by rw[Env.set_siz];simp⟩
   ·simp only[Den]
    exact⟨E.set_real _ _ _ _,0,by rw[Env.set_blk],jjG _,Jo,.inl rfl⟩
  rename_i hb1 hb2 hb3
  have hn9:=jjw hb3
  have hn0:¬ n*ye.size=0:=fun e=>by rw[e] at hb1;exact absurd hb1 Jd
  have hsz0:=jjw hb2
  obtain⟨iy,z,i1,i2,i3,i4,i5,i6,i7,i8,i9⟩:=hte.info
  obtain⟨rs,hr,hf⟩:=jiw (pl:=fun i=>some (i*ye.size,ye.size)) (fun i K h=>⟨_,_,rfl,h⟩) hh
  cases hfr:D.freeL (cx.off+d) rs with
  | false=>rw[hfr] at hr;exact hr.elim
  | true=>
   rw[hfr] at hr
   refine jbA hd hr fun E h a w S=>?_
   obtain⟨zz,hzz⟩:∃ zz:Array Value,zz=(Array.range (n*ye.size)).map (z.cells[· % z.cells.size]!):=⟨_,rfl⟩
   have hzs:zz.size=n*ye.size:=by rw[hzz];simp
   have hz1:∀ u∈zz.toList,u.oneCell'=true:=by
    intro u hu
    rw[hzz] at hu
    simp only[Array.toList_map,List.mem_map] at hu
    obtain⟨q,hq,rfl⟩:=hu
    have hq1:q<n*ye.size:=by simpa using hq
    have hzc:0<z.cells.size:=by
     rw[i8]
     rcases jjI ye.size with e|e
     ·rw[e,Nat.mul_zero] at hq1;omega
     ·exact e
    have hlt:=jjJ q hzc
    refine i6 _ ?_
    rw[getElem!_pos z.cells _ hlt]
    exact Array.getElem_mem_toList hlt
   obtain⟨cs,h3,h4,h5⟩:=hf E h a S.facts.rd trivial zz (by have:=denL_any (E:=E) (h:=h) zz.toList;rw[Array.length_toList,hzs] at this;exact this) hz1
   refine⟨.slice (some ⟨w.heap.size,0,none⟩) n n,w.alloc (.cells cs e),cs.size,(Chunk.kn (.box rs)),?_,(Below.refl _ w).alloc (jjG _) _,?_,?_⟩
   ·have hp:(parts.map fun p=>(p.1,a.eval p.2)).toList=parts.toList.map fun p=>(p.1,a.eval p.2):=Js
    have h6:¬ (n*ye.size>2^24):=by simp;omega
    simp only[execOp,ho,Instr.buildSlice,Sem.run_bind,run_underlying hu,Result.andThen_ok,hte.sizeOf w,Sem.run_ite,if_neg h6,if_neg hn0,Sem.run_pure]
    have hz:(zeroValue e).run P w = .ok z w:=by simp[zeroValue,typeInfo,i1,i4]
    simp only[hz,Result.andThen_ok]
    rw[hp,← hzz,h3]
    simp[newRow]
   ·exact⟨E.set_real _ _ _ _,cs.toList,[],e,by rw[Env.set_blk,jca];simp,DenL.env (E.off_set _ _ _ _) hfr h4,h5,by rw[Env.set_siz];simp⟩
   ·simp only[Den]
    exact⟨E.set_real _ _ _ _,n,by rw[Env.set_blk],jjG _,Jo,.inl rfl⟩
 rename_i k hke
 split at hh
 case h_2=>exact hh.elim
 rename_i hb1 hb2 hb3 hb4
 have hn:=jae hb2
 have hs1:=jae hb3
 have hn2:=jjw hb4
 obtain⟨ds,hh,hl,hds⟩:=jdk hh
 obtain⟨xs,hz',rfl⟩:=jdU hh
 refine jbA hd hz' fun E h a w S=>?_
 obtain⟨h1,h2⟩:=jd3 (hds E h a S.facts.rd trivial)
 obtain⟨iy,z,i1,i2,i3,i4,i5,i6,i7,i8,i9⟩:=hte.info
 have hlen:xs.length=n:=by simp only[List.length_map] at hl hn;omega
 have hz:n≠0→(zeroValue e).run P w = .ok z w:=fun _=>by simp[zeroValue,typeInfo,i1,i4]
 have hvals:∀ p∈parts.toList, ∃ k m,a.eval p.2 = .int k m:=by
  intro p hp
  have:a.eval p.2∈(parts.toList.map (·.2)).map a.eval:=by simp only[List.map_map];exact List.mem_map.2 ⟨p,hp,rfl⟩
  rw[h1] at this
  obtain⟨m,_,hm⟩:=List.mem_map.1 this
  exact⟨k,m,hm.symm⟩
 obtain⟨zz,hzz⟩:∃ zz:Array Value,zz=(Array.range (n*1)).map ((if n=0 then #[] else z.cells)[· % (if n=0 then #[] else z.cells).size]!):=⟨_,rfl⟩
 have hzs:zz.size=n:=by rw[hzz];simp
 obtain⟨cs,h3,h4⟩:=fill_seq a.eval parts.toList 0 zz hb1 (by rw[hzs];omega) hvals
 have h5:cs.toList=xs.map (Value.int k):=by rw[h4,← h1];simp
 refine⟨.slice (some ⟨w.heap.size,0,none⟩) n n,w.alloc (.cells cs e),n,n,?_,(Below.refl _ w).alloc (jjG _) _,?_,?_⟩
 ·have hp:(parts.map fun p=>(p.1,a.eval p.2)).toList=parts.toList.map fun p=>(p.1,a.eval p.2):=Js
  have hsz:(sizeOf e).run P w = .ok 1 w:=by rw[hte.sizeOf w,hs1]
  by_cases hn0:n=0
  ·subst hn0
   simp only[if_true] at hzz
   simp only[execOp,ho,Instr.buildSlice,Sem.run_bind,run_underlying hu,Result.andThen_ok,hsz,Sem.run_ite]
   simp only[Nat.zero_mul,gt_iff_lt,Nat.not_lt_zero,if_false,if_true,Sem.run_pure,Result.andThen_ok]
   have hzz':zz=(Array.range 0).map ((#[]:Array Value)[· % (#[]:Array Value).size]!):=by rw[hzz]
   rw[hp,← hzz',show (fun i=>some (i*1,1))=(fun i:Nat=>some (i*1,1)) from rfl,h3]
   simp[newRow]
  ·simp only[if_neg hn0] at hzz
   have h6:¬ (n*1>2^24):=by simp;omega
   have h7:¬ (n*1=0):=Jo
   simp only[execOp,ho,Instr.buildSlice,Sem.run_bind,run_underlying hu,Result.andThen_ok,hsz,Sem.run_ite,if_neg h6,if_neg h7,Sem.run_pure,hz hn0]
   rw[hp,← hzz,h3]
   simp[newRow]
 ·refine .inr ⟨E.set_real _ _ _ _,[],e,?_,?_,h2,by rw[Env.set_kn];omega⟩
  ·rw[Env.set_blk,jca];congr 2;apply Array.toList_inj.1;simp[h5]
  ·rw[Env.set_siz];simp[hlen]
 ·simp only[Den]
  exact .inr ⟨E.set_real _ _ _ _,0,n,by rw[Env.set_blk],jjG _,by rw[Env.set_siz];omega,Jo,.inl rfl,by rw[Env.set_kn];omega⟩
def zero0K (y:Ty)(k:IntKind)(K:Prop):Prop:=match y.zero with
 | [.int k' 0]=>match kE k k' with|true=>K|false=>False
 | _=>False
theorem zero0_el {y:Ty}{k:IntKind}{K:Prop}(h:zero0K y k K):y.zero=[.int k 0]∧K:=by
 unfold zero0K at h
 split at h
 ·rename_i k' heq
  cases hk:kE k k' with
  | false=>rw[hk] at h;exact h.elim
  | true=>rw[hk] at h;have:=kE_eq hk;subst this;exact⟨heq,h⟩
 ·exact h.elim
def repD:Nat→List D→List D
 | 0,_=>[]
 | n+1,zs=>repD n zs++zs
theorem jeu {i:Nat} : ∀ {a b:List D},D.freeL i a=true→D.freeL i b=true→D.freeL i (a++b)=true
 | [],_,_,hb=>hb
 | d::ds,b,ha,hb=>by
  simp only[List.cons_append,D.freeL] at ha ⊢
  split at ha
  ·exact jeu ha hb
  ·cases ha
theorem jhI {i:Nat}{zs:List D}(h:D.freeL i zs=true):∀ n,D.freeL i (repD n zs)=true
 | 0=>rfl
 | n+1=>jeu (jhI h n) h
theorem jew {E:Env}{h:Pub} : ∀ {a b:List D} {us vs:List Value},DenL E h a us→DenL E h b vs→DenL E h (a++b) (us++vs)
 | [],_,us,vs,ha,hb=>by simp only[DenL] at ha;subst ha;exact hb
 | d::ds,b,us,vs,ha,hb=>by
  simp only[List.cons_append,DenL] at ha ⊢
  obtain⟨v,vs',rfl,h1,h2⟩:=ha
  exact⟨v,vs'++vs,rfl,h1,jew h2 hb⟩
theorem jdR {E:Env}{h:Pub}{z:Array Value}{zs:List D}(hz:0<z.size)(hd:DenL E h zs z.toList):∀ n,DenL E h (repD n zs) (madeCells z (n*z.size)).toList
 | 0=>by simp[repD,DenL,madeCells]
 | n+1=>by
  have e:(madeCells z ((n+1)*z.size)).toList=(madeCells z (n*z.size)).toList++z.toList:=by
   simp only[madeCells,Array.toList_map,Array.toList_range]
   rw[Nat.add_mul,Nat.one_mul,List.range_add,List.map_append,List.map_map]
   congr 1
   apply List.ext_getElem?
   intro i
   simp only[List.getElem?_map]
   by_cases hi:i<z.size
   ·have e2:(n*z.size+i)%z.size=i:=by rw[jjK,Nat.mul_add_mod,jjL hi]
    simp[hi,e2]
   ·simp[hi]
  rw[e]
  exact jew (jdR hz hd n) hd
def jgb (tb:Tb)(N off:Nat)(d t:Nat)(l c:Operand)(L:Sl)(H:Hp)(K:K2):Prop:=tyK tb t fun y=>match y.kind with
 | .slice e=>tyK tb e fun ye=>match ye.kind with
  | .int k=>zero0K ye k<|match Nat.beq ye.size 1,Nat.ble ye.bytes 8 with
   | true,true=>rdg True L l fun dl=>rdg True L c fun dc=>match dl,dc with
    | .int _ m,.int _ n=>(True→0≤m∧m≤n∧n≤17592186044416)∧ltK d N (newK off d (.osl (off+d) 0 m.toNat) (.arr k (List.replicate m.toNat 0)) L H K)
    | _,_=>False
   | _,_=>False
  | _=>match Nat.beq ye.size 0,Nat.ble ye.bytes 1000,D.freeL (off+d) ye.zero with
   | false,true,true=>rdg True L l fun dl=>rdg True L c fun dc=>match dl,dc with
    | .int _ m,.int _ n=>(True→m=n∧0≤m∧m≤100000)∧ltK d N (newK off d (.bsl (off+d) 0 m.toNat ye.size) (.box (repD m.toNat ye.zero)) L H K)
    | _,_=>False
   | _,_,_=>False
 | _=>False
theorem zero_inR (k:IntKind):InR k 0:=⟨jcp k,jd7 k⟩
theorem jgW {k:IntKind}{z:Value}(hz:z = .int k 0)(n:Nat):(madeCells z.cells n).toList=List.replicate n (.int k 0):=by
 subst hz
 simp only[madeCells,Value.cells]
 apply List.ext_getElem?
 intro i
 by_cases hi:i<n
 ·simp[hi,Nat.mod_one]
 ·simp[hi]
theorem jez {e:Nat}{ye:Ty}(hte:TyOk P e ye):∃ iy,P.info? e=some iy∧iy.size=ye.size∧iy.bytes=ye.bytes ∧ ∃ z,iy.zero=some z∧(∀ E h,DenL E h ye.zero z.cells.toList):=by
 obtain⟨iy,z,i1,i2,i3,i4,i5,_⟩:=hte.info
 exact⟨iy,i1,i2,i3,z,i4,i5⟩
theorem jhA (htb:TbOk P tb){d t:Nat}{l c:Operand}(hd:o.dst=some d)(ho:o.op = .makeSlice t l c)(hh:jgb tb N cx.off d t l c L H K):Heavy P N cx Q o K L H:=by
 have hx:=jak hh;clear hh;obtain⟨y,hy,hh⟩:=hx
 have hty:=htb _ _ hy
 split at hh
 case h_2=>exact hh.elim
 rename_i e hk
 have hu:=jaw hty hk
 have hx:=jak hh;clear hh;obtain⟨ye,hye,hh⟩:=hx
 have hte:=htb _ _ hye
 split at hh
 case h_2=>
  split at hh
  case h_2=>exact hh.elim
  rename_i hb1 hb2 hb3
  have hb8:=jjw hb2
  have hz:=jat hh;clear hh;obtain⟨dl,hh,hl⟩:=hz
  have hz:=jat hh;clear hh;obtain⟨dc,hh,hc⟩:=hz
  split at hh
  case h_2=>exact hh.elim
  rename_i k1 m k2 n
  obtain⟨g1,g2,g3⟩:=hh.1 trivial
  subst g1
  obtain⟨iy,z,i1,i2,i3,i4,i5,i6,i7,i8,i9⟩:=hte.info
  refine jbA hd hh.2 fun E h a w S=>?_
  have h1:=hl E h a trivial (S.facts.rd l)
  have h2:=hc E h a trivial (S.facts.rd c)
  simp only[Den] at h1 h2
  have hbytes:(iy.bytes:Int)*m≤281474976710656:=by
   have e1:(iy.bytes:Int)≤1000:=by rw[i3];omega
   have e2:(iy.bytes:Int)*m≤1000*m:=jjM e1 Jo
   omega
  have hrun:=run_make (P:=P) w t e iy z hu i1 i4 k1 k2 m m g2 (Int.le_refl _) hbytes Jo
  have hs0:0<z.cells.size:=by
   rw[i8]
   rcases jjI ye.size with e|e
   ·rw[e] at hb1;exact absurd hb1 Jd
   ·exact e
  have hcl:∀ v∈(madeCells z.cells (m.toNat*iy.size)).toList,v.oneCell'=true:=by
   intro v hv
   simp only[madeCells,Array.toList_map,List.mem_map] at hv
   obtain⟨q,_,rfl⟩:=hv
   refine i6 _ ?_
   have hlt:=jjJ q hs0
   rw[getElem!_pos z.cells _ hlt]
   exact Array.getElem_mem_toList hlt
  refine⟨_,_,(madeCells z.cells (m.toNat*iy.size)).size,Chunk.kn (.box (repD m.toNat ye.zero)),by simp only[execOp,ho,h1.1,h2.1];rw[Sem.run_bind,hrun];rfl,(Below.refl _ w).alloc (jjG _) _,?_,?_⟩
  ·have hdn:DenL E h (repD m.toNat ye.zero) (madeCells z.cells (m.toNat*iy.size)).toList:=by
    rw[i2,← i8]
    exact jdR hs0 (i5 E h) _
   exact⟨E.set_real _ _ _ _,(madeCells z.cells (m.toNat*iy.size)).toList,[],e,by rw[Env.set_blk,jca];simp,DenL.env (E.off_set _ _ _ _) (jhI hb3 _) hdn,hcl,by rw[Env.set_siz];simp⟩
  ·simp only[Den]
   exact⟨E.set_real _ _ _ _,m.toNat,by rw[Env.set_blk],jjG _,Jo,.inl rfl⟩
 rename_i k hke
 obtain⟨hz0,hh⟩:=zero0_el hh
 split at hh
 case h_2=>exact hh.elim
 rename_i hb1 hb2
 have hs1:=jae hb1
 have hb8:=jjw hb2
 have hz:=jat hh;clear hh;obtain⟨dl,hh,hl⟩:=hz
 have hz:=jat hh;clear hh;obtain⟨dc,hh,hc⟩:=hz
 split at hh
 case h_2=>exact hh.elim
 rename_i k1 m k2 n
 obtain⟨g1,g2,g3⟩:=hh.1 trivial
 obtain⟨iy,i1,i2,i3,z,i4,i5⟩:=jez hte
 refine jbA hd hh.2 fun E h a w S=>?_
 have h1:=hl E h a trivial (S.facts.rd l)
 have h2:=hc E h a trivial (S.facts.rd c)
 simp only[Den] at h1 h2
 have hzc:z.cells.toList=[.int k 0]:=by
  have:=i5 E h
  rw[hz0] at this
  simp only[DenL,Den] at this
  obtain⟨_,_,h3,⟨rfl,_⟩,rfl⟩:=this
  exact h3
 have hbytes:(iy.bytes:Int)*n≤281474976710656:=by
  have:(iy.bytes:Int)≤8:=by rw[i3];omega
  have h4:(iy.bytes:Int)*n≤8*n:=jjM this Jo
  omega
 have hrun:=run_make (P:=P) w t e iy z hu i1 i4 k1 k2 m n g1 g2 hbytes Jo
 have hmc:(madeCells z.cells (n.toNat*iy.size)).toList=List.replicate n.toNat (.int k 0):=by
  rw[i2,hs1,Nat.mul_one]
  have hz':z.cells = #[.int k 0]:=Array.toList_inj.1 (by simpa using hzc)
  have:=jgW (k:=k) (z := .int k 0) rfl n.toNat
  rw[hz'];exact this
 refine⟨_,_,n.toNat,m.toNat,by simp only[execOp,ho,h1.1,h2.1];rw[Sem.run_bind,hrun];rfl,(Below.refl _ w).alloc (jjG _) _,?_,?_⟩
 ·refine .inr ⟨E.set_real _ _ _ _,List.replicate (n.toNat-m.toNat) (.int k 0),e,?_,?_,?_,by rw[Env.set_kn];simp⟩
  ·rw[Env.set_blk,jca]
   congr 2
   apply Array.toList_inj.1
   rw[hmc]
   simp only[List.map_replicate,List.replicate_append_replicate]
   congr 1;omega
  ·rw[Env.set_siz];simp;omega
  ·intro x hx
   rw[List.eq_of_mem_replicate hx];exact zero_inR k
 ·simp only[Den]
  exact .inr ⟨E.set_real _ _ _ _,0,n.toNat,by rw[Env.set_blk],Jo,by rw[Env.set_siz];omega,Jo,.inl rfl,by rw[Env.set_kn];omega⟩
def srcK (k:IntKind)(H:Hp)(d:D)(K:List Int→Prop):Prop:=match d with
 | .ints k' ys=>match kE k k' with|true=>K ys|false=>False
 | .nil=>K []
 | .osl i off len=>jaU H i fun c=>match c with
  | .arr k' ys=>match kE k k' with|true=>(True→off+len≤ys.length)∧K ((ys.drop off).take len)|false=>False
  | _=>False
 | _=>False
theorem jhj {k:IntKind}{H:Hp}{d:D}{K:List Int→Prop}(hh:srcK k H d K) :
  ∃ ys,K ys ∧ ∀ E h a (w:World) L,Facts E h a w L H → ∀ v,Den E h d v→(∀ n∈ys,InR k n)∧ys.length≤281474976710656 ∧ ∃ ad cap,v = .slice ad ys.length cap ∧
   (match ad with|none=>ys=[]|some ad => ∀ (j:Nat) u,(ys.map (Value.int k))[j]? = some u→w.cell? (ad.add j)=some u):=by
 unfold srcK at hh
 split at hh
 ·rename_i k' ys
  split at hh
  case h_2=>exact hh.elim
  rename_i hk
  have:=kE_eq hk;subst this
  refine⟨ys,hh,fun E h a w L F v hv=>?_⟩
  simp only[Den,jaQ] at hv
  obtain⟨ad,cap,rfl,h1,h2,h3,h4⟩:=hv
  refine⟨h3,h2,ad,cap,rfl,?_⟩
  cases ad with
  | none=>exact h4.1
  | some ad=>
   intro j u hu
   rw[List.getElem?_map] at hu
   cases hx:ys[j]? with
   | none=>rw[hx] at hu;cases hu
   | some n=>rw[hx] at hu;cases hu;rw[jbO h4.1];exact F.agree _ _ _ (h4.2 j n hx)
 ·refine⟨[],hh,fun E h a w L F v hv=>?_⟩
  simp only[Den] at hv
  exact⟨Js,Js,none,0,by simpa using hv,rfl⟩
 ·rename_i i off len
  have hy':=jay hh;clear hh;obtain⟨c,hc,hh⟩:=hy'
  split at hh
  case h_2=>exact hh.elim
  rename_i k' ys
  split at hh
  case h_2=>exact hh.elim
  rename_i hk
  have:=kE_eq hk;subst this
  have hle:=hh.1 trivial
  refine⟨_,hh.2,fun E h a w L F v hv=>?_⟩
  simp only[Den] at hv
  rcases hv with⟨hreal,rfl,hl0⟩|⟨hreal,o,cap,rfl,h1,h2,h3,h4,hko⟩
  ·subst hl0
   simp only[List.take_zero]
   exact⟨Js,Js,none,0,rfl,trivial⟩
  obtain⟨rest,T,hb,hsz,hr,hkn⟩:=jbc hreal (F.chunk _ _ hc)
  have hlen:((ys.drop off).take len).length=len:=by simp;omega
  refine⟨fun n hn=>hr n (jki (jkj hn)),Jo,_,cap,by rw[hlen],?_⟩
  intro j u hu
  have hj:j<len:=by
   have:=(jkh.1 hu).1
   simp at this;omega
  rw[jaO]
  have ho:o=off:=by rcases h4 with h4|h4<;>omega
  subst ho
  refine jcd hb ?_
  rw[jkg (by simp;omega)]
  rw[List.map_take,List.map_drop] at hu
  have:=jaY hu
  simpa using this
 ·exact hh.elim
def Env.virt (E:Env)(i:Nat):Env:=⟨E.blk,E.siz,E.kn,fun j=>if j=i then false else E.real j,E.lpr⟩
theorem Env.off_virt (E:Env)(i:Nat):E.off (E.virt i) i:=fun j hj=>by simp[Env.virt,hj]
theorem Env.virt_real (E:Env)(i:Nat):(E.virt i).real i=false:=by simp[Env.virt]
section
variable {E : Env} {h : Pub} {a : Act} {w : World}
theorem Sat.fresh (S : Sat cx E h a w L H) {i : Nat} {r : D} {c : Chunk} {v : Value} {w' : World} {b s n : Nat}
    (ho : w'.os = w.os) (ht : w'.tape = w.tape) (hout : w'.output = w.output) (hsz : w.heap.size ≤ w'.heap.size)
    (hkeep : ∀ k, k < w.heap.size → k ≠ b → w'.heap[k]? = w.heap[k]?) (hB : cx.w0.heap.size ≤ b) (hpub : ∀ o, h b o = none)
    (hcell : ∀ o, w.heap[b]? = some o → o.isCells = true)
    (hinj : ∀ j c', j ≠ i → lookH H j = some c' → c'.live = true → E.real j = true → E.blk j ≠ b)
    (hc : ChunkOk (E.set i b s n) h w' i c) {d : Nat} (hi : d < a.tmps.size) (hoff' : cx.off ≤ i) (hv : Den (E.set i b s n) h r v) :
    Sat cx (E.set i b s n) h (a.put (some d) v) w' ((d, r) :: purge i L) ((i, c) :: jaK i H) := by
  have hoff := E.off_set i b s n
  have live : ∀ j c', j ≠ i → lookH ((i, c) :: jaK i H) j = some c' → c'.live = true → ∃ c0, lookH H j = some c0 ∧ c' = jb8 i c0 ∧ c0.live = true := by
    intro j c' hj hc' hl
    rw [jag, if_neg (Ne.symm hj)] at hc'
    obtain ⟨c0, h1, h2⟩ := jbo hc'
    exact ⟨c0, h1, h2, by rw [h2, jbm] at hl; exact hl⟩
  refine { knows := ?_, mem := ?_, agree := ?_, since := ?_, low := fun j hj => jfn S.low hoff hoff' j hj, side := S.side.keep fun k o hko hno => (by
    by_cases e : k = b
    · subst e; rw [hcell o hko] at hno; cases hno
    · rw [hkeep k (Array.getElem?_eq_some_iff.1 hko).1 e]; exact hko) }
  · exact jcZ (fun t => jbW hoff (S.knows t)) hi hv
  · refine { ok := ?_, base := ?_, unpub := ?_, inj := ?_ }
    · intro j c' hc'
      by_cases hj : j = i
      · subst hj; rw [jag, if_pos rfl] at hc'; cases hc'; exact hc
      · cases hl : c'.live with
        | false => cases c' <;> first | trivial | (simp [Chunk.live] at hl)
        | true =>
          obtain ⟨c0, h1, rfl, hl'⟩ := live j c' hj hc' hl
          have h4 := S.mem.ok j _ h1
          exact ChunkOk.env hoff hj (h4.keep fun hl hr => hkeep _ (h4.lt hl hr) (hinj j _ hj h1 hl hr))
    · intro j c' hc' hl hr
      by_cases hj : j = i
      · subst hj; rw [Env.set_blk]; exact hB
      · obtain ⟨c0, h1, rfl, hl'⟩ := live j c' hj hc' hl
        rw [E.set_real_ne _ _ _ hj] at hr
        rw [E.set_blk_ne _ _ _ hj]; exact S.mem.base j _ h1 hl' hr
    · intro j c' hc' hl hr o
      by_cases hj : j = i
      · subst hj; rw [Env.set_blk]; exact hpub o
      · obtain ⟨c0, h1, rfl, hl'⟩ := live j c' hj hc' hl
        rw [E.set_real_ne _ _ _ hj] at hr
        rw [E.set_blk_ne _ _ _ hj]; exact S.mem.unpub j _ h1 hl' hr o
    · intro j k c1 c2 hjk h1 h2 l1 l2 r1 r2
      by_cases hj : j = i
      · subst hj
        obtain ⟨c0, g1, rfl, l2'⟩ := live k c2 (Ne.symm hjk) h2 l2
        rw [E.set_real_ne _ _ _ (Ne.symm hjk)] at r2
        rw [Env.set_blk, E.set_blk_ne _ _ _ (Ne.symm hjk)]
        exact (hinj k _ (Ne.symm hjk) g1 l2' r2).symm
      · obtain ⟨c0, g1, rfl, l1'⟩ := live j c1 hj h1 l1
        rw [E.set_real_ne _ _ _ hj] at r1
        by_cases hk : k = i
        · subst hk
          rw [Env.set_blk, E.set_blk_ne _ _ _ hj]
          exact hinj j _ hj g1 l1' r1
        · obtain ⟨c0', g2, rfl, l2'⟩ := live k c2 hk h2 l2
          rw [E.set_real_ne _ _ _ hk] at r2
          rw [E.set_blk_ne _ _ _ hj, E.set_blk_ne _ _ _ hk]
          exact S.mem.inj j k _ _ hjk g1 g2 l1' l2' r1 r2
  · exact S.agree.of_blocks fun k ⟨o, v, hw⟩ => hkeep k (S.agree.lt hw) (fun e => by subst e; rw [hpub o] at hw; cases hw)
  · exact ⟨S.since.below.trans ⟨ho, ht, hout, hsz, fun k hk => hkeep k (jjN hk S.since.below.size) Jo⟩, S.since.le, S.since.old⟩
theorem Sat.virt (S:Sat cx E h a w L H){i:Nat}{r:D}{k:IntKind}{v:Value}{d:Nat}(hi:d<a.tmps.size)(hoff':cx.off≤i)(hv:Den (E.virt i) h r v) :
  Sat cx (E.virt i) h (a.put (some d) v) w ((d,r)::purge i L) ((i,.arr k [])::jaK i H):=by
 have hoff:=E.off_virt i
 have live:∀ j c',j≠i→lookH ((i,.arr k [])::jaK i H) j=some c'→c'.live=true → ∃ c0,lookH H j=some c0∧c'=jb8 i c0∧c0.live=true:=by
  intro j c' hj hc' hl
  rw[jag,if_neg (Ne.symm hj)] at hc'
  obtain⟨c0,h1,h2⟩:=jbo hc'
  exact⟨c0,h1,h2,by rw[h2,jbm] at hl;exact hl⟩
 have hne:∀ j,(E.virt i).real j=true→j≠i:=fun j hr e=>by subst e;rw[E.virt_real] at hr;cases hr
 have hre:∀ j,j≠i→(E.virt i).real j=E.real j:=fun j hj=>(hoff j hj).2.2.2.1
 refine { knows:=?_,mem:=?_,agree:=S.agree,since:=S.since,low:=fun j hj=>jfn S.low hoff hoff' j hj,side:=S.side }
 ·exact jcZ (fun t=>jbW hoff (S.knows t)) hi hv
 ·refine { ok:=?_,base:=?_,unpub:=?_,inj:=?_ }
  ·intro j c' hc'
   by_cases hj:j=i
   ·subst hj;rw[jag,if_pos rfl] at hc';cases hc';exact .inl ⟨E.virt_real _,rfl⟩
   ·cases hl:c'.live with
    | false=>cases c'<;>first|trivial|(simp[Chunk.live] at hl)
    | true=>
     obtain⟨c0,h1,rfl,hl'⟩:=live j c' hj hc' hl
     exact ChunkOk.env hoff hj (S.mem.ok j _ h1)
  ·intro j c' hc' hl hr
   have hj:=hne j hr
   obtain⟨c0,h1,rfl,hl'⟩:=live j c' hj hc' hl
   rw[hre j hj] at hr
   exact S.mem.base j _ h1 hl' hr
  ·intro j c' hc' hl hr o
   have hj:=hne j hr
   obtain⟨c0,h1,rfl,hl'⟩:=live j c' hj hc' hl
   rw[hre j hj] at hr
   exact S.mem.unpub j _ h1 hl' hr o
  ·intro j k' c1 c2 hjk h1 h2 l1 l2 r1 r2
   have hj:=hne j r1
   have hk:=hne k' r2
   obtain⟨c0,g1,rfl,l1'⟩:=live j c1 hj h1 l1
   obtain⟨c0',g2,rfl,l2'⟩:=live k' c2 hk h2 l2
   rw[hre j hj] at r1
   rw[hre k' hk] at r2
   exact S.mem.inj j k' _ _ hjk g1 g2 l1' l2' r1 r2
end
end
end Go.V
end
section
namespace Go.V
open Go Go.RowKit
section
variable {P : Program} {tb : Tb} {N : Nat} {cx : Cx} {Q : Exit → Act → World → Prop} {o : Oper} {L : Sl} {H : Hp} {K : K2}
def catR:List D→List D→(List D→Prop)→Prop
 | [],b,K=>K b
 | d::ds,b,K=>catR ds b fun r=>K (d::r)
def catF (e:Nat)(f:Nat→List D):Nat→List D→(List D→Prop)→Prop
 | 0,acc,K=>K acc
 | n+1,acc,K=>catR (f n) acc fun r=>match Nat.beq (r.length) (acc.length+e) with|true=>catF e f n r K|false=>False
theorem catR_el:∀ {a b:List D} {K:List D→Prop},catR a b K→K (a++b)
 | [],_,_,h=>h
 | _::ds,_,_,h=>catR_el (a:=ds) h
def catL (f:Nat→List D):Nat→List D
 | 0=>[]
 | n+1=>catL f n++f n
theorem jiH {e:Nat}{f:Nat→List D} : ∀ {n:Nat} {acc:List D} {K:List D→Prop},catF e f n acc K→K (catL f n++acc) ∧ ∀ j,j<n→(f j).length=e
 | 0,_,_,h=>⟨h,fun j hj=>absurd hj (Nat.not_lt_zero _)⟩
 | n+1,acc,K,h=>by
  have h:=catR_el h
  split at h
  case h_2=>exact h.elim
  rename_i hb
  have hl:=jae hb
  rw[jkd] at hl
  obtain⟨h1,h2⟩:=jiH h
  refine⟨by rw[catL,jkf];exact h1,fun j hj=>?_⟩
  rcases jjO j n with g|g
  ·exact h2 j g
  ·have:j=n:=Jo
   subst this;omega
theorem jem {e:Nat}{f:Nat→List D}{h:Pub}{b o:Nat} : ∀ {n:Nat},
  (∀ j,j<n → ∃ vs,DenL Env.dummy h (f j) vs∧vs.length=e∧(∀ v∈vs,v.oneCell'=true) ∧ ∀ (i:Nat) v,vs[i]? = some v→h b (o+j*e+i)=some v) →
  ∃ us,us.length=n*e∧DenL Env.dummy h (catL f n) us∧(∀ u∈us,u.oneCell'=true) ∧ ∀ (i:Nat) u,us[i]? = some u→h b (o+i)=some u
 | 0,_=>⟨[],Js,by simp[catL,DenL],Js,Js⟩
 | n+1,H=>by
  obtain⟨us,h1,h2,h3,h4⟩:=jem (n:=n) fun j hj=>H j Jo
  obtain⟨vs,g1,g2,g3,g4⟩:=H n Jo
  refine⟨us++vs,by rw[jkd,h1,g2,Nat.add_mul,Nat.one_mul],h2.append g1,fun u hu=>?_,fun i u hu=>?_⟩
  ·rcases List.mem_append.1 hu with g|g
   ·exact h3 u g
   ·exact g3 u g
  ·rcases jjO i us.length with g|g
   ·rw[jkg g] at hu;exact h4 i u hu
   ·rw[jkp g] at hu
    have:=g4 _ _ hu
    rw[h1] at this g
    have e1:o+n*e+(i-n*e)=o+i:=Jo
    rwa [e1] at this
def bsrcK (es:Nat)(H:Hp)(d:D)(K:List D→Nat→Prop):Prop:=match d with
 | .bsl j off n e'=>match Nat.beq off 0,Nat.beq e' es,Nat.beq n 0 with
  | true,true,false=>jaU H j fun c=>match c with
   | .box ds=>match Nat.beq ds.length (n*es) with|true=>K ds n|false=>False
   | _=>False
  | _,_,_=>False
 | .slf e' n f=>match Nat.beq e' es,Nat.beq n 0 with
  | true,false=>catF es f n [] fun ds=>match D.pureL ds with|true=>K ds n|false=>False
  | _,_=>False
 | _=>False
theorem bsrc_el {es:Nat}{H:Hp}{d:D}{K:List D→Nat→Prop}(hh:bsrcK es H d K) :
  ∃ ds n,K ds n∧0<n ∧ ∀ E h a (w:World) L,Facts E h a w L H → ∀ v,Den E h d v → ∃ ad cap us,v = .slice (some ad) n cap∧n≤281474976710656∧us.length=n*es∧DenL E h ds us∧(∀ u∈us,u.oneCell'=true) ∧
   ∀ (j:Nat) u,us[j]? = some u→w.cell? (ad.add j)=some u:=by
 unfold bsrcK at hh
 split at hh
 case h_3=>exact hh.elim
 case h_2=>
  rename_i e' n f
  split at hh
  case h_2=>exact hh.elim
  rename_i hb1 hb2
  have h1:=jae hb1
  subst h1
  have hn:0<n:=by
   rcases jjI n with e|e
   ·rw[e] at hb2;simp at hb2
   ·exact e
  obtain⟨hh,hlen⟩:=jiH hh
  rw[List.append_nil] at hh
  cases hp:D.pureL (catL f n) with
  | false=>rw[hp] at hh;exact hh.elim
  | true=>
   rw[hp] at hh
   refine⟨catL f n,n,hh,hn,fun E h a w L F v hv=>?_⟩
   simp only[Den] at hv
   obtain⟨ad,cap,rfl,h2,h3,h4⟩:=hv
   cases ad with
   | none=>simp only at h4;omega
   | some ad=>
    simp only at h4
    obtain⟨us,g1,g2,g3,g4⟩:=jem h4.2
    exact⟨ad,cap,us,rfl,h3,g1,DenL.pure hp g2,g3,fun q u hu=>by rw[jbO h4.1];exact F.agree _ _ _ (g4 q u hu)⟩
 rename_i j off n e'
 split at hh
 case h_2=>exact hh.elim
 rename_i hb1 hb2 hb3
 have h1:=jae hb1
 have h2:=jae hb2
 subst h1 h2
 have hn:0<n:=by
  rcases jjI n with e|e
  ·rw[e] at hb3;simp at hb3
  ·exact e
 have hy':=jay hh;clear hh;obtain⟨c,hc,hh⟩:=hy'
 split at hh
 case h_2=>exact hh.elim
 rename_i ds
 cases hl:Nat.beq ds.length (n*e') with
 | false=>rw[hl] at hh;exact hh.elim
 | true=>
  rw[hl] at hh
  have hl:=jae hl
  refine⟨ds,n,hh,hn,fun E h a w L F v hv=>?_⟩
  simp only[Den] at hv
  obtain⟨hreal,cap,rfl,h3,h4,_⟩:=hv
  obtain⟨_,vs,rest,T,hb,hd,ho,_⟩:=F.chunk _ _ hc
  exact⟨_,cap,vs,rfl,h4,by rw[hd.length,hl],hd,ho,fun q u hu=>by rw[jaO,jjC];exact jcH hb hu⟩
def bsrcK2 (es:Nat)(H:Hp)(d:D)(K:List D→Nat→Prop)(K0:Prop):Prop:=match d with
 | .bsl j off n e'=>match Nat.beq off 0,Nat.beq e' es,Nat.beq n 0 with
  | true,true,false=>jaU H j fun c=>match c with
   | .box ds=>match Nat.beq ds.length (n*es) with|true=>K ds n|false=>False
   | _=>False
  | _,_,true=>K0
  | _,_,_=>False
 | .slf e' n f=>match Nat.beq e' es,Nat.beq n 0 with
  | true,false=>catF es f n [] fun ds=>match D.pureL ds with|true=>K ds n|false=>False
  | _,true=>K0
  | _,_=>False
 | .nil=>K0
 | _=>False
theorem bsrc2_el {es:Nat}{H:Hp}{d:D}{K:List D→Nat→Prop}{K0:Prop}(hh:bsrcK2 es H d K K0) :
  bsrcK es H d K∨(K0 ∧ ∀ E h v,Den E h d v → ∃ A cap,v = .slice A 0 cap):=by
 unfold bsrcK2 at hh
 split at hh
 ·rename_i j off n e'
  cases h1:Nat.beq n 0 with
  | true=>
   rw[h1] at hh
   have hn:=jae h1
   refine .inr ⟨?_,fun E h v hv=>?_⟩
   ·cases h2:Nat.beq off 0<;>cases h3:Nat.beq e' es<;>rw[h2,h3] at hh<;>exact hh
   ·simp only[Den] at hv
    obtain⟨_,cap,rfl,_⟩:=hv
    exact⟨_,cap,by rw[hn]⟩
  | false=>
   rw[h1] at hh
   refine .inl ?_
   unfold bsrcK
   dsimp only
   rw[h1]
   cases h2:Nat.beq off 0<;>cases h3:Nat.beq e' es<;>rw[h2,h3] at hh<;>first|exact hh|exact hh.elim
 ·rename_i e' n f
  cases h1:Nat.beq n 0 with
  | true=>
   rw[h1] at hh
   have hn:=jae h1
   refine .inr ⟨?_,fun E h v hv=>?_⟩
   ·cases h3:Nat.beq e' es<;>rw[h3] at hh<;>exact hh
   ·simp only[Den] at hv
    obtain⟨A,cap,rfl,_⟩:=hv
    exact⟨A,cap,by rw[hn]⟩
  | false=>
   rw[h1] at hh
   refine .inl ?_
   unfold bsrcK
   dsimp only
   rw[h1]
   cases h3:Nat.beq e' es<;>rw[h3] at hh<;>first|exact hh|exact hh.elim
 ·refine .inr ⟨hh,fun E h v hv=>?_⟩
  simp only[Den] at hv
  exact⟨_,_,hv⟩
 ·exact hh.elim
def jeU (N off' d : Nat) (ye : Ty) (s x : Operand) (L : Sl) (H : Hp) (K : K2) : Prop := match Nat.ble ye.bytes 4096, Nat.beq ye.size 0 with
  | true, false => rdg True L s fun ds => match ds with
    | .nil => rdg True L x fun dx => bsrcK2 ye.size H dx (fun es n => match Nat.ble n 1000000, D.freeL (off' + d) es with
      | true, true => ltK d N (newK off' d (.bsl (off' + d) 0 n ye.size) (.box es) L H K)
      | _, _ => False) (ltK d N (K ((d, .nil) :: L) H))
    | .bsl i off len e' => match Nat.beq off 0, Nat.beq e' ye.size with
      | true, true => jaU H i fun c => match c with
        | .box ds0 => match Nat.beq ds0.length (len * ye.size) with
          | true => rdg True L x fun dx => bsrcK2 ye.size H dx (fun es n => match Nat.ble (len + n) 1000000, D.freeL (off' + d) (ds0 ++ es) with
            | true, true => ltK d N (newK off' d (.bsl (off' + d) 0 (len + n) ye.size) (.box (ds0 ++ es)) L ((i, .gone) :: H) K)
            | _, _ => False) (ltK d N (K ((d, .bsl i 0 len ye.size) :: L) H))
          | false => False
        | _ => False
      | _, _ => False
    | _ => False
  | _, _ => False
def appendK (tb:Tb)(N off':Nat)(d t:Nat)(s x:Operand)(L:Sl)(H:Hp)(K:K2):Prop:=tyK tb t fun y=>match y.kind with
 | .slice e=>tyK tb e fun ye=>match ye.kind with
  | .int k=>zero0K ye k<|match Nat.beq ye.size 1,Nat.ble ye.bytes 8 with
   | true,true=>rdg True L s fun ds=>match ds with
    | .nil=>rdg True L x fun dx=>srcK k H dx fun ys=>(True→ys.length≤17592186044416)∧ltK d N (newK off' d (.osl (off'+d) 0 ys.length) (.arr k ys) L H K)
    | .osl i off len=>match Nat.beq off 0 with
     | true=>jaU H i fun c=>match c with
      | .arr k' xs=>match kE k k' with
       | true=>rdg True L x fun dx=>srcK k H dx fun ys=>(True→xs.length=len∧len+ys.length≤17592186044416) ∧
         ltK d N (newK off' d (.osl (off'+d) 0 (len+ys.length)) (.arr k (xs++ys)) L ((i,.gone)::H) K)
       | false=>False
      | _=>False
     | false=>False
    | _=>False
   | _,_=>False
  | .struct _=>jeU N off' d ye s x L H K
  | .slice _=>jeU N off' d ye s x L H K
  | _=>False
 | _=>False
theorem jbJ (w:World)(n c:Nat)(e:TypeId):n≤grownCap w n c e:=by
 simp only[grownCap,Question.cut];exact Nat.le_add_right _ _
theorem sat_gone {E : Env} {h : Pub} {a : Act} {w : World} (S : Sat cx E h a w L H) (i : Nat) : Sat cx E h a w L ((i, .gone) :: H) := by
  have live : ∀ j c, lookH ((i, .gone) :: H) j = some c → c.live = true → lookH H j = some c := by
    intro j c hc hl
    rw [jag] at hc
    split at hc
    · cases hc; simp [Chunk.live] at hl
    · exact hc
  refine { knows := S.knows, mem := ?_, agree := S.agree, since := S.since, low := S.low, side := S.side }
  refine { ok := ?_, base := fun j c hc hl hr => S.mem.base j c (live j c hc hl) hl hr, unpub := fun j c hc hl hr => S.mem.unpub j c (live j c hc hl) hl hr,
           inj := fun j k c1 c2 hjk h1 h2 l1 l2 => S.mem.inj j k c1 c2 hjk (live j c1 h1 l1) (live k c2 h2 l2) l1 l2 }
  intro j c hc
  cases hl : c.live with
  | false => cases c <;> first | trivial | simp [Chunk.live] at hl
  | true => exact S.mem.ok j c (live j c hc hl)
theorem jgq {d t e:Nat}{ye:Ty}{s x:Operand}(hu:P.underlying t=some (.slice e))(hte:TyOk P e ye)(hns:∀ k,P.underlying t≠some (.int k))(hd:o.dst=some d)(ho:o.op = .call { callee := .builtin .append,args := #[s,x],argTypes := #[t,t] })
  (hh:jeU N cx.off d ye s x L H K):Heavy P N cx Q o K L H:=by
 unfold jeU at hh
 split at hh
 case h_2=>exact hh.elim
 rename_i hb1 hb2
 have hby:=jjw hb1
 have hpos0:0<ye.size:=by
  rcases jjI ye.size with e|e
  ·rw[e] at hb2;simp at hb2
  ·exact e
 have hz:=jat hh;clear hh;obtain⟨ds,hh,hs⟩:=hz
 obtain⟨iy,z,i1,i2,i3,i4,i5,i6,_,i8,_⟩:=hte.info
 have hexec:∀ (a:Act) (w w':World) (v:Value),(Builtin.append_ #[t,t] o.type #[a.eval s,a.eval x]).run P w = .ok v w'→(execOp a.eval o).run P w = .ok (.value v) w':=fun a w w' v e=>by
  simp[execOp,ho,resolve,invoke,builtin,e]
 have hsize:∀ w:World,(sizeOf e).run P w = .ok ye.size w:=fun w=>hte.sizeOf w
 split at hh
 ·have hz:=jat hh;clear hh;obtain⟨dx,hh,hdx⟩:=hz
  rcases bsrc2_el hh with hh|⟨hh,hemp⟩
  case inr=>
   obtain⟨hlt,hK⟩:=jcJ hh
   intro E h a w hN S next hnext
   have hs0:=hs E h a trivial (S.facts.rd s)
   have hden2:=hs0
   obtain⟨A,xcap,h3⟩:=hemp _ _ _ (hdx E h a trivial (S.facts.rd x))
   simp only[Den] at hs0
   have hrun:(execOp a.eval o).run P w = .ok (.value (.slice none 0 0)) w:=hexec a w w _ (by
    rw[hs0,h3]
    have hf:(Builtin.firstCells ye.size 0 (.slice A 0 xcap)).run P w = .ok #[] w:=by cases A<;>simp[Builtin.firstCells,loadCells,loadCellsFrom]
    simp[Builtin.append_,run_underlying hu,hsize,Builtin.lenOf,hf,storeCells])
   unfold Oper.wp
   rw[hrun]
   simp only[Oper.upon,hd]
   exact hnext _ _ _ _ _ _ hK (jaB _ _ _) (S.put Jo (by rw[← hs0];exact hden2))
  have hz:=bsrc_el hh;clear hh;obtain⟨es,n,hh,hn,hsrc⟩:=hz
  split at hh
  case h_2=>exact hh.elim
  rename_i hb3 hfr
  have hle:=jjw hb3
  refine jbA hd hh fun E h a w S=>?_
  have hs0:=hs E h a trivial (S.facts.rd s)
  simp only[Den] at hs0
  obtain⟨ad,cap,us,h3,h4,h5,h6,h7,h8⟩:=hsrc E h a w L S.facts _ (hdx E h a trivial (S.facts.rd x))
  have hrun:=run_append_nil (P:=P) w t o.type e iy z hu i1 i4 ad n cap us (by rw[h5,i2]) h8 hn Jo (by
   have:n*iy.bytes≤1000000*4096:=Nat.mul_le_mul hle (by rw[i3];exact hby)
   omega)
  rw[← hs0,← h3] at hrun
  refine⟨_,_,grownCap w n 0 e*ye.size,0,hexec a w _ _ hrun,(Below.refl _ w).drew.alloc (jjG _) _,?_,?_⟩
  ·have hcap:n≤grownCap w n 0 e:=jbJ _ _ _ _
   refine⟨E.set_real _ _ _ _,us,(Builtin.zeroCells z.cells (grownCap w n 0 e-n)).toList,e,?_,DenL.env (E.off_set _ _ _ _) hfr h6,h7,?_⟩
   ·rw[Env.set_blk]
    have:=heap_alloc_new w.drew (.cells (us.toArray++Builtin.zeroCells z.cells (grownCap w n 0 e-n)) e)
    rw[show w.drew.heap.size=w.heap.size from rfl] at this
    rw[this]
    congr 2
    apply Array.toList_inj.1
    simp
   ·rw[Env.set_siz]
    have:(Builtin.zeroCells z.cells (grownCap w n 0 e-n)).toList.length=(grownCap w n 0 e-n)*ye.size:=by simp[Builtin.zeroCells,i8]
    rw[this,h5,← Nat.add_mul]
    congr 1
    omega
  ·simp only[Den]
   exact⟨E.set_real _ _ _ _,_,by rw[Env.set_blk],jbJ _ _ _ _,Jo,.inr (.inr (by rw[Env.set_siz];exact jjG _))⟩
 ·rename_i i off len e'
  split at hh
  case h_2=>exact hh.elim
  rename_i hb3 hb4
  have hoff:=jae hb3
  have he':=jae hb4
  subst hoff
  subst he'
  have hy':=jay hh;clear hh;obtain⟨c,hc,hh⟩:=hy'
  split at hh
  case h_2=>exact hh.elim
  rename_i ds0
  cases hl0:Nat.beq ds0.length (len*ye.size) with
  | false=>rw[hl0] at hh;exact hh.elim
  | true=>
   rw[hl0] at hh
   have hl0:=jae hl0
   have hz:=jat hh;clear hh;obtain⟨dx,hh,hdx⟩:=hz
   rcases bsrc2_el hh with hh|⟨hh,hemp⟩
   case inr=>
    obtain⟨hlt,hK⟩:=jcJ hh
    intro E h a w hN S next hnext
    have hden:=hs E h a trivial (S.facts.rd s)
    obtain⟨A,xcap,h3⟩:=hemp _ _ _ (hdx E h a trivial (S.facts.rd x))
    have hden2:=hden
    simp only[Den] at hden
    obtain⟨hreal,scap,hs0,g1,g2,g3⟩:=hden
    have hrun:(execOp a.eval o).run P w = .ok (.value (.slice (some ⟨E.blk i,0,none⟩) len scap)) w:=hexec a w w _ (by
     rw[hs0,h3]
     have hf:(Builtin.firstCells ye.size 0 (.slice A 0 xcap)).run P w = .ok #[] w:=by cases A<;>simp[Builtin.firstCells,loadCells,loadCellsFrom]
     simp[Builtin.append_,run_underlying hu,hsize,Builtin.lenOf,g1,hf,storeCells,jaO])
    unfold Oper.wp
    rw[hrun]
    simp only[Oper.upon,hd]
    exact hnext _ _ _ _ _ _ hK (jaB _ _ _) (S.put Jo (by rw[← hs0];exact hden2))
   have hz:=bsrc_el hh;clear hh;obtain⟨es,n,hh,hn,hsrc⟩:=hz
   split at hh
   case h_2=>exact hh.elim
   rename_i hb5 hfr
   have hle:=jjw hb5
   intro E h a w hN S next hnext
   obtain⟨hlt,hK⟩:=jcJ hh
   rw[jgR] at hK
   suffices hgoal:∃ v w' E',(execOp a.eval o).run P w = .ok (.value v) w'∧Sat cx E' h (a.put (some d) v) w' ((d,.bsl (cx.off+d) 0 (len+n) ye.size)::purge (cx.off+d) L) ((cx.off+d,.box (ds0++es))::jaK (cx.off+d) ((i,.gone)::H)) by
    obtain⟨v,w',E',h1,h2⟩:=hgoal
    unfold Oper.wp
    rw[h1]
    simp only[Oper.upon,hd]
    exact hnext _ _ _ _ _ _ hK (jaB _ _ _) h2
   have hden:=hs E h a trivial (S.facts.rd s)
   have hdl:d<a.tmps.size:=Jo
   obtain⟨ad,cap,us,h3,h4,h5,h6,h7,h8⟩:=hsrc E h a w L S.facts _ (hdx E h a trivial (S.facts.rd x))
   simp only[Den] at hden
   obtain⟨hreal,scap,hs0,g1,g2,g3⟩:=hden
   have Sg:=sat_gone S i
   obtain⟨_,vs,rest,T,hb,hdv,hov,hsz⟩:=S.mem.ok _ _ hc
   have hvl:vs.length=len*ye.size:=by rw[hdv.length,hl0]
   by_cases hfit:len+n≤scap
   ·-- there is room
    have hcs:scap*ye.size≤E.siz i:=by
     rcases g3 with g3|g3|g3
     ·omega
     ·exact absurd rfl g3
     ·exact g3
    have hrest:(len+n)*ye.size≤vs.length+rest.length:=by
     have:=Nat.mul_le_mul_right ye.size hfit
     omega
    have hrest2:vs.length+us.length≤vs.length+rest.length:=by
     rw[Nat.add_mul] at hrest;omega
    obtain⟨W,hW⟩:∃ W,W=w.setRow (E.blk i) (vs++us++rest.drop us.length).toArray:=⟨_,rfl⟩
    have hst:=run_storeCells_at P (E.blk i) (len*ye.size) T us 0 (vs++rest).toArray w hb (by simp;omega) h7
    have hst2:(storeCells ⟨E.blk i,len*ye.size,none⟩ us 0).run P w = .ok () W:=by
     rw[hst,hW]
     congr 2
     apply Array.toList_inj.1
     simp only[jjD,jkf]
     rw[jkl Jo,jko Jo]
     congr 2
     rw[List.drop_append,jkq Jo]
     simp
     congr 1
     omega
    refine⟨.slice (some ⟨E.blk i,0,none⟩) (len+n) scap,W,E.set (cx.off+d) (E.blk i) (E.siz i) 0,hexec a w W _ ?_,?_⟩
    ·have hf:=run_firstCells_some (P:=P) w ye.size n ad n cap us h5 h8
     rw[hs0,h3]
     simp only[Builtin.append_]
     have hnz:(match (TypeDesc.slice e) with | .int _=>true|_=>false)=false:=rfl
     simp only[Sem.run_bind,run_underlying hu,Result.andThen_ok,hsize,Builtin.lenOf,Sem.run_pure,hf,if_pos hfit,jaO,Bool.false_eq_true,if_false,Bool.not_false,if_true,
      jkr,List.getElem?_cons_zero,List.getElem?_cons_succ,Sem.run_ite,jjC]
     rw[hst2]
     simp
    ·refine Sg.fresh (b:=E.blk i) (by rw[hW];rfl) (by rw[hW];rfl) (by rw[hW];rfl) (by rw[hW,size_setRow];exact jjG _) (fun q _ hq=>by rw[hW];exact setRow_other w _ _ _ hq)
      (S.mem.base i _ hc rfl hreal) (S.mem.unpub i _ hc rfl hreal) (fun q hq=>by obtain⟨cs,T',f,hcell⟩:=(S.mem.ok i _ hc).cells rfl hreal;rw[hcell] at hq;cases hq;rfl) ?_ ?_ hdl (Nat.le_add_right _ _) ?_
     ·intro j c' hj hc' hl hrj
      rw[jag] at hc'
      split at hc'
      ·cases hc';simp[Chunk.live] at hl
      ·rename_i hij
       exact S.mem.inj j i c' _ (Ne.symm hij) hc' hc hl rfl hrj hreal
     ·refine⟨E.set_real _ _ _ _,vs++us,rest.drop us.length,T,?_,DenL.env (E.off_set _ _ _ _) hfr (hdv.append h6),?_,?_⟩
      ·rw[Env.set_blk,hW,setRow_heap w _ _ _ T (0,0) hb]
      ·intro v hv
       rcases List.mem_append.1 hv with hv|hv
       ·exact hov v hv
       ·exact h7 v hv
      ·rw[Env.set_siz,hsz];simp;omega
     ·simp only[Den]
      exact⟨E.set_real _ _ _ _,scap,by rw[Env.set_blk],hfit,Jo,.inr (.inr (by rw[Env.set_siz];exact hcs))⟩
   ·-- a new block
    have holds:∀ (j:Nat) v,vs[j]? = some v→w.cell? ((⟨E.blk i,0,none⟩:Addr).add j)=some v:=by
     intro j v hv
     rw[jaO,jjC]
     exact jcH hb hv
    have hrun:=run_append_grow (P:=P) w t o.type e iy z hu i1 i4 ⟨E.blk i,0,none⟩ len scap vs (by rw[hvl,i2]) holds ad n cap us (by rw[h5,i2]) h8
     Jo Jo (growslice_fits Jo (by
      have:(len+n)*iy.bytes≤1000000*4096:=Nat.mul_le_mul hle (by rw[i3];exact hby)
      omega))
    rw[← hs0,← h3] at hrun
    have hcap:len+n≤grownCap w (len+n) scap e:=jbJ _ _ _ _
    refine⟨_,_,E.set (cx.off+d) w.heap.size (grownCap w (len+n) scap e*ye.size) 0,hexec a w _ _ hrun,?_⟩
    refine Sg.alloc ?_ ?_ hdl (Nat.le_add_right _ _) ?_
    ·exact(Below.refl _ w).drew.alloc (jjG _) _
    ·refine⟨E.set_real _ _ _ _,vs++us,(Builtin.zeroCells z.cells (grownCap w (len+n) scap e-(len+n))).toList,e,?_,DenL.env (E.off_set _ _ _ _) hfr (hdv.append h6),?_,?_⟩
     ·rw[Env.set_blk]
      have:=heap_alloc_new w.drew (.cells (vs.toArray++us.toArray++Builtin.zeroCells z.cells (grownCap w (len+n) scap e-(len+n))) e)
      rw[show w.drew.heap.size=w.heap.size from rfl] at this
      rw[this]
      congr 2
      apply Array.toList_inj.1
      simp
     ·intro v hv
      rcases List.mem_append.1 hv with hv|hv
      ·exact hov v hv
      ·exact h7 v hv
     ·rw[Env.set_siz]
      have h9:(Builtin.zeroCells z.cells (grownCap w (len+n) scap e-(len+n))).toList.length=(grownCap w (len+n) scap e-(len+n))*ye.size:=by simp[Builtin.zeroCells,i8]
      rw[h9,jkd,hvl,h5,← Nat.add_mul,← Nat.add_mul]
      congr 1
      omega
    ·simp only[Den]
     exact⟨E.set_real _ _ _ _,_,by rw[Env.set_blk],hcap,Jo,.inr (.inr (by rw[Env.set_siz];exact jjG _))⟩
 ·exact hh.elim
theorem append_el (htb : TbOk P tb) {d t : Nat} {s x : Operand} (hd : o.dst = some d) (ho : o.op = .call { callee := .builtin .append, args := #[s, x], argTypes := #[t, t] })
    (hh : appendK tb N cx.off d t s x L H K) : Heavy P N cx Q o K L H := by
  have hx := jak hh; clear hh; obtain ⟨y, hy, hh⟩ := hx
  have hty := htb _ _ hy
  split at hh
  case h_2 => exact hh.elim
  rename_i e hk
  have hu := jaw hty hk
  have hx := jak hh; clear hh; obtain ⟨ye, hye, hh⟩ := hx
  have hte := htb _ _ hye
  split at hh
  case h_2 => exact jgq hu hte (fun k h => by rw [hu] at h; cases h) hd ho hh
  case h_3 => exact jgq hu hte (fun k h => by rw [hu] at h; cases h) hd ho hh
  case h_4 => exact hh.elim
  rename_i k hke
  have hz := zero0_el hh; clear hh; obtain ⟨hz0, hh⟩ := hz
  split at hh
  case h_2 => exact hh.elim
  rename_i hb1 hb2
  have hs1 := jae hb1
  have hb8 := jjw hb2
  have hz := jat hh; clear hh; obtain ⟨ds, hh, hs⟩ := hz
  obtain ⟨iy, i1, i2, i3, z, i4, i5⟩ := jez hte
  have hsz1 : iy.size = 1 := by rw [i2, hs1]
  have hby : iy.bytes ≤ 8 := by rw [i3]; exact hb8
  have hue := jdT hte hke
  have hexec : ∀ (a : Act) (w w' : World) (v : Value), (Builtin.append_ #[t, t] o.type #[a.eval s, a.eval x]).run P w = .ok v w' → (execOp a.eval o).run P w = .ok (.value v) w' := fun a w w' v e => by
    simp [execOp, ho, resolve, invoke, builtin, e]
  have hsize : ∀ w : World, (sizeOf e).run P w = .ok 1 w := fun w => by rw [hte.sizeOf w, hs1]
  -- the cells of what is appended
  have hcells : ∀ (a : Act) (w : World) (ys : List Int) (ad : Option Addr) (cap : Nat), (match ad with | none => ys = [] | some ad => ∀ (j : Nat) u, (ys.map (Value.int k))[j]? = some u → w.cell? (ad.add j) = some u) →
      (Builtin.firstCells 1 ys.length (.slice ad ys.length cap)).run P w = .ok (ys.map (Value.int k)).toArray w := fun a w ys ad cap hc => by
    cases ad with
    | none => simp only at hc; subst hc; simp [Builtin.firstCells]
    | some ad => exact run_firstCells_some w 1 ys.length ad _ cap (ys.map (Value.int k)) Js hc
  -- nothing is there yet
  have nilCase : ∀ (xs0 : Value), (∀ E h a w, Sat cx E h a w L H → a.eval s = .slice none 0 0) → ∀ (dx : D) (ys : List Int), ys.length ≤ 17592186044416 →
      (∀ E h a (w : World) L, Facts E h a w L H → ∀ v, Den E h dx v → (∀ n ∈ ys, InR k n) ∧ ys.length ≤ 281474976710656 ∧ ∃ ad cap, v = .slice ad ys.length cap ∧
        (match ad with | none => ys = [] | some ad => ∀ (j : Nat) u, (ys.map (Value.int k))[j]? = some u → w.cell? (ad.add j) = some u)) →
      (∀ (E : Env) (h : Pub) (a : Act), True → Den E h (rd L x) (a.eval x) → Den E h dx (a.eval x)) →
      ∀ E h a w, Sat cx E h a w L H → d < a.tmps.size → ∃ v w' E', (execOp a.eval o).run P w = .ok (.value v) w' ∧ Sat cx E' h (a.put (some d) v) w' ((d, .osl (cx.off + d) 0 ys.length) :: purge (cx.off + d) L) ((cx.off + d, .arr k ys) :: jaK (cx.off + d) H) := by
    intro _ hnil dx ys hlen hsrc hdx E h a w S hdl
    have hs0 := hnil E h a w S
    obtain ⟨h1, h2, ad, cap, h3, h4⟩ := hsrc E h a w L S.facts _ (hdx E h a trivial (S.facts.rd x))
    cases hys : ys with
    | nil =>
      subst hys
      refine ⟨.slice none 0 0, w, E.virt (cx.off + d), hexec a w w _ ?_, S.virt hdl (Nat.le_add_right _ _) (by simp only [Den]; exact .inl ⟨E.virt_real (cx.off + d), trivial, rfl⟩)⟩
      have hf := hcells a w [] ad cap h4
      simp only [List.length_nil, List.map_nil] at hf h3
      simp [Builtin.append_, hs0, h3, run_underlying hu, run_underlying hue, hsize, Builtin.lenOf, hf]
    | cons n ns =>
      cases ad with
      | none => simp only at h4; rw [h4] at hys; cases hys
      | some ad =>
        have hpos : 0 < ys.length := by rw [hys]; simp
        have hrun := run_append_nil (P := P) w t o.type e iy z hu i1 i4 ad ys.length cap (ys.map (Value.int k)) (by simp [hsz1]) h4 hpos Jo (by
          have : ys.length * iy.bytes ≤ ys.length * 8 := Nat.mul_le_mul_left _ hby
          omega)
        rw [← hs0, ← h3] at hrun
        rw [← hys]
        refine ⟨_, _, E.set (cx.off + d) w.heap.size (grownCap w ys.length 0 e) ys.length, hexec a w _ _ hrun, ?_⟩
        have hcap : ys.length ≤ grownCap w ys.length 0 e := jbJ _ _ _ _
        have hzsz : z.cells.size = 1 := by
          have h5 := (i5 E h).length
          rw [hz0] at h5; simpa using h5
        refine S.alloc ?_ ?_ hdl (Nat.le_add_right _ _) ?_
        · exact (Below.refl _ w).drew.alloc (jjG _) _
        · refine .inr ⟨E.set_real _ _ _ _, (Builtin.zeroCells z.cells (grownCap w ys.length 0 e - ys.length)).toList, e, ?_, ?_, h1, by rw [Env.set_kn]⟩
          · rw [Env.set_blk]
            have := heap_alloc_new w.drew (.cells ((ys.map (Value.int k)).toArray ++ Builtin.zeroCells z.cells (grownCap w ys.length 0 e - ys.length)) e)
            rw [show w.drew.heap.size = w.heap.size from rfl] at this
            rw [this]
            congr 2
            apply Array.toList_inj.1
            simp
          · rw [Env.set_siz]
            simp [Builtin.zeroCells, hzsz]; omega
        · simp only [Den]
          exact .inr ⟨E.set_real _ _ _ _, 0, _, by rw [Env.set_blk], hcap, by rw [Env.set_siz]; omega, Jo, .inl rfl, by rw [Env.set_kn]; omega⟩
  split at hh
  · -- nil
    have hz := jat hh; clear hh; obtain ⟨dx, hh, hdx⟩ := hz
    have hz := jhj hh; clear hh; obtain ⟨ys, hh, hsrc⟩ := hz
    obtain ⟨hlen, hK⟩ := hh
    intro E h a w hN S next hnext
    obtain ⟨hlt, hK⟩ := jcJ hK
    rw [jgR] at hK
    obtain ⟨v, w', E', h1, h2⟩ := nilCase .nilIface (fun E h a w S => by
      have := hs E h a trivial (S.facts.rd s); simpa [Den] using this) dx ys (hlen trivial) hsrc (fun E h a _ hd => hdx E h a trivial hd) E h a w S Jo
    unfold Oper.wp
    rw [h1]
    simp only [Oper.upon, hd]
    exact hnext _ _ _ _ _ _ hK (jaB _ _ _) h2
  · rename_i i off len
    cases hb0 : Nat.beq off 0 with
    | false => rw [hb0] at hh; exact hh.elim
    | true =>
      rw [hb0] at hh
      have hoff := jae hb0; subst hoff
      have hy' := jay hh; clear hh; obtain ⟨c, hc, hh⟩ := hy'
      split at hh
      case h_2 => exact hh.elim
      rename_i k' xs
      split at hh
      case h_2 => exact hh.elim
      rename_i hkk
      have := kE_eq hkk; subst this
      have hz := jat hh; clear hh; obtain ⟨dx, hh, hdx⟩ := hz
      have hz := jhj hh; clear hh; obtain ⟨ys, hh, hsrc⟩ := hz
      obtain ⟨hlen, hK⟩ := hh
      obtain ⟨hxl, hlen⟩ := hlen trivial
      intro E h a w hN S next hnext
      obtain ⟨hlt, hK⟩ := jcJ hK
      rw [jgR] at hK
      suffices hgoal : ∃ v w' E', (execOp a.eval o).run P w = .ok (.value v) w' ∧ Sat cx E' h (a.put (some d) v) w' ((d, .osl (cx.off + d) 0 (len + ys.length)) :: purge (cx.off + d) L) ((cx.off + d, .arr k (xs ++ ys)) :: jaK (cx.off + d) ((i, .gone) :: H)) by
        obtain ⟨v, w', E', h1, h2⟩ := hgoal
        unfold Oper.wp
        rw [h1]
        simp only [Oper.upon, hd]
        exact hnext _ _ _ _ _ _ hK (jaB _ _ _) h2
      have hden := hs E h a trivial (S.facts.rd s)
      have hdl : d < a.tmps.size := Jo
      obtain ⟨h1, h2, ad, cap, h3, h4⟩ := hsrc E h a w L S.facts _ (hdx E h a trivial (S.facts.rd x))
      simp only [Den] at hden
      have Sg := sat_gone S i
      rcases hden with ⟨hreal, hs0, hl0⟩ | ⟨hreal, so, scap, hs0, g1, g2, g3, g4, g5⟩
      · -- a list without a block
        have hx0 : xs = [] := jj9.1 Jo
        subst hx0; subst hl0
        simp only [jkk, jjC]
        cases hys : ys with
        | nil =>
          subst hys
          refine ⟨.slice none 0 0, w, E.virt (cx.off + d), hexec a w w _ ?_, Sg.virt hdl (Nat.le_add_right _ _) (by simp only [Den]; exact .inl ⟨E.virt_real (cx.off + d), trivial, rfl⟩)⟩
          have hf := hcells a w [] ad cap h4
          simp only [List.length_nil, List.map_nil] at hf h3
          simp [Builtin.append_, hs0, h3, run_underlying hu, run_underlying hue, hsize, Builtin.lenOf, hf]
        | cons n ns =>
          cases ad with
          | none => simp only at h4; rw [h4] at hys; cases hys
          | some ad =>
            have hpos : 0 < ys.length := by rw [hys]; simp
            have hrun := run_append_nil (P := P) w t o.type e iy z hu i1 i4 ad ys.length cap (ys.map (Value.int k)) (by simp [hsz1]) h4 hpos Jo (by
              have : ys.length * iy.bytes ≤ ys.length * 8 := Nat.mul_le_mul_left _ hby
              omega)
            rw [← hs0, ← h3] at hrun
            rw [← hys]
            refine ⟨_, _, E.set (cx.off + d) w.heap.size (grownCap w ys.length 0 e) ys.length, hexec a w _ _ hrun, ?_⟩
            have hcap : ys.length ≤ grownCap w ys.length 0 e := jbJ _ _ _ _
            have hzsz : z.cells.size = 1 := by
              have h5 := (i5 E h).length
              rw [hz0] at h5; simpa using h5
            refine Sg.alloc ?_ ?_ hdl (Nat.le_add_right _ _) ?_
            · exact (Below.refl _ w).drew.alloc (jjG _) _
            · refine .inr ⟨E.set_real _ _ _ _, (Builtin.zeroCells z.cells (grownCap w ys.length 0 e - ys.length)).toList, e, ?_, ?_, h1, by rw [Env.set_kn]⟩
              · rw [Env.set_blk]
                have := heap_alloc_new w.drew (.cells ((ys.map (Value.int k)).toArray ++ Builtin.zeroCells z.cells (grownCap w ys.length 0 e - ys.length)) e)
                rw [show w.drew.heap.size = w.heap.size from rfl] at this
                rw [this]
                congr 2
                apply Array.toList_inj.1
                simp
              · rw [Env.set_siz]
                simp [Builtin.zeroCells, hzsz]; omega
            · simp only [Den]
              exact .inr ⟨E.set_real _ _ _ _, 0, _, by rw [Env.set_blk], hcap, by rw [Env.set_siz]; omega, Jo, .inl rfl, by rw [Env.set_kn]; omega⟩
      · obtain ⟨rest, T, hb, hsz, hr, hkn⟩ := jbc hreal (S.mem.ok _ _ hc)
        have hso : so = 0 ∨ scap = 0 := g4
        by_cases hfit : len + ys.length ≤ scap
        · -- there is room
          have hrest : len + ys.length ≤ xs.length + rest.length := Jo
          obtain ⟨W, hW⟩ : ∃ W, W = w.setRow (E.blk i) (setAt (xs.map (Value.int k) ++ rest) (so + len) (ys.map (Value.int k))).toArray := ⟨_, rfl⟩
          have hst := run_storeCells_at P (E.blk i) (so + len) T (ys.map (Value.int k)) 0 (xs.map (Value.int k) ++ rest).toArray w hb (by simp; omega) jbt
          refine ⟨.slice (some ⟨E.blk i, so, none⟩) (len + ys.length) scap, W, E.set (cx.off + d) (E.blk i) (E.siz i) (len + ys.length), hexec a w W _ ?_, ?_⟩
          · have hf := hcells a w ys ad cap h4
            rw [hs0, h3]
            simp only [Builtin.append_]
            simp only [Sem.run_bind, run_underlying hu, run_underlying hue, Result.andThen_ok, hsize, Builtin.lenOf, Sem.run_pure, hf, if_pos hfit, Nat.mul_one, jaO, Bool.false_eq_true, if_false, Bool.not_false, if_true,
              jkr, List.getElem?_cons_zero, List.getElem?_cons_succ, Sem.run_ite]
            rw [hst, hW]
            simp [setAt]
          · have hlen2 : so = 0 ∨ ys = [] := by
              rcases hso with h5 | h5
              · exact .inl h5
              · exact .inr (jj9.1 Jo)
            refine Sg.fresh (b := E.blk i) (by rw [hW]; rfl) (by rw [hW]; rfl) (by rw [hW]; rfl) (by rw [hW, size_setRow]; exact jjG _) (fun q _ hq => by rw [hW]; exact setRow_other w _ _ _ hq)
              (S.mem.base i _ hc rfl hreal) (S.mem.unpub i _ hc rfl hreal) (fun q hq => by obtain ⟨cs, T', f, hcell⟩ := (S.mem.ok i _ hc).cells rfl hreal; rw [hcell] at hq; cases hq; rfl) ?_ ?_ hdl (Nat.le_add_right _ _) ?_
            · intro j c' hj hc' hl hrj
              rw [jag] at hc'
              split at hc'
              · cases hc'; simp [Chunk.live] at hl
              · rename_i hij
                exact S.mem.inj j i c' _ (Ne.symm hij) hc' hc hl rfl hrj hreal
            · refine .inr ⟨E.set_real _ _ _ _, rest.drop ys.length, T, ?_, ?_, ?_, by rw [Env.set_kn]; simp; omega⟩
              · rw [Env.set_blk, hW, setRow_heap w _ _ _ T (0, 0) hb]
                congr 2
                apply Array.toList_inj.1
                rcases hlen2 with h5 | h5
                · subst h5
                  simp only [setAt, jjC, ← hxl, List.map_append]
                  rw [jkl Js, jko Js]
                  congr 1
                  rw [List.drop_append]
                  simp
                · subst h5
                  simp [setAt]
              · rw [Env.set_siz, hsz]; simp; omega
              · intro n hn
                rcases List.mem_append.1 hn with hn | hn
                · exact hr n hn
                · exact h1 n hn
            · simp only [Den]
              exact .inr ⟨E.set_real _ _ _ _, so, scap, by rw [Env.set_blk], hfit, by rw [Env.set_siz]; exact g2, Jo, hso, by rw [Env.set_kn]; omega⟩
        · -- a new block
          have hys : ys ≠ [] := by
            intro e0; subst e0; simp at hfit; omega
          cases ad with
          | none => exact absurd h4 hys
          | some ad =>
            have holds : ∀ (j : Nat) v, (xs.map (Value.int k))[j]? = some v → w.cell? ((⟨E.blk i, so, none⟩ : Addr).add j) = some v := by
              intro j v hv
              rw [jaO]
              have hj : j < xs.length := by simpa using (jkh.1 hv).1
              rcases hso with h5 | h5
              · subst h5
                rw [jjC]
                refine jcd hb ?_
                rw [jkg (by simpa using hj)]; exact hv
              · omega
            have hrun := run_append_grow (P := P) w t o.type e iy z hu i1 i4 ⟨E.blk i, so, none⟩ len scap (xs.map (Value.int k)) (by simp [hsz1, hxl]) holds ad ys.length cap (ys.map (Value.int k)) (by simp [hsz1]) h4
              Jo Jo (growslice_fits Jo (by
                have : (len + ys.length) * iy.bytes ≤ (len + ys.length) * 8 := Nat.mul_le_mul_left _ hby
                omega))
            rw [← hs0, ← h3] at hrun
            have hcap : len + ys.length ≤ grownCap w (len + ys.length) scap e := jbJ _ _ _ _
            have hzsz : z.cells.size = 1 := by
              have h5 := (i5 E h).length
              rw [hz0] at h5; simpa using h5
            refine ⟨_, _, E.set (cx.off + d) w.heap.size (grownCap w (len + ys.length) scap e) (len + ys.length), hexec a w _ _ hrun, ?_⟩
            refine Sg.alloc ?_ ?_ hdl (Nat.le_add_right _ _) ?_
            · exact (Below.refl _ w).drew.alloc (jjG _) _
            · refine .inr ⟨E.set_real _ _ _ _, (Builtin.zeroCells z.cells (grownCap w (len + ys.length) scap e - (len + ys.length))).toList, e, ?_, ?_, ?_, by rw [Env.set_kn]; simp; omega⟩
              · rw [Env.set_blk]
                have := heap_alloc_new w.drew (.cells ((xs.map (Value.int k)).toArray ++ (ys.map (Value.int k)).toArray ++ Builtin.zeroCells z.cells (grownCap w (len + ys.length) scap e - (len + ys.length))) e)
                rw [show w.drew.heap.size = w.heap.size from rfl] at this
                rw [this]
                congr 2
                apply Array.toList_inj.1
                simp
              · rw [Env.set_siz]
                simp [Builtin.zeroCells, hzsz]; omega
              · intro n hn
                rcases List.mem_append.1 hn with hn | hn
                · exact hr n hn
                · exact h1 n hn
            · simp only [Den]
              exact .inr ⟨E.set_real _ _ _ _, 0, _, by rw [Env.set_blk], hcap, by rw [Env.set_siz]; omega, Jo, .inl rfl, by rw [Env.set_kn]; omega⟩
  · exact hh.elim
end
end Go.V
end
section
namespace Go.V
open Go Go.RowKit
section
variable {P : Program} {tb : Tb} {N : Nat} {cx : Cx} {Q : Exit → Act → World → Prop} {o : Oper} {L : Sl} {H : Hp} {K : K2}
def dstK (N:Nat)(dst:Option Nat)(r:D)(L:Sl)(K:Sl→Prop):Prop:=match dst with
 | none=>K L
 | some d=>ltK d N (K ((d,r)::L))
theorem jev {N:Nat}{dst:Option Nat}{r:D}{L:Sl}{K:Sl→Prop}(h:dstK N dst r L K) :
  ∃ L',K L' ∧ ∀ E hp a w H v,N≤a.tmps.size→Sat cx E hp a w L H→Den E hp r v→Sat cx E hp (a.put dst v) w L' H:=by
 cases dst with
 | none=>exact⟨L,h,fun E hp a w H v _ S _=>S⟩
 | some d=>
  obtain⟨h1,h2⟩:=jcJ h
  exact⟨_,h2,fun E hp a w H v hN S hv=>S.put Jo hv⟩
def jfq (k:IntKind)(ys:List Int):Nat→Nat→List D
 | 0,_=>[]
 | m+1,j => .int k (ys.getD j 0)::jfq k ys m (j+1)
theorem jfD {E:Env}{h:Pub}{k:IntKind}{ys:List Int}(hr:∀ n∈ys,InR k n):∀ (m j:Nat),j+m≤ys.length→DenL E h (jfq k ys m j) (((ys.drop j).take m).map (Value.int k))
 | 0,j,_=>by simp[jfq,DenL]
 | m+1,j,hj=>by
  have hlt:j<ys.length:=Jo
  rw[jks hlt,List.take_succ_cons,List.map_cons]
  simp only[jfq,DenL]
  have e:ys.getD j 0=ys[j]:=by simp[jj8,hlt]
  refine⟨_,_,rfl,?_,jfD hr m (j+1) Jo⟩
  rw[e]
  simp only[Den]
  exact⟨trivial,hr _ (List.getElem_mem hlt)⟩
def csrcK (es:Nat)(H:Hp)(d:D)(K:List D→Nat→Prop):Prop:=match d with
 | .bsl j off n e'=>match Nat.beq e' es,Nat.beq n 0 with
  | true,false=>jaU H j fun c=>match c with
   | .box ds=>dropK ds off fun r=>takeK r (n*es) fun us=>K us n
   | _=>False
  | _,_=>False
 | .slf e' n f=>match Nat.beq e' es,Nat.beq n 0 with
  | true,false=>catF es f n [] fun ds=>match D.pureL ds with|true=>K ds n|false=>False
  | _,_=>False
 | _=>False
theorem csrc_el {es:Nat}{H:Hp}{d:D}{K:List D→Nat→Prop}(hh:csrcK es H d K) :
  ∃ ds n,K ds n∧0<n∧ds.length=n*es ∧ ∀ E h a (w:World) L,Facts E h a w L H → ∀ v,Den E h d v → ∃ ad cap us,v = .slice (some ad) n cap∧n≤281474976710656∧us.length=n*es∧DenL E h ds us∧(∀ u∈us,u.oneCell'=true) ∧
   ∀ (j:Nat) u,us[j]? = some u→w.cell? (ad.add j)=some u:=by
 unfold csrcK at hh
 split at hh
 case h_3=>exact hh.elim
 case h_2=>
  rename_i e' n f
  have hh2:bsrcK es H (.slf e' n f) K:=hh
  split at hh
  case h_2=>exact hh.elim
  rename_i hb1 hb2
  have h1:=jae hb1
  subst h1
  have hn:0<n:=by
   rcases jjI n with e|e
   ·rw[e] at hb2;simp at hb2
   ·exact e
  obtain⟨hh,hlen⟩:=jiH hh
  rw[List.append_nil] at hh
  cases hp:D.pureL (catL f n) with
  | false=>rw[hp] at hh;exact hh.elim
  | true=>
   rw[hp] at hh
   have hcl:(catL f n).length=n*e':=by
    have:∀ m,m≤n→(catL f m).length=m*e':=fun m=>by
     induction m with
     | zero=>intro _;simp[catL]
     | succ m ih=>intro hm;simp only[catL,jkd,ih Jo,hlen m Jo,Nat.add_mul,Nat.one_mul]
    exact this n (jjG _)
   refine⟨catL f n,n,hh,hn,hcl,fun E h a w L F v hv=>?_⟩
   simp only[Den] at hv
   obtain⟨ad,cap,rfl,h2,h3,h4⟩:=hv
   cases ad with
   | none=>simp only at h4;omega
   | some ad=>
    simp only at h4
    obtain⟨us,g1,g2,g3,g4⟩:=jem h4.2
    exact⟨ad,cap,us,rfl,h3,g1,DenL.pure hp g2,g3,fun q u hu=>by rw[jbO h4.1];exact F.agree _ _ _ (g4 q u hu)⟩
 rename_i j off n e'
 split at hh
 case h_2=>exact hh.elim
 rename_i hb2 hb3
 have h2:=jae hb2
 subst h2
 have hn:0<n:=by
  rcases jjI n with e|e
  ·rw[e] at hb3;simp at hb3
  ·exact e
 have hy':=jay hh;clear hh;obtain⟨c,hc,hh⟩:=hy'
 split at hh
 case h_2=>exact hh.elim
 rename_i ds
 obtain⟨hd1,hh⟩:=jcb hh
 obtain⟨hd2,hh⟩:=jbQ hh
 refine⟨_,n,hh,hn,by rw[jke];omega,fun E h a w L F v hv=>?_⟩
 simp only[Den] at hv
 obtain⟨hreal,cap,rfl,h3,h4,_⟩:=hv
 obtain⟨_,vs,rest,T,hb,hd,ho,_⟩:=F.chunk _ _ hc
 have hvl:=hd.length
 rw[jkt] at hd2
 refine⟨_,cap,(vs.drop off).take (n*e'),rfl,h4,by rw[jke,jkt];omega,(hd.drop off).take _,fun u hu=>ho u (jki (jkj hu)),fun q u hu=>?_⟩
 have hq:=jaY hu
 rw[List.getElem?_drop] at hq
 rw[jaO]
 exact jcH hb hq
def copyBK (N:Nat)(dst:Option Nat)(ye:Ty)(s x:Operand)(L:Sl)(H:Hp)(K:K2):Prop:=rdg True L s fun ds=>match ds with
 | .bsl i off len es=>match Nat.beq es ye.size,Nat.beq ye.size 0 with
  | true,false=>jaU H i fun c=>match c with
   | .box dss=>rdg True L x fun dx=>csrcK ye.size H dx fun us n=>match Nat.ble n len with
    | true=>jbq dss off us fun ds'=>dstK N dst (.int .i64 (n:Nat)) L fun L'=>K L' ((i,.box ds')::H)
    | false=>takeK us (len*ye.size) fun us=>jbq dss off us fun ds'=>dstK N dst (.int .i64 (len:Nat)) L fun L'=>K L' ((i,.box ds')::H)
   | _=>False
  | _,_=>False
 | _=>False
def copyK (tb:Tb)(N:Nat)(dst:Option Nat)(t:Nat)(s x:Operand)(L:Sl)(H:Hp)(K:K2):Prop:=tyK tb t fun y=>match y.kind with
 | .slice e=>tyK tb e fun ye=>match ye.kind with
  | .struct _=>copyBK N dst ye s x L H K
  | .int k=>match Nat.beq ye.size 1 with
   | true=>rdg True L s fun ds=>match ds with
    | .osl i off len=>jaU H i fun c=>match c with
     | .arr k' xs=>match kE k k' with
      | true=>rdg True L x fun dx=>srcK k H dx fun ys=>(True→0<len∧off+len≤xs.length) ∧
        dstK N dst (.int .i64 (min ys.length len:Nat)) L fun L'=>K L' ((i,.arr k (setAt xs off (ys.take len)))::H)
      | false=>False
     | _=>False
    | .bsl i off len es=>match Nat.beq es 1 with
     | true=>jaU H i fun c=>match c with
      | .box dss=>rdg True L x fun dx=>srcK k H dx fun ys=>(True→len≤ys.length)∧jbq dss off (jfq k ys len 0) fun ds'=>
        dstK N dst (.int .i64 (len:Nat)) L fun L'=>K L' ((i,.box ds')::H)
      | .arr k' xs=>match kE k k' with
       | true=>rdg True L x fun dx=>srcK k H dx fun ys=>(True→0<len∧off+len≤xs.length) ∧
         dstK N dst (.int .i64 (min ys.length len:Nat)) L fun L'=>K L' ((i,.arr k (setAt xs off (ys.take len)))::H)
       | false=>False
      | _=>False
     | false=>False
    | _=>False
   | false=>False
  | _=>False
 | _=>False
theorem copyB_el {t e:Nat}{ye:Ty}{s x:Operand}(hu:P.underlying t=some (.slice e))(hte:TyOk P e ye)(ho:o.op = .call { callee := .builtin .copy,args := #[s,x],argTypes := #[t,t] })
  (hh:copyBK N o.dst ye s x L H K):Heavy P N cx Q o K L H:=by
 unfold copyBK at hh
 have hz:=jat hh;clear hh;obtain⟨ds,hh,hs⟩:=hz
 split at hh
 case h_2=>exact hh.elim
 rename_i i off len es
 split at hh
 case h_2=>exact hh.elim
 rename_i hb1 hb0
 have hs1:=jae hb1
 subst hs1
 have hpos:0<ye.size:=by
  rcases jjI ye.size with e|e
  ·rw[e] at hb0;simp at hb0
  ·exact e
 have hy':=jay hh;clear hh;obtain⟨c,hc,hh⟩:=hy'
 split at hh
 case h_2=>exact hh.elim
 rename_i dss
 have hz:=jat hh;clear hh;obtain⟨dx,hh,hdx⟩:=hz
 have hz:=csrc_el hh;clear hh;obtain⟨us,n,hh,hn,hul,hsrc⟩:=hz
 have key:∃ m,m=min n len∧jbq dss off (us.take (m*ye.size)) (fun ds'=>dstK N o.dst (.int .i64 (m:Nat)) L fun L'=>K L' ((i,.box ds')::H)):=by
  split at hh
  ·rename_i hb
   have:=jjw hb
   refine⟨n,Jo,?_⟩
   rw[jko Jo]
   exact hh
  ·rename_i hb
   have hlt:¬ n≤len:=fun h=>by rw[Nat.ble_eq_true_of_le h] at hb;cases hb
   obtain⟨_,hh⟩:=jbQ hh
   exact⟨len,Jo,hh⟩
 clear hh
 obtain⟨m,hm,hh⟩:=key
 obtain⟨hle,hK⟩:=jcP hh
 obtain⟨L',hK,hput⟩:=jev (cx:=cx) hK
 intro E h a w hN S next hnext
 have hden:=hs E h a trivial (S.facts.rd s)
 obtain⟨ad,cap,vs0,h3,h4,h5,h6,h7,h8⟩:=hsrc E h a w L S.facts _ (hdx E h a trivial (S.facts.rd x))
 simp only[Den] at hden
 obtain⟨hreal,cap0,hs0,hlc,hl2,_⟩:=hden
 obtain⟨_,vs,rest,T,hb,hd1,hd2,hszr0⟩:=S.mem.ok _ _ hc
 have hmn:m*ye.size≤n*ye.size:=Nat.mul_le_mul_right _ Jo
 have htl:(vs0.take (m*ye.size)).length=m*ye.size:=by rw[jke];omega
 have hul2:(us.take (m*ye.size)).length=m*ye.size:=by rw[jke];omega
 rw[hul2] at hle
 have hvl:=hd1.length
 have honec:∀ u∈vs0.take (m*ye.size),u.oneCell'=true:=fun u hu=>h7 u (jkj hu)
 obtain⟨W,hW⟩:∃ W,W=w.setRow (E.blk i) (setAt (vs++rest) off (vs0.take (m*ye.size))).toArray:=⟨_,rfl⟩
 have hrun:(Builtin.copy_ #[t,t] o.type #[a.eval s,a.eval x]).run P w = .ok (.int .i64 (m:Nat)) W:=by
  rw[hs0,h3]
  have hst:=run_storeCells_at P (E.blk i) off T (vs0.take (m*ye.size)) 0 (vs++rest).toArray w hb (by simp;omega) honec
  have hload:(Builtin.firstCells ye.size m (.slice (some ad) n cap)).run P w = .ok (vs0.take (m*ye.size)).toArray w:=
   run_firstCells_some w ye.size m ad n cap (vs0.take (m*ye.size)) htl (fun j u hu=>h8 j u (jaY hu))
  have hszr:(sizeOf e).run P w = .ok ye.size w:=hte.sizeOf w
  simp only[Builtin.copy_,jkr,List.getElem?_cons_zero,List.getElem?_cons_succ,Sem.run_bind,run_underlying hu,Result.andThen_ok,Builtin.lenOf,Sem.run_pure,hszr]
  rw[show Nat.min n len=m from hm.symm,hload]
  simp only[Result.andThen_ok]
  rw[hst,hW]
  simp[setAt,goInt]
 unfold Oper.wp
 rw[show (execOp a.eval o).run P w = .ok (.value (.int .i64 (m:Nat))) W by simp[execOp,ho,resolve,invoke,builtin,hrun]]
 simp only[Oper.upon]
 refine hnext _ _ E h _ _ hK (jaB _ _ _) ?_
 refine hput E h a W _ _ hN ?_ (by simp only[Den];exact⟨trivial,jb1 Jo⟩)
 refine S.write hc rfl hreal (by rw[hW];rfl) (by rw[hW];rfl) (by rw[hW];rfl) (by rw[hW,size_setRow]) (fun b hb=>by rw[hW];exact setRow_other w _ _ _ hb) ?_
 have hft:off+(vs0.take (m*ye.size)).length≤vs.length:=by rw[htl];omega
 exact⟨hreal,_,rest,T,by rw[hW,setRow_heap w _ _ _ T (0,0) hb,je1 hft],hd1.setAt (h6.take _) off,jco hd2 honec,by rw[jbM hft];exact hszr0⟩
theorem copy_el (htb:TbOk P tb){t:Nat}{s x:Operand}(ho:o.op = .call { callee := .builtin .copy,args := #[s,x],argTypes := #[t,t] })
  (hh:copyK tb N o.dst t s x L H K):Heavy P N cx Q o K L H:=by
 have hx:=jak hh;clear hh;obtain⟨y,hy,hh⟩:=hx
 have hty:=htb _ _ hy
 split at hh
 case h_2=>exact hh.elim
 rename_i e hk
 have hu:=jaw hty hk
 have hx:=jak hh;clear hh;obtain⟨ye,hye,hh⟩:=hx
 have hte:=htb _ _ hye
 split at hh
 case h_3=>exact hh.elim
 case h_1=>exact copyB_el hu hte ho hh
 rename_i k hke
 cases hb1:Nat.beq ye.size 1 with
 | false=>rw[hb1] at hh;exact hh.elim
 | true=>
  rw[hb1] at hh
  have hs1:=jae hb1
  have hz:=jat hh;clear hh;obtain⟨ds,hh,hs⟩:=hz
  split at hh
  case h_3=>exact hh.elim
  case h_2=>
   rename_i i off len es
   cases hb2:Nat.beq es 1 with
   | false=>rw[hb2] at hh;exact hh.elim
   | true=>
    rw[hb2] at hh
    have hy':=jay hh;clear hh;obtain⟨c,hc,hh⟩:=hy'
    split at hh
    case h_3=>exact hh.elim
    case h_2=>
     rename_i k' xs
     split at hh
     case h_2=>exact hh.elim
     rename_i hkk
     have:=kE_eq hkk;subst this
     have hz:=jat hh;clear hh;obtain⟨dx,hh,hdx⟩:=hz
     have hz:=jhj hh;clear hh;obtain⟨ys,hh,hsrc⟩:=hz
     obtain⟨hlen,hK⟩:=hh
     obtain⟨hpos,hfit⟩:=hlen trivial
     obtain⟨L',hK,hput⟩:=jev (cx:=cx) hK
     intro E h a w hN S next hnext
     have hden:=hs E h a trivial (S.facts.rd s)
     obtain⟨h1,h2,ad,cap,h3,h4⟩:=hsrc E h a w L S.facts _ (hdx E h a trivial (S.facts.rd x))
     simp only[Den] at hden
     obtain⟨hreal,scap,hs0,g1,g3,g5⟩:=hden
     obtain⟨so,hso⟩:∃ so,so=off:=⟨_,rfl⟩
     subst hso
     obtain⟨rest,T,hb,hsz,hr,hkn⟩:=jbc hreal (S.mem.ok _ _ hc)
     obtain⟨iy,i1,i2,i3,z,i4,i5⟩:=jez hte
     -- the world behind
     obtain⟨W,hW⟩:∃ W,W=w.setRow (E.blk i) (setAt (xs.map (Value.int k)++rest) so ((ys.take len).map (Value.int k))).toArray:=⟨_,rfl⟩
     have hrun:(Builtin.copy_ #[t,t] o.type #[a.eval s,a.eval x]).run P w = .ok (.int .i64 (min ys.length len:Nat)) W:=by
      rw[hs0,h3]
      have hst:=run_storeCells_at P (E.blk i) so T ((ys.take len).map (Value.int k)) 0 (xs.map (Value.int k)++rest).toArray w hb (by simp;omega) jbt
      have hmin:((ys.take len).map (Value.int k)).length=min ys.length len:=by simp[Nat.min_comm]
      have hload:(Builtin.firstCells 1 (min ys.length len) (.slice ad ys.length cap)).run P w = .ok ((ys.take len).map (Value.int k)).toArray w:=by
       cases ad with
       | none=>simp only at h4;subst h4;simp[Builtin.firstCells]
       | some ad=>
        rw[← hmin]
        exact run_firstCells_some w 1 _ ad _ cap ((ys.take len).map (Value.int k)) Js (fun j u hu=>h4 j u (by rw[List.map_take] at hu;exact jaY hu))
      have hszr:(sizeOf e).run P w = .ok 1 w:=by rw[hte.sizeOf w,hs1]
      simp only[Builtin.copy_,jkr,List.getElem?_cons_zero,List.getElem?_cons_succ,Sem.run_bind,run_underlying hu,Result.andThen_ok,Builtin.lenOf,Sem.run_pure,hszr]
      rw[show Nat.min ys.length len=min ys.length len from rfl,hload]
      simp only[Result.andThen_ok]
      rw[hst,hW]
      simp[setAt,goInt]
     unfold Oper.wp
     rw[show (execOp a.eval o).run P w = .ok (.value (.int .i64 (min ys.length len:Nat))) W by simp[execOp,ho,resolve,invoke,builtin,hrun]]
     simp only[Oper.upon]
     refine hnext _ _ E h _ _ hK (jaB _ _ _) ?_
     refine hput E h a W _ _ hN ?_ (by simp only[Den];exact⟨trivial,jb1 Jo⟩)
     refine S.write hc rfl hreal (by rw[hW];rfl) (by rw[hW];rfl) (by rw[hW];rfl) (by rw[hW,size_setRow]) (fun b hb=>by rw[hW];exact setRow_other w _ _ _ hb) ?_
     have hl:(setAt xs so (ys.take len)).length=xs.length:=jbM (by simp;omega)
     refine .inr ⟨hreal,rest,T,?_,by rw[hl];exact hsz,?_,by rw[hl];exact hkn⟩
     ·rw[hW,setRow_heap w _ _ _ T (0,0) hb]
      congr 2
      apply Array.toList_inj.1
      simp only[setAt,List.map_append,List.map_take,List.map_drop]
      rw[jkl (by simp;omega),jkm (by simp;omega)]
      simp
     ·exact jco hr (fun n hn=>h1 n (jkj hn))
    rename_i dss
    have hz:=jat hh;clear hh;obtain⟨dx,hh,hdx⟩:=hz
    have hz:=jhj hh;clear hh;obtain⟨ys,hh,hsrc⟩:=hz
    obtain⟨hlen,hh⟩:=hh
    have hlen:=hlen trivial
    obtain⟨hle,hK⟩:=jcP hh
    obtain⟨L',hK,hput⟩:=jev (cx:=cx) hK
    intro E h a w hN S next hnext
    have hden:=hs E h a trivial (S.facts.rd s)
    obtain⟨h1,h2,ad,cap,h3,h4⟩:=hsrc E h a w L S.facts _ (hdx E h a trivial (S.facts.rd x))
    simp only[Den] at hden
    obtain⟨hreal,cap0,hs0,hlc,hl2,_⟩:=hden
    obtain⟨_,vs,rest,T,hb,hd1,hd2,hszr0⟩:=S.mem.ok _ _ hc
    have hil:∀ m j,(jfq k ys m j).length=m:=by
     intro m
     induction m with
     | zero=>intro j;rfl
     | succ m ih=>intro j;simp[jfq,ih]
    rw[hil] at hle
    have hvl:=hd1.length
    obtain⟨W,hW⟩:∃ W,W=w.setRow (E.blk i) (setAt (vs++rest) off ((ys.take len).map (Value.int k))).toArray:=⟨_,rfl⟩
    have hml:((ys.take len).map (Value.int k)).length=len:=by simp;omega
    have hrun:(Builtin.copy_ #[t,t] o.type #[a.eval s,a.eval x]).run P w = .ok (.int .i64 (len:Nat)) W:=by
     rw[hs0,h3]
     have hst:=run_storeCells_at P (E.blk i) off T ((ys.take len).map (Value.int k)) 0 (vs++rest).toArray w hb (by simp;omega) jbt
     have hload:(Builtin.firstCells 1 (min ys.length len) (.slice ad ys.length cap)).run P w = .ok ((ys.take len).map (Value.int k)).toArray w:=by
      cases ad with
      | none=>simp only at h4;subst h4;simp[Builtin.firstCells]
      | some ad=>
       rw[show min ys.length len=((ys.take len).map (Value.int k)).length by simp[Nat.min_comm]]
       exact run_firstCells_some w 1 _ ad _ cap ((ys.take len).map (Value.int k)) Js (fun j u hu=>h4 j u (by rw[List.map_take] at hu;exact jaY hu))
     have hszr:(sizeOf e).run P w = .ok 1 w:=by rw[hte.sizeOf w,hs1]
     simp only[Builtin.copy_,jkr,List.getElem?_cons_zero,List.getElem?_cons_succ,Sem.run_bind,run_underlying hu,Result.andThen_ok,Builtin.lenOf,Sem.run_pure,hszr]
     rw[show Nat.min ys.length len=min ys.length len from rfl,hload]
     simp only[Result.andThen_ok]
     rw[hst,hW]
     simp[setAt,goInt]
     omega
    unfold Oper.wp
    rw[show (execOp a.eval o).run P w = .ok (.value (.int .i64 (len:Nat))) W by simp[execOp,ho,resolve,invoke,builtin,hrun]]
    simp only[Oper.upon]
    refine hnext _ _ E h _ _ hK (jaB _ _ _) ?_
    refine hput E h a W _ _ hN ?_ (by simp only[Den];exact⟨trivial,jb1 Jo⟩)
    refine S.write hc rfl hreal (by rw[hW];rfl) (by rw[hW];rfl) (by rw[hW];rfl) (by rw[hW,size_setRow]) (fun b hb=>by rw[hW];exact setRow_other w _ _ _ hb) ?_
    have hdi:=jfD (E:=E) (h:=h) h1 len 0 Jo
    rw[jku] at hdi
    have hft:off+((ys.take len).map (Value.int k)).length≤vs.length:=by rw[hml];omega
    exact⟨hreal,_,rest,T,by rw[hW,setRow_heap w _ _ _ T (0,0) hb,je1 hft],hd1.setAt hdi off,jco hd2 jbt,by rw[jbM hft];exact hszr0⟩
  rename_i i off len
  have hy':=jay hh;clear hh;obtain⟨c,hc,hh⟩:=hy'
  split at hh
  case h_2=>exact hh.elim
  rename_i k' xs
  split at hh
  case h_2=>exact hh.elim
  rename_i hkk
  have:=kE_eq hkk;subst this
  have hz:=jat hh;clear hh;obtain⟨dx,hh,hdx⟩:=hz
  have hz:=jhj hh;clear hh;obtain⟨ys,hh,hsrc⟩:=hz
  obtain⟨hlen,hK⟩:=hh
  obtain⟨hpos,hfit⟩:=hlen trivial
  obtain⟨L',hK,hput⟩:=jev (cx:=cx) hK
  intro E h a w hN S next hnext
  have hden:=hs E h a trivial (S.facts.rd s)
  obtain⟨h1,h2,ad,cap,h3,h4⟩:=hsrc E h a w L S.facts _ (hdx E h a trivial (S.facts.rd x))
  simp only[Den] at hden
  rcases hden with⟨_,_,hl0⟩|⟨hreal,so,scap,hs0,g1,g2,g3,g4,g5⟩
  ·omega
  have hso:so=off:=by rcases g4 with g4|g4<;>omega
  subst hso
  obtain⟨rest,T,hb,hsz,hr,hkn⟩:=jbc hreal (S.mem.ok _ _ hc)
  obtain⟨iy,i1,i2,i3,z,i4,i5⟩:=jez hte
  -- the world behind
  obtain⟨W,hW⟩:∃ W,W=w.setRow (E.blk i) (setAt (xs.map (Value.int k)++rest) so ((ys.take len).map (Value.int k))).toArray:=⟨_,rfl⟩
  have hrun:(Builtin.copy_ #[t,t] o.type #[a.eval s,a.eval x]).run P w = .ok (.int .i64 (min ys.length len:Nat)) W:=by
   rw[hs0,h3]
   have hst:=run_storeCells_at P (E.blk i) so T ((ys.take len).map (Value.int k)) 0 (xs.map (Value.int k)++rest).toArray w hb (by simp;omega) jbt
   have hmin:((ys.take len).map (Value.int k)).length=min ys.length len:=by simp[Nat.min_comm]
   have hload:(Builtin.firstCells 1 (min ys.length len) (.slice ad ys.length cap)).run P w = .ok ((ys.take len).map (Value.int k)).toArray w:=by
    cases ad with
    | none=>simp only at h4;subst h4;simp[Builtin.firstCells]
    | some ad=>
     rw[← hmin]
     exact run_firstCells_some w 1 _ ad _ cap ((ys.take len).map (Value.int k)) Js (fun j u hu=>h4 j u (by rw[List.map_take] at hu;exact jaY hu))
   have hszr:(sizeOf e).run P w = .ok 1 w:=by rw[hte.sizeOf w,hs1]
   simp only[Builtin.copy_,jkr,List.getElem?_cons_zero,List.getElem?_cons_succ,Sem.run_bind,run_underlying hu,Result.andThen_ok,Builtin.lenOf,Sem.run_pure,hszr]
   rw[show Nat.min ys.length len=min ys.length len from rfl,hload]
   simp only[Result.andThen_ok]
   rw[hst,hW]
   simp[setAt,goInt]
  unfold Oper.wp
  rw[show (execOp a.eval o).run P w = .ok (.value (.int .i64 (min ys.length len:Nat))) W by simp[execOp,ho,resolve,invoke,builtin,hrun]]
  simp only[Oper.upon]
  refine hnext _ _ E h _ _ hK (jaB _ _ _) ?_
  refine hput E h a W _ _ hN ?_ (by simp only[Den];exact⟨trivial,jb1 Jo⟩)
  refine S.write hc rfl hreal (by rw[hW];rfl) (by rw[hW];rfl) (by rw[hW];rfl) (by rw[hW,size_setRow]) (fun b hb=>by rw[hW];exact setRow_other w _ _ _ hb) ?_
  have hl:(setAt xs so (ys.take len)).length=xs.length:=jbM (by simp;omega)
  refine .inr ⟨hreal,rest,T,?_,by rw[hl];exact hsz,?_,by rw[hl];exact hkn⟩
  ·rw[hW,setRow_heap w _ _ _ T (0,0) hb]
   congr 2
   apply Array.toList_inj.1
   simp only[setAt,List.map_append,List.map_take,List.map_drop]
   rw[jkl (by simp;omega),jkm (by simp;omega)]
   simp
  ·exact jco hr (fun n hn=>h1 n (jkj hn))
end
end Go.V
end
