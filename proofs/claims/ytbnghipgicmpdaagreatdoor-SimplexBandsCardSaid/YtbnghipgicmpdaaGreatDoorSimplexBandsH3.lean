/- Laws of a small interpreter over plain values, part 3. No condition. -/
import Derived.Test.YtbnghipgicmpdaaGreatDoorSimplexBandsH2
import Derived.OrdersIn
set_option linter.unusedSimpArgs false
set_option linter.unusedVariables false
set_option maxHeartbeats 8000000
set_option maxRecDepth 100000
section
namespace Go.V
open Go Go.RowKit
def sub0 (k:IntKind)(xs:List Int)(off len:Nat):D:=match off with
 | 0 => .ints k (xs.take len)
 | o+1 => .ints k ((xs.drop (o+1)).take len)
theorem jh0 (k:IntKind)(xs:List Int)(off len:Nat):sub0 k xs off len = .ints k ((xs.drop off).take len):=by cases off<;>rfl
def subK (k:IntKind)(xs:List Int)(off len:Nat)(K:D→Prop):Prop:=match off with
 | 0=>K (.ints k (xs.take len))
 | o+1=>K (.ints k ((xs.drop (o+1)).take len))
theorem subK_eq (k:IntKind)(xs:List Int)(off len:Nat)(K:D→Prop):subK k xs off len K=K (sub0 k xs off len):=by cases off<;>rfl
def bslOk (ds:List D)(off len e:Nat):Bool:=match D.pureL ds with
 | true=>Nat.ble (off+len*e) ds.length
 | false=>false
mutual
def pubD (i:Nat)(c:Chunk):D→D
 | .osl j off len=>match Nat.beq i j with
  | true=>match c with | .arr k xs=>sub0 k xs off len|_ => .any
  | false => .osl j off len
 | .box j off=>match Nat.beq i j with
  | true=>match c with | .box ds => .ref (ds.drop off) | .arr k xs => .ref ((xs.map (D.int k)).drop off)|_ => .any
  | false => .box j off
 | .bsl j off len e=>match Nat.beq i j with
  | true=>match c with
   | .box ds=>match bslOk ds off len e with|true => .slf e len (fun q=>(ds.drop (off+q*e)).take e)|false => .any
   | .arr k xs=>match Nat.beq e 1,Nat.ble (off+len) xs.length with|true,true=>sub0 k xs off len|_,_ => .any
   | _ => .any
  | false => .bsl j off len e
 | .agg ds => .agg (pubL i c ds)
 | .tup ds => .tup (pubL i c ds)
 | .fn f es ds => .fn f (pubL i c es) (pubL i c ds)
 | .ref ds => .ref (pubL i c ds)
 | .gd b d => .gd b (pubD i c d)
 | .any => .any
 | .undef => .undef
 | .bool b => .bool b
 | .int k n => .int k n
 | .str s => .str s
 | .nil => .nil
 | .ints k xs => .ints k xs
 | .slf e n f => .slf e n f
 | .iarr k xs => .iarr k xs
 | .gp g => .gp g
 | .yld g => .yld g
 | .val g => .val g
 | .anyb p => .anyb p
 | .mapr p => .mapr p
def pubL (i:Nat)(c:Chunk):List D→List D
 | []=>[]
 | d::ds=>pubD i c d::pubL i c ds
end
mutual
def pubDK (i:Nat)(c:Chunk):D→(D→Prop)→Prop
 | .osl j off len,K=>match Nat.beq i j with
  | true=>match c with | .arr k xs=>subK k xs off len K|_=>K .any
  | false=>K (.osl j off len)
 | .box j off,K=>match Nat.beq i j with
  | true=>match c with | .box ds=>K (.ref (ds.drop off)) | .arr k xs=>K (.ref ((xs.map (D.int k)).drop off))|_=>K .any
  | false=>K (.box j off)
 | .bsl j off len e,K=>match Nat.beq i j with
  | true=>match c with
   | .box ds=>match bslOk ds off len e with|true=>K (.slf e len (fun q=>(ds.drop (off+q*e)).take e))|false=>K .any
   | .arr k xs=>match Nat.beq e 1,Nat.ble (off+len) xs.length with|true,true=>subK k xs off len K|_,_=>K .any
   | _=>K .any
  | false=>K (.bsl j off len e)
 | .agg ds,K=>pubLK i c ds fun ds=>K (.agg ds)
 | .tup ds,K=>pubLK i c ds fun ds=>K (.tup ds)
 | .fn f es ds,K=>pubLK i c es fun es=>pubLK i c ds fun ds=>K (.fn f es ds)
 | .ref ds,K=>pubLK i c ds fun ds=>K (.ref ds)
 | .gd b d,K=>pubDK i c d fun d=>K (.gd b d)
 | .any,K=>K .any
 | .undef,K=>K .undef
 | .bool b,K=>K (.bool b)
 | .int k n,K=>K (.int k n)
 | .str s,K=>K (.str s)
 | .nil,K=>K .nil
 | .ints k xs,K=>K (.ints k xs)
 | .slf e n f,K=>K (.slf e n f)
 | .iarr k xs,K=>K (.iarr k xs)
 | .gp g,K=>K (.gp g)
 | .yld g,K=>K (.yld g)
 | .val g,K=>K (.val g)
 | .anyb p,K=>K (.anyb p)
 | .mapr p,K=>K (.mapr p)
def pubLK (i:Nat)(c:Chunk):List D→(List D→Prop)→Prop
 | [],K=>K []
 | d::ds,K=>pubDK i c d fun d=>pubLK i c ds fun ds=>K (d::ds)
end
mutual
theorem jgK (i:Nat)(c:Chunk):∀ (d:D) (K:D→Prop),pubDK i c d K=K (pubD i c d)
 | .osl j off len,K=>by
  simp only[pubDK,pubD]
  cases Nat.beq i j<;>simp only
  cases c<;>simp only[subK_eq]
 | .box j off,K=>by
  simp only[pubDK,pubD]
  cases Nat.beq i j<;>simp only
  cases c<;>simp only
 | .bsl j off len e,K=>by
  simp only[pubDK,pubD]
  cases Nat.beq i j<;>simp only
  cases c<;>simp only
  ·rename_i ds
   cases bslOk ds off len e<;>simp only
  ·rename_i k xs
   cases Nat.beq e 1<;>cases Nat.ble (off+len) xs.length<;>simp only[subK_eq]
 | .agg ds,K=>by simp only[pubDK,pubD];exact jbK i c ds _
 | .tup ds,K=>by simp only[pubDK,pubD];exact jbK i c ds _
 | .fn f es ds,K=>by simp only[pubDK,pubD];rw[jbK i c es];exact jbK i c ds _
 | .ref ds,K=>by simp only[pubDK,pubD];exact jbK i c ds _
 | .gd b d,K=>by simp only[pubDK,pubD];exact jgK i c d _
 | .any,K=>by simp only[pubDK,pubD]
 | .undef,K=>by simp only[pubDK,pubD]
 | .bool b,K=>by simp only[pubDK,pubD]
 | .int k n,K=>by simp only[pubDK,pubD]
 | .str s,K=>by simp only[pubDK,pubD]
 | .nil,K=>by simp only[pubDK,pubD]
 | .ints k xs,K=>by simp only[pubDK,pubD]
 | .slf e n f,K=>by simp only[pubDK,pubD]
 | .iarr k xs,K=>by simp only[pubDK,pubD]
 | .gp g,K=>by simp only[pubDK,pubD]
 | .yld g,K=>by simp only[pubDK,pubD]
 | .val g,K=>by simp only[pubDK,pubD]
 | .anyb g,K=>by simp only[pubDK,pubD]
 | .mapr g,K=>by simp only[pubDK,pubD]
theorem jbK (i:Nat)(c:Chunk):∀ (ds:List D) (K:List D→Prop),pubLK i c ds K=K (pubL i c ds)
 | [],K=>by simp only[pubLK,pubL]
 | d::ds,K=>by simp only[pubLK,pubL];rw[jgK i c d];exact jbK i c ds _
end
def pubSl (i:Nat)(c:Chunk):Sl→Sl
 | []=>[]
 | (t,d)::L=>(t,pubD i c d)::pubSl i c L
def jf5 (i:Nat)(c:Chunk):Sl→(Sl→Prop)→Prop
 | [],K=>K []
 | (t,d)::L,K=>pubDK i c d fun d=>jf5 i c L fun L=>K ((t,d)::L)
theorem je8 (i:Nat)(c:Chunk)(L:Sl)(K:Sl→Prop):jf5 i c L K=K (pubSl i c L):=by
 induction L generalizing K with
 | nil=>rfl
 | cons x L ih=>obtain⟨t,d⟩:=x;simp only[jf5,pubSl,jgK,ih]
theorem look_pub (i:Nat)(c:Chunk)(L:Sl)(t:Nat):look (pubSl i c L) t=pubD i c (look L t):=by
 induction L with
 | nil=>simp[pubSl,look,pubD]
 | cons x L ih=>
  obtain⟨s,d⟩:=x
  simp only[pubSl,jaI]
  split
  ·rfl
  ·exact ih
def pubC (i:Nat)(c:Chunk):Chunk→Chunk
 | .box ds => .box (pubL i c ds)
 | .arr k xs => .arr k xs
 | .gone => .gone
 | .lp p => .lp p
 | .mp p => .mp p
def pubHp (i:Nat)(c:Chunk):Hp→Hp
 | []=>[]
 | (j,x)::H=>(j,pubC i c x)::pubHp i c H
def jdl (i:Nat)(c:Chunk):Hp→(Hp→Prop)→Prop
 | [],K=>K []
 | (j,x)::H,K=>match x with
  | .box ds=>pubLK i c ds fun ds=>jdl i c H fun H=>K ((j,.box ds)::H)
  | .arr k xs=>jdl i c H fun H=>K ((j,.arr k xs)::H)
  | .gone=>jdl i c H fun H=>K ((j,.gone)::H)
  | .lp p=>jdl i c H fun H=>K ((j,.lp p)::H)
  | .mp p=>jdl i c H fun H=>K ((j,.mp p)::H)
theorem je9 (i:Nat)(c:Chunk)(H:Hp)(K:Hp→Prop):jdl i c H K=K (pubHp i c H):=by
 induction H generalizing K with
 | nil=>rfl
 | cons x H ih=>
  obtain⟨t,d⟩:=x
  cases d<;>simp only[jdl,pubHp,pubC,jbK,ih]
theorem lookH_pub {i:Nat}{c:Chunk}{H:Hp}{j:Nat}{x:Chunk}(h:lookH (pubHp i c H) j=some x):∃ y,lookH H j=some y∧x=pubC i c y:=by
 induction H with
 | nil=>simp[pubHp,lookH] at h
 | cons z H ih=>
  obtain⟨s,d⟩:=z
  simp only[pubHp] at h
  rw[jag] at h ⊢
  split
  ·rename_i e;rw[if_pos e] at h;exact⟨d,rfl,(Option.some.inj h).symm⟩
  ·rename_i e;rw[if_neg e] at h;exact ih h
def jaD (vs:List Value)(b:Nat)(h:Pub):Pub:=fun b' o=>if b'=b then vs[o]? else h b' o
theorem jfC {E:Env}{h:Pub}{k:IntKind} : ∀ {xs:List Int},(∀ n∈xs,InR k n)→DenL E h (xs.map (D.int k)) (xs.map (Value.int k))
 | [],_=>by simp[DenL]
 | x::xs,H=>by
  simp only[List.map_cons,DenL]
  exact⟨_,_,rfl,by simp only[Den];exact⟨trivial,H x Js⟩,jfC fun n hn=>H n (by simp[hn])⟩
section
variable {E : Env} {h h' : Pub} {i : Nat} {c : Chunk}
def Handed (E:Env)(h':Pub)(i:Nat)(c:Chunk):Prop:=match c with
 | .arr k xs=>E.kn i=xs.length∧(∀ n∈xs,InR k n) ∧ ∀ (o:Nat) (n:Int),xs[o]? = some n→h' (E.blk i) o=some (.int k n)
 | .box ds => ∃ vs,DenL E h' ds vs∧(∀ v∈vs,v.oneCell'=true) ∧ ∀ (o:Nat) v,vs[o]? = some v→h' (E.blk i) o=some v
 | .gone=>False
 | .lp _=>False
 | .mp _=>False
mutual
theorem Den.pub (hh:h.Le h')(hr:E.real i=false → ∃ k,c = .arr k [])(hc:E.real i=true→Handed E h' i c):∀ {d:D} {v:Value},Den E h d v→Den E h' (pubD i c d) v
 | .osl j off len,v,H=>by
  simp only[pubD]
  cases hb:Nat.beq i j with
  | false=>simpa [Den] using H
  | true=>
   have:=jae hb;subst this
   cases c with
   | gone=>simp[Den]
   | lp p=>simp[Den]
   | mp p=>simp[Den]
   | box ds=>simp[Den]
   | arr k xs=>
    simp only[Den] at H
    rcases H with⟨H,rfl,hl0⟩|⟨hreal,o,cap,rfl,g1,g2,g3,g4,g5⟩
    ·obtain⟨k',hk⟩:=hr H
     cases hk
     subst hl0
     simp only
     rw[jh0]
     simp only[Den,jaQ]
     exact⟨none,0,Js,Js,Js,Js,Js⟩
    obtain⟨h1,h2,h3⟩:=hc hreal
    simp only
    rw[jh0]
    simp only[Den,jaQ]
    have hlen:((xs.drop off).take len).length=len:=by simp;omega
    refine⟨some ⟨E.blk i,o,none⟩,cap,by rw[hlen],Jo,Jo,fun n hn=>h2 n (jki (jkj hn)),rfl,?_⟩
    intro j n hn
    have hj:j<len:=by rw[← hlen];exact(jkh.1 hn).1
    have ho:o=off:=by rcases g4 with g4|g4<;>omega
    subst ho
    exact h3 _ _ (by simpa using jaY hn)
 | .box j off,v,H=>by
  simp only[pubD]
  cases hb:Nat.beq i j with
  | false=>simpa [Den] using H
  | true=>
   have:=jae hb;subst this
   cases c with
   | gone=>simp[Den]
   | lp p=>simp[Den]
   | mp p=>simp[Den]
   | arr k xs=>
    simp only[Den] at H ⊢
    obtain⟨_,h2,h3⟩:=hc H.2
    refine⟨_,_,H.1,(xs.map (Value.int k)).drop off,(jfC h2).drop off,fun v hv=>?_,fun j v hv=>?_⟩
    ·obtain⟨n,_,rfl⟩:=List.mem_map.1 (jki hv)
     rfl
    ·rw[List.getElem?_drop,List.getElem?_map] at hv
     obtain⟨n,hn,rfl⟩:=Option.map_eq_some_iff.1 hv
     exact h3 _ n hn
   | box ds=>
    simp only[Den] at H ⊢
    obtain⟨vs,h1,h2,h3⟩:=hc H.2
    exact⟨_,_,H.1,vs.drop off,h1.drop off,fun v hv=>h2 v (jki hv),fun j v hv=>h3 _ v (by simpa using hv)⟩
 | .bsl j off len e,v,H=>by
  simp only[pubD]
  cases hb:Nat.beq i j with
  | false=>simpa [Den] using H
  | true=>
   have:=jae hb;subst this
   cases c with
   | gone=>simp[Den]
   | lp p=>simp[Den]
   | mp p=>simp[Den]
   | arr k xs=>
    simp only
    cases he:Nat.beq e 1 with
    | false=>simp[Den]
    | true=>
     cases hl:Nat.ble (off+len) xs.length with
     | false=>simp[Den]
     | true=>
      have hle:=jjw hl
      simp only[Den] at H
      obtain⟨hreal,cap,rfl,hlc,hlen0,_⟩:=H
      obtain⟨h1,h2,h3⟩:=hc hreal
      simp only
      rw[jh0]
      simp only[Den,jaQ]
      have hlen:((xs.drop off).take len).length=len:=by simp;omega
      refine⟨some ⟨E.blk i,off,none⟩,cap,by rw[hlen],Jo,Jo,fun n hn=>h2 n (jki (jkj hn)),rfl,?_⟩
      intro j n hn
      exact h3 _ _ (by simpa using jaY hn)
   | box ds=>
    simp only
    cases hok:bslOk ds off len e with
    | false=>simp[Den]
    | true=>
     unfold bslOk at hok
     cases hp:D.pureL ds with
     | false=>rw[hp] at hok;cases hok
     | true=>
      rw[hp] at hok
      have hle:=jjw hok
      simp only[Den] at H ⊢
      obtain⟨hreal,cap,rfl,hlc,hlen,_⟩:=H
      obtain⟨vs,h1,h2,h3⟩:=hc hreal
      have hvl:=h1.length
      refine⟨some ⟨E.blk i,off,none⟩,cap,rfl,hlc,hlen,rfl,fun q hq=>?_⟩
      have hqe:off+q*e+e≤ds.length:=by
       have:(q+1)*e≤len*e:=Nat.mul_le_mul_right e hq
       rw[Nat.add_mul] at this
       omega
      refine⟨(vs.drop (off+q*e)).take e,((DenL.pure (E':=Env.dummy) hp h1).drop _).take _,by simp;omega,fun v hv=>h2 v (jki (jkj hv)),fun j v hv=>?_⟩
      exact h3 _ v (by simpa using jaY hv)
 | .agg ds,v,H=>by
  simp only[Den,pubD] at H ⊢
  obtain⟨vs,h1,h2,h3⟩:=H
  exact⟨vs,h1,DenL.pub hh hr hc h2,h3⟩
 | .tup ds,v,H=>by
  simp only[Den,pubD] at H ⊢
  obtain⟨vs,h1,h2⟩:=H
  exact⟨vs,h1,DenL.pub hh hr hc h2⟩
 | .fn f es ds,v,H=>by
  simp only[Den,pubD] at H ⊢
  obtain⟨us,vs,h1,h2,h3⟩:=H
  exact⟨us,vs,h1,DenL.pub hh hr hc h2,DenL.pub hh hr hc h3⟩
 | .ref ds,v,H=>by
  simp only[Den,pubD] at H ⊢
  obtain⟨b,o,h1,vs,h2,h3,h4⟩:=H
  exact⟨b,o,h1,vs,DenL.pub hh hr hc h2,h3,fun j v hv=>hh _ _ _ (h4 j v hv)⟩
 | .gd b d,v,H=>by
  simp only[Den,pubD] at H ⊢
  exact⟨fun hb=>Den.pub hh hr hc (H.1 hb),H.2⟩
 | .any,v,H=>Den.mono hh H
 | .undef,v,H=>Den.mono hh H
 | .bool _,v,H=>Den.mono hh H
 | .int _ _,v,H=>Den.mono hh H
 | .str _,v,H=>Den.mono hh H
 | .nil,v,H=>Den.mono hh H
 | .ints _ _,v,H=>Den.mono hh H
 | .slf _ _ _,v,H=>Den.mono hh H
 | .iarr _ _,v,H=>Den.mono hh H
 | .gp _,v,H=>Den.mono hh H
 | .yld _,v,H=>Den.mono hh H
 | .mapr _,v,H=>Den.mono hh H
 | .val _,v,H=>Den.mono hh H
 | .anyb _,v,H=>Den.mono hh H
theorem DenL.pub (hh:h.Le h')(hr:E.real i=false → ∃ k,c = .arr k [])(hc:E.real i=true→Handed E h' i c):∀ {ds:List D} {vs:List Value},DenL E h ds vs→DenL E h' (pubL i c ds) vs
 | [],vs,H=>by simpa [DenL,pubL] using H
 | d::ds,vs,H=>by
  simp only[DenL,pubL] at H ⊢
  obtain⟨v,vs',h1,h2,h3⟩:=H
  exact⟨v,vs',h1,Den.pub hh hr hc h2,DenL.pub hh hr hc h3⟩
end
theorem jaV {h:Pub}{b:Nat}(hb:∀ o,h b o=none)(vs:List Value):h.Le (jaD vs b h):=fun b' o v hv=>by
 unfold jaD
 split
 ·rename_i e;subst e;rw[hb o] at hv;cases hv
 ·exact hv
theorem Sat.publish {cx:Cx}{a:Act}{w:World}{L:Sl}{H:Hp}(S:Sat cx E h a w L H)(hc:lookH H i=some c)(hcl:c.cel=true) :
  ∃ h',h.Le h'∧Sat cx E h' a w (pubSl i c L) ((i,.gone)::pubHp i c H) ∧ ∀ d v,Den E h d v→Den E h' (pubD i c d) v:=by
 have hl:=Chunk.live_of_cel hcl
 have hok:=S.mem.ok i c hc
 -- the published memory, with the block's cells
 obtain⟨h',hle,hv,hr,hag,hun,hsince⟩:∃ h':Pub,h.Le h'∧(E.real i=false → ∃ k,c = .arr k [])∧(E.real i=true→Handed E h' i c)∧Agree h' w ∧
   (∀ j x,j≠i→lookH H j=some x→x.live=true→E.real j=true → ∀ o,h' (E.blk j) o=none)∧Since cx.w0 cx.h0 w h':=by
  cases hreal:E.real i with
  | false=>
   refine⟨h,Pub.Le.refl h,fun _=>?_,fun e=>(by cases e),S.agree,fun j x _ hj hx hrj=>S.mem.unpub j x hj hx hrj,S.since⟩
   cases c with
   | gone=>simp[Chunk.live] at hl
   | lp p=>simp[Chunk.cel] at hcl
   | mp p=>simp[Chunk.cel] at hcl
   | box ds=>exact absurd hok.1 (by rw[hreal];decide)
   | arr k xs=>
    rcases hok with⟨_,rfl⟩|⟨hx,_⟩
    ·exact⟨k,rfl⟩
    ·rw[hreal] at hx;cases hx
  | true=>
   have hun:=S.mem.unpub i c hc hl hreal
   have hbase:=S.mem.base i c hc hl hreal
   have key:∀ vs:List Value,(∀ (o:Nat) v,vs[o]? = some v→w.cell? ⟨E.blk i,o,none⟩=some v) →
     Agree (jaD vs (E.blk i) h) w∧(∀ j x,j≠i→lookH H j=some x→x.live=true→E.real j=true → ∀ o,jaD vs (E.blk i) h (E.blk j) o=none)∧Since cx.w0 cx.h0 w (jaD vs (E.blk i) h):=by
    intro vs hvs
    refine⟨⟨fun b o v hv=>?_,S.agree.glob.mono (jaV hun vs),S.agree.blk,fun g hg=>by
     obtain⟨v,hv⟩:=S.agree.errs g hg
     exact⟨v,jaV hun vs _ _ _ hv⟩⟩,fun j x hj hx hxl hrj o=>?_,⟨S.since.below,S.since.le.trans (jaV hun vs),fun b hb o=>?_⟩⟩
    ·unfold jaD at hv
     split at hv
     ·rename_i e;subst e;exact hvs o v hv
     ·exact S.agree b o v hv
    ·unfold jaD
     rw[if_neg (S.mem.inj j i x c hj hx hc hxl hl hrj hreal)]
     exact S.mem.unpub j x hx hxl hrj o
    ·unfold jaD
     rw[if_neg Jo]
     exact S.since.old b hb o
   cases c with
   | gone=>simp[Chunk.live] at hl
   | lp p=>simp[Chunk.cel] at hcl
   | mp p=>simp[Chunk.cel] at hcl
   | box ds=>
    obtain⟨_,vs,rest,T,hb,hd,ho,hsz⟩:=hok
    obtain⟨k1,k2,k3⟩:=key vs fun o v hv=>jcH hb hv
    refine⟨_,jaV hun vs,Js,fun _=>⟨vs,DenL.mono (jaV hun vs) hd,ho,fun o v hv=>by unfold jaD;rw[if_pos rfl];exact hv⟩,k1,k2,k3⟩
   | arr k xs=>
    obtain⟨rest,T,hb,hsz,hr,hkn⟩:=jbc hreal hok
    obtain⟨k1,k2,k3⟩:=key (xs.map (Value.int k)) fun o v hv=>jcd hb (by rw[jkg (jkh.1 hv).1];exact hv)
    refine⟨_,jaV hun _,Js,fun _=>⟨hkn,hr,fun o n hn=>by unfold jaD;rw[if_pos rfl,List.getElem?_map,hn];rfl⟩,k1,k2,k3⟩
 refine⟨h',hle,?_,fun d v hd=>Den.pub hle hv hr hd⟩
 have live:∀ j x,lookH ((i,.gone)::pubHp i c H) j=some x→x.live=true→j≠i ∧ ∃ y,lookH H j=some y∧x=pubC i c y∧y.live=true:=by
  intro j x hx hxl
  rw[jag] at hx
  split at hx
  ·cases hx;simp[Chunk.live] at hxl
  ·rename_i e
   obtain⟨y,h1,rfl⟩:=lookH_pub hx
   refine⟨Ne.symm e,y,h1,rfl,?_⟩
   cases y<;>first|rfl|simp[pubC,Chunk.live] at hxl
 refine { knows:=fun t=>by rw[look_pub];exact Den.pub hle hv hr (S.knows t),mem:=?_,agree:=hag,since:=hsince,low:=S.low,side:=S.side }
 refine { ok:=?_,base:=?_,unpub:=?_,inj:=?_ }
 ·intro j x hx
  cases hxl:x.live with
  | false=>cases x<;>first|trivial|simp[Chunk.live] at hxl
  | true=>
   obtain⟨hj,y,h1,rfl,hyl⟩:=live j x hx hxl
   have hy:=S.mem.ok j y h1
   cases y with
   | gone=>simp[Chunk.live] at hyl
   | lp p=>exact hy
   | mp p=>
    obtain⟨h0,l,ck,h2,h3⟩:=hy
    exact⟨h0,l,ck,h2,h3.mono hle⟩
   | box ds=>
    obtain⟨h0,vs,rest,T,h2,h3,h4⟩:=hy
    exact⟨h0,vs,rest,T,h2,DenL.pub hle hv hr h3,h4⟩
   | arr k xs=>exact hy
 ·intro j x hx hxl hrj
  obtain⟨hj,y,h1,rfl,hyl⟩:=live j x hx hxl
  exact S.mem.base j y h1 hyl hrj
 ·intro j x hx hxl hrj o
  obtain⟨hj,y,h1,rfl,hyl⟩:=live j x hx hxl
  exact hun j y hj h1 hyl hrj o
 ·intro j k x1 x2 hjk hx1 hx2 l1 l2 r1 r2
  obtain⟨hj,y1,g1,rfl,hy1⟩:=live j x1 hx1 l1
  obtain⟨hk,y2,g2,rfl,hy2⟩:=live k x2 hx2 l2
  exact S.mem.inj j k y1 y2 hjk g1 g2 hy1 hy2 r1 r2
end
mutual
def D.own:D→Option Nat
 | .osl i _ _=>some i
 | .box i _=>some i
 | .bsl i _ _ _=>some i
 | .agg ds | .tup ds | .ref ds=>D.ownL ds
 | .fn _ es ds=>match D.ownL es with|some i=>some i|none=>D.ownL ds
 | .gd _ d=>D.own d
 | _=>none
def D.ownL:List D→Option Nat
 | []=>none
 | d::ds=>match D.own d with|some i=>some i|none=>D.ownL ds
end
def handK:Nat→List D→Sl→Hp→(List D→Sl→Hp→Prop)→Prop
 | 0,_,_,_,_=>False
 | n+1,ds,L,H,K=>match D.ownL ds with
  | none=>K ds L H
  | some i=>jaU H i fun c=>match c with
   | .gone=>False
   | .lp _=>False
   | .mp _=>False
   | c=>jf5 i c L fun L=>jdl i c H fun H=>pubLK i c ds fun ds=>handK n ds L ((i,.gone)::H) K
theorem jgJ (i:Nat)(c:Chunk)(ds:List D):pubL i c ds=ds.map (pubD i c):=by
 induction ds with
 | nil=>rfl
 | cons d ds ih=>simp[pubL,ih]
theorem DenL.map {E:Env}{h h':Pub}{f:D→D}(hf:∀ d v,Den E h d v→Den E h' (f d) v){ds:List D}{vs:List Value}(H:DenL E h ds vs):DenL E h' (ds.map f) vs:=by
 induction ds generalizing vs with
 | nil=>simpa [DenL] using H
 | cons d ds ih=>
  simp only[DenL,List.map_cons] at H ⊢
  obtain⟨v,vs',rfl,h3,h4⟩:=H
  exact⟨v,vs',rfl,hf d v h3,ih h4⟩
theorem jis {n:Nat}{ds:List D}{L:Sl}{H:Hp}{K:List D→Sl→Hp→Prop}(hh:handK n ds L H K) :
  ∃ ds' L' H',K ds' L' H'∧ds'.length=ds.length ∧ ∀ cx E h a w,Sat cx E h a w L H → ∃ h',h.Le h'∧Sat cx E h' a w L' H' ∧
   ∀ vs,DenL E h ds vs→DenL E h' ds' vs:=by
 induction n generalizing ds L H with
 | zero=>exact hh.elim
 | succ n ih=>
  simp only[handK] at hh
  split at hh
  ·exact⟨ds,L,H,hh,rfl,fun cx E h a w S=>⟨h,Pub.Le.refl h,S,fun vs hv=>hv⟩⟩
  ·rename_i i hown
   obtain⟨c,hc,hh⟩:=jay hh
   split at hh
   ·exact hh.elim
   ·exact hh.elim
   ·exact hh.elim
   ·rename_i hne hne2 hne3
    have hl:c.cel=true:=by
     cases c with
     | gone=>exact absurd rfl hne
     | lp p=>exact absurd rfl (hne2 p)
     | mp p=>exact absurd rfl (hne3 p)
     | _=>rfl
    rw[je8,je9,jbK] at hh
    obtain⟨ds',L',H',hK,hlen,hS⟩:=ih hh
    refine⟨ds',L',H',hK,by rw[hlen,jgJ];simp,fun cx E h a w S=>?_⟩
    obtain⟨h1,hle1,S1,hd1⟩:=S.publish hc hl
    obtain⟨h2,hle2,S2,hd2⟩:=hS cx E h1 a w S1
    refine⟨h2,hle1.trans hle2,S2,fun vs hv=>hd2 vs ?_⟩
    rw[jgJ]
    exact hv.map hd1
end Go.V
end
section
namespace Go.V
open Go Go.RowKit
def Enters (P:Program)(f:Nat):Prop := ∀ (args:Array Value) (w:World),(callFunc f args).run P w = .ok (.enter f args) w
structure Called (P:Program)(f:Nat)(ds:List D)(r:D):Prop where
 ent:Enters P f
 call:∀ (h:Pub) (w:World) (vs:List Value),Agree h w→DenL Env.dummy h ds vs →
  Calls P f vs.toArray w fun e w' => ∃ v h',e = .returned v∧Den Env.dummy h' r v∧Agree h' w'∧h.Le h'∧Below w.heap.size w w' ∧ ∀ b,b<w.heap.size → ∀ o,h' b o=h b o
theorem Sat.called {cx : Cx} {E : Env} {h h' : Pub} {a : Act} {w w' : World} {L : Sl} {H : Hp} (S : Sat cx E h a w L H) (hle : h.Le h') (hb : Below w.heap.size w w') (ha : Agree h' w')
    (ho : ∀ b, b < w.heap.size → ∀ o, h' b o = h b o) : Sat cx E h' a w' L H :=
  { knows := fun t => Den.mono hle (S.knows t)
    mem :=
      { ok := fun i c hc => ChunkOk.mono hle ((S.mem.ok i c hc).keep fun hl hr => hb.block _ ((S.mem.ok i c hc).lt hl hr))
        base := S.mem.base
        unpub := fun i c hc hl hr o => by rw [ho _ ((S.mem.ok i c hc).lt hl hr)]; exact S.mem.unpub i c hc hl hr o
        inj := S.mem.inj }
    agree := ha
    since := ⟨S.since.below.trans (hb.mono S.since.below.size), S.since.le.trans hle, fun b hb' o => by rw [ho b (jjN hb' S.since.below.size)]; exact S.since.old b hb' o⟩
    low := S.low
    side := S.side.below hb }
def appD:List D→List D→List D
 | [],ys=>ys
 | x::xs,ys=>x::appD xs ys
theorem jc7 (xs ys:List D):appD xs ys=xs++ys:=by induction xs with|nil=>rfl|cons x xs ih=>simp[appD,ih]
def CallGoal (P:Program)(g:Prop)(f:Nat)(ds:List D)(K:D→Prop):Prop := ∃ r,(g→Called P f ds r)∧K r
def callK (P:Program)(N:Nat)(g:Prop)(wrap:D→D)(dst:Option Nat)(x:Operand)(args:List Operand)(L:Sl)(H:Hp)(K:K2):Prop:=
 rdg g L x fun df=>match df with
  | .fn f first caps=>rdsK g L args fun ds=>handK 40 (appD first (appD ds caps)) L H fun ds' L' H'=>match D.pureL ds' with
   | true=>CallGoal P g f ds' fun r=>match D.pure r with
    | true=>dstK N dst (wrap r) L' fun L''=>K L'' H'
    | false=>False
   | false=>False
  | _=>False
section
variable {P : Program} {tb : Tb} {N : Nat} {cx : Cx} {Q : Exit → Act → World → Prop} {o : Oper} {L : Sl} {H : Hp} {K : K2}
theorem jiI {g:Prop}{wrap:D→D}{x:Operand}{args:Array Operand}{ts:Array TypeId}(ho:o.op = .call { callee := .value x,args:=args,argTypes:=ts })
  (hw:∀ E h r v,g→Den E h r v→Den E h (wrap r) v) (hs:∀ E h r,¬ g→Den E h (wrap r) Go.undef) (hh:callK P N g wrap o.dst x args.toList L H K) :
  ∃ L'' H',K L'' H' ∧ ∀ E h a w,N≤a.tmps.size→Sat cx E h a w L H →
    (g → ∀ next:Act→World→Prop,(∀ h' a' w',a'.tmps.size=a.tmps.size→Sat cx E h' a' w' L'' H'→next a' w')→o.wp P a w next Q) ∧
    (¬ g → ∃ h',Sat cx E h' (a.put o.dst Go.undef) w L'' H'):=by
 have hz:=jat hh;clear hh;obtain⟨df,hh,hdf⟩:=hz
 split at hh
 case h_2=>exact hh.elim
 rename_i f first caps
 have hz:=jdk hh;clear hh;obtain⟨ds,hh,hlen,hds⟩:=hz
 have hz:=jis hh;clear hh;obtain⟨ds',L',H',hh,hlen',hS⟩:=hz
 cases hp:D.pureL ds' with
 | false=>rw[hp] at hh;exact hh.elim
 | true=>
  rw[hp] at hh
  obtain⟨r,hcall,hh⟩:=hh
  cases hpr:D.pure r with
  | false=>rw[hpr] at hh;exact hh.elim
  | true=>
   rw[hpr] at hh
   obtain⟨L'',hK,hput⟩:=jev (cx:=cx) hh
   refine⟨L'',H',hK,fun E h a w hN S=>?_⟩
   obtain⟨h',hle,S',hden⟩:=hS cx E h a w S
   refine⟨fun hg next hnext=>?_,fun hg=>⟨h',hput E h' a w H' _ hN S' (hs E h' r hg)⟩⟩
   have hf:=hdf E h a hg (S.facts.rd x)
   simp only[Den] at hf
   obtain⟨us,vs,hfv,hu,hv⟩:=hf
   have hargs:=hds E h a S.facts.rd hg
   have hall:DenL E h (appD first (appD ds caps)) (us++(args.toList.map a.eval++vs)):=by
    rw[jc7,jc7];exact hu.append (hargs.append hv)
   have hall':=DenL.pure (E':=Env.dummy) hp (hden _ hall)
   obtain⟨hent,hc⟩:=hcall hg
   have hrun:(execOp a.eval o).run P w = .ok (.enter f (us++(args.toList.map a.eval++vs)).toArray) w:=by
    simp only[execOp,ho,resolve,hfv,Deferred.ofValue,Sem.run_bind,Sem.run_pure,Result.andThen_ok,invoke]
    rw[show us.toArray++Array.map a.eval args++vs.toArray=(us++(args.toList.map a.eval++vs)).toArray by apply Array.toList_inj.1;simp]
    exact hent _ w
   unfold Oper.wp
   rw[hrun]
   simp only[Oper.upon]
   refine(hc h' w _ S'.agree hall').mono ?_
   rintro e w' ⟨v,h2,rfl,hr,ha,hle2,hb,hold⟩
   simp only
   exact hnext h2 _ _ (jaB _ _ _) (hput E h2 a w' H' v hN (S'.called hle2 hb ha hold) (hw E h2 r v hg (Den.pure hpr hr)))
def strsL:List D→Bool
 | []=>true
 | d::ds=>match d with | .str _=>strsL ds|_=>false
def strsN (f:Nat→List D):Nat→Bool
 | 0=>true
 | n+1=>match strsL (f n) with|true=>strsN f n|false=>false
mutual
def D.apt:D→Bool
 | .undef | .bool _ | .int _ _ | .str _ | .nil | .iarr _ _ | .any=>true
 | .slf _ n f=>strsN f n
 | .agg ds | .tup ds=>D.aptL ds
 | _=>false
def D.aptL:List D→Bool
 | []=>true
 | d::ds=>match D.apt d with|true=>D.aptL ds|false=>false
end
theorem jhh {E:Env}{h h':Pub} : ∀ {ds:List D} {vs:List Value},strsL ds=true→DenL E h ds vs→DenL E h' ds vs ∧ ∀ v∈vs, ∃ s,v = .string s
 | [],vs,_,H=>by
  simp only[DenL] at H ⊢
  subst H
  exact⟨rfl,fun v hv=>by simp at hv⟩
 | d::ds,vs,F,H=>by
  simp only[DenL] at H ⊢
  obtain⟨v,r,rfl,h1,h2⟩:=H
  unfold strsL at F
  split at F
  ·simp only[Den] at h1
   obtain⟨k1,k2⟩:=jhh (h':=h') F h2
   exact⟨⟨v,r,rfl,by simp only[Den];exact h1,k1⟩,fun u hu=>by
    rcases jka.1 hu with rfl|hu
    ·exact⟨_,h1.1⟩
    ·exact k2 u hu⟩
  ·cases F
theorem strsN_at {f:Nat→List D} : ∀ {n j:Nat},strsN f n=true→j<n→strsL (f j)=true
 | n+1,j,F,hj=>by
  unfold strsN at F
  split at F
  ·rename_i hs
   rcases jjO j n with h|h
   ·exact strsN_at F h
   ·obtain rfl:j=n:=Jo
    exact hs
  ·cases F
mutual
theorem Den.apt {E:Env}{h h':Pub}(hb:∀ b o v,h b o=some v→(∃ k n,v = .int k n)∨h' b o=some v):∀ {d:D} {v:Value},d.apt=true→Den E h d v→Den E h' d v
 | .any,_,_,_=>by simp[Den]
 | .undef,_,_,H=>by simpa [Den] using H
 | .bool _,_,_,H=>by simpa [Den] using H
 | .int _ _,_,_,H=>by simpa [Den] using H
 | .str _,_,_,H=>by simpa [Den] using H
 | .nil,_,_,H=>by simpa [Den] using H
 | .iarr _ _,_,_,H=>by simpa [Den] using H
 | .slf e n f,v,F,H=>by
  simp only[Den] at H ⊢
  simp only[D.apt] at F
  obtain⟨a,cap,h1,h2,h3,h4⟩:=H
  refine⟨a,cap,h1,h2,h3,?_⟩
  cases a with
  | none=>exact h4
  | some ad=>
   refine⟨h4.1,fun j hj=>?_⟩
   obtain⟨vs,h5,h6,h7,h8⟩:=h4.2 j hj
   obtain⟨k1,k2⟩:=jhh (h':=h') (strsN_at F hj) h5
   refine⟨vs,k1,h6,h7,fun i u hu=>?_⟩
   rcases hb _ _ _ (h8 i u hu) with⟨k,m,e1⟩|e1
   ·obtain⟨s,e2⟩:=k2 u (jkc hu)
    rw[e1] at e2
    cases e2
   ·exact e1
 | .agg ds,v,F,H=>by
  simp only[Den] at H ⊢
  simp only[D.apt] at F
  obtain⟨vs,h1,h2,h3⟩:=H
  exact⟨vs,h1,DenL.apt hb F h2,h3⟩
 | .tup ds,v,F,H=>by
  simp only[Den] at H ⊢
  simp only[D.apt] at F
  obtain⟨vs,h1,h2⟩:=H
  exact⟨vs,h1,DenL.apt hb F h2⟩
 | .ints _ _,_,F,_=>by simp[D.apt] at F
 | .fn _ _ _,_,F,_=>by simp[D.apt] at F
 | .ref _,_,F,_=>by simp[D.apt] at F
 | .box _ _,_,F,_=>by simp[D.apt] at F
 | .osl _ _ _,_,F,_=>by simp[D.apt] at F
 | .bsl _ _ _ _,_,F,_=>by simp[D.apt] at F
 | .gd _ _,_,F,_=>by simp[D.apt] at F
 | .gp _,_,F,_=>by simp[D.apt] at F
 | .yld _,_,F,_=>by simp[D.apt] at F
 | .mapr _,_,F,_=>by simp[D.apt] at F
 | .val _,_,F,_=>by simp[D.apt] at F
 | .anyb _,_,F,_=>by simp[D.apt] at F
theorem DenL.apt {E:Env}{h h':Pub}(hb:∀ b o v,h b o=some v→(∃ k n,v = .int k n)∨h' b o=some v):∀ {ds:List D} {vs:List Value},D.aptL ds=true→DenL E h ds vs→DenL E h' ds vs
 | [],vs,_,H=>by simpa [DenL] using H
 | d::ds,vs,F,H=>by
  simp only[DenL] at H ⊢
  obtain⟨v,r,e,h1,h2⟩:=H
  unfold D.aptL at F
  split at F
  ·rename_i hd
   exact⟨v,r,e,Den.apt hb hd h1,DenL.apt hb F h2⟩
  ·cases F
end
def numsL:List D→Bool
 | []=>true
 | d::ds=>match d with | .int _ _=>numsL ds|_=>false
theorem jhy {E:Env}{h:Pub} : ∀ {ds:List D} {vs:List Value},numsL ds=true→DenL E h ds vs → ∀ v∈vs, ∃ k n,v = .int k n
 | [],vs,_,H=>by
  simp only[DenL] at H
  subst H
  exact fun v hv=>by simp at hv
 | d::ds,vs,F,H=>by
  simp only[DenL] at H
  obtain⟨v,r,rfl,h1,h2⟩:=H
  unfold numsL at F
  split at F
  ·simp only[Den] at h1
   exact fun u hu=>by
    rcases jka.1 hu with rfl|hu
    ·exact⟨_,_,h1.1⟩
    ·exact jhy F h2 u hu
  ·cases F
def lendC (P:Program)(N:Nat)(dst:Option Nat)(f:Nat)(ds:List D)(L:Sl)(H:Hp)(K:K2)(i:Nat)(c:Chunk):Prop:=pubLK i c ds fun ds'=>match D.pureL ds' with
 | true=>CallGoal P True f ds' fun r=>match D.pure r with
  | true=>match D.apt r with
   | true=>dstK N dst r L fun L''=>K L'' H
   | false=>False
  | false=>False
 | false=>False
def lendK (P:Program)(N:Nat)(dst:Option Nat)(x:Operand)(args:List Operand)(L:Sl)(H:Hp)(K:K2):Prop:=
 rdg True L x fun df=>match df with
  | .fn f first caps=>rdsK True L args fun ds => ∃ i:Nat,jaU H i fun c=>match c with
   | .arr k xs=>lendC P N dst f (appD first (appD ds caps)) L H K i (.arr k xs)
   | .box es=>match numsL es with
    | true=>lendC P N dst f (appD first (appD ds caps)) L H K i (.box es)
    | false=>False
   | _=>False
  | _=>False
theorem Sat.lend {cx:Cx}{E:Env}{h:Pub}{a:Act}{w:World}{L:Sl}{H:Hp}{i:Nat}{k:IntKind}{xs:List Int}(S:Sat cx E h a w L H)(hc:lookH H i=some (.arr k xs)) :
  ∃ h1,h.Le h1∧Agree h1 w∧(∀ d v,Den E h d v→Den E h1 (pubD i (.arr k xs) d) v) ∧
   ∀ h2 w',h1.Le h2→Agree h2 w'→Below w.heap.size w w'→(∀ b,b<w.heap.size → ∀ o,h2 b o=h1 b o) →
    ∃ h3,Sat cx E h3 a w' L H ∧ ∀ d v,d.apt=true→Den E h2 d v→Den E h3 d v:=by
 have hok:=S.mem.ok i _ hc
 cases hreal:E.real i with
 | false=>
  refine⟨h,Pub.Le.refl h,S.agree,fun d v hd=>Den.pub (Pub.Le.refl h) (fun _=>?_) (fun e=>by rw[hreal] at e;cases e) hd,fun h2 w' hle ha hb ho=>⟨h2,S.called hle hb ha ho,fun d v _ hd=>hd⟩⟩
  rcases hok with⟨_,rfl⟩|⟨hx,_⟩
  ·exact⟨k,rfl⟩
  ·rw[hreal] at hx;cases hx
 | true=>
  have hun:=S.mem.unpub i _ hc rfl hreal
  obtain⟨rest,T,hb,hsz,hr,hkn⟩:=jbc hreal hok
  have hle1:=jaV hun (xs.map (Value.int k))
  have hcell:∀ (o:Nat) v,(xs.map (Value.int k))[o]? = some v→w.cell? ⟨E.blk i,o,none⟩=some v:=fun o v hv=>jcd hb (by rw[jkg (jkh.1 hv).1];exact hv)
  refine⟨jaD (xs.map (Value.int k)) (E.blk i) h,hle1,⟨fun b o v hv=>?_,S.agree.glob.mono hle1,S.agree.blk,fun g hg=>by
   obtain⟨v,hv⟩:=S.agree.errs g hg
   exact⟨v,hle1 _ _ _ hv⟩⟩,fun d v hd=>Den.pub (i:=i) (c := .arr k xs) hle1 (fun e=>by rw[hreal] at e;cases e) (fun _=>⟨hkn,hr,fun o n hn=>by unfold jaD;rw[if_pos rfl,List.getElem?_map,hn];rfl⟩) hd,fun h2 w' hle ha hbel ho=>?_⟩
  ·unfold jaD at hv
   split at hv
   ·rename_i e;subst e;exact hcell o v hv
   ·exact S.agree b o v hv
  ·have hlt:E.blk i<w.heap.size:=by
    rcases jjO (E.blk i) w.heap.size with e|e
    ·exact e
    ·rw[Array.getElem?_eq_none e] at hb
     cases hb
   have hle3:h.Le fun b o=>if b=E.blk i then none else h2 b o:=fun b o v hv=>by
    dsimp only
    split
    ·rename_i e;subst e;rw[hun o] at hv;cases hv
    ·exact hle _ _ _ (hle1 _ _ _ hv)
   refine⟨fun b o=>if b=E.blk i then none else h2 b o,S.called hle3 hbel ⟨fun b o v hv=>?_,S.agree.glob.mono hle3,ha.blk,fun g hg=>by
    obtain⟨v,hv⟩:=S.agree.errs g hg
    exact⟨v,hle3 _ _ _ hv⟩⟩ (fun b hb2 o=>?_),fun d v hd hden=>Den.apt (fun b o v hv=>?_) hd hden⟩
   ·try dsimp only at hv
    split at hv
    ·cases hv
    ·exact ha b o v hv
   ·try dsimp only
    split
    ·rename_i e;subst e;rw[hun o]
    ·rename_i e
     rw[ho b hb2 o]
     unfold jaD
     rw[if_neg e]
   ·try dsimp only
    split
    ·rename_i e
     subst e
     rw[ho _ hlt o] at hv
     unfold jaD at hv
     rw[if_pos rfl,List.getElem?_map] at hv
     obtain⟨n,_,hn⟩:=Option.map_eq_some_iff.1 hv
     exact .inl ⟨k,n,hn.symm⟩
    ·exact .inr hv
theorem Sat.lendB {cx:Cx}{E:Env}{h:Pub}{a:Act}{w:World}{L:Sl}{H:Hp}{i:Nat}{es:List D}(S:Sat cx E h a w L H)(hc:lookH H i=some (.box es))(hnum:numsL es=true) :
  ∃ h1,h.Le h1∧Agree h1 w∧(∀ d v,Den E h d v→Den E h1 (pubD i (.box es) d) v) ∧
   ∀ h2 w',h1.Le h2→Agree h2 w'→Below w.heap.size w w'→(∀ b,b<w.heap.size → ∀ o,h2 b o=h1 b o) →
    ∃ h3,Sat cx E h3 a w' L H ∧ ∀ d v,d.apt=true→Den E h2 d v→Den E h3 d v:=by
 obtain⟨hreal,vs,rest,T,hb,hd,hone,hsz⟩:=S.mem.ok i _ hc
 have hun:=S.mem.unpub i _ hc rfl hreal
 have hnums:=jhy hnum hd
 have hle1:=jaV hun vs
 have hcell:∀ (o:Nat) v,vs[o]? = some v→w.cell? ⟨E.blk i,o,none⟩=some v:=fun o v hv=>jcH hb hv
 refine⟨jaD vs (E.blk i) h,hle1,⟨fun b o v hv=>?_,S.agree.glob.mono hle1,S.agree.blk,fun g hg=>by
  obtain⟨v,hv⟩:=S.agree.errs g hg
  exact⟨v,hle1 _ _ _ hv⟩⟩,fun d v hd'=>Den.pub (i:=i) (c := .box es) hle1 (fun e=>by rw[hreal] at e;cases e) (fun _=>⟨vs,DenL.mono hle1 hd,hone,fun o v hv=>by unfold jaD;rw[if_pos rfl];exact hv⟩) hd',fun h2 w' hle ha hbel ho=>?_⟩
 ·unfold jaD at hv
  split at hv
  ·rename_i e;subst e;exact hcell o v hv
  ·exact S.agree b o v hv
 ·have hlt:E.blk i<w.heap.size:=by
   rcases jjO (E.blk i) w.heap.size with e|e
   ·exact e
   ·rw[Array.getElem?_eq_none e] at hb
    cases hb
  have hle3:h.Le fun b o=>if b=E.blk i then none else h2 b o:=fun b o v hv=>by
   dsimp only
   split
   ·rename_i e;subst e;rw[hun o] at hv;cases hv
   ·exact hle _ _ _ (hle1 _ _ _ hv)
  refine⟨fun b o=>if b=E.blk i then none else h2 b o,S.called hle3 hbel ⟨fun b o v hv=>?_,S.agree.glob.mono hle3,ha.blk,fun g hg=>by
   obtain⟨v,hv⟩:=S.agree.errs g hg
   exact⟨v,hle3 _ _ _ hv⟩⟩ (fun b hb2 o=>?_),fun d v hd hden=>Den.apt (fun b o v hv=>?_) hd hden⟩
  ·try dsimp only at hv
   split at hv
   ·cases hv
   ·exact ha b o v hv
  ·try dsimp only
   split
   ·rename_i e;subst e;rw[hun o]
   ·rename_i e
    rw[ho b hb2 o]
    unfold jaD
    rw[if_neg e]
  ·try dsimp only
   split
   ·rename_i e
    subst e
    rw[ho _ hlt o] at hv
    unfold jaD at hv
    rw[if_pos rfl] at hv
    obtain⟨k,n,rfl⟩:=hnums v (jkc hv)
    exact .inl ⟨k,n,rfl⟩
   ·exact .inr hv
theorem lend_el {x:Operand}{args:Array Operand}{ts:Array TypeId}(ho:o.op = .call { callee := .value x,args:=args,argTypes:=ts })(hh:lendK P N o.dst x args.toList L H K) :
  ∃ L'' H',K L'' H' ∧ ∀ E h a w,N≤a.tmps.size→Sat cx E h a w L H → ∀ next:Act→World→Prop,
   (∀ h' a' w',a'.tmps.size=a.tmps.size→Sat cx E h' a' w' L'' H'→next a' w')→o.wp P a w next Q:=by
 have hz:=jat hh;clear hh;obtain⟨df,hh,hdf⟩:=hz
 split at hh
 case h_2=>exact hh.elim
 rename_i f first caps
 have hz:=jdk hh;clear hh;obtain⟨ds,hh,hlen,hds⟩:=hz
 obtain⟨i,hh⟩:=hh
 have hz:=jay hh;clear hh;obtain⟨c,hc,hh⟩:=hz
 have key:lendC P N o.dst f (appD first (appD ds caps)) L H K i c ∧ ∀ E h a w,Sat cx E h a w L H → ∃ h1,h.Le h1∧Agree h1 w∧(∀ d v,Den E h d v→Den E h1 (pubD i c d) v) ∧
   ∀ h2 w',h1.Le h2→Agree h2 w'→Below w.heap.size w w'→(∀ b,b<w.heap.size → ∀ o,h2 b o=h1 b o) →
    ∃ h3,Sat cx E h3 a w' L H ∧ ∀ d v,d.apt=true→Den E h2 d v→Den E h3 d v:=by
  split at hh
  ·exact⟨hh,fun E h a w S=>S.lend hc⟩
  ·rename_i es
   cases hn:numsL es with
   | false=>rw[hn] at hh;exact hh.elim
   | true=>rw[hn] at hh;exact⟨hh,fun E h a w S=>S.lendB hc hn⟩
  ·exact hh.elim
 clear hh
 obtain⟨hh,hlend⟩:=key
 unfold lendC at hh
 rw[jbK] at hh
 cases hp:D.pureL (pubL i c (appD first (appD ds caps))) with
 | false=>rw[hp] at hh;exact hh.elim
 | true=>
  rw[hp] at hh
  obtain⟨r,hcall,hh⟩:=hh
  cases hpr:D.pure r with
  | false=>rw[hpr] at hh;exact hh.elim
  | true=>
   rw[hpr] at hh
   cases hpa:D.apt r with
   | false=>rw[hpa] at hh;exact hh.elim
   | true=>
    rw[hpa] at hh
    obtain⟨L'',hK,hput⟩:=jev (cx:=cx) hh
    refine⟨L'',H,hK,fun E h a w hN S next hnext=>?_⟩
    obtain⟨h1,hle,hag,hden,hback⟩:=hlend E h a w S
    have hf:=hdf E h a trivial (S.facts.rd x)
    simp only[Den] at hf
    obtain⟨us,vs,hfv,hu,hv⟩:=hf
    have hargs:=hds E h a S.facts.rd trivial
    have hall:DenL E h (appD first (appD ds caps)) (us++(args.toList.map a.eval++vs)):=by
     rw[jc7,jc7];exact hu.append (hargs.append hv)
    have hall1:DenL E h1 (pubL i c (appD first (appD ds caps))) (us++(args.toList.map a.eval++vs)):=by
     rw[jgJ];exact DenL.map hden hall
    have hall':=DenL.pure (E':=Env.dummy) hp hall1
    obtain⟨hent,hcl⟩:=hcall trivial
    have hrun:(execOp a.eval o).run P w = .ok (.enter f (us++(args.toList.map a.eval++vs)).toArray) w:=by
     simp only[execOp,ho,resolve,hfv,Deferred.ofValue,Sem.run_bind,Sem.run_pure,Result.andThen_ok,invoke]
     rw[show us.toArray++Array.map a.eval args++vs.toArray=(us++(args.toList.map a.eval++vs)).toArray by apply Array.toList_inj.1;simp]
     exact hent _ w
    unfold Oper.wp
    rw[hrun]
    simp only[Oper.upon]
    refine(hcl h1 w _ hag hall').mono ?_
    rintro e w' ⟨v,h2,rfl,hr,ha,hle2,hb,hold⟩
    simp only
    obtain⟨h3,S3,hap⟩:=hback h2 w' hle2 ha hb hold
    exact hnext h3 _ _ (jaB _ _ _) (hput E h3 a w' H v hN S3 (hap r v hpa (Den.pure hpr hr)))
structure Panics (P:Program)(f:Nat)(ds:List D)(v:Value):Prop where
 ent:Enters P f
 call:∀ (h:Pub) (w:World) (vs:List Value),Agree h w→DenL Env.dummy h ds vs →
  Calls P f vs.toArray w fun e w' => ∃ h',e = .panicked [{ v:=v,recovered:=false }]∧Agree h' w'∧h.Le h'∧Below w.heap.size w w' ∧ ∀ b,b<w.heap.size → ∀ o,h' b o=h b o
abbrev KPan:=List PanicEntry→Sl→Hp→Prop
def panK (P:Program)(x:Operand)(args:List Operand)(L:Sl)(H:Hp)(KP:KPan):Prop:=
 rdg True L x fun df=>match df with
  | .fn f first caps=>rdsK True L args fun ds=>handK 40 (appD first (appD ds caps)) L H fun ds' L' H'=>match D.pureL ds' with
   | true => ∃ v,Panics P f ds' v∧KP [{ v:=v,recovered:=false }] L' H'
   | false=>False
  | _=>False
def raiseK (x:Operand)(L:Sl)(H:Hp)(KP:KPan):Prop:=rdg True L x fun d=>match d with
 | .val v=>match v with
  | .iface t u=>KP [{ v := .iface t u,recovered:=false }] L H
  | _=>False
 | _=>False
theorem pan_el {KP:KPan}{x:Operand}{args:Array Operand}{ts:Array TypeId}(ho:o.op = .call { callee := .value x,args:=args,argTypes:=ts })(hh:panK P x args.toList L H KP) :
  ∀ E h a w,Sat cx E h a w L H→(∀ c L' H' h' w',KP c L' H'→Sat cx E h' a w' L' H'→Q (.panic c) a w') → ∀ next:Act→World→Prop,o.wp P a w next Q:=by
 have hz:=jat hh;clear hh;obtain⟨df,hh,hdf⟩:=hz
 split at hh
 case h_2=>exact hh.elim
 rename_i f first caps
 have hz:=jdk hh;clear hh;obtain⟨ds,hh,hlen,hds⟩:=hz
 have hz:=jis hh;clear hh;obtain⟨ds',L',H',hh,hlen',hS⟩:=hz
 cases hp:D.pureL ds' with
 | false=>rw[hp] at hh;exact hh.elim
 | true=>
  rw[hp] at hh
  obtain⟨v,hcall,hh⟩:=hh
  intro E h a w S hQ next
  obtain⟨h',hle,S',hden⟩:=hS cx E h a w S
  have hf:=hdf E h a trivial (S.facts.rd x)
  simp only[Den] at hf
  obtain⟨us,vs,hfv,hu,hv⟩:=hf
  have hargs:=hds E h a S.facts.rd trivial
  have hall:DenL E h (appD first (appD ds caps)) (us++(args.toList.map a.eval++vs)):=by
   rw[jc7,jc7];exact hu.append (hargs.append hv)
  have hall':=DenL.pure (E':=Env.dummy) hp (hden _ hall)
  obtain⟨hent,hc⟩:=hcall
  have hrun:(execOp a.eval o).run P w = .ok (.enter f (us++(args.toList.map a.eval++vs)).toArray) w:=by
   simp only[execOp,ho,resolve,hfv,Deferred.ofValue,Sem.run_bind,Sem.run_pure,Result.andThen_ok,invoke]
   rw[show us.toArray++Array.map a.eval args++vs.toArray=(us++(args.toList.map a.eval++vs)).toArray by apply Array.toList_inj.1;simp]
   exact hent _ w
  unfold Oper.wp
  rw[hrun]
  simp only[Oper.upon]
  refine(hc h' w _ S'.agree hall').mono ?_
  rintro e w' ⟨h2,rfl,ha,hle2,hb,hold⟩
  simp only
  exact hQ _ _ _ _ _ hh (S'.called hle2 hb ha hold)
theorem raise_el {KP:KPan}{x:Operand}(ho:o.op = .panic x)(hh:raiseK x L H KP) :
  ∀ E h a w,Sat cx E h a w L H→(∀ c L' H' h' w',KP c L' H'→Sat cx E h' a w' L' H'→Q (.panic c) a w') → ∀ next:Act→World→Prop,o.wp P a w next Q:=by
 have hz:=jat hh;clear hh;obtain⟨d,hh,hd⟩:=hz
 intro E h a w S hQ next
 have hv:=hd E h a trivial (S.facts.rd x)
 split at hh
 case h_2=>exact hh.elim
 rename_i v
 split at hh
 case h_2=>exact hh.elim
 rename_i t u
 simp only[Den] at hv
 unfold Oper.wp
 have hrun:(execOp a.eval o).run P w = .halt (.panic (.iface t u)) w:=by
  simp only[execOp,ho,Sem.run_bind,hv,run_panic_iface]
  rfl
 rw[hrun]
 simp only[Oper.upon]
 exact hQ _ _ _ _ _ hh S
def nthO:List Oper→Nat→(Oper→Prop)→Prop
 | [],_,_=>False
 | o::_,0,K=>K o
 | _::os,n+1,K=>nthO os n K
theorem jee {os:List Oper}{n:Nat}{K:Oper→Prop}(h:nthO os n K):∃ o,os[n]? = some o∧K o:=by
 induction os generalizing n with
 | nil=>exact h.elim
 | cons d ds ih=>
  cases n with
  | zero=>exact⟨d,rfl,h⟩
  | succ n=>exact ih h
def someK (d:Option Nat)(K:Nat→Prop):Prop:=match d with|some d=>K d|none=>False
theorem jaP {d:Option Nat}{K:Nat→Prop}(h:someK d K):∃ n,d=some n∧K n:=by
 cases d with
 | none=>exact h.elim
 | some n=>exact⟨n,rfl,h⟩
def noneK (d:Option Nat)(K:Prop):Prop:=match d with|some _=>False|none=>K
theorem noneK_el {d:Option Nat}{K:Prop}(h:noneK d K):d=none∧K:=by
 cases d with
 | none=>exact⟨rfl,h⟩
 | some n=>exact h.elim
def opK (P:Program)(tb:Tb)(N off:Nat)(o:Oper)(L:Sl)(H:Hp)(K:K2):Prop:=match o.op with
 | .alloc t=>someK o.dst fun d=>allocK tb N off d t L H K
 | .box t x=>someK o.dst fun d=>boxK tb N off d t x L H K
 | .store t a x=>noneK o.dst (storeK tb t a x L H K)
 | .buildSlice t n parts=>someK o.dst fun d=>jfL tb N off d t n parts L H K
 | .makeSlice t l c=>someK o.dst fun d=>jgb tb N off d t l c L H K
 | .call c=>match c.callee with
  | .value x=>callK P N True (fun r=>r) o.dst x c.args.toList L H K
  | .builtin .append=>match c.args.toList,c.argTypes.toList with
   | [s,x],[t,t']=>match Nat.beq t t' with
    | true=>someK o.dst fun d=>appendK tb N off d t s x L H K
    | false=>False
   | _,_=>False
  | .builtin .copy=>match c.args.toList,c.argTypes.toList with
   | [s,x],[t,t']=>match Nat.beq t t' with
    | true=>copyK tb N o.dst t s x L H K
    | false=>False
   | _,_=>False
  | _=>someK o.dst fun d=>quiet tb True L H (fun r=>ltK d N (K ((d,r)::L) H)) o.op
 | _=>someK o.dst fun d=>quiet tb True L H (fun r=>ltK d N (K ((d,r)::L) H)) o.op
theorem op_el (htb:TbOk P tb)(hh:opK P tb N cx.off o L H K):Heavy P N cx Q o K L H:=by
 have qu:(someK o.dst fun d=>quiet tb True L H (fun r=>ltK d N (K ((d,r)::L) H)) o.op)→Heavy P N cx Q o K L H:=fun hh=>by
  obtain⟨d,hd,hh⟩:=jaP hh
  obtain⟨r,hr,hv⟩:=jeD htb hh
  obtain⟨hlt,hK⟩:=jcJ hr
  intro E h a w hN S next hnext
  obtain⟨v,h1,h2⟩:=hv E h a w S.facts trivial
  unfold Oper.wp
  rw[h1]
  simp only[Oper.upon,hd]
  exact hnext _ _ _ _ _ _ hK (jaB _ _ _) (S.put Jo h2)
 unfold opK at hh
 split at hh
 ·rename_i t ho
  obtain⟨d,hd,hh⟩:=jaP hh
  exact alloc_el htb hd ho hh
 ·rename_i t x ho
  obtain⟨d,hd,hh⟩:=jaP hh
  exact box_el hd ho hh
 ·rename_i t a x ho
  obtain⟨hd,hh⟩:=noneK_el hh
  exact store_el htb hd ho hh
 ·rename_i t n parts ho
  obtain⟨d,hd,hh⟩:=jaP hh
  exact jhd htb hd ho hh
 ·rename_i t l c ho
  obtain⟨d,hd,hh⟩:=jaP hh
  exact jhA htb hd ho hh
 ·rename_i c ho
  obtain⟨callee,args,ts⟩:=c
  dsimp only at hh
  split at hh
  ·obtain⟨L'',H',hK,hc⟩:=jiI (P:=P) (Q:=Q) (cx:=cx) ho (fun _ _ _ _ _ h=>h) (fun _ _ _ h=>absurd trivial h) hh
   intro E h a w hN S next hnext
   exact(hc E h a w hN S).1 trivial next fun h' a' w' hs hS=>hnext _ _ _ _ _ _ hK hs hS
  ·split at hh
   ·rename_i s x t t' ha ht
    cases hb:Nat.beq t t' with
    | false=>rw[hb] at hh;exact hh.elim
    | true=>
     rw[hb] at hh
     have:=jae hb;subst this
     obtain⟨d,hd,hh⟩:=jaP hh
     have e1:args = #[s,x]:=Array.toList_inj.1 (by simpa using ha)
     have e2:ts = #[t,t]:=Array.toList_inj.1 (by simpa using ht)
     subst e1;subst e2
     exact append_el htb hd ho hh
   ·exact hh.elim
  ·split at hh
   ·rename_i s x t t' ha ht
    cases hb:Nat.beq t t' with
    | false=>rw[hb] at hh;exact hh.elim
    | true=>
     rw[hb] at hh
     have:=jae hb;subst this
     have e1:args = #[s,x]:=Array.toList_inj.1 (by simpa using ha)
     have e2:ts = #[t,t]:=Array.toList_inj.1 (by simpa using ht)
     subst e1;subst e2
     exact copy_el htb ho hh
   ·exact hh.elim
  ·exact qu hh
 ·exact qu hh
def condK (want:Bool)(d:D)(K:Bool→Prop):Prop:=match d with
 | .bool b=>match want with|true=>K b|false=>K (!b)
 | .gd c (.bool b)=>match want with|true=>K (c && b)|false=>K (c && !b)
 | _=>False
theorem jiF {want:Bool}{d:D}{K:Bool→Prop}(hh:condK want d K) :
  ∃ c,K c ∧ ∀ E h v,Den E h d v→(c=true↔v = .bool want):=by
 unfold condK at hh
 split at hh
 ·rename_i b
  cases want with
  | true=>exact⟨_,hh,fun E h v hv=>by simp only[Den] at hv;subst hv;simp⟩
  | false=>exact⟨_,hh,fun E h v hv=>by simp only[Den] at hv;subst hv;simp⟩
 ·rename_i c b
  have key:∀ E h v,Den E h (.gd c (.bool b)) v→(c=true→v = .bool b)∧(c=false→v=Go.undef):=fun E h v hv=>by
   simp only[Den] at hv;exact hv
  cases want with
  | true=>
   refine⟨_,hh,fun E h v hv=>?_⟩
   obtain⟨h1,h2⟩:=key E h v hv
   cases c with
   | true=>rw[h1 rfl];simp
   | false=>rw[h2 rfl];simp[Go.undef]
  | false=>
   refine⟨_,hh,fun E h v hv=>?_⟩
   obtain⟨h1,h2⟩:=key E h v hv
   cases c with
   | true=>rw[h1 rfl];simp
   | false=>rw[h2 rfl];simp[Go.undef]
 ·exact hh.elim
theorem jfV {all:List Oper}{a:Act}{o oj:Oper}{j s:Nat}{want:Bool}(hg:o.guard=some (j,want))(hj:all[j]? = some oj)(hs:oj.dst=some s) :
  Region.wanted o (yielded all.toArray a.tmps)=true↔a.tmps.getD s Go.undef = .bool want:=by
 simp only[Region.wanted,hg,yielded,jkr,hj,Option.bind_some,hs,Array.getD_eq_getD_getElem?]
 cases hx:a.tmps[s]? with
 | none=>simp[Go.undef]
 | some v=>cases v<;>simp
end
end Go.V
end
section
namespace Go.V
open Go Go.RowKit
abbrev FR (r:Option Nat):Fence := { Fence.wide with round:=r }
theorem jbE {P:Program}{o:Oper}{a:Act}{w:World}{next:Act→World→Prop}{Q:Exit→Act→World→Prop}(r:Option Nat)(hd:∀ c,o.op ≠ .defer c)(h:o.wp P a w next Q) :
  o.wpIn (FR r) 0 P a w next Q:=by
 refine⟨fun f _=>trivial,?_⟩
 have hs:o.semAt (FR r).round a.eval=execOp a.eval o:=by
  cases r with
  | none=>exact Oper.semAt_none ..
  | some l=>exact Oper.semAt_some _ _ _ hd
 rw[hs]
 unfold Oper.wp at h
 generalize (execOp a.eval o).run P w=x at h
 have nd:(FR r).depth.isSome=true→1≤0:=fun e=>absurd (show (none:Option Nat).isSome=true from e) Jd
 cases x with
 | ok y w'=>
  cases y
  case enter f args=>
   simp only[Oper.upon] at h
   simp only[Oper.uponIn]
   exact⟨nd,callsIn_wide (n:=0).2 h⟩
  case row row args=>
   simp only[Oper.upon] at h
   simp only[Oper.uponIn]
   refine⟨nd,fun c cs _=>?_⟩
   obtain⟨v,w'',h1,h2⟩:=h c cs
   exact⟨v,w'',h1,stepsIn_wide.2 h2⟩
  all_goals simp only[Oper.upon,Oper.uponIn] at h ⊢
  all_goals exact h
 | halt y w'=>cases y<;>simp only[Oper.upon,Oper.uponIn] at h ⊢ <;> exact h
section
variable {F : Fence} {n : Nat} {P : Program} {Q : Exit → Act → World → Prop} {a : Act} {w : World}
theorem jbF {b:Frame}{a:Act}{c:Code}{k:List Item}{cs:List Frame}{w:World} : step P (lone (b.atR a (.code (.scope c)::k)) cs w) = .next (lone (b.atR a (.code c :: .inScope c::k)) cs w):=step_lone_go (by simp[stepG,stepG.exec,Frame.atR])
theorem jgz {b:Frame}{a:Act}{c:Code}{k:List Item}{cs:List Frame}{w:World} : step P (lone (b.atR a (.inScope c::k)) cs w) = .next (lone (b.atR a k) cs w):=step_lone_go (by simp[stepG,stepG.exec,Frame.atR])
theorem wpIn_scope {c:Code}(h:c.wpIn F n P (Exit.noGoto Q) a w):(Code.scope c).wpIn F n P Q a w:=by
 intro b k cs hro hb hr
 have h0:(lone (b.atR a (.code (.scope c)::k)) cs w).fenced P F:=fenced_calm hb hr rfl
 obtain⟨e,a₁,w₁,hq,harr⟩:=h b (.inScope c::k) cs hro hb hr
 cases e with
 | normal=>exact⟨.normal,a₁,w₁,hq,.head h0 jbF (StepsIn.trans harr (.one (fenced_calm hb hr rfl) jgz))⟩
 | exit id=>
  have hx:exitTo id (.inScope c::k)=exitTo id k:=by simp[exitTo]
  exact⟨.exit id,a₁,w₁,hq,fun k' hk => .head h0 jbF (harr.1 k' (by rw[hx];exact hk)),
    fun hr' hk=>let ⟨k₁,h1,h2⟩:=harr.2 hr' (by rw[hx];exact hk); ⟨k₁,h1,.head h0 jbF h2⟩⟩
 | goto l=>exact hq.elim
 | ret=>exact⟨_,a₁,w₁,hq,.of_steps (.one h0 jbF) harr⟩
 | panic ch=>exact⟨_,a₁,w₁,hq,.of_steps (.one h0 jbF) harr⟩
 | outgrown=>exact⟨_,a₁,w₁,hq,.of_steps (.one h0 jbF) harr⟩
theorem jhV {c:Code}{α:Type}(I:α→Act→World→Prop)(μ:α→Nat)
  (round:∀ x a w,I x a w→c.wpIn F n P (Exit.then (fun a' w' => ∃ y,I y a' w'∧μ y<μ x) Q) a w) {a:Act} {w:World} (x0:α) (h0:I x0 a w):(Code.loop c).wpIn F n P Q a w:=by
 intro b k cs hro hb hr
 have key:∀ j x a w,μ x=j→I x a w →
   ∃ e a' w',Q e a' w'∧ArrivesIn (Machine.fenced P F) P (lone (b.atR a (.code c :: .inLoop c::k)) cs w) b k cs e a' w':=by
  intro j
  induction j using Nat.strongRecOn with
  | _ j ih=>
   intro x a w hn hI
   obtain⟨e,a₁,w₁,hq,harr⟩:=round x a w hI b (.inLoop c::k) cs hro hb hr
   cases e with
   | normal=>
    obtain⟨y,hI₁,hlt⟩:=hq
    obtain⟨e₂,a₂,w₂,hq₂,harr₂⟩:=ih (μ y) (hn▸hlt) y a₁ w₁ rfl hI₁
    exact⟨e₂,a₂,w₂,hq₂,.of_steps (StepsIn.trans harr (.one (fenced_calm hb hr rfl) stepR_inLoop)) harr₂⟩
   | exit id=>exact⟨_,a₁,w₁,hq,.pass (x := .inLoop c) rfl (fun _ _ => .inl Js) harr⟩
   | goto l=>exact⟨_,a₁,w₁,hq,.pass (x := .inLoop c) rfl (fun _ _ => .inl Js) harr⟩
   | ret=>exact⟨_,a₁,w₁,hq,.pass (x := .inLoop c) rfl (fun _ _ => .inl Js) harr⟩
   | panic ch=>exact⟨_,a₁,w₁,hq,.pass (x := .inLoop c) rfl (fun _ _ => .inl Js) harr⟩
   | outgrown=>exact⟨_,a₁,w₁,hq,.pass (x := .inLoop c) rfl (fun _ _ => .inl Js) harr⟩
 obtain⟨e,a',w',hq,harr⟩:=key _ x0 a w rfl h0
 exact⟨e,a',w',hq,.of_steps (.one (fenced_calm hb hr rfl) stepR_loop) harr⟩
end
end Go.V
end
section
namespace Go.V
open Go Go.RowKit
abbrev Env.same (E E':Env)(j:Nat):Prop:=E'.blk j=E.blk j∧E'.siz j=E.siz j∧E'.kn j=E.kn j∧E'.real j=E.real j∧E'.lpr j=E.lpr j
theorem Env.same.trans {E E' E'':Env}{j:Nat}(h:E.same E' j)(k:E'.same E'' j):E.same E'' j:=
 ⟨k.1.trans h.1,k.2.1.trans h.2.1,k.2.2.1.trans h.2.2.1,k.2.2.2.1.trans h.2.2.2.1,k.2.2.2.2.trans h.2.2.2.2⟩
theorem Env.same.refl (E:Env)(j:Nat):E.same E j:=⟨rfl,rfl,rfl,rfl,rfl⟩
mutual
def D.lt (n:Nat):D→Bool
 | .agg ds | .tup ds | .ref ds=>D.ltL n ds
 | .fn _ es ds=>match D.ltL n es with|true=>D.ltL n ds|false=>false
 | .box j _=>Nat.blt j n
 | .yld j=>Nat.blt j n
 | .mapr j=>Nat.blt j n
 | .osl j _ _=>Nat.blt j n
 | .bsl j _ _ _=>Nat.blt j n
 | .gd _ d=>D.lt n d
 | _=>true
def D.ltL (n:Nat):List D→Bool
 | []=>true
 | d::ds=>match D.lt n d with|true=>D.ltL n ds|false=>false
end
theorem jfM {j n:Nat}(h:Nat.blt j n=true):j<n:=jjw h
mutual
theorem Den.lt {E E':Env}{h:Pub}{n:Nat}(he:∀ j,j<n→E.same E' j):∀ {d:D} {v:Value},d.lt n=true→Den E h d v→Den E' h d v
 | .any,_,_,_=>by simp[Den]
 | .undef,_,_,H=>by simpa [Den] using H
 | .bool _,_,_,H=>by simpa [Den] using H
 | .int _ _,_,_,H=>by simpa [Den] using H
 | .str _,_,_,H=>by simpa [Den] using H
 | .nil,_,_,H=>by simpa [Den] using H
 | .ints k xs,v,_,H=>by simpa [Den] using H
 | .slf _ _ _,_,_,H=>by simpa [Den] using H
 | .iarr _ _,_,_,H=>by simpa [Den] using H
 | .agg ds,v,F,H=>by
  simp only[Den] at H ⊢
  simp only[D.lt] at F
  obtain⟨vs,h1,h2,h3⟩:=H
  exact⟨vs,h1,DenL.lt he F h2,h3⟩
 | .tup ds,v,F,H=>by
  simp only[Den] at H ⊢
  simp only[D.lt] at F
  obtain⟨vs,h1,h2⟩:=H
  exact⟨vs,h1,DenL.lt he F h2⟩
 | .fn f first caps,v,F,H=>by
  simp only[Den] at H ⊢
  simp only[D.lt] at F
  obtain⟨us,vs,h1,h2,h3⟩:=H
  cases hd:D.ltL n first with
  | false=>rw[hd] at F;simp at F
  | true=>rw[hd] at F;exact⟨us,vs,h1,DenL.lt he hd h2,DenL.lt he F h3⟩
 | .ref ds,v,F,H=>by
  simp only[Den] at H ⊢
  simp only[D.lt] at F
  obtain⟨b,o,h1,vs,h2,h3,h4⟩:=H
  exact⟨b,o,h1,vs,DenL.lt he F h2,h3,h4⟩
 | .box j _,_,F,H=>by
  simp only[Den] at H ⊢
  simp only[D.lt] at F
  obtain⟨e1,e2,e3,e4,e5⟩:=he j (jfM F)
  rw[e1,e4];exact H
 | .osl j _ _,_,F,H=>by
  simp only[Den] at H ⊢
  simp only[D.lt] at F
  obtain⟨e1,e2,e3,e4,e5⟩:=he j (jfM F)
  rw[e1,e2,e3,e4];exact H
 | .bsl j _ _ _,_,F,H=>by
  simp only[Den] at H ⊢
  simp only[D.lt] at F
  obtain⟨e1,e2,e3,e4,e5⟩:=he j (jfM F)
  rw[e1,e2,e4];exact H
 | .yld j,_,F,H=>by
  simp only[Den] at H ⊢
  simp only[D.lt] at F
  obtain⟨e1,e2,e3,e4,e5⟩:=he j (jfM F)
  rw[e1];exact H
 | .mapr j,_,F,H=>by
  simp only[Den] at H ⊢
  simp only[D.lt] at F
  obtain⟨e1,e2,e3,e4,e5⟩:=he j (jfM F)
  rw[e1,e4];exact H
 | .gd c d,v,F,H=>by
  simp only[Den] at H ⊢
  simp only[D.lt] at F
  exact⟨fun hc=>Den.lt he F (H.1 hc),H.2⟩
 | .gp _,_,_,H=>by simpa [Den] using H
 | .val _,_,_,H=>by simpa [Den] using H
 | .anyb _,_,_,H=>by simpa [Den] using H
theorem DenL.lt {E E':Env}{h:Pub}{n:Nat}(he:∀ j,j<n→E.same E' j):∀ {ds:List D} {vs:List Value},D.ltL n ds=true→DenL E h ds vs→DenL E' h ds vs
 | [],_,_,H=>by simpa [DenL] using H
 | d::ds,vs,F,H=>by
  simp only[DenL] at H ⊢
  simp only[D.ltL] at F
  obtain⟨v,vs',h1,h2,h3⟩:=H
  cases hd:D.lt n d with
  | false=>rw[hd] at F;simp at F
  | true=>rw[hd] at F;exact⟨v,vs',h1,Den.lt he hd h2,DenL.lt he F h3⟩
end
def cut (n:Nat):Sl→Sl
 | []=>[]
 | (t,d)::L=>(t,match D.lt n d with|true=>d|false => .any)::cut n L
def cutK (n:Nat):Sl→(Sl→Prop)→Prop
 | [],K=>K []
 | (t,d)::L,K=>match D.lt n d with
  | true=>cutK n L fun L'=>K ((t,d)::L')
  | false=>cutK n L fun L'=>K ((t,.any)::L')
theorem jg9 (n:Nat)(L:Sl)(K:Sl→Prop):cutK n L K=K (cut n L):=by
 induction L generalizing K with
 | nil=>rfl
 | cons x L ih=>
  obtain⟨t,d⟩:=x
  simp only[cutK,cut]
  cases D.lt n d<;>simp[ih]
theorem look_cut {n:Nat}{L:Sl}{t:Nat}{E E':Env}{h h':Pub}{v:Value}(he:∀ j,j<n→E.same E' j)(hh:h.Le h')(H:Den E h (look L t) v):Den E' h' (look (cut n L) t) v:=by
 induction L with
 | nil=>simp[cut,look,Den]
 | cons x L ih=>
  obtain⟨s,d⟩:=x
  simp only[cut]
  rw[jaI] at H ⊢
  split
  ·rename_i hs
   rw[if_pos hs] at H
   cases hf:D.lt n d with
   | true=>exact Den.mono hh (Den.lt he hf H)
   | false=>simp[Den]
  ·rename_i hs
   rw[if_neg hs] at H
   exact ih H
structure MS (cx:Cx)(E:Env)(h:Pub)(w:World)(H:Hp):Prop where
 mem:MemOk cx.w0.heap.size E h w H
 agree:Agree h w
 since:Since cx.w0 cx.h0 w h
 low:∀ j,j<cx.off→cx.E0.same E j
 objs:∀ b o,cx.objs b=some o→cx.w0.heap.size≤b∧held o∧w.heap[b]? = some o
section
variable {cx cx' : Cx} {E E' : Env} {h h' : Pub} {a : Act} {w w' : World} {L : Sl} {H H' : Hp}
theorem Sat.ms (S:Sat cx E h a w L H):MS cx E h w H:=⟨S.mem,S.agree,S.since,S.low,S.side.objs⟩
theorem MS.sat (M:MS cx E h w H)(hk:∀ t,Den E h (look L t) (a.tmps.getD t Go.undef))
  (hm:∃ ms:List Nat,ms.Nodup∧a.defers=ms.map (fun b=>({ target := .collected b,args := #[] } : Deferred))++cx.ds ∧ ∀ b∈ms,cx.w0.heap.size≤b∧cx.objs b=none∧w.heap[b]? = some (.deferred (some []))) :
  Sat cx E h a w L H:=⟨hk,M.mem,M.agree,M.since,M.low,⟨hm,M.objs⟩⟩
structure Later (cx cx':Cx):Prop where
 w0:cx'.w0=cx.w0
 le:cx.h0.Le cx'.h0
 old:∀ b,b<cx.w0.heap.size → ∀ o,cx'.h0 b o=cx.h0 b o
 off:cx.off≤cx'.off
 env:∀ j,j<cx.off→cx.E0.same cx'.E0 j
 objs:∀ b o,cx.objs b=some o→cx'.objs b=some o
theorem Later.refl (cx:Cx):Later cx cx:=⟨rfl,Pub.Le.refl _,fun _ _ _=>rfl,jjG _,fun _ _ => .refl _ _,fun _ _ h=>h⟩
theorem Later.trans {a b c:Cx}(h:Later a b)(k:Later b c):Later a c:=
 ⟨k.w0.trans h.w0,h.le.trans k.le,fun x hx o=>(k.old x (by rw[h.w0];exact hx) o).trans (h.old x hx o),jjH h.off k.off,fun j hj=>(h.env j hj).trans (k.env j (jjN hj h.off)),fun b o e=>k.objs b o (h.objs b o e)⟩
def Cx.now (cx:Cx)(E:Env)(h:Pub)(n:Nat)(objs:Nat→Option Obj):Cx := { w0:=cx.w0,h0:=h,off:=n,E0:=E,ds:=[],objs:=objs }
theorem MS.now (M:MS cx E h w H){n:Nat}{objs:Nat→Option Obj}(ho:∀ b o,objs b=some o→cx.w0.heap.size≤b∧held o∧w.heap[b]? = some o):MS (cx.now E h n objs) E h w H:=
 ⟨M.mem,M.agree,⟨M.since.below,Pub.Le.refl _,fun _ _ _=>rfl⟩,fun j _ => .refl _ _,ho⟩
theorem MS.later (M:MS cx E h w H){n:Nat}{objs:Nat→Option Obj}(hn:cx.off≤n)(ho:∀ b o,cx.objs b=some o→objs b=some o):Later cx (cx.now E h n objs):=
 ⟨rfl,M.since.le,fun b hb o=>M.since.old b hb o,hn,fun j hj=>M.low j hj,ho⟩
theorem Sat.back (S:Sat cx E h a w L H){n:Nat}{objs:Nat→Option Obj}(hn:cx.off≤n)(M:MS (cx.now E h n objs) E' h' w' H')
  (ho:∀ b o,cx.objs b=some o→objs b=some o) (hm:∀ b,cx.w0.heap.size≤b→cx.objs b=none→w.heap[b]? = some (.deferred (some []))→b<w.heap.size→w'.heap[b]? = some (.deferred (some []))):Sat cx E' h' a w' (cut n L) H':=by
 refine { knows:=fun t=>look_cut M.low M.since.le (S.knows t),mem:=M.mem,agree:=M.agree,since:=?_,low:=fun j hj=>Env.same.trans (S.low j hj) (M.low j (jjN hj hn)),side:=?_ }
 ·exact⟨M.since.below,S.since.le.trans M.since.le,fun b hb o=>(M.since.old b hb o).trans (S.since.old b hb o)⟩
 ·obtain⟨ms,h0,h1,h2⟩:=S.side.marks
  exact⟨⟨ms,h0,h1,fun b hb=>⟨(h2 b hb).1,(h2 b hb).2.1,hm b (h2 b hb).1 (h2 b hb).2.1 (h2 b hb).2.2 (Array.getElem?_eq_some_iff.1 (h2 b hb).2.2).1⟩⟩,fun b o e=>M.objs b o (ho b o e)⟩
theorem MS.putObj (M:MS cx E h w H){l:Nat}{o o':Obj}(hl:w.heap[l]? = some o)(hc:o.isCells=false)(hB:cx.w0.heap.size≤l){objs:Nat→Option Obj}
  (ho:∀ b q,objs b=some q→(b≠l∧cx.objs b=some q)∨(b=l∧q=o'∧held o'))
  (hlp:∀ j p,lookH H j=some (.lp p)→E.real j=true→E.blk j≠l) (hmp:∀ x ck,o ≠ .map x ck:=by intro _ _ e;cases e):MS { cx with objs:=objs } E h (w.putObj l o') H:=by
 have hlt:=(Array.getElem?_eq_some_iff.1 hl).1
 have keep:∀ b,b≠l→(w.putObj l o').heap[b]? = w.heap[b]? := fun b hb=>World.putObj_heap_other hb
 have nl:∀ i c,lookH H i=some c→c.live=true→E.real i=true→E.blk i≠l:=fun i c hi hlv hr e=>by
  cases hcl:c.cel with
  | true=>
   obtain⟨cs,T,f,hcell⟩:=(M.mem.ok i c hi).cells hcl hr
   rw[e,hl] at hcell;cases hcell;cases hc
  | false=>
   cases c with
   | lp p=>exact hlp i p hi hr e
   | mp p=>
    obtain⟨_,x,ck,g,_⟩:=M.mem.ok i _ hi
    rw[e,hl] at g;cases g;exact hmp _ _ rfl
   | gone=>simp[Chunk.live] at hlv
   | _=>simp[Chunk.cel] at hcl
 refine⟨⟨fun i c hi=>(M.mem.ok i c hi).keep fun hlv hr=>keep _ (nl i c hi hlv hr),M.mem.base,M.mem.unpub,M.mem.inj⟩,?_,?_,M.low,fun b q hq=>?_⟩
 ·refine M.agree.of_blocks fun b ⟨x,v,hv⟩=>keep b fun e=>?_
  subst e
  have:=M.agree b x v hv
  unfold World.cell? at this
  rw[show (⟨b,x,none⟩:Addr).block=b from rfl,hl] at this
  cases o<;>first|(cases hc;done)|simp at this
 ·exact⟨⟨M.since.below.os,M.since.below.tape,M.since.below.output,by rw[World.putObj_size];exact M.since.below.size,fun k hk=>by rw[keep k (Nat.ne_of_lt (jjN hk hB))];exact M.since.below.block k hk⟩,M.since.le,M.since.old⟩
 ·rcases ho b q hq with⟨hb,hq'⟩|⟨rfl,rfl,hc'⟩
  ·obtain⟨h1,h2,h3⟩:=M.objs b q hq'
   exact⟨h1,h2,by rw[keep b hb];exact h3⟩
  ·exact⟨hB,hc',World.putObj_heap_same hlt⟩
theorem MS.putMap (M:MS cx E h w H){i:Nat}{es es':List (Int×D)}{l l':Array MapEntry}{ck ck':Nat}(hi:lookH H i=some (.mp es))(hr:E.real i=true)(hl:w.heap[E.blk i]? = some (.map l ck))(hok:MpOk h es' l'.toList) :
  MS cx E h (w.putObj (E.blk i) (.map l' ck')) ((i,.mp es')::H):=by
 have hlt:=(Array.getElem?_eq_some_iff.1 hl).1
 have keep:∀ b,b≠E.blk i→(w.putObj (E.blk i) (.map l' ck')).heap[b]? = w.heap[b]? := fun b hb=>World.putObj_heap_other hb
 have hB:=M.mem.base i _ hi rfl hr
 have live:∀ j c,lookH ((i,.mp es')::H) j=some c→c.live=true → ∃ c0,lookH H j=some c0∧c0.live=true∧(j≠i→c0=c):=fun j c hc hlv=>by
  rw[jag] at hc
  split at hc
  ·rename_i e;subst e;exact⟨_,hi,rfl,fun e=>absurd rfl e⟩
  ·exact⟨c,hc,hlv,fun _=>rfl⟩
 refine⟨⟨?_,?_,?_,?_⟩,?_,?_,M.low,fun b q hq=>?_⟩
 ·intro j c hc
  rw[jag] at hc
  split at hc
  ·rename_i e;subst e;cases hc
   exact⟨hr,l',ck',World.putObj_heap_same hlt,hok⟩
  ·rename_i hne
   exact(M.mem.ok j c hc).keep fun hlv hrj=>keep _ (M.mem.inj j i c _ (Ne.symm hne) hc hi hlv rfl hrj hr)
 ·intro j c hc hlv hrj
  obtain⟨c0,h1,h2,_⟩:=live j c hc hlv
  exact M.mem.base j c0 h1 h2 hrj
 ·intro j c hc hlv hrj
  obtain⟨c0,h1,h2,_⟩:=live j c hc hlv
  exact M.mem.unpub j c0 h1 h2 hrj
 ·intro j k c1 c2 hjk h1 h2 l1 l2 r1 r2
  obtain⟨d1,g1,g2,_⟩:=live j c1 h1 l1
  obtain⟨d2,g3,g4,_⟩:=live k c2 h2 l2
  exact M.mem.inj j k d1 d2 hjk g1 g3 g2 g4 r1 r2
 ·refine M.agree.of_blocks fun b ⟨x,v,hv⟩=>keep b fun e=>?_
  rw[e,M.mem.unpub i _ hi rfl hr x] at hv
  cases hv
 ·exact⟨⟨M.since.below.os,M.since.below.tape,M.since.below.output,by rw[World.putObj_size];exact M.since.below.size,fun k hk=>by rw[keep k (Nat.ne_of_lt (jjN hk hB))];exact M.since.below.block k hk⟩,M.since.le,M.since.old⟩
 ·obtain⟨h1,h2,h3⟩:=M.objs b q hq
  exact⟨h1,h2,by rw[keep b (fun e=>by rw[e,hl] at h3;cases h3;exact h2.2.2 _ _ rfl)];exact h3⟩
theorem MS.below (M : MS cx E h w H) (hb : Below w.heap.size w w') : MS cx E h w' H :=
  ⟨⟨fun i c hi => (M.mem.ok i c hi).keep fun hl hr => hb.block _ ((M.mem.ok i c hi).lt hl hr), M.mem.base, M.mem.unpub, M.mem.inj⟩,
   M.agree.of_blocks fun b ⟨_, _, hv⟩ => hb.block b (M.agree.lt hv), ⟨M.since.below.trans (hb.mono M.since.below.size), M.since.le, M.since.old⟩, M.low,
   fun b o ho => ⟨(M.objs b o ho).1, (M.objs b o ho).2.1, by rw [hb.block b (Array.getElem?_eq_some_iff.1 (M.objs b o ho).2.2).1]; exact (M.objs b o ho).2.2⟩⟩
theorem MS.noPub (M:MS cx E h w H){l:Nat}{r:Loop}(hl:w.heap[l]? = some (.loop r))(o:Nat):h l o=none:=by
 cases hv:h l o with
 | none=>rfl
 | some v=>
  have:=M.agree l o v hv
  unfold World.cell? at this
  rw[show (⟨l,o,none⟩:Addr).block=l from rfl,hl] at this
  simp at this
theorem MS.gone (M:MS cx E h w H)(i:Nat):MS cx E h w ((i,.gone)::H):=by
 have live:∀ j c,lookH ((i,.gone)::H) j=some c→c.live=true→j≠i∧lookH H j=some c:=by
  intro j c hc hl
  rw[jag] at hc
  split at hc
  ·cases hc;simp[Chunk.live] at hl
  ·rename_i e;exact⟨Ne.symm e,hc⟩
 refine⟨⟨?_,?_,?_,?_⟩,M.agree,M.since,M.low,M.objs⟩
 ·intro j c hc
  rw[jag] at hc
  split at hc
  ·cases hc;trivial
  ·exact M.mem.ok j c hc
 ·exact fun j c hc hl=>M.mem.base j c (live j c hc hl).2 hl
 ·exact fun j c hc hl=>M.mem.unpub j c (live j c hc hl).2 hl
 ·exact fun j k c1 c2 hjk h1 h2 l1 l2=>M.mem.inj j k c1 c2 hjk (live j c1 h1 l1).2 (live k c2 h2 l2).2 l1 l2
theorem MS.mark (M:MS cx E h w H){i:Nat}{r:Loop}{p:Option Code}(hr:E.real i=true)(hi:E.lpr i=some r)(hl:w.heap[E.blk i]? = some (.loop (lpRec r p)))(hB:cx.w0.heap.size≤E.blk i)
  (hd:∀ j c,j≠i→lookH H j=some c→c.live=true→E.real j=true→E.blk j≠E.blk i):MS cx E h w ((i,.lp p)::H):=by
 refine⟨⟨?_,?_,?_,?_⟩,M.agree,M.since,M.low,M.objs⟩
 ·intro j c hc
  rw[jag] at hc
  split at hc
  ·rename_i e;subst e;cases hc;exact⟨hr,r,hi,hl⟩
  ·exact M.mem.ok j c hc
 ·intro j c hc hlv hrj
  rw[jag] at hc
  split at hc
  ·rename_i e;subst e;exact hB
  ·exact M.mem.base j c hc hlv hrj
 ·intro j c hc hlv hrj o
  rw[jag] at hc
  split at hc
  ·rename_i e;subst e;exact M.noPub hl o
  ·exact M.mem.unpub j c hc hlv hrj o
 ·intro j k c1 c2 hjk h1 h2 l1 l2 r1 r2
  rw[jag] at h1 h2
  split at h1
  ·rename_i e;subst e
   rw[if_neg hjk] at h2
   exact Ne.symm (hd k c2 (Ne.symm hjk) h2 l2 r2)
  ·split at h2
   ·rename_i e;subst e
    exact hd j c1 hjk h1 l1 r1
   ·exact M.mem.inj j k c1 c2 hjk h1 h2 l1 l2 r1 r2
def Env.setL (E:Env)(i l:Nat)(r:Loop):Env:=⟨fun j=>if j=i then l else E.blk j,fun j=>if j=i then 0 else E.siz j,fun j=>if j=i then 0 else E.kn j,fun j=>if j=i then true else E.real j,fun j=>if j=i then some r else E.lpr j⟩
theorem Env.off_setL (E:Env)(i l:Nat)(r:Loop):E.off (E.setL i l r) i:=fun j hj=>by simp[Env.setL,hj]
theorem Env.setL_blk (E:Env)(i l:Nat)(r:Loop):(E.setL i l r).blk i=l:=by simp[Env.setL]
theorem Env.setL_real (E:Env)(i l:Nat)(r:Loop):(E.setL i l r).real i=true:=by simp[Env.setL]
theorem Env.setL_lpr (E:Env)(i l:Nat)(r:Loop):(E.setL i l r).lpr i=some r:=by simp[Env.setL]
theorem MS.name (M:MS cx E h w H){E':Env}{i:Nat}(hoff:E.off E' i)(hi:cx.off≤i):MS cx E' h w ((i,.gone)::jaK i H):=by
 have live:∀ j c',lookH ((i,.gone)::jaK i H) j=some c'→c'.live=true→j≠i ∧ ∃ c0,lookH H j=some c0∧c'=jb8 i c0∧c0.live=true:=by
  intro j c' hc' hl
  rw[jag] at hc'
  split at hc'
  ·cases hc';simp[Chunk.live] at hl
  ·rename_i e
   obtain⟨c0,h1,h2⟩:=jbo hc'
   exact⟨Ne.symm e,c0,h1,h2,by rw[h2,jbm] at hl;exact hl⟩
 refine⟨⟨?_,?_,?_,?_⟩,M.agree,M.since,fun j hj=>Env.same.trans (M.low j hj) (hoff j Jo),M.objs⟩
 ·intro j c' hc'
  cases hl:c'.live with
  | false=>cases c'<;>first|trivial|(simp[Chunk.live] at hl)
  | true=>
   obtain⟨hj,c0,h1,rfl,hl'⟩:=live j c' hc' hl
   exact ChunkOk.env hoff hj (M.mem.ok j _ h1)
 ·intro j c' hc' hl hr
  obtain⟨hj,c0,h1,rfl,hl'⟩:=live j c' hc' hl
  rw[(hoff j hj).2.2.2.1] at hr
  rw[(hoff j hj).1];exact M.mem.base j _ h1 hl' hr
 ·intro j c' hc' hl hr o
  obtain⟨hj,c0,h1,rfl,hl'⟩:=live j c' hc' hl
  rw[(hoff j hj).2.2.2.1] at hr
  rw[(hoff j hj).1];exact M.mem.unpub j _ h1 hl' hr o
 ·intro j k c1 c2 hjk h1 h2 l1 l2 r1 r2
  obtain⟨hj,c0,g1,rfl,l1'⟩:=live j c1 h1 l1
  obtain⟨hk,c0',g2,rfl,l2'⟩:=live k c2 h2 l2
  rw[(hoff j hj).2.2.2.1] at r1
  rw[(hoff k hk).2.2.2.1] at r2
  rw[(hoff j hj).1,(hoff k hk).1]
  exact M.mem.inj j k _ _ hjk g1 g2 l1' l2' r1 r2
end
abbrev Yl:=Nat→List D→Nat→Hp→(D→Hp→Prop)→Prop
abbrev Inl:=Yl→Nat→List D→Nat→Hp→(D→Hp→Prop)→(Value→Hp→Prop)→Prop
def YlOk (P:Program)(cx:Cx)(yl:Yl):Prop:=
 ∀ cx',Later cx cx' → ∀ i ds top H K,yl i ds top H K→cx'.off≤top → ∀ E h w vs,MS cx' E h w H→DenL E h ds vs →
  ∃ fn tmps assign body,(Instr.yield (E.blk i) vs.toArray).run P w = .ok (.round (E.blk i) fn tmps assign body) w ∧
   RoundIn (FR none) 0 P (E.blk i) fn tmps assign body w fun e w' => ∃ v r E' h' H',e = .returned v∧K r H'∧Den E' h' r v∧MS (cx'.now E h top cx'.objs) E' h' w' H'
theorem YlOk.later {P:Program}{cx cx':Cx}{yl:Yl}(h:YlOk P cx yl)(hl:Later cx cx'):YlOk P cx' yl:=fun cx'' h''=>h cx'' (hl.trans h'')
theorem ylOk_none (P:Program)(cx:Cx):YlOk P cx (fun _ _ _ _ _=>False):=fun _ _ _ _ _ _ _ h=>h.elim
def InlOk (P:Program)(inl:Inl):Prop:=
 ∀ yl g ds off H K KP,inl yl g ds off H K KP → ∀ cx E h w vs,cx.off=off→cx.ds=[]→YlOk P cx yl→MS cx E h w H→DenL E h ds vs →
  Enters P g∧CallsIn (FR none) 0 P g vs.toArray w fun e w'=>(∃ v r E' h' H',e = .returned v∧K r H'∧Den E' h' r v∧MS cx E' h' w' H') ∨
   ∃ v E' h' H',e = .panicked [{ v:=v,recovered:=false }]∧KP v H'∧MS cx E' h' w' H'
end Go.V
end
section
namespace Go.V
open Go Go.RowKit
inductive Alt (A B C D : Prop) : Prop where
  | ext (a : A) : Alt A B C D
  | inl (b : B) : Alt A B C D
  | pan (c : C) : Alt A B C D
  | len (d : D) : Alt A B C D
def inlK (inl : Inl) (yl : Yl) (N off : Nat) (dst : Option Nat) (x : Operand) (args : List Operand) (L : Sl) (H : Hp) (KP : KPan) (K : K2) : Prop :=
  rdg True L x fun df => match df with
    | .fn f first caps => rdsK True L args fun ds => ∃ k : Nat, inl yl f (appD first (appD ds caps)) (off + N + 1 + k) H (fun r H' =>
        cutK (off + N + 1 + k) L fun L' => dstK N dst r L' fun L'' => K L'' H') fun v H' => cutK (off + N + 1 + k) L fun L' => KP [{ v := v, recovered := false }] L' H'
    | _ => False
def call2K (P:Program)(inl:Inl)(yl:Yl)(N off:Nat)(dst:Option Nat)(x:Operand)(args:List Operand)(L:Sl)(H:Hp)(KP:KPan)(K:K2):Prop:=
 rdg True L x fun df=>match df with
  | .yld i=>rdsK True L args fun ds=>yl i ds (off+N+1) H fun r H'=>cutK (off+N+1) L fun L'=>dstK N dst r L' fun L''=>K L'' H'
  | _=>Alt (callK P N True (fun r=>r) dst x args L H K) (inlK inl yl N off dst x args L H KP K) (panK P x args L H KP) (lendK P N dst x args L H K)
def insK (tb:Tb)(t:Nat)(m k x:Operand)(L:Sl)(H:Hp)(K:K2):Prop:=tyK tb t fun y=>match y.kind with
 | .map kt _=>tyK tb kt fun yk=>match yk.kind with
  | .int .i64=>rdg True L m fun dm=>match dm with
   | .mapr i=>rdg True L k fun dk=>match dk with
    | .int kk n=>match kE kk .i64 with
     | true=>rdg True L x fun dx=>match D.pure dx with
      | true=>jaU H i fun c=>match c with
       | .mp es=>findM n es fun r=>match r with
        | none=>K L ((i,.mp (es++[(n,dx)]))::H)
        | some _=>False
       | _=>False
      | false=>False
     | false=>False
    | _=>False
   | _=>False
  | _=>False
 | _=>False
def op2K (P:Program)(tb:Tb)(inl:Inl)(yl:Yl)(N off:Nat)(o:Oper)(L:Sl)(H:Hp)(KP:KPan)(K:K2):Prop:=match o.op with
 | .call c=>match c.callee with
  | .value x=>call2K P inl yl N off o.dst x c.args.toList L H KP K
  | _=>opK P tb N off o L H K
 | .panic x=>raiseK x L H KP
 | .makeMap _ r=>match r with
  | none=>someK o.dst fun d=>ltK d N (newK off d (.mapr (off+d)) (.mp []) L H K)
  | some _=>False
 | .insert t m k x=>noneK o.dst (insK tb t m k x L H K)
 | _=>opK P tb N off o L H K
def Hv (P:Program)(N:Nat)(cx:Cx)(r:Option Nat)(Q:Exit→Act→World→Prop)(o:Oper)(K:K2)(L:Sl)(H:Hp):Prop:=
 ∀ E h a w,N≤a.tmps.size→Sat cx E h a w L H → ∀ next:Act→World→Prop,
  (∀ L' H' E' h' a' w',K L' H'→a'.tmps.size=a.tmps.size→Sat cx E' h' a' w' L' H'→next a' w')→o.wpIn (FR r) 0 P a w next Q
def HvP (P:Program)(N:Nat)(cx:Cx)(r:Option Nat)(Q:Exit→Act→World→Prop)(o:Oper)(KP:KPan)(K:K2)(L:Sl)(H:Hp):Prop:=
 ∀ E h a w,N≤a.tmps.size→Sat cx E h a w L H→(∀ c L' H' E' h' a' w',KP c L' H'→a'.tmps.size=a.tmps.size→Sat cx E' h' a' w' L' H'→Q (.panic c) a' w') → ∀ next:Act→World→Prop,
  (∀ L' H' E' h' a' w',K L' H'→a'.tmps.size=a.tmps.size→Sat cx E' h' a' w' L' H'→next a' w')→o.wpIn (FR r) 0 P a w next Q
section
variable {P : Program} {tb : Tb} {inl : Inl} {yl : Yl} {N : Nat} {cx : Cx} {r : Option Nat} {Q : Exit → Act → World → Prop} {o : Oper} {L : Sl} {H : Hp} {K : K2}
theorem jhx {off:Nat}(h:opK P tb N off o L H K):∀ c,o.op ≠ .defer c:=by
 intro c e
 unfold opK at h
 rw[e] at h
 obtain⟨d,_,h⟩:=jaP h
 exact h.elim
theorem hv_of (hd:∀ c,o.op ≠ .defer c)(h:Heavy P N cx Q o K L H):Hv P N cx r Q o K L H:=
 fun E hp a w hN S next hnext=>jbE r hd (h E hp a w hN S next hnext)
def jbj (cx:Cx)(w:World):Nat→Option Obj:=fun b=>match cx.objs b with
 | some o=>some o
 | none=>if cx.w0.heap.size≤b then (match w.heap[b]? with|some (.deferred ds)=>some (.deferred ds)|_=>none) else none
theorem jcv (cx:Cx)(w:World):∀ b o,cx.objs b=some o→jbj cx w b=some o:=fun b o h=>by simp[jbj,h]
theorem jcu {E:Env}{h:Pub}{w:World}{H:Hp}(M:MS cx E h w H):∀ b o,jbj cx w b=some o→cx.w0.heap.size≤b∧held o∧w.heap[b]? = some o:=fun b o hb=>by
 unfold jbj at hb
 split at hb
 ·rename_i q hq;cases hb;exact M.objs b _ hq
 ·split at hb
  ·rename_i hle
   split at hb
   ·rename_i ds hds;cases hb;exact⟨hle,⟨rfl,(fun r e=>by cases e),fun _ _ e=>by cases e⟩,hds⟩
   ·cases hb
  ·cases hb
theorem jgD {w:World}{b:Nat}(hb:cx.w0.heap.size≤b)(ho:cx.objs b=none)(hw:w.heap[b]? = some (.deferred (some []))):jbj cx w b=some (.deferred (some [])):=by
 simp[jbj,ho,hb,hw]
theorem Sat.back' {E E':Env}{h h':Pub}{a:Act}{w w':World}{H':Hp}(S:Sat cx E h a w L H){n:Nat}(hn:cx.off≤n)(M:MS (cx.now E h n (jbj cx w)) E' h' w' H'):Sat cx E' h' a w' (cut n L) H':=
 S.back hn M (jcv cx w) fun b hb ho hw _=>(M.objs b _ (jgD hb ho hw)).2.2
theorem jh3 {f:Nat}{us vs:List Value}{a:Act}{x:Operand}{args:Array Operand}{ts:Array TypeId}{t:TypeId}{w:World}(hfv:a.eval x = .func (.func f) us.toArray vs.toArray)(hent:Enters P f) :
  ∃ d,(resolve a.eval { callee := .value x,args:=args,argTypes:=ts } t).run P w = .ok d w∧(invoke d.target d.args).run P w = .ok (.enter f (us++(args.toList.map a.eval++vs)).toArray) w:=by
 refine⟨{ target := .fn (.func f) vs.toArray,args:=us.toArray++Array.map a.eval args },?_,?_⟩
 ·simp only[resolve,hfv,Deferred.ofValue,Sem.run_pure]
 ·simp only[invoke]
  rw[show us.toArray++Array.map a.eval args++vs.toArray=(us++(args.toList.map a.eval++vs)).toArray by apply Array.toList_inj.1;simp]
  exact hent _ w
theorem inl_el (hin:InlOk P inl)(hyl:YlOk P cx yl){x:Operand}{args:Array Operand}{ts:Array TypeId}(ho:o.op = .call { callee := .value x,args:=args,argTypes:=ts })
  {KP:KPan} (hh:inlK inl yl N cx.off o.dst x args.toList L H KP K):HvP P N cx r Q o KP K L H:=by
 have hz:=jat hh;clear hh;obtain⟨df,hh,hdf⟩:=hz
 split at hh
 case h_2=>exact hh.elim
 rename_i f first caps
 have hz:=jdk hh;clear hh;obtain⟨ds,hh,hlen,hds⟩:=hz
 obtain⟨k,hh⟩:=hh
 intro E h a w hN S hP next hnext
 have hf:=hdf E h a trivial (S.facts.rd x)
 simp only[Den] at hf
 obtain⟨us,vs,hfv,hu,hv⟩:=hf
 have hargs:=hds E h a S.facts.rd trivial
 have hall:DenL E h (appD first (appD ds caps)) (us++(args.toList.map a.eval++vs)):=by
  rw[jc7,jc7];exact hu.append (hargs.append hv)
 have hoff:cx.off≤cx.off+N+1+k:=Jo
 obtain⟨hent,hcall⟩:=hin _ _ _ _ _ _ _ hh (cx.now E h (cx.off+N+1+k) (jbj cx w)) E h w _ rfl rfl (hyl.later (S.ms.later hoff (jcv cx w))) (S.ms.now (jcu S.ms)) hall
 have hrun:(execOp a.eval o).run P w = .ok (.enter f (us++(args.toList.map a.eval++vs)).toArray) w:=by
  simp only[execOp,ho,resolve,hfv,Deferred.ofValue,Sem.run_bind,Sem.run_pure,Result.andThen_ok,invoke]
  rw[show us.toArray++Array.map a.eval args++vs.toArray=(us++(args.toList.map a.eval++vs)).toArray by apply Array.toList_inj.1;simp]
  exact hent _ w
 refine jbE r (fun c e=>by rw[ho] at e;cases e) ?_
 unfold Oper.wp
 rw[hrun]
 simp only[Oper.upon]
 refine(callsIn_wide.1 hcall).mono ?_
 rintro e w' (⟨v,r',E',h',H',rfl,hK,hden,M⟩|⟨v,E',h',H',rfl,hK,M⟩)
 ·simp only
  rw[jg9] at hK
  obtain⟨L'',hK',hput⟩:=jev (cx:=cx) hK
  exact hnext _ _ _ _ _ _ hK' (jaB _ _ _) (hput E' h' a w' H' v hN (S.back' hoff M) hden)
 ·simp only
  rw[jg9] at hK
  exact hP _ _ _ _ _ _ _ hK rfl (S.back' hoff M)
theorem yld_el (hyl:YlOk P cx yl){i:Nat}{x:Operand}{args:Array Operand}{ts:Array TypeId}(ho:o.op = .call { callee := .value x,args:=args,argTypes:=ts })(hdf:∀ E h a w,Sat cx E h a w L H→Den E h (.yld i) (a.eval x))
  (hh:rdsK True L args.toList fun ds=>yl i ds (cx.off+N+1) H fun r H'=>cutK (cx.off+N+1) L fun L'=>dstK N o.dst r L' fun L''=>K L'' H'):Hv P N cx r Q o K L H:=by
 have hz:=jdk hh;clear hh;obtain⟨ds,hh,hlen,hds⟩:=hz
 intro E h a w hN S next hnext
 have hf:=hdf E h a w S
 simp only[Den] at hf
 have hargs:=hds E h a S.facts.rd trivial
 have hoff:cx.off≤cx.off+N+1:=Jo
 let cx':Cx := { cx with objs:=jbj cx w }
 have hl:Later cx cx':=⟨rfl,Pub.Le.refl _,fun _ _ _=>rfl,jjG _,fun _ _ => .refl _ _,jcv cx w⟩
 obtain⟨fn,tmps,assign,body,hy,hr⟩:=hyl cx' hl i ds _ H _ hh hoff E h w _ ⟨S.mem,S.agree,S.since,S.low,jcu S.ms⟩ hargs
 have hrun:(execOp a.eval o).run P w = .ok (.round (E.blk i) fn tmps assign body) w:=by
  simp only[execOp,ho,resolve,hf,Deferred.ofValue,Sem.run_bind,Sem.run_pure,Result.andThen_ok,invoke]
  rw[show #[]++Array.map a.eval args=(args.toList.map a.eval).toArray by apply Array.toList_inj.1;simp]
  exact hy
 have hs:o.semAt (FR r).round a.eval=execOp a.eval o:=by
  cases r with
  | none=>exact Oper.semAt_none ..
  | some l=>exact Oper.semAt_some _ _ _ (fun c e=>by rw[ho] at e;cases e)
 refine⟨fun f _=>trivial,?_⟩
 rw[hs,hrun]
 simp only[Oper.uponIn]
 refine⟨fun e=>absurd (show (none:Option Nat).isSome=true from e) Jd,?_⟩
 refine RoundIn.mono (F:=FR r) (show RoundIn (FR r) 0 P _ _ _ _ _ _ _ from hr) ?_
 rintro e w' ⟨v,r',E',h',H',rfl,hK,hden,M⟩
 simp only
 rw[jg9] at hK
 obtain⟨L'',hK',hput⟩:=jev (cx:=cx) hK
 exact hnext _ _ _ _ _ _ hK' (jaB _ _ _) (hput E' h' a w' H' v hN (S.back' hoff M) hden)
theorem MpOk.snoc {h:Pub}{n:Int}{d:D}{e:MapEntry}(hk:e.key = .int .i64 n)(hd:Den Env.dummy h d e.val):∀ {es:List (Int×D)} {l:List MapEntry},MpOk h es l→MpOk h (es++[(n,d)]) (l++[e])
 | [],l,H=>by
  simp only[MpOk] at H;subst H
  exact⟨e,[],rfl,hk,hd,rfl⟩
 | _::_,_,H=>by
  obtain⟨e',l',rfl,h1,h2,h3⟩:=H
  exact⟨e',_,rfl,h1,h2,MpOk.snoc hk hd h3⟩
theorem ins_el (htb:TbOk P tb){t:Nat}{m k x:Operand}(hd:o.dst=none)(ho:o.op = .insert t m k x)(hh:insK tb t m k x L H K):Heavy P N cx Q o K L H:=by
 have hz:=jak hh;clear hh;obtain⟨y,hy,hh⟩:=hz
 split at hh
 case h_2=>exact hh.elim
 rename_i kt et hk
 have hm:P.underlying t=some (.map kt et):=by have:=(htb _ _ hy).und;rw[hk] at this;exact this
 have hz:=jak hh;clear hh;obtain⟨yk,hyk,hh⟩:=hz
 split at hh
 case h_2=>exact hh.elim
 rename_i hkd
 have hkt:P.underlying kt=some (.int .i64):=by have:=(htb _ _ hyk).und;rw[hkd] at this;exact this
 have hz:=jat hh;clear hh;obtain⟨dm,hh,hdm⟩:=hz
 split at hh
 case h_2=>exact hh.elim
 rename_i i
 have hz:=jat hh;clear hh;obtain⟨dk,hh,hdk⟩:=hz
 split at hh
 case h_2=>exact hh.elim
 rename_i kk n
 split at hh
 case h_2=>exact hh.elim
 rename_i hke
 have:=kE_eq hke;subst this
 have hz:=jat hh;clear hh;obtain⟨dx,hh,hdx⟩:=hz
 split at hh
 case h_2=>exact hh.elim
 rename_i hpure
 have hz:=jay hh;clear hh;obtain⟨c,hc,hh⟩:=hz
 split at hh
 case h_2=>exact hh.elim
 rename_i es
 rw[findM_eq] at hh
 split at hh
 case h_2=>exact hh.elim
 rename_i hnone
 intro E h a w hN S next hnext
 have vm:=hdm E h a trivial (S.facts.rd m)
 have vk:=hdk E h a trivial (S.facts.rd k)
 have vx:=hdx E h a trivial (S.facts.rd x)
 simp only[Den] at vm vk
 obtain⟨hreal,l,ck,hb,hmp⟩:=S.mem.ok i _ hc
 have g1:=(jdZ (kd := .i64) (k:=n) hmp 0).2 hnone
 have hck:∀ (e:Bool) (w:World),(Instr.checkKey e 10000 kt (.int .i64 n)).run P w = .ok () w:=fun e w=>MapKept.run_checkKey hkt (k := .int .i64 n) (show IntKind.i64 = .i64 from rfl) e 9999
 have hrun:(execOp a.eval o).run P w = .ok .skip (w.putObj (E.blk i) (.map (l.push { key := .int .i64 n,val:=a.eval x,born:=ck }) (ck+1))):=by
  simp[execOp,ho,vm.1,vk.1,Instr.mapUpdate,run_underlying hm,MapKept.run_getObj_map hb,hck,MapKept.run_findKey hkt g1,MapKept.run_setObj_map _ hb,World.putObj]
 unfold Oper.wp
 rw[hrun]
 simp only[Oper.upon]
 have M':=S.ms.putMap (es':=es++[(n,dx)]) (l':=l.push { key := .int .i64 n,val:=a.eval x,born:=ck }) (ck':=ck+1) hc hreal hb (by
  rw[Array.toList_push]
  exact MpOk.snoc rfl (Den.pure hpure vx) hmp)
 refine hnext _ _ E h _ _ hh (jaB _ _ _) ?_
 rw[hd]
 refine M'.sat (a:=a.put none Go.undef) S.knows ?_
 obtain⟨ms,g0,g2,g3⟩:=S.side.marks
 refine⟨ms,g0,g2,fun b hb'=>?_⟩
 obtain⟨k1,k2,k3⟩:=g3 b hb'
 exact⟨k1,k2,by rw[World.putObj_heap_other (fun e=>by rw[e,hb] at k3;cases k3)];exact k3⟩
theorem Hv.p {KP:KPan}(h:Hv P N cx r Q o K L H):HvP P N cx r Q o KP K L H:=fun E hp a w hN S _ next hnext=>h E hp a w hN S next hnext
theorem op2_el {KP:KPan}(htb:TbOk P tb)(hin:InlOk P inl)(hyl:YlOk P cx yl)(hh:op2K P tb inl yl N cx.off o L H KP K):HvP P N cx r Q o KP K L H:=by
 have old:opK P tb N cx.off o L H K→HvP P N cx r Q o KP K L H:=fun hh=>(hv_of (jhx hh) (op_el htb hh)).p
 unfold op2K at hh
 split at hh
 case h_5=>exact old hh
 case h_3 t r ho=>
  cases r with
  | some r=>exact hh.elim
  | none=>
   obtain⟨d,hd,hh⟩:=jaP hh
   refine(hv_of (fun c e=>by rw[ho] at e;cases e) (jbA hd hh fun E h a w S=>⟨.map (some w.heap.size),w.alloc (.map #[] 0),0,0,?_,(Below.refl _ w).alloc (jjG _) _,?_,?_⟩)).p
   ·simp[execOp,ho,run_makeMap]
   ·refine⟨E.set_real _ _ _ _, #[],0,?_,rfl⟩
    rw[Env.set_blk]
    exact World.alloc_heap_new w _
   ·simp only[Den]
    exact⟨by rw[Env.set_blk],E.set_real _ _ _ _⟩
 case h_4 t m k x ho=>
  obtain⟨hd,hh⟩:=noneK_el hh
  exact(hv_of (fun c e=>by rw[ho] at e;cases e) (ins_el htb hd ho hh)).p
 case h_2 x ho=>exact fun E hp a w hN S hP next hnext=>jbE r (fun c e=>by rw[ho] at e;cases e) (raise_el ho hh E hp a w S (fun c L' H' h' w' hK S'=>hP c L' H' E h' a w' hK rfl S') next)
 rename_i c ho
 obtain⟨callee,args,ts⟩:=c
 cases callee with
 | value x=>
  dsimp only at hh
  have hz:=jat hh;clear hh;obtain⟨df,hh,hdf⟩:=hz
  split at hh
  ·rename_i i
   exact(yld_el hyl ho (fun E h a w S=>hdf E h a trivial (S.facts.rd x)) hh).p
  ·cases hh with
   | ext hh=>
    refine(hv_of (fun c e=>by rw[ho] at e;cases e) ?_).p
    obtain⟨L'',H',hK,hc⟩:=jiI (P:=P) (Q:=Q) (cx:=cx) ho (fun _ _ _ _ _ h=>h) (fun _ _ _ h=>absurd trivial h) hh
    intro E h a w hN S next hnext
    exact(hc E h a w hN S).1 trivial next fun h' a' w' hs hS=>hnext _ _ _ _ _ _ hK hs hS
   | inl hh=>exact inl_el hin hyl ho hh
   | len hh=>
    refine(hv_of (fun c e=>by rw[ho] at e;cases e) ?_).p
    obtain⟨L'',H',hK,hc⟩:=lend_el (P:=P) (Q:=Q) (cx:=cx) ho hh
    intro E h a w hN S next hnext
    exact hc E h a w hN S next fun h' a' w' hs hS=>hnext _ _ _ _ _ _ hK hs hS
   | pan hh=>exact fun E hp a w hN S hP next hnext=>jbE r (fun c e=>by rw[ho] at e;cases e) (pan_el ho hh E hp a w S (fun c L' H' h' w' hK S'=>hP c L' H' E h' a w' hK rfl S') next)
 | invoke r m=>exact old hh
 | builtin b=>exact old hh
def heavyOp:Op→Bool
 | .alloc _=>true
 | .box _ _=>true
 | .store _ _ _=>true
 | .buildSlice _ _ _=>true
 | .makeSlice _ _ _=>true
 | .call c=>match c.callee with
  | .builtin .append=>true
  | .builtin .copy=>true
  | .value (.func f)=>inlF.any (Nat.beq f)
  | _=>false
 | _=>false
inductive GrdK (c : Bool) (A B : Prop) : Prop where
  | yes (h : c = true) (a : A)
  | no (h : c = false) (b : B)
def skipK (N:Nat)(dst:Option Nat)(L:Sl)(K:Sl→Prop):Prop:=match dst with
 | none=>K L
 | some d=>ltK d N (K ((d,.any)::L))
def ops2K (P:Program)(tb:Tb)(inl:Inl)(yl:Yl)(N off:Nat)(all:List Oper)(KP:KPan):List Oper→Sl→Hp→K2→Prop
 | [],L,H,K=>K L H
 | o::rest,L,H,K=>match o.guard with
  | none=>op2K P tb inl yl N off o L H KP fun L H=>ops2K P tb inl yl N off all KP rest L H K
  | some (j,want)=>nthO all j fun oj=>someK oj.dst fun s=>lookK L s fun ds=>condK want ds fun c=>match heavyOp o.op with
   | true=>GrdK c (op2K P tb inl yl N off o L H KP fun L H=>ops2K P tb inl yl N off all KP rest L H K) (skipK N o.dst L fun L=>ops2K P tb inl yl N off all KP rest L H K)
   | false=>match o.op with
    | .call cl=>match cl.callee with
     | .value x=>callK P N (c=true) (.gd c) o.dst x cl.args.toList L H fun L H=>ops2K P tb inl yl N off all KP rest L H K
     | _=>someK o.dst fun d=>quiet tb (c=true) L H (fun r=>ltK d N (ops2K P tb inl yl N off all KP rest ((d,.gd c r)::L) H K)) o.op
    | _=>someK o.dst fun d=>quiet tb (c=true) L H (fun r=>ltK d N (ops2K P tb inl yl N off all KP rest ((d,.gd c r)::L) H K)) o.op
theorem jir {op:Op}(h:heavyOp op=true):(∀ c,op ≠ .defer c)∧(∀ cs b,op ≠ .select cs b):=by
 refine⟨fun c e=>?_,fun cs b e=>?_⟩<;>(subst e;cases h)
theorem jcx {g:Prop}{K:D→Prop}(h:quiet tb g L H K o.op):∀ c,o.op ≠ .defer c:=by
 intro c e
 rw[e] at h
 exact h.elim
theorem ja2 {KP:KPan}(htb:TbOk P tb)(hin:InlOk P inl)(hyl:YlOk P cx yl){all:List Oper} : ∀ {rest:List Oper} {L:Sl} {H:Hp} {K:K2},ops2K P tb inl yl N cx.off all KP rest L H K →
  ∀ {n:Nat},N≤n→(∀ c L' H' E' h' a' w',KP c L' H'→a'.tmps.size=n→Sat cx E' h' a' w' L' H'→Q (.panic c) a' w')→(∀ L' H' E' h' a' w',K L' H'→a'.tmps.size=n→Sat cx E' h' a' w' L' H'→Q .normal a' w') →
  ∀ E h a w,a.tmps.size=n→Sat cx E h a w L H→wpListIn (FR r) 0 P all.toArray Q rest a w
 | [],L,H,K,hh,n,hN,hP,hQ,E,h,a,w,hn,S=>by
  simp only[ops2K] at hh
  exact hQ L H E h a w hh hn S
 | o::rest,L,H,K,hh,n,hN,hP,hQ,E,h,a,w,hn,S=>by
  simp only[ops2K] at hh
  split at hh
  ·rename_i hg
   unfold wpListIn
   rw[if_pos (by simp[Region.wanted,hg])]
   refine op2_el htb hin hyl hh E h a w Jo S (fun c L' H' E' h' a' w' hK hs S'=>hP c L' H' E' h' a' w' hK Jo S') _ fun L' H' E' h' a' w' hK hs S'=>?_
   exact ja2 htb hin hyl hK hN hP hQ E' h' a' w' Jo S'
  ·rename_i j want hg
   obtain⟨oj,hj,hh⟩:=jee hh
   obtain⟨s,hs,hh⟩:=jaP hh
   rw[jbS] at hh
   obtain⟨c,hh,hc⟩:=jiF hh
   have hw:=jfV (a:=a) hg hj hs
   have hc':=hc E h _ (S.knows s)
   have quietCase:(someK o.dst fun d=>quiet tb (c=true) L H (fun r=>ltK d N (ops2K P tb inl yl N cx.off all KP rest ((d,.gd c r)::L) H K)) o.op)→wpListIn (FR r) 0 P all.toArray Q (o::rest) a w:=fun hh=>by
    obtain⟨d,hd,hh⟩:=jaP hh
    have hnd:=jcx hh
    obtain⟨r',hr,hv⟩:=jeD htb hh
    obtain⟨hlt,hK⟩:=jcJ hr
    unfold wpListIn
    by_cases hwt:Region.wanted o (yielded all.toArray a.tmps)=true
    ·rw[if_pos hwt]
     have hct:=hc'.2 (hw.1 hwt)
     obtain⟨v,h1,h2⟩:=hv E h a w S.facts hct
     refine jbE r hnd ?_
     unfold Oper.wp
     rw[h1]
     simp only[Oper.upon,hd]
     exact ja2 htb hin hyl hK hN hP hQ E h _ w (by rw[jaB];exact hn) (S.put Jo (by simp only[Den];exact⟨fun _=>h2,fun e=>by rw[hct] at e;cases e⟩))
    ·rw[if_neg hwt]
     have hct:c=false:=by
      cases hcc:c with
      | false=>rfl
      | true=>exact absurd (hw.2 (hc'.1 hcc)) hwt
     rw[hd]
     exact⟨fun _ _=>trivial,ja2 htb hin hyl hK hN hP hQ E h _ w (by rw[jaB];exact hn) (S.put Jo (by simp only[Den];exact⟨fun e=>absurd (hct.symm.trans e) Jd,fun _=>by trivial⟩))⟩
   split at hh
   ·unfold wpListIn
    cases hh with
    | yes hct hh=>
     rw[if_pos (hw.2 (hc'.1 hct))]
     refine op2_el htb hin hyl hh E h a w Jo S (fun c L' H' E' h' a' w' hK hs S'=>hP c L' H' E' h' a' w' hK Jo S') _ fun L' H' E' h' a' w' hK hs S'=>?_
     exact ja2 htb hin hyl hK hN hP hQ E' h' a' w' Jo S'
    | no hct hh=>
     have hwt:¬ Region.wanted o (yielded all.toArray a.tmps)=true:=fun hwt=>by
      have:=hc'.2 (hw.1 hwt)
      rw[hct] at this;cases this
     rw[if_neg hwt]
     refine⟨fun _ _=>trivial,?_⟩
     unfold skipK at hh
     cases hd:o.dst with
     | none=>
      rw[hd] at hh
      exact ja2 htb hin hyl hh hN hP hQ E h _ w (by rw[jaB];exact hn) S
     | some d=>
      rw[hd] at hh
      obtain⟨hlt,hK⟩:=jcJ hh
      exact ja2 htb hin hyl hK hN hP hQ E h _ w (by rw[jaB];exact hn) (S.put Jo (by simp only[Den]))
   split at hh
   ·rename_i cl ho
    obtain⟨callee,args,ts⟩:=cl
    dsimp only at hh
    split at hh
    ·obtain⟨L'',H',hK,hcl⟩:=jiI (P:=P) (Q:=Q) (cx:=cx) ho (fun _ _ _ _ hg hd=>by simp only[Den];exact⟨fun _=>hd,fun e=>by rw[hg] at e;cases e⟩)
      (fun _ _ _ hg=>by simp only[Den];exact⟨fun e=>absurd e hg,fun _=>by trivial⟩) hh
     obtain⟨hcl1,hcl2⟩:=hcl E h a w Jo S
     unfold wpListIn
     by_cases hwt:Region.wanted o (yielded all.toArray a.tmps)=true
     ·rw[if_pos hwt]
      have hct:=hc'.2 (hw.1 hwt)
      exact jbE r (fun c e=>by rw[ho] at e;cases e) (hcl1 hct _ fun h' a' w' hs' S'=>ja2 htb hin hyl hK hN hP hQ E h' a' w' Jo S')
     ·rw[if_neg hwt]
      have hct:¬ c=true:=fun hcc=>hwt (hw.2 (hc'.1 hcc))
      obtain⟨h',S'⟩:=hcl2 hct
      exact⟨fun _ _=>trivial,ja2 htb hin hyl hK hN hP hQ E h' _ w (by rw[jaB];exact hn) S'⟩
    ·exact quietCase hh
   ·exact quietCase hh
end
end Go.V
end
section
namespace Go.V
open Go Go.RowKit
def ja4 (o:Oper):List Nat:=o.after.toList.filterMap fun e=>match Region.binds .any e with|true=>some e.on|false=>none
mutual
inductive Plan where
  | done
  | take (i : Nat) (p : Plan)
  | ev (bs : Brs)
  | goto (k : Nat)
inductive Brs where
  | nil
  | cons (j : Nat) (pend : List Nat) (p : Plan) (bs : Brs)
end
structure Nd where
 rem:List Nat
 pend:List Nat
 plan:Plan
def Plan.isGo:Plan→Bool
 | .goto _=>true
 | _=>false
def eqNs:List Nat→List Nat→Bool
 | [],[]=>true
 | a::as,b::bs=>Nat.beq a b && eqNs as bs
 | _,_=>false
theorem eqNs_eq:∀ {as bs:List Nat},eqNs as bs=true→as=bs
 | [],[],_=>rfl
 | a::as,b::bs,h=>by
  simp only[eqNs,jjv] at h
  rw[Nat.eq_of_beq_eq_true h.1,eqNs_eq h.2]
 | [],_::_,h=>by simp[eqNs] at h
 | _::_,[],h=>by simp[eqNs] at h
def jfX:List Operand→List Nat
 | []=>[]
 | .tmp t::xs=>t::jfX xs
 | _::xs=>jfX xs
def looks (all : List Oper) (o : Oper) : List Nat := jfX o.op.operands.toList ++ (match o.guard with
  | some (g, _) => (match all[g]? with | some og => (match og.dst with | some d => [d] | none => []) | none => [])
  | none => [])
def ancGo:List Oper→List Nat→List Nat
 | [],acc=>acc
 | o::os,acc=>ancGo os (acc++[(ja4 o).foldl (fun s d=>s ||| (1 <<< d) ||| acc.getD d 0) 0])
inductive Anc (all : List Oper) : Nat → Nat → Prop where
  | one {i j : Nat} {o : Oper} (h : all[j]? = some o) (hd : i ∈ ja4 o) : Anc all j i
  | step {i j d : Nat} {o : Oper} (h : all[j]? = some o) (hd : d ∈ ja4 o) (ha : Anc all d i) : Anc all j i
theorem anc_fold {all:List Oper}{acc:List Nat}(hacc:∀ (j m:Nat),acc[j]? = some m → ∀ i,m.testBit i=true→Anc all j i){k:Nat}{o:Oper}(ho:all[k]? = some o) :
  ∀ (ds:List Nat) (s:Nat),(∀ d∈ds,d∈ja4 o)→(∀ i,s.testBit i=true→Anc all k i) → ∀ i,(ds.foldl (fun s d=>s ||| (1 <<< d) ||| acc.getD d 0) s).testBit i=true→Anc all k i
 | [],s,_,hs,i,hi=>hs i hi
 | d::ds,s,hds,hs,i,hi=>by
  refine anc_fold hacc ho ds _ (fun x hx=>hds x (by simp[hx])) (fun x hx=>?_) i hi
  rw[Nat.testBit_or,Nat.testBit_or] at hx
  simp only[Bool.or_eq_true] at hx
  rcases hx with(hx|hx)|hx
  ·exact hs x hx
  ·rw[Nat.testBit_shiftLeft] at hx
   simp only[jjv,decide_eq_true_eq] at hx
   have:x=d:=by
    have h2:=hx.2
    rw[Nat.testBit_one_eq_true_iff_self_eq_zero] at h2
    omega
   subst this
   exact .one ho (hds x Js)
  ·cases hd:acc[d]? with
   | none=>rw[jj8,hd] at hx;simp at hx
   | some m=>
    rw[jj8,hd] at hx
    exact .step ho (hds d Js) (hacc d m hd x hx)
theorem ancGo_ok {all:List Oper} : ∀ (os:List Oper) (acc:List Nat) (k:Nat),k=acc.length→all.drop k=os→(∀ (j m:Nat),acc[j]? = some m → ∀ i,m.testBit i=true→Anc all j i) →
  ∀ (j m:Nat),(ancGo os acc)[j]? = some m → ∀ i,m.testBit i=true→Anc all j i
 | [],acc,k,_,_,hacc,j,m,hj,i,hi=>hacc j m hj i hi
 | o::os,acc,k,hk,hdr,hacc,j,m,hj,i,hi=>by
  have ho:all[k]? = some o:=by
   have:=congrArg (fun l=>l[0]?) hdr
   simpa using this
  refine ancGo_ok os _ (k+1) (by simp[hk]) ?_ ?_ j m hj i hi
  ·rw[← List.drop_drop,hdr];rfl
  ·intro j' m' hj' i' hi'
   by_cases hlt:j'<acc.length
   ·rw[jkg hlt] at hj'
    exact hacc j' m' hj' i' hi'
   ·rw[jkp Jo] at hj'
    have:j'-acc.length=0:=by
     have:=(jkh.1 hj').1
     simp at this;omega
    rw[this] at hj'
    simp at hj'
    subst hj'
    have:j'=k:=Jo
    subst this
    exact anc_fold hacc ho (ja4 o) 0 (fun _ h=>h) (fun i h=>by simp at h) i' hi'
def ancs (all:List Oper):List Nat:=ancGo all []
theorem ancs_ok {all:List Oper}{j i:Nat}(h:((ancs all).getD j 0).testBit i=true):Anc all j i:=by
 cases hd:(ancs all)[j]? with
 | none=>rw[jj8,hd] at h;simp at h
 | some m=>
  rw[jj8,hd] at h
  exact ancGo_ok all [] 0 rfl Js Js j m hd i h
def memB (i:Nat)(l:List Nat):Bool:=l.any (Nat.beq i)
theorem jcC {i:Nat}{l:List Nat} : memB i l=true↔i∈l:=by
 simp only[memB,List.any_eq_true]
 constructor
 ·rintro⟨x,hx,h⟩;rw[jae h];exact hx
 ·intro h;exact⟨i,h,Nat.beq_refl i⟩
def ssaB (all:List Oper)(as:List Nat)(i:Nat):Bool:=match all[i]? with
 | none=>false
 | some o=>match o.dst with
  | none=>false
  | some d => !memB d (looks all o) && all.zipIdx.all fun (oj,j)=>Nat.beq j i || !(memB d (looks all oj) || (match oj.dst with|some d'=>Nat.beq d d'|none=>false)) || (as.getD j 0).testBit i
mutual
def planB (all : List Oper) (as : List Nat) (ns : List Nd) : List Nat → List Nat → Plan → Bool
  | rem, _, .done => rem.isEmpty
  | rem, pend, .take i p => memB i rem && ssaB all as i && (match all[i]? with
      | none => false
      | some o => (ja4 o).all (fun d => !memB d rem)) && planB all as ns (rem.filter fun j => !Nat.beq j i) (i :: pend) p
  | rem, pend, .ev bs => !rem.isEmpty && rem.all (fun i => jgn i bs || (match all[i]? with
      | none => true
      | some o => (ja4 o).any (fun d => memB d rem))) && brsB all as ns rem pend bs
  | rem, pend, .goto k => match ns[k]? with
    | none => false
    | some nd => eqNs rem nd.rem && pend.all (fun q => memB q nd.pend)
def jgn (i : Nat) : Brs → Bool
  | .nil => false
  | .cons j _ _ bs => Nat.beq i j || jgn i bs
def brsB (all : List Oper) (as : List Nat) (ns : List Nd) : List Nat → List Nat → Brs → Bool
  | _, _, .nil => true
  | rem, pend, .cons j pend' p bs => memB j rem && pend.all (fun q => memB q pend' || (as.getD j 0).testBit q) && planB all as ns (rem.filter fun i => !Nat.beq i j) pend' p && brsB all as ns rem pend bs
end
def textB (all:List Oper):Bool:=all.zipIdx.all fun (o,i)=>(ja4 o).all (fun d=>Nat.blt d i)
structure PlanOk (P:Program)(all:List Oper)(ns:List Nd)(p:Plan):Prop where
 mixed:P.follows .mixedOrders=true
 text:textB all=true
 plan:planB all (ancs all) ns (List.range all.length) [] p=true
 nds:ns.all (fun nd => !nd.plan.isGo && planB all (ancs all) ns nd.rem nd.pend nd.plan)=true
structure Same (r d:D):Prop where
 eq:r=d
def restrK:List Nat→Sl→(Sl→Prop)→Prop
 | [],_,K=>K []
 | t::ts,L,K=>lookK L t fun d=>restrK ts L fun R=>K ((t,d)::R)
def restr:List Nat→Sl→Sl
 | [],_=>[]
 | t::ts,L=>(t,look L t)::restr ts L
theorem restrK_eq (ts:List Nat)(L:Sl)(K:Sl→Prop):restrK ts L K=K (restr ts L):=by
 induction ts generalizing K with
 | nil=>rfl
 | cons t ts ih=>simp only[restrK,restr,jbS,ih]
theorem look_restr {ts:List Nat}{L:Sl}{t:Nat} : look (restr ts L) t=if t∈ts then look L t else .any:=by
 induction ts with
 | nil=>simp[restr,look]
 | cons s ts ih=>
  rw[restr,jaI,ih]
  by_cases h:s=t
  ·subst h;simp
  ·have h':¬ t=s:=fun e=>h e.symm
   simp[h,h']
def aheadK (tb:Tb)(all:List Oper)(o:Oper)(L:Sl)(H:Hp)(K:D→Prop):Prop:=restrK (looks all o) L fun R=>match o.guard with
 | none=>quiet tb True R H K o.op
 | some (j,want)=>nthO all j fun oj=>someK oj.dst fun s=>lookK R s fun ds=>condK want ds fun c=>quiet tb (c=true) R H (fun r=>K (.gd c r)) o.op
def jby (tb:Tb)(all:List Oper):List Nat→Sl→Hp→Prop→Prop
 | [],_,_,K=>K
 | q::qs,L,H,K=>(nthO all q fun o=>someK o.dst fun d=>lookK L d fun D=>aheadK tb all o L H fun r=>Same r D)∧jby tb all qs L H K
def isDst:List Oper→Nat→Bool
 | [],_=>false
 | o::os,t=>match o.dst with
  | some d=>match Nat.beq d t with|true=>true|false=>isDst os t
  | none=>isDst os t
def keep (all:List Oper):Sl→Sl
 | []=>[]
 | (t,d)::L=>match isDst all t with|true=>keep all L|false=>(t,d)::keep all L
def keepK (all:List Oper):Sl→(Sl→Prop)→Prop
 | [],K=>K []
 | (t,d)::L,K=>match isDst all t with|true=>keepK all L K|false=>keepK all L fun L'=>K ((t,d)::L')
theorem keepK_eq (all:List Oper)(L:Sl)(K:Sl→Prop):keepK all L K=K (keep all L):=by
 induction L generalizing K with
 | nil=>rfl
 | cons x L ih=>
  obtain⟨t,d⟩:=x
  simp only[keepK,keep]
  cases isDst all t<;>simp[ih]
theorem look_keep (all:List Oper)(L:Sl)(t:Nat):look (keep all L) t = .any∨(isDst all t=false∧look (keep all L) t=look L t):=by
 induction L with
 | nil=>exact .inl rfl
 | cons x L ih=>
  obtain⟨s,d⟩:=x
  simp only[keep]
  cases h:isDst all s with
  | true=>
   simp only
   rcases ih with ih|⟨h1,h2⟩
   ·exact .inl ih
   ·refine .inr ⟨h1,?_⟩
    rw[jaI,if_neg (fun e=>by subst e;rw[h] at h1;cases h1)]
    exact h2
  | false=>
   simp only
   rw[jaI,jaI]
   by_cases e:s=t
   ·subst e;exact .inr ⟨h,Js⟩
   ·rw[if_neg e,if_neg e];exact ih
theorem isDst_spec {all:List Oper}{t:Nat}(h:isDst all t=false):∀ (i:Nat) o,all[i]? = some o→o.dst≠some t:=by
 induction all with
 | nil=>intro i o ho;simp at ho
 | cons x all ih=>
  intro i o ho e
  unfold isDst at h
  cases i with
  | zero=>
   simp at ho;subst ho
   rw[e] at h;simp[Nat.beq_refl] at h
  | succ i=>
   refine ih ?_ i o (by simpa using ho) e
   split at h
   ·split at h
    ·cases h
    ·exact h
   ·exact h
mutual
def drawK (P:Program)(tb:Tb)(inl:Inl)(yl:Yl)(N off:Nat)(all:List Oper)(KP:KPan)(gt:Nat→Sl→Hp→Prop):Plan→Sl→Hp→K2→Prop
 | .done,L,H,K=>K L H
 | .take i p,L,H,K=>nthO all i fun o=>someK o.dst fun d=>aheadK tb all o L H fun D=>ltK d N (drawK P tb inl yl N off all KP gt p ((d,D)::L) H K)
 | .ev bs,L,H,K=>jfA P tb inl yl N off all KP gt bs L H K
 | .goto k,L,H,_=>gt k L H
def jfA (P:Program)(tb:Tb)(inl:Inl)(yl:Yl)(N off:Nat)(all:List Oper)(KP:KPan)(gt:Nat→Sl→Hp→Prop):Brs→Sl→Hp→K2→Prop
 | .nil,_,_,_=>True
 | .cons j pend p bs,L,H,K=>(nthO all j fun o=>ops2K P tb inl yl N off all (fun c L H=>keepK all L fun L=>KP c L H) [o] L H fun L' H'=>jby tb all pend L' H' (drawK P tb inl yl N off all KP gt p L' H' K))∧jfA P tb inl yl N off all KP gt bs L H K
end
end Go.V
end
section
namespace Go.V
open Go Go.RowKit
section
variable {P : Program} {tb : Tb} {inl : Inl} {yl : Yl} {N n : Nat} {cx : Cx} {r : Option Nat} {Q : Exit → Act → World → Prop} {all : List Oper} {L : Sl} {H : Hp}
def Ahead (P:Program)(all:List Oper)(o:Oper)(L:Sl)(H:Hp)(D:D):Prop:=
 (∀ c,o.op ≠ .defer c)∧(∀ cs b,o.op ≠ .select cs b) ∧
 ∀ E h (a:Act) w,(∀ t∈looks all o,Den E h (look L t) (a.tmps.getD t Go.undef))→(∀ i c,lookH H i=some c→ChunkOk E h w i c)→Agree h w →
  ∃ v,Den E h D v∧((Region.wanted o (yielded all.toArray a.tmps)=true∧(execOp a.eval o).run P w = .ok (.value v) w)∨(Region.wanted o (yielded all.toArray a.tmps)=false∧v=Go.undef))
theorem jcU {g:Prop}{o:Oper}{K:D→Prop}(h:quiet tb g L H K o.op):∀ cs b,o.op ≠ .select cs b:=by
 intro c b e
 rw[e] at h
 exact h.elim
theorem ahead_el (htb:TbOk P tb){o:Oper}{K:D→Prop}(hh:aheadK tb all o L H K):∃ d,K d∧Ahead P all o L H d:=by
 unfold aheadK at hh
 rw[restrK_eq] at hh
 have facts:∀ (E:Env) (h:Pub) (a:Act) (w:World),(∀ t∈looks all o,Den E h (look L t) (a.tmps.getD t Go.undef))→(∀ i c,lookH H i=some c→ChunkOk E h w i c)→Agree h w→Facts E h a w (restr (looks all o) L) H:=
  fun E h a w h1 h2 h3=>⟨fun t=>by
   rw[look_restr]
   split
   ·rename_i ht;exact h1 t ht
   ·simp[Den],h2,h3⟩
 split at hh
 ·rename_i hg
  have hnd:=jcx hh
  have hns:=jcU hh
  obtain⟨d,hK,hv⟩:=jeD htb hh
  refine⟨d,hK,hnd,hns,fun E h a w h1 h2 h3=>?_⟩
  obtain⟨v,h4,h5⟩:=hv E h a w (facts E h a w h1 h2 h3) trivial
  exact⟨v,h5,.inl ⟨by simp[Region.wanted,hg],h4⟩⟩
 ·rename_i j want hg
  obtain⟨oj,hj,hh⟩:=jee hh
  obtain⟨s,hs,hh⟩:=jaP hh
  rw[jbS] at hh
  obtain⟨c,hh,hc⟩:=jiF hh
  have hnd:=jcx hh
  have hns:=jcU hh
  obtain⟨d,hK,hv⟩:=jeD htb hh
  refine⟨_,hK,hnd,hns,fun E h a w h1 h2 h3=>?_⟩
  have F:=facts E h a w h1 h2 h3
  have hw:=jfV (a:=a) hg hj hs
  have hc':=hc E h _ (F.knows s)
  cases hwt:Region.wanted o (yielded all.toArray a.tmps) with
  | true=>
   have hct:=hc'.2 (hw.1 hwt)
   obtain⟨v,h4,h5⟩:=hv E h a w F hct
   exact⟨v,by simp only[Den];exact⟨fun _=>h5,fun e=>by rw[hct] at e;cases e⟩,.inl ⟨rfl,h4⟩⟩
  | false=>
   have hct:c=false:=by
    cases hcc:c with
    | false=>rfl
    | true=>exact absurd (hw.2 (hc'.1 hcc)) (by rw[hwt];decide)
   exact⟨Go.undef,by simp only[Den];exact⟨fun e=>absurd (hct.symm.trans e) Jd,fun _=>by trivial⟩,.inr ⟨rfl,rfl⟩⟩
theorem mem_tmpsOf {t:Nat}{xs:List Operand} : t∈jfX xs ↔ .tmp t∈xs:=by
 induction xs with
 | nil=>simp[jfX]
 | cons x xs ih=>cases x<;>simp[jfX,ih]
theorem eval_same {a b:Act}{o:Oper}(h:∀ t∈looks all o,b.tmps.getD t Go.undef=a.tmps.getD t Go.undef)(hs:∀ cs b,o.op ≠ .select cs b):execOp b.eval o=execOp a.eval o:=by
 refine execOp_congr o hs fun x hx=>?_
 cases x with
 | tmp t=>
  have:=h t (List.mem_append_left _ (mem_tmpsOf.2 (by simpa using hx)))
  simpa [Act.eval] using this
 | _=>rfl
theorem jhW {a b:Act}{o:Oper}(h:∀ t∈looks all o,b.tmps.getD t Go.undef=a.tmps.getD t Go.undef):Region.wanted o (yielded all.toArray b.tmps)=Region.wanted o (yielded all.toArray a.tmps):=by
 unfold Region.wanted
 cases hg:o.guard with
 | none=>rfl
 | some g=>
  obtain⟨j,want⟩:=g
  have:yielded all.toArray b.tmps j=yielded all.toArray a.tmps j:=by
   simp only[yielded,jkr]
   cases hj:all[j]? with
   | none=>rfl
   | some oj=>
    simp only[Option.bind_some]
    cases hd:oj.dst with
    | none=>rfl
    | some d=>
     simp only[Option.bind_some]
     have:=h d (List.mem_append_right _ (by simp[hg,hj,hd]))
     simp only[Array.getD_eq_getD_getElem?] at this
     cases hb:b.tmps[d]? <;> cases ha:a.tmps[d]? <;> simp only[hb,ha,Option.getD_some,Option.getD_none] at this ⊢
     ·subst this;rfl
     ·subst this;rfl
     ·subst this;rfl
  simp only[this]
structure Inv (P:Program)(all:List Oper)(n:Nat)(cx:Cx)(listed:Array Bool)(rem pend f:List Nat)(E:Env)(h:Pub)(L:Sl)(H:Hp)(a b:Act)(w:World):Prop where
 size:listed.size=all.length
 part:∀ i,i<all.length→(listed.getD i true=false↔i∈rem∨i∈f)
 disj:∀ i∈f,i∉rem
 sub:∀ i∈f,i∈pend
 rlt:∀ i∈rem,i<all.length
 flt:∀ i∈f,i<all.length
 closed:∀ i o,all[i]? = some o→listed.getD i true=true → ∀ d∈ja4 o,listed.getD d true=true
 fdeps:∀ i∈f, ∀ o,all[i]? = some o → ∀ d∈ja4 o,d∉rem
 ssa:∀ i∈f,ssaB all (ancs all) i=true
 ahead:∀ i∈f, ∃ o d,all[i]? = some o∧o.dst=some d∧d<n∧Ahead P all o L H (look L d)
 sat:Sat cx E h b w L H
 asize:a.tmps.size=n
 bsize:b.tmps.size=n
 defs:b.defers=a.defers
 same:∀ t,(∀ i∈f, ∀ o,all[i]? = some o→o.dst≠some t)→b.tmps.getD t Go.undef=a.tmps.getD t Go.undef
theorem Inv.anc_listed {listed:Array Bool}{rem pend f:List Nat}{E:Env}{h:Pub}{a b:Act}{w:World}(I:Inv P all n cx listed rem pend f E h L H a b w){j i:Nat}(ha:Anc all j i) :
  (∀ o,all[j]? = some o → ∀ d∈ja4 o,listed.getD d true=true)→listed.getD i true=true:=by
 induction ha with
 | one ho hd=>exact fun hl=>hl _ ho _ hd
 | step ho hd _ ih=>exact fun hl=>ih fun o' ho'=>I.closed _ _ ho' (hl _ ho _ hd)
theorem Inv.anc_rem {listed:Array Bool}{rem pend f:List Nat}{E:Env}{h:Pub}{a b:Act}{w:World}(I:Inv P all n cx listed rem pend f E h L H a b w)(ht:textB all=true){j i:Nat}(ha:Anc all j i) :
  (∀ o,all[j]? = some o → ∀ d∈ja4 o,d∉rem)→i∉rem:=by
 have hdlt:∀ {k:Nat} {o:Oper},all[k]? = some o → ∀ d∈ja4 o,d<all.length:=by
  intro k o hk d hd
  simp only[textB,jj7] at ht
  have hm:(o,k)∈all.zipIdx:=by rw[List.mem_zipIdx_iff_getElem?];exact hk
  have:=ht _ hm
  simp only[jj7] at this
  have h1:=jfM (this d hd)
  have h2:=(jkh.1 hk).1
  omega
 induction ha with
 | one ho hd=>exact fun hl=>hl _ ho _ hd
 | @step i j d o ho hd _ ih=>
  intro hl
  refine ih fun o' ho' d' hd' hr=>?_
  have hdr:=hl _ ho _ hd
  have hdl:=hdlt ho d hd
  by_cases hlist:listed.getD d true=true
  ·have h1:=I.closed d o' ho' hlist d' hd'
   have h2:=(I.part d' (hdlt ho' d' hd')).2 (.inl hr)
   rw[h1] at h2;cases h2
  ·have hf:d∈f:=by
    have:=(I.part d hdl).1 (by simpa using hlist)
    rcases this with h1|h1
    ·exact absurd h1 hdr
    ·exact h1
   exact I.fdeps d hf o' ho' d' hd' hr
theorem ssa_spec {i:Nat}(hs:ssaB all (ancs all) i=true):∃ o d,all[i]? = some o∧o.dst=some d∧d∉looks all o ∧ ∀ j oj,all[j]? = some oj→j≠i→(d∈looks all oj∨oj.dst=some d)→Anc all j i:=by
 unfold ssaB at hs
 split at hs
 ·cases hs
 ·rename_i o ho
  split at hs
  ·cases hs
  ·rename_i d hd
   simp only[jjv,jj7,Bool.not_eq_true'] at hs
   refine⟨o,d,ho,hd,fun hm=>(by rw[jcC.2 hm] at hs;exact absurd hs.1 Jd),fun j oj hj hne hn=>?_⟩
   have hm:(oj,j)∈all.zipIdx:=by rw[List.mem_zipIdx_iff_getElem?];exact hj
   have:=hs.2 _ hm
   simp only[Bool.or_eq_true,Bool.not_eq_true',jjP] at this
   rcases this with(h1|h1)|h1
   ·exact absurd (jae h1) hne
   ·rcases hn with hn|hn
    ·rw[jcC.2 hn] at h1;cases h1.1
    ·rw[hn] at h1;simp at h1
   ·exact ancs_ok h1
end
end Go.V
end
section
namespace Go.V
open Go Go.RowKit
section
variable {P : Program} {tb : Tb} {inl : Inl} {yl : Yl} {N n : Nat} {cx : Cx} {r : Option Nat} {Q : Exit → Act → World → Prop} {all : List Oper} {L : Sl} {H : Hp}
  {listed : Array Bool} {rem pend f : List Nat} {E : Env} {h : Pub} {a b : Act} {w : World}
theorem jdX (listed:Array Bool)(i j:Nat)(d:Bool):(listed.setIfInBounds i true).getD j d=if i=j∧i<listed.size then true else listed.getD j d:=by
 simp only[Array.getD_eq_getD_getElem?,Array.getElem?_setIfInBounds]
 by_cases h:i=j
 ·subst h
  by_cases h2:i<listed.size<;>simp[h2]
 ·simp[h]
theorem Ahead.congr {o:Oper}{L':Sl}{D:D}(hA:Ahead P all o L H D)(hl:∀ t∈looks all o,look L' t=look L t):Ahead P all o L' H D:=
 ⟨hA.1,hA.2.1,fun E h a w h1 h2 h3=>hA.2.2 E h a w (fun t ht=>by rw[← hl t ht];exact h1 t ht) h2 h3⟩
theorem Inv.looks_same (I:Inv P all n cx listed rem pend f E h L H a b w){j:Nat}{o:Oper}(ho:all[j]? = some o)(hready:∀ d∈ja4 o,listed.getD d true=true) :
  ∀ t∈looks all o,b.tmps.getD t Go.undef=a.tmps.getD t Go.undef:=by
 intro t ht
 refine I.same t fun i hi oi hoi hdi=>?_
 obtain⟨o',d',ho',hd',hnl,hs⟩:=ssa_spec (I.ssa i hi)
 rw[hoi] at ho';cases ho'
 rw[hdi] at hd';cases hd'
 by_cases e:j=i
 ·subst e;rw[ho] at hoi;cases hoi;exact hnl ht
 ·have hl:=I.anc_listed (hs j o ho e (.inl ht)) (fun o' ho'=>by rw[ho] at ho';cases ho';exact hready)
  have:=(I.part i (I.flt i hi)).2 (.inr hi)
  rw[hl] at this;cases this
theorem Inv.stepA (I : Inv P all n cx listed rem pend f E h L H a b w) {j : Nat} (hj : j ∈ f) (hready : ∀ o, all[j]? = some o → ∀ d ∈ ja4 o, listed.getD d true = true)
    {Kf : Act → World → Prop} (hK : ∀ a' b', Inv P all n cx (listed.setIfInBounds j true) rem pend (f.filter fun i => !Nat.beq i j) E h L H a' b' w → Kf a' w) : wpOpIn (FR r) 0 P all.toArray Q j Kf a w := by
  obtain ⟨o, d, ho, hd, hdn, hA⟩ := I.ahead j hj
  have hls := I.looks_same ho (hready o ho)
  obtain ⟨v, hden, hv⟩ := hA.2.2 E h a w (fun t ht => by rw [← hls t ht]; exact I.sat.knows t) I.sat.facts.chunk I.sat.agree
  have hjlt := I.flt j hj
  have fin : Kf (a.put o.dst v) w := by
    rw [hd]
    refine hK _ (b.put (some d) v) ?_
    refine { size := by simp [I.size], part := fun i hi => ?_, disj := fun i hi => I.disj i (jkv.1 hi).1, sub := fun i hi => I.sub i (jkv.1 hi).1, rlt := I.rlt, flt := fun i hi => I.flt i (jkv.1 hi).1,
             closed := fun i oi hoi hl dd hdd => ?_, fdeps := fun i hi => I.fdeps i (jkv.1 hi).1, ssa := fun i hi => I.ssa i (jkv.1 hi).1, ahead := fun i hi => I.ahead i (jkv.1 hi).1,
             sat := ?_, asize := by rw [jaB]; exact I.asize, bsize := by rw [jaB]; exact I.bsize, defs := I.defs, same := fun t ht => ?_ }
    · rw [jdX, I.size]
      by_cases e : j = i
      · subst e
        simp only [hjlt, and_self, if_true, jkv, Nat.beq_refl]
        constructor
        · intro h; cases h
        · rintro (h1 | h1)
          · exact absurd h1 (I.disj j hj)
          · simp at h1
      · rw [if_neg (fun x => e x.1), I.part i hi, jkv]
        have : Nat.beq i j = false := by
          cases hb : Nat.beq i j with
          | false => rfl
          | true => exact absurd (jae hb).symm e
        simp [this]
    · rw [jdX] at hl ⊢
      by_cases e : j = i
      · subst e
        have := hready oi hoi dd hdd
        rw [this]; simp
      · rw [if_neg (fun x => e x.1)] at hl
        have := I.closed i oi hoi hl dd hdd
        rw [this]; simp
    · have S' := I.sat.put (d := d) (r := look L d) (v := v) (by rw [I.bsize]; exact hdn) hden
      refine ⟨fun t => ?_, S'.mem, S'.agree, S'.since, S'.low, S'.side⟩
      have := S'.knows t
      rw [jaI] at this
      by_cases e : d = t
      · subst e; rw [if_pos rfl] at this; exact this
      · rw [if_neg e] at this; exact this
    · rw [jdf, jdf, I.asize, I.bsize]
      by_cases e : d = t ∧ d < n
      · rw [if_pos e, if_pos e]
      · rw [if_neg e, if_neg e]
        refine I.same t fun i hi oi hoi hdi => ?_
        by_cases ej : i = j
        · subst ej; rw [ho] at hoi; cases hoi; rw [hd] at hdi; cases hdi; exact e ⟨rfl, hdn⟩
        · refine ht i (jkv.2 ⟨hi, ?_⟩) oi hoi hdi
          have : Nat.beq i j = false := by
            cases hb : Nat.beq i j with
            | false => rfl
            | true => exact absurd (jae hb) ej
          simp [this]
  unfold wpOpIn
  simp only [jkr, ho]
  rcases hv with ⟨hw, hrun⟩ | ⟨hw, rfl⟩
  · rw [if_pos hw]
    refine jbE r hA.1 ?_
    unfold Oper.wp
    rw [hrun]
    simp only [Oper.upon]
    exact fin
  · rw [if_neg (by rw [hw]; decide)]
    exact ⟨fun _ _ => trivial, fin⟩
theorem Inv.take (I:Inv P all n cx listed rem pend f E h L H a b w)(ht:textB all=true){i:Nat}(hi:i∈rem)(hs:ssaB all (ancs all) i=true){o:Oper}{d:Nat}(ho:all[i]? = some o)(hd:o.dst=some d)(hdn:d<n)
  (hdeps:∀ x∈ja4 o,x∉rem) {D:D} (hA:Ahead P all o L H D) :
  ∃ b',Inv P all n cx listed (rem.filter fun j => !Nat.beq j i) (i::pend) (i::f) E h ((d,D)::L) H a b' w:=by
 obtain⟨v,hden,_⟩:=hA.2.2 E h b w (fun t _=>I.sat.knows t) I.sat.facts.chunk I.sat.agree
 obtain⟨o',d',ho',hd',hnl,hss⟩:=ssa_spec hs
 rw[ho] at ho';cases ho'
 rw[hd] at hd';cases hd'
 have nb:∀ j,j≠i→Nat.beq j i=false:=fun j e=>by
  cases hb:Nat.beq j i with
  | false=>rfl
  | true=>exact absurd (jae hb) e
 have hif:i∉f:=fun hf=>I.disj i hf hi
 refine⟨b.put (some d) v, { size:=I.size,part:=fun k hk=>?_,disj:=fun k hk hr=>?_,sub:=fun k hk=>?_,rlt:=fun k hk=>I.rlt k (jkv.1 hk).1,flt:=fun k hk=>?_,closed:=I.closed,fdeps:=fun k hk ok hok x hx hr=>?_,ssa:=fun k hk=>?_,ahead:=fun k hk=>?_,sat:=I.sat.put (by rw[I.bsize];exact hdn) hden,asize:=I.asize,bsize:=by rw[jaB];exact I.bsize,defs:=I.defs,same:=fun t hnt=>?_ }⟩
 ·rw[I.part k hk,jkv,jka]
  by_cases e:k=i
  ·subst e;simp[hi]
  ·simp[nb k e,e]
 ·rcases jka.1 hk with rfl|hk
  ·have:=(jkv.1 hr).2;rw[Nat.beq_refl] at this;cases this
  ·exact I.disj k hk (jkv.1 hr).1
 ·rcases jka.1 hk with rfl|hk
  ·simp
  ·exact List.mem_cons_of_mem _ (I.sub k hk)
 ·rcases jka.1 hk with rfl|hk
  ·exact I.rlt _ hi
  ·exact I.flt k hk
 ·rcases jka.1 hk with rfl|hk
  ·rw[ho] at hok;cases hok;exact hdeps x hx (jkv.1 hr).1
  ·exact I.fdeps k hk ok hok x hx (jkv.1 hr).1
 ·rcases jka.1 hk with rfl|hk
  ·exact hs
  ·exact I.ssa k hk
 ·rcases jka.1 hk with rfl|hk
  ·refine⟨o,d,ho,hd,hdn,?_⟩
   rw[jaI,if_pos rfl]
   exact hA.congr fun t htt=>by rw[jaI,if_neg (fun e=>hnl (by rw[e];exact htt))]
  ·obtain⟨oq,dq,hoq,hdq,hdqn,hAq⟩:=I.ahead k hk
   have hki:k≠i:=fun e=>hif (e▸hk)
   have far:¬ (d∈looks all oq∨oq.dst=some d):=fun hn=>by
    exact I.anc_rem ht (hss k oq hoq hki hn) (fun o' ho' x hx=>by exact I.fdeps k hk o' ho' x hx) hi
   refine⟨oq,dq,hoq,hdq,hdqn,?_⟩
   rw[jaI,if_neg (fun e=>far (.inr (by rw[e];exact hdq)))]
   exact hAq.congr fun t htt=>by rw[jaI,if_neg (fun e=>far (.inl (by rw[e];exact htt)))]
 ·have hdt:d≠t:=fun e=>hnt i Js o ho (by rw[hd,e])
  rw[jdf,if_neg (fun x=>hdt x.1)]
  exact I.same t fun k hk=>hnt k (List.mem_cons_of_mem _ hk)
end
end Go.V
end
section
namespace Go.V
open Go Go.RowKit
theorem upon_move {F:Fence}{n:Nat}{P:Program}{o:Oper}{a b:Act}{next1 next2:Act→World→Prop}{Q1 Q2:Exit→Act→World→Prop}{res:Result Next}(h:o.uponIn F n P b next1 Q1 res)
  (h1:∀ v w,next1 (b.put o.dst v) w→next2 (a.put o.dst v) w) (h2:∀ d v w,next1 ({ b with defers:=d::b.defers }.put o.dst v) w→next2 ({ a with defers:=d::a.defers }.put o.dst v) w) (hq:∀ e b w,Q1 e b w→e = .normal ∨ ∃ c,e = .panic c) (hp:∀ c w,Q1 (.panic c) b w→Q2 (.panic c) a w):o.uponIn F n P a next2 Q2 res:=by
 have ho:LetsOut Q1→False:=fun ⟨a,w,hx⟩=>by rcases hq _ _ _ hx with e|⟨c,e⟩<;>cases e
 cases res with
 | ok y w'=>
  cases y<;>simp only[Oper.uponIn] at h ⊢
  case value v=>exact h1 _ _ h
  case skip=>exact h1 _ _ h
  case defer d=>exact h2 _ _ _ h
  case enter f args=>
   exact⟨h.1,CallsIn.mono h.2 fun e w'' he=>by cases e<;>first|exact h1 _ _ he|exact hp _ _ he|exact(ho he).elim⟩
  case row row args=>exact⟨h.1,RowsIn.mono h.2 fun v w'' he=>h1 _ _ he⟩
  case round l f tmps assign body=>
   exact⟨h.1,RoundIn.mono h.2 fun e w'' he=>by cases e<;>first|exact h1 _ _ he|exact hp _ _ he|exact(ho he).elim⟩
 | halt y w'=>
  cases y<;>simp only[Oper.uponIn] at h ⊢
  all_goals first|exact hp _ _ h|exact h
section
variable {P : Program} {tb : Tb} {inl : Inl} {yl : Yl} {N n : Nat} {cx : Cx} {r : Option Nat} {Q : Exit → Act → World → Prop} {all : List Oper} {L : Sl} {H : Hp}
  {listed : Array Bool} {rem pend f : List Nat} {E : Env} {h : Pub} {a b : Act} {w : World}
theorem opK_select {off:Nat}{o:Oper}{K:K2}(h:opK P tb N off o L H K):∀ cs b,o.op ≠ .select cs b:=by
 intro c b e
 unfold opK at h
 rw[e] at h
 obtain⟨d,_,h⟩:=jaP h
 exact h.elim
theorem ops2_plain {off:Nat}{o:Oper}{KP:KPan}{K:K2}(hh:ops2K P tb inl yl N off all KP [o] L H K):(∀ c,o.op ≠ .defer c)∧(∀ cs b,o.op ≠ .select cs b):=by
 simp only[ops2K] at hh
 have ofCall:∀ {c:Call},o.op = .call c→(∀ c,o.op ≠ .defer c)∧(∀ cs b,o.op ≠ .select cs b):=fun hc=>⟨fun c e=>(by rw[hc] at e;cases e),fun cs b e=>(by rw[hc] at e;cases e)⟩
 split at hh
 ·unfold op2K at hh
  split at hh
  ·rename_i c ho;exact ofCall ho
  ·rename_i x ho;exact⟨fun c e=>(by rw[ho] at e;cases e),fun cs b e=>(by rw[ho] at e;cases e)⟩
  ·rename_i t r ho;exact⟨fun c e=>(by rw[ho] at e;cases e),fun cs b e=>(by rw[ho] at e;cases e)⟩
  ·rename_i t m k x ho;exact⟨fun c e=>(by rw[ho] at e;cases e),fun cs b e=>(by rw[ho] at e;cases e)⟩
  ·exact⟨jhx hh,opK_select hh⟩
 ·obtain⟨oj,hj,hh⟩:=jee hh
  obtain⟨s,hs,hh⟩:=jaP hh
  rw[jbS] at hh
  obtain⟨c,hh,hc⟩:=jiF hh
  split at hh
  ·rename_i hv;exact jir hv
  split at hh
  ·rename_i c ho;exact ofCall ho
  ·obtain⟨d,_,hh⟩:=jaP hh
   exact⟨jcx hh,jcU hh⟩
theorem jeb (htb:TbOk P tb){K:Prop} : ∀ {qs:List Nat},jby tb all qs L H K→K ∧ ∀ q∈qs, ∃ o d,all[q]? = some o∧o.dst=some d∧Ahead P all o L H (look L d)
 | [],hh=>⟨hh,fun q hq=>by cases hq⟩
 | q::qs,hh=>by
  obtain⟨h1,h2⟩:=hh
  obtain⟨hK,hr⟩:=jeb htb h2
  refine⟨hK,fun q' hq'=>?_⟩
  rcases jka.1 hq' with rfl|hq'
  ·obtain⟨o,ho,h1⟩:=jee h1
   obtain⟨d,hd,h1⟩:=jaP h1
   rw[jbS] at h1
   obtain⟨D,hs,hA⟩:=ahead_el htb h1
   have:=hs.eq;subst this
   exact⟨o,d,ho,hd,hA⟩
  ·exact hr q' hq'
theorem Inv.stepB (htb:TbOk P tb)(hin:InlOk P inl)(hyl:YlOk P cx yl)(hN:N≤n)(I:Inv P all n cx listed rem pend f E h L H a b w){j:Nat}(hj:j∈rem){o:Oper}(ho:all[j]? = some o)(hready:∀ d∈ja4 o,listed.getD d true=true)
  {pend':List Nat} (hpend:∀ q∈pend,q∈pend'∨Anc all j q) {K:Sl→Hp→Prop} {KP:KPan} (hP:∀ c L' H' E' h' a' w',KP c L' H'→a'.tmps.size=n→Sat cx E' h' a' w' L' H'→Q (.panic c) a' w') (hh:ops2K P tb inl yl N cx.off all (fun c L H=>keepK all L fun L=>KP c L H) [o] L H fun L' H'=>jby tb all pend' L' H' (K L' H')) {Kf:Act→World→Prop}
  (hK:∀ a' b' w' E' h' L' H',K L' H'→Inv P all n cx (listed.setIfInBounds j true) (rem.filter fun i => !Nat.beq i j) pend' f E' h' L' H' a' b' w'→Kf a' w'):wpOpIn (FR r) 0 P all.toArray Q j Kf a w:=by
 have hls:=I.looks_same ho hready
 obtain⟨hnd,hns⟩:=ops2_plain hh
 have hjf:j∉f:=fun hf=>I.disj j hf hj
 have hjlt:=I.rlt j hj
 have hunl:∀ q∈f,listed.getD q true=false:=fun q hq=>(I.part q (I.flt q hq)).2 (.inr hq)
 have hrdy:∀ o',all[j]? = some o' → ∀ d∈ja4 o',listed.getD d true=true:=fun o' ho'=>by rw[ho] at ho';cases ho';exact hready
 have nb:∀ i,i≠j→Nat.beq i j=false:=fun i e=>by
  cases hb:Nat.beq i j with
  | false=>rfl
  | true=>exact absurd (jae hb) e
 let Q1:Exit→Act→World→Prop:=fun e b' w'=>(e = .normal ∧ ∃ L' H' E' h',jby tb all pend' L' H' (K L' H')∧b'.tmps.size=n∧Sat cx E' h' b' w' L' H') ∨ ∃ c,e = .panic c ∧ ∃ L' H' E' h',KP c (keep all L') H'∧Sat cx E' h' b' w' L' H'
 have hw:=ja2 (Q:=Q1) (r:=r) htb hin hyl hh hN (fun c L' H' E' h' b' w' hK hs S => .inr ⟨c,rfl,L',H',E',h',by rw[keepK_eq] at hK;exact hK,S⟩) (fun L' H' E' h' b' w' hK hs S => .inl ⟨rfl,L',H',E',h',hK,hs,S⟩) E h b w I.bsize I.sat
 have fin:∀ (a0 b0:Act) v w',a0.tmps=a.tmps→b0.tmps=b.tmps→b0.defers=a0.defers→Q1 .normal (b0.put o.dst v) w'→Kf (a0.put o.dst v) w':=by
  rintro a0 b0 v w' e1 e2 e3 (⟨_,L',H',E',h',hre,hbs,S⟩|⟨c,e,_⟩)
  case inr=>cases e
  obtain⟨hKK,hre⟩:=jeb htb hre
  have hfp:∀ q∈f,q∈pend':=fun q hq=>by
   rcases hpend q (I.sub q hq) with h1|h1
   ·exact h1
   ·have:=I.anc_listed h1 hrdy
    rw[hunl q hq] at this;cases this
  refine hK _ (b0.put o.dst v) w' E' h' L' H' hKK
   { size:=by simp[I.size],part:=fun i hi=>?_,disj:=fun i hi hr=>I.disj i hi (jkv.1 hr).1,sub:=hfp,rlt:=fun i hi=>I.rlt i (jkv.1 hi).1,flt:=I.flt,closed:=fun i oi hoi hl dd hdd=>?_,fdeps:=fun i hi oi hoi x hx hr=>I.fdeps i hi oi hoi x hx (jkv.1 hr).1,ssa:=I.ssa,ahead:=fun i hi=>?_,sat:=S,asize:=by rw[jaB,e1];exact I.asize,bsize:=hbs,defs:=?_,same:=fun t ht=>?_ }
  ·rw[jdX,I.size,jkv]
   by_cases e:j=i
   ·subst e
    simp only[hjlt,and_self,if_true,Nat.beq_refl,Bool.not_true]
    constructor
    ·intro h;cases h
    ·rintro(h1|h1)
     ·cases h1.2
     ·exact absurd h1 hjf
   ·rw[if_neg (fun x=>e x.1),I.part i hi]
    simp[nb i (fun x=>e x.symm)]
  ·rw[jdX] at hl ⊢
   by_cases e:j=i
   ·subst e
    rw[ho] at hoi;cases hoi
    rw[hready dd hdd];simp
   ·rw[if_neg (fun x=>e x.1)] at hl
    rw[I.closed i oi hoi hl dd hdd];simp
  ·obtain⟨oq,dq,h1,h2,h3,_⟩:=I.ahead i hi
   obtain⟨o2,d2,g1,g2,g3⟩:=hre i (hfp i hi)
   rw[h1] at g1;cases g1
   rw[h2] at g2;cases g2
   exact⟨_,_,h1,h2,h3,g3⟩
  ·cases o.dst<;>exact e3
  ·cases hd:o.dst with
   | none=>
    show b0.tmps.getD t Go.undef=a0.tmps.getD t Go.undef
    rw[e1,e2];exact I.same t ht
   | some d=>
    rw[jdf,jdf,e1,e2,I.asize,I.bsize]
    by_cases e:d=t∧d<n
    ·rw[if_pos e,if_pos e]
    ·rw[if_neg e,if_neg e];exact I.same t ht
 unfold wpOpIn
 simp only[jkr,ho]
 unfold wpListIn at hw
 rw[jhW hls] at hw
 split
 ·rename_i hwt
  rw[if_pos hwt] at hw
  refine⟨fun _ _=>trivial,?_⟩
  have hw2:=hw.2
  have hsem:∀ ρ:Operand→Value,o.semAt (FR r).round ρ=execOp ρ o:=fun ρ=>by
   cases r with
   | none=>exact Oper.semAt_none ..
   | some l=>exact Oper.semAt_some _ _ _ hnd
  rw[hsem,eval_same hls hns] at hw2
  rw[hsem]
  generalize hres:(execOp a.eval o).run P w=res at hw2
  exact upon_move hw2 (fun v w' hx=>fin a b v w' rfl rfl I.defs hx) (fun d v w' hx=>fin { a with defers:=d::a.defers } { b with defers:=d::b.defers } v w' rfl rfl (by rw[I.defs]) hx) (fun e b w hx=>hx.imp And.left fun ⟨c,e,_⟩=>⟨c,e⟩) (fun c w' hx=>by
   rcases hx with⟨e,_⟩|⟨c',e,L',H',E',h',hk,S⟩
   ·cases e
   ·cases e
    refine hP _ _ H' E' h' a w' hk I.asize ⟨fun t=>?_,S.mem,S.agree,S.since,S.low,by rw[← I.defs];exact S.side⟩
    rcases look_keep all L' t with e|⟨e1,e2⟩
    ·rw[e];simp[Den]
    ·rw[e2,← I.same t (fun i _ oi hoi hdi=>isDst_spec e1 i oi hoi hdi)]
     exact S.knows t)
 ·rename_i hwt
  rw[if_neg hwt] at hw
  exact⟨fun _ _=>trivial,fin a b _ _ rfl rfl I.defs hw.2⟩
end
end Go.V
end
section
namespace Go.V
open Go Go.RowKit
section
variable {P : Program} {tb : Tb} {inl : Inl} {yl : Yl} {N n : Nat} {cx : Cx} {r : Option Nat} {Q : Exit → Act → World → Prop} {all : List Oper} {L : Sl} {H : Hp}
  {listed : Array Bool} {rem pend f : List Nat} {E : Env} {h : Pub} {a b : Act} {w : World}
theorem mem_deps {o:Oper}{d:Nat} : d∈ja4 o ↔ ∃ e∈o.after,Region.binds .any e=true∧e.on=d:=by
 simp only[ja4,List.mem_filterMap,Array.mem_toList_iff]
 constructor
 ·rintro⟨e,he,hx⟩
  cases hb:Region.binds .any e with
  | true=>rw[hb] at hx;exact⟨e,he,hb,by simpa using hx⟩
  | false=>rw[hb] at hx;simp at hx
 ·rintro⟨e,he,hb,rfl⟩
  exact⟨e,he,by rw[hb]⟩
theorem jg6 (ht:textB all=true){k:Nat}{o:Oper}(hk:all[k]? = some o){d:Nat}(hd:d∈ja4 o):d<k:=by
 simp only[textB,jj7] at ht
 have hm:(o,k)∈all.zipIdx:=by rw[List.mem_zipIdx_iff_getElem?];exact hk
 have:=ht _ hm
 simp only[jj7] at this
 exact jfM (this d hd)
theorem jhH {listed:Array Bool}{d:Nat}(hd:d<listed.size)(x y:Bool):listed.getD d x=listed.getD d y:=by
 simp[Array.getD_eq_getD_getElem?,Array.getElem?_eq_getElem hd]
theorem jcm (ht:textB all=true)(hs:listed.size=all.length){j:Nat} : j∈Region.ready .any all.toArray listed↔j<all.length∧listed.getD j true=false ∧ ∀ o,all[j]? = some o → ∀ d∈ja4 o,listed.getD d true=true:=by
 rw[mem_ready]
 constructor
 ·rintro⟨h1,o,ho,h2⟩
  rw[jkr] at ho
  have hj:=(jkh.1 ho).1
  refine⟨hj,h1,fun o' ho' d hd=>?_⟩
  rw[ho] at ho';cases ho'
  have hlt:=jg6 ht ho hd
  obtain⟨e,he,hb,rfl⟩:=mem_deps.1 hd
  rw[jhH (by rw[hs];omega) true false]
  exact h2 e he hb
 ·rintro⟨hj,h1,h2⟩
  refine⟨h1,all[j],by rw[jkr,jkb hj],fun e he hb=>?_⟩
  have hd:e.on∈ja4 all[j]:=mem_deps.2 ⟨e,he,hb,rfl⟩
  have hlt:=jg6 ht (jkb hj) hd
  rw[jhH (by rw[hs];omega) false true]
  exact h2 _ (jkb hj) _ hd
theorem jep (ht:textB all=true)(hs:listed.size=all.length):∀ (i:Nat),i<all.length→listed.getD i true=false→Region.ready .any all.toArray listed≠[]:=by
 intro i
 induction i using Nat.strongRecOn with
 | _ i ih=>
  intro hi hl
  by_cases hd:∀ o,all[i]? = some o → ∀ d∈ja4 o,listed.getD d true=true
  ·have:=(jcm ht hs).2 ⟨hi,hl,hd⟩
   exact fun e=>by rw[e] at this;cases this
  ·simp only[Classical.not_forall] at hd
   obtain⟨o,ho,d,hd,hx⟩:=hd
   have hlt:=jg6 ht ho hd
   exact ih d hlt Jo (by simpa using hx)
theorem brs_el {as:List Nat}{ns:List Nd}{KP:KPan}{gt:Nat→Sl→Hp→Prop}{K:K2}{off:Nat}{i:Nat} : ∀ {bs:Brs},brsB all as ns rem pend bs=true→jfA P tb inl yl N off all KP gt bs L H K→jgn i bs=true →
  ∃ pend' p,(∀ q∈pend,q∈pend'∨(as.getD i 0).testBit q=true)∧planB all as ns (rem.filter fun k => !Nat.beq k i) pend' p=true ∧
   nthO all i fun o=>ops2K P tb inl yl N off all (fun c L H=>keepK all L fun L=>KP c L H) [o] L H fun L' H'=>jby tb all pend' L' H' (drawK P tb inl yl N off all KP gt p L' H' K)
 | .nil,_,_,hb=>by simp[jgn] at hb
 | .cons j pend' p bs,h1,h2,hb=>by
  simp only[brsB,jjv,jj7,Bool.or_eq_true] at h1
  simp only[jfA] at h2
  simp only[jgn,Bool.or_eq_true] at hb
  by_cases e:i=j
  ·subst e
   exact⟨pend',p,fun q hq=>(h1.1.1.2 q hq).imp (fun x=>jcC.1 x) id,h1.1.2,h2.1⟩
  ·exact brs_el h1.2 h2.2 (hb.resolve_left fun x=>e (jae x))
theorem jfw {l:List Nat}{i:Nat}(hi:i∈l):(l.filter fun k => !Nat.beq k i).length<l.length:=by
 rw[List.length_filter_lt_length_iff_exists]
 exact⟨i,hi,by simp[Nat.beq_refl]⟩
theorem Inv.done (I:Inv P all n cx listed [] pend [] E h L H a b w):Sat cx E h a w L H:=by
 have S:=I.sat
 refine⟨fun t=>?_,S.mem,S.agree,S.since,S.low,by rw[← I.defs];exact S.side⟩
 rw[← I.same t (fun i hi=>by cases hi)]
 exact S.knows t
structure GtOk (P:Program)(tb:Tb)(inl:Inl)(yl:Yl)(N:Nat)(cx:Cx)(all:List Oper)(KP:KPan)(gt:Nat→Sl→Hp→Prop)(ns:List Nd)(K:K2):Prop where
 out:∀ k L H,gt k L H → ∃ nd Lk Hk,ns[k]? = some nd∧(∀ E h a w,Sat cx E h a w L H → ∃ E' h',Sat cx E' h' a w Lk Hk) ∧
  jby tb all nd.pend Lk Hk (drawK P tb inl yl N cx.off all KP gt nd.plan Lk Hk K)
theorem Inv.move (I : Inv P all n cx listed rem pend f E h L H a b w) {E' : Env} {h' : Pub} {L' : Sl} {H' : Hp} {pend' : List Nat} (S : Sat cx E' h' b w L' H') (hp : ∀ q ∈ pend, q ∈ pend')
    (hre : ∀ q ∈ pend', ∃ o d, all[q]? = some o ∧ o.dst = some d ∧ Ahead P all o L' H' (look L' d)) : Inv P all n cx listed rem pend' f E' h' L' H' a b w :=
  { size := I.size, part := I.part, disj := I.disj, sub := fun i hi => hp i (I.sub i hi), rlt := I.rlt, flt := I.flt, closed := I.closed, fdeps := I.fdeps, ssa := I.ssa,
    ahead := fun i hi => by
      obtain ⟨oq, dq, h1, h2, h3, _⟩ := I.ahead i hi
      obtain ⟨o2, d2, g1, g2, g3⟩ := hre i (hp i (I.sub i hi))
      rw [h1] at g1; cases g1
      rw [h2] at g2; cases g2
      exact ⟨_, _, h1, h2, h3, g3⟩
    sat := S, asize := I.asize, bsize := I.bsize, defs := I.defs, same := I.same }
theorem draw_all (htb:TbOk P tb)(hin:InlOk P inl)(hyl:YlOk P cx yl)(hN:N≤n)(ht:textB all=true){KP:KPan}{gt:Nat→Sl→Hp→Prop}{ns:List Nd}(hns:ns.all (fun nd => !nd.plan.isGo && planB all (ancs all) ns nd.rem nd.pend nd.plan)=true)
  (hP:∀ c L' H' E' h' a' w',KP c L' H'→a'.tmps.size=n→Sat cx E' h' a' w' L' H'→Q (.panic c) a' w') {K:K2} (hgt:GtOk P tb inl yl N cx all KP gt ns K) (hQ:∀ L' H' E' h' a' w',K L' H'→a'.tmps.size=n→Sat cx E' h' a' w' L' H'→Q .normal a' w') :
  ∀ (fuel m:Nat) (plan:Plan) (rem pend f:List Nat) (L:Sl) (H:Hp) (listed:Array Bool) (a b:Act) (w:World) (E:Env) (h:Pub),rem.length=m→planB all (ancs all) ns rem pend plan=true →
   drawK P tb inl yl N cx.off all KP gt plan L H K→Inv P all n cx listed rem pend f E h L H a b w→rem.length+f.length≤fuel→wpAnyIn (FR r) 0 P .any all.toArray Q fuel listed a w:=by
 -- a place
 have place:∀ (k:Nat) (rem pend f:List Nat) (L:Sl) (H:Hp) (listed:Array Bool) (a b:Act) (w:World) (E:Env) (h:Pub),planB all (ancs all) ns rem pend (.goto k)=true→drawK P tb inl yl N cx.off all KP gt (.goto k) L H K →
   Inv P all n cx listed rem pend f E h L H a b w → ∃ plan pend' L' H' E' h',plan.isGo=false∧planB all (ancs all) ns rem pend' plan=true∧drawK P tb inl yl N cx.off all KP gt plan L' H' K∧Inv P all n cx listed rem pend' f E' h' L' H' a b w:=by
  intro k rem pend f L H listed a b w E h hp hd I
  simp only[drawK] at hd
  obtain⟨nd,Lk,Hk,hnd,hsat,hre⟩:=hgt.out k L H hd
  obtain⟨E',h',S⟩:=hsat E h b w I.sat
  obtain⟨hK,hre⟩:=jeb htb hre
  simp only[planB,hnd,jjv,jj7] at hp
  have hrem:=eqNs_eq hp.1
  have hmem:nd∈ns:=jkc hnd
  have:=jj7.1 hns nd hmem
  simp only[jjv,Bool.not_eq_true'] at this
  exact⟨nd.plan,nd.pend,Lk,Hk,E',h',this.1,by rw[hrem];exact this.2,hK,I.move S (fun q hq=>jcC.1 (hp.2 q hq)) hre⟩
 -- the end
 have fin:∀ (plan:Plan) (rem pend f:List Nat) (L:Sl) (H:Hp) (listed:Array Bool) (a b:Act) (w:World) (E:Env) (h:Pub),planB all (ancs all) ns rem pend plan=true→drawK P tb inl yl N cx.off all KP gt plan L H K →
   Inv P all n cx listed rem pend f E h L H a b w→Region.ready .any all.toArray listed=[]→Q .normal a w:=by
  intro plan rem pend f L H listed a b w E h hp hd I hr
  have hrem:rem=[]:=by
   cases rem with
   | nil=>rfl
   | cons i rem=>exact absurd hr (jep ht I.size i (I.rlt i Js) ((I.part i (I.rlt i Js)).2 (.inl Js)))
  have hf:f=[]:=by
   cases f with
   | nil=>rfl
   | cons i f=>exact absurd hr (jep ht I.size i (I.flt i Js) ((I.part i (I.flt i Js)).2 (.inr Js)))
  subst hrem;subst hf
  have core:∀ (plan:Plan) (pend:List Nat) (L:Sl) (H:Hp) (E:Env) (h:Pub),plan.isGo=false→planB all (ancs all) ns [] pend plan=true→drawK P tb inl yl N cx.off all KP gt plan L H K →
    Inv P all n cx listed [] pend [] E h L H a b w→Q .normal a w:=by
   intro plan pend L H E h hg hp hd I
   cases plan with
   | done=>exact hQ _ _ _ _ _ _ hd I.asize I.done
   | take i p=>simp[planB,memB] at hp
   | ev bs=>simp[planB] at hp
   | goto k=>cases hg
  cases hg:plan.isGo with
  | false=>exact core plan _ _ _ _ _ hg hp hd I
  | true=>
   cases plan with
   | goto k=>
    obtain⟨p',pend',L',H',E',h',h1,h2,h3,h4⟩:=place k _ _ _ _ _ _ _ _ _ _ _ hp hd I
    exact core p' _ _ _ _ _ h1 h2 h3 h4
   | _=>cases hg
 intro fuel
 induction fuel with
 | zero=>
  intro m plan rem pend f L H listed a b w E h hm hp hd I hfuel
  have hr:Region.ready .any all.toArray listed=[]:=by
   cases hx:Region.ready .any all.toArray listed with
   | nil=>rfl
   | cons i l=>
    have hi:i∈Region.ready .any all.toArray listed:=by rw[hx];simp
    obtain⟨h1,h2,_⟩:=(jcm ht I.size).1 hi
    rcases (I.part i h1).1 h2 with h3|h3
    ·have:=List.length_pos_of_mem h3;omega
    ·have:=List.length_pos_of_mem h3;omega
  exact⟨hr,fin _ _ _ _ _ _ _ _ _ _ _ _ hp hd I hr⟩
 | succ fuel ih=>
  intro m
  induction m using Nat.strongRecOn with
  | _ m ihm=>
   have core:∀ (plan:Plan) (rem pend f:List Nat) (L:Sl) (H:Hp) (listed:Array Bool) (a b:Act) (w:World) (E:Env) (h:Pub),plan.isGo=false→rem.length=m→planB all (ancs all) ns rem pend plan=true →
     drawK P tb inl yl N cx.off all KP gt plan L H K→Inv P all n cx listed rem pend f E h L H a b w→rem.length+f.length≤fuel+1→wpAnyIn (FR r) 0 P .any all.toArray Q (fuel+1) listed a w:=by
    intro plan rem pend f L H listed a b w E h hg hm hp hd I hfuel
    have stepF:∀ i∈Region.ready .any all.toArray listed,i∈f→wpOpIn (FR r) 0 P all.toArray Q i (wpAnyIn (FR r) 0 P .any all.toArray Q fuel (listed.setIfInBounds i true)) a w:=fun i hi hf=>by
     obtain⟨h1,h2,h3⟩:=(jcm ht I.size).1 hi
     have hlt:=jfw hf
     exact I.stepA hf h3 fun a' b' I'=>ih rem.length plan rem pend _ L H _ a' b' w E h rfl hp hd I' Jo
    cases plan with
    | goto k=>cases hg
    | done=>
     refine⟨fin _ _ _ _ _ _ _ _ _ _ _ _ hp hd I,fun i hi=>?_⟩
     obtain⟨h1,h2,h3⟩:=(jcm ht I.size).1 hi
     rcases (I.part i h1).1 h2 with h4|h4
     ·simp only[planB,List.isEmpty_iff] at hp
      rw[hp] at h4;cases h4
     ·exact stepF i hi h4
    | take i p=>
     simp only[planB,jjv] at hp
     obtain⟨⟨⟨hp1,hp2⟩,hp3⟩,hp4⟩:=hp
     have hir:=jcC.1 hp1
     simp only[drawK] at hd
     obtain⟨o,ho,hd⟩:=jee hd
     obtain⟨d,hdst,hd⟩:=jaP hd
     obtain⟨D,hd,hA⟩:=ahead_el htb hd
     obtain⟨hlt,hd⟩:=jcJ hd
     rw[ho] at hp3
     simp only[jj7,Bool.not_eq_true'] at hp3
     obtain⟨b',I'⟩:=I.take ht hir hp2 ho hdst Jo (fun x hx hr=>by have:=hp3 x hx;rw[jcC.2 hr] at this;cases this) hA
     have hl:=jfw hir
     exact ihm _ (by rw[← hm];exact hl) p _ _ _ _ _ _ a b' w E h rfl hp4 hd I' (by simp only[jkn];omega)
    | ev bs=>
     refine⟨fin _ _ _ _ _ _ _ _ _ _ _ _ hp hd I,fun i hi=>?_⟩
     obtain⟨h1,h2,h3⟩:=(jcm ht I.size).1 hi
     rcases (I.part i h1).1 h2 with h4|h4
     ·have hp':=hp
      simp only[planB,jjv,jj7] at hp'
      obtain⟨⟨_,hp2⟩,hp3⟩:=hp'
      have ho:=jkb h1
      have hb:jgn i bs=true:=by
       have:=hp2 i h4
       rw[Bool.or_eq_true] at this
       refine this.resolve_right fun hx=>?_
       rw[ho] at hx
       simp only[List.any_eq_true] at hx
       obtain⟨d,hd1,hd2⟩:=hx
       have hdl:=jg6 ht ho hd1
       have e1:=h3 _ ho d hd1
       have e2:=(I.part d Jo).2 (.inl (jcC.1 hd2))
       rw[e1] at e2;cases e2
      simp only[drawK] at hd
      obtain⟨pend',p,q1,q2,q3⟩:=brs_el hp3 hd hb
      obtain⟨o,ho',q3⟩:=jee q3
      have hl:=jfw h4
      exact I.stepB htb hin hyl hN h4 ho' (h3 o ho') (fun q hq=>(q1 q hq).imp id fun x=>ancs_ok x) hP q3 fun a' b' w' E' h' L' H' hK I'=>
       ih _ p _ _ _ L' H' _ a' b' w' E' h' rfl q2 hK I' Jo
     ·exact stepF i hi h4
   intro plan rem pend f L H listed a b w E h hm hp hd I hfuel
   cases hg:plan.isGo with
   | false=>exact core plan _ _ _ _ _ _ _ _ _ _ _ hg hm hp hd I hfuel
   | true=>
    cases plan with
    | goto k=>
     obtain⟨p',pend',L',H',E',h',h1,h2,h3,h4⟩:=place k _ _ _ _ _ _ _ _ _ _ _ hp hd I
     exact core p' _ _ _ _ _ _ _ _ _ _ _ h1 hm h2 h3 h4 hfuel
    | _=>cases hg
theorem jfz (htb : TbOk P tb) (hin : InlOk P inl) (hyl : YlOk P cx yl) (hN : N ≤ n) {id : Nat} {ops : Array Oper} {plan : Plan} {ns : List Nd} (hp : PlanOk P ops.toList ns plan) {KP : KPan} {gt : Nat → Sl → Hp → Prop} {K : K2} (hd : drawK P tb inl yl N cx.off ops.toList KP gt plan L H K) (hgt : GtOk P tb inl yl N cx ops.toList KP gt ns K)
    (hP : ∀ c L' H' E' h' a' w', KP c L' H' → a'.tmps.size = n → Sat cx E' h' a' w' L' H' → Q (.panic c) a' w') (hQ : ∀ L' H' E' h' a' w', K L' H' → a'.tmps.size = n → Sat cx E' h' a' w' L' H' → Q .normal a' w') (hn : a.tmps.size = n) (S : Sat cx E h a w L H) : (Code.region id ops true).wpIn (FR r) 0 P Q a w := by
  refine wpIn_region_any hp.mixed ?_
  have S' : Sat cx E h a { w with drawn := w.drawn + 1 } L H := S.world ⟨rfl, rfl, rfl, jjG _, fun _ _ => rfl⟩
  have key := draw_all (r := r) (Q := Q) htb hin hyl hN hp.text hp.nds hP hgt hQ ops.size ops.size plan (List.range ops.toList.length) [] [] L H (Array.replicate ops.size false) a a { w with drawn := w.drawn + 1 } E h Js hp.plan hd
    { size := Js, part := fun i hi => (by simp at hi; simp [Array.getD_eq_getD_getElem?, hi]), disj := fun i hi => (by cases hi), sub := fun i hi => (by cases hi), rlt := fun i hi => (by simpa using hi), flt := fun i hi => (by cases hi),
      closed := fun i o ho hl => by
        have hi := (jkh.1 ho).1
        simp at hi
        simp [Array.getD_eq_getD_getElem?, hi] at hl
      fdeps := fun i hi => (by cases hi)
      ssa := fun i hi => (by cases hi)
      ahead := fun i hi => (by cases hi)
      sat := S', asize := hn, bsize := hn, defs := rfl, same := fun _ _ => rfl } Js
  simpa using key
end
end Go.V
end
section
namespace Go.V
open Go Go.RowKit
structure Wk (off:Nat)(L:Sl)(H:Hp)(L':Sl)(H':Hp):Prop where
 out:∀ cx E h a w,cx.off=off→Sat cx E h a w L H → ∃ E' h',Sat cx E' h' a w L' H'
structure CondB (b:Bool)(A B:Prop):Prop where
 yes:b=true→A
 no:b=false→B
abbrev K3:=Exit→Sl→Hp→Prop
def nrm (X:Sl→Hp→Prop)(K:K3):K3:=fun e L H=>match e with
 | .normal=>X L H
 | e=>K e L H
def blk (i:Nat)(K:K3):K3:=fun e L H=>match e with
 | .exit j=>match Nat.beq j i with|true=>K .normal L H|false=>K (.exit j) L H
 | e=>K e L H
def scp (K:K3):K3:=fun e L H=>match e with
 | .goto _=>False
 | e=>K e L H
def jn (off:Nat)(L0:Sl)(H0:Hp)(K:K3):K3:=fun e L H=>match e with
 | .normal=>Wk off L H L0 H0
 | e=>K e L H
inductive Cnd (off : Nat) (x : Bool) (A B : K3 → Prop) (K : K3) : Prop where
  | split (h : CondB x (A K) (B K))
  | join (L0 : Sl) (H0 : Hp) (h : CondB x (A (jn off L0 H0 K)) (B (jn off L0 H0 K))) (k : K .normal L0 H0)
def drawD (P:Program)(tb:Tb)(inl:Inl)(yl:Yl)(N off:Nat)(all:List Oper)(KP:KPan)(plan:Plan)(ns:List Nd)(L:Sl)(H:Hp)(K:K2):Prop:=
 ∃ gt:Nat→Sl→Hp→Prop,(∀ k L H,gt k L H → ∃ nd Lk Hk,ns[k]? = some nd∧Wk off L H Lk Hk∧jby tb all nd.pend Lk Hk (drawK P tb inl yl N off all KP gt nd.plan Lk Hk K)) ∧
  drawK P tb inl yl N off all KP gt plan L H K
theorem jac {P:Program}{tb:Tb}{inl:Inl}{yl:Yl}{N off:Nat}{all:List Oper}{KP:KPan}{plan:Plan}{ns:List Nd}{L:Sl}{H:Hp}{K:K2}(h:drawK P tb inl yl N off all KP (fun _ _ _=>False) plan L H K) :
  drawD P tb inl yl N off all KP plan ns L H K:=⟨_,fun _ _ _ h=>h.elim,h⟩
theorem drawD_gt {P:Program}{tb:Tb}{inl:Inl}{yl:Yl}{N:Nat}{cx:Cx}{all:List Oper}{KP:KPan}{plan:Plan}{ns:List Nd}{L:Sl}{H:Hp}{K:K2}(h:drawD P tb inl yl N cx.off all KP plan ns L H K) :
  ∃ gt,GtOk P tb inl yl N cx all KP gt ns K∧drawK P tb inl yl N cx.off all KP gt plan L H K:=by
 obtain⟨gt,h1,h2⟩:=h
 refine⟨gt,⟨fun k L H hk=>?_⟩,h2⟩
 obtain⟨nd,Lk,Hk,h3,h4,h5⟩:=h1 k L H hk
 exact⟨nd,Lk,Hk,h3,fun E h a w S=>h4.out cx E h a w rfl S,h5⟩
inductive Drw (off : Nat) (R : K2 → Prop) (K : K2) : Prop where
  | go (h : R K)
  | join (L0 : Sl) (H0 : Hp) (h : R fun L H => Wk off L H L0 H0) (k : K L0 H0)
theorem Wk.refl {off:Nat}{L:Sl}{H:Hp} : Wk off L H L H:=⟨fun _ E h _ _ _ S=>⟨E,h,S⟩⟩
structure Lp (off:Nat)(L:Sl)(H:Hp)(body:Sl→Hp→K3→Prop)(K:K3):Prop where
 out:∃ K2:K3,(∀ e L' H',K2 e L' H' → ∃ L'' H'',Wk off L' H' L'' H''∧K e L'' H'') ∧
  ∃ (α:Type) (inv:α→Prop) (sl:α→Sl) (hp:α→Hp) (μ:α→Nat),(∃ x,inv x∧Wk off L H (sl x) (hp x)) ∧
  ∀ x,inv x→body (sl x) (hp x) (nrm (fun L' H' => ∃ y,inv y∧μ y<μ x∧Wk off L' H' (sl y) (hp y)) K2)
theorem Lp.of {off : Nat} {L : Sl} {H : Hp} {body : Sl → Hp → K3 → Prop} {K : K3}
    (h : ∃ (α : Type) (inv : α → Prop) (sl : α → Sl) (hp : α → Hp) (μ : α → Nat), (∃ x, inv x ∧ Wk off L H (sl x) (hp x)) ∧
    ∀ x, inv x → body (sl x) (hp x) (nrm (fun L' H' => ∃ y, inv y ∧ μ y < μ x ∧ Wk off L' H' (sl y) (hp y)) K)) : Lp off L H body K :=
  ⟨K, fun _ L' H' h => ⟨L', H', Wk.refl, h⟩, h⟩
def subSl (L:Sl):Sl→Prop
 | []=>True
 | (t,d)::L'=>look L t=d∧subSl L L'
def subHp (H:Hp):Hp→Prop
 | []=>True
 | (i,c)::H'=>lookH H i=some c∧subHp H H'
theorem subSl_look {L L':Sl}(h:subSl L L')(t:Nat):look L' t = .any∨look L' t=look L t:=by
 induction L' with
 | nil=>exact .inl rfl
 | cons x L' ih=>
  obtain⟨s,d⟩:=x
  rw[jaI]
  split
  ·rename_i e;subst e;exact .inr h.1.symm
  ·exact ih h.2
theorem jck {H H':Hp}(h:subHp H H'){i:Nat}{c:Chunk}(hc:lookH H' i=some c):lookH H i=some c:=by
 induction H' with
 | nil=>simp[lookH] at hc
 | cons x H' ih=>
  obtain⟨s,d⟩:=x
  rw[jag] at hc
  split at hc
  ·rename_i e;subst e;cases hc;exact h.1
  ·exact ih h.2 hc
theorem Wk.of {off : Nat} {L L' : Sl} {H H' : Hp} (h1 : subSl L L') (h2 : subHp H H') : Wk off L H L' H' := by
  refine ⟨fun cx E h a w _ S => ?_⟩
  refine ⟨E, h, { knows := fun t => ?_, mem := ?_, agree := S.agree, since := S.since, low := S.low, side := S.side }⟩
  · rcases subSl_look h1 t with e | e
    · rw [e]; simp [Den]
    · rw [e]; exact S.knows t
  · exact { ok := fun i c hc => S.mem.ok i c (jck h2 hc), base := fun i c hc => S.mem.base i c (jck h2 hc), unpub := fun i c hc => S.mem.unpub i c (jck h2 hc),
            inj := fun i j c c' hij hc hc' => S.mem.inj i j c c' hij (jck h2 hc) (jck h2 hc') }
theorem Wk.trans {off:Nat}{L1 L2 L3:Sl}{H1 H2 H3:Hp}(h:Wk off L1 H1 L2 H2)(k:Wk off L2 H2 L3 H3):Wk off L1 H1 L3 H3:=by
 refine⟨fun cx E h' a w e S=>?_⟩
 obtain⟨E1,h1,S1⟩:=h.out cx E h' a w e S
 exact k.out cx E1 h1 a w e S1
def resK (tb:Tb)(L:Sl)(H:Hp):List ResultVar→(List D→Prop)→Prop
 | [],K=>K []
 | .tmp t::rs,K=>lookK L t fun d=>resK tb L H rs fun ds=>K (d::ds)
 | .cell a t::rs,K=>lookK L a fun d=>loadK tb True H t d fun d=>resK tb L H rs fun ds=>K (d::ds)
def oneK (ds:List D)(K:D→Prop):Prop:=match ds with
 | [d]=>K d
 | ds=>K (.tup ds)
structure Fin (r r':D):Prop where
 out:∀ h v,Den Env.dummy h r' v→Den Env.dummy h r v
theorem Fin.same (r:D):Fin r r:=⟨fun _ _ h=>h⟩
theorem Fin.of {r r':D}(e:r'=r):Fin r r':=⟨fun _ _ h=>e▸h⟩
theorem Fin.nil (k:IntKind):Fin (.ints k []) .nil:=⟨fun h v hv=>by
 simp only[Den,jaQ] at hv ⊢
 exact⟨none,0,by simpa using hv,Js,Js,Js,Js⟩⟩
def argSl:Nat→List D→Sl
 | _,[]=>[]
 | n,d::ds=>(n,d)::argSl (n+1) ds
structure AnyB (p:Bool→Prop)(A B:Prop):Prop where
 yes:p true→A
 no:p false→B
def jid (N:Nat):List Nat→List D→Sl→(Sl→Prop)→Prop
 | [],[],L,K=>K L
 | t::ts,d::ds,L,K=>ltK t N (jid N ts ds ((t,d)::L) K)
 | _,_,_,_=>False
def endR (i:Nat)(K1:D→Hp→Prop):K3:=fun e _ H=>match e with
 | .normal=>K1 (.bool true) ((i,.lp none)::H)
 | .exit j=>K1 (.bool false) ((i,.lp (some (.exit j)))::H)
 | .ret=>K1 (.bool false) ((i,.lp (some .ret))::H)
 | _=>False
def endL (i:Nat)(L0:Sl)(K:K3):D→Hp→Prop:=fun _ H=>jaU H i fun c=>match c with
 | .lp p=>match p with
  | none=>K .normal L0 ((i,.gone)::H)
  | some c=>match c with
   | .exit j=>K (.exit j) L0 ((i,.gone)::H)
   | .ret=>K .ret L0 ((i,.gone)::H)
   | _=>False
 | _=>False
def noRg:Code→Bool
 | .seq a b=>noRg a && noRg b
 | .cond _ a b=>noRg a && noRg b
 | .block _ b=>noRg b
 | .loop b=>noRg b
 | .scope b=>noRg b
 | .rangeFunc _ _ _ _=>false
 | _=>true
def rdyK (i:Nat)(H:Hp)(A:Prop):Prop:=jaU H i fun c=>match c with
 | .lp p=>match p with
  | none=>A
  | some _=>False
 | _=>False
def RunC (P : Program) (tb : Tb) (inl : Inl) (N : Nat) : Code → Yl → Nat → Sl → Hp → K3 → Prop
  | .skip, _, _, L, H, K => K .normal L H
  | .region _ ops draw, yl, off, L, H, K => match draw with
    | false => ops2K P tb inl yl N off ops.toList (fun c L H => K (.panic c) L H) ops.toList L H (K .normal)
    | true => ∃ plan ns, PlanOk P ops.toList ns plan ∧ Drw off (drawD P tb inl yl N off ops.toList (fun c L H => K (.panic c) L H) plan ns L H) (K .normal)
  | .seq a b, yl, off, L, H, K => RunC P tb inl N a yl off L H (nrm (fun L H => RunC P tb inl N b yl off L H K) K)
  | .cond c a b, yl, off, L, H, K => rdg True L c fun d => match d with
    | .bool x => Cnd off x (RunC P tb inl N a yl off L H) (RunC P tb inl N b yl off L H) K
    | .anyb p => AnyB p (RunC P tb inl N a yl off L H K) (RunC P tb inl N b yl off L H K)
    | _ => False
  | .block i b, yl, off, L, H, K => RunC P tb inl N b yl off L H (blk i K)
  | .loop b, yl, off, L, H, K => Lp off L H (RunC P tb inl N b yl off) K
  | .exit i, _, _, L, H, K => K (.exit i) L H
  | .ret, _, _, L, H, K => K .ret L H
  | .scope b, yl, off, L, H, K => RunC P tb inl N b yl off L H (scp K)
  | .rangeFunc f ps assign body, yl, off, L, H, K => rdg True L f fun df => match df with
    | .fn g first caps => match first with
      | [] => match D.freeL (off + N) caps with
        | true => jeq (off + N) L fun L => cutK (off + N + 1) L fun L0 => jb0 (off + N) H fun H => inl
            (fun i ds top H1 K1 => match Nat.beq i (off + N) with
              | true => match noRg assign with
               | true => rdyK (off + N) H1 (jid N ps.toList ds L0 fun Lp => RunC P tb inl N assign yl top Lp H1 fun e L2 H2 => match e with
                | .normal => rdyK (off + N) H2 (RunC P tb inl N body yl top L2 ((off + N, .gone) :: H2) (endR (off + N) K1))
                | _ => False)
               | false => False
              | false => yl i ds top H1 K1)
            g (.yld (off + N) :: caps) (off + N + 1) ((off + N, .lp none) :: H) (endL (off + N) L0 K) (fun _ _ => False)
        | false => False
      | _ => False
    | _ => False
  | .label _, _, _, L, H, K => K .normal L H
  | .goto _, _, _, _, _, _ => False
  | .refuse _, _, _, _, _, _ => False
theorem jh8 {P:Program}{tb:Tb}(htb:TbOk P tb){L:Sl}{H:Hp} : ∀ {rs:List ResultVar} {K:List D→Prop},resK tb L H rs K →
  ∃ ds,K ds∧ds.length=rs.length ∧ ∀ cx E h a w,Sat cx E h a w L H → ∃ vs,DenL E h ds vs ∧
   (rs.mapM fun | .tmp t=>pure (a.tmps.getD t Go.undef) | .cell x t=>do loadVar t (← asAddr (a.tmps.getD x Go.undef)):Sem (List Value)).run P w = .ok vs w
 | [],K,hh=>⟨[],hh,rfl,fun cx E h a w S=>⟨[],by simp[DenL],Js⟩⟩
 | .tmp t::rs,K,hh=>by
  simp only[resK] at hh
  rw[jbS] at hh
  obtain⟨ds,hK,hl,hv⟩:=jh8 htb hh
  refine⟨_,hK,by simp[hl],fun cx E h a w S=>?_⟩
  obtain⟨vs,h1,h2⟩:=hv cx E h a w S
  refine⟨a.tmps.getD t Go.undef::vs,by simp only[DenL];exact⟨_,_,rfl,S.knows t,h1⟩,?_⟩
  simp only[List.mapM_cons,Sem.run_bind,Sem.run_pure,Result.andThen_ok,h2]
 | .cell x t::rs,K,hh=>by
  simp only[resK] at hh
  rw[jbS] at hh
  obtain⟨r,hh,hr⟩:=load_el htb hh
  obtain⟨ds,hK,hl,hv⟩:=jh8 htb hh
  refine⟨_,hK,by simp[hl],fun cx E h a w S=>?_⟩
  obtain⟨vs,h1,h2⟩:=hv cx E h a w S
  obtain⟨v,h3,h4⟩:=hr E h a w L S.facts _ (S.knows x) trivial
  refine⟨v::vs,by simp only[DenL];exact⟨_,_,rfl,h4,h1⟩,?_⟩
  have h5:(do loadVar t (← asAddr (a.tmps.getD x Go.undef)):Sem Value).run P w = .ok v w:=by
   revert h3
   generalize a.tmps.getD x Go.undef=u
   intro h3
   cases u with
   | pointer p=>
    cases p with
    | some p=>simpa [Instr.loadAt,Instr.sureAddr,asAddr] using h3
    | none=>simp[Instr.loadAt,Instr.sureAddr] at h3
   | _=>simp[Instr.loadAt,Instr.sureAddr] at h3
  rw[List.mapM_cons,Sem.run_bind,h5]
  simp only[Result.andThen_ok,Sem.run_bind,h2,Sem.run_pure]
theorem look_argSl (n:Nat)(ds:List D)(t:Nat):look (argSl n ds) t=if n≤t then ds.getD (t-n) .any else .any:=by
 induction ds generalizing n with
 | nil=>simp[argSl,look]
 | cons d ds ih=>
  rw[argSl,jaI,ih]
  by_cases h:n=t
  ·subst h;simp
  ·rw[if_neg h]
   by_cases h2:n≤t
   ·have:t-n=(t-(n+1))+1:=Jo
    rw[if_pos Jo,if_pos h2,this];simp
   ·rw[if_neg Jo,if_neg h2]
theorem jfx {P:Program}{f:Nat}{fn:Func}{c:Code}(hf:P.funcs[f]? = some fn)(hname:(fn.name == "runtime.NumGoroutine")=false)(hb:fn.body=some c):Enters P f:=by
 intro args w
 have h2:¬ fn.name = "runtime.NumGoroutine" := by simpa using hname
 simp[callFunc,hf,hb,h2]
end Go.V
end
section
namespace Go.V
open Go Go.RowKit
def jgs (P:Program)(tb:Tb)(inl:Inl)(N n:Nat)(c:Code):Prop:=
 ∀ (cx:Cx) (yl:Yl) (r:Option Nat) (L:Sl) (H:Hp) (K:K3) (Q:Exit→Act→World→Prop),YlOk P cx yl→(noRg c=true ∨ ∀ l₀,r=some l₀ → ∃ r₀,cx.objs l₀=some (.loop r₀))→RunC P tb inl N c yl cx.off L H K →
  (∀ e L' H' E' h' a' w',K e L' H'→a'.tmps.size=n→Sat cx E' h' a' w' L' H'→Q e a' w') →
  ∀ E h a w,a.tmps.size=n→Sat cx E h a w L H→c.wpIn (FR r) 0 P Q a w
theorem params_el {N:Nat}{ps:List Nat}{ds:List D}{L:Sl}{K:Sl→Prop}(h:jid N ps ds L K) :
  ∃ L',K L'∧ps.length=ds.length ∧ ∀ E hp (tmps:Array Value) vs,N≤tmps.size→(∀ t,Den E hp (look L t) (tmps.getD t Go.undef))→DenL E hp ds vs →
   ∀ t,Den E hp (look L' t) (((ps.zip vs).foldl (fun (s:Array Value) (p:Nat×Value)=>s.setIfInBounds p.1 p.2) tmps).getD t Go.undef):=by
 induction ps generalizing ds L with
 | nil=>
  cases ds with
  | nil=>exact⟨L,h,rfl,fun E hp tmps vs _ hk _ t=>by simpa using hk t⟩
  | cons=>exact h.elim
 | cons p ps ih=>
  cases ds with
  | nil=>exact h.elim
  | cons d ds=>
   obtain⟨hlt,h⟩:=jcJ h
   obtain⟨L',hK,hl,hf⟩:=ih h
   refine⟨L',hK,by simp[hl],fun E hp tmps vs hN hk hv=>?_⟩
   simp only[DenL] at hv
   obtain⟨v,vs',rfl,h1,h2⟩:=hv
   simp only[List.zip_cons_cons,List.foldl_cons]
   refine hf E hp _ vs' (by simpa using hN) (fun t=>?_) h2
   exact jcZ (a := { tmps:=tmps,defers:=[] }) hk (by show p<tmps.size;omega) h1 t
theorem purge_el {E E':Env}{h:Pub}{i:Nat}{L:Sl}{a:Act}(he:E.off E' i)(hk:∀ t,Den E h (look L t) (a.tmps.getD t Go.undef)):∀ t,Den E' h (look (purge i L) t) (a.tmps.getD t Go.undef):=fun t=>jbW he (hk t)
section
variable {P : Program} {tb : Tb} {inl : Inl} {N n : Nat}
theorem enter_el {r:Option Nat}{w:World}(hr:∀ l₀,r=some l₀ → ∃ r₀,w.heap[l₀]? = some (.loop r₀))(fn:FuncId)(tmps:Array Value)(ps:Array Tmp)(assign body:Code) :
  ∃ (l:Nat) (md:List Nat) (w₁:World) (d:Nat),(Instr.enterLoop fn tmps ps assign body r).run P w = .ok (l,md.map fun b=>({ target := .collected b,args := #[] } : Deferred)) w₁∧Below w.heap.size w w₁∧w.heap.size≤l ∧
   w₁.heap[l]? = some (.loop { state := .ready,pending:=none,fn,tmps,params:=ps,assign,body,defers:=d })∧md.Nodup ∧ ∀ b∈md,w.heap.size≤b∧b≠l∧w₁.heap[b]? = some (.deferred (some [])):=by
 cases r with
 | none=>
  refine⟨_,[w.heap.size],_,w.heap.size,run_enterLoop_outer fn tmps ps assign body,((Below.refl _ w).alloc (jjG _) _).alloc (by rw[World.size_alloc];omega) _,Jo,?_,Js,?_⟩
  ·have:=World.alloc_heap_new (w.alloc (.deferred (some []))) (.loop { state := .ready,pending:=none,fn,tmps,params:=ps,assign,body,defers:=w.heap.size })
   rwa [World.size_alloc] at this
  ·intro b hb
   simp only[List.mem_singleton] at hb
   subst hb
   refine⟨jjG _,Jo,?_⟩
   have h1:=World.alloc_heap_new w (.deferred (some []))
   rw[(Below.heap_alloc (w.alloc (.deferred (some []))) _ w.heap.size (by rw[World.size_alloc];omega))]
   exact h1
 | some l₀=>
  obtain⟨r₀,hr₀⟩:=hr l₀ rfl
  exact⟨_,[],_,r₀.defers,run_enterLoop_inner hr₀ fn tmps ps assign body,(Below.refl _ w).alloc (jjG _) _,jjG _,World.alloc_heap_new w _,Js,Js⟩
theorem rdy_el {i:Nat}{H:Hp}{A:Prop}(h:rdyK i H A):lookH H i=some (.lp none)∧A:=by
 obtain⟨c,hc,h⟩:=jay h
 split at h
 ·split at h
  ·exact⟨hc,h⟩
  ·exact h.elim
 ·exact h.elim
theorem round_el {assign body : Code} (hA : jgs P tb inl N n assign) (hB : jgs P tb inl N n body) {cx0 cx : Cx} {yl : Yl} (hyl : YlOk P cx0 yl) (hl0 : Later cx0 cx) {E : Env} {h : Pub} {w : World} {H : Hp} {top : Nat} (htop : cx.off ≤ top) {i : Nat} (hi : i < cx.off) {rec : Loop}
    (hlpr : E.lpr i = some rec) (h0 : lpRec rec none = rec) (h3 : rec.assign = assign) (h4 : rec.body = body) (hno : noRg assign = true)
    (M : MS cx E h w H) {vs : List Value} {Lp : Sl} (hps : rec.params.size = vs.length) (hsz : rec.tmps.size = n) (hrdy : lookH H i = some (.lp none))
    (hk : ∀ t, Den E h (look Lp t) (((rec.params.toList.zip vs).foldl (fun (s : Array Value) (p : Nat × Value) => s.setIfInBounds p.1 p.2) rec.tmps).getD t Go.undef)) {K1 : D → Hp → Prop}
    (hh : RunC P tb inl N assign yl top Lp H fun e L2 H2 => match e with
                | .normal => rdyK i H2 (RunC P tb inl N body yl top L2 ((i, .gone) :: H2) (endR i K1))
                | _ => False) :
    ∃ fn tmps assign body, (Instr.yield (E.blk i) vs.toArray).run P w = .ok (.round (E.blk i) fn tmps assign body) w ∧
      RoundIn (FR none) 0 P (E.blk i) fn tmps assign body w fun e w' => ∃ v r E' h' H', e = .returned v ∧ K1 r H' ∧ Den E' h' r v ∧ MS (cx.now E h top cx.objs) E' h' w' H' := by
  obtain ⟨hreal, r1, hr1, hl⟩ := M.mem.ok i _ hrdy
  rw [hlpr] at hr1; cases hr1
  rw [h0] at hl
  have hB0 := M.mem.base i _ hrdy rfl hreal
  have hst : rec.state = .ready := by rw [← h0]; rfl
  have hnone : cx.objs (E.blk i) = none := by
    cases hc : cx.objs (E.blk i) with
    | none => rfl
    | some o =>
      obtain ⟨_, g1, g2⟩ := M.objs _ _ hc
      rw [hl] at g2; cases g2
      have := g1.2.1 _ rfl
      rw [hst] at this; cases this
  obtain ⟨l, hle⟩ : ∃ l, l = E.blk i := ⟨_, rfl⟩
  rw [← hle] at hl hB0 hnone ⊢
  refine ⟨_, _, _, _, run_yield hl (by rw [hps]; simp), ?_⟩
  rw [h3, h4]
  let cxa : Cx := cx.now E h top cx.objs
  have hla : Later cx cxa := M.later htop (fun b o e => e)
  have Ma : MS cxa E h w H := M.now M.objs
  obtain ⟨tm, htm⟩ : ∃ tm, tm = (rec.params.zip vs.toArray).foldl (fun tmps (t, a) => tmps.setIfInBounds t a) rec.tmps := ⟨_, rfl⟩
  have htm' : tm = (rec.params.toList.zip vs).foldl (fun (s : Array Value) (p : Nat × Value) => s.setIfInBounds p.1 p.2) rec.tmps := by
    rw [htm, ← Array.foldl_toList, Array.toList_zip]
  rw [← htm]
  have htsz : tm.size = n := by
    rw [htm', ← hsz]
    generalize rec.params.toList.zip vs = zs
    generalize rec.tmps = t0
    induction zs generalizing t0 with
    | nil => rfl
    | cons z zs ih => rw [List.foldl_cons, ih]; simp
  have Sa : Sat cxa E h { tmps := tm, defers := [] } w Lp H := Ma.sat (fun t => by show Den E h _ (tm.getD t Go.undef); rw [htm']; exact hk t) ⟨[], Js, rfl, Js⟩
  refine roundIn_of_wpIn (F := FR none) trivial ?_
  refine hA cxa yl (some l) Lp H _ _ (hyl.later (hl0.trans hla)) (.inl hno) hh ?_ E h _ w htsz Sa
  intro e L2 H2 E2 hp2 a2 w2 hK2 hs2 S2
  have hitop : i < top := jjN hi htop
  cases e with
  | normal =>
    obtain ⟨hrdy2, hK2⟩ := rdy_el hK2
    obtain ⟨hreal2, r2, hr2, hl2⟩ := S2.mem.ok i _ hrdy2
    have low2 := S2.low i hitop
    have hlp2 : E2.lpr i = some rec := by rw [low2.2.2.2.2]; exact hlpr
    rw [hlp2] at hr2; cases hr2
    have hbl2 : E2.blk i = l := low2.1.trans hle.symm
    rw [hbl2, h0] at hl2
    refine ⟨_, run_beginRound hl2 hst, ?_⟩
    let cxb : Cx := { cxa with objs := fun b => if b = l then some (.loop { rec with state := .busy }) else cx.objs b }
    have hheld : held (.loop { rec with state := .busy }) := ⟨rfl, (fun r e => by cases e; rfl), fun _ _ e => by cases e⟩
    have hob : ∀ b q, cxb.objs b = some q → (b ≠ l ∧ cxa.objs b = some q) ∨ (b = l ∧ q = .loop { rec with state := .busy } ∧ held (.loop { rec with state := .busy })) := by
      intro b q hq
      by_cases e : b = l
      · right; simp only [cxb, e, if_true] at hq; cases hq; exact ⟨e, rfl, hheld⟩
      · left; simp only [cxb, e, if_false] at hq; exact ⟨e, hq⟩
    have Mb : MS cxb E2 hp2 (w2.putObj l (.loop { rec with state := .busy })) ((i, .gone) :: H2) := (S2.ms.gone i).putObj hl2 rfl hB0 hob (fun j p hj hrj e => by
      rw [jag] at hj
      split at hj
      · cases hj
      · rename_i hne
        refine S2.mem.inj i j _ _ hne hrdy2 hj rfl rfl hreal2 hrj ?_
        rw [hbl2, e])
    have Sb : Sat cxb E2 hp2 a2 (w2.putObj l (.loop { rec with state := .busy })) L2 ((i, .gone) :: H2) := by
      refine Mb.sat S2.knows ?_
      obtain ⟨ms, g0, g1, g2⟩ := S2.side.marks
      refine ⟨ms, g0, g1, fun b hb => ?_⟩
      obtain ⟨k1, k2, k3⟩ := g2 b hb
      have hbl : b ≠ l := fun e => by subst e; rw [hl2] at k3; cases k3
      exact ⟨k1, by simp only [cxb, hbl, if_false]; exact k2, by rw [World.putObj_heap_other hbl]; exact k3⟩
    have hlab : Later cxa cxb := ⟨rfl, Pub.Le.refl _, fun _ _ _ => rfl, jjG _, fun _ _ => .refl _ _, fun b o hbo => by
      have hbl : b ≠ l := fun e => by subst e; rw [show cxa.objs b = cx.objs b from rfl, hnone] at hbo; cases hbo
      simp only [cxb, hbl, if_false]; exact hbo⟩
    refine hB cxb yl (some l) L2 _ _ _ (hyl.later ((hl0.trans hla).trans hlab)) (.inr fun l₀ e => by cases e; exact ⟨{ rec with state := .busy }, by simp [cxb]⟩) hK2 ?_ E2 hp2 a2 _ hs2 Sb
    intro e L3 H3 E3 hp3 a3 w3 hK3 hs3 S3
    have hl3 : w3.heap[l]? = some (.loop { rec with state := .busy }) := (S3.side.objs l _ (by simp [cxb])).2.2
    have low3 := S3.low i hitop
    have low3' : E3.blk i = E.blk i ∧ E3.siz i = E.siz i ∧ E3.kn i = E.kn i ∧ E3.real i = E.real i ∧ E3.lpr i = E.lpr i := low3
    have hbl3 : E3.blk i = l := by rw [low3'.1, hle]
    have hlp3 : E3.lpr i = some rec := by rw [low3'.2.2.2.2]; exact hlpr
    have hreal3 : E3.real i = true := by rw [low3'.2.2.2.1]; exact hreal
    have hlpn : ∀ j p, lookH H3 j = some (.lp p) → E3.real j = true → E3.blk j ≠ l := fun j p hj hrj e => by
      obtain ⟨_, r, _, g⟩ := S3.mem.ok j _ hj
      rw [e, hl3] at g
      have g2 := congrArg (fun o : Option Obj => match o with | some (.loop r) => r.state | _ => .busy) g
      simp only [lpRec] at g2
      cases p <;> simp at g2
    have fin : ∀ p : Option Code, MS (cx.now E h top cx.objs) E3 hp3 (w3.putObj l (.loop (lpRec rec p))) ((i, .lp p) :: H3) := fun p => by
      have := S3.ms.putObj (o' := .loop (lpRec rec p)) (objs := cx.objs) hl3 rfl hB0 (fun b q hq => by
        by_cases e : b = l
        · subst e; rw [hnone] at hq; cases hq
        · exact .inl ⟨e, by simp only [cxb, e, if_false]; exact hq⟩) hlpn
      refine MS.mark (r := rec) (p := p) this hreal3 hlp3 ?_ (by rw [hbl3]; exact hB0) ?_
      · rw [hbl3]; exact World.putObj_heap_same (Array.getElem?_eq_some_iff.1 hl3).1
      · intro j c hj hc hlv hrj
        rw [hbl3]
        cases hcl : c.cel with
        | true =>
          obtain ⟨cs, T, f, hcell⟩ := (S3.mem.ok j c hc).cells hcl hrj
          intro e
          rw [e, hl3] at hcell; cases hcell
        | false =>
          cases c with
          | lp q => exact hlpn j q hc hrj
          | mp q =>
            intro e
            obtain ⟨_, x, ck, g, _⟩ := S3.mem.ok j _ hc
            rw [e, hl3] at g; cases g
          | gone => simp [Chunk.live] at hlv
          | _ => simp [Chunk.cel] at hcl
    cases e with
    | normal => exact ⟨_, _, run_endRound none hl3, _, .bool true, E3, hp3, _, rfl, hK3, by simp [Den], fin none⟩
    | ret => exact ⟨_, _, run_endRound (some .ret) hl3, _, .bool false, E3, hp3, _, rfl, hK3, by simp [Den], fin (some .ret)⟩
    | exit j => exact ⟨_, _, run_endRound (some (.exit j)) hl3, _, .bool false, E3, hp3, _, rfl, hK3, by simp [Den], fin (some (.exit j))⟩
    | _ => exact hK3.elim
  | _ => exact hK2.elim
end
end Go.V
end
