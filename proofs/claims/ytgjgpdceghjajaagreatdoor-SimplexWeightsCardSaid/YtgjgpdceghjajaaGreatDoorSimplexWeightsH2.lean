/- Laws of a small interpreter over plain values, part 2. No condition. -/
import Derived.Test.YtgjgpdceghjajaaGreatDoorSimplexWeightsH1
set_option linter.unusedSimpArgs false
set_option linter.unusedVariables false
set_option maxHeartbeats 8000000
set_option maxRecDepth 100000
section
namespace Go.V
open Go Go.RowKit
def Env.set (E:Env)(i b s n:Nat):Env:=⟨fun j=>if j=i then b else E.blk j,fun j=>if j=i then s else E.siz j,fun j=>if j=i then n else E.kn j,fun j=>if j=i then true else E.real j,E.lpr⟩
theorem Env.off_set (E:Env)(i b s n:Nat):E.off (E.set i b s n) i:=fun j hj=>by simp[Env.set,hj]
theorem Env.set_blk (E:Env)(i b s n:Nat):(E.set i b s n).blk i=b:=by simp[Env.set]
theorem Env.set_siz (E:Env)(i b s n:Nat):(E.set i b s n).siz i=s:=by simp[Env.set]
theorem Env.set_real (E:Env)(i b s n:Nat):(E.set i b s n).real i=true:=by simp[Env.set]
theorem Env.set_real_ne (E:Env){i j:Nat}(b s n:Nat)(h:j≠i):(E.set i b s n).real j=E.real j:=by simp[Env.set,h]
theorem Env.set_kn (E:Env)(i b s n:Nat):(E.set i b s n).kn i=n:=by simp[Env.set]
theorem Env.set_blk_ne (E:Env){i j:Nat}(b s n:Nat)(h:j≠i):(E.set i b s n).blk j=E.blk j:=by simp[Env.set,h]
def purge (i:Nat):Sl→Sl
 | []=>[]
 | (t,d)::L=>(t,match D.free i d with|true=>d|false => .any)::purge i L
def jdq (i:Nat):Sl→(Sl→Prop)→Prop
 | [],K=>K []
 | (t,d)::L,K=>match D.free i d with
  | true=>jdq i L fun L'=>K ((t,d)::L')
  | false=>jdq i L fun L'=>K ((t,.any)::L')
theorem jcI (i:Nat)(L:Sl)(K:Sl→Prop):jdq i L K=K (purge i L):=by
 induction L generalizing K with
 | nil=>rfl
 | cons x L ih=>
  obtain⟨t,d⟩:=x
  simp only[jdq,purge]
  cases D.free i d<;>simp[ih]
def jc8 (i:Nat):List D→List D
 | []=>[]
 | d::ds=>(match D.free i d with|true=>d|false => .any)::jc8 i ds
def jdr (i:Nat):List D→(List D→Prop)→Prop
 | [],K=>K []
 | d::ds,K=>match D.free i d with
  | true=>jdr i ds fun ds'=>K (d::ds')
  | false=>jdr i ds fun ds'=>K (.any::ds')
theorem jhl (i:Nat)(ds:List D)(K:List D→Prop):jdr i ds K=K (jc8 i ds):=by
 induction ds generalizing K with
 | nil=>rfl
 | cons d ds ih=>
  simp only[jdr,jc8]
  cases D.free i d<;>simp[ih]
def jci (i:Nat):Chunk→Chunk
 | .box ds => .box (jc8 i ds)
 | .arr k xs => .arr k xs
 | .gone => .gone
 | .lp p => .lp p
theorem jbe (i:Nat)(c:Chunk):(jci i c).live=c.live:=by cases c<;>rfl
def jaG (i:Nat):Hp→Hp
 | []=>[]
 | (j,c)::H=>(j,jci i c)::jaG i H
def jbU (i:Nat):Hp→(Hp→Prop)→Prop
 | [],K=>K []
 | (j,c)::H,K=>match c with
  | .box ds=>jdr i ds fun ds'=>jbU i H fun H'=>K ((j,.box ds')::H')
  | .arr k xs=>jbU i H fun H'=>K ((j,.arr k xs)::H')
  | .gone=>jbU i H fun H'=>K ((j,.gone)::H')
  | .lp p=>jbU i H fun H'=>K ((j,.lp p)::H')
theorem jch (i:Nat)(H:Hp)(K:Hp→Prop):jbU i H K=K (jaG i H):=by
 induction H generalizing K with
 | nil=>rfl
 | cons x L ih=>
  obtain⟨t,d⟩:=x
  cases d<;>simp[jbU,jaG,jci,jhl,ih]
theorem jbP {i:Nat}{L:Sl}{t:Nat}{E E':Env}{h:Pub}{v:Value}(he:E.off E' i)(H:Den E h (look L t) v):Den E' h (look (purge i L) t) v:=by
 induction L with
 | nil=>simp[purge,look,Den]
 | cons x L ih=>
  obtain⟨s,d⟩:=x
  simp only[purge]
  rw[jaK] at H ⊢
  split
  ·rename_i hs
   rw[if_pos hs] at H
   cases hf:D.free i d with
   | true=>exact Den.env he hf H
   | false=>simp[Den]
  ·rename_i hs
   rw[if_neg hs] at H
   exact ih H
theorem jbf {i:Nat}{H:Hp}{j:Nat}{c:Chunk}(h:lookH (jaG i H) j=some c):∃ c0,lookH H j=some c0∧c=jci i c0:=by
 induction H with
 | nil=>simp[jaG,lookH] at h
 | cons x H ih=>
  obtain⟨s,d⟩:=x
  simp only[jaG] at h
  rw[jag] at h ⊢
  split
  ·rename_i hs
   rw[if_pos hs] at h
   exact⟨d,rfl,(Option.some.inj h).symm⟩
  ·rename_i hs
   rw[if_neg hs] at h
   exact ih h
theorem jfA {E E':Env}{h:Pub}{i:Nat}(he:E.off E' i):∀ {ds:List D} {vs:List Value},DenL E h ds vs→DenL E' h (jc8 i ds) vs
 | [],_,H=>by simpa [DenL,jc8] using H
 | d::ds,vs,H=>by
  simp only[DenL,jc8] at H ⊢
  obtain⟨v,vs',h1,h2,h3⟩:=H
  refine⟨v,vs',h1,?_,jfA he h3⟩
  cases hf:D.free i d with
  | true=>exact Den.env he hf h2
  | false=>simp[Den]
theorem ChunkOk.env {E E':Env}{h:Pub}{w:World}{i j:Nat}{c:Chunk}(he:E.off E' i)(hj:j≠i)(H:ChunkOk E h w j c):ChunkOk E' h w j (jci i c):=by
 cases c with
 | gone=>trivial
 | box ds=>
  obtain⟨h0,vs,rest,T,h1,h2,h3,h4⟩:=H
  exact⟨by rw[(he j hj).2.2.2.1];exact h0,vs,rest,T,by rw[(he j hj).1];exact h1,jfA he h2,h3,by rw[(he j hj).2.1];exact h4⟩
 | arr k xs=>
  simp only[ChunkOk,jci] at H ⊢
  rw[(he j hj).1,(he j hj).2.1,(he j hj).2.2.1,(he j hj).2.2.2.1];exact H
 | lp p=>
  simp only[ChunkOk,jci] at H ⊢
  rw[(he j hj).1,(he j hj).2.2.2.1,(he j hj).2.2.2.2];exact H
theorem ChunkOk.heap {E:Env}{h:Pub}{w w':World}{j:Nat}{c:Chunk}(hb:w'.heap[E.blk j]? = w.heap[E.blk j]?)(H:ChunkOk E h w j c):ChunkOk E h w' j c:=by
 cases c with
 | gone=>trivial
 | box ds=>
  obtain⟨h0,vs,rest,T,h1,h2,h3⟩:=H
  exact⟨h0,vs,rest,T,by rw[hb];exact h1,h2,h3⟩
 | arr k xs=>
  simp only[ChunkOk] at H ⊢
  rw[hb];exact H
 | lp p=>
  simp only[ChunkOk] at H ⊢
  rw[hb];exact H
theorem ChunkOk.virt {E:Env}{h:Pub}{w w':World}{j:Nat}{c:Chunk}(hr:E.real j=false)(H:ChunkOk E h w j c):ChunkOk E h w' j c:=by
 cases c with
 | gone=>trivial
 | box ds=>exact absurd H.1 (by rw[hr];decide)
 | arr k xs=>
  rcases H with H|H
  ·exact .inl H
  ·exact absurd H.1 (by rw[hr];decide)
 | lp p=>exact absurd H.1 (by rw[hr];decide)
theorem ChunkOk.keep {E:Env}{h:Pub}{w w':World}{j:Nat}{c:Chunk}(hb:c.live=true→E.real j=true→w'.heap[E.blk j]? = w.heap[E.blk j]?)(H:ChunkOk E h w j c):ChunkOk E h w' j c:=by
 cases hl:c.live with
 | false=>cases c<;>first|trivial|simp[Chunk.live] at hl
 | true=>
  cases hr:E.real j with
  | false=>exact H.virt hr
  | true=>exact H.heap (hb hl hr)
theorem ChunkOk.mono {E:Env}{h h':Pub}{w:World}{j:Nat}{c:Chunk}(hh:h.Le h')(H:ChunkOk E h w j c):ChunkOk E h' w j c:=by
 cases c with
 | gone=>trivial
 | box ds=>
  obtain⟨h0,vs,rest,T,h1,h2,h3⟩:=H
  exact⟨h0,vs,rest,T,h1,DenL.mono hh h2,h3⟩
 | arr k xs=>exact H
 | lp p=>exact H
theorem ChunkOk.lt {E:Env}{h:Pub}{w:World}{j:Nat}{c:Chunk}(hl:c.live=true)(hr:E.real j=true)(H:ChunkOk E h w j c):E.blk j<w.heap.size:=by
 cases c with
 | gone=>simp[Chunk.live] at hl
 | box ds=>obtain⟨_,vs,rest,T,h1,_⟩:=H;exact(Array.getElem?_eq_some_iff.1 h1).1
 | arr k xs=>obtain⟨r,T,h1,_⟩:=ja2 hr H;exact(Array.getElem?_eq_some_iff.1 h1).1
 | lp p=>obtain⟨_,r,_,h1⟩:=H;exact(Array.getElem?_eq_some_iff.1 h1).1
theorem ChunkOk.cells {E:Env}{h:Pub}{w:World}{j:Nat}{c:Chunk}(hl:c.cel=true)(hr:E.real j=true)(H:ChunkOk E h w j c):∃ cs T f,w.heap[E.blk j]? = some (.cells cs T f):=by
 cases c with
 | gone=>simp[Chunk.cel] at hl
 | lp p=>simp[Chunk.cel] at hl
 | box ds=>obtain⟨_,vs,rest,T,h1,_⟩:=H;exact⟨_,_,_,h1⟩
 | arr k xs=>obtain⟨r,T,h1,_⟩:=ja2 hr H;exact⟨_,_,_,h1⟩
theorem Agree.lt {h:Pub}{w:World}(ha:Agree h w){b o:Nat}{v:Value}(hv:h b o=some v):b<w.heap.size:=
 World.block_lt_of_cell? (w:=w) (a:=⟨b,o,none⟩) (ha b o v hv)
section
variable {cx : Cx} {E : Env} {h : Pub} {a : Act} {w : World} {L : Sl} {H : Hp}
theorem jeH {cx:Cx}{E E':Env}{i:Nat}(hl:∀ j,j<cx.off→E.blk j=cx.E0.blk j∧E.siz j=cx.E0.siz j∧E.kn j=cx.E0.kn j∧E.real j=cx.E0.real j∧E.lpr j=cx.E0.lpr j)(he:E.off E' i)(ho:cx.off≤i) :
  ∀ j,j<cx.off→E'.blk j=cx.E0.blk j∧E'.siz j=cx.E0.siz j∧E'.kn j=cx.E0.kn j∧E'.real j=cx.E0.real j∧E'.lpr j=cx.E0.lpr j:=fun j hj=>by
 obtain⟨h1,h2,h3,h4,h5⟩:=he j (by omega)
 rw[h1,h2,h3,h4,h5];exact hl j hj
theorem Sat.facts (S:Sat cx E h a w L H):Facts E h a w L H:=⟨S.knows,fun i c hc=>S.mem.ok i c hc,S.agree⟩
theorem jcX (a:Act)(d t:Nat)(v:Value):(a.put (some d) v).tmps.getD t Go.undef=if d=t∧d<a.tmps.size then v else a.tmps.getD t Go.undef:=by
 simp only[Act.put,Array.getD_eq_getD_getElem?,Array.getElem?_setIfInBounds]
 by_cases h:d=t
 ·subst h
  by_cases h2:d<a.tmps.size
  ·simp[h2]
  ·simp[h2]
 ·simp[h]
theorem jcM {E:Env}{h:Pub}{a:Act}{L:Sl}(hk:∀ t,Den E h (look L t) (a.tmps.getD t Go.undef)){d:Nat}{r:D}{v:Value}(hd:d<a.tmps.size)(hv:Den E h r v) :
  ∀ t,Den E h (look ((d,r)::L) t) ((a.put (some d) v).tmps.getD t Go.undef):=by
 intro t
 rw[jaK,jcX]
 by_cases e:d=t
 ·rw[if_pos e,if_pos ⟨e,hd⟩];exact hv
 ·rw[if_neg e,if_neg (fun x=>e x.1)];exact hk t
theorem Sat.put (S : Sat cx E h a w L H) {d : Nat} {r : D} {v : Value} (hd : d < a.tmps.size) (hv : Den E h r v) : Sat cx E h (a.put (some d) v) w ((d, r) :: L) H :=
  { knows := jcM S.knows hd hv
    mem := S.mem, agree := S.agree, since := S.since, low := S.low, side := S.side }
theorem Agree.of_blocks {h:Pub}{w w':World}(ha:Agree h w)(hb:∀ b,(∃ o v,h b o=some v)→w'.heap[b]? = w.heap[b]?):Agree h w':=⟨fun b o v hv=>by
 rw[World.cell?_of_block (w:=w) (hb b ⟨o,v,hv⟩)];exact ha b o v hv,ha.glob,⟨fun g vs hg=>by
 obtain⟨h1,T,f,h2⟩:=ha.blk.1 g vs hg
 obtain⟨v,hv⟩:∃ v,vs[0]? = some v:=by cases vs with|nil=>exact absurd rfl h1|cons v r=>exact⟨v,rfl⟩
 exact⟨h1,T,f,(hb g ⟨0,v,ha.glob g vs hg 0 v hv⟩).trans h2⟩,fun g hg=>by
 obtain⟨tp,p,T,f,h2⟩:=ha.blk.2 g hg
 obtain⟨v,hv⟩:=ha.errs g hg
 exact⟨tp,p,T,f,(hb g ⟨0,v,hv⟩).trans h2⟩⟩,ha.errs⟩
theorem Sat.world (S : Sat cx E h a w L H) {w' : World} (hb : Below w.heap.size w w') : Sat cx E h a w' L H :=
  { knows := S.knows
    mem :=
      { ok := fun i c hc => (S.mem.ok i c hc).keep fun hl hr => hb.block _ ((S.mem.ok i c hc).lt hl hr)
        base := S.mem.base, unpub := S.mem.unpub, inj := S.mem.inj }
    agree := S.agree.of_blocks fun b ⟨_, _, hv⟩ => hb.block b (S.agree.lt hv)
    since := ⟨S.since.below.trans (hb.mono S.since.below.size), S.since.le, S.since.old⟩
    low := S.low
    side := S.side.below hb }
theorem Sat.alloc (S:Sat cx E h a w L H){i:Nat}{r:D}{c:Chunk}{v:Value}{w':World}{s n:Nat}
  (hb:Below w.heap.size w w')
  (hc:ChunkOk (E.set i w.heap.size s n) h w' i c) {d:Nat} (hi:d<a.tmps.size) (ho:cx.off≤i) (hv:Den (E.set i w.heap.size s n) h r v) :
  Sat cx (E.set i w.heap.size s n) h (a.put (some d) v) w' ((d,r)::purge i L) ((i,c)::jaG i H):=by
 have hoff:=E.off_set i w.heap.size s n
 have hsz:cx.w0.heap.size≤w.heap.size:=S.since.below.size
 have live:∀ j c',j≠i→lookH ((i,c)::jaG i H) j=some c'→c'.live=true → ∃ c0,lookH H j=some c0∧c'=jci i c0∧c0.live=true:=by
  intro j c' hj hc' hl
  rw[jag,if_neg (Ne.symm hj)] at hc'
  obtain⟨c0,h1,h2⟩:=jbf hc'
  exact⟨c0,h1,h2,by rw[h2,jbe] at hl;exact hl⟩
 refine { knows:=?_,mem:=?_,agree:=?_,since:=?_,low:=fun j hj=>jeH S.low hoff ho j hj,side:=S.side.below hb }
 ·exact jcM (fun t=>jbP hoff (S.knows t)) hi hv
 ·refine { ok:=?_,base:=?_,unpub:=?_,inj:=?_ }
  ·intro j c' hc'
   by_cases hj:j=i
   ·subst hj;rw[jag,if_pos rfl] at hc';cases hc';exact hc
   ·cases hl:c'.live with
    | false=>cases c'<;>first|trivial|(simp[Chunk.live] at hl)
    | true=>
     obtain⟨c0,h1,rfl,hl'⟩:=live j c' hj hc' hl
     have h4:=S.mem.ok j _ h1
     refine ChunkOk.env hoff hj (h4.keep fun hl hr=>hb.block _ (h4.lt hl hr))
  ·intro j c' hc' hl hr
   by_cases hj:j=i
   ·subst hj;rw[Env.set_blk];exact hsz
   ·obtain⟨c0,h1,rfl,hl'⟩:=live j c' hj hc' hl
    rw[E.set_real_ne _ _ _ hj] at hr
    rw[E.set_blk_ne _ _ _ hj];exact S.mem.base j _ h1 hl' hr
  ·intro j c' hc' hl hr o
   by_cases hj:j=i
   ·subst hj
    rw[Env.set_blk]
    cases ho:h w.heap.size o with
    | none=>rfl
    | some v'=>exact absurd (S.agree.lt ho) (Nat.lt_irrefl _)
   ·obtain⟨c0,h1,rfl,hl'⟩:=live j c' hj hc' hl
    rw[E.set_real_ne _ _ _ hj] at hr
    rw[E.set_blk_ne _ _ _ hj];exact S.mem.unpub j _ h1 hl' hr o
  ·intro j k c1 c2 hjk h1 h2 l1 l2 r1 r2
   by_cases hj:j=i
   ·subst hj
    obtain⟨c0,g1,rfl,l2'⟩:=live k c2 (Ne.symm hjk) h2 l2
    rw[E.set_real_ne _ _ _ (Ne.symm hjk)] at r2
    rw[Env.set_blk,E.set_blk_ne _ _ _ (Ne.symm hjk)]
    have:=(S.mem.ok k _ g1).lt l2' r2
    omega
   ·obtain⟨c0,g1,rfl,l1'⟩:=live j c1 hj h1 l1
    by_cases hk:k=i
    ·subst hk
     rw[E.set_real_ne _ _ _ hj] at r1
     rw[Env.set_blk,E.set_blk_ne _ _ _ hj]
     have:=(S.mem.ok j _ g1).lt l1' r1
     omega
    ·obtain⟨c0',g2,rfl,l2'⟩:=live k c2 hk h2 l2
     rw[E.set_real_ne _ _ _ hj] at r1
     rw[E.set_real_ne _ _ _ hk] at r2
     rw[E.set_blk_ne _ _ _ hj,E.set_blk_ne _ _ _ hk]
     exact S.mem.inj j k _ _ hjk g1 g2 l1' l2' r1 r2
 ·exact S.agree.of_blocks fun b ⟨_,_,hv⟩=>hb.block b (S.agree.lt hv)
 ·exact⟨S.since.below.trans (hb.mono S.since.below.size),S.since.le,S.since.old⟩
theorem Sat.write (S:Sat cx E h a w L H){i:Nat}{c c':Chunk}{w':World}(hc:lookH H i=some c)(hl:c.live=true)(hr:E.real i=true)
  (ho:w'.os=w.os) (ht:w'.tape=w.tape) (hout:w'.output=w.output) (hsz:w'.heap.size=w.heap.size) (hb:∀ b,b≠E.blk i→w'.heap[b]? = w.heap[b]?)
  (hc':ChunkOk E h w' i c') (hcel:c.cel=true:=by rfl):Sat cx E h a w' L ((i,c')::H):=by
 have hbase:=S.mem.base i c hc hl hr
 refine { knows:=S.knows,mem:=?_,agree:=?_,since:=?_,low:=S.low,side:=S.side.keep fun b o hbo hno=>?_ }
 ·refine { ok:=?_,base:=?_,unpub:=?_,inj:=?_ }
  ·intro j d hd
   rw[jag] at hd
   split at hd
   ·rename_i e;subst e;cases hd;exact hc'
   ·rename_i e
    exact(S.mem.ok j d hd).keep fun hld hrd=>hb _ (S.mem.inj j i d c (Ne.symm e) hd hc hld hl hrd hr)
  ·intro j d hd hld hrd
   rw[jag] at hd
   split at hd
   ·rename_i e;subst e;exact hbase
   ·exact S.mem.base j d hd hld hrd
  ·intro j d hd hld hrd o
   rw[jag] at hd
   split at hd
   ·rename_i e;subst e;exact S.mem.unpub i c hc hl hr o
   ·exact S.mem.unpub j d hd hld hrd o
  ·intro j k c1 c2 hjk h1 h2 l1 l2 r1 r2
   rw[jag] at h1 h2
   split at h1
   ·rename_i e;subst e
    rw[if_neg hjk] at h2
    exact S.mem.inj i k c c2 hjk hc h2 hl l2 r1 r2
   ·split at h2
    ·rename_i e;subst e
     exact S.mem.inj j i c1 c hjk h1 hc l1 hl r1 r2
    ·exact S.mem.inj j k c1 c2 hjk h1 h2 l1 l2 r1 r2
 ·refine S.agree.of_blocks fun b ⟨o,v,hv⟩=>hb b (fun e=>?_)
  subst e
  rw[S.mem.unpub i c hc hl hr o] at hv;cases hv
 ·refine⟨S.since.below.trans ⟨ho,ht,hout,by omega,fun k hk=>hb k (by omega)⟩,S.since.le,S.since.old⟩
 ·rw[hb b (fun e=>?_)]
  ·exact hbo
  ·subst e
   obtain⟨cs,T,f,hcell⟩:=(S.mem.ok i c hc).cells hcel hr
   rw[hcell] at hbo;cases hbo;cases hno
end
end Go.V
end
section
namespace Go.V
open Go Go.RowKit
abbrev K2:=Sl→Hp→Prop
def ltK (d N:Nat)(K:Prop):Prop:=match Nat.blt d N with|true=>K|false=>False
theorem jc5 {d N:Nat}{K:Prop}(h:ltK d N K):d<N∧K:=by
 unfold ltK at h
 cases hb:Nat.blt d N with
 | true=>rw[hb] at h;exact⟨by have:=jiE hb;omega,h⟩
 | false=>rw[hb] at h;exact h.elim
def newK (off d:Nat)(r:D)(c:Chunk)(L:Sl)(H:Hp)(K:K2):Prop:=
 jdq (off+d) L fun L'=>jbU (off+d) H fun H'=>K ((d,r)::L') ((off+d,c)::H')
theorem jf4 (off d:Nat)(r:D)(c:Chunk)(L:Sl)(H:Hp)(K:K2):newK off d r c L H K=K ((d,r)::purge (off+d) L) ((off+d,c)::jaG (off+d) H):=by
 unfold newK;rw[jcI,jch]
def jda (k:IntKind):List D→(List Int→Prop)→Prop
 | [],K=>K []
 | .int k' n::ds,K=>match kE k k' with|true=>jda k ds fun xs=>K (n::xs)|false=>False
 | _::_,_=>False
theorem jdx {k:IntKind}{ds:List D}{K:List Int→Prop}(hh:jda k ds K) :
  ∃ xs,K xs∧ds=xs.map (D.int k):=by
 induction ds generalizing K with
 | nil=>exact⟨[],hh,rfl⟩
 | cons d ds ih=>
  cases d<;>simp only[jda] at hh
  case int k' n=>
   cases hk:kE k k' with
   | false=>rw[hk] at hh;exact hh.elim
   | true=>
    rw[hk] at hh
    have:=kE_eq hk;subst this
    obtain⟨xs,h1,h2⟩:=ih hh
    exact⟨n::xs,h1,by simp[h2]⟩
  all_goals exact hh.elim
theorem jdE {E:Env}{h:Pub}{k:IntKind}{xs:List Int}{vs:List Value}(H:DenL E h (xs.map (D.int k)) vs):vs=xs.map (Value.int k) ∧ ∀ n∈xs,InR k n:=by
 induction xs generalizing vs with
 | nil=>simp only[List.map_nil,DenL] at H;simp[H]
 | cons x xs ih=>
  simp only[List.map_cons,DenL,Den] at H
  obtain⟨v,vs',rfl,⟨rfl,h1⟩,h2⟩:=H
  obtain⟨rfl,h3⟩:=ih h2
  refine⟨rfl,fun n hn=>?_⟩
  rcases jjg.1 hn with rfl|hn
  ·exact h1
  ·exact h3 n hn
theorem jbi {k:IntKind}{xs:List Int} : ∀ v∈xs.map (Value.int k),v.oneCell'=true:=by
 intro v hv
 obtain⟨n,_,rfl⟩:=List.mem_map.1 hv
 rfl
def chunkK (tb:Tb)(y:Ty)(d:D)(K:Chunk→Prop):Prop:=match d with
 | .iarr k xs=>K (.arr k xs)
 | d=>match y.kind with
  | .arr _ e=>tyK tb e fun ye=>match ye.kind with
   | .int k=>jd4 d fun ds=>jda k ds fun xs=>K (.arr k xs)
   | _=>jd4 d fun ds=>K (.box ds)
  | _=>jd4 d fun ds=>K (.box ds)
theorem chunk_el {tb:Tb}{y:Ty}{d:D}{K:Chunk→Prop}(hh:chunkK tb y d K) :
  ∃ c,K c∧c.live=true ∧ ∀ E h v,Den E h d v → ∀ (w:World) (i T:Nat),w.heap[E.blk i]? = some (.cells v.cells T (0,0))→E.siz i=v.cells.size→E.real i=true→(∀ k xs,c = .arr k xs→E.kn i=xs.length)→ChunkOk E h w i c:=by
 have box:∀ {K:Chunk→Prop},jd4 d (fun ds=>K (.box ds)) → ∃ c,K c∧c.live=true ∧ ∀ E h v,Den E h d v → ∀ (w:World) (i T:Nat),w.heap[E.blk i]? = some (.cells v.cells T (0,0))→E.siz i=v.cells.size→E.real i=true→(∀ k xs,c = .arr k xs→E.kn i=xs.length)→ChunkOk E h w i c:=by
  intro K hh
  obtain⟨ds,h1,h2⟩:=jel hh
  exact⟨_,h1,rfl,fun E h v hv w i T hw hs hr _=>⟨hr,v.cells.toList,[],T,by simpa using hw,(h2 E h v hv).1,(h2 E h v hv).2,by simpa using hs⟩⟩
 unfold chunkK at hh
 split at hh
 ·rename_i k xs
  refine⟨_,hh,rfl,fun E h v hv w i T hw hs hreal hkn=>?_⟩
  simp only[Den] at hv
  obtain⟨rfl,hr⟩:=hv
  exact .inr ⟨hreal,[],T,by simpa [Value.cells] using hw,by simpa [Value.cells] using hs,hr,hkn _ _ rfl⟩
 ·split at hh
  ·have hx:=jaj hh;clear hh;obtain⟨ye,hye,hh⟩:=hx
   split at hh
   ·rename_i k _
    obtain⟨ds,h1,h2⟩:=jel hh
    obtain⟨xs,h3,rfl⟩:=jdx h1
    refine⟨_,h3,rfl,fun E h v hv w i T hw hs hreal hkn=>?_⟩
    obtain⟨h4,h5⟩:=jdE (h2 E h v hv).1
    refine .inr ⟨hreal,[],T,?_,?_,h5,hkn _ _ rfl⟩
    ·rw[hw];congr 2;apply Array.toList_inj.1;simp[h4]
    ·rw[hs,← Array.length_toList,h4];simp
   ·exact box hh
  ·exact box hh
theorem jfk {P:Program}(t:TypeId)(v:Value)(w:World):(newVar t v).run P w = .ok ⟨w.heap.size,0,none⟩ (w.alloc (.cells v.cells t)):=by
 simp[newVar,newRow]
theorem jb4 (w:World)(c:Array Value)(t:TypeId):(w.alloc (.cells c t)).heap[w.heap.size]? = some (.cells c t (0,0)):=heap_alloc_new w _
def Heavy (P:Program)(N:Nat)(cx:Cx)(Q:Exit→Act→World→Prop)(o:Oper)(K:K2)(L:Sl)(H:Hp):Prop:=
 ∀ E h a w,N≤a.tmps.size→Sat cx E h a w L H → ∀ next:Act→World→Prop,
  (∀ L' H' E' h' a' w',K L' H'→a'.tmps.size=a.tmps.size→Sat cx E' h' a' w' L' H'→next a' w')→o.wp P a w next Q
theorem jaB (a:Act)(d:Option Nat)(v:Value):(a.put d v).tmps.size=a.tmps.size:=by
 cases d<;>simp[Act.put]
section
variable {P : Program} {tb : Tb} {N : Nat} {cx : Cx} {Q : Exit → Act → World → Prop} {o : Oper} {L : Sl} {H : Hp} {K : K2}
theorem jbA {d : Nat} {r : D} {c : Chunk} (hd : o.dst = some d) (hK : ltK d N (newK cx.off d r c L H K))
    (hrun : ∀ E h a w, Sat cx E h a w L H → ∃ v w' s n, (execOp a.eval o).run P w = .ok (.value v) w' ∧ Below w.heap.size w w' ∧
      ChunkOk (E.set (cx.off + d) w.heap.size s n) h w' (cx.off + d) c ∧ Den (E.set (cx.off + d) w.heap.size s n) h r v) : Heavy P N cx Q o K L H := by
  intro E h a w hN S next hnext
  obtain ⟨hlt, hK⟩ := jc5 hK
  rw [jf4] at hK
  obtain ⟨v, w', s, n, h1, h2, h3, h4⟩ := hrun E h a w S
  unfold Oper.wp
  rw [h1]
  simp only [Oper.upon, hd]
  exact hnext _ _ _ _ _ _ hK (jaB _ _ _) (S.alloc h2 h3 (by omega) (Nat.le_add_right _ _) h4)
def Chunk.kn:Chunk→Nat
 | .arr _ xs=>xs.length
 | _=>0
def jfc (tb:Tb)(y:Ty)(K:Chunk→Prop):Prop:=match y.kind with
 | .arr _ e=>tyK tb e fun ye=>match ye.kind with
  | .int k=>jda k y.zero fun xs=>K (.arr k xs)
  | _=>K (.box y.zero)
 | _=>K (.box y.zero)
def allocK (tb:Tb)(N off:Nat)(d t:Nat)(L:Sl)(H:Hp)(K:K2):Prop:=tyK tb t fun y=>jfc tb y fun c=>ltK d N (newK off d (.box (off+d) 0) c L H K)
theorem alloc_el (htb:TbOk P tb){d t:Nat}(hd:o.dst=some d)(ho:o.op = .alloc t)(hh:allocK tb N cx.off d t L H K):Heavy P N cx Q o K L H:=by
 have hx:=jaj hh;clear hh;obtain⟨y,hy,hh⟩:=hx
 have hty:=htb _ _ hy
 obtain⟨iy,z,i1,i2,i3,i4,i5,i6,i7,i8,i9⟩:=hty.info
 have hrun:∀ (a:Act) (w:World),(execOp a.eval o).run P w = .ok (.value (.pointer (some ⟨w.heap.size,0,none⟩))) (w.alloc (.cells z.cells t)):=fun a w=>by
  simp[execOp,ho,Instr.alloc,zeroValue,typeInfo,i1,i4,jfk]
 have fin:∀ c,(∀ (E:Env) (h:Pub) (w:World),ChunkOk (E.set (cx.off+d) w.heap.size z.cells.size c.kn) h (w.alloc (.cells z.cells t)) (cx.off+d) c)→ltK d N (newK cx.off d (.box (cx.off+d) 0) c L H K)→Heavy P N cx Q o K L H:=fun c hc hK=>
  jbA hd hK fun E h a w S=>⟨_,_,z.cells.size,c.kn,hrun a w,(Below.refl _ w).alloc (jiL _) _,hc E h w,by simp only[Den];rw[Env.set_blk,Env.set_real];exact⟨rfl,rfl⟩⟩
 have box:∀ (E:Env) (h:Pub) (w:World),ChunkOk (E.set (cx.off+d) w.heap.size z.cells.size (Chunk.kn (.box y.zero))) h (w.alloc (.cells z.cells t)) (cx.off+d) (.box y.zero):=fun E h w=>
  ⟨E.set_real _ _ _ _,z.cells.toList,[],t,by rw[Env.set_blk,jb4];simp,i5 _ h,i6,by rw[Env.set_siz];simp⟩
 unfold jfc at hh
 split at hh
 ·have hx:=jaj hh;clear hh;obtain⟨ye,hye,hh⟩:=hx
  split at hh
  ·obtain⟨xs,h1,h2⟩:=jdx hh
   refine fin _ (fun E h w=>?_) h1
   obtain⟨h4,h5⟩:=jdE (E:=E) (h:=h) (by rw[← h2];exact i5 E h)
   refine .inr ⟨E.set_real _ _ _ _,[],t,?_,?_,h5,E.set_kn _ _ _ _⟩
   ·rw[Env.set_blk,jb4];congr 2;apply Array.toList_inj.1;simp[h4]
   ·rw[Env.set_siz,← Array.length_toList,h4];simp
  ·exact fin (.box y.zero) box hh
 ·exact fin (.box y.zero) box hh
def boxK (tb:Tb)(N off:Nat)(d t:Nat)(x:Operand)(L:Sl)(H:Hp)(K:K2):Prop:=tyK tb t fun y=>rdg True L x fun r=>match D.free (off+d) r with
 | true=>chunkK tb y r fun c=>ltK d N (newK off d (.box (off+d) 0) c L H K)
 | false=>False
theorem box_el {d t:Nat}{x:Operand}(hd:o.dst=some d)(ho:o.op = .box t x)(hh:boxK tb N cx.off d t x L H K):Heavy P N cx Q o K L H:=by
 have hx:=jaj hh;clear hh;obtain⟨y,hy,hh⟩:=hx
 obtain⟨r,hh,hr⟩:=jar hh
 cases hf:D.free (cx.off+d) r with
 | false=>rw[hf] at hh;exact hh.elim
 | true=>
  rw[hf] at hh
  obtain⟨c,hh,hl,hc⟩:=chunk_el hh
  refine jbA hd hh fun E h a w S=>?_
  have hv:=hr E h a trivial (S.facts.rd x)
  refine⟨.pointer (some ⟨w.heap.size,0,none⟩),w.alloc (.cells (a.eval x).cells t),(a.eval x).cells.size,c.kn,by simp[execOp,ho,Instr.box,jfk],(Below.refl _ w).alloc (jiL _) _,?_,by simp only[Den];rw[Env.set_blk,Env.set_real];exact⟨rfl,rfl⟩⟩
  exact hc _ h _ (Den.env (E.off_set (cx.off+d) _ _ _) hf hv) _ (cx.off+d) t (by rw[Env.set_blk,jb4]) (by rw[Env.set_siz]) (E.set_real _ _ _ _) (fun k xs e=>by rw[Env.set_kn,e];rfl)
theorem jdb {i:Nat}{c c':Chunk}(hd:o.dst=none)(hK:K L ((i,c')::H))(hc:lookH H i=some c)(hl:c.cel=true)
  (hrun:∀ E h a w,Sat cx E h a w L H→E.real i=true ∧ ∃ cs,(execOp a.eval o).run P w = .ok .skip (w.setRow (E.blk i) cs)∧ChunkOk E h (w.setRow (E.blk i) cs) i c'):Heavy P N cx Q o K L H:=by
 intro E h a w hN S next hnext
 obtain⟨hreal,cs,h1,h2⟩:=hrun E h a w S
 unfold Oper.wp
 rw[h1]
 simp only[Oper.upon,hd]
 exact hnext L ((i,c')::H) E h a _ hK rfl (S.write (w':=w.setRow (E.blk i) cs) hc (Chunk.live_of_cel hl) hreal rfl rfl rfl (size_setRow _ _ _) (fun b hb=>setRow_other w _ _ _ hb) h2 hl)
def storeK (tb:Tb)(t:Nat)(ax x:Operand)(L:Sl)(H:Hp)(K:K2):Prop:=tyK tb t fun y=>rdg True L ax fun da=>rdg True L x fun dx=>match da with
 | .box i off=>jbj H i fun c=>match c with
  | .box ds=>jd4 dx fun cs=>match Nat.beq cs.length y.size with
   | true=>jdl ds off cs fun ds'=>K L ((i,.box ds')::H)
   | false=>False
  | .arr k xs=>match dx with
   | .int k' n=>match kE k k',Nat.beq y.size 1 with
    | true,true=>(True→off<xs.length)∧K L ((i,.arr k (xs.set off n))::H)
    | _,_=>False
   | .iarr k' ys=>match kE k k' with
    | true=>(True→off=0∧ys.length=xs.length∧ys.length=y.size)∧K L ((i,.arr k ys)::H)
    | false=>False
   | .agg ds=>jda k ds fun ys=>(True→off=0∧ys.length=xs.length∧ys.length=y.size)∧K L ((i,.arr k ys)::H)
   | _=>False
  | .gone=>False
  | .lp _=>False
 | _=>False
theorem jcG {t:Nat}{y:Ty}(hy:TyOk P t y){w:World}{g off:Nat}{cur:List Value}{T:TypeId}{v:Value}(hg:w.heap[g]? = some (.cells cur.toArray T (0,0)))
  (hs:v.cells.size=y.size) (hl:off+v.cells.size≤cur.length) (h1:∀ u∈v.cells.toList,u.oneCell'=true) :
  (Instr.storeAt t (.pointer (some ⟨g,off,none⟩)) v).run P w = .ok () (w.setRow g (setAt cur off v.cells.toList).toArray):=by
 have:=run_storeCells_at P g off T v.cells.toList 0 cur.toArray w hg (by simp;omega) h1
 simp only[Instr.storeAt,Instr.sureAddr,storeVar,Sem.run_bind,Sem.run_pure,Result.andThen_ok,hy.sizeOf w,Sem.run_ite,hs]
 simp only[ne_eq,not_true_eq_false,if_false]
 rw[this]
 simp[setAt]
theorem store_el (htb:TbOk P tb){t:Nat}{ax x:Operand}(hd:o.dst=none)(ho:o.op = .store t ax x)(hh:storeK tb t ax x L H K):Heavy P N cx Q o K L H:=by
 have hx:=jaj hh;clear hh;obtain⟨y,hy,hh⟩:=hx
 have hty:=htb _ _ hy
 have hz:=jar hh;clear hh;obtain⟨da,hh,ha⟩:=hz
 have hz:=jar hh;clear hh;obtain⟨dx,hh,hx⟩:=hz
 split at hh
 case h_2=>exact hh.elim
 rename_i i off
 have hy':=jaD hh;clear hh;obtain⟨c,hc,hh⟩:=hy'
 have hrun:∀ (a:Act) (w w':World),(Instr.storeAt t (a.eval ax) (a.eval x)).run P w = .ok () w'→(execOp a.eval o).run P w = .ok .skip w':=fun a w w' e=>by
  simp only[execOp,ho];rw[Sem.run_bind,e];rfl
 have har:∀ k xs ys,lookH H i=some (.arr k xs)→(off=0∧ys.length=xs.length∧ys.length=y.size)→K L ((i,.arr k ys)::H) →
   (∀ E h v,Den E h dx v→v.cells.toList=ys.map (Value.int k) ∧ ∀ n∈ys,InR k n)→Heavy P N cx Q o K L H:=by
  intro k xs ys hc hk hK hden
  obtain⟨rfl,hl1,hl2⟩:=hk
  refine jdb hd hK hc rfl fun E h a w S=>?_
  have hda:=ha E h a trivial (S.facts.rd ax)
  simp only[Den] at hda
  obtain⟨hda,hreal⟩:=hda
  obtain⟨rest,T,hb,hsz,hr,hkn⟩:=ja2 hreal (S.mem.ok _ _ hc)
  obtain⟨h3,h4⟩:=hden E h _ (hx E h a trivial (S.facts.rd x))
  have hsz2:(a.eval x).cells.size=ys.length:=by rw[← Array.length_toList,h3];simp
  refine⟨hreal,_,hrun a w _ (by rw[hda];exact jcG hty hb (by omega) (by simp;omega) (by rw[h3];exact jbi)),?_⟩
  refine .inr ⟨hreal,rest,T,?_,by omega,h4,by omega⟩
  rw[setRow_heap w _ _ _ T (0,0) hb,h3]
  congr 2
  apply Array.toList_inj.1
  simp[setAt,hl1]
 split at hh
 ·rename_i ds
  obtain⟨cs,hh,hcs⟩:=jel hh
  cases hb:Nat.beq cs.length y.size with
  | false=>rw[hb] at hh;exact hh.elim
  | true=>
   rw[hb] at hh
   have hs:=jae hb
   obtain⟨hle,hh⟩:=jdk hh
   refine jdb hd hh hc rfl fun E h a w S=>?_
   obtain⟨hreal,vs,rest,T,hb,h1,h2,hsz⟩:=S.mem.ok _ _ hc
   have hda:=ha E h a trivial (S.facts.rd ax)
   simp only[Den] at hda
   obtain⟨hda,_⟩:=hda
   obtain⟨h3,h4⟩:=hcs E h _ (hx E h a trivial (S.facts.rd x))
   have hl1:=h3.length
   have hl2:=h1.length
   simp only[Array.length_toList] at hl1
   refine⟨hreal,_,hrun a w _ (by rw[hda];exact jcG hty hb (by omega) (by simp;omega) h4),?_⟩
   have hfit:off+(Value.cells (a.eval x)).toList.length≤vs.length:=by rw[Array.length_toList];omega
   exact⟨hreal,_,rest,T,by rw[setRow_heap w _ _ _ T (0,0) hb,jgr hfit],h1.setAt h3 off,jcL h2 h4,by rw[jb3 hfit];exact hsz⟩
 ·rename_i k xs
  split at hh
  ·rename_i k' n
   split at hh
   case h_2=>exact hh.elim
   rename_i hk hb1
   have:=kE_eq hk;subst this
   have hs:=jae hb1
   have hlt:=hh.1 trivial
   refine jdb hd hh.2 hc rfl fun E h a w S=>?_
   have hda:=ha E h a trivial (S.facts.rd ax)
   have hdx:=hx E h a trivial (S.facts.rd x)
   simp only[Den] at hda hdx
   obtain⟨hdx,hrn⟩:=hdx
   obtain⟨hda,hreal⟩:=hda
   obtain⟨rest,T,hb,hsz,hr,hkn⟩:=ja2 hreal (S.mem.ok _ _ hc)
   refine⟨hreal,_,hrun a w _ (by rw[hda,hdx];exact jcG hty hb (by rw[hs];rfl) (by simp[Value.cells];omega) (by simp[Value.cells,Value.oneCell'])),?_⟩
   refine .inr ⟨hreal,rest,T,?_,by simp[hsz],?_,by simp[hkn]⟩
   ·rw[setRow_heap w _ _ _ T (0,0) hb]
    congr 2
    apply Array.toList_inj.1
    simp only[Value.cells,setAt,List.length_singleton,List.map_set]
    rw[← List.set_append_left _ _ (by simpa using hlt)]
    rw[List.set_eq_take_append_cons_drop,if_pos (by simp;omega)]
    simp
   ·intro m hm
    rcases List.mem_or_eq_of_mem_set hm with hm|rfl
    ·exact hr m hm
    ·exact hrn
  ·rename_i k' ys
   split at hh
   case h_2=>exact hh.elim
   rename_i hk
   have:=kE_eq hk;subst this
   refine har _ _ _ hc (hh.1 trivial) hh.2 (fun E h v hv=>?_)
   simp only[Den] at hv
   obtain⟨rfl,h1⟩:=hv
   exact⟨by simp[Value.cells],h1⟩
  ·rename_i ds
   obtain⟨ys,hz,rfl⟩:=jdx hh
   refine har _ _ _ hc (hz.1 trivial) hz.2 (fun E h v hv=>?_)
   simp only[Den] at hv
   obtain⟨vs,rfl,h1,_⟩:=hv
   obtain⟨h2,h3⟩:=jdE h1
   exact⟨by simp[Value.cells,h2],h3⟩
  ·exact hh.elim
 ·exact hh.elim
 ·exact hh.elim
end
end Go.V
end
section
namespace Go.V
open Go Go.RowKit
section
variable {P : Program} {tb : Tb} {N : Nat} {cx : Cx} {Q : Exit → Act → World → Prop} {o : Oper} {L : Sl} {H : Hp} {K : K2}
def jfR:Nat→List (Nat×Operand)→Bool
 | _,[]=>true
 | n,(i,_)::ps=>match Nat.beq i n with|true=>jfR (n+1) ps|false=>false
def je6 (tb:Tb)(N off:Nat)(d t n:Nat)(parts:Array (Nat×Operand))(L:Sl)(H:Hp)(K:K2):Prop:=tyK tb t fun y=>match y.kind with
 | .slice e=>tyK tb e fun ye=>match ye.kind with
  | .int k=>match jfR 0 parts.toList,Nat.beq parts.toList.length n,Nat.beq ye.size 1,Nat.ble n 1000 with
   | true,true,true,true=>rdsK True L (parts.toList.map (·.2)) fun ds=>jda k ds fun xs=>ltK d N (newK off d (.osl (off+d) 0 n) (.arr k xs) L H K)
   | _,_,_,_=>False
  | _=>match Nat.beq (n*ye.size) 0,Nat.ble (n*ye.size) 100000,Nat.ble n 100000 with
   | false,true,true=>fillK True L (fun i K=>K (i*ye.size) ye.size) parts.toList (List.replicate (n*ye.size) .any) fun ds=>match D.freeL (off+d) ds with
    | true=>ltK d N (newK off d (.bsl (off+d) 0 n ye.size) (.box ds) L H K)
    | false=>False
   | true,_,_=>match parts.toList,Nat.beq n 0 with
    | [],true=>ltK d N (newK off d (.bsl (off+d) 0 0 ye.size) (.box []) L H K)
    | _,_=>False
   | _,_,_=>False
 | _=>False
theorem denL_any {E:Env}{h:Pub} : ∀ (vs:List Value),DenL E h (List.replicate vs.length .any) vs
 | []=>by simp[DenL]
 | v::vs=>by
  simp only[jjq,List.replicate_succ,DenL,Den,true_and]
  exact⟨v,vs,rfl,denL_any vs⟩
theorem fill_seq (vals:Operand→Value):∀ (ps:List (Nat×Operand)) (n:Nat) (cells:Array Value),jfR n ps=true→n+ps.length=cells.size→(∀ p∈ps, ∃ k m,vals p.2 = .int k m) →
  ∃ cs,Instr.fill (fun i=>some (i*1,1)) cells (ps.map fun p=>(p.1,vals p.2))=some cs∧cs.toList=cells.toList.take n++ps.map fun p=>vals p.2
 | [],n,cells,_,hl,_=>⟨cells,rfl,by simp only[List.length_nil,Nat.add_zero] at hl;simp only[List.map_nil,List.append_nil];rw[jjr (by simp;omega)]⟩
 | (i,x)::ps,n,cells,hs,hl,hv=>by
  simp only[jfR] at hs
  cases hb:Nat.beq i n with
  | false=>rw[hb] at hs;simp at hs
  | true=>
   rw[hb] at hs
   have:=jae hb;subst this
   obtain⟨k,m,hkm⟩:=hv (i,x) (by simp)
   simp only at hkm
   simp only[jjq] at hl
   have hc1:(Value.int k m).cells = #[.int k m]:=rfl
   simp only[List.map_cons,Instr.fill,hkm]
   rw[if_neg (by simp[hc1];omega)]
   have hf:((Value.int k m).cells.zipIdx.foldl (fun (cs:Array Value) (p:Value×Nat)=>cs.setIfInBounds (i*1+p.2) p.1) cells)=cells.setIfInBounds i (.int k m):=by simp[hc1]
   obtain⟨cs,h1,h2⟩:=fill_seq vals ps (i+1) (cells.setIfInBounds i (.int k m)) hs (by simp;omega) (fun p hp=>hv p (by simp[hp]))
   refine⟨cs,by rw[← h1];congr 1,?_⟩
   rw[h2]
   simp only[Array.toList_setIfInBounds]
   rw[List.take_succ_eq_append_getElem (by simp;omega)]
   simp only[List.getElem_set_self,jjl,List.singleton_append]
   rw[List.take_set,List.set_eq_of_length_le (by simp;omega)]
theorem jgj (htb:TbOk P tb){d t n:Nat}{parts:Array (Nat×Operand)}(hd:o.dst=some d)(ho:o.op = .buildSlice t n parts)(hh:je6 tb N cx.off d t n parts L H K):Heavy P N cx Q o K L H:=by
 have hx:=jaj hh;clear hh;obtain⟨y,hy,hh⟩:=hx
 have hty:=htb _ _ hy
 split at hh
 case h_2=>exact hh.elim
 rename_i e hk
 have hu:=jax hty hk
 have hx:=jaj hh;clear hh;obtain⟨ye,hye,hh⟩:=hx
 have hte:=htb _ _ hye
 split at hh
 case h_2=>
  split at hh
  case h_3=>exact hh.elim
  case h_2=>
   split at hh
   case h_2=>exact hh.elim
   rename_i hp0 hb0
   have hn:=jae hb0
   subst hn
   have hpe:parts = #[]:=Array.toList_inj.1 (by simpa using hp0)
   subst hpe
   refine jbA hd hh fun E h a w S=>?_
   refine⟨.slice (some ⟨w.heap.size,0,none⟩) 0 0,w.alloc (.cells #[] e),0,(Chunk.kn (.box [])),?_,(Below.refl _ w).alloc (jiL _) _,?_,?_⟩
   ·simp only[execOp,ho,Instr.buildSlice,Sem.run_bind,run_underlying hu,Result.andThen_ok,hte.sizeOf w,Sem.run_ite]
    simp[Instr.fill,newRow,show Array.range 0=(#[]:Array Nat) from rfl]
   ·exact⟨E.set_real _ _ _ _,[],[],e,by rw[Env.set_blk,jb4];simp,by simp[DenL],by simp,by rw[Env.set_siz];simp⟩
   ·simp only[Den]
    exact⟨E.set_real _ _ _ _,0,by rw[Env.set_blk],jiL _,by omega,.inl rfl⟩
  rename_i hb1 hb2 hb3
  have hn9:=jiE hb3
  have hn0:¬ n*ye.size=0:=fun e=>by rw[e] at hb1;exact absurd hb1 (by decide)
  have hsz0:=jiE hb2
  obtain⟨iy,z,i1,i2,i3,i4,i5,i6,i7,i8,i9⟩:=hte.info
  obtain⟨rs,hr,hf⟩:=jhM (pl:=fun i=>some (i*ye.size,ye.size)) (fun i K h=>⟨_,_,rfl,h⟩) hh
  cases hfr:D.freeL (cx.off+d) rs with
  | false=>rw[hfr] at hr;exact hr.elim
  | true=>
   rw[hfr] at hr
   refine jbA hd hr fun E h a w S=>?_
   obtain⟨zz,hzz⟩:∃ zz:Array Value,zz=(Array.range (n*ye.size)).map (z.cells[· % z.cells.size]!):=⟨_,rfl⟩
   have hzs:zz.size=n*ye.size:=by rw[hzz];simp
   have hz1:∀ u∈zz.toList,u.oneCell'=true:=by
    intro u hu
    rw[hzz] at hu
    simp only[Array.toList_map,List.mem_map] at hu
    obtain⟨q,hq,rfl⟩:=hu
    have hq1:q<n*ye.size:=by simpa using hq
    have hzc:0<z.cells.size:=by
     rw[i8]
     rcases jiM ye.size with e|e
     ·rw[e,Nat.mul_zero] at hq1;omega
     ·exact e
    have hlt:=Nat.mod_lt q hzc
    refine i6 _ ?_
    rw[getElem!_pos z.cells _ hlt]
    exact Array.getElem_mem_toList hlt
   obtain⟨cs,h3,h4,h5⟩:=hf E h a S.facts.rd trivial zz (by have:=denL_any (E:=E) (h:=h) zz.toList;rw[Array.length_toList,hzs] at this;exact this) hz1
   refine⟨.slice (some ⟨w.heap.size,0,none⟩) n n,w.alloc (.cells cs e),cs.size,(Chunk.kn (.box rs)),?_,(Below.refl _ w).alloc (jiL _) _,?_,?_⟩
   ·have hp:(parts.map fun p=>(p.1,a.eval p.2)).toList=parts.toList.map fun p=>(p.1,a.eval p.2):=by simp
    have h6:¬ (n*ye.size>2^24):=by simp;omega
    simp only[execOp,ho,Instr.buildSlice,Sem.run_bind,run_underlying hu,Result.andThen_ok,hte.sizeOf w,Sem.run_ite,if_neg h6,if_neg hn0,Sem.run_pure]
    have hz:(zeroValue e).run P w = .ok z w:=by simp[zeroValue,typeInfo,i1,i4]
    simp only[hz,Result.andThen_ok]
    rw[hp,← hzz,h3]
    simp[newRow]
   ·exact⟨E.set_real _ _ _ _,cs.toList,[],e,by rw[Env.set_blk,jb4];simp,DenL.env (E.off_set _ _ _ _) hfr h4,h5,by rw[Env.set_siz];simp⟩
   ·simp only[Den]
    exact⟨E.set_real _ _ _ _,n,by rw[Env.set_blk],jiL _,by omega,.inl rfl⟩
 rename_i k hke
 split at hh
 case h_2=>exact hh.elim
 rename_i hb1 hb2 hb3 hb4
 have hn:=jae hb2
 have hs1:=jae hb3
 have hn2:=jiE hb4
 obtain⟨ds,hh,hl,hds⟩:=jc4 hh
 obtain⟨xs,hz',rfl⟩:=jdx hh
 refine jbA hd hz' fun E h a w S=>?_
 obtain⟨h1,h2⟩:=jdE (hds E h a S.facts.rd trivial)
 obtain⟨iy,z,i1,i2,i3,i4,i5,i6,i7,i8,i9⟩:=hte.info
 have hlen:xs.length=n:=by simp only[List.length_map] at hl hn;omega
 have hz:n≠0→(zeroValue e).run P w = .ok z w:=fun _=>by simp[zeroValue,typeInfo,i1,i4]
 have hvals:∀ p∈parts.toList, ∃ k m,a.eval p.2 = .int k m:=by
  intro p hp
  have:a.eval p.2∈(parts.toList.map (·.2)).map a.eval:=by simp only[List.map_map];exact List.mem_map.2 ⟨p,hp,rfl⟩
  rw[h1] at this
  obtain⟨m,_,hm⟩:=List.mem_map.1 this
  exact⟨k,m,hm.symm⟩
 obtain⟨zz,hzz⟩:∃ zz:Array Value,zz=(Array.range (n*1)).map ((if n=0 then #[] else z.cells)[· % (if n=0 then #[] else z.cells).size]!):=⟨_,rfl⟩
 have hzs:zz.size=n:=by rw[hzz];simp
 obtain⟨cs,h3,h4⟩:=fill_seq a.eval parts.toList 0 zz hb1 (by rw[hzs];omega) hvals
 have h5:cs.toList=xs.map (Value.int k):=by rw[h4,← h1];simp
 refine⟨.slice (some ⟨w.heap.size,0,none⟩) n n,w.alloc (.cells cs e),n,n,?_,(Below.refl _ w).alloc (jiL _) _,?_,?_⟩
 ·have hp:(parts.map fun p=>(p.1,a.eval p.2)).toList=parts.toList.map fun p=>(p.1,a.eval p.2):=by simp
  have hsz:(sizeOf e).run P w = .ok 1 w:=by rw[hte.sizeOf w,hs1]
  by_cases hn0:n=0
  ·subst hn0
   simp only[if_true] at hzz
   simp only[execOp,ho,Instr.buildSlice,Sem.run_bind,run_underlying hu,Result.andThen_ok,hsz,Sem.run_ite]
   simp only[Nat.zero_mul,gt_iff_lt,Nat.not_lt_zero,if_false,if_true,Sem.run_pure,Result.andThen_ok]
   have hzz':zz=(Array.range 0).map ((#[]:Array Value)[· % (#[]:Array Value).size]!):=by rw[hzz]
   rw[hp,← hzz',show (fun i=>some (i*1,1))=(fun i:Nat=>some (i*1,1)) from rfl,h3]
   simp[newRow]
  ·simp only[if_neg hn0] at hzz
   have h6:¬ (n*1>2^24):=by simp;omega
   have h7:¬ (n*1=0):=by omega
   simp only[execOp,ho,Instr.buildSlice,Sem.run_bind,run_underlying hu,Result.andThen_ok,hsz,Sem.run_ite,if_neg h6,if_neg h7,Sem.run_pure,hz hn0]
   rw[hp,← hzz,h3]
   simp[newRow]
 ·refine .inr ⟨E.set_real _ _ _ _,[],e,?_,?_,h2,by rw[Env.set_kn];omega⟩
  ·rw[Env.set_blk,jb4];congr 2;apply Array.toList_inj.1;simp[h5]
  ·rw[Env.set_siz];simp[hlen]
 ·simp only[Den]
  exact .inr ⟨E.set_real _ _ _ _,0,n,by rw[Env.set_blk],jiL _,by rw[Env.set_siz];omega,by omega,.inl rfl,by rw[Env.set_kn];omega⟩
def zero0K (y:Ty)(k:IntKind)(K:Prop):Prop:=match y.zero with
 | [.int k' 0]=>match kE k k' with|true=>K|false=>False
 | _=>False
theorem zero0_el {y:Ty}{k:IntKind}{K:Prop}(h:zero0K y k K):y.zero=[.int k 0]∧K:=by
 unfold zero0K at h
 split at h
 ·rename_i k' heq
  cases hk:kE k k' with
  | false=>rw[hk] at h;exact h.elim
  | true=>rw[hk] at h;have:=kE_eq hk;subst this;exact⟨heq,h⟩
 ·exact h.elim
def repD:Nat→List D→List D
 | 0,_=>[]
 | n+1,zs=>repD n zs++zs
theorem jd1 {i:Nat} : ∀ {a b:List D},D.freeL i a=true→D.freeL i b=true→D.freeL i (a++b)=true
 | [],_,_,hb=>hb
 | d::ds,b,ha,hb=>by
  simp only[List.cons_append,D.freeL] at ha ⊢
  split at ha
  ·exact jd1 ha hb
  ·cases ha
theorem jgR {i:Nat}{zs:List D}(h:D.freeL i zs=true):∀ n,D.freeL i (repD n zs)=true
 | 0=>rfl
 | n+1=>jd1 (jgR h n) h
theorem jd3 {E:Env}{h:Pub} : ∀ {a b:List D} {us vs:List Value},DenL E h a us→DenL E h b vs→DenL E h (a++b) (us++vs)
 | [],_,us,vs,ha,hb=>by simp only[DenL] at ha;subst ha;exact hb
 | d::ds,b,us,vs,ha,hb=>by
  simp only[List.cons_append,DenL] at ha ⊢
  obtain⟨v,vs',rfl,h1,h2⟩:=ha
  exact⟨v,vs'++vs,rfl,h1,jd3 h2 hb⟩
theorem jdv {E:Env}{h:Pub}{z:Array Value}{zs:List D}(hz:0<z.size)(hd:DenL E h zs z.toList):∀ n,DenL E h (repD n zs) (madeCells z (n*z.size)).toList
 | 0=>by simp[repD,DenL,madeCells]
 | n+1=>by
  have e:(madeCells z ((n+1)*z.size)).toList=(madeCells z (n*z.size)).toList++z.toList:=by
   simp only[madeCells,Array.toList_map,Array.toList_range]
   rw[Nat.add_mul,Nat.one_mul,List.range_add,List.map_append,List.map_map]
   congr 1
   apply List.ext_getElem?
   intro i
   simp only[List.getElem?_map]
   by_cases hi:i<z.size
   ·have e2:(n*z.size+i)%z.size=i:=by rw[jiN,Nat.mul_add_mod,jiO hi]
    simp[hi,e2]
   ·simp[hi]
  rw[e]
  exact jd3 (jdv hz hd n) hd
def jfu (tb:Tb)(N off:Nat)(d t:Nat)(l c:Operand)(L:Sl)(H:Hp)(K:K2):Prop:=tyK tb t fun y=>match y.kind with
 | .slice e=>tyK tb e fun ye=>match ye.kind with
  | .int k=>zero0K ye k<|match Nat.beq ye.size 1,Nat.ble ye.bytes 8 with
   | true,true=>rdg True L l fun dl=>rdg True L c fun dc=>match dl,dc with
    | .int _ m,.int _ n=>(True→0≤m∧m≤n∧n≤17592186044416)∧ltK d N (newK off d (.osl (off+d) 0 m.toNat) (.arr k (List.replicate m.toNat 0)) L H K)
    | _,_=>False
   | _,_=>False
  | _=>match Nat.beq ye.size 0,Nat.ble ye.bytes 1000,D.freeL (off+d) ye.zero with
   | false,true,true=>rdg True L l fun dl=>rdg True L c fun dc=>match dl,dc with
    | .int _ m,.int _ n=>(True→m=n∧0≤m∧m≤100000)∧ltK d N (newK off d (.bsl (off+d) 0 m.toNat ye.size) (.box (repD m.toNat ye.zero)) L H K)
    | _,_=>False
   | _,_,_=>False
 | _=>False
theorem zero_inR (k:IntKind):InR k 0:=⟨jck k,jdI k⟩
theorem jf7 {k:IntKind}{z:Value}(hz:z = .int k 0)(n:Nat):(madeCells z.cells n).toList=List.replicate n (.int k 0):=by
 subst hz
 simp only[madeCells,Value.cells]
 apply List.ext_getElem?
 intro i
 by_cases hi:i<n
 ·simp[hi,Nat.mod_one]
 ·simp[hi]
theorem jd6 {e:Nat}{ye:Ty}(hte:TyOk P e ye):∃ iy,P.info? e=some iy∧iy.size=ye.size∧iy.bytes=ye.bytes ∧ ∃ z,iy.zero=some z∧(∀ E h,DenL E h ye.zero z.cells.toList):=by
 obtain⟨iy,z,i1,i2,i3,i4,i5,_⟩:=hte.info
 exact⟨iy,i1,i2,i3,z,i4,i5⟩
theorem jgK (htb:TbOk P tb){d t:Nat}{l c:Operand}(hd:o.dst=some d)(ho:o.op = .makeSlice t l c)(hh:jfu tb N cx.off d t l c L H K):Heavy P N cx Q o K L H:=by
 have hx:=jaj hh;clear hh;obtain⟨y,hy,hh⟩:=hx
 have hty:=htb _ _ hy
 split at hh
 case h_2=>exact hh.elim
 rename_i e hk
 have hu:=jax hty hk
 have hx:=jaj hh;clear hh;obtain⟨ye,hye,hh⟩:=hx
 have hte:=htb _ _ hye
 split at hh
 case h_2=>
  split at hh
  case h_2=>exact hh.elim
  rename_i hb1 hb2 hb3
  have hb8:=jiE hb2
  have hz:=jar hh;clear hh;obtain⟨dl,hh,hl⟩:=hz
  have hz:=jar hh;clear hh;obtain⟨dc,hh,hc⟩:=hz
  split at hh
  case h_2=>exact hh.elim
  rename_i k1 m k2 n
  obtain⟨g1,g2,g3⟩:=hh.1 trivial
  subst g1
  obtain⟨iy,z,i1,i2,i3,i4,i5,i6,i7,i8,i9⟩:=hte.info
  refine jbA hd hh.2 fun E h a w S=>?_
  have h1:=hl E h a trivial (S.facts.rd l)
  have h2:=hc E h a trivial (S.facts.rd c)
  simp only[Den] at h1 h2
  have hbytes:(iy.bytes:Int)*m≤281474976710656:=by
   have e1:(iy.bytes:Int)≤1000:=by rw[i3];omega
   have e2:(iy.bytes:Int)*m≤1000*m:=jiP e1 (by omega)
   omega
  have hrun:=run_make (P:=P) w t e iy z hu i1 i4 k1 k2 m m g2 (Int.le_refl _) hbytes (by omega)
  have hs0:0<z.cells.size:=by
   rw[i8]
   rcases jiM ye.size with e|e
   ·rw[e] at hb1;exact absurd hb1 (by decide)
   ·exact e
  have hcl:∀ v∈(madeCells z.cells (m.toNat*iy.size)).toList,v.oneCell'=true:=by
   intro v hv
   simp only[madeCells,Array.toList_map,List.mem_map] at hv
   obtain⟨q,_,rfl⟩:=hv
   refine i6 _ ?_
   have hlt:=Nat.mod_lt q hs0
   rw[getElem!_pos z.cells _ hlt]
   exact Array.getElem_mem_toList hlt
  refine⟨_,_,(madeCells z.cells (m.toNat*iy.size)).size,Chunk.kn (.box (repD m.toNat ye.zero)),by simp only[execOp,ho,h1.1,h2.1];rw[Sem.run_bind,hrun];rfl,(Below.refl _ w).alloc (jiL _) _,?_,?_⟩
  ·have hdn:DenL E h (repD m.toNat ye.zero) (madeCells z.cells (m.toNat*iy.size)).toList:=by
    rw[i2,← i8]
    exact jdv hs0 (i5 E h) _
   exact⟨E.set_real _ _ _ _,(madeCells z.cells (m.toNat*iy.size)).toList,[],e,by rw[Env.set_blk,jb4];simp,DenL.env (E.off_set _ _ _ _) (jgR hb3 _) hdn,hcl,by rw[Env.set_siz];simp⟩
  ·simp only[Den]
   exact⟨E.set_real _ _ _ _,m.toNat,by rw[Env.set_blk],jiL _,by omega,.inl rfl⟩
 rename_i k hke
 obtain⟨hz0,hh⟩:=zero0_el hh
 split at hh
 case h_2=>exact hh.elim
 rename_i hb1 hb2
 have hs1:=jae hb1
 have hb8:=jiE hb2
 have hz:=jar hh;clear hh;obtain⟨dl,hh,hl⟩:=hz
 have hz:=jar hh;clear hh;obtain⟨dc,hh,hc⟩:=hz
 split at hh
 case h_2=>exact hh.elim
 rename_i k1 m k2 n
 obtain⟨g1,g2,g3⟩:=hh.1 trivial
 obtain⟨iy,i1,i2,i3,z,i4,i5⟩:=jd6 hte
 refine jbA hd hh.2 fun E h a w S=>?_
 have h1:=hl E h a trivial (S.facts.rd l)
 have h2:=hc E h a trivial (S.facts.rd c)
 simp only[Den] at h1 h2
 have hzc:z.cells.toList=[.int k 0]:=by
  have:=i5 E h
  rw[hz0] at this
  simp only[DenL,Den] at this
  obtain⟨_,_,h3,⟨rfl,_⟩,rfl⟩:=this
  exact h3
 have hbytes:(iy.bytes:Int)*n≤281474976710656:=by
  have:(iy.bytes:Int)≤8:=by rw[i3];omega
  have h4:(iy.bytes:Int)*n≤8*n:=jiP this (by omega)
  omega
 have hrun:=run_make (P:=P) w t e iy z hu i1 i4 k1 k2 m n g1 g2 hbytes (by omega)
 have hmc:(madeCells z.cells (n.toNat*iy.size)).toList=List.replicate n.toNat (.int k 0):=by
  rw[i2,hs1,Nat.mul_one]
  have hz':z.cells = #[.int k 0]:=Array.toList_inj.1 (by simpa using hzc)
  have:=jf7 (k:=k) (z := .int k 0) rfl n.toNat
  rw[hz'];exact this
 refine⟨_,_,n.toNat,m.toNat,by simp only[execOp,ho,h1.1,h2.1];rw[Sem.run_bind,hrun];rfl,(Below.refl _ w).alloc (jiL _) _,?_,?_⟩
 ·refine .inr ⟨E.set_real _ _ _ _,List.replicate (n.toNat-m.toNat) (.int k 0),e,?_,?_,?_,by rw[Env.set_kn];simp⟩
  ·rw[Env.set_blk,jb4]
   congr 2
   apply Array.toList_inj.1
   rw[hmc]
   simp only[List.map_replicate,List.replicate_append_replicate]
   congr 1;omega
  ·rw[Env.set_siz];simp;omega
  ·intro x hx
   rw[List.eq_of_mem_replicate hx];exact zero_inR k
 ·simp only[Den]
  exact .inr ⟨E.set_real _ _ _ _,0,n.toNat,by rw[Env.set_blk],by omega,by rw[Env.set_siz];omega,by omega,.inl rfl,by rw[Env.set_kn];omega⟩
def srcK (k:IntKind)(H:Hp)(d:D)(K:List Int→Prop):Prop:=match d with
 | .ints k' ys=>match kE k k' with|true=>K ys|false=>False
 | .nil=>K []
 | .osl i off len=>jbj H i fun c=>match c with
  | .arr k' ys=>match kE k k' with|true=>(True→off+len≤ys.length)∧K ((ys.drop off).take len)|false=>False
  | _=>False
 | _=>False
theorem jgp {k:IntKind}{H:Hp}{d:D}{K:List Int→Prop}(hh:srcK k H d K) :
  ∃ ys,K ys ∧ ∀ E h a (w:World) L,Facts E h a w L H → ∀ v,Den E h d v→(∀ n∈ys,InR k n)∧ys.length≤281474976710656 ∧ ∃ ad cap,v = .slice ad ys.length cap ∧
   (match ad with|none=>ys=[]|some ad => ∀ (j:Nat) u,(ys.map (Value.int k))[j]? = some u→w.cell? (ad.add j)=some u):=by
 unfold srcK at hh
 split at hh
 ·rename_i k' ys
  split at hh
  case h_2=>exact hh.elim
  rename_i hk
  have:=kE_eq hk;subst this
  refine⟨ys,hh,fun E h a w L F v hv=>?_⟩
  simp only[Den,jaM] at hv
  obtain⟨ad,cap,rfl,h1,h2,h3,h4⟩:=hv
  refine⟨h3,h2,ad,cap,rfl,?_⟩
  cases ad with
  | none=>exact h4.1
  | some ad=>
   intro j u hu
   rw[List.getElem?_map] at hu
   cases hx:ys[j]? with
   | none=>rw[hx] at hu;cases hu
   | some n=>rw[hx] at hu;cases hu;rw[jbW h4.1];exact F.agree _ _ _ (h4.2 j n hx)
 ·refine⟨[],hh,fun E h a w L F v hv=>?_⟩
  simp only[Den] at hv
  exact⟨by simp,by simp,none,0,by simpa using hv,rfl⟩
 ·rename_i i off len
  have hy':=jaD hh;clear hh;obtain⟨c,hc,hh⟩:=hy'
  split at hh
  case h_2=>exact hh.elim
  rename_i k' ys
  split at hh
  case h_2=>exact hh.elim
  rename_i hk
  have:=kE_eq hk;subst this
  have hle:=hh.1 trivial
  refine⟨_,hh.2,fun E h a w L F v hv=>?_⟩
  simp only[Den] at hv
  rcases hv with⟨hreal,rfl,hl0⟩|⟨hreal,o,cap,rfl,h1,h2,h3,h4,hko⟩
  ·subst hl0
   simp only[List.take_zero]
   exact⟨by simp,by simp,none,0,rfl,trivial⟩
  obtain⟨rest,T,hb,hsz,hr,hkn⟩:=ja2 hreal (F.chunk _ _ hc)
  have hlen:((ys.drop off).take len).length=len:=by simp;omega
  refine⟨fun n hn=>hr n (jjo (jjp hn)),by omega,_,cap,by rw[hlen],?_⟩
  intro j u hu
  have hj:j<len:=by
   have:=(jjn.1 hu).1
   simp at this;omega
  rw[jaU]
  have ho:o=off:=by rcases h4 with h4|h4<;>omega
  subst ho
  refine jb7 hb ?_
  rw[jjm (by simp;omega)]
  rw[List.map_take,List.map_drop] at hu
  have:=ja6 hu
  simpa using this
 ·exact hh.elim
def Env.virt (E:Env)(i:Nat):Env:=⟨E.blk,E.siz,E.kn,fun j=>if j=i then false else E.real j,E.lpr⟩
theorem Env.off_virt (E:Env)(i:Nat):E.off (E.virt i) i:=fun j hj=>by simp[Env.virt,hj]
theorem Env.virt_real (E:Env)(i:Nat):(E.virt i).real i=false:=by simp[Env.virt]
section
variable {E : Env} {h : Pub} {a : Act} {w : World}
theorem Sat.fresh (S : Sat cx E h a w L H) {i : Nat} {r : D} {c : Chunk} {v : Value} {w' : World} {b s n : Nat}
    (ho : w'.os = w.os) (ht : w'.tape = w.tape) (hout : w'.output = w.output) (hsz : w.heap.size ≤ w'.heap.size)
    (hkeep : ∀ k, k < w.heap.size → k ≠ b → w'.heap[k]? = w.heap[k]?) (hB : cx.w0.heap.size ≤ b) (hpub : ∀ o, h b o = none)
    (hcell : ∀ o, w.heap[b]? = some o → o.isCells = true)
    (hinj : ∀ j c', j ≠ i → lookH H j = some c' → c'.live = true → E.real j = true → E.blk j ≠ b)
    (hc : ChunkOk (E.set i b s n) h w' i c) {d : Nat} (hi : d < a.tmps.size) (hoff' : cx.off ≤ i) (hv : Den (E.set i b s n) h r v) :
    Sat cx (E.set i b s n) h (a.put (some d) v) w' ((d, r) :: purge i L) ((i, c) :: jaG i H) := by
  have hoff := E.off_set i b s n
  have live : ∀ j c', j ≠ i → lookH ((i, c) :: jaG i H) j = some c' → c'.live = true → ∃ c0, lookH H j = some c0 ∧ c' = jci i c0 ∧ c0.live = true := by
    intro j c' hj hc' hl
    rw [jag, if_neg (Ne.symm hj)] at hc'
    obtain ⟨c0, h1, h2⟩ := jbf hc'
    exact ⟨c0, h1, h2, by rw [h2, jbe] at hl; exact hl⟩
  refine { knows := ?_, mem := ?_, agree := ?_, since := ?_, low := fun j hj => jeH S.low hoff hoff' j hj, side := S.side.keep fun k o hko hno => (by
    by_cases e : k = b
    · subst e; rw [hcell o hko] at hno; cases hno
    · rw [hkeep k (Array.getElem?_eq_some_iff.1 hko).1 e]; exact hko) }
  · exact jcM (fun t => jbP hoff (S.knows t)) hi hv
  · refine { ok := ?_, base := ?_, unpub := ?_, inj := ?_ }
    · intro j c' hc'
      by_cases hj : j = i
      · subst hj; rw [jag, if_pos rfl] at hc'; cases hc'; exact hc
      · cases hl : c'.live with
        | false => cases c' <;> first | trivial | (simp [Chunk.live] at hl)
        | true =>
          obtain ⟨c0, h1, rfl, hl'⟩ := live j c' hj hc' hl
          have h4 := S.mem.ok j _ h1
          exact ChunkOk.env hoff hj (h4.keep fun hl hr => hkeep _ (h4.lt hl hr) (hinj j _ hj h1 hl hr))
    · intro j c' hc' hl hr
      by_cases hj : j = i
      · subst hj; rw [Env.set_blk]; exact hB
      · obtain ⟨c0, h1, rfl, hl'⟩ := live j c' hj hc' hl
        rw [E.set_real_ne _ _ _ hj] at hr
        rw [E.set_blk_ne _ _ _ hj]; exact S.mem.base j _ h1 hl' hr
    · intro j c' hc' hl hr o
      by_cases hj : j = i
      · subst hj; rw [Env.set_blk]; exact hpub o
      · obtain ⟨c0, h1, rfl, hl'⟩ := live j c' hj hc' hl
        rw [E.set_real_ne _ _ _ hj] at hr
        rw [E.set_blk_ne _ _ _ hj]; exact S.mem.unpub j _ h1 hl' hr o
    · intro j k c1 c2 hjk h1 h2 l1 l2 r1 r2
      by_cases hj : j = i
      · subst hj
        obtain ⟨c0, g1, rfl, l2'⟩ := live k c2 (Ne.symm hjk) h2 l2
        rw [E.set_real_ne _ _ _ (Ne.symm hjk)] at r2
        rw [Env.set_blk, E.set_blk_ne _ _ _ (Ne.symm hjk)]
        exact (hinj k _ (Ne.symm hjk) g1 l2' r2).symm
      · obtain ⟨c0, g1, rfl, l1'⟩ := live j c1 hj h1 l1
        rw [E.set_real_ne _ _ _ hj] at r1
        by_cases hk : k = i
        · subst hk
          rw [Env.set_blk, E.set_blk_ne _ _ _ hj]
          exact hinj j _ hj g1 l1' r1
        · obtain ⟨c0', g2, rfl, l2'⟩ := live k c2 hk h2 l2
          rw [E.set_real_ne _ _ _ hk] at r2
          rw [E.set_blk_ne _ _ _ hj, E.set_blk_ne _ _ _ hk]
          exact S.mem.inj j k _ _ hjk g1 g2 l1' l2' r1 r2
  · exact S.agree.of_blocks fun k ⟨o, v, hw⟩ => hkeep k (S.agree.lt hw) (fun e => by subst e; rw [hpub o] at hw; cases hw)
  · exact ⟨S.since.below.trans ⟨ho, ht, hout, hsz, fun k hk => hkeep k (jiQ hk S.since.below.size) (by omega)⟩, S.since.le, S.since.old⟩
theorem Sat.virt (S:Sat cx E h a w L H){i:Nat}{r:D}{k:IntKind}{v:Value}{d:Nat}(hi:d<a.tmps.size)(hoff':cx.off≤i)(hv:Den (E.virt i) h r v) :
  Sat cx (E.virt i) h (a.put (some d) v) w ((d,r)::purge i L) ((i,.arr k [])::jaG i H):=by
 have hoff:=E.off_virt i
 have live:∀ j c',j≠i→lookH ((i,.arr k [])::jaG i H) j=some c'→c'.live=true → ∃ c0,lookH H j=some c0∧c'=jci i c0∧c0.live=true:=by
  intro j c' hj hc' hl
  rw[jag,if_neg (Ne.symm hj)] at hc'
  obtain⟨c0,h1,h2⟩:=jbf hc'
  exact⟨c0,h1,h2,by rw[h2,jbe] at hl;exact hl⟩
 have hne:∀ j,(E.virt i).real j=true→j≠i:=fun j hr e=>by subst e;rw[E.virt_real] at hr;cases hr
 have hre:∀ j,j≠i→(E.virt i).real j=E.real j:=fun j hj=>(hoff j hj).2.2.2.1
 refine { knows:=?_,mem:=?_,agree:=S.agree,since:=S.since,low:=fun j hj=>jeH S.low hoff hoff' j hj,side:=S.side }
 ·exact jcM (fun t=>jbP hoff (S.knows t)) hi hv
 ·refine { ok:=?_,base:=?_,unpub:=?_,inj:=?_ }
  ·intro j c' hc'
   by_cases hj:j=i
   ·subst hj;rw[jag,if_pos rfl] at hc';cases hc';exact .inl ⟨E.virt_real _,rfl⟩
   ·cases hl:c'.live with
    | false=>cases c'<;>first|trivial|(simp[Chunk.live] at hl)
    | true=>
     obtain⟨c0,h1,rfl,hl'⟩:=live j c' hj hc' hl
     exact ChunkOk.env hoff hj (S.mem.ok j _ h1)
  ·intro j c' hc' hl hr
   have hj:=hne j hr
   obtain⟨c0,h1,rfl,hl'⟩:=live j c' hj hc' hl
   rw[hre j hj] at hr
   exact S.mem.base j _ h1 hl' hr
  ·intro j c' hc' hl hr o
   have hj:=hne j hr
   obtain⟨c0,h1,rfl,hl'⟩:=live j c' hj hc' hl
   rw[hre j hj] at hr
   exact S.mem.unpub j _ h1 hl' hr o
  ·intro j k' c1 c2 hjk h1 h2 l1 l2 r1 r2
   have hj:=hne j r1
   have hk:=hne k' r2
   obtain⟨c0,g1,rfl,l1'⟩:=live j c1 hj h1 l1
   obtain⟨c0',g2,rfl,l2'⟩:=live k' c2 hk h2 l2
   rw[hre j hj] at r1
   rw[hre k' hk] at r2
   exact S.mem.inj j k' _ _ hjk g1 g2 l1' l2' r1 r2
end
end
end Go.V
end
section
namespace Go.V
open Go Go.RowKit
section
variable {P : Program} {tb : Tb} {N : Nat} {cx : Cx} {Q : Exit → Act → World → Prop} {o : Oper} {L : Sl} {H : Hp} {K : K2}
def catR:List D→List D→(List D→Prop)→Prop
 | [],b,K=>K b
 | d::ds,b,K=>catR ds b fun r=>K (d::r)
def catF (e:Nat)(f:Nat→List D):Nat→List D→(List D→Prop)→Prop
 | 0,acc,K=>K acc
 | n+1,acc,K=>catR (f n) acc fun r=>match Nat.beq (r.length) (acc.length+e) with|true=>catF e f n r K|false=>False
theorem catR_el:∀ {a b:List D} {K:List D→Prop},catR a b K→K (a++b)
 | [],_,_,h=>h
 | _::ds,_,_,h=>catR_el (a:=ds) h
def catL (f:Nat→List D):Nat→List D
 | 0=>[]
 | n+1=>catL f n++f n
theorem catF_el {e:Nat}{f:Nat→List D} : ∀ {n:Nat} {acc:List D} {K:List D→Prop},catF e f n acc K→K (catL f n++acc) ∧ ∀ j,j<n→(f j).length=e
 | 0,_,_,h=>⟨h,fun j hj=>absurd hj (Nat.not_lt_zero _)⟩
 | n+1,acc,K,h=>by
  have h:=catR_el h
  split at h
  case h_2=>exact h.elim
  rename_i hb
  have hl:=jae hb
  rw[jjj] at hl
  obtain⟨h1,h2⟩:=catF_el h
  refine⟨by rw[catL,jjl];exact h1,fun j hj=>?_⟩
  rcases jiR j n with g|g
  ·exact h2 j g
  ·have:j=n:=by omega
   subst this;omega
theorem jfC {e:Nat}{f:Nat→List D}{h:Pub}{b o:Nat} : ∀ {n:Nat},
  (∀ j,j<n → ∃ vs,DenL Env.dummy h (f j) vs∧vs.length=e∧(∀ v∈vs,v.oneCell'=true) ∧ ∀ (i:Nat) v,vs[i]? = some v→h b (o+j*e+i)=some v) →
  ∃ us,us.length=n*e∧DenL Env.dummy h (catL f n) us∧(∀ u∈us,u.oneCell'=true) ∧ ∀ (i:Nat) u,us[i]? = some u→h b (o+i)=some u
 | 0,_=>⟨[],by simp,by simp[catL,DenL],by simp,by simp⟩
 | n+1,H=>by
  obtain⟨us,h1,h2,h3,h4⟩:=jfC (n:=n) fun j hj=>H j (by omega)
  obtain⟨vs,g1,g2,g3,g4⟩:=H n (by omega)
  refine⟨us++vs,by rw[jjj,h1,g2,Nat.add_mul,Nat.one_mul],h2.append g1,fun u hu=>?_,fun i u hu=>?_⟩
  ·rcases List.mem_append.1 hu with g|g
   ·exact h3 u g
   ·exact g3 u g
  ·rcases jiR i us.length with g|g
   ·rw[jjm g] at hu;exact h4 i u hu
   ·rw[List.getElem?_append_right g] at hu
    have:=g4 _ _ hu
    rw[h1] at this g
    have e1:o+n*e+(i-n*e)=o+i:=by omega
    rwa [e1] at this
def bsrcK (es:Nat)(H:Hp)(d:D)(K:List D→Nat→Prop):Prop:=match d with
 | .bsl j off n e'=>match Nat.beq off 0,Nat.beq e' es,Nat.beq n 0 with
  | true,true,false=>jbj H j fun c=>match c with
   | .box ds=>match Nat.beq ds.length (n*es) with|true=>K ds n|false=>False
   | _=>False
  | _,_,_=>False
 | .slf e' n f=>match Nat.beq e' es,Nat.beq n 0 with
  | true,false=>catF es f n [] fun ds=>match D.pureL ds with|true=>K ds n|false=>False
  | _,_=>False
 | _=>False
theorem bsrc_el {es:Nat}{H:Hp}{d:D}{K:List D→Nat→Prop}(hh:bsrcK es H d K) :
  ∃ ds n,K ds n∧0<n ∧ ∀ E h a (w:World) L,Facts E h a w L H → ∀ v,Den E h d v → ∃ ad cap us,v = .slice (some ad) n cap∧n≤281474976710656∧us.length=n*es∧DenL E h ds us∧(∀ u∈us,u.oneCell'=true) ∧
   ∀ (j:Nat) u,us[j]? = some u→w.cell? (ad.add j)=some u:=by
 unfold bsrcK at hh
 split at hh
 case h_3=>exact hh.elim
 case h_2=>
  rename_i e' n f
  split at hh
  case h_2=>exact hh.elim
  rename_i hb1 hb2
  have h1:=jae hb1
  subst h1
  have hn:0<n:=by
   rcases jiM n with e|e
   ·rw[e] at hb2;simp at hb2
   ·exact e
  obtain⟨hh,hlen⟩:=catF_el hh
  rw[List.append_nil] at hh
  cases hp:D.pureL (catL f n) with
  | false=>rw[hp] at hh;exact hh.elim
  | true=>
   rw[hp] at hh
   refine⟨catL f n,n,hh,hn,fun E h a w L F v hv=>?_⟩
   simp only[Den] at hv
   obtain⟨ad,cap,rfl,h2,h3,h4⟩:=hv
   cases ad with
   | none=>simp only at h4;omega
   | some ad=>
    simp only at h4
    obtain⟨us,g1,g2,g3,g4⟩:=jfC h4.2
    exact⟨ad,cap,us,rfl,h3,g1,DenL.pure hp g2,g3,fun q u hu=>by rw[jbW h4.1];exact F.agree _ _ _ (g4 q u hu)⟩
 rename_i j off n e'
 split at hh
 case h_2=>exact hh.elim
 rename_i hb1 hb2 hb3
 have h1:=jae hb1
 have h2:=jae hb2
 subst h1 h2
 have hn:0<n:=by
  rcases jiM n with e|e
  ·rw[e] at hb3;simp at hb3
  ·exact e
 have hy':=jaD hh;clear hh;obtain⟨c,hc,hh⟩:=hy'
 split at hh
 case h_2=>exact hh.elim
 rename_i ds
 cases hl:Nat.beq ds.length (n*e') with
 | false=>rw[hl] at hh;exact hh.elim
 | true=>
  rw[hl] at hh
  have hl:=jae hl
  refine⟨ds,n,hh,hn,fun E h a w L F v hv=>?_⟩
  simp only[Den] at hv
  obtain⟨hreal,cap,rfl,h3,h4,_⟩:=hv
  obtain⟨_,vs,rest,T,hb,hd,ho,_⟩:=F.chunk _ _ hc
  exact⟨_,cap,vs,rfl,h4,by rw[hd.length,hl],hd,ho,fun q u hu=>by rw[jaU,jiI];exact jdH hb hu⟩
def jeo (N off' d:Nat)(ye:Ty)(s x:Operand)(L:Sl)(H:Hp)(K:K2):Prop:=match Nat.ble ye.bytes 4096,Nat.beq ye.size 0 with
 | true,false=>rdg True L s fun ds=>match ds with
  | .nil=>rdg True L x fun dx=>bsrcK ye.size H dx fun es n=>match Nat.ble n 1000000,D.freeL (off'+d) es with
   | true,true=>ltK d N (newK off' d (.bsl (off'+d) 0 n ye.size) (.box es) L H K)
   | _,_=>False
  | .bsl i off len e'=>match Nat.beq off 0,Nat.beq e' ye.size with
   | true,true=>jbj H i fun c=>match c with
    | .box ds0=>match Nat.beq ds0.length (len*ye.size) with
     | true=>rdg True L x fun dx=>bsrcK ye.size H dx fun es n=>match Nat.ble (len+n) 1000000,D.freeL (off'+d) (ds0++es) with
      | true,true=>ltK d N (newK off' d (.bsl (off'+d) 0 (len+n) ye.size) (.box (ds0++es)) L ((i,.gone)::H) K)
      | _,_=>False
     | false=>False
    | _=>False
   | _,_=>False
  | _=>False
 | _,_=>False
def appendK (tb:Tb)(N off':Nat)(d t:Nat)(s x:Operand)(L:Sl)(H:Hp)(K:K2):Prop:=tyK tb t fun y=>match y.kind with
 | .slice e=>tyK tb e fun ye=>match ye.kind with
  | .int k=>zero0K ye k<|match Nat.beq ye.size 1,Nat.ble ye.bytes 8 with
   | true,true=>rdg True L s fun ds=>match ds with
    | .nil=>rdg True L x fun dx=>srcK k H dx fun ys=>(True→ys.length≤17592186044416)∧ltK d N (newK off' d (.osl (off'+d) 0 ys.length) (.arr k ys) L H K)
    | .osl i off len=>match Nat.beq off 0 with
     | true=>jbj H i fun c=>match c with
      | .arr k' xs=>match kE k k' with
       | true=>rdg True L x fun dx=>srcK k H dx fun ys=>(True→xs.length=len∧len+ys.length≤17592186044416) ∧
         ltK d N (newK off' d (.osl (off'+d) 0 (len+ys.length)) (.arr k (xs++ys)) L ((i,.gone)::H) K)
       | false=>False
      | _=>False
     | false=>False
    | _=>False
   | _,_=>False
  | .struct _=>jeo N off' d ye s x L H K
  | .slice _=>jeo N off' d ye s x L H K
  | _=>False
 | _=>False
theorem jbw (w:World)(n c:Nat)(e:TypeId):n≤grownCap w n c e:=by
 simp only[grownCap,Question.cut];exact Nat.le_add_right _ _
theorem sat_gone {E : Env} {h : Pub} {a : Act} {w : World} (S : Sat cx E h a w L H) (i : Nat) : Sat cx E h a w L ((i, .gone) :: H) := by
  have live : ∀ j c, lookH ((i, .gone) :: H) j = some c → c.live = true → lookH H j = some c := by
    intro j c hc hl
    rw [jag] at hc
    split at hc
    · cases hc; simp [Chunk.live] at hl
    · exact hc
  refine { knows := S.knows, mem := ?_, agree := S.agree, since := S.since, low := S.low, side := S.side }
  refine { ok := ?_, base := fun j c hc hl hr => S.mem.base j c (live j c hc hl) hl hr, unpub := fun j c hc hl hr => S.mem.unpub j c (live j c hc hl) hl hr,
           inj := fun j k c1 c2 hjk h1 h2 l1 l2 => S.mem.inj j k c1 c2 hjk (live j c1 h1 l1) (live k c2 h2 l2) l1 l2 }
  intro j c hc
  cases hl : c.live with
  | false => cases c <;> first | trivial | simp [Chunk.live] at hl
  | true => exact S.mem.ok j c (live j c hc hl)
theorem jfF {d t e:Nat}{ye:Ty}{s x:Operand}(hu:P.underlying t=some (.slice e))(hte:TyOk P e ye)(hns:∀ k,P.underlying t≠some (.int k))(hd:o.dst=some d)(ho:o.op = .call { callee := .builtin .append,args := #[s,x],argTypes := #[t,t] })
  (hh:jeo N cx.off d ye s x L H K):Heavy P N cx Q o K L H:=by
 unfold jeo at hh
 split at hh
 case h_2=>exact hh.elim
 rename_i hb1 hb2
 have hby:=jiE hb1
 have hpos0:0<ye.size:=by
  rcases jiM ye.size with e|e
  ·rw[e] at hb2;simp at hb2
  ·exact e
 have hz:=jar hh;clear hh;obtain⟨ds,hh,hs⟩:=hz
 obtain⟨iy,z,i1,i2,i3,i4,i5,i6,_,i8,_⟩:=hte.info
 have hexec:∀ (a:Act) (w w':World) (v:Value),(Builtin.append_ #[t,t] o.type #[a.eval s,a.eval x]).run P w = .ok v w'→(execOp a.eval o).run P w = .ok (.value v) w':=fun a w w' v e=>by
  simp[execOp,ho,resolve,invoke,builtin,e]
 have hsize:∀ w:World,(sizeOf e).run P w = .ok ye.size w:=fun w=>hte.sizeOf w
 split at hh
 ·have hz:=jar hh;clear hh;obtain⟨dx,hh,hdx⟩:=hz
  have hz:=bsrc_el hh;clear hh;obtain⟨es,n,hh,hn,hsrc⟩:=hz
  split at hh
  case h_2=>exact hh.elim
  rename_i hb3 hfr
  have hle:=jiE hb3
  refine jbA hd hh fun E h a w S=>?_
  have hs0:=hs E h a trivial (S.facts.rd s)
  simp only[Den] at hs0
  obtain⟨ad,cap,us,h3,h4,h5,h6,h7,h8⟩:=hsrc E h a w L S.facts _ (hdx E h a trivial (S.facts.rd x))
  have hrun:=run_append_nil (P:=P) w t o.type e iy z hu i1 i4 ad n cap us (by rw[h5,i2]) h8 hn (by omega) (by
   have:n*iy.bytes≤1000000*4096:=Nat.mul_le_mul hle (by rw[i3];exact hby)
   omega)
  rw[← hs0,← h3] at hrun
  refine⟨_,_,grownCap w n 0 e*ye.size,0,hexec a w _ _ hrun,(Below.refl _ w).drew.alloc (jiL _) _,?_,?_⟩
  ·have hcap:n≤grownCap w n 0 e:=jbw _ _ _ _
   refine⟨E.set_real _ _ _ _,us,(Builtin.zeroCells z.cells (grownCap w n 0 e-n)).toList,e,?_,DenL.env (E.off_set _ _ _ _) hfr h6,h7,?_⟩
   ·rw[Env.set_blk]
    have:=heap_alloc_new w.drew (.cells (us.toArray++Builtin.zeroCells z.cells (grownCap w n 0 e-n)) e)
    rw[show w.drew.heap.size=w.heap.size from rfl] at this
    rw[this]
    congr 2
    apply Array.toList_inj.1
    simp
   ·rw[Env.set_siz]
    have:(Builtin.zeroCells z.cells (grownCap w n 0 e-n)).toList.length=(grownCap w n 0 e-n)*ye.size:=by simp[Builtin.zeroCells,i8]
    rw[this,h5,← Nat.add_mul]
    congr 1
    omega
  ·simp only[Den]
   exact⟨E.set_real _ _ _ _,_,by rw[Env.set_blk],jbw _ _ _ _,by omega,.inr ⟨trivial,by rw[Env.set_siz];exact jiL _⟩⟩
 ·rename_i i off len e'
  split at hh
  case h_2=>exact hh.elim
  rename_i hb3 hb4
  have hoff:=jae hb3
  have he':=jae hb4
  subst hoff
  subst he'
  have hy':=jaD hh;clear hh;obtain⟨c,hc,hh⟩:=hy'
  split at hh
  case h_2=>exact hh.elim
  rename_i ds0
  cases hl0:Nat.beq ds0.length (len*ye.size) with
  | false=>rw[hl0] at hh;exact hh.elim
  | true=>
   rw[hl0] at hh
   have hl0:=jae hl0
   have hz:=jar hh;clear hh;obtain⟨dx,hh,hdx⟩:=hz
   have hz:=bsrc_el hh;clear hh;obtain⟨es,n,hh,hn,hsrc⟩:=hz
   split at hh
   case h_2=>exact hh.elim
   rename_i hb5 hfr
   have hle:=jiE hb5
   intro E h a w hN S next hnext
   obtain⟨hlt,hK⟩:=jc5 hh
   rw[jf4] at hK
   suffices hgoal:∃ v w' E',(execOp a.eval o).run P w = .ok (.value v) w'∧Sat cx E' h (a.put (some d) v) w' ((d,.bsl (cx.off+d) 0 (len+n) ye.size)::purge (cx.off+d) L) ((cx.off+d,.box (ds0++es))::jaG (cx.off+d) ((i,.gone)::H)) by
    obtain⟨v,w',E',h1,h2⟩:=hgoal
    unfold Oper.wp
    rw[h1]
    simp only[Oper.upon,hd]
    exact hnext _ _ _ _ _ _ hK (jaB _ _ _) h2
   have hden:=hs E h a trivial (S.facts.rd s)
   have hdl:d<a.tmps.size:=by omega
   obtain⟨ad,cap,us,h3,h4,h5,h6,h7,h8⟩:=hsrc E h a w L S.facts _ (hdx E h a trivial (S.facts.rd x))
   simp only[Den] at hden
   obtain⟨hreal,scap,hs0,g1,g2,g3⟩:=hden
   have Sg:=sat_gone S i
   obtain⟨_,vs,rest,T,hb,hdv,hov,hsz⟩:=S.mem.ok _ _ hc
   have hvl:vs.length=len*ye.size:=by rw[hdv.length,hl0]
   by_cases hfit:len+n≤scap
   ·-- there is room
    have hcs:scap*ye.size≤E.siz i:=by
     rcases g3 with g3|g3
     ·omega
     ·exact g3.2
    have hrest:(len+n)*ye.size≤vs.length+rest.length:=by
     have:=Nat.mul_le_mul_right ye.size hfit
     omega
    have hrest2:vs.length+us.length≤vs.length+rest.length:=by
     rw[Nat.add_mul] at hrest;omega
    obtain⟨W,hW⟩:∃ W,W=w.setRow (E.blk i) (vs++us++rest.drop us.length).toArray:=⟨_,rfl⟩
    have hst:=run_storeCells_at P (E.blk i) (len*ye.size) T us 0 (vs++rest).toArray w hb (by simp;omega) h7
    have hst2:(storeCells ⟨E.blk i,len*ye.size,none⟩ us 0).run P w = .ok () W:=by
     rw[hst,hW]
     congr 2
     apply Array.toList_inj.1
     simp only[Nat.add_zero,jjl]
     rw[List.take_append_of_le_length (by omega),jjr (by omega)]
     congr 2
     rw[List.drop_append,jjs (by omega)]
     simp
     congr 1
     omega
    refine⟨.slice (some ⟨E.blk i,0,none⟩) (len+n) scap,W,E.set (cx.off+d) (E.blk i) (E.siz i) 0,hexec a w W _ ?_,?_⟩
    ·have hf:=run_firstCells_some (P:=P) w ye.size n ad n cap us h5 h8
     rw[hs0,h3]
     simp only[Builtin.append_]
     have hnz:(match (TypeDesc.slice e) with | .int _=>true|_=>false)=false:=rfl
     simp only[Sem.run_bind,run_underlying hu,Result.andThen_ok,hsize,Builtin.lenOf,Sem.run_pure,hf,if_pos hfit,jaU,Bool.false_eq_true,if_false,Bool.not_false,if_true,
      jjt,List.getElem?_cons_zero,List.getElem?_cons_succ,Sem.run_ite,jiI]
     rw[hst2]
     simp
    ·refine Sg.fresh (b:=E.blk i) (by rw[hW];rfl) (by rw[hW];rfl) (by rw[hW];rfl) (by rw[hW,size_setRow];exact jiL _) (fun q _ hq=>by rw[hW];exact setRow_other w _ _ _ hq)
      (S.mem.base i _ hc rfl hreal) (S.mem.unpub i _ hc rfl hreal) (fun q hq=>by obtain⟨cs,T',f,hcell⟩:=(S.mem.ok i _ hc).cells rfl hreal;rw[hcell] at hq;cases hq;rfl) ?_ ?_ hdl (Nat.le_add_right _ _) ?_
     ·intro j c' hj hc' hl hrj
      rw[jag] at hc'
      split at hc'
      ·cases hc';simp[Chunk.live] at hl
      ·rename_i hij
       exact S.mem.inj j i c' _ (Ne.symm hij) hc' hc hl rfl hrj hreal
     ·refine⟨E.set_real _ _ _ _,vs++us,rest.drop us.length,T,?_,DenL.env (E.off_set _ _ _ _) hfr (hdv.append h6),?_,?_⟩
      ·rw[Env.set_blk,hW,setRow_heap w _ _ _ T (0,0) hb]
      ·intro v hv
       rcases List.mem_append.1 hv with hv|hv
       ·exact hov v hv
       ·exact h7 v hv
      ·rw[Env.set_siz,hsz];simp;omega
     ·simp only[Den]
      exact⟨E.set_real _ _ _ _,scap,by rw[Env.set_blk],hfit,by omega,.inr ⟨trivial,by rw[Env.set_siz];exact hcs⟩⟩
   ·-- a new block
    have holds:∀ (j:Nat) v,vs[j]? = some v→w.cell? ((⟨E.blk i,0,none⟩:Addr).add j)=some v:=by
     intro j v hv
     rw[jaU,jiI]
     exact jdH hb hv
    have hrun:=run_append_grow (P:=P) w t o.type e iy z hu i1 i4 ⟨E.blk i,0,none⟩ len scap vs (by rw[hvl,i2]) holds ad n cap us (by rw[h5,i2]) h8
     (by omega) (by omega) (growslice_fits (by omega) (by
      have:(len+n)*iy.bytes≤1000000*4096:=Nat.mul_le_mul hle (by rw[i3];exact hby)
      omega))
    rw[← hs0,← h3] at hrun
    have hcap:len+n≤grownCap w (len+n) scap e:=jbw _ _ _ _
    refine⟨_,_,E.set (cx.off+d) w.heap.size (grownCap w (len+n) scap e*ye.size) 0,hexec a w _ _ hrun,?_⟩
    refine Sg.alloc ?_ ?_ hdl (Nat.le_add_right _ _) ?_
    ·exact(Below.refl _ w).drew.alloc (jiL _) _
    ·refine⟨E.set_real _ _ _ _,vs++us,(Builtin.zeroCells z.cells (grownCap w (len+n) scap e-(len+n))).toList,e,?_,DenL.env (E.off_set _ _ _ _) hfr (hdv.append h6),?_,?_⟩
     ·rw[Env.set_blk]
      have:=heap_alloc_new w.drew (.cells (vs.toArray++us.toArray++Builtin.zeroCells z.cells (grownCap w (len+n) scap e-(len+n))) e)
      rw[show w.drew.heap.size=w.heap.size from rfl] at this
      rw[this]
      congr 2
      apply Array.toList_inj.1
      simp
     ·intro v hv
      rcases List.mem_append.1 hv with hv|hv
      ·exact hov v hv
      ·exact h7 v hv
     ·rw[Env.set_siz]
      have h9:(Builtin.zeroCells z.cells (grownCap w (len+n) scap e-(len+n))).toList.length=(grownCap w (len+n) scap e-(len+n))*ye.size:=by simp[Builtin.zeroCells,i8]
      rw[h9,jjj,hvl,h5,← Nat.add_mul,← Nat.add_mul]
      congr 1
      omega
    ·simp only[Den]
     exact⟨E.set_real _ _ _ _,_,by rw[Env.set_blk],hcap,by omega,.inr ⟨trivial,by rw[Env.set_siz];exact jiL _⟩⟩
 ·exact hh.elim
theorem append_el (htb : TbOk P tb) {d t : Nat} {s x : Operand} (hd : o.dst = some d) (ho : o.op = .call { callee := .builtin .append, args := #[s, x], argTypes := #[t, t] })
    (hh : appendK tb N cx.off d t s x L H K) : Heavy P N cx Q o K L H := by
  have hx := jaj hh; clear hh; obtain ⟨y, hy, hh⟩ := hx
  have hty := htb _ _ hy
  split at hh
  case h_2 => exact hh.elim
  rename_i e hk
  have hu := jax hty hk
  have hx := jaj hh; clear hh; obtain ⟨ye, hye, hh⟩ := hx
  have hte := htb _ _ hye
  split at hh
  case h_2 => exact jfF hu hte (fun k h => by rw [hu] at h; cases h) hd ho hh
  case h_3 => exact jfF hu hte (fun k h => by rw [hu] at h; cases h) hd ho hh
  case h_4 => exact hh.elim
  rename_i k hke
  have hz := zero0_el hh; clear hh; obtain ⟨hz0, hh⟩ := hz
  split at hh
  case h_2 => exact hh.elim
  rename_i hb1 hb2
  have hs1 := jae hb1
  have hb8 := jiE hb2
  have hz := jar hh; clear hh; obtain ⟨ds, hh, hs⟩ := hz
  obtain ⟨iy, i1, i2, i3, z, i4, i5⟩ := jd6 hte
  have hsz1 : iy.size = 1 := by rw [i2, hs1]
  have hby : iy.bytes ≤ 8 := by rw [i3]; exact hb8
  have hue := jdw hte hke
  have hexec : ∀ (a : Act) (w w' : World) (v : Value), (Builtin.append_ #[t, t] o.type #[a.eval s, a.eval x]).run P w = .ok v w' → (execOp a.eval o).run P w = .ok (.value v) w' := fun a w w' v e => by
    simp [execOp, ho, resolve, invoke, builtin, e]
  have hsize : ∀ w : World, (sizeOf e).run P w = .ok 1 w := fun w => by rw [hte.sizeOf w, hs1]
  -- the cells of what is appended
  have hcells : ∀ (a : Act) (w : World) (ys : List Int) (ad : Option Addr) (cap : Nat), (match ad with | none => ys = [] | some ad => ∀ (j : Nat) u, (ys.map (Value.int k))[j]? = some u → w.cell? (ad.add j) = some u) →
      (Builtin.firstCells 1 ys.length (.slice ad ys.length cap)).run P w = .ok (ys.map (Value.int k)).toArray w := fun a w ys ad cap hc => by
    cases ad with
    | none => simp only at hc; subst hc; simp [Builtin.firstCells]
    | some ad => exact run_firstCells_some w 1 ys.length ad _ cap (ys.map (Value.int k)) (by simp) hc
  -- nothing is there yet
  have nilCase : ∀ (xs0 : Value), (∀ E h a w, Sat cx E h a w L H → a.eval s = .slice none 0 0) → ∀ (dx : D) (ys : List Int), ys.length ≤ 17592186044416 →
      (∀ E h a (w : World) L, Facts E h a w L H → ∀ v, Den E h dx v → (∀ n ∈ ys, InR k n) ∧ ys.length ≤ 281474976710656 ∧ ∃ ad cap, v = .slice ad ys.length cap ∧
        (match ad with | none => ys = [] | some ad => ∀ (j : Nat) u, (ys.map (Value.int k))[j]? = some u → w.cell? (ad.add j) = some u)) →
      (∀ (E : Env) (h : Pub) (a : Act), True → Den E h (rd L x) (a.eval x) → Den E h dx (a.eval x)) →
      ∀ E h a w, Sat cx E h a w L H → d < a.tmps.size → ∃ v w' E', (execOp a.eval o).run P w = .ok (.value v) w' ∧ Sat cx E' h (a.put (some d) v) w' ((d, .osl (cx.off + d) 0 ys.length) :: purge (cx.off + d) L) ((cx.off + d, .arr k ys) :: jaG (cx.off + d) H) := by
    intro _ hnil dx ys hlen hsrc hdx E h a w S hdl
    have hs0 := hnil E h a w S
    obtain ⟨h1, h2, ad, cap, h3, h4⟩ := hsrc E h a w L S.facts _ (hdx E h a trivial (S.facts.rd x))
    cases hys : ys with
    | nil =>
      subst hys
      refine ⟨.slice none 0 0, w, E.virt (cx.off + d), hexec a w w _ ?_, S.virt hdl (Nat.le_add_right _ _) (by simp only [Den]; exact .inl ⟨E.virt_real (cx.off + d), trivial, rfl⟩)⟩
      have hf := hcells a w [] ad cap h4
      simp only [List.length_nil, List.map_nil] at hf h3
      simp [Builtin.append_, hs0, h3, run_underlying hu, run_underlying hue, hsize, Builtin.lenOf, hf]
    | cons n ns =>
      cases ad with
      | none => simp only at h4; rw [h4] at hys; cases hys
      | some ad =>
        have hpos : 0 < ys.length := by rw [hys]; simp
        have hrun := run_append_nil (P := P) w t o.type e iy z hu i1 i4 ad ys.length cap (ys.map (Value.int k)) (by simp [hsz1]) h4 hpos (by omega) (by
          have : ys.length * iy.bytes ≤ ys.length * 8 := Nat.mul_le_mul_left _ hby
          omega)
        rw [← hs0, ← h3] at hrun
        rw [← hys]
        refine ⟨_, _, E.set (cx.off + d) w.heap.size (grownCap w ys.length 0 e) ys.length, hexec a w _ _ hrun, ?_⟩
        have hcap : ys.length ≤ grownCap w ys.length 0 e := jbw _ _ _ _
        have hzsz : z.cells.size = 1 := by
          have h5 := (i5 E h).length
          rw [hz0] at h5; simpa using h5
        refine S.alloc ?_ ?_ hdl (Nat.le_add_right _ _) ?_
        · exact (Below.refl _ w).drew.alloc (jiL _) _
        · refine .inr ⟨E.set_real _ _ _ _, (Builtin.zeroCells z.cells (grownCap w ys.length 0 e - ys.length)).toList, e, ?_, ?_, h1, by rw [Env.set_kn]⟩
          · rw [Env.set_blk]
            have := heap_alloc_new w.drew (.cells ((ys.map (Value.int k)).toArray ++ Builtin.zeroCells z.cells (grownCap w ys.length 0 e - ys.length)) e)
            rw [show w.drew.heap.size = w.heap.size from rfl] at this
            rw [this]
            congr 2
            apply Array.toList_inj.1
            simp
          · rw [Env.set_siz]
            simp [Builtin.zeroCells, hzsz]; omega
        · simp only [Den]
          exact .inr ⟨E.set_real _ _ _ _, 0, _, by rw [Env.set_blk], hcap, by rw [Env.set_siz]; omega, by omega, .inl rfl, by rw [Env.set_kn]; omega⟩
  split at hh
  · -- nil
    have hz := jar hh; clear hh; obtain ⟨dx, hh, hdx⟩ := hz
    have hz := jgp hh; clear hh; obtain ⟨ys, hh, hsrc⟩ := hz
    obtain ⟨hlen, hK⟩ := hh
    intro E h a w hN S next hnext
    obtain ⟨hlt, hK⟩ := jc5 hK
    rw [jf4] at hK
    obtain ⟨v, w', E', h1, h2⟩ := nilCase .nilIface (fun E h a w S => by
      have := hs E h a trivial (S.facts.rd s); simpa [Den] using this) dx ys (hlen trivial) hsrc (fun E h a _ hd => hdx E h a trivial hd) E h a w S (by omega)
    unfold Oper.wp
    rw [h1]
    simp only [Oper.upon, hd]
    exact hnext _ _ _ _ _ _ hK (jaB _ _ _) h2
  · rename_i i off len
    cases hb0 : Nat.beq off 0 with
    | false => rw [hb0] at hh; exact hh.elim
    | true =>
      rw [hb0] at hh
      have hoff := jae hb0; subst hoff
      have hy' := jaD hh; clear hh; obtain ⟨c, hc, hh⟩ := hy'
      split at hh
      case h_2 => exact hh.elim
      rename_i k' xs
      split at hh
      case h_2 => exact hh.elim
      rename_i hkk
      have := kE_eq hkk; subst this
      have hz := jar hh; clear hh; obtain ⟨dx, hh, hdx⟩ := hz
      have hz := jgp hh; clear hh; obtain ⟨ys, hh, hsrc⟩ := hz
      obtain ⟨hlen, hK⟩ := hh
      obtain ⟨hxl, hlen⟩ := hlen trivial
      intro E h a w hN S next hnext
      obtain ⟨hlt, hK⟩ := jc5 hK
      rw [jf4] at hK
      suffices hgoal : ∃ v w' E', (execOp a.eval o).run P w = .ok (.value v) w' ∧ Sat cx E' h (a.put (some d) v) w' ((d, .osl (cx.off + d) 0 (len + ys.length)) :: purge (cx.off + d) L) ((cx.off + d, .arr k (xs ++ ys)) :: jaG (cx.off + d) ((i, .gone) :: H)) by
        obtain ⟨v, w', E', h1, h2⟩ := hgoal
        unfold Oper.wp
        rw [h1]
        simp only [Oper.upon, hd]
        exact hnext _ _ _ _ _ _ hK (jaB _ _ _) h2
      have hden := hs E h a trivial (S.facts.rd s)
      have hdl : d < a.tmps.size := by omega
      obtain ⟨h1, h2, ad, cap, h3, h4⟩ := hsrc E h a w L S.facts _ (hdx E h a trivial (S.facts.rd x))
      simp only [Den] at hden
      have Sg := sat_gone S i
      rcases hden with ⟨hreal, hs0, hl0⟩ | ⟨hreal, so, scap, hs0, g1, g2, g3, g4, g5⟩
      · -- a list without a block
        have hx0 : xs = [] := jjf.1 (by omega)
        subst hx0; subst hl0
        simp only [List.nil_append, jiI]
        cases hys : ys with
        | nil =>
          subst hys
          refine ⟨.slice none 0 0, w, E.virt (cx.off + d), hexec a w w _ ?_, Sg.virt hdl (Nat.le_add_right _ _) (by simp only [Den]; exact .inl ⟨E.virt_real (cx.off + d), trivial, rfl⟩)⟩
          have hf := hcells a w [] ad cap h4
          simp only [List.length_nil, List.map_nil] at hf h3
          simp [Builtin.append_, hs0, h3, run_underlying hu, run_underlying hue, hsize, Builtin.lenOf, hf]
        | cons n ns =>
          cases ad with
          | none => simp only at h4; rw [h4] at hys; cases hys
          | some ad =>
            have hpos : 0 < ys.length := by rw [hys]; simp
            have hrun := run_append_nil (P := P) w t o.type e iy z hu i1 i4 ad ys.length cap (ys.map (Value.int k)) (by simp [hsz1]) h4 hpos (by omega) (by
              have : ys.length * iy.bytes ≤ ys.length * 8 := Nat.mul_le_mul_left _ hby
              omega)
            rw [← hs0, ← h3] at hrun
            rw [← hys]
            refine ⟨_, _, E.set (cx.off + d) w.heap.size (grownCap w ys.length 0 e) ys.length, hexec a w _ _ hrun, ?_⟩
            have hcap : ys.length ≤ grownCap w ys.length 0 e := jbw _ _ _ _
            have hzsz : z.cells.size = 1 := by
              have h5 := (i5 E h).length
              rw [hz0] at h5; simpa using h5
            refine Sg.alloc ?_ ?_ hdl (Nat.le_add_right _ _) ?_
            · exact (Below.refl _ w).drew.alloc (jiL _) _
            · refine .inr ⟨E.set_real _ _ _ _, (Builtin.zeroCells z.cells (grownCap w ys.length 0 e - ys.length)).toList, e, ?_, ?_, h1, by rw [Env.set_kn]⟩
              · rw [Env.set_blk]
                have := heap_alloc_new w.drew (.cells ((ys.map (Value.int k)).toArray ++ Builtin.zeroCells z.cells (grownCap w ys.length 0 e - ys.length)) e)
                rw [show w.drew.heap.size = w.heap.size from rfl] at this
                rw [this]
                congr 2
                apply Array.toList_inj.1
                simp
              · rw [Env.set_siz]
                simp [Builtin.zeroCells, hzsz]; omega
            · simp only [Den]
              exact .inr ⟨E.set_real _ _ _ _, 0, _, by rw [Env.set_blk], hcap, by rw [Env.set_siz]; omega, by omega, .inl rfl, by rw [Env.set_kn]; omega⟩
      · obtain ⟨rest, T, hb, hsz, hr, hkn⟩ := ja2 hreal (S.mem.ok _ _ hc)
        have hso : so = 0 ∨ scap = 0 := g4
        by_cases hfit : len + ys.length ≤ scap
        · -- there is room
          have hrest : len + ys.length ≤ xs.length + rest.length := by omega
          obtain ⟨W, hW⟩ : ∃ W, W = w.setRow (E.blk i) (setAt (xs.map (Value.int k) ++ rest) (so + len) (ys.map (Value.int k))).toArray := ⟨_, rfl⟩
          have hst := run_storeCells_at P (E.blk i) (so + len) T (ys.map (Value.int k)) 0 (xs.map (Value.int k) ++ rest).toArray w hb (by simp; omega) jbi
          refine ⟨.slice (some ⟨E.blk i, so, none⟩) (len + ys.length) scap, W, E.set (cx.off + d) (E.blk i) (E.siz i) (len + ys.length), hexec a w W _ ?_, ?_⟩
          · have hf := hcells a w ys ad cap h4
            rw [hs0, h3]
            simp only [Builtin.append_]
            simp only [Sem.run_bind, run_underlying hu, run_underlying hue, Result.andThen_ok, hsize, Builtin.lenOf, Sem.run_pure, hf, if_pos hfit, Nat.mul_one, jaU, Bool.false_eq_true, if_false, Bool.not_false, if_true,
              jjt, List.getElem?_cons_zero, List.getElem?_cons_succ, Sem.run_ite]
            rw [hst, hW]
            simp [setAt]
          · have hlen2 : so = 0 ∨ ys = [] := by
              rcases hso with h5 | h5
              · exact .inl h5
              · exact .inr (jjf.1 (by omega))
            refine Sg.fresh (b := E.blk i) (by rw [hW]; rfl) (by rw [hW]; rfl) (by rw [hW]; rfl) (by rw [hW, size_setRow]; exact jiL _) (fun q _ hq => by rw [hW]; exact setRow_other w _ _ _ hq)
              (S.mem.base i _ hc rfl hreal) (S.mem.unpub i _ hc rfl hreal) (fun q hq => by obtain ⟨cs, T', f, hcell⟩ := (S.mem.ok i _ hc).cells rfl hreal; rw [hcell] at hq; cases hq; rfl) ?_ ?_ hdl (Nat.le_add_right _ _) ?_
            · intro j c' hj hc' hl hrj
              rw [jag] at hc'
              split at hc'
              · cases hc'; simp [Chunk.live] at hl
              · rename_i hij
                exact S.mem.inj j i c' _ (Ne.symm hij) hc' hc hl rfl hrj hreal
            · refine .inr ⟨E.set_real _ _ _ _, rest.drop ys.length, T, ?_, ?_, ?_, by rw [Env.set_kn]; simp; omega⟩
              · rw [Env.set_blk, hW, setRow_heap w _ _ _ T (0, 0) hb]
                congr 2
                apply Array.toList_inj.1
                rcases hlen2 with h5 | h5
                · subst h5
                  simp only [setAt, jiI, ← hxl, List.map_append]
                  rw [List.take_append_of_le_length (by simp), jjr (by simp)]
                  congr 1
                  rw [List.drop_append]
                  simp
                · subst h5
                  simp [setAt]
              · rw [Env.set_siz, hsz]; simp; omega
              · intro n hn
                rcases List.mem_append.1 hn with hn | hn
                · exact hr n hn
                · exact h1 n hn
            · simp only [Den]
              exact .inr ⟨E.set_real _ _ _ _, so, scap, by rw [Env.set_blk], hfit, by rw [Env.set_siz]; exact g2, by omega, hso, by rw [Env.set_kn]; omega⟩
        · -- a new block
          have hys : ys ≠ [] := by
            intro e0; subst e0; simp at hfit; omega
          cases ad with
          | none => exact absurd h4 hys
          | some ad =>
            have holds : ∀ (j : Nat) v, (xs.map (Value.int k))[j]? = some v → w.cell? ((⟨E.blk i, so, none⟩ : Addr).add j) = some v := by
              intro j v hv
              rw [jaU]
              have hj : j < xs.length := by simpa using (jjn.1 hv).1
              rcases hso with h5 | h5
              · subst h5
                rw [jiI]
                refine jb7 hb ?_
                rw [jjm (by simpa using hj)]; exact hv
              · omega
            have hrun := run_append_grow (P := P) w t o.type e iy z hu i1 i4 ⟨E.blk i, so, none⟩ len scap (xs.map (Value.int k)) (by simp [hsz1, hxl]) holds ad ys.length cap (ys.map (Value.int k)) (by simp [hsz1]) h4
              (by omega) (by omega) (growslice_fits (by omega) (by
                have : (len + ys.length) * iy.bytes ≤ (len + ys.length) * 8 := Nat.mul_le_mul_left _ hby
                omega))
            rw [← hs0, ← h3] at hrun
            have hcap : len + ys.length ≤ grownCap w (len + ys.length) scap e := jbw _ _ _ _
            have hzsz : z.cells.size = 1 := by
              have h5 := (i5 E h).length
              rw [hz0] at h5; simpa using h5
            refine ⟨_, _, E.set (cx.off + d) w.heap.size (grownCap w (len + ys.length) scap e) (len + ys.length), hexec a w _ _ hrun, ?_⟩
            refine Sg.alloc ?_ ?_ hdl (Nat.le_add_right _ _) ?_
            · exact (Below.refl _ w).drew.alloc (jiL _) _
            · refine .inr ⟨E.set_real _ _ _ _, (Builtin.zeroCells z.cells (grownCap w (len + ys.length) scap e - (len + ys.length))).toList, e, ?_, ?_, ?_, by rw [Env.set_kn]; simp; omega⟩
              · rw [Env.set_blk]
                have := heap_alloc_new w.drew (.cells ((xs.map (Value.int k)).toArray ++ (ys.map (Value.int k)).toArray ++ Builtin.zeroCells z.cells (grownCap w (len + ys.length) scap e - (len + ys.length))) e)
                rw [show w.drew.heap.size = w.heap.size from rfl] at this
                rw [this]
                congr 2
                apply Array.toList_inj.1
                simp
              · rw [Env.set_siz]
                simp [Builtin.zeroCells, hzsz]; omega
              · intro n hn
                rcases List.mem_append.1 hn with hn | hn
                · exact hr n hn
                · exact h1 n hn
            · simp only [Den]
              exact .inr ⟨E.set_real _ _ _ _, 0, _, by rw [Env.set_blk], hcap, by rw [Env.set_siz]; omega, by omega, .inl rfl, by rw [Env.set_kn]; omega⟩
  · exact hh.elim
end
end Go.V
end
section
namespace Go.V
open Go Go.RowKit
section
variable {P : Program} {tb : Tb} {N : Nat} {cx : Cx} {Q : Exit → Act → World → Prop} {o : Oper} {L : Sl} {H : Hp} {K : K2}
def dstK (N:Nat)(dst:Option Nat)(r:D)(L:Sl)(K:Sl→Prop):Prop:=match dst with
 | none=>K L
 | some d=>ltK d N (K ((d,r)::L))
theorem jeR {N:Nat}{dst:Option Nat}{r:D}{L:Sl}{K:Sl→Prop}(h:dstK N dst r L K) :
  ∃ L',K L' ∧ ∀ E hp a w H v,N≤a.tmps.size→Sat cx E hp a w L H→Den E hp r v→Sat cx E hp (a.put dst v) w L' H:=by
 cases dst with
 | none=>exact⟨L,h,fun E hp a w H v _ S _=>S⟩
 | some d=>
  obtain⟨h1,h2⟩:=jc5 h
  exact⟨_,h2,fun E hp a w H v hN S hv=>S.put (by omega) hv⟩
def jeK (k:IntKind)(ys:List Int):Nat→Nat→List D
 | 0,_=>[]
 | m+1,j => .int k (ys.getD j 0)::jeK k ys m (j+1)
theorem jeZ {E:Env}{h:Pub}{k:IntKind}{ys:List Int}(hr:∀ n∈ys,InR k n):∀ (m j:Nat),j+m≤ys.length→DenL E h (jeK k ys m j) (((ys.drop j).take m).map (Value.int k))
 | 0,j,_=>by simp[jeK,DenL]
 | m+1,j,hj=>by
  have hlt:j<ys.length:=by omega
  rw[jju hlt,List.take_succ_cons,List.map_cons]
  simp only[jeK,DenL]
  have e:ys.getD j 0=ys[j]:=by simp[jje,hlt]
  refine⟨_,_,rfl,?_,jeZ hr m (j+1) (by omega)⟩
  rw[e]
  simp only[Den]
  exact⟨trivial,hr _ (List.getElem_mem hlt)⟩
def copyK (tb:Tb)(N:Nat)(dst:Option Nat)(t:Nat)(s x:Operand)(L:Sl)(H:Hp)(K:K2):Prop:=tyK tb t fun y=>match y.kind with
 | .slice e=>tyK tb e fun ye=>match ye.kind with
  | .int k=>match Nat.beq ye.size 1 with
   | true=>rdg True L s fun ds=>match ds with
    | .osl i off len=>jbj H i fun c=>match c with
     | .arr k' xs=>match kE k k' with
      | true=>rdg True L x fun dx=>srcK k H dx fun ys=>(True→0<len∧off+len≤xs.length) ∧
        dstK N dst (.int .i64 (min ys.length len:Nat)) L fun L'=>K L' ((i,.arr k (setAt xs off (ys.take len)))::H)
      | false=>False
     | _=>False
    | .bsl i off len es=>match Nat.beq es 1 with
     | true=>jbj H i fun c=>match c with
      | .box dss=>rdg True L x fun dx=>srcK k H dx fun ys=>(True→len≤ys.length)∧jdl dss off (jeK k ys len 0) fun ds'=>
        dstK N dst (.int .i64 (len:Nat)) L fun L'=>K L' ((i,.box ds')::H)
      | .arr k' xs=>match kE k k' with
       | true=>rdg True L x fun dx=>srcK k H dx fun ys=>(True→0<len∧off+len≤xs.length) ∧
         dstK N dst (.int .i64 (min ys.length len:Nat)) L fun L'=>K L' ((i,.arr k (setAt xs off (ys.take len)))::H)
       | false=>False
      | _=>False
     | false=>False
    | _=>False
   | false=>False
  | _=>False
 | _=>False
theorem copy_el (htb:TbOk P tb){t:Nat}{s x:Operand}(ho:o.op = .call { callee := .builtin .copy,args := #[s,x],argTypes := #[t,t] })
  (hh:copyK tb N o.dst t s x L H K):Heavy P N cx Q o K L H:=by
 have hx:=jaj hh;clear hh;obtain⟨y,hy,hh⟩:=hx
 have hty:=htb _ _ hy
 split at hh
 case h_2=>exact hh.elim
 rename_i e hk
 have hu:=jax hty hk
 have hx:=jaj hh;clear hh;obtain⟨ye,hye,hh⟩:=hx
 have hte:=htb _ _ hye
 split at hh
 case h_2=>exact hh.elim
 rename_i k hke
 cases hb1:Nat.beq ye.size 1 with
 | false=>rw[hb1] at hh;exact hh.elim
 | true=>
  rw[hb1] at hh
  have hs1:=jae hb1
  have hz:=jar hh;clear hh;obtain⟨ds,hh,hs⟩:=hz
  split at hh
  case h_3=>exact hh.elim
  case h_2=>
   rename_i i off len es
   cases hb2:Nat.beq es 1 with
   | false=>rw[hb2] at hh;exact hh.elim
   | true=>
    rw[hb2] at hh
    have hy':=jaD hh;clear hh;obtain⟨c,hc,hh⟩:=hy'
    split at hh
    case h_3=>exact hh.elim
    case h_2=>
     rename_i k' xs
     split at hh
     case h_2=>exact hh.elim
     rename_i hkk
     have:=kE_eq hkk;subst this
     have hz:=jar hh;clear hh;obtain⟨dx,hh,hdx⟩:=hz
     have hz:=jgp hh;clear hh;obtain⟨ys,hh,hsrc⟩:=hz
     obtain⟨hlen,hK⟩:=hh
     obtain⟨hpos,hfit⟩:=hlen trivial
     obtain⟨L',hK,hput⟩:=jeR (cx:=cx) hK
     intro E h a w hN S next hnext
     have hden:=hs E h a trivial (S.facts.rd s)
     obtain⟨h1,h2,ad,cap,h3,h4⟩:=hsrc E h a w L S.facts _ (hdx E h a trivial (S.facts.rd x))
     simp only[Den] at hden
     obtain⟨hreal,scap,hs0,g1,g3,g5⟩:=hden
     obtain⟨so,hso⟩:∃ so,so=off:=⟨_,rfl⟩
     subst hso
     obtain⟨rest,T,hb,hsz,hr,hkn⟩:=ja2 hreal (S.mem.ok _ _ hc)
     obtain⟨iy,i1,i2,i3,z,i4,i5⟩:=jd6 hte
     -- the world behind
     obtain⟨W,hW⟩:∃ W,W=w.setRow (E.blk i) (setAt (xs.map (Value.int k)++rest) so ((ys.take len).map (Value.int k))).toArray:=⟨_,rfl⟩
     have hrun:(Builtin.copy_ #[t,t] o.type #[a.eval s,a.eval x]).run P w = .ok (.int .i64 (min ys.length len:Nat)) W:=by
      rw[hs0,h3]
      have hst:=run_storeCells_at P (E.blk i) so T ((ys.take len).map (Value.int k)) 0 (xs.map (Value.int k)++rest).toArray w hb (by simp;omega) jbi
      have hmin:((ys.take len).map (Value.int k)).length=min ys.length len:=by simp[Nat.min_comm]
      have hload:(Builtin.firstCells 1 (min ys.length len) (.slice ad ys.length cap)).run P w = .ok ((ys.take len).map (Value.int k)).toArray w:=by
       cases ad with
       | none=>simp only at h4;subst h4;simp[Builtin.firstCells]
       | some ad=>
        rw[← hmin]
        exact run_firstCells_some w 1 _ ad _ cap ((ys.take len).map (Value.int k)) (by simp) (fun j u hu=>h4 j u (by rw[List.map_take] at hu;exact ja6 hu))
      have hszr:(sizeOf e).run P w = .ok 1 w:=by rw[hte.sizeOf w,hs1]
      simp only[Builtin.copy_,jjt,List.getElem?_cons_zero,List.getElem?_cons_succ,Sem.run_bind,run_underlying hu,Result.andThen_ok,Builtin.lenOf,Sem.run_pure,hszr]
      rw[show Nat.min ys.length len=min ys.length len from rfl,hload]
      simp only[Result.andThen_ok]
      rw[hst,hW]
      simp[setAt,goInt]
     unfold Oper.wp
     rw[show (execOp a.eval o).run P w = .ok (.value (.int .i64 (min ys.length len:Nat))) W by simp[execOp,ho,resolve,invoke,builtin,hrun]]
     simp only[Oper.upon]
     refine hnext _ _ E h _ _ hK (jaB _ _ _) ?_
     refine hput E h a W _ _ hN ?_ (by simp only[Den];exact⟨trivial,jca (by omega)⟩)
     refine S.write hc rfl hreal (by rw[hW];rfl) (by rw[hW];rfl) (by rw[hW];rfl) (by rw[hW,size_setRow]) (fun b hb=>by rw[hW];exact setRow_other w _ _ _ hb) ?_
     have hl:(setAt xs so (ys.take len)).length=xs.length:=jb3 (by simp;omega)
     refine .inr ⟨hreal,rest,T,?_,by rw[hl];exact hsz,?_,by rw[hl];exact hkn⟩
     ·rw[hW,setRow_heap w _ _ _ T (0,0) hb]
      congr 2
      apply Array.toList_inj.1
      simp only[setAt,List.map_append,List.map_take,List.map_drop]
      rw[List.take_append_of_le_length (by simp;omega),List.drop_append_of_le_length (by simp;omega)]
      simp
     ·exact jcL hr (fun n hn=>h1 n (jjp hn))
    rename_i dss
    have hz:=jar hh;clear hh;obtain⟨dx,hh,hdx⟩:=hz
    have hz:=jgp hh;clear hh;obtain⟨ys,hh,hsrc⟩:=hz
    obtain⟨hlen,hh⟩:=hh
    have hlen:=hlen trivial
    obtain⟨hle,hK⟩:=jdk hh
    obtain⟨L',hK,hput⟩:=jeR (cx:=cx) hK
    intro E h a w hN S next hnext
    have hden:=hs E h a trivial (S.facts.rd s)
    obtain⟨h1,h2,ad,cap,h3,h4⟩:=hsrc E h a w L S.facts _ (hdx E h a trivial (S.facts.rd x))
    simp only[Den] at hden
    obtain⟨hreal,cap0,hs0,hlc,hl2,_⟩:=hden
    obtain⟨_,vs,rest,T,hb,hd1,hd2,hszr0⟩:=S.mem.ok _ _ hc
    have hil:∀ m j,(jeK k ys m j).length=m:=by
     intro m
     induction m with
     | zero=>intro j;rfl
     | succ m ih=>intro j;simp[jeK,ih]
    rw[hil] at hle
    have hvl:=hd1.length
    obtain⟨W,hW⟩:∃ W,W=w.setRow (E.blk i) (setAt (vs++rest) off ((ys.take len).map (Value.int k))).toArray:=⟨_,rfl⟩
    have hml:((ys.take len).map (Value.int k)).length=len:=by simp;omega
    have hrun:(Builtin.copy_ #[t,t] o.type #[a.eval s,a.eval x]).run P w = .ok (.int .i64 (len:Nat)) W:=by
     rw[hs0,h3]
     have hst:=run_storeCells_at P (E.blk i) off T ((ys.take len).map (Value.int k)) 0 (vs++rest).toArray w hb (by simp;omega) jbi
     have hload:(Builtin.firstCells 1 (min ys.length len) (.slice ad ys.length cap)).run P w = .ok ((ys.take len).map (Value.int k)).toArray w:=by
      cases ad with
      | none=>simp only at h4;subst h4;simp[Builtin.firstCells]
      | some ad=>
       rw[show min ys.length len=((ys.take len).map (Value.int k)).length by simp[Nat.min_comm]]
       exact run_firstCells_some w 1 _ ad _ cap ((ys.take len).map (Value.int k)) (by simp) (fun j u hu=>h4 j u (by rw[List.map_take] at hu;exact ja6 hu))
     have hszr:(sizeOf e).run P w = .ok 1 w:=by rw[hte.sizeOf w,hs1]
     simp only[Builtin.copy_,jjt,List.getElem?_cons_zero,List.getElem?_cons_succ,Sem.run_bind,run_underlying hu,Result.andThen_ok,Builtin.lenOf,Sem.run_pure,hszr]
     rw[show Nat.min ys.length len=min ys.length len from rfl,hload]
     simp only[Result.andThen_ok]
     rw[hst,hW]
     simp[setAt,goInt]
     omega
    unfold Oper.wp
    rw[show (execOp a.eval o).run P w = .ok (.value (.int .i64 (len:Nat))) W by simp[execOp,ho,resolve,invoke,builtin,hrun]]
    simp only[Oper.upon]
    refine hnext _ _ E h _ _ hK (jaB _ _ _) ?_
    refine hput E h a W _ _ hN ?_ (by simp only[Den];exact⟨trivial,jca (by omega)⟩)
    refine S.write hc rfl hreal (by rw[hW];rfl) (by rw[hW];rfl) (by rw[hW];rfl) (by rw[hW,size_setRow]) (fun b hb=>by rw[hW];exact setRow_other w _ _ _ hb) ?_
    have hdi:=jeZ (E:=E) (h:=h) h1 len 0 (by omega)
    rw[List.drop_zero] at hdi
    have hft:off+((ys.take len).map (Value.int k)).length≤vs.length:=by rw[hml];omega
    exact⟨hreal,_,rest,T,by rw[hW,setRow_heap w _ _ _ T (0,0) hb,jgr hft],hd1.setAt hdi off,jcL hd2 jbi,by rw[jb3 hft];exact hszr0⟩
  rename_i i off len
  have hy':=jaD hh;clear hh;obtain⟨c,hc,hh⟩:=hy'
  split at hh
  case h_2=>exact hh.elim
  rename_i k' xs
  split at hh
  case h_2=>exact hh.elim
  rename_i hkk
  have:=kE_eq hkk;subst this
  have hz:=jar hh;clear hh;obtain⟨dx,hh,hdx⟩:=hz
  have hz:=jgp hh;clear hh;obtain⟨ys,hh,hsrc⟩:=hz
  obtain⟨hlen,hK⟩:=hh
  obtain⟨hpos,hfit⟩:=hlen trivial
  obtain⟨L',hK,hput⟩:=jeR (cx:=cx) hK
  intro E h a w hN S next hnext
  have hden:=hs E h a trivial (S.facts.rd s)
  obtain⟨h1,h2,ad,cap,h3,h4⟩:=hsrc E h a w L S.facts _ (hdx E h a trivial (S.facts.rd x))
  simp only[Den] at hden
  rcases hden with⟨_,_,hl0⟩|⟨hreal,so,scap,hs0,g1,g2,g3,g4,g5⟩
  ·omega
  have hso:so=off:=by rcases g4 with g4|g4<;>omega
  subst hso
  obtain⟨rest,T,hb,hsz,hr,hkn⟩:=ja2 hreal (S.mem.ok _ _ hc)
  obtain⟨iy,i1,i2,i3,z,i4,i5⟩:=jd6 hte
  -- the world behind
  obtain⟨W,hW⟩:∃ W,W=w.setRow (E.blk i) (setAt (xs.map (Value.int k)++rest) so ((ys.take len).map (Value.int k))).toArray:=⟨_,rfl⟩
  have hrun:(Builtin.copy_ #[t,t] o.type #[a.eval s,a.eval x]).run P w = .ok (.int .i64 (min ys.length len:Nat)) W:=by
   rw[hs0,h3]
   have hst:=run_storeCells_at P (E.blk i) so T ((ys.take len).map (Value.int k)) 0 (xs.map (Value.int k)++rest).toArray w hb (by simp;omega) jbi
   have hmin:((ys.take len).map (Value.int k)).length=min ys.length len:=by simp[Nat.min_comm]
   have hload:(Builtin.firstCells 1 (min ys.length len) (.slice ad ys.length cap)).run P w = .ok ((ys.take len).map (Value.int k)).toArray w:=by
    cases ad with
    | none=>simp only at h4;subst h4;simp[Builtin.firstCells]
    | some ad=>
     rw[← hmin]
     exact run_firstCells_some w 1 _ ad _ cap ((ys.take len).map (Value.int k)) (by simp) (fun j u hu=>h4 j u (by rw[List.map_take] at hu;exact ja6 hu))
   have hszr:(sizeOf e).run P w = .ok 1 w:=by rw[hte.sizeOf w,hs1]
   simp only[Builtin.copy_,jjt,List.getElem?_cons_zero,List.getElem?_cons_succ,Sem.run_bind,run_underlying hu,Result.andThen_ok,Builtin.lenOf,Sem.run_pure,hszr]
   rw[show Nat.min ys.length len=min ys.length len from rfl,hload]
   simp only[Result.andThen_ok]
   rw[hst,hW]
   simp[setAt,goInt]
  unfold Oper.wp
  rw[show (execOp a.eval o).run P w = .ok (.value (.int .i64 (min ys.length len:Nat))) W by simp[execOp,ho,resolve,invoke,builtin,hrun]]
  simp only[Oper.upon]
  refine hnext _ _ E h _ _ hK (jaB _ _ _) ?_
  refine hput E h a W _ _ hN ?_ (by simp only[Den];exact⟨trivial,jca (by omega)⟩)
  refine S.write hc rfl hreal (by rw[hW];rfl) (by rw[hW];rfl) (by rw[hW];rfl) (by rw[hW,size_setRow]) (fun b hb=>by rw[hW];exact setRow_other w _ _ _ hb) ?_
  have hl:(setAt xs so (ys.take len)).length=xs.length:=jb3 (by simp;omega)
  refine .inr ⟨hreal,rest,T,?_,by rw[hl];exact hsz,?_,by rw[hl];exact hkn⟩
  ·rw[hW,setRow_heap w _ _ _ T (0,0) hb]
   congr 2
   apply Array.toList_inj.1
   simp only[setAt,List.map_append,List.map_take,List.map_drop]
   rw[List.take_append_of_le_length (by simp;omega),List.drop_append_of_le_length (by simp;omega)]
   simp
  ·exact jcL hr (fun n hn=>h1 n (jjp hn))
end
end Go.V
end
section
namespace Go.V
open Go Go.RowKit
def sub0 (k:IntKind)(xs:List Int)(off len:Nat):D:=match off with
 | 0 => .ints k (xs.take len)
 | o+1 => .ints k ((xs.drop (o+1)).take len)
theorem jhd (k:IntKind)(xs:List Int)(off len:Nat):sub0 k xs off len = .ints k ((xs.drop off).take len):=by cases off<;>rfl
def subK (k:IntKind)(xs:List Int)(off len:Nat)(K:D→Prop):Prop:=match off with
 | 0=>K (.ints k (xs.take len))
 | o+1=>K (.ints k ((xs.drop (o+1)).take len))
theorem subK_eq (k:IntKind)(xs:List Int)(off len:Nat)(K:D→Prop):subK k xs off len K=K (sub0 k xs off len):=by cases off<;>rfl
def bslOk (ds:List D)(off len e:Nat):Bool:=match D.pureL ds with
 | true=>Nat.ble (off+len*e) ds.length
 | false=>false
mutual
def pubD (i:Nat)(c:Chunk):D→D
 | .osl j off len=>match Nat.beq i j with
  | true=>match c with | .arr k xs=>sub0 k xs off len|_ => .any
  | false => .osl j off len
 | .box j off=>match Nat.beq i j with
  | true=>match c with | .box ds => .ref (ds.drop off) | .arr k xs => .ref ((xs.map (D.int k)).drop off)|_ => .any
  | false => .box j off
 | .bsl j off len e=>match Nat.beq i j with
  | true=>match c with
   | .box ds=>match bslOk ds off len e with|true => .slf e len (fun q=>(ds.drop (off+q*e)).take e)|false => .any
   | .arr k xs=>match Nat.beq e 1,Nat.ble (off+len) xs.length with|true,true=>sub0 k xs off len|_,_ => .any
   | _ => .any
  | false => .bsl j off len e
 | .agg ds => .agg (pubL i c ds)
 | .tup ds => .tup (pubL i c ds)
 | .fn f es ds => .fn f (pubL i c es) (pubL i c ds)
 | .ref ds => .ref (pubL i c ds)
 | .gd b d => .gd b (pubD i c d)
 | .any => .any
 | .undef => .undef
 | .bool b => .bool b
 | .int k n => .int k n
 | .str s => .str s
 | .nil => .nil
 | .ints k xs => .ints k xs
 | .slf e n f => .slf e n f
 | .iarr k xs => .iarr k xs
 | .gp g => .gp g
 | .yld g => .yld g
 | .val g => .val g
 | .anyb p => .anyb p
def pubL (i:Nat)(c:Chunk):List D→List D
 | []=>[]
 | d::ds=>pubD i c d::pubL i c ds
end
mutual
def pubDK (i:Nat)(c:Chunk):D→(D→Prop)→Prop
 | .osl j off len,K=>match Nat.beq i j with
  | true=>match c with | .arr k xs=>subK k xs off len K|_=>K .any
  | false=>K (.osl j off len)
 | .box j off,K=>match Nat.beq i j with
  | true=>match c with | .box ds=>K (.ref (ds.drop off)) | .arr k xs=>K (.ref ((xs.map (D.int k)).drop off))|_=>K .any
  | false=>K (.box j off)
 | .bsl j off len e,K=>match Nat.beq i j with
  | true=>match c with
   | .box ds=>match bslOk ds off len e with|true=>K (.slf e len (fun q=>(ds.drop (off+q*e)).take e))|false=>K .any
   | .arr k xs=>match Nat.beq e 1,Nat.ble (off+len) xs.length with|true,true=>subK k xs off len K|_,_=>K .any
   | _=>K .any
  | false=>K (.bsl j off len e)
 | .agg ds,K=>pubLK i c ds fun ds=>K (.agg ds)
 | .tup ds,K=>pubLK i c ds fun ds=>K (.tup ds)
 | .fn f es ds,K=>pubLK i c es fun es=>pubLK i c ds fun ds=>K (.fn f es ds)
 | .ref ds,K=>pubLK i c ds fun ds=>K (.ref ds)
 | .gd b d,K=>pubDK i c d fun d=>K (.gd b d)
 | .any,K=>K .any
 | .undef,K=>K .undef
 | .bool b,K=>K (.bool b)
 | .int k n,K=>K (.int k n)
 | .str s,K=>K (.str s)
 | .nil,K=>K .nil
 | .ints k xs,K=>K (.ints k xs)
 | .slf e n f,K=>K (.slf e n f)
 | .iarr k xs,K=>K (.iarr k xs)
 | .gp g,K=>K (.gp g)
 | .yld g,K=>K (.yld g)
 | .val g,K=>K (.val g)
 | .anyb p,K=>K (.anyb p)
def pubLK (i:Nat)(c:Chunk):List D→(List D→Prop)→Prop
 | [],K=>K []
 | d::ds,K=>pubDK i c d fun d=>pubLK i c ds fun ds=>K (d::ds)
end
mutual
theorem jfW (i:Nat)(c:Chunk):∀ (d:D) (K:D→Prop),pubDK i c d K=K (pubD i c d)
 | .osl j off len,K=>by
  simp only[pubDK,pubD]
  cases Nat.beq i j<;>simp only
  cases c<;>simp only[subK_eq]
 | .box j off,K=>by
  simp only[pubDK,pubD]
  cases Nat.beq i j<;>simp only
  cases c<;>simp only
 | .bsl j off len e,K=>by
  simp only[pubDK,pubD]
  cases Nat.beq i j<;>simp only
  cases c<;>simp only
  ·rename_i ds
   cases bslOk ds off len e<;>simp only
  ·rename_i k xs
   cases Nat.beq e 1<;>cases Nat.ble (off+len) xs.length<;>simp only[subK_eq]
 | .agg ds,K=>by simp only[pubDK,pubD];exact jbH i c ds _
 | .tup ds,K=>by simp only[pubDK,pubD];exact jbH i c ds _
 | .fn f es ds,K=>by simp only[pubDK,pubD];rw[jbH i c es];exact jbH i c ds _
 | .ref ds,K=>by simp only[pubDK,pubD];exact jbH i c ds _
 | .gd b d,K=>by simp only[pubDK,pubD];exact jfW i c d _
 | .any,K=>by simp only[pubDK,pubD]
 | .undef,K=>by simp only[pubDK,pubD]
 | .bool b,K=>by simp only[pubDK,pubD]
 | .int k n,K=>by simp only[pubDK,pubD]
 | .str s,K=>by simp only[pubDK,pubD]
 | .nil,K=>by simp only[pubDK,pubD]
 | .ints k xs,K=>by simp only[pubDK,pubD]
 | .slf e n f,K=>by simp only[pubDK,pubD]
 | .iarr k xs,K=>by simp only[pubDK,pubD]
 | .gp g,K=>by simp only[pubDK,pubD]
 | .yld g,K=>by simp only[pubDK,pubD]
 | .val g,K=>by simp only[pubDK,pubD]
 | .anyb g,K=>by simp only[pubDK,pubD]
theorem jbH (i:Nat)(c:Chunk):∀ (ds:List D) (K:List D→Prop),pubLK i c ds K=K (pubL i c ds)
 | [],K=>by simp only[pubLK,pubL]
 | d::ds,K=>by simp only[pubLK,pubL];rw[jfW i c d];exact jbH i c ds _
end
def pubSl (i:Nat)(c:Chunk):Sl→Sl
 | []=>[]
 | (t,d)::L=>(t,pubD i c d)::pubSl i c L
def jfn (i:Nat)(c:Chunk):Sl→(Sl→Prop)→Prop
 | [],K=>K []
 | (t,d)::L,K=>pubDK i c d fun d=>jfn i c L fun L=>K ((t,d)::L)
theorem jew (i:Nat)(c:Chunk)(L:Sl)(K:Sl→Prop):jfn i c L K=K (pubSl i c L):=by
 induction L generalizing K with
 | nil=>rfl
 | cons x L ih=>obtain⟨t,d⟩:=x;simp only[jfn,pubSl,jfW,ih]
theorem look_pub (i:Nat)(c:Chunk)(L:Sl)(t:Nat):look (pubSl i c L) t=pubD i c (look L t):=by
 induction L with
 | nil=>simp[pubSl,look,pubD]
 | cons x L ih=>
  obtain⟨s,d⟩:=x
  simp only[pubSl,jaK]
  split
  ·rfl
  ·exact ih
def pubC (i:Nat)(c:Chunk):Chunk→Chunk
 | .box ds => .box (pubL i c ds)
 | .arr k xs => .arr k xs
 | .gone => .gone
 | .lp p => .lp p
def pubHp (i:Nat)(c:Chunk):Hp→Hp
 | []=>[]
 | (j,x)::H=>(j,pubC i c x)::pubHp i c H
def jds (i:Nat)(c:Chunk):Hp→(Hp→Prop)→Prop
 | [],K=>K []
 | (j,x)::H,K=>match x with
  | .box ds=>pubLK i c ds fun ds=>jds i c H fun H=>K ((j,.box ds)::H)
  | .arr k xs=>jds i c H fun H=>K ((j,.arr k xs)::H)
  | .gone=>jds i c H fun H=>K ((j,.gone)::H)
  | .lp p=>jds i c H fun H=>K ((j,.lp p)::H)
theorem jex (i:Nat)(c:Chunk)(H:Hp)(K:Hp→Prop):jds i c H K=K (pubHp i c H):=by
 induction H generalizing K with
 | nil=>rfl
 | cons x H ih=>
  obtain⟨t,d⟩:=x
  cases d<;>simp only[jds,pubHp,pubC,jbH,ih]
theorem lookH_pub {i:Nat}{c:Chunk}{H:Hp}{j:Nat}{x:Chunk}(h:lookH (pubHp i c H) j=some x):∃ y,lookH H j=some y∧x=pubC i c y:=by
 induction H with
 | nil=>simp[pubHp,lookH] at h
 | cons z H ih=>
  obtain⟨s,d⟩:=z
  simp only[pubHp] at h
  rw[jag] at h ⊢
  split
  ·rename_i e;rw[if_pos e] at h;exact⟨d,rfl,(Option.some.inj h).symm⟩
  ·rename_i e;rw[if_neg e] at h;exact ih h
def jaH (vs:List Value)(b:Nat)(h:Pub):Pub:=fun b' o=>if b'=b then vs[o]? else h b' o
theorem jeY {E:Env}{h:Pub}{k:IntKind} : ∀ {xs:List Int},(∀ n∈xs,InR k n)→DenL E h (xs.map (D.int k)) (xs.map (Value.int k))
 | [],_=>by simp[DenL]
 | x::xs,H=>by
  simp only[List.map_cons,DenL]
  exact⟨_,_,rfl,by simp only[Den];exact⟨trivial,H x (by simp)⟩,jeY fun n hn=>H n (by simp[hn])⟩
section
variable {E : Env} {h h' : Pub} {i : Nat} {c : Chunk}
def Handed (E:Env)(h':Pub)(i:Nat)(c:Chunk):Prop:=match c with
 | .arr k xs=>E.kn i=xs.length∧(∀ n∈xs,InR k n) ∧ ∀ (o:Nat) (n:Int),xs[o]? = some n→h' (E.blk i) o=some (.int k n)
 | .box ds => ∃ vs,DenL E h' ds vs∧(∀ v∈vs,v.oneCell'=true) ∧ ∀ (o:Nat) v,vs[o]? = some v→h' (E.blk i) o=some v
 | .gone=>False
 | .lp _=>False
mutual
theorem Den.pub (hh:h.Le h')(hr:E.real i=false → ∃ k,c = .arr k [])(hc:E.real i=true→Handed E h' i c):∀ {d:D} {v:Value},Den E h d v→Den E h' (pubD i c d) v
 | .osl j off len,v,H=>by
  simp only[pubD]
  cases hb:Nat.beq i j with
  | false=>simpa [Den] using H
  | true=>
   have:=jae hb;subst this
   cases c with
   | gone=>simp[Den]
   | lp p=>simp[Den]
   | box ds=>simp[Den]
   | arr k xs=>
    simp only[Den] at H
    rcases H with⟨H,rfl,hl0⟩|⟨hreal,o,cap,rfl,g1,g2,g3,g4,g5⟩
    ·obtain⟨k',hk⟩:=hr H
     cases hk
     subst hl0
     simp only
     rw[jhd]
     simp only[Den,jaM]
     exact⟨none,0,by simp,by simp,by simp,by simp,by simp⟩
    obtain⟨h1,h2,h3⟩:=hc hreal
    simp only
    rw[jhd]
    simp only[Den,jaM]
    have hlen:((xs.drop off).take len).length=len:=by simp;omega
    refine⟨some ⟨E.blk i,o,none⟩,cap,by rw[hlen],by omega,by omega,fun n hn=>h2 n (jjo (jjp hn)),rfl,?_⟩
    intro j n hn
    have hj:j<len:=by rw[← hlen];exact(jjn.1 hn).1
    have ho:o=off:=by rcases g4 with g4|g4<;>omega
    subst ho
    exact h3 _ _ (by simpa using ja6 hn)
 | .box j off,v,H=>by
  simp only[pubD]
  cases hb:Nat.beq i j with
  | false=>simpa [Den] using H
  | true=>
   have:=jae hb;subst this
   cases c with
   | gone=>simp[Den]
   | lp p=>simp[Den]
   | arr k xs=>
    simp only[Den] at H ⊢
    obtain⟨_,h2,h3⟩:=hc H.2
    refine⟨_,_,H.1,(xs.map (Value.int k)).drop off,(jeY h2).drop off,fun v hv=>?_,fun j v hv=>?_⟩
    ·obtain⟨n,_,rfl⟩:=List.mem_map.1 (jjo hv)
     rfl
    ·rw[List.getElem?_drop,List.getElem?_map] at hv
     obtain⟨n,hn,rfl⟩:=Option.map_eq_some_iff.1 hv
     exact h3 _ n hn
   | box ds=>
    simp only[Den] at H ⊢
    obtain⟨vs,h1,h2,h3⟩:=hc H.2
    exact⟨_,_,H.1,vs.drop off,h1.drop off,fun v hv=>h2 v (jjo hv),fun j v hv=>h3 _ v (by simpa using hv)⟩
 | .bsl j off len e,v,H=>by
  simp only[pubD]
  cases hb:Nat.beq i j with
  | false=>simpa [Den] using H
  | true=>
   have:=jae hb;subst this
   cases c with
   | gone=>simp[Den]
   | lp p=>simp[Den]
   | arr k xs=>
    simp only
    cases he:Nat.beq e 1 with
    | false=>simp[Den]
    | true=>
     cases hl:Nat.ble (off+len) xs.length with
     | false=>simp[Den]
     | true=>
      have hle:=jiE hl
      simp only[Den] at H
      obtain⟨hreal,cap,rfl,hlc,hlen0,_⟩:=H
      obtain⟨h1,h2,h3⟩:=hc hreal
      simp only
      rw[jhd]
      simp only[Den,jaM]
      have hlen:((xs.drop off).take len).length=len:=by simp;omega
      refine⟨some ⟨E.blk i,off,none⟩,cap,by rw[hlen],by omega,by omega,fun n hn=>h2 n (jjo (jjp hn)),rfl,?_⟩
      intro j n hn
      exact h3 _ _ (by simpa using ja6 hn)
   | box ds=>
    simp only
    cases hok:bslOk ds off len e with
    | false=>simp[Den]
    | true=>
     unfold bslOk at hok
     cases hp:D.pureL ds with
     | false=>rw[hp] at hok;cases hok
     | true=>
      rw[hp] at hok
      have hle:=jiE hok
      simp only[Den] at H ⊢
      obtain⟨hreal,cap,rfl,hlc,hlen,_⟩:=H
      obtain⟨vs,h1,h2,h3⟩:=hc hreal
      have hvl:=h1.length
      refine⟨some ⟨E.blk i,off,none⟩,cap,rfl,hlc,hlen,rfl,fun q hq=>?_⟩
      have hqe:off+q*e+e≤ds.length:=by
       have:(q+1)*e≤len*e:=Nat.mul_le_mul_right e hq
       rw[Nat.add_mul] at this
       omega
      refine⟨(vs.drop (off+q*e)).take e,((DenL.pure (E':=Env.dummy) hp h1).drop _).take _,by simp;omega,fun v hv=>h2 v (jjo (jjp hv)),fun j v hv=>?_⟩
      exact h3 _ v (by simpa using ja6 hv)
 | .agg ds,v,H=>by
  simp only[Den,pubD] at H ⊢
  obtain⟨vs,h1,h2,h3⟩:=H
  exact⟨vs,h1,DenL.pub hh hr hc h2,h3⟩
 | .tup ds,v,H=>by
  simp only[Den,pubD] at H ⊢
  obtain⟨vs,h1,h2⟩:=H
  exact⟨vs,h1,DenL.pub hh hr hc h2⟩
 | .fn f es ds,v,H=>by
  simp only[Den,pubD] at H ⊢
  obtain⟨us,vs,h1,h2,h3⟩:=H
  exact⟨us,vs,h1,DenL.pub hh hr hc h2,DenL.pub hh hr hc h3⟩
 | .ref ds,v,H=>by
  simp only[Den,pubD] at H ⊢
  obtain⟨b,o,h1,vs,h2,h3,h4⟩:=H
  exact⟨b,o,h1,vs,DenL.pub hh hr hc h2,h3,fun j v hv=>hh _ _ _ (h4 j v hv)⟩
 | .gd b d,v,H=>by
  simp only[Den,pubD] at H ⊢
  exact⟨fun hb=>Den.pub hh hr hc (H.1 hb),H.2⟩
 | .any,v,H=>Den.mono hh H
 | .undef,v,H=>Den.mono hh H
 | .bool _,v,H=>Den.mono hh H
 | .int _ _,v,H=>Den.mono hh H
 | .str _,v,H=>Den.mono hh H
 | .nil,v,H=>Den.mono hh H
 | .ints _ _,v,H=>Den.mono hh H
 | .slf _ _ _,v,H=>Den.mono hh H
 | .iarr _ _,v,H=>Den.mono hh H
 | .gp _,v,H=>Den.mono hh H
 | .yld _,v,H=>Den.mono hh H
 | .val _,v,H=>Den.mono hh H
 | .anyb _,v,H=>Den.mono hh H
theorem DenL.pub (hh:h.Le h')(hr:E.real i=false → ∃ k,c = .arr k [])(hc:E.real i=true→Handed E h' i c):∀ {ds:List D} {vs:List Value},DenL E h ds vs→DenL E h' (pubL i c ds) vs
 | [],vs,H=>by simpa [DenL,pubL] using H
 | d::ds,vs,H=>by
  simp only[DenL,pubL] at H ⊢
  obtain⟨v,vs',h1,h2,h3⟩:=H
  exact⟨v,vs',h1,Den.pub hh hr hc h2,DenL.pub hh hr hc h3⟩
end
theorem jaY {h:Pub}{b:Nat}(hb:∀ o,h b o=none)(vs:List Value):h.Le (jaH vs b h):=fun b' o v hv=>by
 unfold jaH
 split
 ·rename_i e;subst e;rw[hb o] at hv;cases hv
 ·exact hv
theorem Sat.publish {cx:Cx}{a:Act}{w:World}{L:Sl}{H:Hp}(S:Sat cx E h a w L H)(hc:lookH H i=some c)(hcl:c.cel=true) :
  ∃ h',h.Le h'∧Sat cx E h' a w (pubSl i c L) ((i,.gone)::pubHp i c H) ∧ ∀ d v,Den E h d v→Den E h' (pubD i c d) v:=by
 have hl:=Chunk.live_of_cel hcl
 have hok:=S.mem.ok i c hc
 -- the published memory, with the block's cells
 obtain⟨h',hle,hv,hr,hag,hun,hsince⟩:∃ h':Pub,h.Le h'∧(E.real i=false → ∃ k,c = .arr k [])∧(E.real i=true→Handed E h' i c)∧Agree h' w ∧
   (∀ j x,j≠i→lookH H j=some x→x.live=true→E.real j=true → ∀ o,h' (E.blk j) o=none)∧Since cx.w0 cx.h0 w h':=by
  cases hreal:E.real i with
  | false=>
   refine⟨h,Pub.Le.refl h,fun _=>?_,fun e=>(by cases e),S.agree,fun j x _ hj hx hrj=>S.mem.unpub j x hj hx hrj,S.since⟩
   cases c with
   | gone=>simp[Chunk.live] at hl
   | lp p=>simp[Chunk.cel] at hcl
   | box ds=>exact absurd hok.1 (by rw[hreal];decide)
   | arr k xs=>
    rcases hok with⟨_,rfl⟩|⟨hx,_⟩
    ·exact⟨k,rfl⟩
    ·rw[hreal] at hx;cases hx
  | true=>
   have hun:=S.mem.unpub i c hc hl hreal
   have hbase:=S.mem.base i c hc hl hreal
   have key:∀ vs:List Value,(∀ (o:Nat) v,vs[o]? = some v→w.cell? ⟨E.blk i,o,none⟩=some v) →
     Agree (jaH vs (E.blk i) h) w∧(∀ j x,j≠i→lookH H j=some x→x.live=true→E.real j=true → ∀ o,jaH vs (E.blk i) h (E.blk j) o=none)∧Since cx.w0 cx.h0 w (jaH vs (E.blk i) h):=by
    intro vs hvs
    refine⟨⟨fun b o v hv=>?_,S.agree.glob.mono (jaY hun vs),S.agree.blk,fun g hg=>by
     obtain⟨v,hv⟩:=S.agree.errs g hg
     exact⟨v,jaY hun vs _ _ _ hv⟩⟩,fun j x hj hx hxl hrj o=>?_,⟨S.since.below,S.since.le.trans (jaY hun vs),fun b hb o=>?_⟩⟩
    ·unfold jaH at hv
     split at hv
     ·rename_i e;subst e;exact hvs o v hv
     ·exact S.agree b o v hv
    ·unfold jaH
     rw[if_neg (S.mem.inj j i x c hj hx hc hxl hl hrj hreal)]
     exact S.mem.unpub j x hx hxl hrj o
    ·unfold jaH
     rw[if_neg (by omega)]
     exact S.since.old b hb o
   cases c with
   | gone=>simp[Chunk.live] at hl
   | lp p=>simp[Chunk.cel] at hcl
   | box ds=>
    obtain⟨_,vs,rest,T,hb,hd,ho,hsz⟩:=hok
    obtain⟨k1,k2,k3⟩:=key vs fun o v hv=>jdH hb hv
    refine⟨_,jaY hun vs,(by simp),fun _=>⟨vs,DenL.mono (jaY hun vs) hd,ho,fun o v hv=>by unfold jaH;rw[if_pos rfl];exact hv⟩,k1,k2,k3⟩
   | arr k xs=>
    obtain⟨rest,T,hb,hsz,hr,hkn⟩:=ja2 hreal hok
    obtain⟨k1,k2,k3⟩:=key (xs.map (Value.int k)) fun o v hv=>jb7 hb (by rw[jjm (jjn.1 hv).1];exact hv)
    refine⟨_,jaY hun _,(by simp),fun _=>⟨hkn,hr,fun o n hn=>by unfold jaH;rw[if_pos rfl,List.getElem?_map,hn];rfl⟩,k1,k2,k3⟩
 refine⟨h',hle,?_,fun d v hd=>Den.pub hle hv hr hd⟩
 have live:∀ j x,lookH ((i,.gone)::pubHp i c H) j=some x→x.live=true→j≠i ∧ ∃ y,lookH H j=some y∧x=pubC i c y∧y.live=true:=by
  intro j x hx hxl
  rw[jag] at hx
  split at hx
  ·cases hx;simp[Chunk.live] at hxl
  ·rename_i e
   obtain⟨y,h1,rfl⟩:=lookH_pub hx
   refine⟨Ne.symm e,y,h1,rfl,?_⟩
   cases y<;>first|rfl|simp[pubC,Chunk.live] at hxl
 refine { knows:=fun t=>by rw[look_pub];exact Den.pub hle hv hr (S.knows t),mem:=?_,agree:=hag,since:=hsince,low:=S.low,side:=S.side }
 refine { ok:=?_,base:=?_,unpub:=?_,inj:=?_ }
 ·intro j x hx
  cases hxl:x.live with
  | false=>cases x<;>first|trivial|simp[Chunk.live] at hxl
  | true=>
   obtain⟨hj,y,h1,rfl,hyl⟩:=live j x hx hxl
   have hy:=S.mem.ok j y h1
   cases y with
   | gone=>simp[Chunk.live] at hyl
   | lp p=>exact hy
   | box ds=>
    obtain⟨h0,vs,rest,T,h2,h3,h4⟩:=hy
    exact⟨h0,vs,rest,T,h2,DenL.pub hle hv hr h3,h4⟩
   | arr k xs=>exact hy
 ·intro j x hx hxl hrj
  obtain⟨hj,y,h1,rfl,hyl⟩:=live j x hx hxl
  exact S.mem.base j y h1 hyl hrj
 ·intro j x hx hxl hrj o
  obtain⟨hj,y,h1,rfl,hyl⟩:=live j x hx hxl
  exact hun j y hj h1 hyl hrj o
 ·intro j k x1 x2 hjk hx1 hx2 l1 l2 r1 r2
  obtain⟨hj,y1,g1,rfl,hy1⟩:=live j x1 hx1 l1
  obtain⟨hk,y2,g2,rfl,hy2⟩:=live k x2 hx2 l2
  exact S.mem.inj j k y1 y2 hjk g1 g2 hy1 hy2 r1 r2
end
mutual
def D.own:D→Option Nat
 | .osl i _ _=>some i
 | .box i _=>some i
 | .bsl i _ _ _=>some i
 | .agg ds | .tup ds | .ref ds=>D.ownL ds
 | .fn _ es ds=>match D.ownL es with|some i=>some i|none=>D.ownL ds
 | .gd _ d=>D.own d
 | _=>none
def D.ownL:List D→Option Nat
 | []=>none
 | d::ds=>match D.own d with|some i=>some i|none=>D.ownL ds
end
def handK:Nat→List D→Sl→Hp→(List D→Sl→Hp→Prop)→Prop
 | 0,_,_,_,_=>False
 | n+1,ds,L,H,K=>match D.ownL ds with
  | none=>K ds L H
  | some i=>jbj H i fun c=>match c with
   | .gone=>False
   | .lp _=>False
   | c=>jfn i c L fun L=>jds i c H fun H=>pubLK i c ds fun ds=>handK n ds L ((i,.gone)::H) K
theorem jfV (i:Nat)(c:Chunk)(ds:List D):pubL i c ds=ds.map (pubD i c):=by
 induction ds with
 | nil=>rfl
 | cons d ds ih=>simp[pubL,ih]
theorem DenL.map {E:Env}{h h':Pub}{f:D→D}(hf:∀ d v,Den E h d v→Den E h' (f d) v){ds:List D}{vs:List Value}(H:DenL E h ds vs):DenL E h' (ds.map f) vs:=by
 induction ds generalizing vs with
 | nil=>simpa [DenL] using H
 | cons d ds ih=>
  simp only[DenL,List.map_cons] at H ⊢
  obtain⟨v,vs',rfl,h3,h4⟩:=H
  exact⟨v,vs',rfl,hf d v h3,ih h4⟩
theorem jhI {n:Nat}{ds:List D}{L:Sl}{H:Hp}{K:List D→Sl→Hp→Prop}(hh:handK n ds L H K) :
  ∃ ds' L' H',K ds' L' H'∧ds'.length=ds.length ∧ ∀ cx E h a w,Sat cx E h a w L H → ∃ h',h.Le h'∧Sat cx E h' a w L' H' ∧
   ∀ vs,DenL E h ds vs→DenL E h' ds' vs:=by
 induction n generalizing ds L H with
 | zero=>exact hh.elim
 | succ n ih=>
  simp only[handK] at hh
  split at hh
  ·exact⟨ds,L,H,hh,rfl,fun cx E h a w S=>⟨h,Pub.Le.refl h,S,fun vs hv=>hv⟩⟩
  ·rename_i i hown
   obtain⟨c,hc,hh⟩:=jaD hh
   split at hh
   ·exact hh.elim
   ·exact hh.elim
   ·rename_i hne hne2
    have hl:c.cel=true:=by
     cases c with
     | gone=>exact absurd rfl hne
     | lp p=>exact absurd rfl (hne2 p)
     | _=>rfl
    rw[jew,jex,jbH] at hh
    obtain⟨ds',L',H',hK,hlen,hS⟩:=ih hh
    refine⟨ds',L',H',hK,by rw[hlen,jfV];simp,fun cx E h a w S=>?_⟩
    obtain⟨h1,hle1,S1,hd1⟩:=S.publish hc hl
    obtain⟨h2,hle2,S2,hd2⟩:=hS cx E h1 a w S1
    refine⟨h2,hle1.trans hle2,S2,fun vs hv=>hd2 vs ?_⟩
    rw[jfV]
    exact hv.map hd1
end Go.V
end
section
namespace Go.V
open Go Go.RowKit
def Enters (P:Program)(f:Nat):Prop := ∀ (args:Array Value) (w:World),(callFunc f args).run P w = .ok (.enter f args) w
structure Called (P:Program)(f:Nat)(ds:List D)(r:D):Prop where
 ent:Enters P f
 call:∀ (h:Pub) (w:World) (vs:List Value),Agree h w→DenL Env.dummy h ds vs →
  Calls P f vs.toArray w fun e w' => ∃ v h',e = .returned v∧Den Env.dummy h' r v∧Agree h' w'∧h.Le h'∧Below w.heap.size w w' ∧ ∀ b,b<w.heap.size → ∀ o,h' b o=h b o
theorem Sat.called {cx : Cx} {E : Env} {h h' : Pub} {a : Act} {w w' : World} {L : Sl} {H : Hp} (S : Sat cx E h a w L H) (hle : h.Le h') (hb : Below w.heap.size w w') (ha : Agree h' w')
    (ho : ∀ b, b < w.heap.size → ∀ o, h' b o = h b o) : Sat cx E h' a w' L H :=
  { knows := fun t => Den.mono hle (S.knows t)
    mem :=
      { ok := fun i c hc => ChunkOk.mono hle ((S.mem.ok i c hc).keep fun hl hr => hb.block _ ((S.mem.ok i c hc).lt hl hr))
        base := S.mem.base
        unpub := fun i c hc hl hr o => by rw [ho _ ((S.mem.ok i c hc).lt hl hr)]; exact S.mem.unpub i c hc hl hr o
        inj := S.mem.inj }
    agree := ha
    since := ⟨S.since.below.trans (hb.mono S.since.below.size), S.since.le.trans hle, fun b hb' o => by rw [ho b (jiQ hb' S.since.below.size)]; exact S.since.old b hb' o⟩
    low := S.low
    side := S.side.below hb }
def appD:List D→List D→List D
 | [],ys=>ys
 | x::xs,ys=>x::appD xs ys
theorem jcS (xs ys:List D):appD xs ys=xs++ys:=by induction xs with|nil=>rfl|cons x xs ih=>simp[appD,ih]
def CallGoal (P:Program)(g:Prop)(f:Nat)(ds:List D)(K:D→Prop):Prop := ∃ r,(g→Called P f ds r)∧K r
def callK (P:Program)(N:Nat)(g:Prop)(wrap:D→D)(dst:Option Nat)(x:Operand)(args:List Operand)(L:Sl)(H:Hp)(K:K2):Prop:=
 rdg g L x fun df=>match df with
  | .fn f first caps=>rdsK g L args fun ds=>handK 40 (appD first (appD ds caps)) L H fun ds' L' H'=>match D.pureL ds' with
   | true=>CallGoal P g f ds' fun r=>match D.pure r with
    | true=>dstK N dst (wrap r) L' fun L''=>K L'' H'
    | false=>False
   | false=>False
  | _=>False
section
variable {P : Program} {tb : Tb} {N : Nat} {cx : Cx} {Q : Exit → Act → World → Prop} {o : Oper} {L : Sl} {H : Hp} {K : K2}
theorem jhY {g:Prop}{wrap:D→D}{x:Operand}{args:Array Operand}{ts:Array TypeId}(ho:o.op = .call { callee := .value x,args:=args,argTypes:=ts })
  (hw:∀ E h r v,g→Den E h r v→Den E h (wrap r) v) (hs:∀ E h r,¬ g→Den E h (wrap r) Go.undef) (hh:callK P N g wrap o.dst x args.toList L H K) :
  ∃ L'' H',K L'' H' ∧ ∀ E h a w,N≤a.tmps.size→Sat cx E h a w L H →
    (g → ∀ next:Act→World→Prop,(∀ h' a' w',a'.tmps.size=a.tmps.size→Sat cx E h' a' w' L'' H'→next a' w')→o.wp P a w next Q) ∧
    (¬ g → ∃ h',Sat cx E h' (a.put o.dst Go.undef) w L'' H'):=by
 have hz:=jar hh;clear hh;obtain⟨df,hh,hdf⟩:=hz
 split at hh
 case h_2=>exact hh.elim
 rename_i f first caps
 have hz:=jc4 hh;clear hh;obtain⟨ds,hh,hlen,hds⟩:=hz
 have hz:=jhI hh;clear hh;obtain⟨ds',L',H',hh,hlen',hS⟩:=hz
 cases hp:D.pureL ds' with
 | false=>rw[hp] at hh;exact hh.elim
 | true=>
  rw[hp] at hh
  obtain⟨r,hcall,hh⟩:=hh
  cases hpr:D.pure r with
  | false=>rw[hpr] at hh;exact hh.elim
  | true=>
   rw[hpr] at hh
   obtain⟨L'',hK,hput⟩:=jeR (cx:=cx) hh
   refine⟨L'',H',hK,fun E h a w hN S=>?_⟩
   obtain⟨h',hle,S',hden⟩:=hS cx E h a w S
   refine⟨fun hg next hnext=>?_,fun hg=>⟨h',hput E h' a w H' _ hN S' (hs E h' r hg)⟩⟩
   have hf:=hdf E h a hg (S.facts.rd x)
   simp only[Den] at hf
   obtain⟨us,vs,hfv,hu,hv⟩:=hf
   have hargs:=hds E h a S.facts.rd hg
   have hall:DenL E h (appD first (appD ds caps)) (us++(args.toList.map a.eval++vs)):=by
    rw[jcS,jcS];exact hu.append (hargs.append hv)
   have hall':=DenL.pure (E':=Env.dummy) hp (hden _ hall)
   obtain⟨hent,hc⟩:=hcall hg
   have hrun:(execOp a.eval o).run P w = .ok (.enter f (us++(args.toList.map a.eval++vs)).toArray) w:=by
    simp only[execOp,ho,resolve,hfv,Deferred.ofValue,Sem.run_bind,Sem.run_pure,Result.andThen_ok,invoke]
    rw[show us.toArray++Array.map a.eval args++vs.toArray=(us++(args.toList.map a.eval++vs)).toArray by apply Array.toList_inj.1;simp]
    exact hent _ w
   unfold Oper.wp
   rw[hrun]
   simp only[Oper.upon]
   refine(hc h' w _ S'.agree hall').mono ?_
   rintro e w' ⟨v,h2,rfl,hr,ha,hle2,hb,hold⟩
   simp only
   exact hnext h2 _ _ (jaB _ _ _) (hput E h2 a w' H' v hN (S'.called hle2 hb ha hold) (hw E h2 r v hg (Den.pure hpr hr)))
def strsL:List D→Bool
 | []=>true
 | d::ds=>match d with | .str _=>strsL ds|_=>false
def strsN (f:Nat→List D):Nat→Bool
 | 0=>true
 | n+1=>match strsL (f n) with|true=>strsN f n|false=>false
mutual
def D.apt:D→Bool
 | .undef | .bool _ | .int _ _ | .str _ | .nil | .iarr _ _ | .any=>true
 | .slf _ n f=>strsN f n
 | .agg ds | .tup ds=>D.aptL ds
 | _=>false
def D.aptL:List D→Bool
 | []=>true
 | d::ds=>match D.apt d with|true=>D.aptL ds|false=>false
end
theorem jgm {E:Env}{h h':Pub} : ∀ {ds:List D} {vs:List Value},strsL ds=true→DenL E h ds vs→DenL E h' ds vs ∧ ∀ v∈vs, ∃ s,v = .string s
 | [],vs,_,H=>by
  simp only[DenL] at H ⊢
  subst H
  exact⟨rfl,fun v hv=>by simp at hv⟩
 | d::ds,vs,F,H=>by
  simp only[DenL] at H ⊢
  obtain⟨v,r,rfl,h1,h2⟩:=H
  unfold strsL at F
  split at F
  ·simp only[Den] at h1
   obtain⟨k1,k2⟩:=jgm (h':=h') F h2
   exact⟨⟨v,r,rfl,by simp only[Den];exact h1,k1⟩,fun u hu=>by
    rcases jjg.1 hu with rfl|hu
    ·exact⟨_,h1.1⟩
    ·exact k2 u hu⟩
  ·cases F
theorem strsN_at {f:Nat→List D} : ∀ {n j:Nat},strsN f n=true→j<n→strsL (f j)=true
 | n+1,j,F,hj=>by
  unfold strsN at F
  split at F
  ·rename_i hs
   rcases jiR j n with h|h
   ·exact strsN_at F h
   ·obtain rfl:j=n:=by omega
    exact hs
  ·cases F
mutual
theorem Den.apt {E:Env}{h h':Pub}(hb:∀ b o v,h b o=some v→(∃ k n,v = .int k n)∨h' b o=some v):∀ {d:D} {v:Value},d.apt=true→Den E h d v→Den E h' d v
 | .any,_,_,_=>by simp[Den]
 | .undef,_,_,H=>by simpa [Den] using H
 | .bool _,_,_,H=>by simpa [Den] using H
 | .int _ _,_,_,H=>by simpa [Den] using H
 | .str _,_,_,H=>by simpa [Den] using H
 | .nil,_,_,H=>by simpa [Den] using H
 | .iarr _ _,_,_,H=>by simpa [Den] using H
 | .slf e n f,v,F,H=>by
  simp only[Den] at H ⊢
  simp only[D.apt] at F
  obtain⟨a,cap,h1,h2,h3,h4⟩:=H
  refine⟨a,cap,h1,h2,h3,?_⟩
  cases a with
  | none=>exact h4
  | some ad=>
   refine⟨h4.1,fun j hj=>?_⟩
   obtain⟨vs,h5,h6,h7,h8⟩:=h4.2 j hj
   obtain⟨k1,k2⟩:=jgm (h':=h') (strsN_at F hj) h5
   refine⟨vs,k1,h6,h7,fun i u hu=>?_⟩
   rcases hb _ _ _ (h8 i u hu) with⟨k,m,e1⟩|e1
   ·obtain⟨s,e2⟩:=k2 u (jji hu)
    rw[e1] at e2
    cases e2
   ·exact e1
 | .agg ds,v,F,H=>by
  simp only[Den] at H ⊢
  simp only[D.apt] at F
  obtain⟨vs,h1,h2,h3⟩:=H
  exact⟨vs,h1,DenL.apt hb F h2,h3⟩
 | .tup ds,v,F,H=>by
  simp only[Den] at H ⊢
  simp only[D.apt] at F
  obtain⟨vs,h1,h2⟩:=H
  exact⟨vs,h1,DenL.apt hb F h2⟩
 | .ints _ _,_,F,_=>by simp[D.apt] at F
 | .fn _ _ _,_,F,_=>by simp[D.apt] at F
 | .ref _,_,F,_=>by simp[D.apt] at F
 | .box _ _,_,F,_=>by simp[D.apt] at F
 | .osl _ _ _,_,F,_=>by simp[D.apt] at F
 | .bsl _ _ _ _,_,F,_=>by simp[D.apt] at F
 | .gd _ _,_,F,_=>by simp[D.apt] at F
 | .gp _,_,F,_=>by simp[D.apt] at F
 | .yld _,_,F,_=>by simp[D.apt] at F
 | .val _,_,F,_=>by simp[D.apt] at F
 | .anyb _,_,F,_=>by simp[D.apt] at F
theorem DenL.apt {E:Env}{h h':Pub}(hb:∀ b o v,h b o=some v→(∃ k n,v = .int k n)∨h' b o=some v):∀ {ds:List D} {vs:List Value},D.aptL ds=true→DenL E h ds vs→DenL E h' ds vs
 | [],vs,_,H=>by simpa [DenL] using H
 | d::ds,vs,F,H=>by
  simp only[DenL] at H ⊢
  obtain⟨v,r,e,h1,h2⟩:=H
  unfold D.aptL at F
  split at F
  ·rename_i hd
   exact⟨v,r,e,Den.apt hb hd h1,DenL.apt hb F h2⟩
  ·cases F
end
def lendK (P:Program)(N:Nat)(dst:Option Nat)(x:Operand)(args:List Operand)(L:Sl)(H:Hp)(K:K2):Prop:=
 rdg True L x fun df=>match df with
  | .fn f first caps=>rdsK True L args fun ds => ∃ i:Nat,jbj H i fun c=>match c with
   | .arr k xs=>pubLK i (.arr k xs) (appD first (appD ds caps)) fun ds'=>match D.pureL ds' with
    | true=>CallGoal P True f ds' fun r=>match D.pure r with
     | true=>match D.apt r with
      | true=>dstK N dst r L fun L''=>K L'' H
      | false=>False
     | false=>False
    | false=>False
   | _=>False
  | _=>False
theorem Sat.lend {cx:Cx}{E:Env}{h:Pub}{a:Act}{w:World}{L:Sl}{H:Hp}{i:Nat}{k:IntKind}{xs:List Int}(S:Sat cx E h a w L H)(hc:lookH H i=some (.arr k xs)) :
  ∃ h1,h.Le h1∧Agree h1 w∧(∀ d v,Den E h d v→Den E h1 (pubD i (.arr k xs) d) v) ∧
   ∀ h2 w',h1.Le h2→Agree h2 w'→Below w.heap.size w w'→(∀ b,b<w.heap.size → ∀ o,h2 b o=h1 b o) →
    ∃ h3,Sat cx E h3 a w' L H ∧ ∀ d v,d.apt=true→Den E h2 d v→Den E h3 d v:=by
 have hok:=S.mem.ok i _ hc
 cases hreal:E.real i with
 | false=>
  refine⟨h,Pub.Le.refl h,S.agree,fun d v hd=>Den.pub (Pub.Le.refl h) (fun _=>?_) (fun e=>by rw[hreal] at e;cases e) hd,fun h2 w' hle ha hb ho=>⟨h2,S.called hle hb ha ho,fun d v _ hd=>hd⟩⟩
  rcases hok with⟨_,rfl⟩|⟨hx,_⟩
  ·exact⟨k,rfl⟩
  ·rw[hreal] at hx;cases hx
 | true=>
  have hun:=S.mem.unpub i _ hc rfl hreal
  obtain⟨rest,T,hb,hsz,hr,hkn⟩:=ja2 hreal hok
  have hle1:=jaY hun (xs.map (Value.int k))
  have hcell:∀ (o:Nat) v,(xs.map (Value.int k))[o]? = some v→w.cell? ⟨E.blk i,o,none⟩=some v:=fun o v hv=>jb7 hb (by rw[jjm (jjn.1 hv).1];exact hv)
  refine⟨jaH (xs.map (Value.int k)) (E.blk i) h,hle1,⟨fun b o v hv=>?_,S.agree.glob.mono hle1,S.agree.blk,fun g hg=>by
   obtain⟨v,hv⟩:=S.agree.errs g hg
   exact⟨v,hle1 _ _ _ hv⟩⟩,fun d v hd=>Den.pub (i:=i) (c := .arr k xs) hle1 (fun e=>by rw[hreal] at e;cases e) (fun _=>⟨hkn,hr,fun o n hn=>by unfold jaH;rw[if_pos rfl,List.getElem?_map,hn];rfl⟩) hd,fun h2 w' hle ha hbel ho=>?_⟩
  ·unfold jaH at hv
   split at hv
   ·rename_i e;subst e;exact hcell o v hv
   ·exact S.agree b o v hv
  ·have hlt:E.blk i<w.heap.size:=by
    rcases jiR (E.blk i) w.heap.size with e|e
    ·exact e
    ·rw[Array.getElem?_eq_none e] at hb
     cases hb
   have hle3:h.Le fun b o=>if b=E.blk i then none else h2 b o:=fun b o v hv=>by
    dsimp only
    split
    ·rename_i e;subst e;rw[hun o] at hv;cases hv
    ·exact hle _ _ _ (hle1 _ _ _ hv)
   refine⟨fun b o=>if b=E.blk i then none else h2 b o,S.called hle3 hbel ⟨fun b o v hv=>?_,S.agree.glob.mono hle3,ha.blk,fun g hg=>by
    obtain⟨v,hv⟩:=S.agree.errs g hg
    exact⟨v,hle3 _ _ _ hv⟩⟩ (fun b hb2 o=>?_),fun d v hd hden=>Den.apt (fun b o v hv=>?_) hd hden⟩
   ·try dsimp only at hv
    split at hv
    ·cases hv
    ·exact ha b o v hv
   ·try dsimp only
    split
    ·rename_i e;subst e;rw[hun o]
    ·rename_i e
     rw[ho b hb2 o]
     unfold jaH
     rw[if_neg e]
   ·try dsimp only
    split
    ·rename_i e
     subst e
     rw[ho _ hlt o] at hv
     unfold jaH at hv
     rw[if_pos rfl,List.getElem?_map] at hv
     obtain⟨n,_,hn⟩:=Option.map_eq_some_iff.1 hv
     exact .inl ⟨k,n,hn.symm⟩
    ·exact .inr hv
theorem lend_el {x:Operand}{args:Array Operand}{ts:Array TypeId}(ho:o.op = .call { callee := .value x,args:=args,argTypes:=ts })(hh:lendK P N o.dst x args.toList L H K) :
  ∃ L'' H',K L'' H' ∧ ∀ E h a w,N≤a.tmps.size→Sat cx E h a w L H → ∀ next:Act→World→Prop,
   (∀ h' a' w',a'.tmps.size=a.tmps.size→Sat cx E h' a' w' L'' H'→next a' w')→o.wp P a w next Q:=by
 have hz:=jar hh;clear hh;obtain⟨df,hh,hdf⟩:=hz
 split at hh
 case h_2=>exact hh.elim
 rename_i f first caps
 have hz:=jc4 hh;clear hh;obtain⟨ds,hh,hlen,hds⟩:=hz
 obtain⟨i,hh⟩:=hh
 have hz:=jaD hh;clear hh;obtain⟨c,hc,hh⟩:=hz
 split at hh
 case h_2=>exact hh.elim
 rename_i k xs
 rw[jbH] at hh
 cases hp:D.pureL (pubL i (.arr k xs) (appD first (appD ds caps))) with
 | false=>rw[hp] at hh;exact hh.elim
 | true=>
  rw[hp] at hh
  obtain⟨r,hcall,hh⟩:=hh
  cases hpr:D.pure r with
  | false=>rw[hpr] at hh;exact hh.elim
  | true=>
   rw[hpr] at hh
   cases hpa:D.apt r with
   | false=>rw[hpa] at hh;exact hh.elim
   | true=>
    rw[hpa] at hh
    obtain⟨L'',hK,hput⟩:=jeR (cx:=cx) hh
    refine⟨L'',H,hK,fun E h a w hN S next hnext=>?_⟩
    obtain⟨h1,hle,hag,hden,hback⟩:=S.lend hc
    have hf:=hdf E h a trivial (S.facts.rd x)
    simp only[Den] at hf
    obtain⟨us,vs,hfv,hu,hv⟩:=hf
    have hargs:=hds E h a S.facts.rd trivial
    have hall:DenL E h (appD first (appD ds caps)) (us++(args.toList.map a.eval++vs)):=by
     rw[jcS,jcS];exact hu.append (hargs.append hv)
    have hall1:DenL E h1 (pubL i (.arr k xs) (appD first (appD ds caps))) (us++(args.toList.map a.eval++vs)):=by
     rw[jfV];exact DenL.map hden hall
    have hall':=DenL.pure (E':=Env.dummy) hp hall1
    obtain⟨hent,hcl⟩:=hcall trivial
    have hrun:(execOp a.eval o).run P w = .ok (.enter f (us++(args.toList.map a.eval++vs)).toArray) w:=by
     simp only[execOp,ho,resolve,hfv,Deferred.ofValue,Sem.run_bind,Sem.run_pure,Result.andThen_ok,invoke]
     rw[show us.toArray++Array.map a.eval args++vs.toArray=(us++(args.toList.map a.eval++vs)).toArray by apply Array.toList_inj.1;simp]
     exact hent _ w
    unfold Oper.wp
    rw[hrun]
    simp only[Oper.upon]
    refine(hcl h1 w _ hag hall').mono ?_
    rintro e w' ⟨v,h2,rfl,hr,ha,hle2,hb,hold⟩
    simp only
    obtain⟨h3,S3,hap⟩:=hback h2 w' hle2 ha hb hold
    exact hnext h3 _ _ (jaB _ _ _) (hput E h3 a w' H v hN S3 (hap r v hpa (Den.pure hpr hr)))
structure Panics (P:Program)(f:Nat)(ds:List D)(v:Value):Prop where
 ent:Enters P f
 call:∀ (h:Pub) (w:World) (vs:List Value),Agree h w→DenL Env.dummy h ds vs →
  Calls P f vs.toArray w fun e w' => ∃ h',e = .panicked [{ v:=v,recovered:=false }]∧Agree h' w'∧h.Le h'∧Below w.heap.size w w' ∧ ∀ b,b<w.heap.size → ∀ o,h' b o=h b o
abbrev KPan:=List PanicEntry→Sl→Hp→Prop
def panK (P:Program)(x:Operand)(args:List Operand)(L:Sl)(H:Hp)(KP:KPan):Prop:=
 rdg True L x fun df=>match df with
  | .fn f first caps=>rdsK True L args fun ds=>handK 40 (appD first (appD ds caps)) L H fun ds' L' H'=>match D.pureL ds' with
   | true => ∃ v,Panics P f ds' v∧KP [{ v:=v,recovered:=false }] L' H'
   | false=>False
  | _=>False
def raiseK (x:Operand)(L:Sl)(H:Hp)(KP:KPan):Prop:=rdg True L x fun d=>match d with
 | .val v=>match v with
  | .iface t u=>KP [{ v := .iface t u,recovered:=false }] L H
  | _=>False
 | _=>False
theorem pan_el {KP:KPan}{x:Operand}{args:Array Operand}{ts:Array TypeId}(ho:o.op = .call { callee := .value x,args:=args,argTypes:=ts })(hh:panK P x args.toList L H KP) :
  ∀ E h a w,Sat cx E h a w L H→(∀ c L' H' h' w',KP c L' H'→Sat cx E h' a w' L' H'→Q (.panic c) a w') → ∀ next:Act→World→Prop,o.wp P a w next Q:=by
 have hz:=jar hh;clear hh;obtain⟨df,hh,hdf⟩:=hz
 split at hh
 case h_2=>exact hh.elim
 rename_i f first caps
 have hz:=jc4 hh;clear hh;obtain⟨ds,hh,hlen,hds⟩:=hz
 have hz:=jhI hh;clear hh;obtain⟨ds',L',H',hh,hlen',hS⟩:=hz
 cases hp:D.pureL ds' with
 | false=>rw[hp] at hh;exact hh.elim
 | true=>
  rw[hp] at hh
  obtain⟨v,hcall,hh⟩:=hh
  intro E h a w S hQ next
  obtain⟨h',hle,S',hden⟩:=hS cx E h a w S
  have hf:=hdf E h a trivial (S.facts.rd x)
  simp only[Den] at hf
  obtain⟨us,vs,hfv,hu,hv⟩:=hf
  have hargs:=hds E h a S.facts.rd trivial
  have hall:DenL E h (appD first (appD ds caps)) (us++(args.toList.map a.eval++vs)):=by
   rw[jcS,jcS];exact hu.append (hargs.append hv)
  have hall':=DenL.pure (E':=Env.dummy) hp (hden _ hall)
  obtain⟨hent,hc⟩:=hcall
  have hrun:(execOp a.eval o).run P w = .ok (.enter f (us++(args.toList.map a.eval++vs)).toArray) w:=by
   simp only[execOp,ho,resolve,hfv,Deferred.ofValue,Sem.run_bind,Sem.run_pure,Result.andThen_ok,invoke]
   rw[show us.toArray++Array.map a.eval args++vs.toArray=(us++(args.toList.map a.eval++vs)).toArray by apply Array.toList_inj.1;simp]
   exact hent _ w
  unfold Oper.wp
  rw[hrun]
  simp only[Oper.upon]
  refine(hc h' w _ S'.agree hall').mono ?_
  rintro e w' ⟨h2,rfl,ha,hle2,hb,hold⟩
  simp only
  exact hQ _ _ _ _ _ hh (S'.called hle2 hb ha hold)
theorem raise_el {KP:KPan}{x:Operand}(ho:o.op = .panic x)(hh:raiseK x L H KP) :
  ∀ E h a w,Sat cx E h a w L H→(∀ c L' H' h' w',KP c L' H'→Sat cx E h' a w' L' H'→Q (.panic c) a w') → ∀ next:Act→World→Prop,o.wp P a w next Q:=by
 have hz:=jar hh;clear hh;obtain⟨d,hh,hd⟩:=hz
 intro E h a w S hQ next
 have hv:=hd E h a trivial (S.facts.rd x)
 split at hh
 case h_2=>exact hh.elim
 rename_i v
 split at hh
 case h_2=>exact hh.elim
 rename_i t u
 simp only[Den] at hv
 unfold Oper.wp
 have hrun:(execOp a.eval o).run P w = .halt (.panic (.iface t u)) w:=by
  simp only[execOp,ho,Sem.run_bind,hv,run_panic_iface]
  rfl
 rw[hrun]
 simp only[Oper.upon]
 exact hQ _ _ _ _ _ hh S
def nthO:List Oper→Nat→(Oper→Prop)→Prop
 | [],_,_=>False
 | o::_,0,K=>K o
 | _::os,n+1,K=>nthO os n K
theorem jdP {os:List Oper}{n:Nat}{K:Oper→Prop}(h:nthO os n K):∃ o,os[n]? = some o∧K o:=by
 induction os generalizing n with
 | nil=>exact h.elim
 | cons d ds ih=>
  cases n with
  | zero=>exact⟨d,rfl,h⟩
  | succ n=>exact ih h
def someK (d:Option Nat)(K:Nat→Prop):Prop:=match d with|some d=>K d|none=>False
theorem jaO {d:Option Nat}{K:Nat→Prop}(h:someK d K):∃ n,d=some n∧K n:=by
 cases d with
 | none=>exact h.elim
 | some n=>exact⟨n,rfl,h⟩
def noneK (d:Option Nat)(K:Prop):Prop:=match d with|some _=>False|none=>K
theorem noneK_el {d:Option Nat}{K:Prop}(h:noneK d K):d=none∧K:=by
 cases d with
 | none=>exact⟨rfl,h⟩
 | some n=>exact h.elim
def opK (P:Program)(tb:Tb)(N off:Nat)(o:Oper)(L:Sl)(H:Hp)(K:K2):Prop:=match o.op with
 | .alloc t=>someK o.dst fun d=>allocK tb N off d t L H K
 | .box t x=>someK o.dst fun d=>boxK tb N off d t x L H K
 | .store t a x=>noneK o.dst (storeK tb t a x L H K)
 | .buildSlice t n parts=>someK o.dst fun d=>je6 tb N off d t n parts L H K
 | .makeSlice t l c=>someK o.dst fun d=>jfu tb N off d t l c L H K
 | .call c=>match c.callee with
  | .value x=>callK P N True (fun r=>r) o.dst x c.args.toList L H K
  | .builtin .append=>match c.args.toList,c.argTypes.toList with
   | [s,x],[t,t']=>match Nat.beq t t' with
    | true=>someK o.dst fun d=>appendK tb N off d t s x L H K
    | false=>False
   | _,_=>False
  | .builtin .copy=>match c.args.toList,c.argTypes.toList with
   | [s,x],[t,t']=>match Nat.beq t t' with
    | true=>copyK tb N o.dst t s x L H K
    | false=>False
   | _,_=>False
  | _=>someK o.dst fun d=>quiet tb True L H (fun r=>ltK d N (K ((d,r)::L) H)) o.op
 | _=>someK o.dst fun d=>quiet tb True L H (fun r=>ltK d N (K ((d,r)::L) H)) o.op
theorem op_el (htb:TbOk P tb)(hh:opK P tb N cx.off o L H K):Heavy P N cx Q o K L H:=by
 have qu:(someK o.dst fun d=>quiet tb True L H (fun r=>ltK d N (K ((d,r)::L) H)) o.op)→Heavy P N cx Q o K L H:=fun hh=>by
  obtain⟨d,hd,hh⟩:=jaO hh
  obtain⟨r,hr,hv⟩:=jeb htb hh
  obtain⟨hlt,hK⟩:=jc5 hr
  intro E h a w hN S next hnext
  obtain⟨v,h1,h2⟩:=hv E h a w S.facts trivial
  unfold Oper.wp
  rw[h1]
  simp only[Oper.upon,hd]
  exact hnext _ _ _ _ _ _ hK (jaB _ _ _) (S.put (by omega) h2)
 unfold opK at hh
 split at hh
 ·rename_i t ho
  obtain⟨d,hd,hh⟩:=jaO hh
  exact alloc_el htb hd ho hh
 ·rename_i t x ho
  obtain⟨d,hd,hh⟩:=jaO hh
  exact box_el hd ho hh
 ·rename_i t a x ho
  obtain⟨hd,hh⟩:=noneK_el hh
  exact store_el htb hd ho hh
 ·rename_i t n parts ho
  obtain⟨d,hd,hh⟩:=jaO hh
  exact jgj htb hd ho hh
 ·rename_i t l c ho
  obtain⟨d,hd,hh⟩:=jaO hh
  exact jgK htb hd ho hh
 ·rename_i c ho
  obtain⟨callee,args,ts⟩:=c
  dsimp only at hh
  split at hh
  ·obtain⟨L'',H',hK,hc⟩:=jhY (P:=P) (Q:=Q) (cx:=cx) ho (fun _ _ _ _ _ h=>h) (fun _ _ _ h=>absurd trivial h) hh
   intro E h a w hN S next hnext
   exact(hc E h a w hN S).1 trivial next fun h' a' w' hs hS=>hnext _ _ _ _ _ _ hK hs hS
  ·split at hh
   ·rename_i s x t t' ha ht
    cases hb:Nat.beq t t' with
    | false=>rw[hb] at hh;exact hh.elim
    | true=>
     rw[hb] at hh
     have:=jae hb;subst this
     obtain⟨d,hd,hh⟩:=jaO hh
     have e1:args = #[s,x]:=Array.toList_inj.1 (by simpa using ha)
     have e2:ts = #[t,t]:=Array.toList_inj.1 (by simpa using ht)
     subst e1;subst e2
     exact append_el htb hd ho hh
   ·exact hh.elim
  ·split at hh
   ·rename_i s x t t' ha ht
    cases hb:Nat.beq t t' with
    | false=>rw[hb] at hh;exact hh.elim
    | true=>
     rw[hb] at hh
     have:=jae hb;subst this
     have e1:args = #[s,x]:=Array.toList_inj.1 (by simpa using ha)
     have e2:ts = #[t,t]:=Array.toList_inj.1 (by simpa using ht)
     subst e1;subst e2
     exact copy_el htb ho hh
   ·exact hh.elim
  ·exact qu hh
 ·exact qu hh
def condK (want:Bool)(d:D)(K:Bool→Prop):Prop:=match d with
 | .bool b=>match want with|true=>K b|false=>K (!b)
 | .gd c (.bool b)=>match want with|true=>K (c && b)|false=>K (c && !b)
 | _=>False
theorem jhX {want:Bool}{d:D}{K:Bool→Prop}(hh:condK want d K) :
  ∃ c,K c ∧ ∀ E h v,Den E h d v→(c=true↔v = .bool want):=by
 unfold condK at hh
 split at hh
 ·rename_i b
  cases want with
  | true=>exact⟨_,hh,fun E h v hv=>by simp only[Den] at hv;subst hv;simp⟩
  | false=>exact⟨_,hh,fun E h v hv=>by simp only[Den] at hv;subst hv;simp⟩
 ·rename_i c b
  have key:∀ E h v,Den E h (.gd c (.bool b)) v→(c=true→v = .bool b)∧(c=false→v=Go.undef):=fun E h v hv=>by
   simp only[Den] at hv;exact hv
  cases want with
  | true=>
   refine⟨_,hh,fun E h v hv=>?_⟩
   obtain⟨h1,h2⟩:=key E h v hv
   cases c with
   | true=>rw[h1 rfl];simp
   | false=>rw[h2 rfl];simp[Go.undef]
  | false=>
   refine⟨_,hh,fun E h v hv=>?_⟩
   obtain⟨h1,h2⟩:=key E h v hv
   cases c with
   | true=>rw[h1 rfl];simp
   | false=>rw[h2 rfl];simp[Go.undef]
 ·exact hh.elim
theorem jfe {all:List Oper}{a:Act}{o oj:Oper}{j s:Nat}{want:Bool}(hg:o.guard=some (j,want))(hj:all[j]? = some oj)(hs:oj.dst=some s) :
  Region.wanted o (yielded all.toArray a.tmps)=true↔a.tmps.getD s Go.undef = .bool want:=by
 simp only[Region.wanted,hg,yielded,jjt,hj,Option.bind_some,hs,Array.getD_eq_getD_getElem?]
 cases hx:a.tmps[s]? with
 | none=>simp[Go.undef]
 | some v=>cases v<;>simp
end
end Go.V
end
section
namespace Go.V
open Go Go.RowKit
abbrev FR (r:Option Nat):Fence := { Fence.wide with round:=r }
theorem jbr {P:Program}{o:Oper}{a:Act}{w:World}{next:Act→World→Prop}{Q:Exit→Act→World→Prop}(r:Option Nat)(hd:∀ c,o.op ≠ .defer c)(h:o.wp P a w next Q) :
  o.wpIn (FR r) 0 P a w next Q:=by
 refine⟨fun f _=>trivial,?_⟩
 have hs:o.semAt (FR r).round a.eval=execOp a.eval o:=by
  cases r with
  | none=>exact Oper.semAt_none ..
  | some l=>exact Oper.semAt_some _ _ _ hd
 rw[hs]
 unfold Oper.wp at h
 generalize (execOp a.eval o).run P w=x at h
 have nd:(FR r).depth.isSome=true→1≤0:=fun e=>absurd (show (none:Option Nat).isSome=true from e) (by decide)
 cases x with
 | ok y w'=>
  cases y
  case enter f args=>
   simp only[Oper.upon] at h
   simp only[Oper.uponIn]
   exact⟨nd,callsIn_wide (n:=0).2 h⟩
  case row row args=>
   simp only[Oper.upon] at h
   simp only[Oper.uponIn]
   refine⟨nd,fun c cs _=>?_⟩
   obtain⟨v,w'',h1,h2⟩:=h c cs
   exact⟨v,w'',h1,stepsIn_wide.2 h2⟩
  all_goals simp only[Oper.upon,Oper.uponIn] at h ⊢
  all_goals exact h
 | halt y w'=>cases y<;>simp only[Oper.upon,Oper.uponIn] at h ⊢ <;> exact h
section
variable {F : Fence} {n : Nat} {P : Program} {Q : Exit → Act → World → Prop} {a : Act} {w : World}
theorem jbs {b:Frame}{a:Act}{c:Code}{k:List Item}{cs:List Frame}{w:World} : step P (lone (b.atR a (.code (.scope c)::k)) cs w) = .next (lone (b.atR a (.code c :: .inScope c::k)) cs w):=step_lone_go (by simp[stepG,stepG.exec,Frame.atR])
theorem jfP {b:Frame}{a:Act}{c:Code}{k:List Item}{cs:List Frame}{w:World} : step P (lone (b.atR a (.inScope c::k)) cs w) = .next (lone (b.atR a k) cs w):=step_lone_go (by simp[stepG,stepG.exec,Frame.atR])
theorem wpIn_scope {c:Code}(h:c.wpIn F n P (Exit.noGoto Q) a w):(Code.scope c).wpIn F n P Q a w:=by
 intro b k cs hro hb hr
 have h0:(lone (b.atR a (.code (.scope c)::k)) cs w).fenced P F:=fenced_calm hb hr rfl
 obtain⟨e,a₁,w₁,hq,harr⟩:=h b (.inScope c::k) cs hro hb hr
 cases e with
 | normal=>exact⟨.normal,a₁,w₁,hq,.head h0 jbs (StepsIn.trans harr (.one (fenced_calm hb hr rfl) jfP))⟩
 | exit id=>
  have hx:exitTo id (.inScope c::k)=exitTo id k:=by simp[exitTo]
  exact⟨.exit id,a₁,w₁,hq,fun k' hk => .head h0 jbs (harr.1 k' (by rw[hx];exact hk)),
    fun hr' hk=>let ⟨k₁,h1,h2⟩:=harr.2 hr' (by rw[hx];exact hk); ⟨k₁,h1,.head h0 jbs h2⟩⟩
 | goto l=>exact hq.elim
 | ret=>exact⟨_,a₁,w₁,hq,.of_steps (.one h0 jbs) harr⟩
 | panic ch=>exact⟨_,a₁,w₁,hq,.of_steps (.one h0 jbs) harr⟩
 | outgrown=>exact⟨_,a₁,w₁,hq,.of_steps (.one h0 jbs) harr⟩
theorem jgZ {c:Code}{α:Type}(I:α→Act→World→Prop)(μ:α→Nat)
  (round:∀ x a w,I x a w→c.wpIn F n P (Exit.then (fun a' w' => ∃ y,I y a' w'∧μ y<μ x) Q) a w) {a:Act} {w:World} (x0:α) (h0:I x0 a w):(Code.loop c).wpIn F n P Q a w:=by
 intro b k cs hro hb hr
 have key:∀ j x a w,μ x=j→I x a w →
   ∃ e a' w',Q e a' w'∧ArrivesIn (Machine.fenced P F) P (lone (b.atR a (.code c :: .inLoop c::k)) cs w) b k cs e a' w':=by
  intro j
  induction j using Nat.strongRecOn with
  | _ j ih=>
   intro x a w hn hI
   obtain⟨e,a₁,w₁,hq,harr⟩:=round x a w hI b (.inLoop c::k) cs hro hb hr
   cases e with
   | normal=>
    obtain⟨y,hI₁,hlt⟩:=hq
    obtain⟨e₂,a₂,w₂,hq₂,harr₂⟩:=ih (μ y) (hn▸hlt) y a₁ w₁ rfl hI₁
    exact⟨e₂,a₂,w₂,hq₂,.of_steps (StepsIn.trans harr (.one (fenced_calm hb hr rfl) stepR_inLoop)) harr₂⟩
   | exit id=>exact⟨_,a₁,w₁,hq,.pass (x := .inLoop c) rfl (fun _ _ => .inl (by simp)) harr⟩
   | goto l=>exact⟨_,a₁,w₁,hq,.pass (x := .inLoop c) rfl (fun _ _ => .inl (by simp)) harr⟩
   | ret=>exact⟨_,a₁,w₁,hq,.pass (x := .inLoop c) rfl (fun _ _ => .inl (by simp)) harr⟩
   | panic ch=>exact⟨_,a₁,w₁,hq,.pass (x := .inLoop c) rfl (fun _ _ => .inl (by simp)) harr⟩
   | outgrown=>exact⟨_,a₁,w₁,hq,.pass (x := .inLoop c) rfl (fun _ _ => .inl (by simp)) harr⟩
 obtain⟨e,a',w',hq,harr⟩:=key _ x0 a w rfl h0
 exact⟨e,a',w',hq,.of_steps (.one (fenced_calm hb hr rfl) stepR_loop) harr⟩
end
end Go.V
end
