/- Laws of a small interpreter over plain values, part 6. No condition. -/
import Derived.Test.YtbhpaandigaanaaGreatDoorLocateBackH5
import Derived.Test.YtbhpaandigaanaaGreatDoorLocateBackH4
import Derived.Carry
import Derived.OpenShut
import Derived.SizedLaws
import Derived.ChangeSlices
import Derived.JoinedOf
import Derived.Test.YtbhpaandigaanaaGreatDoorProg
set_option linter.unusedSimpArgs false
set_option linter.unusedVariables false
set_option maxHeartbeats 8000000
set_option maxRecDepth 100000
section
namespace Go.V
open Go Go.RowKit
theorem lp_inv {off:Nat}{L:Sl}{H:Hp}{body:Sl→Hp→K3→Prop}{K:K3}(n:Nat)(I:Nat→Prop)(sl:Nat→Sl)(hp:Nat→Hp)(h0:Wk off L H (sl 0) (hp 0))(hI:I 0)
  (step:∀ k,k≤n→I k→body (sl k) (hp k) (nrm (fun L' H' => ∃ y,(y≤n∧I y)∧n-y<n-k∧Wk off L' H' (sl y) (hp y)) K)):Lp off L H body K:=
 Lp.of ⟨Nat,fun k=>k≤n∧I k,sl,hp,fun k=>n-k,⟨0,⟨jg2 _,hI⟩,h0⟩,fun k hk=>step k hk.1 hk.2⟩
theorem jaS {P:Program}{tb:Tb}{inl:Inl}{yl:Yl}{N off:Nat}{all:List Oper}{KP:KPan}{gt:Nat→Sl→Hp→Prop}{L:Sl}{H:Hp}{K:K2} : jeb P tb inl yl N off all KP gt .nil L H K:=True.intro
theorem getD_toNat (xs:List Int)(k:Nat)(x:Int)(h:xs[k]? = some x):xs.getD (k:Int).toNat 0=x:=by
 simp[jhF,h]
theorem getx {xs:List Int}{k:Nat}(h:(k:Int)<xs.length):∃ x,xs[k]? = some x∧xs.getD (k:Int).toNat 0=x:=by
 have h2:k<xs.length:=by omega
 exact⟨xs[k],jhI h2,by simp[jhF,h2]⟩
def slApp:Sl→Sl→Sl
 | [],M=>M
 | x::L,M=>x::slApp L M
def hpApp:Hp→Hp→Hp
 | [],M=>M
 | x::L,M=>x::hpApp L M
def wkSl (L L2:Sl):Sl→Prop
 | []=>True
 | (t,_)::R=>(match look L2 t with | .any=>True|d=>look L t=d)∧wkSl L L2 R
def wkHp (H H2:Hp):Hp→Prop
 | []=>True
 | (i,_)::R=>(match lookH H2 i with|none=>True|some c=>lookH H i=some c)∧wkHp H H2 R
theorem look_none {L:Sl}{t:Nat}(h:∀ p∈L,p.1≠t):look L t = .any:=by
 induction L with
 | nil=>rfl
 | cons x L ih=>
  obtain⟨s,d⟩:=x
  rw[jav,if_neg (h (s,d) (by simp))]
  exact ih fun p hp=>h p (by simp[hp])
theorem lookH_none {H:Hp}{t:Nat}(h:∀ p∈H,p.1≠t):lookH H t=none:=by
 induction H with
 | nil=>rfl
 | cons x L ih=>
  obtain⟨s,d⟩:=x
  rw[jai,if_neg (h (s,d) (by simp))]
  exact ih fun p hp=>h p (by simp[hp])
theorem wkSl_mem {L L2 R:Sl}(h:wkSl L L2 R){t:Nat}(ht:∃ p∈R,p.1=t):look L2 t = .any∨look L t=look L2 t:=by
 induction R with
 | nil=>obtain⟨p,hp,_⟩:=ht;simp at hp
 | cons x R ih=>
  obtain⟨s,d⟩:=x
  obtain⟨p,hp,e⟩:=ht
  by_cases hs:s=t
  ·subst hs
   have h1:=h.1
   cases hl:look L2 s<;>rw[hl] at h1<;>first|exact .inl rfl|exact .inr h1
  ·rcases jhH.1 hp with e2|e2
   ·subst e2;exact absurd e hs
   ·exact ih h.2 ⟨p,e2,e⟩
theorem wkHp_mem {H H2 R:Hp}(h:wkHp H H2 R){i:Nat}{c:Chunk}(hi:∃ p∈R,p.1=i)(hc:lookH H2 i=some c):lookH H i=some c:=by
 induction R with
 | nil=>obtain⟨p,hp,_⟩:=hi;simp at hp
 | cons x R ih=>
  obtain⟨s,d⟩:=x
  obtain⟨p,hp,e⟩:=hi
  by_cases hs:s=i
  ·subst hs
   have h1:=h.1
   rw[hc] at h1;exact h1
  ·rcases jhH.1 hp with e2|e2
   ·subst e2;exact absurd e hs
   ·exact ih h.2 ⟨p,e2,e⟩
theorem Wk.of2 {off : Nat} {L L' : Sl} {H H' : Hp} (h1 : wkSl L L' L') (h2 : wkHp H H' H') : Wk off L H L' H' := by
  refine ⟨fun cx E h a w _ S => ?_⟩
  have hl : ∀ {i c}, lookH H' i = some c → lookH H i = some c := fun {i c} hc => by
    by_cases hm : ∃ p ∈ H', p.1 = i
    · exact wkHp_mem h2 hm hc
    · rw [lookH_none (fun p hp e => hm ⟨p, hp, e⟩)] at hc; cases hc
  refine ⟨E, h, { knows := fun t => ?_, mem := ?_, agree := S.agree, since := S.since, low := S.low, side := S.side }⟩
  · by_cases hm : ∃ p ∈ L', p.1 = t
    · rcases wkSl_mem h1 hm with e | e
      · rw [e]; simp [Den]
      · rw [← e]; exact S.knows t
    · rw [look_none (fun p hp e => hm ⟨p, hp, e⟩)]; simp [Den]
  · exact { ok := fun i c hc => S.mem.ok i c (hl hc), base := fun i c hc => S.mem.base i c (hl hc), unpub := fun i c hc => S.mem.unpub i c (hl hc),
            inj := fun i j c c' hij hc hc' => S.mem.inj i j c c' hij (hl hc) (hl hc') }
def jcK:Sl→Sl→(Sl→Prop)→Prop
 | [],M,K=>K M
 | x::L,M,K=>jcK L M fun N=>K (x::N)
theorem jca (L M:Sl)(K:Sl→Prop):jcK L M K=K (slApp L M):=by
 induction L generalizing K with
 | nil=>rfl
 | cons x L ih=>simp only[jcK,slApp,ih]
def jcW:Hp→Hp→(Hp→Prop)→Prop
 | [],M,K=>K M
 | x::L,M,K=>jcW L M fun N=>K (x::N)
theorem jch (L M:Hp)(K:Hp→Prop):jcW L M K=K (hpApp L M):=by
 induction L generalizing K with
 | nil=>rfl
 | cons x L ih=>simp only[jcW,hpApp,ih]
theorem lp_go {off:Nat}{L:Sl}{H:Hp}{body:Sl→Hp→K3→Prop}{K:K3}(n:Nat)(I:Nat→Prop)(sl:Nat→Sl)(hp:Nat→Hp)(h0:Wk off L H (slApp (sl 0) L) (hpApp (hp 0) H))(hI:I 0)
  (step:∀ k,k≤n→I k→jcK (sl k) L fun L1=>jcW (hp k) H fun H1=>body L1 H1 (nrm (fun L' H' => ∃ y,(y≤n∧I y)∧n-y<n-k∧Wk off L' H' (slApp (sl y) L) (hpApp (hp y) H)) K)):Lp off L H body K:=
 lp_inv n I (fun k=>slApp (sl k) L) (fun k=>hpApp (hp k) H) h0 hI fun k hk hi=>by
  have:=step k hk hi
  rw[jca,jch] at this
  exact this
theorem jae {off:Nat}{L:Sl}{H:Hp}{body:Sl→Hp→K3→Prop}{K:K3}{α:Type}(x0:α)(I:α→Prop)(μ:α→Nat)(sl:α→Sl)(hp:α→Hp)(h0:Wk off L H (slApp (sl x0) L) (hpApp (hp x0) H))(hI:I x0)
  (step:∀ k,I k→jcK (sl k) L fun L1=>jcW (hp k) H fun H1=>body L1 H1 (nrm (fun L' H' => ∃ y,I y∧μ y<μ k∧Wk off L' H' (slApp (sl y) L) (hpApp (hp y) H)) K)):Lp off L H body K:=
 Lp.of ⟨α,I,fun k=>slApp (sl k) L,fun k=>hpApp (hp k) H,μ,⟨x0,hI,h0⟩,fun k hk=>by
  have:=step k hk
  rw[jca,jch] at this
  exact this⟩
def xjn (off i:Nat){β:Type}(inv:β→Prop)(sl:β→Sl)(hp:β→Hp)(K:K3):K3:=fun e L' H'=>match e with
 | .exit j=>match Nat.beq j i with
  | true => ∃ y,inv y∧Wk off L' H' (sl y) (hp y)
  | false=>K (.exit j) L' H'
 | e=>K e L' H'
theorem lp_exit {off:Nat}{L:Sl}{H:Hp}{body:Sl→Hp→K3→Prop}{K:K3}{β:Type}(i:Nat)(inv:β→Prop)(sl:β→Sl)(hp:β→Hp)
  (h:Lp off L H body (xjn off i inv (fun y=>slApp (sl y) L) (fun y=>hpApp (hp y) H) K)) (k:∀ y,inv y→jcK (sl y) L fun L1=>jcW (hp y) H fun H1=>K (.exit i) L1 H1):Lp off L H body K:=by
 obtain⟨K2,hK2,hr⟩:=h.out
 refine⟨K2,fun e L' H' hk=>?_,hr⟩
 obtain⟨L2,H2,hw,hx⟩:=hK2 e L' H' hk
 cases e with
 | exit j=>
  simp only[xjn] at hx
  cases hb:Nat.beq j i with
  | true=>
   rw[hb] at hx
   have:=jac hb;subst this
   obtain⟨y,hy,hw2⟩:=hx
   have:=k y hy
   rw[jca,jch] at this
   exact⟨_,_,hw.trans hw2,this⟩
  | false=>rw[hb] at hx;exact⟨_,_,hw,hx⟩
 | _=>exact⟨_,_,hw,hx⟩
theorem jaE {P:Program}{tb:Tb}{inl:Inl}{N off:Nat}{a b:Code}{yl:Yl}{x:Bool}{L:Sl}{H:Hp}{K:K3}(sl:Sl)(hp:Hp)
  (h:CondB x (RunC P tb inl N a yl off L H (jn off (slApp sl L) (hpApp hp H) K)) (RunC P tb inl N b yl off L H (jn off (slApp sl L) (hpApp hp H) K))) (k:jcK sl L fun L1=>jcW hp H fun H1=>K .normal L1 H1) :
  Cnd off x (RunC P tb inl N a yl off L H) (RunC P tb inl N b yl off L H) K := .join _ _ h (by rw[jca,jch] at k;exact k)
theorem jad {P:Program}{tb:Tb}{inl:Inl}{N off:Nat}{all:List Oper}{KP:KPan}{p:Plan}{ns:List Nd}{yl:Yl}{L:Sl}{H:Hp}{K:K2}(sl:Sl)(hp:Hp)
  (h:drawK P tb inl yl N off all KP (fun _ _ _=>False) p L H fun L' H'=>Wk off L' H' (slApp sl L) (hpApp hp H)) (k:jcK sl L fun L1=>jcW hp H fun H1=>K L1 H1) :
  Drw off (drawD P tb inl yl N off all KP p ns L H) K := .join _ _ (jab h) (by rw[jca,jch] at k;exact k)
def ctrK:List (Nat×Sl×Hp)→List Nat→Sl→Hp→(Sl→Hp→Prop)→Prop
 | [],_,L,H,K=>K L H
 | (i,sl,hp)::c,rem,L,H,K=>match memB i rem with|true=>ctrK c rem L H K|false=>jcK sl L fun L1=>jcW hp H fun H1=>ctrK c rem L1 H1 K
def ndsK (P:Program)(tb:Tb)(inl:Inl)(yl:Yl)(N off:Nat)(all:List Oper)(KP:KPan)(gt:Nat→Sl→Hp→Prop)(ctr:List (Nat×Sl×Hp))(L:Sl)(H:Hp)(K:K2):List Nd→Prop
 | []=>True
 | nd::ns=>(ctrK ctr nd.rem L H fun Lk Hk=>ja5 tb all nd.pend Lk Hk (drawK P tb inl yl N off all KP gt nd.plan Lk Hk K))∧ndsK P tb inl yl N off all KP gt ctr L H K ns
theorem jaF {A:Prop}{P:Program}{tb:Tb}{inl:Inl}{yl:Yl}{N off:Nat}{all:List Oper}{KP:KPan}{gt:Nat→Sl→Hp→Prop}{bs:Brs}{L:Sl}{H:Hp}{K:K2}(a:A)(b:jeb P tb inl yl N off all KP gt bs L H K):A∧jeb P tb inl yl N off all KP gt bs L H K:=⟨a,b⟩
theorem jaP {A:Prop}{P:Program}{tb:Tb}{inl:Inl}{yl:Yl}{N off:Nat}{all:List Oper}{KP:KPan}{gt:Nat→Sl→Hp→Prop}{ctr:List (Nat×Sl×Hp)}{L:Sl}{H:Hp}{K:K2}{ns:List Nd}(a:A)(b:ndsK P tb inl yl N off all KP gt ctr L H K ns):A∧ndsK P tb inl yl N off all KP gt ctr L H K ns:=⟨a,b⟩
theorem jat {A:Prop}{tb:Tb}{all:List Oper}{qs:List Nat}{L:Sl}{H:Hp}{K:Prop}(h:A)(k:ja5 tb all qs L H K):A∧ja5 tb all qs L H K:=⟨h,k⟩
theorem no_tf {A:Prop}(h:true=false):A:=by cases h
theorem no_ft {A:Prop}(h:false=true):A:=by cases h
theorem no_nt {A:Prop}(h:(!true)=true):A:=by cases h
theorem no_nf {A:Prop}(h:(!false)=false):A:=by cases h
theorem Cnd.y {off:Nat}{A B:K3→Prop}{K:K3}(h:A K):Cnd off true A B K := .split ⟨fun _=>h,no_tf⟩
theorem Cnd.n {off:Nat}{A B:K3→Prop}{K:K3}(h:B K):Cnd off false A B K := .split ⟨no_ft,fun _=>h⟩
theorem Cnd.ny {off:Nat}{A B:K3→Prop}{K:K3}(h:A K):Cnd off (!false) A B K := .split ⟨fun _=>h,no_nf⟩
theorem Cnd.nn {off:Nat}{A B:K3→Prop}{K:K3}(h:B K):Cnd off (!true) A B K := .split ⟨no_nt,fun _=>h⟩
theorem Cnd.yes {off:Nat}{x:Bool}{A B:K3→Prop}{K:K3}(e:x=true)(h:A K):Cnd off x A B K := .split ⟨fun _=>h,fun h'=>(by rw[e] at h';cases h')⟩
theorem Cnd.no {off:Nat}{x:Bool}{A B:K3→Prop}{K:K3}(e:x=false)(h:B K):Cnd off x A B K := .split ⟨fun h'=>(by rw[e] at h';cases h'),fun _=>h⟩
theorem jaa {P:Program}{g:Prop}{f:Nat}{ds:List D}{K:D→Prop}{r:D}(h:Called P f ds r)(k:K r):∃ r,(g→Called P f ds r)∧K r:=⟨r,fun _=>h,k⟩
def FinL:List D→List D→Prop
 | [],[]=>True
 | r::rs,r'::rs'=>Fin r r'∧FinL rs rs'
 | _,_=>False
theorem FinL.den {h:Pub} : ∀ {rs rs':List D} {vs:List Value},FinL rs rs'→DenL Env.dummy h rs' vs→DenL Env.dummy h rs vs
 | [],[],_,_,H=>H
 | _::_,_::_,_,F,H=>by
  simp only[DenL] at H ⊢
  obtain⟨v,vs',h1,h2,h3⟩:=H
  exact⟨v,vs',h1,F.1.out _ _ h2,FinL.den F.2 h3⟩
theorem Fin.tup {rs rs':List D}(F:FinL rs rs'):Fin (.tup rs) (.tup rs'):=⟨fun h v hv=>by
 simp only[Den] at hv ⊢
 obtain⟨vs,h1,h2⟩:=hv
 exact⟨vs,h1,FinL.den F h2⟩⟩
theorem Fin.agg {rs rs':List D}(F:FinL rs rs'):Fin (.agg rs) (.agg rs'):=⟨fun h v hv=>by
 simp only[Den] at hv ⊢
 obtain⟨vs,h1,h2,h3⟩:=hv
 exact⟨vs,h1,FinL.den F h2,h3⟩⟩
end Go.V
end
section
namespace Go.V
open Go Go.RowKit
section
variable {cx : Cx} {E : Env} {h : Pub} {a : Act} {w : World} {L : Sl} {H : Hp}
theorem Sat.rechunk (S:Sat cx E h a w L H){j:Nat}{c c':Chunk}(hj:lookH H j=some c)(hl:c.live=true)(hc:ChunkOk E h w j c'):Sat cx E h a w L ((j,c')::H):=by
 have key:∀ i x,lookH ((j,c')::H) i=some x→x.live=true → ∃ y,lookH H i=some y∧y.live=true:=fun i x hx hlx=>by
  rw[jai] at hx
  split at hx
  ·rename_i e;subst e;exact⟨c,hj,hl⟩
  ·exact⟨x,hx,hlx⟩
 refine { S with mem := { ok:=?_,base:=?_,unpub:=?_,inj:=?_ } }
 ·intro i x hx
  rw[jai] at hx
  split at hx
  ·rename_i e;subst e;cases hx;exact hc
  ·exact S.mem.ok i x hx
 ·intro i x hx hlx
  obtain⟨y,h1,h2⟩:=key i x hx hlx
  exact S.mem.base i y h1 h2
 ·intro i x hx hlx
  obtain⟨y,h1,h2⟩:=key i x hx hlx
  exact S.mem.unpub i y h1 h2
 ·intro i k x y hik hx hy lx ly
  obtain⟨x',h1,h2⟩:=key i x hx lx
  obtain⟨y',h3,h4⟩:=key k y hy ly
  exact S.mem.inj i k x' y' hik h1 h3 h2 h4
theorem Sat.reslot (S:Sat cx E h a w L H){t:Nat}{d:D}(hd:Den E h d (a.tmps.getD t Go.undef)):Sat cx E h a w ((t,d)::L) H:=by
 refine { S with knows:=fun s=>?_ }
 rw[jav]
 split
 ·rename_i e;subst e;exact hd
 ·exact S.knows s
theorem Sat.virt0 (S:Sat cx E h a w L H){i:Nat}{k:IntKind}(hoff':cx.off≤i) :
  Sat cx (E.virt i) h a w (purge i L) ((i,.arr k [])::jaK i H):=by
 have hoff:=E.off_virt i
 have live:∀ j c',j≠i→lookH ((i,.arr k [])::jaK i H) j=some c'→c'.live=true → ∃ c0,lookH H j=some c0∧c'=jbO i c0∧c0.live=true:=by
  intro j c' hj hc' hl
  rw[jai,if_neg (Ne.symm hj)] at hc'
  obtain⟨c0,h1,h2⟩:=jbd hc'
  exact⟨c0,h1,h2,by rw[h2,jbc] at hl;exact hl⟩
 have hne:∀ j,(E.virt i).real j=true→j≠i:=fun j hr e=>by subst e;rw[E.virt_real] at hr;cases hr
 have hre:∀ j,j≠i→(E.virt i).real j=E.real j:=fun j hj=>(hoff j hj).2.2.2.1
 refine { knows:=?_,mem:=?_,agree:=S.agree,since:=S.since,low:=fun j hj=>jfe S.low hoff hoff' j hj,side:=S.side }
 ·exact fun t=>jbT hoff (S.knows t)
 ·refine { ok:=?_,base:=?_,unpub:=?_,inj:=?_ }
  ·intro j c' hc'
   by_cases hj:j=i
   ·subst hj;rw[jai,if_pos rfl] at hc';cases hc';exact .inl ⟨E.virt_real _,rfl⟩
   ·cases hl:c'.live with
    | false=>cases c'<;>first|trivial|(simp[Chunk.live] at hl)
    | true=>
     obtain⟨c0,h1,rfl,hl'⟩:=live j c' hj hc' hl
     exact ChunkOk.env hoff hj (S.mem.ok j _ h1)
  ·intro j c' hc' hl hr
   have hj:=hne j hr
   obtain⟨c0,h1,rfl,hl'⟩:=live j c' hj hc' hl
   rw[hre j hj] at hr
   exact S.mem.base j _ h1 hl' hr
  ·intro j c' hc' hl hr o
   have hj:=hne j hr
   obtain⟨c0,h1,rfl,hl'⟩:=live j c' hj hc' hl
   rw[hre j hj] at hr
   exact S.mem.unpub j _ h1 hl' hr o
  ·intro j k' c1 c2 hjk h1 h2 l1 l2 r1 r2
   have hj:=hne j r1
   have hk:=hne k' r2
   obtain⟨c0,g1,rfl,l1'⟩:=live j c1 hj h1 l1
   obtain⟨c0',g2,rfl,l2'⟩:=live k' c2 hk h2 l2
   rw[hre j hj] at r1
   rw[hre k' hk] at r2
   exact S.mem.inj j k' _ _ hjk g1 g2 l1' l2' r1 r2
end
theorem jed {E:Env}{h:Pub}{i:Nat}{v:Value}(hr:E.real i=false)(hv:Den E h .nil v):Den E h (.osl i 0 0) v:=by
 simp only[Den] at hv ⊢
 exact .inl ⟨hr,hv,trivial⟩
theorem denL_set {E:Env}{h:Pub}{d:D} : ∀ {ds:List D} {vs:List Value} {p:Nat} {x:D},DenL E h ds vs→ds[p]? = some x→(∀ v,Den E h x v→Den E h d v)→DenL E h (ds.set p d) vs
 | [],_,_,_,_,hp,_=>by simp at hp
 | y::ds,vs,p,x,H,hp,hd=>by
  simp only[DenL] at H
  obtain⟨v,vs',rfl,h1,h2⟩:=H
  cases p with
  | zero=>simp at hp;subst hp;simp only[List.set_cons_zero,DenL];exact⟨v,vs',rfl,hd v h1,h2⟩
  | succ p=>simp only[List.set_cons_succ,DenL];exact⟨v,vs',rfl,h1,denL_set h2 (by simpa using hp) hd⟩
theorem Wk.ghostBox {off:Nat}{L:Sl}{H:Hp}(i j p:Nat)(k:IntKind){ds:List D}(hoff:off≤i)(hj:lookH (jaK i H) j=some (.box ds))(hij:j≠i)(hp:ds[p]? = some .nil) :
  Wk off L H (purge i L) ((j,.box (ds.set p (.osl i 0 0)))::(i,.arr k [])::jaK i H):=by
 refine⟨fun cx E h a w e S=>?_⟩
 subst e
 have S1:=S.virt0 (k:=k) hoff
 have hj1:lookH ((i,.arr k [])::jaK i H) j=some (.box ds):=by rw[jai,if_neg (Ne.symm hij)];exact hj
 refine⟨E.virt i,h,S1.rechunk hj1 rfl ?_⟩
 obtain⟨h1,vs,rest,T,h2,h3,h4⟩:=S1.mem.ok j _ hj1
 exact⟨h1,vs,rest,T,h2,denL_set h3 hp (fun v hv=>jed (E.virt_real i) hv),h4⟩
theorem Wk.ghostSlot {off:Nat}{L:Sl}{H:Hp}(i t:Nat)(k:IntKind)(hoff:off≤i)(ht:look (purge i L) t = .nil) :
  Wk off L H ((t,.osl i 0 0)::purge i L) ((i,.arr k [])::jaK i H):=by
 refine⟨fun cx E h a w e S=>?_⟩
 subst e
 have S1:=S.virt0 (k:=k) hoff
 have:=S1.knows t
 rw[ht] at this
 exact⟨E.virt i,h,S1.reslot (jed (E.virt_real i) this)⟩
theorem Lp.pre {off:Nat}{L L1:Sl}{H H1:Hp}{body:Sl→Hp→K3→Prop}{K:K3}(hw:Wk off L H L1 H1)(hl:Lp off L1 H1 body K):Lp off L H body K:=by
 obtain⟨K2,hK2,α,I,sl,hp,μ,⟨x,hx,h0⟩,hs⟩:=hl.out
 exact⟨⟨K2,hK2,α,I,sl,hp,μ,⟨x,hx,hw.trans h0⟩,hs⟩⟩
theorem Lp.ghostBox {off : Nat} {L : Sl} {H : Hp} {body : Sl → Hp → K3 → Prop} {K : K3} (i j p : Nat) (k : IntKind) (hoff : off ≤ i) (hij : j ≠ i)
    (h : jdk i L fun L1 => jbu i H fun H1 => jaG H1 j fun c => match c with
      | .box ds => nthK ds p fun d => match d with
        | .nil => jb8 ds p [.osl i 0 0] fun ds' => Lp off L1 ((j, .box ds') :: (i, .arr k []) :: H1) body K
        | _ => False
      | _ => False) : Lp off L H body K := by
  rw [jcO, jcn] at h
  obtain ⟨c, hc, h⟩ := jao h
  split at h
  case h_2 => exact h.elim
  rename_i ds
  obtain ⟨d, hd, h⟩ := jdU h
  split at h
  case h_2 => exact h.elim
  obtain ⟨_, h⟩ := jcb h
  have e : V.setAt ds p [.osl i 0 0] = ds.set p (.osl i 0 0) := by
    have hp := (jhO.1 hd).1
    unfold V.setAt
    rw [List.set_eq_take_append_cons_drop, if_pos hp]
    simp
  rw [e] at h
  exact Lp.pre (Wk.ghostBox i j p k hoff hc hij hd) h
theorem Lp.ghostSlot {off : Nat} {L : Sl} {H : Hp} {body : Sl → Hp → K3 → Prop} {K : K3} (i t : Nat) (k : IntKind) (hoff : off ≤ i)
    (h : jdk i L fun L1 => jbu i H fun H1 => lookK L1 t fun d => match d with
      | .nil => Lp off ((t, .osl i 0 0) :: L1) ((i, .arr k []) :: H1) body K
      | _ => False) : Lp off L H body K := by
  rw [jcO, jcn, jbn] at h
  split at h
  case h_2 => exact h.elim
  rename_i hd
  exact Lp.pre (Wk.ghostSlot i t k hoff hd) h
theorem Lp.pub {off : Nat} {L : Sl} {H : Hp} {body : Sl → Hp → K3 → Prop} {K : K3} (i : Nat)
    (h : jaG H i fun c => match c with
      | .gone => False
      | .lp _ => False
      | .mp _ => False
      | c => jeC i c L fun L1 => jcw i c H fun H1 => Lp off L1 ((i, .gone) :: H1) body K) : Lp off L H body K := by
  obtain ⟨c, hc, h⟩ := jao h
  split at h
  · exact h.elim
  · exact h.elim
  · exact h.elim
  · rename_i hne hne2 hne3
    have hl : c.cel = true := by
      cases c with
      | gone => exact absurd rfl hne
      | lp p => exact absurd rfl (hne2 p)
      | mp p => exact absurd rfl (hne3 p)
      | _ => rfl
    rw [jdM, jdN] at h
    refine Lp.pre ⟨fun cx E h' a w _ S => ?_⟩ h
    obtain ⟨h1, _, S1, _⟩ := S.publish hc hl
    exact ⟨E, h1, S1⟩
theorem getxn {xs:List Int}{k:Nat}(h:(k:Int)<xs.length):∃ x,xs[k]? = some x∧xs.getD k 0=x:=by
 have h2:k<xs.length:=by omega
 exact⟨xs[k],jhI h2,by simp[jhF,h2]⟩
end Go.V
end
section
namespace Go.V
open Go Go.RowKit
structure Hold (B:Prop):Prop where
 out:B
theorem sd {A : Prop} (h : A := by
  first
  | exact fun _ h => (by rw [h]; rfl)
  | (intros; (repeat' (first | exact rfl | exact True.intro | exact jhb _ | with_reducible refine And.intro ?_ ?_ | assumption)); done)
  | (intros; (try simp only [V.InR, V.lo, V.hi, decide_eq_true_eq, decide_eq_false_iff_not] at *); omega)
  | (intros; (try simp only [V.InR, V.lo, V.hi, decide_eq_true_eq, decide_eq_false_iff_not, true_and, jhS, List.length_nil, jhK, jhY, List.length_replicate, List.length_map, jhL, jhV, jg8, jha] at *); omega)
  | fail) : A := h
theorem rc {A : Prop} (h : A := by
  first
  | ((conv => whnf); (repeat (first
      | ((with_reducible refine And.intro ?_ ?_); (focus (exact sd)); (conv => whnf))
      | ((with_reducible refine Or.inl (And.intro ?_ ?_)); (focus (exact sd)); (conv => whnf))
      | ((with_reducible refine Or.inr (And.intro ?_ ?_)); (focus (exact sd)); (conv => whnf)))); exact ⟨rfl⟩)
  | fail) : A := h
theorem s1 {A B : Prop} (k : B) (h : Hold B → A := by
  first
  | (intro k
     first
     | ((with_reducible first | refine And.intro ?_ jaS | refine Cnd.y ?_ | refine Cnd.n ?_ | refine Cnd.ny ?_ | refine Cnd.nn ?_); (conv => whnf))
     | ((with_reducible refine jat ?_ ?_); (focus (exact rc)); (conv => whnf))
     | ((with_reducible refine And.intro ?_ ?_); (focus (exact sd)); (conv => whnf))
     | ((with_reducible refine GrdK.yes ?_ ?_); (focus (first | with_reducible assumption | rfl)); (conv => whnf))
     | ((with_reducible refine GrdK.no ?_ ?_); (focus (first | with_reducible assumption | rfl)); (conv => whnf))
     | ((with_reducible refine Cnd.no ?_ ?_); (focus decide); (conv => whnf))
     | ((with_reducible refine Cnd.yes ?_ ?_); (focus decide); (conv => whnf))
     | ((with_reducible refine Or.inl (And.intro ?_ ?_)); (focus (exact sd)); (conv => whnf))
     | ((with_reducible refine Or.inr (And.intro ?_ ?_)); (focus (exact sd)); (conv => whnf))
     exact k.out)
  | fail) : A := h ⟨k⟩
theorem st {A B : Prop} (k : B) (h : Hold B → A := by
  first
  | (intro k
     repeat (first
     | ((with_reducible first | refine And.intro ?_ jaS | refine Cnd.y ?_ | refine Cnd.n ?_ | refine Cnd.ny ?_ | refine Cnd.nn ?_); (conv => whnf))
     | ((with_reducible refine jat ?_ ?_); (focus (exact rc)); (conv => whnf))
     | ((with_reducible refine And.intro ?_ ?_); (focus (exact sd)); (conv => whnf))
     | ((with_reducible refine GrdK.yes ?_ ?_); (focus (first | with_reducible assumption | rfl)); (conv => whnf))
     | ((with_reducible refine GrdK.no ?_ ?_); (focus (first | with_reducible assumption | rfl)); (conv => whnf))
     | ((with_reducible refine Cnd.no ?_ ?_); (focus decide); (conv => whnf))
     | ((with_reducible refine Cnd.yes ?_ ?_); (focus decide); (conv => whnf))
     | ((with_reducible refine Or.inl (And.intro ?_ ?_)); (focus (exact sd)); (conv => whnf))
     | ((with_reducible refine Or.inr (And.intro ?_ ?_)); (focus (exact sd)); (conv => whnf)))
     exact k.out)
  | fail) : A := h ⟨k⟩
theorem wk {off:Nat}{L L':Sl}{H H':Hp}(h1:wkSl L L' L':=by first|((repeat' (first|exact True.intro|exact rfl|(refine And.intro ?_ ?_)));done)|fail)
  (h2:wkHp H H' H':=by first|((repeat' (first|exact True.intro|exact rfl|(refine And.intro ?_ ?_)));done)|fail):Wk off L H L' H':=Wk.of2 h1 h2
end Go.V
end
section
namespace Go.V
open Go Go.RowKit
theorem Wk.pub {off : Nat} {L : Sl} {H : Hp} {L2 : Sl} {H2 : Hp} (i : Nat)
    (h : jaG H i fun c => match c with
      | .gone => False
      | .lp _ => False
      | .mp _ => False
      | c => jeC i c L fun L1 => jcw i c H fun H1 => Wk off L1 ((i, .gone) :: H1) L2 H2) : Wk off L H L2 H2 := by
  obtain ⟨c, hc, h⟩ := jao h
  split at h
  · exact h.elim
  · exact h.elim
  · exact h.elim
  · rename_i hne hne2 hne3
    have hl : c.cel = true := by
      cases c with
      | gone => exact absurd rfl hne
      | lp p => exact absurd rfl (hne2 p)
      | mp p => exact absurd rfl (hne3 p)
      | _ => rfl
    rw [jdM, jdN] at h
    refine ⟨fun cx E h' a w e S => ?_⟩
    obtain ⟨h1, _, S1, _⟩ := S.publish hc hl
    exact h.out cx E h1 a w e S1
end Go.V
end
section
namespace Go.V
open Go Go.RowKit
abbrev tk (l:List Nat)(p:Plan):Plan:=l.foldr Plan.take p
abbrev e1 (j:Nat)(q:List Nat)(p:Plan):Plan := .ev (.cons j q p .nil)
theorem pok {P:Program}{all:List Oper}{ns:List Nd}{p:Plan}(a:P.follows .mixedOrders=true:=by kernel_rfl)(b:textB all=true:=by kernel_rfl)
  (c:planB all (ancs all) ns (List.range all.length) [] p=true:=by kernel_rfl) (d:ns.all (fun nd => !nd.plan.isGo && planB all (ancs all) ns nd.rem nd.pend nd.plan)=true:=by kernel_rfl):PlanOk P all ns p:=⟨a,b,c,d⟩
theorem br {P:Program}{tb:Tb}{inl:Inl}{N off:Nat}{a b:Code}{yl:Yl}{x:Bool}{L:Sl}{H:Hp}{K:K3}
  (h1:x=true→RunC P tb inl N a yl off L H K) (h2:x=false→RunC P tb inl N b yl off L H K):Cnd off x (RunC P tb inl N a yl off L H) (RunC P tb inl N b yl off L H) K:=Cnd.split (CondB.mk h1 h2)
theorem en {P:Program}{tb:Tb}{f:Nat}{fn:Func}{c:Code}{ds:List D}{r:D}(htb:TbOk P tb)(hf:P.funcs[f]? = some fn)(hh:RunF P tb (inlN P tb 6) (fun _ _ _ _ _=>False) fn c ds 0 [] (outK r) noP)
  (hb:fn.body=some c:=by rfl) (hn:(fn.name == "runtime.NumGoroutine")=false:=by rfl) (hl:ds.length≤fn.ntmps:=by exact jg1 rfl):Called P f ds r:=jfl htb 6 ⟨hf,hb,hn,hl⟩ hh
abbrev sl2 (n:Nat)(l:List D):D := .slf 2 n (fun j=>List.take 2 (List.drop (j*2) l))
theorem a2 {A B:Prop}(a:A)(b:B):A∧B:=⟨a,b⟩
theorem a3 {A B C:Prop}(a:A)(b:B)(c:C):A∧B∧C:=⟨a,b,c⟩
theorem a4 {A B C D:Prop}(a:A)(b:B)(c:C)(d:D):A∧B∧C∧D:=⟨a,b,c,d⟩
theorem a5 {A B C D E:Prop}(a:A)(b:B)(c:C)(d:D)(e:E):A∧B∧C∧D∧E:=⟨a,b,c,d,e⟩
theorem a7 {A B C D E F G:Prop}(a:A)(b:B)(c:C)(d:D)(e:E)(f:F)(g:G):A∧B∧C∧D∧E∧F∧G:=⟨a,b,c,d,e,f,g⟩
theorem a8 {A B C D E F G I:Prop}(a:A)(b:B)(c:C)(d:D)(e:E)(f:F)(g:G)(i:I):A∧B∧C∧D∧E∧F∧G∧I:=⟨a,b,c,d,e,f,g,i⟩
theorem r0 {A B Z : Prop} (z : Z)  (k : B) (h : Hold B → Z → A := by
  first
  | (intro k z
     (conv => whnf)
     (try simp only [z])
     repeat ((first | refine V.s1 ?_); (try simp only [z]))
     exact k.out)
  | fail) : A := h ⟨k⟩ z
theorem d0 {A Z : Prop} (z : Z)  (h : Z → A := by
  first
  | (intro z
     (conv => whnf); (try simp only [z])
     repeat' (first | exact V.wk | exact True.intro | ((with_reducible refine And.intro ?_ jaS); (conv => whnf); (try simp only [z])) | ((with_reducible first | refine jaF ?_ ?_ | refine jaP ?_ ?_) <;> (conv => whnf); (try simp only [z])) | ((first | refine V.s1 ?_ | ((with_reducible refine jat ?_ ?_); (focus ((conv => whnf); (try simp only [z]); (repeat ((first | refine V.s1 ?_); (try simp only [z]))); exact ⟨rfl⟩)); (conv => whnf))); (try simp only [z])) | (refine And.intro ?_ ?_ <;> (conv => whnf); (try simp only [z]))))
  | fail) : A := h z
theorem r1 {A B Z C1 : Prop} (z : Z) (c1 : C1) (k : B) (h : Hold B → Z → C1 → A := by
  first
  | (intro k z c1
     (conv => whnf)
     (try simp only [z])
     repeat ((first | refine V.s1 ?_ | ((try ((with_reducible refine .ext ?_); (conv => whnf); (try simp only [z]))); (with_reducible refine jaa (r := ?_) ?_ ?_); rotate_left; (focus (first | exact c1 | (apply c1; done))); (conv => whnf))); (try simp only [z]))
     exact k.out)
  | fail) : A := h ⟨k⟩ z c1
theorem d1 {A Z C1 : Prop} (z : Z) (c1 : C1) (h : Z → C1 → A := by
  first
  | (intro z c1
     (conv => whnf); (try simp only [z])
     repeat' (first | exact V.wk | exact True.intro | ((with_reducible refine And.intro ?_ jaS); (conv => whnf); (try simp only [z])) | ((with_reducible first | refine jaF ?_ ?_ | refine jaP ?_ ?_) <;> (conv => whnf); (try simp only [z])) | ((first | refine V.s1 ?_ | ((with_reducible refine jat ?_ ?_); (focus ((conv => whnf); (try simp only [z]); (repeat ((first | refine V.s1 ?_); (try simp only [z]))); exact ⟨rfl⟩)); (conv => whnf)) | ((try ((with_reducible refine .ext ?_); (conv => whnf); (try simp only [z]))); (with_reducible refine jaa (r := ?_) ?_ ?_); rotate_left; (focus (first | exact c1 | (apply c1; done))); (conv => whnf))); (try simp only [z])) | (refine And.intro ?_ ?_ <;> (conv => whnf); (try simp only [z]))))
  | fail) : A := h z c1
theorem q1 {A B C1 : Prop} (c1 : C1) (k : B) (h : Hold B → C1 → A := by
  first
  | (intro k c1
     repeat ((try ((with_reducible refine .ext ?_); (conv => whnf))); (with_reducible refine jaa (r := ?_) ?_ ?_); rotate_left; (focus (first | exact c1 | (apply c1; done))); (conv => whnf); refine V.st ?_)
     exact k.out)
  | fail) : A := h ⟨k⟩ c1
theorem r2 {A B Z C1 C2 : Prop} (z : Z) (c1 : C1) (c2 : C2) (k : B) (h : Hold B → Z → C1 → C2 → A := by
  first
  | (intro k z c1 c2
     (conv => whnf)
     (try simp only [z])
     repeat ((first | refine V.s1 ?_ | ((try ((with_reducible refine .ext ?_); (conv => whnf); (try simp only [z]))); (with_reducible refine jaa (r := ?_) ?_ ?_); rotate_left; (focus (first | exact c1 | (apply c1; done) | exact c2 | (apply c2; done))); (conv => whnf))); (try simp only [z]))
     exact k.out)
  | fail) : A := h ⟨k⟩ z c1 c2
theorem d2 {A Z C1 C2 : Prop} (z : Z) (c1 : C1) (c2 : C2) (h : Z → C1 → C2 → A := by
  first
  | (intro z c1 c2
     (conv => whnf); (try simp only [z])
     repeat' (first | exact V.wk | exact True.intro | ((with_reducible refine And.intro ?_ jaS); (conv => whnf); (try simp only [z])) | ((with_reducible first | refine jaF ?_ ?_ | refine jaP ?_ ?_) <;> (conv => whnf); (try simp only [z])) | ((first | refine V.s1 ?_ | ((with_reducible refine jat ?_ ?_); (focus ((conv => whnf); (try simp only [z]); (repeat ((first | refine V.s1 ?_); (try simp only [z]))); exact ⟨rfl⟩)); (conv => whnf)) | ((try ((with_reducible refine .ext ?_); (conv => whnf); (try simp only [z]))); (with_reducible refine jaa (r := ?_) ?_ ?_); rotate_left; (focus (first | exact c1 | (apply c1; done) | exact c2 | (apply c2; done))); (conv => whnf))); (try simp only [z])) | (refine And.intro ?_ ?_ <;> (conv => whnf); (try simp only [z]))))
  | fail) : A := h z c1 c2
theorem q2 {A B C1 C2 : Prop} (c1 : C1) (c2 : C2) (k : B) (h : Hold B → C1 → C2 → A := by
  first
  | (intro k c1 c2
     repeat ((try ((with_reducible refine .ext ?_); (conv => whnf))); (with_reducible refine jaa (r := ?_) ?_ ?_); rotate_left; (focus (first | exact c1 | (apply c1; done) | exact c2 | (apply c2; done))); (conv => whnf); refine V.st ?_)
     exact k.out)
  | fail) : A := h ⟨k⟩ c1 c2
theorem r3 {A B Z C1 C2 C3 : Prop} (z : Z) (c1 : C1) (c2 : C2) (c3 : C3) (k : B) (h : Hold B → Z → C1 → C2 → C3 → A := by
  first
  | (intro k z c1 c2 c3
     (conv => whnf)
     (try simp only [z])
     repeat ((first | refine V.s1 ?_ | ((try ((with_reducible refine .ext ?_); (conv => whnf); (try simp only [z]))); (with_reducible refine jaa (r := ?_) ?_ ?_); rotate_left; (focus (first | exact c1 | (apply c1; done) | exact c2 | (apply c2; done) | exact c3 | (apply c3; done))); (conv => whnf))); (try simp only [z]))
     exact k.out)
  | fail) : A := h ⟨k⟩ z c1 c2 c3
theorem d3 {A Z C1 C2 C3 : Prop} (z : Z) (c1 : C1) (c2 : C2) (c3 : C3) (h : Z → C1 → C2 → C3 → A := by
  first
  | (intro z c1 c2 c3
     (conv => whnf); (try simp only [z])
     repeat' (first | exact V.wk | exact True.intro | ((with_reducible refine And.intro ?_ jaS); (conv => whnf); (try simp only [z])) | ((with_reducible first | refine jaF ?_ ?_ | refine jaP ?_ ?_) <;> (conv => whnf); (try simp only [z])) | ((first | refine V.s1 ?_ | ((with_reducible refine jat ?_ ?_); (focus ((conv => whnf); (try simp only [z]); (repeat ((first | refine V.s1 ?_); (try simp only [z]))); exact ⟨rfl⟩)); (conv => whnf)) | ((try ((with_reducible refine .ext ?_); (conv => whnf); (try simp only [z]))); (with_reducible refine jaa (r := ?_) ?_ ?_); rotate_left; (focus (first | exact c1 | (apply c1; done) | exact c2 | (apply c2; done) | exact c3 | (apply c3; done))); (conv => whnf))); (try simp only [z])) | (refine And.intro ?_ ?_ <;> (conv => whnf); (try simp only [z]))))
  | fail) : A := h z c1 c2 c3
theorem q3 {A B C1 C2 C3 : Prop} (c1 : C1) (c2 : C2) (c3 : C3) (k : B) (h : Hold B → C1 → C2 → C3 → A := by
  first
  | (intro k c1 c2 c3
     repeat ((try ((with_reducible refine .ext ?_); (conv => whnf))); (with_reducible refine jaa (r := ?_) ?_ ?_); rotate_left; (focus (first | exact c1 | (apply c1; done) | exact c2 | (apply c2; done) | exact c3 | (apply c3; done))); (conv => whnf); refine V.st ?_)
     exact k.out)
  | fail) : A := h ⟨k⟩ c1 c2 c3
theorem r4 {A B Z C1 C2 C3 C4 : Prop} (z : Z) (c1 : C1) (c2 : C2) (c3 : C3) (c4 : C4) (k : B) (h : Hold B → Z → C1 → C2 → C3 → C4 → A := by
  first
  | (intro k z c1 c2 c3 c4
     (conv => whnf)
     (try simp only [z])
     repeat ((first | refine V.s1 ?_ | ((try ((with_reducible refine .ext ?_); (conv => whnf); (try simp only [z]))); (with_reducible refine jaa (r := ?_) ?_ ?_); rotate_left; (focus (first | exact c1 | (apply c1; done) | exact c2 | (apply c2; done) | exact c3 | (apply c3; done) | exact c4 | (apply c4; done))); (conv => whnf))); (try simp only [z]))
     exact k.out)
  | fail) : A := h ⟨k⟩ z c1 c2 c3 c4
theorem d4 {A Z C1 C2 C3 C4 : Prop} (z : Z) (c1 : C1) (c2 : C2) (c3 : C3) (c4 : C4) (h : Z → C1 → C2 → C3 → C4 → A := by
  first
  | (intro z c1 c2 c3 c4
     (conv => whnf); (try simp only [z])
     repeat' (first | exact V.wk | exact True.intro | ((with_reducible refine And.intro ?_ jaS); (conv => whnf); (try simp only [z])) | ((with_reducible first | refine jaF ?_ ?_ | refine jaP ?_ ?_) <;> (conv => whnf); (try simp only [z])) | ((first | refine V.s1 ?_ | ((with_reducible refine jat ?_ ?_); (focus ((conv => whnf); (try simp only [z]); (repeat ((first | refine V.s1 ?_); (try simp only [z]))); exact ⟨rfl⟩)); (conv => whnf)) | ((try ((with_reducible refine .ext ?_); (conv => whnf); (try simp only [z]))); (with_reducible refine jaa (r := ?_) ?_ ?_); rotate_left; (focus (first | exact c1 | (apply c1; done) | exact c2 | (apply c2; done) | exact c3 | (apply c3; done) | exact c4 | (apply c4; done))); (conv => whnf))); (try simp only [z])) | (refine And.intro ?_ ?_ <;> (conv => whnf); (try simp only [z]))))
  | fail) : A := h z c1 c2 c3 c4
theorem r5 {A B Z C1 C2 C3 C4 C5 : Prop} (z : Z) (c1 : C1) (c2 : C2) (c3 : C3) (c4 : C4) (c5 : C5) (k : B) (h : Hold B → Z → C1 → C2 → C3 → C4 → C5 → A := by
  first
  | (intro k z c1 c2 c3 c4 c5
     (conv => whnf)
     (try simp only [z])
     repeat ((first | refine V.s1 ?_ | ((try ((with_reducible refine .ext ?_); (conv => whnf); (try simp only [z]))); (with_reducible refine jaa (r := ?_) ?_ ?_); rotate_left; (focus (first | exact c1 | (apply c1; done) | exact c2 | (apply c2; done) | exact c3 | (apply c3; done) | exact c4 | (apply c4; done) | exact c5 | (apply c5; done))); (conv => whnf))); (try simp only [z]))
     exact k.out)
  | fail) : A := h ⟨k⟩ z c1 c2 c3 c4 c5
theorem r6 {A B Z C1 C2 C3 C4 C5 C6 : Prop} (z : Z) (c1 : C1) (c2 : C2) (c3 : C3) (c4 : C4) (c5 : C5) (c6 : C6) (k : B) (h : Hold B → Z → C1 → C2 → C3 → C4 → C5 → C6 → A := by
  first
  | (intro k z c1 c2 c3 c4 c5 c6
     (conv => whnf)
     (try simp only [z])
     repeat ((first | refine V.s1 ?_ | ((try ((with_reducible refine .ext ?_); (conv => whnf); (try simp only [z]))); (with_reducible refine jaa (r := ?_) ?_ ?_); rotate_left; (focus (first | exact c1 | (apply c1; done) | exact c2 | (apply c2; done) | exact c3 | (apply c3; done) | exact c4 | (apply c4; done) | exact c5 | (apply c5; done) | exact c6 | (apply c6; done))); (conv => whnf))); (try simp only [z]))
     exact k.out)
  | fail) : A := h ⟨k⟩ z c1 c2 c3 c4 c5 c6
theorem r7 {A B Z C1 C2 C3 C4 C5 C6 C7 : Prop} (z : Z) (c1 : C1) (c2 : C2) (c3 : C3) (c4 : C4) (c5 : C5) (c6 : C6) (c7 : C7) (k : B) (h : Hold B → Z → C1 → C2 → C3 → C4 → C5 → C6 → C7 → A := by
  first
  | (intro k z c1 c2 c3 c4 c5 c6 c7
     (conv => whnf)
     (try simp only [z])
     repeat ((first | refine V.s1 ?_ | ((try ((with_reducible refine .ext ?_); (conv => whnf); (try simp only [z]))); (with_reducible refine jaa (r := ?_) ?_ ?_); rotate_left; (focus (first | exact c1 | (apply c1; done) | exact c2 | (apply c2; done) | exact c3 | (apply c3; done) | exact c4 | (apply c4; done) | exact c5 | (apply c5; done) | exact c6 | (apply c6; done) | exact c7 | (apply c7; done))); (conv => whnf))); (try simp only [z]))
     exact k.out)
  | fail) : A := h ⟨k⟩ z c1 c2 c3 c4 c5 c6 c7
theorem r8 {A B Z C1 C2 C3 C4 C5 C6 C7 C8 : Prop} (z : Z) (c1 : C1) (c2 : C2) (c3 : C3) (c4 : C4) (c5 : C5) (c6 : C6) (c7 : C7) (c8 : C8) (k : B) (h : Hold B → Z → C1 → C2 → C3 → C4 → C5 → C6 → C7 → C8 → A := by
  first
  | (intro k z c1 c2 c3 c4 c5 c6 c7 c8
     (conv => whnf)
     (try simp only [z])
     repeat ((first | refine V.s1 ?_ | ((try ((with_reducible refine .ext ?_); (conv => whnf); (try simp only [z]))); (with_reducible refine jaa (r := ?_) ?_ ?_); rotate_left; (focus (first | exact c1 | (apply c1; done) | exact c2 | (apply c2; done) | exact c3 | (apply c3; done) | exact c4 | (apply c4; done) | exact c5 | (apply c5; done) | exact c6 | (apply c6; done) | exact c7 | (apply c7; done) | exact c8 | (apply c8; done))); (conv => whnf))); (try simp only [z]))
     exact k.out)
  | fail) : A := h ⟨k⟩ z c1 c2 c3 c4 c5 c6 c7 c8
end Go.V
end
section
open Go Go.RowKit
namespace Go.V
def pubOf (w:World):Pub:=fun b o=>w.cell? ⟨b,o,none⟩
theorem jeo (w:World)(hg:GlW w):Agree (pubOf w) w:=⟨fun _ _ _ e=>e,fun g vs h i v hv=>by
 obtain⟨_,T,f,h2⟩:=hg.1 g vs h
 unfold pubOf
 rw[cell_of_row w g i _ T f h2]
 simpa using hv,hg,fun g h=>by
 obtain⟨tp,p,T,f,h2⟩:=hg.2 g h
 exact⟨.iface tp p,by unfold pubOf;rw[cell_of_row w g 0 _ T f h2];rfl⟩⟩
theorem Called.walk {P:Program}{f:Nat}{ds:List D}(c:Called P f ds (.bool true))(w:World){vs:List Value}(hd:DenL Env.dummy (pubOf w) ds vs)(hg:GlW w:=by first|exact⟨fun _ _ h=>absurd h List.not_mem_nil,fun _ h=>absurd h List.not_mem_nil⟩|fail) :
  Calls P f vs.toArray w fun e w'=>e = .returned (.bool true)∧Below w.heap.size w w':=by
 refine(c.call (pubOf w) w vs (jeo w hg) hd).mono fun e w' ⟨v,h',he,hv,_,_,hb,_⟩=>?_
 simp only[Den] at hv
 subst hv
 exact⟨he,hb⟩
end Go.V
end
section
open Go Go.RowKit
namespace Go.V
inductive L0 where
  | bool
  | int (k : IntKind)
  | str
def l0Ok:L0→Value→Prop
 | .bool,v => ∃ b,v = .bool b
 | .int k,v => ∃ n,v = .int k n∧InR k n
 | .str,v => ∃ s:List UInt8,v = .string ⟨s.toArray⟩∧s.length≤281474976710656
def l0sOk:List L0→List Value→Prop
 | [],vs=>vs=[]
 | l::ls,vs => ∃ v vs',vs=v::vs'∧l0Ok l v∧l0sOk ls vs'
def l0D:L0→D→Prop
 | .bool,d => ∃ b,d = .bool b
 | .int k,d => ∃ n,d = .int k n∧InR k n
 | .str,d => ∃ s:List UInt8,d = .str s∧s.length≤281474976710656
def l0sD:List L0→List D→Prop
 | [],ds=>ds=[]
 | l::ls,ds => ∃ d ds',ds=d::ds'∧l0D l d∧l0sD ls ds'
theorem l0s_den {h:Pub} : ∀ {ls:List L0} {vs:List Value},l0sOk ls vs → ∃ ds,DenL Env.dummy h ds vs∧l0sD ls ds∧(∀ v∈vs,v.oneCell'=true)∧vs.length=ls.length
 | [],vs,H=>⟨[],by simp only[l0sOk] at H;subst H;exact⟨rfl,rfl,fun v hv=>by simp at hv,rfl⟩⟩
 | l::ls,vs,⟨v,vs',e,h1,h2⟩=>by
  subst e
  obtain⟨ds,k1,k2,k3,k4⟩:=l0s_den h2
  have:∃ d,Den Env.dummy h d v∧l0D l d∧v.oneCell'=true:=by
   cases l with
   | bool=>obtain⟨b,rfl⟩:=h1;exact⟨.bool b,rfl,⟨b,rfl⟩,rfl⟩
   | int k=>obtain⟨n,rfl,hn⟩:=h1;exact⟨.int k n,⟨rfl,hn⟩,⟨n,rfl,hn⟩,rfl⟩
   | str=>obtain⟨s,rfl,hs⟩:=h1;exact⟨.str s,⟨rfl,hs⟩,⟨s,rfl,hs⟩,rfl⟩
  obtain⟨d,j1,j2,j3⟩:=this
  exact⟨d::ds,⟨v,vs',rfl,j1,k1⟩,⟨d,ds,rfl,j2,k2⟩,fun u hu=>by
   rcases jhH.1 hu with rfl|hu
   ·exact j3
   ·exact k3 u hu,by simp[k4]⟩
inductive Lf where
  | bool
  | int (k : IntKind)
  | ints (k : IntKind)
  | str
  | recs (ls : List L0)
def leafOk (w:World):Lf→Value→Prop
 | .bool,v => ∃ b,v = .bool b
 | .int k,v => ∃ n,v = .int k n∧InR k n
 | .ints k,v => ∃ zs,jaD (pubOf w) k zs v
 | .str,v => ∃ s:List UInt8,v = .string ⟨s.toArray⟩∧s.length≤281474976710656
 | .recs ls,v => ∃ n f,Den Env.dummy (pubOf w) (.slf ls.length n f) v∧n≤140737488355328 ∧ ∀ j,j<n→l0sD ls (f j)
def Lf.l0:Lf→Option L0
 | .bool=>some .bool
 | .int k=>some (.int k)
 | .str=>some .str
 | _=>none
def lf0s:List Lf→Option (List L0)
 | []=>some []
 | l::ls=>match l.l0,lf0s ls with|some x,some xs=>some (x::xs)|_,_=>none
def leavesOk (w:World):List Lf→List Value→Prop
 | [],vs=>vs=[]
 | l::ls,vs => ∃ v vs',vs=v::vs'∧leafOk w l v∧leavesOk w ls vs'
theorem leavesOk.app {w:World} : ∀ {a b:List Lf} {xs ys:List Value},leavesOk w a xs→leavesOk w b ys→leavesOk w (a++b) (xs++ys)
 | [],_,_,_,h,k=>by simp only[leavesOk] at h;subst h;exact k
 | _::a,b,_,ys,⟨v,vs',rfl,h1,h2⟩,k=>⟨v,vs'++ys,rfl,h1,leavesOk.app h2 k⟩
theorem l0s_of {w:World} : ∀ {ls:List Lf} {l0:List L0} {vs:List Value},lf0s ls=some l0→leavesOk w ls vs→l0sOk l0 vs
 | [],l0,vs,h,H=>by cases h;exact H
 | l::ls,l0,vs,h,⟨v,vs',e,h1,h2⟩=>by
  unfold lf0s at h
  split at h
  ·rename_i x xs e1 e2
   cases h
   refine⟨v,vs',e,?_,l0s_of e2 h2⟩
   cases l<;>cases e1<;>exact h1
  ·cases h
def rep (l:List Lf):Nat→List Lf
 | 0=>[]
 | n+1=>l++rep l n
def jcf (P:Program)(g:TypeId→Option (List Lf)):List Field→Nat→Option (List Lf)
 | [],_=>some []
 | fd::fds,off=>if fd.offset=off then (g fd.type).bind fun l=>if P.cellsOf fd.type=l.length then (jcf P g fds (off+l.length)).map (l ++ ·) else none else none
def leaf0 (P:Program)(t:TypeId):Option (List Lf):=match P.underlying t with
 | some .bool=>some [.bool]
 | some (.int k)=>some [.int k]
 | some .string=>some [.str]
 | _=>none
def leaves (P:Program):Nat→TypeId→Option (List Lf)
 | 0,_=>none
 | f+1,t=>match P.underlying t with
  | some .bool=>some [.bool]
  | some (.int k)=>some [.int k]
  | some .string=>some [.str]
  | some (.slice e)=>match P.underlying e with
   | some (.int k)=>if P.cellsOf e=1∧1≤P.bytesOf e then some [.ints k] else none
   | some (.struct fs)=>match jcf P (leaf0 P) fs.toList 0 with
    | some l=>match lf0s l with
     | some l0=>if P.cellsOf e=l.length∧1≤P.bytesOf e then some [.recs l0] else none
     | none=>none
    | none=>none
   | _=>none
  | some (.struct fs)=>(jcf P (leaves P f) fs.toList 0).bind fun l=>if P.cellsOf t=l.length then some l else none
  | some (.array n e)=>(leaves P f e).bind fun l=>if P.cellsOf e=l.length∧P.cellsOf t=(rep l n).length then some (rep l n) else none
  | _=>none
def jep (v:Value):Prop := ∀ a len cap,v = .slice (some a) len cap→a.spot=none
theorem jcA {P : Program} {w : World} {r : Reach} {base : Nat} {t : TypeId} {v : Value} (h : Cell.okWide P w r base t v) : jep v := by
  intro a len cap e
  subst e
  unfold Cell.okWide at h
  split at h
  all_goals first
    | (rename_i h1; simp at h1; done)
    | skip
  unfold Cell.ok at h
  split at h <;> simp_all [World.has]
theorem spotOk_of {P : Program} {w : World} {r : Reach} {base : Nat} {t : TypeId} {v : Value} (h : Value.okWide P w r base t v) : ∀ c ∈ v.cells.toList, jep c := by
  unfold Value.okWide at h
  split at h
  · obtain ⟨cs, rfl, _, ts, _, _, h3⟩ := h
    intro c hc
    obtain ⟨i, hi, rfl⟩ := List.mem_iff_getElem.1 hc
    obtain ⟨u, _, hu⟩ := h3 i _ (by simp only [Value.cells] at hi ⊢; exact Array.getElem?_eq_getElem (by simpa using hi))
    exact jcA hu
  · obtain ⟨cs, rfl, _, ts, _, _, h3⟩ := h
    intro c hc
    obtain ⟨i, hi, rfl⟩ := List.mem_iff_getElem.1 hc
    obtain ⟨u, _, hu⟩ := h3 i _ (by simp only [Value.cells] at hi ⊢; exact Array.getElem?_eq_getElem (by simpa using hi))
    exact jcA hu
  · intro c hc
    have : c = v ∨ ∃ cs, v = .agg cs := by
      cases v <;> simp_all [Value.cells]
    rcases this with rfl | ⟨cs, rfl⟩
    · exact jcA h
    · exfalso
      unfold Cell.okWide at h
      split at h
      all_goals first
        | (rename_i h1; simp at h1; done)
        | skip
      unfold Cell.ok at h
      split at h <;> simp_all
section
variable {H : Type} {enc : TypeId × Value → H} {P : Program} {w : World} {base : Nat} {spare : Nat → Bool} {held : Bool}
theorem inR_wf {k:IntKind}{n:Int}(h:(Lit.int k n).wf=true):InR k n:=by
 cases k<;>simp[Lit.wf,IntKind.min,IntKind.max,IntKind.signed,IntKind.bits] at h<;>simp[InR,lo,hi]<;>omega
theorem leaf_ints {t e:TypeId}{k:IntKind}{fuel:Nat}{cs:List Value}{x:DataW H×List MemPlace}(ht:P.underlying t=some (.slice e))(he:P.underlying e=some (.int k))(hc:P.cellsOf e=1)(hb:1≤P.bytesOf e)
  (h:DataW.trod enc P w base spare held fuel t cs=some x) (hz:(x.1.weights P t).all (· ≤ reachBytes)=true) (hs:∀ v∈cs,jep v):leavesOk w [.ints k] cs:=by
 rcases Go.ChangeShapes.open_ints ht he hc h with⟨rfl,_⟩|⟨a,len,cap,zs,rfl,_,hl,hm,hzl,rfl,hcell,hwf⟩
 ·exact⟨_,[],rfl,⟨[],none,0,rfl,jhb _,by decide,by simp,rfl,rfl⟩,rfl⟩
 ·have hsp:a.spot=none:=hs _ (by simp) a len cap rfl
  have hlz:len≤zs.length:=by rw[hzl];split<;>omega
  have hw:zs.length≤reachBytes:=by
   simp only[DataW.weights,ht,List.all_cons,jg0,decide_eq_true_eq,ChangeShapes.lits,List.length_map,jhL,jhV] at hz
   have h1:=hz.1
   have e1:min len zs.length+(zs.length-len)=zs.length:=by omega
   rw[e1] at h1
   exact jhc (Nat.le_mul_of_pos_right _ hb) h1
  have hr:reachBytes≤281474976710656:=by decide
  have htl:(zs.take len).length=len:=by rw[jhL];omega
  refine⟨_,[],rfl,⟨zs.take len,some a,cap,by rw[htl],by omega,by omega,fun n hn=>inR_wf (hwf n (jhQ hn)),hsp,fun i n hi=>?_⟩,rfl⟩
  have hi2:i<len:=by
   have:=(jhO.1 hi).1
   omega
  have hg:zs[i]? = some n:=by rw[← hi,List.getElem?_take_of_lt hi2]
  have:=hcell i (by omega)
  rw[jhF,hg] at this
  have ea:a.add i=⟨a.block,a.off+i,none⟩:=by
   obtain⟨b,o,s⟩:=a
   subst hsp
   unfold Addr.add
   split
   ·rename_i h0
    subst h0
    rfl
   ·rfl
  rw[ea] at this
  exact this
theorem jeI {g:TypeId→Option (List Lf)}{n:Nat}{cs:List Value}{S:Value→Prop}
  (ih:∀ (t:TypeId) (ls:List Lf) (cs:List Value) (x:DataW H×List MemPlace),g t=some ls→DataW.trod enc P w base spare held n t cs=some x→(x.1.weights P t).all (· ≤ reachBytes)=true→(∀ v∈cs,S v)→leavesOk w ls cs)
  (hs:∀ v∈cs,S v) :
  ∀ (fds:List Field) (off:Nat) (ls:List Lf) (xs:List (DataW H×List MemPlace)),jcf P g fds off=some ls→xs.length=fds.length →
   (∀ (i:Nat) (f:Field),fds[i]? = some f→DataW.trod enc P w base spare held n f.type ((cs.drop f.offset).take (P.cellsOf f.type))=xs[i]?) →
   (DataW.weightsEach P (fds.map (·.type)) (xs.map (·.1))).all (· ≤ reachBytes)=true→leavesOk w ls ((cs.drop off).take ls.length):=by
 intro fds
 induction fds with
 | nil=>
  intro off ls xs h _ _ _
  simp only[jcf,Option.some.injEq] at h
  subst h
  rfl
 | cons fd fds ihf=>
  intro off ls xs h hl hx hz
  cases xs with
  | nil=>simp at hl
  | cons x xs=>
   simp only[jcf] at h
   split at h
   case isFalse=>cases h
   case isTrue ho=>
    cases hg:g fd.type with
    | none=>rw[hg] at h;cases h
    | some l=>
     rw[hg] at h
     simp only[Option.bind_some] at h
     split at h
     case isFalse=>cases h
     case isTrue hc=>
      obtain⟨r,hr,rfl⟩:=Option.map_eq_some_iff.1 h
      simp only[List.map_cons,DataW.weightsEach,List.all_append,jg0] at hz
      have h1:=ih _ _ _ _ hg (hx 0 fd rfl) hz.1 (fun v hv=>hs v (jhP (jhQ hv)))
      have h2:=ihf (off+l.length) r xs hr (by simpa using hl) (fun i f hf=>hx (i+1) f hf) hz.2
      rw[hc,ho] at h1
      rw[jhK,List.take_add,List.drop_drop]
      exact h1.app h2
theorem leaf0_ok {n:Nat}{t:TypeId}{ls:List Lf}{cs:List Value}{x:DataW H×List MemPlace}(h:leaf0 P t=some ls)(hd:DataW.trod enc P w base spare held n t cs=some x)
  (hz:(x.1.weights P t).all (· ≤ reachBytes)=true):leavesOk w ls cs:=by
 unfold leaf0 at h
 split at h
 ·rename_i ht
  cases h
  obtain⟨b,rfl,_⟩:=DataW.trod_bool ht hd
  exact⟨_,[],rfl,⟨b,rfl⟩,rfl⟩
 ·rename_i k ht
  cases h
  obtain⟨n,rfl,_,hwf⟩:=DataW.trod_int ht hd
  exact⟨_,[],rfl,⟨n,rfl,inR_wf hwf⟩,rfl⟩
 ·rename_i ht
  cases h
  obtain⟨s,rfl,hx,hwf⟩:=DataW.trod_string ht hd
  subst hx
  have hr:reachBytes≤281474976710656:=by decide
  refine⟨_,[],rfl,⟨s.data.toList,rfl,?_⟩,rfl⟩
  simp only[DataW.weights,ht,List.all_cons,List.all_nil,Bool.and_true,decide_eq_true_eq] at hz
  omega
 ·cases h
theorem jcH {e:TypeId} : ∀ {l:List (DataW H)} {i:Nat} {y:DataW H},(DataW.weightsAll P e l).all (· ≤ reachBytes)=true→l[i]? = some y→(y.weights P e).all (· ≤ reachBytes)=true
 | [],_,_,_,h=>by simp at h
 | x::l,0,y,hz,h=>by
  simp only[DataW.weightsAll,List.all_append,jg0] at hz
  simp at h;subst h;exact hz.1
 | x::l,i+1,y,hz,h=>by
  simp only[DataW.weightsAll,List.all_append,jg0] at hz
  exact jcH hz.2 (by simpa using h)
theorem leaf_recs {t e:TypeId}{fs:Array Field}{l:List Lf}{l0:List L0}{fuel:Nat}{cs:List Value}{x:DataW H×List MemPlace}(ht:P.underlying t=some (.slice e))(he:P.underlying e=some (.struct fs))
  (hl:jcf P (leaf0 P) fs.toList 0=some l) (h0:lf0s l=some l0) (hc:P.cellsOf e=l.length) (hb:1≤P.bytesOf e)
  (h:DataW.trod enc P w base spare held fuel t cs=some x) (hz:(x.1.weights P t).all (· ≤ reachBytes)=true) (hs:∀ v∈cs,jep v):leavesOk w [.recs l0] cs:=by
 rcases DataW.trod_slice ht h with⟨rfl,_⟩|⟨a,len,cap,elems,rest,n,_,rfl,rfl,_,hle,hm,hlen,hel,_⟩
 ·exact⟨_,[],rfl,⟨0,fun _=>[],⟨none,0,rfl,jhb _,by decide,rfl,rfl⟩,by decide,fun j hj=>absurd hj (Nat.not_lt_zero _)⟩,rfl⟩
 ·have hsp:a.spot=none:=hs _ (by simp) a len cap rfl
  simp only[DataW.weights,ht,List.all_cons,List.all_append,jg0,decide_eq_true_eq,List.length_map] at hz
  have hw:len≤140737488355328:=by
   have h1:=hz.1
   have h2:elems.length+rest.length≤(elems.length+rest.length)*P.bytesOf e:=Nat.le_mul_of_pos_right _ hb
   have hr:reachBytes≤140737488355328:=by decide
   omega
  have hll:l0.length=l.length:=by
   clear hl hc
   induction l generalizing l0 with
   | nil=>cases h0;rfl
   | cons y l ihl=>
    unfold lf0s at h0
    split at h0
    ·rename_i x xs e1 e2
     cases h0
     simp[ihl e2]
    ·cases h0
  have each:∀ j,j<len → ∃ ds:List D,(∃ vs,DenL Env.dummy (pubOf w) ds vs∧vs.length=l0.length∧(∀ v∈vs,v.oneCell'=true) ∧ ∀ (i:Nat) v,vs[i]? = some v→pubOf w a.block (a.off+j*l0.length+i)=some v)∧l0sD l0 ds:=by
   intro j hj
   have hej:=hel j hj
   have hy:elems[j]? = some (elems[j]'(by omega)):=jhI (by omega)
   rw[hy,Option.bind_eq_some_iff] at hej
   obtain⟨cs',hcs,hd⟩:=hej
   obtain⟨_,hcl,hce⟩:=World.cells?_some hcs
   have hwy:=jcH (l:=elems.map (·.1)) (i:=j) hz.2.1 (by rw[List.getElem?_map,hy];rfl)
   obtain⟨xs,m,_,hx,hcl2,hxl,hxf⟩:=DataW.trod_struct he hd
   rw[hx] at hwy
   simp only[DataW.weights,he] at hwy
   have lv:=jeI (P:=P) (enc:=enc) (base:=base) (spare:=spare) (held:=held) (n:=m) (S:=fun _=>True) (fun t ls cs x h1 h2 h3 _=>leaf0_ok h1 h2 h3) (fun _ _=>trivial) fs.toList 0 _ xs hl (by simpa using hxl) (fun i f hf=>hxf i f (by simpa using hf)) hwy
   rw[jhW,jhT (by omega)] at lv
   obtain⟨ds,k1,k2,k3,k4⟩:=l0s_den (h:=pubOf w) (l0s_of h0 lv)
   refine⟨ds,⟨cs',k1,k4,k3,fun i v hv=>?_⟩,k2⟩
   have hi:i<P.cellsOf e:=by
    have:=(jhO.1 hv).1
    omega
   have hcell:=hce i hi
   rw[hv] at hcell
   have ea:(a.add (j*P.cellsOf e)).add i=⟨a.block,a.off+j*l0.length+i,none⟩:=by
    obtain⟨b,o,s⟩:=a
    subst hsp
    rw[hc,← hll]
    unfold Addr.add
    simp only[]
    by_cases hz0:j*l0.length=0
    ·rw[if_pos hz0]
     by_cases hi0:i=0
     ·simp[hz0,hi0]
     ·simp[hz0,hi0]
    ·rw[if_neg hz0]
     by_cases hi0:i=0
     ·simp[hi0]
     ·simp[hi0]
   rw[ea] at hcell
   exact hcell
  classical
  refine⟨_,[],rfl,⟨len,fun j=>if h:j<len then (each j h).choose else [],?_,hw,fun j hj=>?_⟩,rfl⟩
  ·refine⟨some a,cap,rfl,hle,by omega,hsp,fun j hj=>?_⟩
   show ∃ vs,DenL Env.dummy (pubOf w) (if h:j<len then (each j h).choose else []) vs∧_
   rw[dif_pos hj]
   exact(each j hj).choose_spec.1
  ·show l0sD l0 (if h:j<len then (each j h).choose else [])
   rw[dif_pos hj]
   exact(each j hj).choose_spec.2
theorem leavesA_ok {l:List Lf}{e:TypeId}{n:Nat}{cs:List Value}
  (ih:∀ (cs:List Value) (x:DataW H×List MemPlace),DataW.trod enc P w base spare held n e cs=some x→(x.1.weights P e).all (· ≤ reachBytes)=true→(∀ v∈cs,jep v)→leavesOk w l cs)
  (hs:∀ v∈cs,jep v) :
  ∀ (m off:Nat) (xs:List (DataW H×List MemPlace)),xs.length=m →
   (∀ (i:Nat),i<m→DataW.trod enc P w base spare held n e ((cs.drop (off+i*l.length)).take l.length)=xs[i]?) →
   (DataW.weightsAll P e (xs.map (·.1))).all (· ≤ reachBytes)=true→leavesOk w (rep l m) ((cs.drop off).take (rep l m).length):=by
 intro m
 induction m with
 | zero=>intro off xs _ _ _;rfl
 | succ m ihm=>
  intro off xs hl hx hz
  cases xs with
  | nil=>simp at hl
  | cons x xs=>
   simp only[List.map_cons,DataW.weightsAll,List.all_append,jg0] at hz
   have h1:=ih _ _ (hx 0 (by omega)) hz.1 (fun v hv=>hs v (jhP (jhQ hv)))
   have h2:=ihm (off+l.length) xs (by simpa using hl) (fun i hi=>by
    have:=hx (i+1) (by omega)
    rw[jg7,Nat.one_mul,Nat.add_comm (i*l.length),← Nat.add_assoc] at this
    exact this) hz.2
   rw[Nat.zero_mul,jg9] at h1
   rw[rep,jhK,List.take_add,List.drop_drop]
   exact h1.app h2
theorem leaves_ok:∀ (f:Nat) (n:Nat) (t:TypeId) (ls:List Lf) (cs:List Value) (x:DataW H×List MemPlace),leaves P f t=some ls→DataW.trod enc P w base spare held n t cs=some x →
  (x.1.weights P t).all (· ≤ reachBytes)=true→(∀ v∈cs,jep v)→leavesOk w ls cs:=by
 intro f
 induction f with
 | zero=>intro n t ls cs x h;simp[leaves] at h
 | succ f ih=>
  intro n t ls cs x h hd hz hs
  unfold leaves at h
  split at h
  ·rename_i ht
   cases h
   obtain⟨b,rfl,_⟩:=DataW.trod_bool ht hd
   exact⟨_,[],rfl,⟨b,rfl⟩,rfl⟩
  ·rename_i k ht
   cases h
   obtain⟨n,rfl,_,hwf⟩:=DataW.trod_int ht hd
   exact⟨_,[],rfl,⟨n,rfl,inR_wf hwf⟩,rfl⟩
  ·rename_i ht
   cases h
   obtain⟨s,rfl,hx,hwf⟩:=DataW.trod_string ht hd
   subst hx
   have hr:reachBytes≤281474976710656:=by decide
   refine⟨_,[],rfl,⟨s.data.toList,rfl,?_⟩,rfl⟩
   simp only[DataW.weights,ht,List.all_cons,List.all_nil,Bool.and_true,decide_eq_true_eq] at hz
   omega
  ·rename_i e ht
   split at h
   ·rename_i k he
    split at h
    ·rename_i hc
     cases h
     exact leaf_ints ht he hc.1 hc.2 hd hz hs
    ·cases h
   ·rename_i fs he
    split at h
    ·rename_i l hl
     split at h
     ·rename_i l0 h0
      split at h
      ·rename_i hc
       cases h
       exact leaf_recs ht he hl h0 hc.1 hc.2 hd hz hs
      ·cases h
     ·cases h
    ·cases h
   ·cases h
  ·rename_i fs ht
   cases hg:jcf P (leaves P f) fs.toList 0 with
   | none=>rw[hg] at h;cases h
   | some l=>
    rw[hg] at h
    simp only[Option.bind_some] at h
    split at h
    case isFalse=>cases h
    case isTrue hc=>
     cases h
     obtain⟨xs,m,_,rfl,hcl,hxl,hx⟩:=DataW.trod_struct ht hd
     simp only[DataW.weights,ht] at hz
     have:=jeI (P:=P) (enc:=enc) (base:=base) (spare:=spare) (held:=held) (n:=m) (fun t ls cs x h1 h2 h3 h4=>ih m t ls cs x h1 h2 h3 h4) hs fs.toList 0 _ xs hg (by simpa using hxl) (fun i f hf=>hx i f (by simpa using hf)) hz
     rw[jhW,jhT (by omega)] at this
     exact this
  ·rename_i m e ht
   cases hg:leaves P f e with
   | none=>rw[hg] at h;cases h
   | some l=>
    rw[hg] at h
    simp only[Option.bind_some] at h
    split at h
    case isFalse=>cases h
    case isTrue hc=>
     cases h
     obtain⟨xs,m',_,rfl,hcl,hxl,hx⟩:=DataW.trod_array ht hd
     simp only[DataW.weights,ht] at hz
     have:=leavesA_ok (P:=P) (enc:=enc) (base:=base) (spare:=spare) (held:=held) (n:=m') (fun cs x h2 h3 h4=>ih m' e l cs x hg h2 h3 h4) hs m 0 xs hxl (fun i hi=>by
      have:=hx i hi
      rw[hc.1] at this
      rw[jg8]
      exact this) hz
     rw[jhW,jhT (by omega)] at this
     exact this
  ·cases h
theorem read_arg {r:Reach}{b0 f:Nat}{t:TypeId}{v:Value}{d:DataW H}{ps:List MemPlace}{ls:List Lf}(hl:leaves P f t=some ls)(hv:Value.okWide P w r b0 t v)(hd:DataW.Trod enc P w base spare held t v d ps)
  (hz:(d.weights P t).all (· ≤ reachBytes)=true):leavesOk w ls v.cells.toList:=by
 obtain⟨n,hn⟩:=hd
 exact leaves_ok f n t ls _ _ hl hn hz (spotOk_of hv)
end
def jA (P:Program)(f:FuncId)(fn:Func)(s:ChangeSpec)(c:OpenClaim):Bool:=c.wf (OpenSpec.ofChange s) && laidOutB P && mapsRowed P && fn.params.all (P.readableRec ·) && namedTie P c.named s.vars && (c.stops == []) && (P.stops == []) && (c.knobs == []) && (P.stopKnobs == [])
def jB (P:Program)(f:FuncId)(fn:Func)(s:ChangeSpec)(c:OpenClaim):Bool:=(c.inPlace == P.inPlace f)
def jC (P:Program)(f:FuncId)(fn:Func)(s:ChangeSpec)(c:OpenClaim):Bool:=(c.unfollowed == P.unfollowed f)
def jD (P:Program)(f:FuncId)(fn:Func)(s:ChangeSpec)(c:OpenClaim):Bool:=(c.recurses == P.recurses f)
def jE (P:Program)(f:FuncId)(fn:Func)(s:ChangeSpec)(c:OpenClaim):Bool:=(c.named == P.varsNamed f)
def jF (P:Program)(f:FuncId)(fn:Func)(s:ChangeSpec)(c:OpenClaim):Bool:=(c.maps == (fn.params.toList++s.plain.varTypes P).any (P.mapsRec ·)) && (c.ifaces == (fn.params.toList++s.plain.varTypes P).any (P.ifacesRec ·)) && (c.mapsOut == P.mapsAmong fn.resultTypes.toList) && (c.loops == (fn.params.toList++s.plain.varTypes P).any (P.loopsFrom ·)) && (c.wideKeys == (fn.params.toList++s.plain.varTypes P++fn.resultTypes.toList).any (P.wideKeysFrom ·)) && s.vars.all (P.varReadable ·) && fn.resultTypes.all (fun t=>P.readableRec t && decide (t<P.types.size)) && (c.ifacesOut == fn.resultTypes.toList.any (P.ifacesRec ·)) && (c.loopsOut == fn.resultTypes.toList.any (P.loopsFrom ·)) && (c.plainKeys == P.plainKeys) && c.shortTexts.isNone && P.stopsHeard && P.mayEnter
def jG (P:Program)(f:FuncId)(fn:Func)(s:ChangeSpec)(c:OpenClaim):Bool:=(c.lifted == P.liftsFinal)
def jH (P:Program)(f:FuncId)(fn:Func)(s:ChangeSpec)(c:OpenClaim):Bool:=(P.make == some c.make)
def jI (P:Program)(f:FuncId)(fn:Func)(s:ChangeSpec)(c:OpenClaim):Bool:=(c.kinds == (if c.domain.isEmpty then [] else fn.params.toList.map fun t=>match P.underlying t with|some (.int k)=>some k|_=>none)) && (c.pinned == c.pinnedBy) && (c.veiled == (fn.params.toList++s.plain.varTypes P++fn.resultTypes.toList).any (P.veiledRec ·)) && c.veiledFits P fn.params.toList (fn.params.toList++s.plain.varTypes P++fn.resultTypes.toList)
theorem joined_of {P:Program}{f:FuncId}{fn:Func}{s:ChangeSpec}{c:OpenClaim}(ha:jA P f fn s c=true)(hb:jB P f fn s c=true)(hc:jC P f fn s c=true)(hd:jD P f fn s c=true)(he:jE P f fn s c=true)(hf:jF P f fn s c=true)(hg:jG P f fn s c=true)(hh:jH P f fn s c=true)(hi:jI P f fn s c=true):joinedFacts P f fn s c=true:=by
 unfold jA jB jC jD jE jF jG jH jI at *
 simp only[jg0] at *
 obtain⟨⟨⟨⟨⟨⟨⟨⟨k0,k1⟩,k2⟩,k3⟩,k4⟩,k5⟩,k6⟩,k7⟩,k8⟩:=ha
 have k9:=hb
 have k10:=hc
 have k11:=hd
 have k12:=he
 obtain⟨⟨⟨⟨⟨⟨⟨⟨⟨⟨⟨⟨k13,k14⟩,k15⟩,k16⟩,k17⟩,k18⟩,k19⟩,k20⟩,k21⟩,k22⟩,k23⟩,k24⟩,k25⟩:=hf
 have k26:=hg
 have k27:=hh
 obtain⟨⟨⟨k28,k29⟩,k30⟩,k31⟩:=hi
 unfold joinedFacts
 simp only[jg0]
 exact⟨⟨⟨⟨⟨⟨⟨⟨⟨⟨⟨⟨⟨⟨⟨⟨⟨⟨⟨⟨⟨⟨⟨⟨⟨⟨⟨⟨⟨⟨⟨k0,k1⟩,k2⟩,k3⟩,k4⟩,k5⟩,k6⟩,k7⟩,k8⟩,k9⟩,k10⟩,k11⟩,k12⟩,k13⟩,k14⟩,k15⟩,k16⟩,k17⟩,k18⟩,k19⟩,k20⟩,k21⟩,k22⟩,k23⟩,k24⟩,k25⟩,k26⟩,k27⟩,k28⟩,k29⟩,k30⟩,k31⟩
end Go.V
end
section
namespace Go.Proofs.YtbhpaandigaanaaGreatDoor
open Go Go.V
def tb:V.Tb:=[(2,⟨1,8,.int .i64,[.int .i64 0]⟩),
 (3,⟨1,8,.int .i64,[.int .i64 0]⟩),
 (4,⟨1,1,.bool,[.bool false]⟩),
 (5,⟨1,1,.int .u8,[.int .u8 0]⟩),
 (9,⟨1,16,.str,[.str []]⟩),
 (21,⟨1,4,.int .i32,[.int .i32 0]⟩),
 (22,⟨3,3,.arr 3 5,[.int .u8 0,.int .u8 0,.int .u8 0]⟩),
 (23,⟨1,2,.int .u16,[.int .u16 0]⟩),
 (24,⟨3,6,.arr 3 23,[.int .u16 0,.int .u16 0,.int .u16 0]⟩),
 (25,⟨9,18,.arr 3 24,[.int .u16 0,.int .u16 0,.int .u16 0,.int .u16 0,.int .u16 0,.int .u16 0,.int .u16 0,.int .u16 0,.int .u16 0]⟩),
 (26,⟨1,24,.slice 34,[.nil]⟩),
 (28,⟨13,48,.struct [(0,22),(3,25),(12,26)],[.int .u8 0,.int .u8 0,.int .u8 0,.int .u16 0,.int .u16 0,.int .u16 0,.int .u16 0,.int .u16 0,.int .u16 0,.int .u16 0,.int .u16 0,.int .u16 0,.nil]⟩),
 (29,⟨1,24,.slice 5,[.nil]⟩),
 (30,⟨1,24,.slice 23,[.nil]⟩),
 (32,⟨4,64,.struct [(0,29),(1,5),(2,30),(3,4)],[.nil,.int .u8 0,.nil,.bool false]⟩),
 (33,⟨4,4,.arr 4 5,[.int .u8 0,.int .u8 0,.int .u8 0,.int .u8 0]⟩),
 (34,⟨1,2,.int .i16,[.int .i16 0]⟩),
 (35,⟨3,6,.arr 3 34,[.int .i16 0,.int .i16 0,.int .i16 0]⟩),
 (37,⟨1,24,.slice 3,[.nil]⟩),
 (39,⟨3,56,.struct [(0,37),(1,3),(2,37)],[.nil,.int .i64 0,.nil]⟩),
 (41,⟨6,112,.arr 2 39,[.nil,.int .i64 0,.nil,.nil,.int .i64 0,.nil]⟩),
 (43,⟨1,24,.slice 54,[.nil]⟩),
 (44,⟨1,8,.int .i64,[.int .i64 0]⟩),
 (52,⟨1,16,.str,[.str []]⟩),
 (54,⟨2,32,.struct [(0,52),(1,52)],[.str [],.str []]⟩),
 (58,⟨3,24,.arr 3 3,[.int .i64 0,.int .i64 0,.int .i64 0]⟩),
 (62,⟨1,8,.func,[.any]⟩),
 (64,⟨12,96,.arr 4 58,[.int .i64 0,.int .i64 0,.int .i64 0,.int .i64 0,.int .i64 0,.int .i64 0,.int .i64 0,.int .i64 0,.int .i64 0,.int .i64 0,.int .i64 0,.int .i64 0]⟩),
 (66,⟨18,144,.struct [(0,58),(3,58),(6,64)],[.int .i64 0,.int .i64 0,.int .i64 0,.int .i64 0,.int .i64 0,.int .i64 0,.int .i64 0,.int .i64 0,.int .i64 0,.int .i64 0,.int .i64 0,.int .i64 0,.int .i64 0,.int .i64 0,.int .i64 0,.int .i64 0,.int .i64 0,.int .i64 0]⟩),
 (71,⟨6,128,.struct [(0,39),(3,37),(4,37),(5,43)],[.nil,.int .i64 0,.nil,.nil,.nil,.nil]⟩),
 (78,⟨2,32,.struct [(0,4),(1,37)],[.bool false,.nil]⟩),
 (80,⟨4,64,.struct [(0,78),(2,78)],[.bool false,.nil,.bool false,.nil]⟩),
 (87,⟨1,8,.func,[.any]⟩),
 (88,⟨18,144,.arr 6 58,[.int .i64 0,.int .i64 0,.int .i64 0,.int .i64 0,.int .i64 0,.int .i64 0,.int .i64 0,.int .i64 0,.int .i64 0,.int .i64 0,.int .i64 0,.int .i64 0,.int .i64 0,.int .i64 0,.int .i64 0,.int .i64 0,.int .i64 0,.int .i64 0]⟩),
 (90,⟨9,72,.arr 3 58,[.int .i64 0,.int .i64 0,.int .i64 0,.int .i64 0,.int .i64 0,.int .i64 0,.int .i64 0,.int .i64 0,.int .i64 0]⟩),
 (94,⟨1,8,.func,[.any]⟩),
 (95,⟨1,24,.slice 37,[.nil]⟩),
 (97,⟨1,8,.func,[.any]⟩),
 (100,⟨4,32,.arr 4 3,[.int .i64 0,.int .i64 0,.int .i64 0,.int .i64 0]⟩),
 (105,⟨1,8,.func,[.any]⟩),
 (119,⟨1,24,.slice 155,[.nil]⟩),
 (121,⟨2,32,.struct [(0,119),(1,4)],[.nil,.bool false]⟩),
 (123,⟨3,56,.struct [(0,121),(2,119)],[.nil,.bool false,.nil]⟩),
 (129,⟨1,8,.func,[.any]⟩),
 (131,⟨1,8,.func,[.any]⟩),
 (135,⟨1,8,.func,[.any]⟩),
 (155,⟨1,4,.int .u32,[.int .u32 0]⟩),
 (159,⟨1,16,.other,[.any]⟩),
 (164,⟨1,8,.func,[.any]⟩),
 (167,⟨3,56,.struct [(0,39)],[.nil,.int .i64 0,.nil]⟩),
 (168,⟨4,32,.arr 4 3,[.int .i64 0,.int .i64 0,.int .i64 0,.int .i64 0]⟩),
 (183,⟨1,24,.slice 155,[.nil]⟩),
 (185,⟨2,32,.struct [(0,183),(1,4)],[.nil,.bool false]⟩),
 (191,⟨1,8,.int .u64,[.int .u64 0]⟩),
 (206,⟨1,8,.ptr 208,[.any]⟩),
 (208,⟨2,32,.struct [(0,206),(1,29)],[.any,.nil]⟩),
 (218,⟨1,8,.ptr 234,[.any]⟩),
 (221,⟨1,8,.int .u64,[.int .u64 0]⟩),
 (222,⟨1,8,.ptr 5,[.any]⟩),
 (225,⟨24,24,.arr 24 5,[.int .u8 0,.int .u8 0,.int .u8 0,.int .u8 0,.int .u8 0,.int .u8 0,.int .u8 0,.int .u8 0,.int .u8 0,.int .u8 0,.int .u8 0,.int .u8 0,.int .u8 0,.int .u8 0,.int .u8 0,.int .u8 0,.int .u8 0,.int .u8 0,.int .u8 0,.int .u8 0,.int .u8 0,.int .u8 0,.int .u8 0,.int .u8 0]⟩),
 (234,⟨3,48,.struct [(0,9),(1,9),(2,159)],[.str [],.str [],.any]⟩),
 (236,⟨1,8,.other,[.any]⟩),
 (239,⟨20,160,.arr 20 191,[.int .u64 0,.int .u64 0,.int .u64 0,.int .u64 0,.int .u64 0,.int .u64 0,.int .u64 0,.int .u64 0,.int .u64 0,.int .u64 0,.int .u64 0,.int .u64 0,.int .u64 0,.int .u64 0,.int .u64 0,.int .u64 0,.int .u64 0,.int .u64 0,.int .u64 0,.int .u64 0]⟩),
 (240,⟨65,65,.arr 65 5,[.int .u8 0,.int .u8 0,.int .u8 0,.int .u8 0,.int .u8 0,.int .u8 0,.int .u8 0,.int .u8 0,.int .u8 0,.int .u8 0,.int .u8 0,.int .u8 0,.int .u8 0,.int .u8 0,.int .u8 0,.int .u8 0,.int .u8 0,.int .u8 0,.int .u8 0,.int .u8 0,.int .u8 0,.int .u8 0,.int .u8 0,.int .u8 0,.int .u8 0,.int .u8 0,.int .u8 0,.int .u8 0,.int .u8 0,.int .u8 0,.int .u8 0,.int .u8 0,.int .u8 0,.int .u8 0,.int .u8 0,.int .u8 0,.int .u8 0,.int .u8 0,.int .u8 0,.int .u8 0,.int .u8 0,.int .u8 0,.int .u8 0,.int .u8 0,.int .u8 0,.int .u8 0,.int .u8 0,.int .u8 0,.int .u8 0,.int .u8 0,.int .u8 0,.int .u8 0,.int .u8 0,.int .u8 0,.int .u8 0,.int .u8 0,.int .u8 0,.int .u8 0,.int .u8 0,.int .u8 0,.int .u8 0,.int .u8 0,.int .u8 0,.int .u8 0,.int .u8 0]⟩),
 (244,⟨1,8,.ptr 246,[.any]⟩),
 (246,⟨1,16,.struct [(0,9)],[.str []]⟩),
 (248,⟨32,32,.arr 32 5,[.int .u8 0,.int .u8 0,.int .u8 0,.int .u8 0,.int .u8 0,.int .u8 0,.int .u8 0,.int .u8 0,.int .u8 0,.int .u8 0,.int .u8 0,.int .u8 0,.int .u8 0,.int .u8 0,.int .u8 0,.int .u8 0,.int .u8 0,.int .u8 0,.int .u8 0,.int .u8 0,.int .u8 0,.int .u8 0,.int .u8 0,.int .u8 0,.int .u8 0,.int .u8 0,.int .u8 0,.int .u8 0,.int .u8 0,.int .u8 0,.int .u8 0,.int .u8 0]⟩),
 (249,⟨64,64,.arr 64 5,[.int .u8 0,.int .u8 0,.int .u8 0,.int .u8 0,.int .u8 0,.int .u8 0,.int .u8 0,.int .u8 0,.int .u8 0,.int .u8 0,.int .u8 0,.int .u8 0,.int .u8 0,.int .u8 0,.int .u8 0,.int .u8 0,.int .u8 0,.int .u8 0,.int .u8 0,.int .u8 0,.int .u8 0,.int .u8 0,.int .u8 0,.int .u8 0,.int .u8 0,.int .u8 0,.int .u8 0,.int .u8 0,.int .u8 0,.int .u8 0,.int .u8 0,.int .u8 0,.int .u8 0,.int .u8 0,.int .u8 0,.int .u8 0,.int .u8 0,.int .u8 0,.int .u8 0,.int .u8 0,.int .u8 0,.int .u8 0,.int .u8 0,.int .u8 0,.int .u8 0,.int .u8 0,.int .u8 0,.int .u8 0,.int .u8 0,.int .u8 0,.int .u8 0,.int .u8 0,.int .u8 0,.int .u8 0,.int .u8 0,.int .u8 0,.int .u8 0,.int .u8 0,.int .u8 0,.int .u8 0,.int .u8 0,.int .u8 0,.int .u8 0,.int .u8 0]⟩),
 (264,⟨1,8,.func,[.any]⟩)]
theorem tbOk:V.TbOk Tryz.prog tb:=V.tbB_ok (by kernel_rfl)
end Go.Proofs.YtbhpaandigaanaaGreatDoor
end
namespace Go.Proofs.YtbhpaandigaanaaGreatDoor
/-- a call of the program's function number f -/
abbrev Cl := Go.V.Called Tryz.prog
open Go.V
abbrev Pq0z : Plan := (V.tk [0,1,2,3,4,5,6,7,8,9,10,11,12,13,14,15,16,17,18,19,20,21,22,23,24,25,26,27,28,29,30,31,32,33,34,35,36,37,38,39,40,41,42,43,44,45,46,47,48,49] .done)
abbrev Pq1z : Plan := (V.tk [0,1,2,3,4,5,6,7,8,9,10,11,12,13,14,15,16,17,18,19,20,21] .done)
abbrev Pq3z : Plan := (V.tk [0,1,2,3,4,5,6,7,8,9,10,11,12,13,14,15,16] (V.e1 17 [] .done))
abbrev Pq4z : Plan := (V.tk [0,1,2,3,4,5,6,7,8,9,10,11,12,13,14] (.ev (.cons 15 [] (V.tk [16,17,18] (V.e1 19 [18,17,16] (V.e1 20 [18] (V.tk [21] .done)))) (.cons 19 [14,13,12,11,10,9,8,7,6,5,4,3,2,1,0] (V.e1 15 [] (V.tk [16,17,18] (V.e1 20 [18] (V.tk [21] .done)))) .nil))))
abbrev Pq8z : Plan := (V.tk [0,1,2,3,4,5,6,7,8,9,10,11,12,13] (V.e1 14 [] .done))
abbrev Pq10z : Plan := (V.tk [0,1,2,3,4,5,6,7,8,9,10,11,12] (V.e1 13 [] .done))
abbrev Pq11z : Plan := (V.tk [0,1,2,3,4,5,6,7,8,9,10,11] (V.e1 12 [] .done))
abbrev Pq13z : Plan := (V.tk [0,1,2,3,4,5,6,7,8,9,10] (V.e1 11 [3,2,1,0] (V.e1 12 [] (V.tk [13,14] (V.e1 15 [] (V.tk [16] .done))))))
abbrev Pq15z : Plan := (V.tk [0,1,2,3,4,5,6,7,8,9] (V.e1 10 [] .done))
abbrev Pq17z : Plan := (V.tk [0,1,2,3,4,5,6,7,8] (.ev (.cons 9 [] (V.tk [10,11,12,13] (V.e1 14 [13,12,11,10] (V.tk [15] (V.e1 16 [13] (V.tk [17] .done))))) (.cons 14 [8,7,6,5,4,3,2,1,0] (V.e1 9 [] (V.tk [10,11,12,13,15] (V.e1 16 [13] (V.tk [17] .done)))) .nil))))
abbrev Pq19z : Plan := (V.tk [0,1,2,3,4,5,6,7,8] (V.e1 9 [7,5,4,3] (V.tk [10] (V.e1 11 [] .done))))
abbrev Pq20z : Plan := (V.tk [0,1,2,3,4,5,6,7,8] .done)
abbrev Pq21z : Plan := (V.tk [0,1,2,3,4,5,6,7] (V.e1 8 [3,2,1,0] (V.tk [9,10,11,12,13,14,15,16,17,18,19,20,21,22,23,24,25] .done)))
abbrev Pq22z : Plan := (V.tk [0,1,2,3,4,5,6,7] (V.e1 8 [] (V.tk [9,10,11,12,13] .done)))
abbrev Pq29z : Plan := (V.tk [0,1,2,3,4,5] (V.e1 6 [1,0] (V.e1 7 [] (V.e1 8 [] .done))))
abbrev Pq32z : Plan := (V.tk [0,1,2,3,4] (.ev (.cons 5 [] (V.tk [6,7,8] (V.e1 9 [8,7,6] (V.e1 10 [8] (V.tk [11] .done)))) (.cons 9 [4,3,2,1,0] (V.e1 5 [] (V.tk [6,7,8] (V.e1 10 [8] (V.tk [11] .done)))) .nil))))
abbrev Pq35z : Plan := (V.tk [0,1,2,3,5,6] (V.e1 4 [6,5] (V.e1 7 [] (V.e1 8 [] .done))))
abbrev Pq36z : Plan := (V.tk [0,1,2,3] (V.e1 4 [3,2,1,0] (V.e1 5 [] (V.tk [6,7,8,9,10] .done))))
abbrev Pq45z : Plan := (V.tk [0,1,3,4] (.ev (.cons 2 [4,3] (.ev (.cons 5 [] (.ev (.cons 6 [] (V.e1 7 [] (V.e1 8 [] (V.e1 9 [] .done))) (.cons 7 [] (V.e1 6 [] (V.e1 8 [] (V.e1 9 [] .done))) .nil))) (.cons 6 [4,3] (.ev (.cons 5 [] (V.e1 7 [] (V.e1 8 [] (V.e1 9 [] .done))) (.cons 7 [4,3] (V.e1 5 [] (V.e1 8 [] (V.e1 9 [] .done))) .nil))) (.cons 7 [4,3] (.ev (.cons 5 [] (V.e1 6 [] (V.e1 8 [] (V.e1 9 [] .done))) (.cons 6 [4,3] (V.e1 5 [] (V.e1 8 [] (V.e1 9 [] .done))) .nil))) .nil)))) (.cons 6 [4,3,1,0] (.ev (.cons 2 [4,3] (.ev (.cons 5 [] (V.e1 7 [] (V.e1 8 [] (V.e1 9 [] .done))) (.cons 7 [4,3] (V.e1 5 [] (V.e1 8 [] (V.e1 9 [] .done))) .nil))) (.cons 7 [4,3,1,0] (V.e1 2 [4,3] (V.e1 5 [] (V.e1 8 [] (V.e1 9 [] .done)))) .nil))) (.cons 7 [4,3,1,0] (.ev (.cons 2 [4,3] (.ev (.cons 5 [] (V.e1 6 [] (V.e1 8 [] (V.e1 9 [] .done))) (.cons 6 [4,3] (V.e1 5 [] (V.e1 8 [] (V.e1 9 [] .done))) .nil))) (.cons 6 [4,3,1,0] (V.e1 2 [4,3] (V.e1 5 [] (V.e1 8 [] (V.e1 9 [] .done)))) .nil))) .nil)))))
abbrev Pq53z : Plan := (V.tk [0,1] (V.e1 2 [0] (V.tk [3,4] .done)))
abbrev Pq55z : Plan := (V.tk [0,1] (V.e1 2 [1] (V.e1 3 [] .done)))
end Go.Proofs.YtbhpaandigaanaaGreatDoor
