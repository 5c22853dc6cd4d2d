/- Laws of a small interpreter over plain values, part 4. No condition. -/
import Derived.Test.YtbnghipgicmpdaaGreatDoorSimplexBandsH3
import Derived.RecoverIn
import Derived.KernelRfl
import Derived.Carry
import Derived.OpenShut
import Derived.SizedLaws
import Derived.ChangeSlices
import Derived.JoinedOf
set_option linter.unusedSimpArgs false
set_option linter.unusedVariables false
set_option maxHeartbeats 8000000
set_option maxRecDepth 100000
section
namespace Go.V
open Go Go.RowKit
section
variable {P : Program} {tb : Tb} {inl : Inl} {N n : Nat}
theorem imp3 {A B G:Prop}(f:A→B)(a:A)(g:B→G):G:=g (f a)
theorem range_el (hin:InlOk P inl)(hN:N≤n){f:Operand}{ps:Array Nat}{assign body:Code}(hA:jgs P tb inl N n assign)(hB:jgs P tb inl N n body):jgs P tb inl N n (.rangeFunc f ps assign body):=by
 intro cx yl r L H K Q hyl hr hh hQ E h a w hn S
 replace hr:=hr.resolve_left (by simp[noRg])
 simp only[RunC] at hh
 obtain⟨df,hh,hdf⟩:=jat hh
 split at hh
 case h_2=>exact hh.elim
 rename_i g first caps
 split at hh
 case h_2=>exact hh.elim
 split at hh
 case h_2=>exact hh.elim
 rename_i hfree
 rw[jdK,jg9,jda] at hh
 have hf:=hdf E h a trivial (S.facts.rd f)
 simp only[Den,DenL] at hf
 obtain⟨us,vs,hfv,rfl,hv⟩:=hf
 refine wpIn_rangeFunc ?_
 intro fn _
 obtain⟨l,md,w₁,d,hent,hbel,hlw,hl1,hnd,hmd⟩:=enter_el (P:=P) (r:=r) (fun l₀ e=>by obtain⟨r₀,h0⟩:=hr l₀ e;exact⟨r₀,(S.side.objs _ _ h0).2.2⟩) fn a.tmps ps assign body
 obtain⟨rec,hrec⟩:∃ rec:Loop,rec = { state := .ready,pending:=none,fn,tmps:=a.tmps,params:=ps,assign,body,defers:=d } := ⟨_,rfl⟩
 have hrec0:lpRec rec none=rec:=by rw[hrec];rfl
 rw[← hrec] at hl1
 have hB0:cx.w0.heap.size≤w.heap.size:=S.since.below.size
 obtain⟨ms,g0,g1,g2⟩:=S.side.marks
 have hnone:∀ b,w.heap.size≤b→cx.objs b=none:=fun b hb=>by
  cases hc:cx.objs b with
  | none=>rfl
  | some o=>have:=(Array.getElem?_eq_some_iff.1 (S.side.objs b o hc).2.2).1;omega
 -- the state behind the entry
 have hoff:=E.off_setL (cx.off+N) l rec
 obtain⟨E1,hE1⟩:∃ E1,E1=E.setL (cx.off+N) l rec:=⟨_,rfl⟩
 have hE1l:E1.blk (cx.off+N)=l:=by rw[hE1];exact E.setL_blk _ _ _
 have hE1r:E1.real (cx.off+N)=true:=by rw[hE1];exact E.setL_real _ _ _
 have hE1p:E1.lpr (cx.off+N)=some rec:=by rw[hE1];exact E.setL_lpr _ _ _
 rw[← hE1] at hoff
 obtain⟨H0,hH0⟩:∃ H0,H0=jaK (cx.off+N) H:=⟨_,rfl⟩
 rw[← hH0] at hh
 have M0:MS cx E1 h w₁ ((cx.off+N,.gone)::H0):=by rw[hH0];exact(S.ms.below hbel).name hoff (Nat.le_add_right _ _)
 have hlt0:∀ j c,lookH ((cx.off+N,Chunk.gone)::H0) j=some c→c.live=true→E1.real j=true→E1.blk j<w.heap.size:=fun j c hj hlv hrj=>by
  rw[jag] at hj
  split at hj
  ·cases hj;simp[Chunk.live] at hlv
  ·rename_i hne
   rw[hH0] at hj
   obtain⟨c0,k1,rfl⟩:=jbo hj
   rw[jbm] at hlv
   have e1:=hoff j (Ne.symm hne)
   rw[e1.2.2.2.1] at hrj
   rw[e1.1]
   exact(S.mem.ok j c0 k1).lt hlv hrj
 have hMk:∀ j c,j≠cx.off+N→lookH H0 j=some c→c.live=true→E1.real j=true→E1.blk j≠E1.blk (cx.off+N):=fun j c hj hc hlv hrj e=>by
  have:=hlt0 j c (by rw[jag,if_neg (Ne.symm hj)];exact hc) hlv hrj
  rw[e,hE1l] at this;omega
 have M1':MS cx E1 h w₁ ((cx.off+N,.lp none)::(cx.off+N,.gone)::H0):=by
  refine M0.mark hE1r hE1p (by rw[hE1l,hrec0];exact hl1) (by rw[hE1l];omega) fun j c hj hc hlv hrj=>?_
  rw[jag,if_neg (Ne.symm hj)] at hc
  exact hMk j c hj hc hlv hrj
 obtain⟨H1,hH1⟩:∃ H1,H1=(cx.off+N,Chunk.lp none)::H0:=⟨_,rfl⟩
 rw[← hH1] at hh
 have M1:MS cx E1 h w₁ H1:=by
  rw[hH1]
  have same:∀ j,lookH ((cx.off+N,Chunk.lp none)::H0) j=lookH ((cx.off+N,Chunk.lp none)::(cx.off+N,Chunk.gone)::H0) j:=fun j=>by
   simp only[jag]
   split<;>rfl
  refine⟨⟨fun j c hc=>M1'.mem.ok j c (by rw[← same];exact hc),fun j c hc=>M1'.mem.base j c (by rw[← same];exact hc),fun j c hc=>M1'.mem.unpub j c (by rw[← same];exact hc),
   fun j k c1 c2 hjk h1 h2=>M1'.mem.inj j k c1 c2 hjk (by rw[← same];exact h1) (by rw[← same];exact h2)⟩,M1'.agree,M1'.since,M1'.low,M1'.objs⟩
 obtain⟨L1,hL1⟩:∃ L1,L1=purge (cx.off+N) L:=⟨_,rfl⟩
 rw[← hL1] at hh
 have hk1:∀ t,Den E1 h (look L1 t) (a.tmps.getD t Go.undef):=by rw[hL1];exact purge_el hoff S.knows
 let a1:Act := { a with defers:=(md.map fun b=>({ target := .collected b,args := #[] } : Deferred))++a.defers }
 have S1:Sat cx E1 h a1 w₁ L1 H1:=by
  refine M1.sat hk1 ⟨md++ms,?_,?_,?_⟩
  ·refine List.nodup_append.2 ⟨hnd,g0,fun b hb c hc e=>?_⟩
   subst e
   have h1:=(hmd b hb).1
   have h2:=(Array.getElem?_eq_some_iff.1 (g2 b hc).2.2).1
   omega
  ·show _++a.defers=_
   rw[g1];simp
  ·intro b hb
   rcases List.mem_append.1 hb with hb|hb
   ·obtain⟨k1,k2,k3⟩:=hmd b hb
    exact⟨Jo,hnone b k1,k3⟩
   ·obtain⟨k1,k2,k3⟩:=g2 b hb
    exact⟨k1,k2,by rw[hbel.block b (Array.getElem?_eq_some_iff.1 k3).1];exact k3⟩
 have hle:cx.off≤cx.off+N+1:=Jo
 have hlat:Later cx (cx.now E1 h (cx.off+N+1) (jbj cx w₁)):=M1.later hle (jcv cx w₁)
 have hargs:DenL E1 h (.yld (cx.off+N)::caps) (Value.func (.yield l) #[] #[]::vs):=by
  simp only[DenL,Den]
  exact⟨_,_,rfl,by rw[hE1l],DenL.env hoff hfree hv⟩
 refine imp3 (fun hy=>hin _ _ _ _ _ _ _ hh (cx.now E1 h (cx.off+N+1) (jbj cx w₁)) E1 h w₁ _ rfl rfl hy (M1.now (jcu M1)) hargs) ?_ ?_
 ·
  intro cx' hl' i ds top H2 K2 hyl2 htop E2 h2 w2 vs2 M2 hv2
  cases hb:Nat.beq i (cx.off+N) with
  | false=>
   simp only[hb] at hyl2
   exact(hyl.later (hlat.trans hl')) cx' (Later.refl _) i ds top H2 K2 hyl2 htop E2 h2 w2 vs2 M2 hv2
  | true=>
   have:=jae hb;subst this
   simp only[hb] at hyl2
   split at hyl2
   case h_2=>exact hyl2.elim
   rename_i hno
   obtain⟨hrdy,hyl2⟩:=rdy_el hyl2
   obtain⟨Lp,hrun,hpl,hpk⟩:=params_el hyl2
   have hlo:cx.off+N<cx'.off:=jjN (show cx.off+N<cx.off+N+1 by omega) hl'.off
   have el:=M2.low (cx.off+N) hlo
   have ee:=hl'.env (cx.off+N) (show cx.off+N<cx.off+N+1 by omega)
   have hEp:E2.lpr (cx.off+N)=some rec:=by
    rw[el.2.2.2.2,ee.2.2.2.2];exact hE1p
   have hkn:∀ t,Den E2 h2 (look (cut (cx.off+N+1) L1) t) (a.tmps.getD t Go.undef):=fun t=>
    look_cut (fun j hj=>Env.same.trans (hl'.env j hj) (M2.low j (jjN hj hl'.off))) (hl'.le.trans M2.since.le) (hk1 t)
   have hlen2:=hv2.length
   refine round_el hA hB hyl (hlat.trans hl') htop hlo hEp hrec0 (by rw[hrec]) (by rw[hrec]) hno M2 (Lp:=Lp) ?_ (by rw[hrec];exact hn) hrdy ?_ hrun
   ·rw[hrec];show ps.size=_;rw[← Array.length_toList,hpl,hlen2]
   ·rw[hrec]
    exact hpk E2 h2 a.tmps vs2 Jo hkn hv2
 rintro⟨hgent,hcall⟩
 obtain⟨dd,hd1,hd2⟩:=jh3 (P:=P) (x:=f) (args := #[.const (.func (.yield l) #[] #[])]) (ts := #[]) (t:=0) (w:=w₁) (us:=[]) hfv hgent
 refine⟨l,_,w₁,dd,w₁,g,_,w₁,hent,hd1,fun _ _=>trivial,hd2,fun e=>absurd (show (none:Option Nat).isSome=true from e) Jd,?_⟩
 have hcall':CallsIn (FR r) 0 P g (Value.func (.yield l) #[] #[]::vs).toArray w₁ _:=hcall
 refine CallsIn.mono hcall' ?_
 rintro e w3 (⟨v,r',E3,h3,H3,rfl,hK,hden,M3⟩|⟨_,_,_,_,_,hf,_⟩)
 case inr=>exact hf.elim
 unfold endL at hK
 obtain⟨c3,hc3,hK⟩:=jay hK
 split at hK
 case h_2=>exact hK.elim
 rename_i p
 obtain⟨hreal3,r3,hr3,hl3⟩:=M3.mem.ok _ _ hc3
 have el:=M3.low (cx.off+N) (show cx.off+N<cx.off+N+1 by omega)
 have hbl3:E3.blk (cx.off+N)=l:=el.1.trans hE1l
 have hp3:E3.lpr (cx.off+N)=some rec:=el.2.2.2.2.trans hE1p
 rw[hp3] at hr3;cases hr3
 rw[hbl3] at hl3
 have hbusy:(lpRec rec p).state ≠ .busy:=by cases p<;>simp[lpRec]
 have hend:=run_endLoop (P:=P) hl3 hbusy
 have M4:=(M3.gone (cx.off+N)).putObj (o' := .loop { lpRec rec p with state := .exhausted }) (objs:=jbj cx w₁) hl3 rfl (jjH hB0 hlw) (fun b q hq=>by
  have hbl:b≠l:=fun e=>by
   subst e
   obtain⟨_,k1,k2⟩:=jcu M1 b q hq
   rw[hl1] at k2;cases k2
   have:=k1.2.1 _ rfl
   rw[hrec] at this;cases this
  exact .inl ⟨hbl,hq⟩) (fun j q hj hrj e=>by
   rw[jag] at hj
   split at hj
   ·cases hj
   ·rename_i hne
    refine M3.mem.inj _ j _ _ hne hc3 hj rfl rfl hreal3 hrj ?_
    rw[hbl3,e])
 have S4:=S1.back' hle M4
 refine⟨(lpRec rec p).pending,_,hend,?_⟩
 cases p with
 | none=>exact hQ _ _ _ _ _ _ _ hK hn S4
 | some c=>
  show c.wpIn _ _ _ _ _ _
  cases c with
  | exit j=>exact wpIn_exit (hQ _ _ _ _ _ _ _ hK hn S4)
  | ret=>exact wpIn_ret (hQ _ _ _ _ _ _ _ hK hn S4)
  | _=>exact hK.elim
theorem jaM (htb:TbOk P tb)(hin:InlOk P inl)(hN:N≤n):∀ c:Code,jgs P tb inl N n c
 | .skip=>fun cx yl r L H K Q hyl hr hh hQ E h a w hn S=>wpIn_skip (hQ _ _ _ _ _ _ _ hh hn S)
 | .label _=>fun cx yl r L H K Q hyl hr hh hQ E h a w hn S=>wpIn_label (hQ _ _ _ _ _ _ _ hh hn S)
 | .exit i=>fun cx yl r L H K Q hyl hr hh hQ E h a w hn S=>wpIn_exit (hQ _ _ _ _ _ _ _ hh hn S)
 | .ret=>fun cx yl r L H K Q hyl hr hh hQ E h a w hn S=>wpIn_ret (hQ _ _ _ _ _ _ _ hh hn S)
 | .region id ops draw=>fun cx yl r L H K Q hyl hr hh hQ E h a w hn S=>by
  simp only[RunC] at hh
  cases draw with
  | true=>
   obtain⟨plan,ns,hp,hd⟩:=hh
   cases hd with
   | go hd=>
    obtain⟨gt,hgt,hd⟩:=drawD_gt hd
    exact jfz htb hin hyl hN hp hd hgt (fun c L' H' E' h' a' w' hK hs S'=>hQ _ _ _ _ _ _ _ hK hs S') (fun L' H' E' h' a' w' hK hs S'=>hQ _ _ _ _ _ _ _ hK hs S') hn S
   | join L0 H0 hd k=>
    obtain⟨gt,hgt,hd⟩:=drawD_gt hd
    exact jfz htb hin hyl hN hp hd hgt (fun c L' H' E' h' a' w' hK hs S'=>hQ _ _ _ _ _ _ _ hK hs S') (fun L' H' E' h' a' w' hK hs S'=>by
     obtain⟨E'',h'',S''⟩:=hK.out cx E' h' a' w' rfl S'
     exact hQ _ _ _ _ _ _ _ k hs S'') hn S
  | false=>
   refine wpIn_region_list ?_
   have:=ja2 (Q:=Q) (r:=r) htb hin hyl hh hN (fun c L' H' E' h' a' w' hK hs S'=>hQ _ _ _ _ _ _ _ hK hs S') (fun L' H' E' h' a' w' hK hs S'=>hQ _ _ _ _ _ _ _ hK hs S') E h a w hn S
   simpa using this
 | .seq x y=>fun cx yl r L H K Q hyl hr hh hQ E h a w hn S=>by
  simp only[RunC] at hh
  refine wpIn_seq (jaM htb hin hN x cx yl r L H _ _ hyl (hr.imp_left fun e=>(jjv _ _▸e:noRg x=true∧noRg y=true).1) hh ?_ E h a w hn S)
  intro e L' H' E' h' a' w' hK hs S'
  cases e with
  | normal=>exact jaM htb hin hN y cx yl r L' H' _ _ hyl (hr.imp_left fun e=>(jjv _ _▸e:noRg x=true∧noRg y=true).2) hK hQ E' h' a' w' hs S'
  | _=>exact hQ _ _ _ _ _ _ _ hK hs S'
 | .cond c x y=>fun cx yl r L H K Q hyl hr hh hQ E h a w hn S=>by
  simp only[RunC] at hh
  obtain⟨d,hh,hd⟩:=jat hh
  have hden:=hd E h a trivial (S.facts.rd c)
  cases d with
  | bool b=>
   simp only[Den] at hden
   cases hh with
   | split hh=>
    cases b with
    | true=>exact wpIn_cond_true hden (jaM htb hin hN x cx yl r L H _ _ hyl (hr.imp_left fun e=>(jjv _ _▸e:noRg x=true∧noRg y=true).1) (hh.yes rfl) hQ E h a w hn S)
    | false=>exact wpIn_cond_false hden (jaM htb hin hN y cx yl r L H _ _ hyl (hr.imp_left fun e=>(jjv _ _▸e:noRg x=true∧noRg y=true).2) (hh.no rfl) hQ E h a w hn S)
   | join L0 H0 hh k=>
    have hQ2:∀ (e:Exit) L' H' E' h' a' w',jn cx.off L0 H0 K e L' H'→a'.tmps.size=n→Sat cx E' h' a' w' L' H'→Q e a' w':=fun e L' H' E' h' a' w' hK hs S'=>by
     cases e with
     | normal=>
      obtain⟨E'',h'',S''⟩:=hK.out cx E' h' a' w' rfl S'
      exact hQ _ _ _ _ _ _ _ k hs S''
     | _=>exact hQ _ _ _ _ _ _ _ hK hs S'
    cases b with
    | true=>exact wpIn_cond_true hden (jaM htb hin hN x cx yl r L H _ _ hyl (hr.imp_left fun e=>(jjv _ _▸e:noRg x=true∧noRg y=true).1) (hh.yes rfl) hQ2 E h a w hn S)
    | false=>exact wpIn_cond_false hden (jaM htb hin hN y cx yl r L H _ _ hyl (hr.imp_left fun e=>(jjv _ _▸e:noRg x=true∧noRg y=true).2) (hh.no rfl) hQ2 E h a w hn S)
  | anyb p=>
   simp only[Den] at hden
   obtain⟨b,hb,hp⟩:=hden
   cases b with
   | true=>exact wpIn_cond_true hb (jaM htb hin hN x cx yl r L H _ _ hyl (hr.imp_left fun e=>(jjv _ _▸e:noRg x=true∧noRg y=true).1) (hh.yes hp) hQ E h a w hn S)
   | false=>exact wpIn_cond_false hb (jaM htb hin hN y cx yl r L H _ _ hyl (hr.imp_left fun e=>(jjv _ _▸e:noRg x=true∧noRg y=true).2) (hh.no hp) hQ E h a w hn S)
  | _=>exact hh.elim
 | .block i b=>fun cx yl r L H K Q hyl hr hh hQ E h a w hn S=>by
  simp only[RunC] at hh
  refine wpIn_block (jaM htb hin hN b cx yl r L H _ _ hyl hr hh ?_ E h a w hn S)
  intro e L' H' E' h' a' w' hK hs S'
  cases e with
  | exit j=>
   simp only[blk] at hK
   cases hb:Nat.beq j i with
   | true=>
    rw[hb] at hK
    simp only[Exit.inBlock,jae hb,if_true]
    exact hQ _ _ _ _ _ _ _ hK hs S'
   | false=>
    rw[hb] at hK
    have hne:¬ j=i:=fun e=>by subst e;rw[Nat.beq_refl] at hb;cases hb
    simp only[Exit.inBlock,hne,if_false]
    exact hQ _ _ _ _ _ _ _ hK hs S'
  | _=>exact hQ _ _ _ _ _ _ _ hK hs S'
 | .scope b=>fun cx yl r L H K Q hyl hr hh hQ E h a w hn S=>by
  simp only[RunC] at hh
  refine wpIn_scope (jaM htb hin hN b cx yl r L H _ _ hyl hr hh ?_ E h a w hn S)
  intro e L' H' E' h' a' w' hK hs S'
  cases e with
  | goto l=>exact hK.elim
  | _=>exact hQ _ _ _ _ _ _ _ hK hs S'
 | .loop b=>fun cx yl r L H K Q hyl hr hh hQ E h a w hn S=>by
  obtain⟨K2,hK2,α,inv,sl,hp,μ,⟨x0,hx0,hwk0⟩,hround⟩:=Lp.out hh
  obtain⟨E0,h0,S0⟩:=hwk0.out cx E h a w rfl S
  refine jhV (fun x a' w'=>inv x ∧ ∃ E' h',a'.tmps.size=n∧Sat cx E' h' a' w' (sl x) (hp x)) μ ?_ x0 ⟨hx0,E0,h0,hn,S0⟩
  rintro x a' w' ⟨hx,E',h',hs,S'⟩
  refine jaM htb hin hN b cx yl r _ _ _ _ hyl hr (hround x hx) ?_ E' h' a' w' hs S'
  intro e L2 H2 E2 h2 a2 w2 hK hs2 S2
  cases e with
  | normal=>
   obtain⟨y,hy,hlt,hwk⟩:=hK
   obtain⟨E3,h3,S3⟩:=hwk.out cx E2 h2 a2 w2 rfl S2
   exact⟨y,⟨hy,E3,h3,hs2,S3⟩,hlt⟩
  | _=>
   obtain⟨L3,H3,hwk,hk⟩:=hK2 _ _ _ hK
   obtain⟨E3,h3,S3⟩:=hwk.out cx E2 h2 a2 w2 rfl S2
   exact hQ _ _ _ _ _ _ _ hk hs2 S3
 | .rangeFunc f ps assign body=>range_el hin hN (jaM htb hin hN assign) (jaM htb hin hN body)
 | .goto _=>fun cx yl r L H K Q hyl hr hh hQ E h a w hn S=>hh.elim
 | .refuse _=>fun cx yl r L H K Q hyl hr hh hQ E h a w hn S=>hh.elim
end
end Go.V
end
section
namespace Go.V
open Go Go.RowKit
structure InlF (P:Program)(g:Nat)(fn:Func)(c:Code)(k:Nat):Prop where
 func:P.funcs[g]? = some fn
 body:fn.body=some c
 name:(fn.name == "runtime.NumGoroutine")=false
 len:k≤fn.ntmps
def raisK (c:List PanicEntry)(A:Value→Prop):Prop:=match c with
 | [p]=>match p.recovered with
  | true=>False
  | false=>match p.goexit with
   | true=>False
   | false=>A p.v
 | _=>False
theorem raisK_el {c:List PanicEntry}{A:Value→Prop}(h:raisK c A):∃ v,c=[{ v:=v,recovered:=false }]∧A v:=by
 unfold raisK at h
 split at h
 ·rename_i p
  obtain⟨v,r,g⟩:=p
  cases r with
  | true=>exact h.elim
  | false=>
   cases g with
   | true=>exact h.elim
   | false=>exact⟨v,rfl,h⟩
 ·exact h.elim
def endK (tb:Tb)(fn:Func)(K:D→Hp→Prop)(KP:Value→Hp→Prop):K3:=fun e L H=>match e with
 | .ret=>resK tb L H fn.results.toList fun ds=>oneK ds fun d=>K d H
 | .normal=>resK tb L H fn.results.toList fun ds=>oneK ds fun d=>K d H
 | .panic c=>raisK c fun v=>KP v H
 | _=>False
def RunF (P:Program)(tb:Tb)(inl:Inl)(yl:Yl)(fn:Func)(c:Code)(ds:List D)(off:Nat)(H:Hp)(K:D→Hp→Prop)(KP:Value→Hp→Prop):Prop:=
 RunC P tb inl fn.ntmps c yl off (argSl 0 ds) H (endK tb fn K KP)
def inlS (P:Program)(tb:Tb)(inl:Inl):Inl:=fun yl g ds off H K KP => ∃ fn c,InlF P g fn c ds.length∧RunF P tb inl yl fn c ds off H K KP
def noP:Value→Hp→Prop:=fun _ _=>False
def inlN (P:Program)(tb:Tb):Nat→Inl
 | 0=>fun _ _ _ _ _ _ _=>False
 | k+1=>inlS P tb (inlN P tb k)
section
variable {P : Program} {tb : Tb} {inl : Inl}
theorem jes {fn : Func} {tmps : Array Value} {R : Ending → World → Prop} {cx : Cx} {E : Env} {h : Pub} {H : Hp} (fin : ∀ w, MS cx E h w H → ∃ v, (results fn tmps).run P w = .ok v w ∧ R (.returned v) w) :
    ∀ (ms : List Nat) (w : World), ms.Nodup → (∀ b ∈ ms, cx.w0.heap.size ≤ b ∧ cx.objs b = none ∧ w.heap[b]? = some (.deferred (some []))) → MS cx E h w H →
      LeavesInM (FR none) 0 P fn tmps R (ms.map fun b => ({ target := .collected b, args := #[] } : Deferred)) .returning w
  | [], w, _, _, M => by
    simp only [List.map_nil, LeavesInM, LeavesIn]
    exact fin w M
  | b :: ms, w, hnd, hms, M => by
    simp only [List.map_cons, LeavesInM]
    obtain ⟨h1, h2, h3⟩ := hms b Js
    rw [List.nodup_cons] at hnd
    refine ⟨Js, .inl ⟨b, _, rfl, run_takeDeferred h3, ?_⟩⟩
    refine jes fin ms _ hnd.2 (fun q hq => ?_) ?_
    · obtain ⟨k1, k2, k3⟩ := hms q (by simp [hq])
      exact ⟨k1, k2, by rw [World.putObj_heap_other (show q ≠ b from fun e => hnd.1 (by rw [← e]; exact hq))]; exact k3⟩
    · exact M.putObj (o' := .deferred none) (objs := cx.objs) h3 rfl h1 (fun q o hq => .inl ⟨fun e => (by subst e; rw [h2] at hq; cases hq), hq⟩) (fun j p hj hrj e => by
        obtain ⟨_, r, _, g⟩ := M.mem.ok j _ hj
        rw [e, h3] at g; cases g)
theorem jdS {fn : Func} {tmps : Array Value} {R : Ending → World → Prop} {cx : Cx} {E : Env} {h : Pub} {H : Hp} {c : List PanicEntry} (fin : ∀ w, MS cx E h w H → R (.panicked c) w) (hc : ∃ v, c = [{ v := v, recovered := false }]) :
    ∀ (ms : List Nat) (w : World), ms.Nodup → (∀ b ∈ ms, cx.w0.heap.size ≤ b ∧ cx.objs b = none ∧ w.heap[b]? = some (.deferred (some []))) → MS cx E h w H →
      LeavesInM (FR none) 0 P fn tmps R (ms.map fun b => ({ target := .collected b, args := #[] } : Deferred)) (.panicking c) w
  | [], w, _, _, M => by
    obtain ⟨v, rfl⟩ := hc
    simp only [List.map_nil, LeavesInM, LeavesIn]
    exact fin w M
  | b :: ms, w, hnd, hms, M => by
    simp only [List.map_cons, LeavesInM]
    obtain ⟨h1, h2, h3⟩ := hms b Js
    rw [List.nodup_cons] at hnd
    refine ⟨Js, .inl ⟨b, _, rfl, run_takeDeferred h3, ?_⟩⟩
    refine jdS fin hc ms _ hnd.2 (fun q hq => ?_) ?_
    · obtain ⟨k1, k2, k3⟩ := hms q (by simp [hq])
      exact ⟨k1, k2, by rw [World.putObj_heap_other (show q ≠ b from fun e => hnd.1 (by rw [← e]; exact hq))]; exact k3⟩
    · exact M.putObj (o' := .deferred none) (objs := cx.objs) h3 rfl h1 (fun q o hq => .inl ⟨fun e => (by subst e; rw [h2] at hq; cases hq), hq⟩) (fun j p hj hrj e => by
        obtain ⟨_, r, _, g⟩ := M.mem.ok j _ hj
        rw [e, h3] at g; cases g)
theorem inlS_ok (htb:TbOk P tb)(hin:InlOk P inl):InlOk P (inlS P tb inl):=by
 intro yl g ds off H K KP hh cx E h w vs hoff hds hyl M hv
 obtain⟨fn,c,hF,hh⟩:=hh
 subst hoff
 have hvl:=hv.length
 refine⟨jfx hF.func hF.name hF.body,?_⟩
 refine callsIn_of_wp_marks hF.func hF.body trivial ?_
 obtain⟨a0,ha0⟩:∃ a0:Act,a0 = { tmps:=vs.toArray++Array.replicate (fn.ntmps-vs.toArray.size) Go.undef,defers:=[] } := ⟨_,rfl⟩
 rw[← ha0]
 have hlen:=hF.len
 have hsz:a0.tmps.size=fn.ntmps:=by rw[ha0];simp;omega
 have S0:Sat cx E h a0 w (argSl 0 ds) H:=by
  refine M.sat (fun t=>?_) ⟨[],Js,by rw[ha0,hds];rfl,Js⟩
  rw[look_argSl,if_pos (jjx _),Nat.sub_zero]
  by_cases ht:t<ds.length
  ·obtain⟨v,h1,h2⟩:=hv.get (i:=t) (d:=ds.getD t .any) (by simp[List.getD,jkb ht])
   have:a0.tmps.getD t Go.undef=v:=by
    have htv:t<vs.length:=Jo
    rw[ha0]
    simp only[Array.getD_eq_getD_getElem?]
    rw[Array.getElem?_append_left (by simpa using htv)]
    simp only[jkr,h1,Option.getD_some]
   rw[this];exact h2
  ·have:ds.getD t .any = .any:=by simp[List.getD,List.getElem?_eq_none (Nat.le_of_not_lt ht)]
   rw[this];simp[Den]
 refine jaM htb hin (Nat.le_of_eq hsz.symm) c cx yl none _ _ _ _ hyl (.inr fun _ e=>by cases e) hh ?_ E h a0 w rfl S0
 intro e L' H' E' h' a' w' hK _ S'
 have fin:(resK tb L' H' fn.results.toList fun ds=>oneK ds fun d=>K d H') →
   LeavesInM (FR none) 0 P fn a'.tmps (fun e w'=>(∃ v r E' h' H',e = .returned v∧K r H'∧Den E' h' r v∧MS cx E' h' w' H') ∨ ∃ v E' h' H',e = .panicked [{ v:=v,recovered:=false }]∧KP v H'∧MS cx E' h' w' H') a'.defers .returning w':=by
  intro hres
  obtain⟨ms,g0,g1,g2⟩:=S'.side.marks
  rw[g1,hds,List.append_nil]
  refine jes (fun w2 M2=>?_) ms w' g0 g2 S'.ms
  have S2:Sat cx E' h' { a' with defers:=[] } w2 L' H':=M2.sat S'.knows ⟨[],Js,by rw[hds];rfl,Js⟩
  obtain⟨rs,hres,hl,hrun⟩:=jh8 htb hres
  obtain⟨us,h1,h2⟩:=hrun cx E' h' _ w2 S2
  have hul:=h1.length
  have hmap:(fn.results.mapM fun | .tmp t=>pure (a'.tmps.getD t Go.undef) | .cell x t=>do loadVar t (← asAddr (a'.tmps.getD x Go.undef)):Sem (Array Value)).run P w2 = .ok us.toArray w2:=by
   rw[Array.mapM_eq_mapM_toList,Sem.run_map]
   erw [h2];rfl
  have hr0:(results fn a'.tmps).run P w2 = .ok (if h:us.toArray.size=1 then us.toArray[0] else Value.tuple us.toArray) w2:=by
   have e:(results fn a'.tmps).run P w2=((fn.results.mapM fun | .tmp t=>pure (a'.tmps.getD t Go.undef) | .cell x t=>do loadVar t (← asAddr (a'.tmps.getD x Go.undef)):Sem (Array Value)).run P w2).andThen
     (fun vs w => .ok (if h:vs.size=1 then vs[0] else Value.tuple vs) w):=by
    unfold results;rw[Sem.run_bind];rfl
   rw[e,hmap];rfl
  have hone:∃ d v,K d H'∧Den E' h' d v∧(results fn a'.tmps).run P w2 = .ok v w2:=by
   cases rs with
   | nil=>
    simp only[DenL] at h1;subst h1
    refine⟨.tup [],.tuple #[],hres,by simp only[Den];exact⟨[],rfl,by simp[DenL]⟩,?_⟩
    rw[hr0];simp
   | cons d rs'=>
    cases rs' with
    | nil=>
     simp only[DenL] at h1
     obtain⟨v,_,rfl,hv,rfl⟩:=h1
     refine⟨d,v,hres,hv,?_⟩
     rw[hr0];simp
    | cons d2 rs2=>
     refine⟨.tup (d::d2::rs2),.tuple us.toArray,hres,by simp only[Den];exact⟨us,rfl,h1⟩,?_⟩
     rw[hr0]
     simp only[jkn] at hul
     simp;omega
  obtain⟨d,v,hd1,hden,hresv⟩:=hone
  exact⟨v,hresv,.inl ⟨v,d,E',h',H',rfl,hd1,hden,M2⟩⟩
 cases e with
 | normal=>exact fin hK
 | ret=>exact fin hK
 | panic c'=>
  have hK:raisK c' fun v=>KP v H':=hK
  obtain⟨v,rfl,hK⟩:=raisK_el hK
  obtain⟨ms,g0,g1,g2⟩:=S'.side.marks
  show LeavesInM (FR none) 0 P fn a'.tmps _ a'.defers (.panicking _) w'
  rw[g1,hds,List.append_nil]
  exact jdS (E:=E') (h:=h') (H:=H') (fun w2 M2 => .inr ⟨v,E',h',H',rfl,hK,M2⟩) ⟨_,rfl⟩ ms w' g0 g2 S'.ms
 | _=>exact hK.elim
theorem inlN_ok (htb:TbOk P tb):∀ k,InlOk P (inlN P tb k)
 | 0=>fun _ _ _ _ _ _ _ h=>h.elim
 | k+1=>inlS_ok htb (inlN_ok htb k)
def outK (r:D):D→Hp→Prop:=fun d H=>handK 40 [d] [] H fun ds _ _=>match ds with
 | [d']=>match D.pure d' with|true=>Fin r d'|false=>False
 | _=>False
theorem jhb (htb : TbOk P tb) (k : Nat) {f : Nat} {fn : Func} {c : Code} {ds : List D} {r : D} (hF : InlF P f fn c ds.length) (hh : RunF P tb (inlN P tb k) (fun _ _ _ _ _ => False) fn c ds 0 [] (outK r) noP) : Called P f ds r := by
  refine ⟨jfx hF.func hF.name hF.body, fun h w vs ha hd => ?_⟩
  let cx : Cx := { w0 := w, h0 := h, off := 0, E0 := Env.dummy, ds := [], objs := fun _ => none }
  have M : MS cx Env.dummy h w [] :=
    { mem := { ok := fun i c hc => by simp [lookH] at hc, base := fun i c hc => by simp [lookH] at hc, unpub := fun i c hc => by simp [lookH] at hc, inj := fun i j c c' _ hc => by simp [lookH] at hc }
      agree := ha
      since := ⟨Below.refl _ _, Pub.Le.refl _, fun _ _ _ => rfl⟩
      low := fun j hj => absurd hj (Nat.not_lt_zero _)
      objs := fun b o ho => by cases ho }
  have hok := inlS_ok htb (inlN_ok htb k) (fun _ _ _ _ _ => False) f ds 0 [] (outK r) noP ⟨fn, c, hF, hh⟩ cx Env.dummy h w vs rfl rfl (ylOk_none P cx) M hd
  refine (callsIn_wide.1 hok.2).mono ?_
  rintro e w' (⟨v, d, E', h', H', rfl, hK, hden, M'⟩ | ⟨_, _, _, _, _, hf, _⟩)
  case inr => exact hf.elim
  unfold outK at hK
  obtain ⟨ds', L2, H2, hK2, hl2, hS2⟩ := jis hK
  have S' : Sat cx E' h' { tmps := #[], defers := [] } w' [] H' := M'.sat (fun t => by simp [look, Den]) ⟨[], Js, rfl, Js⟩
  obtain ⟨h3, hle3, S3, hden3⟩ := hS2 cx E' h' _ w' S'
  split at hK2
  case h_2 => exact hK2.elim
  rename_i d'
  have h4 := hden3 [v] (by simp only [DenL]; exact ⟨v, [], rfl, hden, rfl⟩)
  simp only [DenL] at h4
  obtain ⟨v', _, he, h5, _⟩ := h4
  cases he
  cases hp : D.pure d' with
  | false => rw [hp] at hK2; exact hK2.elim
  | true =>
    rw [hp] at hK2
    exact ⟨v, h3, rfl, hK2.out _ _ (Den.pure hp h5), S3.agree, S3.since.le, S3.since.below, S3.since.old⟩
end
end Go.V
end
section
namespace Go.V
open Go Go.RowKit
def zB:D→Value→Bool
 | .any,v=>v.oneCell'
 | .int k n,.int k' n'=>kE k k' && decide (n=n') && decide (n=0)
 | .bool b,.bool b'=>b == b'
 | .str s,.string s'=>s.isEmpty && s'.size == 0
 | .nil,.slice none 0 0=>true
 | _,_=>false
def zBL:List D→List Value→Bool
 | [],[]=>true
 | d::ds,v::vs=>zB d v && zBL ds vs
 | _,_=>false
theorem zB_ok {d:D}{v:Value}(h:zB d v=true)(E:Env)(hp:Pub):Den E hp d v∧v.oneCell'=true:=by
 unfold zB at h
 split at h
 ·exact⟨by simp[Den],h⟩
 ·simp only[jjv,decide_eq_true_eq] at h
  obtain⟨⟨h1,rfl⟩,rfl⟩:=h
  have:=kE_eq h1;subst this
  exact⟨by simp only[Den];exact⟨trivial,zero_inR _⟩,rfl⟩
 ·simp at h;subst h;exact⟨by simp[Den],rfl⟩
 ·simp only[jjv,List.isEmpty_iff,beq_iff_eq] at h
  obtain⟨rfl,h2⟩:=h
  refine⟨?_,rfl⟩
  simp only[Den]
  refine⟨?_,Js⟩
  congr 1
  apply ByteArray.ext
  apply Array.toList_inj.1
  rename_i s'
  have:s'.data.size=0:=h2
  simp[Array.size_eq_zero_iff.1 this]
 ·exact⟨by simp[Den],rfl⟩
 ·cases h
theorem zBL_ok {ds:List D}{vs:List Value}(h:zBL ds vs=true)(E:Env)(hp:Pub):DenL E hp ds vs ∧ ∀ v∈vs,v.oneCell'=true:=by
 induction ds generalizing vs with
 | nil=>cases vs with
  | nil=>exact⟨by simp[DenL],Js⟩
  | cons=>simp[zBL] at h
 | cons d ds ih=>
  cases vs with
  | nil=>simp[zBL] at h
  | cons v vs=>
   simp only[zBL,jjv] at h
   obtain⟨h1,h2⟩:=zB_ok h.1 E hp
   obtain⟨h3,h4⟩:=ih h.2
   refine⟨by simp only[DenL];exact⟨_,_,rfl,h1,h3⟩,fun u hu=>?_⟩
   rcases jka.1 hu with rfl|hu
   ·exact h2
   ·exact h4 u hu
def isAggV:Value→Bool
 | .agg _=>true
 | _=>false
def jg4 (P : Program) (fields : Array Field) : Nat → List (Nat × Nat) → Bool
  | _, [] => true
  | j, (o, u) :: fs => (match fields[j]? with
    | some f => Nat.beq f.offset o && Nat.beq f.type u && (match P.info? u with | some iu => !Nat.beq iu.size 0 | none => false)
    | none => false) && jg4 P fields (j + 1) fs
def undB (P:Program)(t:Nat)(k:TyK):Bool:=match k,P.underlying t with
 | .int k,some (.int k')=>kE k k'
 | .bool,some .bool=>true
 | .str,some .string=>true
 | .slice e,some (.slice e')=>Nat.beq e e'
 | .arr n e,some (.array n' e')=>Nat.beq n n' && Nat.beq e e'
 | .ptr e,some (.pointer e')=>Nat.beq e e'
 | .map k e,some (.map k' e')=>Nat.beq k k' && Nat.beq e e'
 | .func,some (.func _ _ _)=>true
 | .struct fs,some (.struct fields)=>Nat.beq fields.size fs.length && jg4 P fields 0 fs
 | .other,some (.struct _)=>false
 | .other,some (.array _ _)=>false
 | .other,some _=>true
 | _,_=>false
def eqB (P:Program)(t:Nat):Bool:=match P.underlying t with
 | some (.struct fields) => !P.stoodInHeld t && fields.toList.all fun f=>f.name != "_"
 | _=>true
theorem eqB_ok {P:Program}{t:Nat}(h:eqB P t=true):∀ fields,P.underlying t=some (.struct fields)→P.stoodInHeld t=false ∧ ∀ f∈fields.toList,f.name ≠ "_" := fun fields hu=>by
 unfold eqB at h
 rw[hu] at h
 simp only[jjv,Bool.not_eq_true',jj7,bne_iff_ne] at h
 exact h
def tyB (P:Program)(t:Nat)(y:Ty):Bool:=match P.info? t with
 | none=>false
 | some i=>match i.zero with
  | none=>false
  | some z=>Nat.beq i.size y.size && Nat.beq i.bytes y.bytes && zBL y.zero z.cells.toList && (y.kind.isAgg == isAggV z) && Nat.beq z.cells.size y.size &&
    (y.kind.isAgg || (z.oneCell' && Nat.beq y.size 1)) && undB P t y.kind && eqB P t
theorem jgj {P:Program}{fields:Array Field} : ∀ {fs:List (Nat×Nat)} {j:Nat},jg4 P fields j fs=true →
  ∀ (i o u:Nat),fs[i]? = some (o,u) → ∃ f iu,fields[j+i]? = some f∧f.offset=o∧f.type=u∧P.info? u=some iu∧iu.size≠0
 | [],j,_,i,o,u,hi=>by simp at hi
 | (o',u')::fs,j,h,i,o,u,hi=>by
  simp only[jg4,jjv] at h
  cases i with
  | zero=>
   simp at hi
   obtain⟨rfl,rfl⟩:=hi
   have h1:=h.1
   split at h1
   ·rename_i f hf
    simp only[jjv] at h1
    obtain⟨⟨h2,h3⟩,h4⟩:=h1
    split at h4
    ·rename_i iu hiu
     refine⟨f,iu,by simpa using hf,jae h2,jae h3,hiu,fun e=>?_⟩
     rw[e] at h4;simp at h4
    ·cases h4
   ·cases h1
  | succ i=>
   obtain⟨f,iu,h1,h2⟩:=jgj h.2 i o u (by simpa using hi)
   exact⟨f,iu,by rw[← h1];congr 1;omega,h2⟩
theorem tyB_ok {P : Program} {t : Nat} {y : Ty} (h : tyB P t y = true) : TyOk P t y := by
  unfold tyB at h
  split at h
  · cases h
  · rename_i i hi
    split at h
    · cases h
    · rename_i z hz
      simp only [jjv, Bool.or_eq_true] at h
      obtain ⟨⟨⟨⟨⟨⟨⟨h1, h2⟩, h3⟩, h4⟩, h5⟩, h6⟩, h7⟩, h8⟩ := h
      refine { info := ⟨i, z, hi, jae h1, jae h2, hz, fun E hp => (zBL_ok h3 E hp).1, (zBL_ok h3 Env.dummy (fun _ _ => none)).2, fun ha => ?_, jae h5, fun ha => ?_⟩, und := ?_, eqs := eqB_ok h8 }
      · rw [ha] at h4
        cases z <;> simp [isAggV] at h4
        exact ⟨_, rfl⟩
      · rw [ha] at h6
        rcases h6 with h6 | h6
        · cases h6
        · exact ⟨h6.1, jae h6.2⟩
      · unfold undB at h7
        cases hk : y.kind <;> rw [hk] at h7 <;> cases hu : P.underlying t <;> rw [hu] at h7 <;> (try simp only at h7) <;> first | cases h7 | skip
        all_goals rename_i d
        all_goals cases d <;> (try simp only at h7) <;> first | (cases h7; done) | skip
        all_goals first
          | (have := kE_eq h7; subst this; rfl)
          | rfl
          | (have := jae h7; subst this; rfl)
          | (simp only [jjv] at h7; have e1 := jae h7.1; have e2 := jae h7.2; subst e1; subst e2; rfl)
          | exact ⟨_, _, _, rfl⟩
          | (simp only [jjv] at h7
             exact ⟨_, rfl, jae h7.1, fun j o u hj => by have := jgj h7.2 j o u hj; simpa using this⟩)
          | exact ⟨_, rfl, (fun _ e => (by cases e)), (fun _ _ e => (by cases e))⟩
def tbB (P:Program):Tb→Bool
 | []=>true
 | (t,y)::tb=>tyB P t y && tbB P tb
theorem tbB_ok {P:Program}{tb:Tb}(h:tbB P tb=true):TbOk P tb:=by
 induction tb with
 | nil=>intro t y hy;simp[tyL] at hy
 | cons x tb ih=>
  obtain⟨s,y'⟩:=x
  simp only[tbB,jjv] at h
  intro t y hy
  simp only[tyL] at hy
  cases hb:Nat.beq s t with
  | true=>
   rw[hb] at hy
   have:=jae hb;subst this
   cases hy
   exact tyB_ok h.1
  | false=>rw[hb] at hy;exact ih h.2 t y hy
end Go.V
end
section
namespace Go.V
open Go Go.RowKit
theorem lp_inv {off:Nat}{L:Sl}{H:Hp}{body:Sl→Hp→K3→Prop}{K:K3}(n:Nat)(I:Nat→Prop)(sl:Nat→Sl)(hp:Nat→Hp)(h0:Wk off L H (sl 0) (hp 0))(hI:I 0)
  (step:∀ k,k≤n→I k→body (sl k) (hp k) (nrm (fun L' H' => ∃ y,(y≤n∧I y)∧n-y<n-k∧Wk off L' H' (sl y) (hp y)) K)):Lp off L H body K:=
 Lp.of ⟨Nat,fun k=>k≤n∧I k,sl,hp,fun k=>n-k,⟨0,⟨jjx _,hI⟩,h0⟩,fun k hk=>step k hk.1 hk.2⟩
theorem jaz {P:Program}{tb:Tb}{inl:Inl}{yl:Yl}{N off:Nat}{all:List Oper}{KP:KPan}{gt:Nat→Sl→Hp→Prop}{L:Sl}{H:Hp}{K:K2} : jfA P tb inl yl N off all KP gt .nil L H K:=True.intro
theorem getD_toNat (xs:List Int)(k:Nat)(x:Int)(h:xs[k]? = some x):xs.getD (k:Int).toNat 0=x:=by
 simp[jj8,h]
theorem getx {xs:List Int}{k:Nat}(h:(k:Int)<xs.length):∃ x,xs[k]? = some x∧xs.getD (k:Int).toNat 0=x:=by
 have h2:k<xs.length:=Jo
 exact⟨xs[k],jkb h2,by simp[jj8,h2]⟩
def slApp:Sl→Sl→Sl
 | [],M=>M
 | x::L,M=>x::slApp L M
def hpApp:Hp→Hp→Hp
 | [],M=>M
 | x::L,M=>x::hpApp L M
def wkSl (L L2:Sl):Sl→Prop
 | []=>True
 | (t,_)::R=>(match look L2 t with | .any=>True|d=>look L t=d)∧wkSl L L2 R
def wkHp (H H2:Hp):Hp→Prop
 | []=>True
 | (i,_)::R=>(match lookH H2 i with|none=>True|some c=>lookH H i=some c)∧wkHp H H2 R
theorem look_none {L:Sl}{t:Nat}(h:∀ p∈L,p.1≠t):look L t = .any:=by
 induction L with
 | nil=>rfl
 | cons x L ih=>
  obtain⟨s,d⟩:=x
  rw[jaI,if_neg (h (s,d) Js)]
  exact ih fun p hp=>h p (by simp[hp])
theorem lookH_none {H:Hp}{t:Nat}(h:∀ p∈H,p.1≠t):lookH H t=none:=by
 induction H with
 | nil=>rfl
 | cons x L ih=>
  obtain⟨s,d⟩:=x
  rw[jag,if_neg (h (s,d) Js)]
  exact ih fun p hp=>h p (by simp[hp])
theorem wkSl_mem {L L2 R:Sl}(h:wkSl L L2 R){t:Nat}(ht:∃ p∈R,p.1=t):look L2 t = .any∨look L t=look L2 t:=by
 induction R with
 | nil=>obtain⟨p,hp,_⟩:=ht;simp at hp
 | cons x R ih=>
  obtain⟨s,d⟩:=x
  obtain⟨p,hp,e⟩:=ht
  by_cases hs:s=t
  ·subst hs
   have h1:=h.1
   cases hl:look L2 s<;>rw[hl] at h1<;>first|exact .inl rfl|exact .inr h1
  ·rcases jka.1 hp with e2|e2
   ·subst e2;exact absurd e hs
   ·exact ih h.2 ⟨p,e2,e⟩
theorem wkHp_mem {H H2 R:Hp}(h:wkHp H H2 R){i:Nat}{c:Chunk}(hi:∃ p∈R,p.1=i)(hc:lookH H2 i=some c):lookH H i=some c:=by
 induction R with
 | nil=>obtain⟨p,hp,_⟩:=hi;simp at hp
 | cons x R ih=>
  obtain⟨s,d⟩:=x
  obtain⟨p,hp,e⟩:=hi
  by_cases hs:s=i
  ·subst hs
   have h1:=h.1
   rw[hc] at h1;exact h1
  ·rcases jka.1 hp with e2|e2
   ·subst e2;exact absurd e hs
   ·exact ih h.2 ⟨p,e2,e⟩
theorem Wk.of2 {off : Nat} {L L' : Sl} {H H' : Hp} (h1 : wkSl L L' L') (h2 : wkHp H H' H') : Wk off L H L' H' := by
  refine ⟨fun cx E h a w _ S => ?_⟩
  have hl : ∀ {i c}, lookH H' i = some c → lookH H i = some c := fun {i c} hc => by
    by_cases hm : ∃ p ∈ H', p.1 = i
    · exact wkHp_mem h2 hm hc
    · rw [lookH_none (fun p hp e => hm ⟨p, hp, e⟩)] at hc; cases hc
  refine ⟨E, h, { knows := fun t => ?_, mem := ?_, agree := S.agree, since := S.since, low := S.low, side := S.side }⟩
  · by_cases hm : ∃ p ∈ L', p.1 = t
    · rcases wkSl_mem h1 hm with e | e
      · rw [e]; simp [Den]
      · rw [← e]; exact S.knows t
    · rw [look_none (fun p hp e => hm ⟨p, hp, e⟩)]; simp [Den]
  · exact { ok := fun i c hc => S.mem.ok i c (hl hc), base := fun i c hc => S.mem.base i c (hl hc), unpub := fun i c hc => S.mem.unpub i c (hl hc),
            inj := fun i j c c' hij hc hc' => S.mem.inj i j c c' hij (hl hc) (hl hc') }
def jdC:Sl→Sl→(Sl→Prop)→Prop
 | [],M,K=>K M
 | x::L,M,K=>jdC L M fun N=>K (x::N)
theorem jcO (L M:Sl)(K:Sl→Prop):jdC L M K=K (slApp L M):=by
 induction L generalizing K with
 | nil=>rfl
 | cons x L ih=>simp only[jdC,slApp,ih]
def jdV:Hp→Hp→(Hp→Prop)→Prop
 | [],M,K=>K M
 | x::L,M,K=>jdV L M fun N=>K (x::N)
theorem jc2 (L M:Hp)(K:Hp→Prop):jdV L M K=K (hpApp L M):=by
 induction L generalizing K with
 | nil=>rfl
 | cons x L ih=>simp only[jdV,hpApp,ih]
theorem lp_go {off:Nat}{L:Sl}{H:Hp}{body:Sl→Hp→K3→Prop}{K:K3}(n:Nat)(I:Nat→Prop)(sl:Nat→Sl)(hp:Nat→Hp)(h0:Wk off L H (slApp (sl 0) L) (hpApp (hp 0) H))(hI:I 0)
  (step:∀ k,k≤n→I k→jdC (sl k) L fun L1=>jdV (hp k) H fun H1=>body L1 H1 (nrm (fun L' H' => ∃ y,(y≤n∧I y)∧n-y<n-k∧Wk off L' H' (slApp (sl y) L) (hpApp (hp y) H)) K)):Lp off L H body K:=
 lp_inv n I (fun k=>slApp (sl k) L) (fun k=>hpApp (hp k) H) h0 hI fun k hk hi=>by
  have:=step k hk hi
  rw[jcO,jc2] at this
  exact this
theorem jad {off:Nat}{L:Sl}{H:Hp}{body:Sl→Hp→K3→Prop}{K:K3}{α:Type}(x0:α)(I:α→Prop)(μ:α→Nat)(sl:α→Sl)(hp:α→Hp)(h0:Wk off L H (slApp (sl x0) L) (hpApp (hp x0) H))(hI:I x0)
  (step:∀ k,I k→jdC (sl k) L fun L1=>jdV (hp k) H fun H1=>body L1 H1 (nrm (fun L' H' => ∃ y,I y∧μ y<μ k∧Wk off L' H' (slApp (sl y) L) (hpApp (hp y) H)) K)):Lp off L H body K:=
 Lp.of ⟨α,I,fun k=>slApp (sl k) L,fun k=>hpApp (hp k) H,μ,⟨x0,hI,h0⟩,fun k hk=>by
  have:=step k hk
  rw[jcO,jc2] at this
  exact this⟩
def xjn (off i:Nat){β:Type}(inv:β→Prop)(sl:β→Sl)(hp:β→Hp)(K:K3):K3:=fun e L' H'=>match e with
 | .exit j=>match Nat.beq j i with
  | true => ∃ y,inv y∧Wk off L' H' (sl y) (hp y)
  | false=>K (.exit j) L' H'
 | e=>K e L' H'
theorem jbn {off:Nat}{L:Sl}{H:Hp}{body:Sl→Hp→K3→Prop}{K:K3}{β:Type}(i:Nat)(inv:β→Prop)(sl:β→Sl)(hp:β→Hp)
  (h:Lp off L H body (xjn off i inv (fun y=>slApp (sl y) L) (fun y=>hpApp (hp y) H) K)) (k:∀ y,inv y→jdC (sl y) L fun L1=>jdV (hp y) H fun H1=>K (.exit i) L1 H1):Lp off L H body K:=by
 obtain⟨K2,hK2,hr⟩:=h.out
 refine⟨K2,fun e L' H' hk=>?_,hr⟩
 obtain⟨L2,H2,hw,hx⟩:=hK2 e L' H' hk
 cases e with
 | exit j=>
  simp only[xjn] at hx
  cases hb:Nat.beq j i with
  | true=>
   rw[hb] at hx
   have:=jae hb;subst this
   obtain⟨y,hy,hw2⟩:=hx
   have:=k y hy
   rw[jcO,jc2] at this
   exact⟨_,_,hw.trans hw2,this⟩
  | false=>rw[hb] at hx;exact⟨_,_,hw,hx⟩
 | _=>exact⟨_,_,hw,hx⟩
theorem ja5 {P:Program}{tb:Tb}{inl:Inl}{N off:Nat}{a b:Code}{yl:Yl}{x:Bool}{L:Sl}{H:Hp}{K:K3}(sl:Sl)(hp:Hp)
  (h:CondB x (RunC P tb inl N a yl off L H (jn off (slApp sl L) (hpApp hp H) K)) (RunC P tb inl N b yl off L H (jn off (slApp sl L) (hpApp hp H) K))) (k:jdC sl L fun L1=>jdV hp H fun H1=>K .normal L1 H1) :
  Cnd off x (RunC P tb inl N a yl off L H) (RunC P tb inl N b yl off L H) K := .join _ _ h (by rw[jcO,jc2] at k;exact k)
theorem jab {P:Program}{tb:Tb}{inl:Inl}{N off:Nat}{all:List Oper}{KP:KPan}{p:Plan}{ns:List Nd}{yl:Yl}{L:Sl}{H:Hp}{K:K2}(sl:Sl)(hp:Hp)
  (h:drawK P tb inl yl N off all KP (fun _ _ _=>False) p L H fun L' H'=>Wk off L' H' (slApp sl L) (hpApp hp H)) (k:jdC sl L fun L1=>jdV hp H fun H1=>K L1 H1) :
  Drw off (drawD P tb inl yl N off all KP p ns L H) K := .join _ _ (jac h) (by rw[jcO,jc2] at k;exact k)
def ctrK:List (Nat×Sl×Hp)→List Nat→Sl→Hp→(Sl→Hp→Prop)→Prop
 | [],_,L,H,K=>K L H
 | (i,sl,hp)::c,rem,L,H,K=>match memB i rem with|true=>ctrK c rem L H K|false=>jdC sl L fun L1=>jdV hp H fun H1=>ctrK c rem L1 H1 K
def ndsK (P:Program)(tb:Tb)(inl:Inl)(yl:Yl)(N off:Nat)(all:List Oper)(KP:KPan)(gt:Nat→Sl→Hp→Prop)(ctr:List (Nat×Sl×Hp))(L:Sl)(H:Hp)(K:K2):List Nd→Prop
 | []=>True
 | nd::ns=>(ctrK ctr nd.rem L H fun Lk Hk=>jby tb all nd.pend Lk Hk (drawK P tb inl yl N off all KP gt nd.plan Lk Hk K))∧ndsK P tb inl yl N off all KP gt ctr L H K ns
theorem jas {A:Prop}{P:Program}{tb:Tb}{inl:Inl}{yl:Yl}{N off:Nat}{all:List Oper}{KP:KPan}{gt:Nat→Sl→Hp→Prop}{bs:Brs}{L:Sl}{H:Hp}{K:K2}(a:A)(b:jfA P tb inl yl N off all KP gt bs L H K):A∧jfA P tb inl yl N off all KP gt bs L H K:=⟨a,b⟩
theorem jau {A:Prop}{P:Program}{tb:Tb}{inl:Inl}{yl:Yl}{N off:Nat}{all:List Oper}{KP:KPan}{gt:Nat→Sl→Hp→Prop}{ctr:List (Nat×Sl×Hp)}{L:Sl}{H:Hp}{K:K2}{ns:List Nd}(a:A)(b:ndsK P tb inl yl N off all KP gt ctr L H K ns):A∧ndsK P tb inl yl N off all KP gt ctr L H K ns:=⟨a,b⟩
theorem jal {A:Prop}{tb:Tb}{all:List Oper}{qs:List Nat}{L:Sl}{H:Hp}{K:Prop}(h:A)(k:jby tb all qs L H K):A∧jby tb all qs L H K:=⟨h,k⟩
theorem no_tf {A:Prop}(h:true=false):A:=by cases h
theorem no_ft {A:Prop}(h:false=true):A:=by cases h
theorem no_nt {A:Prop}(h:(!true)=true):A:=by cases h
theorem no_nf {A:Prop}(h:(!false)=false):A:=by cases h
theorem Cnd.y {off:Nat}{A B:K3→Prop}{K:K3}(h:A K):Cnd off true A B K := .split ⟨fun _=>h,no_tf⟩
theorem Cnd.n {off:Nat}{A B:K3→Prop}{K:K3}(h:B K):Cnd off false A B K := .split ⟨no_ft,fun _=>h⟩
theorem Cnd.ny {off:Nat}{A B:K3→Prop}{K:K3}(h:A K):Cnd off (!false) A B K := .split ⟨fun _=>h,no_nf⟩
theorem Cnd.nn {off:Nat}{A B:K3→Prop}{K:K3}(h:B K):Cnd off (!true) A B K := .split ⟨no_nt,fun _=>h⟩
theorem Cnd.yes {off:Nat}{x:Bool}{A B:K3→Prop}{K:K3}(e:x=true)(h:A K):Cnd off x A B K := .split ⟨fun _=>h,fun h'=>(by rw[e] at h';cases h')⟩
theorem Cnd.no {off:Nat}{x:Bool}{A B:K3→Prop}{K:K3}(e:x=false)(h:B K):Cnd off x A B K := .split ⟨fun h'=>(by rw[e] at h';cases h'),fun _=>h⟩
theorem jaa {P:Program}{g:Prop}{f:Nat}{ds:List D}{K:D→Prop}{r:D}(h:Called P f ds r)(k:K r):∃ r,(g→Called P f ds r)∧K r:=⟨r,fun _=>h,k⟩
def FinL:List D→List D→Prop
 | [],[]=>True
 | r::rs,r'::rs'=>Fin r r'∧FinL rs rs'
 | _,_=>False
theorem FinL.den {h:Pub} : ∀ {rs rs':List D} {vs:List Value},FinL rs rs'→DenL Env.dummy h rs' vs→DenL Env.dummy h rs vs
 | [],[],_,_,H=>H
 | _::_,_::_,_,F,H=>by
  simp only[DenL] at H ⊢
  obtain⟨v,vs',h1,h2,h3⟩:=H
  exact⟨v,vs',h1,F.1.out _ _ h2,FinL.den F.2 h3⟩
theorem Fin.tup {rs rs':List D}(F:FinL rs rs'):Fin (.tup rs) (.tup rs'):=⟨fun h v hv=>by
 simp only[Den] at hv ⊢
 obtain⟨vs,h1,h2⟩:=hv
 exact⟨vs,h1,FinL.den F h2⟩⟩
theorem Fin.agg {rs rs':List D}(F:FinL rs rs'):Fin (.agg rs) (.agg rs'):=⟨fun h v hv=>by
 simp only[Den] at hv ⊢
 obtain⟨vs,h1,h2,h3⟩:=hv
 exact⟨vs,h1,FinL.den F h2,h3⟩⟩
theorem Called.cast {P:Program}{f:Nat}{ds:List D}{r r':D}(h:Called P f ds r)(e:r=r'):Called P f ds r':=e▸h
theorem Called.arg {P:Program}{f:Nat}{ds ds':List D}{r:D}(F:FinL ds' ds)(h:Called P f ds' r):Called P f ds r:=
 ⟨h.1,fun hp w vs ha hd=>h.2 hp w vs ha (FinL.den F hd)⟩
theorem Called.fin {P:Program}{f:Nat}{ds:List D}{r r':D}(h:Called P f ds r)(F:Fin r' r):Called P f ds r':=
 ⟨h.1,fun hp w vs ha hd=>(h.2 hp w vs ha hd).mono fun e w' ⟨v,h',h1,h2,h3,h4,h5,h6⟩=>⟨v,h',h1,F.out _ _ h2,h3,h4,h5,h6⟩⟩
end Go.V
end
section
namespace Go.V
open Go Go.RowKit
section
variable {cx : Cx} {E : Env} {h : Pub} {a : Act} {w : World} {L : Sl} {H : Hp}
theorem Sat.rechunk (S:Sat cx E h a w L H){j:Nat}{c c':Chunk}(hj:lookH H j=some c)(hl:c.live=true)(hc:ChunkOk E h w j c'):Sat cx E h a w L ((j,c')::H):=by
 have key:∀ i x,lookH ((j,c')::H) i=some x→x.live=true → ∃ y,lookH H i=some y∧y.live=true:=fun i x hx hlx=>by
  rw[jag] at hx
  split at hx
  ·rename_i e;subst e;exact⟨c,hj,hl⟩
  ·exact⟨x,hx,hlx⟩
 refine { S with mem := { ok:=?_,base:=?_,unpub:=?_,inj:=?_ } }
 ·intro i x hx
  rw[jag] at hx
  split at hx
  ·rename_i e;subst e;cases hx;exact hc
  ·exact S.mem.ok i x hx
 ·intro i x hx hlx
  obtain⟨y,h1,h2⟩:=key i x hx hlx
  exact S.mem.base i y h1 h2
 ·intro i x hx hlx
  obtain⟨y,h1,h2⟩:=key i x hx hlx
  exact S.mem.unpub i y h1 h2
 ·intro i k x y hik hx hy lx ly
  obtain⟨x',h1,h2⟩:=key i x hx lx
  obtain⟨y',h3,h4⟩:=key k y hy ly
  exact S.mem.inj i k x' y' hik h1 h3 h2 h4
theorem Sat.reslot (S:Sat cx E h a w L H){t:Nat}{d:D}(hd:Den E h d (a.tmps.getD t Go.undef)):Sat cx E h a w ((t,d)::L) H:=by
 refine { S with knows:=fun s=>?_ }
 rw[jaI]
 split
 ·rename_i e;subst e;exact hd
 ·exact S.knows s
theorem Sat.virt0 (S:Sat cx E h a w L H){i:Nat}{k:IntKind}(hoff':cx.off≤i) :
  Sat cx (E.virt i) h a w (purge i L) ((i,.arr k [])::jaK i H):=by
 have hoff:=E.off_virt i
 have live:∀ j c',j≠i→lookH ((i,.arr k [])::jaK i H) j=some c'→c'.live=true → ∃ c0,lookH H j=some c0∧c'=jb8 i c0∧c0.live=true:=by
  intro j c' hj hc' hl
  rw[jag,if_neg (Ne.symm hj)] at hc'
  obtain⟨c0,h1,h2⟩:=jbo hc'
  exact⟨c0,h1,h2,by rw[h2,jbm] at hl;exact hl⟩
 have hne:∀ j,(E.virt i).real j=true→j≠i:=fun j hr e=>by subst e;rw[E.virt_real] at hr;cases hr
 have hre:∀ j,j≠i→(E.virt i).real j=E.real j:=fun j hj=>(hoff j hj).2.2.2.1
 refine { knows:=?_,mem:=?_,agree:=S.agree,since:=S.since,low:=fun j hj=>jfn S.low hoff hoff' j hj,side:=S.side }
 ·exact fun t=>jbW hoff (S.knows t)
 ·refine { ok:=?_,base:=?_,unpub:=?_,inj:=?_ }
  ·intro j c' hc'
   by_cases hj:j=i
   ·subst hj;rw[jag,if_pos rfl] at hc';cases hc';exact .inl ⟨E.virt_real _,rfl⟩
   ·cases hl:c'.live with
    | false=>cases c'<;>first|trivial|(simp[Chunk.live] at hl)
    | true=>
     obtain⟨c0,h1,rfl,hl'⟩:=live j c' hj hc' hl
     exact ChunkOk.env hoff hj (S.mem.ok j _ h1)
  ·intro j c' hc' hl hr
   have hj:=hne j hr
   obtain⟨c0,h1,rfl,hl'⟩:=live j c' hj hc' hl
   rw[hre j hj] at hr
   exact S.mem.base j _ h1 hl' hr
  ·intro j c' hc' hl hr o
   have hj:=hne j hr
   obtain⟨c0,h1,rfl,hl'⟩:=live j c' hj hc' hl
   rw[hre j hj] at hr
   exact S.mem.unpub j _ h1 hl' hr o
  ·intro j k' c1 c2 hjk h1 h2 l1 l2 r1 r2
   have hj:=hne j r1
   have hk:=hne k' r2
   obtain⟨c0,g1,rfl,l1'⟩:=live j c1 hj h1 l1
   obtain⟨c0',g2,rfl,l2'⟩:=live k' c2 hk h2 l2
   rw[hre j hj] at r1
   rw[hre k' hk] at r2
   exact S.mem.inj j k' _ _ hjk g1 g2 l1' l2' r1 r2
end
theorem jfB {E:Env}{h:Pub}{i:Nat}{v:Value}(hr:E.real i=false)(hv:Den E h .nil v):Den E h (.osl i 0 0) v:=by
 simp only[Den] at hv ⊢
 exact .inl ⟨hr,hv,trivial⟩
theorem jg7 {E:Env}{h:Pub}{d:D} : ∀ {ds:List D} {vs:List Value} {p:Nat} {x:D},DenL E h ds vs→ds[p]? = some x→(∀ v,Den E h x v→Den E h d v)→DenL E h (ds.set p d) vs
 | [],_,_,_,_,hp,_=>by simp at hp
 | y::ds,vs,p,x,H,hp,hd=>by
  simp only[DenL] at H
  obtain⟨v,vs',rfl,h1,h2⟩:=H
  cases p with
  | zero=>simp at hp;subst hp;simp only[List.set_cons_zero,DenL];exact⟨v,vs',rfl,hd v h1,h2⟩
  | succ p=>simp only[List.set_cons_succ,DenL];exact⟨v,vs',rfl,h1,jg7 h2 (by simpa using hp) hd⟩
theorem Wk.ghostBox {off:Nat}{L:Sl}{H:Hp}(i j p:Nat)(k:IntKind){ds:List D}(hoff:off≤i)(hj:lookH (jaK i H) j=some (.box ds))(hij:j≠i)(hp:ds[p]? = some .nil) :
  Wk off L H (purge i L) ((j,.box (ds.set p (.osl i 0 0)))::(i,.arr k [])::jaK i H):=by
 refine⟨fun cx E h a w e S=>?_⟩
 subst e
 have S1:=S.virt0 (k:=k) hoff
 have hj1:lookH ((i,.arr k [])::jaK i H) j=some (.box ds):=by rw[jag,if_neg (Ne.symm hij)];exact hj
 refine⟨E.virt i,h,S1.rechunk hj1 rfl ?_⟩
 obtain⟨h1,vs,rest,T,h2,h3,h4⟩:=S1.mem.ok j _ hj1
 exact⟨h1,vs,rest,T,h2,jg7 h3 hp (fun v hv=>jfB (E.virt_real i) hv),h4⟩
theorem Wk.ghostSlot {off:Nat}{L:Sl}{H:Hp}(i t:Nat)(k:IntKind)(hoff:off≤i)(ht:look (purge i L) t = .nil) :
  Wk off L H ((t,.osl i 0 0)::purge i L) ((i,.arr k [])::jaK i H):=by
 refine⟨fun cx E h a w e S=>?_⟩
 subst e
 have S1:=S.virt0 (k:=k) hoff
 have:=S1.knows t
 rw[ht] at this
 exact⟨E.virt i,h,S1.reslot (jfB (E.virt_real i) this)⟩
theorem Lp.pre {off:Nat}{L L1:Sl}{H H1:Hp}{body:Sl→Hp→K3→Prop}{K:K3}(hw:Wk off L H L1 H1)(hl:Lp off L1 H1 body K):Lp off L H body K:=by
 obtain⟨K2,hK2,α,I,sl,hp,μ,⟨x,hx,h0⟩,hs⟩:=hl.out
 exact⟨⟨K2,hK2,α,I,sl,hp,μ,⟨x,hx,hw.trans h0⟩,hs⟩⟩
theorem Lp.ghostBox {off : Nat} {L : Sl} {H : Hp} {body : Sl → Hp → K3 → Prop} {K : K3} (i j p : Nat) (k : IntKind) (hoff : off ≤ i) (hij : j ≠ i)
    (h : jeq i L fun L1 => jb0 i H fun H1 => jaU H1 j fun c => match c with
      | .box ds => nthK ds p fun d => match d with
        | .nil => jbq ds p [.osl i 0 0] fun ds' => Lp off L1 ((j, .box ds') :: (i, .arr k []) :: H1) body K
        | _ => False
      | _ => False) : Lp off L H body K := by
  rw [jdK, jda] at h
  obtain ⟨c, hc, h⟩ := jay h
  split at h
  case h_2 => exact h.elim
  rename_i ds
  obtain ⟨d, hd, h⟩ := jfl h
  split at h
  case h_2 => exact h.elim
  obtain ⟨_, h⟩ := jcP h
  have e : V.setAt ds p [.osl i 0 0] = ds.set p (.osl i 0 0) := by
    have hp := (jkh.1 hd).1
    unfold V.setAt
    rw [List.set_eq_take_append_cons_drop, if_pos hp]
    simp
  rw [e] at h
  exact Lp.pre (Wk.ghostBox i j p k hoff hc hij hd) h
theorem Lp.ghostSlot {off : Nat} {L : Sl} {H : Hp} {body : Sl → Hp → K3 → Prop} {K : K3} (i t : Nat) (k : IntKind) (hoff : off ≤ i)
    (h : jeq i L fun L1 => jb0 i H fun H1 => lookK L1 t fun d => match d with
      | .nil => Lp off ((t, .osl i 0 0) :: L1) ((i, .arr k []) :: H1) body K
      | _ => False) : Lp off L H body K := by
  rw [jdK, jda, jbS] at h
  split at h
  case h_2 => exact h.elim
  rename_i hd
  exact Lp.pre (Wk.ghostSlot i t k hoff hd) h
theorem Lp.pub {off : Nat} {L : Sl} {H : Hp} {body : Sl → Hp → K3 → Prop} {K : K3} (i : Nat)
    (h : jaU H i fun c => match c with
      | .gone => False
      | .lp _ => False
      | .mp _ => False
      | c => jf5 i c L fun L1 => jdl i c H fun H1 => Lp off L1 ((i, .gone) :: H1) body K) : Lp off L H body K := by
  obtain ⟨c, hc, h⟩ := jay h
  split at h
  · exact h.elim
  · exact h.elim
  · exact h.elim
  · rename_i hne hne2 hne3
    have hl : c.cel = true := by
      cases c with
      | gone => exact absurd rfl hne
      | lp p => exact absurd rfl (hne2 p)
      | mp p => exact absurd rfl (hne3 p)
      | _ => rfl
    rw [je8, je9] at h
    refine Lp.pre ⟨fun cx E h' a w _ S => ?_⟩ h
    obtain ⟨h1, _, S1, _⟩ := S.publish hc hl
    exact ⟨E, h1, S1⟩
theorem getxn {xs:List Int}{k:Nat}(h:(k:Int)<xs.length):∃ x,xs[k]? = some x∧xs.getD k 0=x:=by
 have h2:k<xs.length:=Jo
 exact⟨xs[k],jkb h2,by simp[jj8,h2]⟩
end Go.V
end
section
namespace Go.V
open Go Go.RowKit
structure Hold (B:Prop):Prop where
 out:B
theorem sd {A : Prop} (h : A := by
  first
  | exact fun _ h => (by rw [h]; rfl)
  | (intros; (repeat' (first | exact rfl | exact True.intro | exact jjG _ | with_reducible refine And.intro ?_ ?_ | assumption)); done)
  | (intros; (try simp only [V.InR, V.lo, V.hi, decide_eq_true_eq, decide_eq_false_iff_not] at *); omega)
  | (intros; (try simp only [V.InR, V.lo, V.hi, decide_eq_true_eq, decide_eq_false_iff_not, true_and, jkn, List.length_nil, jkd, jkw, List.length_replicate, List.length_map, jke, jkt, jjC, jjF] at *); omega)
  | fail) : A := h
theorem rc {A : Prop} (h : A := by
  first
  | ((conv => whnf); (repeat (first
      | ((with_reducible refine And.intro ?_ ?_); (focus (exact sd)); (conv => whnf))
      | ((with_reducible refine Or.inl (And.intro ?_ ?_)); (focus (exact sd)); (conv => whnf))
      | ((with_reducible refine Or.inr (And.intro ?_ ?_)); (focus (exact sd)); (conv => whnf)))); exact ⟨rfl⟩)
  | fail) : A := h
theorem s1 {A B : Prop} (k : B) (h : Hold B → A := by
  first
  | (intro k
     first
     | ((with_reducible first | refine And.intro ?_ jaz | refine Cnd.y ?_ | refine Cnd.n ?_ | refine Cnd.ny ?_ | refine Cnd.nn ?_); (conv => whnf))
     | ((with_reducible refine jal ?_ ?_); (focus (exact rc)); (conv => whnf))
     | ((with_reducible refine And.intro ?_ ?_); (focus (exact sd)); (conv => whnf))
     | ((with_reducible refine GrdK.yes ?_ ?_); (focus (first | with_reducible assumption | rfl)); (conv => whnf))
     | ((with_reducible refine GrdK.no ?_ ?_); (focus (first | with_reducible assumption | rfl)); (conv => whnf))
     | ((with_reducible refine Cnd.no ?_ ?_); (focus decide); (conv => whnf))
     | ((with_reducible refine Cnd.yes ?_ ?_); (focus decide); (conv => whnf))
     | ((with_reducible refine Or.inl (And.intro ?_ ?_)); (focus (exact sd)); (conv => whnf))
     | ((with_reducible refine Or.inr (And.intro ?_ ?_)); (focus (exact sd)); (conv => whnf))
     exact k.out)
  | fail) : A := h ⟨k⟩
theorem st {A B : Prop} (k : B) (h : Hold B → A := by
  first
  | (intro k
     repeat (first
     | ((with_reducible first | refine And.intro ?_ jaz | refine Cnd.y ?_ | refine Cnd.n ?_ | refine Cnd.ny ?_ | refine Cnd.nn ?_); (conv => whnf))
     | ((with_reducible refine jal ?_ ?_); (focus (exact rc)); (conv => whnf))
     | ((with_reducible refine And.intro ?_ ?_); (focus (exact sd)); (conv => whnf))
     | ((with_reducible refine GrdK.yes ?_ ?_); (focus (first | with_reducible assumption | rfl)); (conv => whnf))
     | ((with_reducible refine GrdK.no ?_ ?_); (focus (first | with_reducible assumption | rfl)); (conv => whnf))
     | ((with_reducible refine Cnd.no ?_ ?_); (focus decide); (conv => whnf))
     | ((with_reducible refine Cnd.yes ?_ ?_); (focus decide); (conv => whnf))
     | ((with_reducible refine Or.inl (And.intro ?_ ?_)); (focus (exact sd)); (conv => whnf))
     | ((with_reducible refine Or.inr (And.intro ?_ ?_)); (focus (exact sd)); (conv => whnf)))
     exact k.out)
  | fail) : A := h ⟨k⟩
theorem wk {off:Nat}{L L':Sl}{H H':Hp}(h1:wkSl L L' L':=by first|((repeat' (first|exact True.intro|exact rfl|(refine And.intro ?_ ?_)));done)|fail)
  (h2:wkHp H H' H':=by first|((repeat' (first|exact True.intro|exact rfl|(refine And.intro ?_ ?_)));done)|fail):Wk off L H L' H':=Wk.of2 h1 h2
end Go.V
end
section
namespace Go.V
open Go Go.RowKit
theorem Wk.pub {off : Nat} {L : Sl} {H : Hp} {L2 : Sl} {H2 : Hp} (i : Nat)
    (h : jaU H i fun c => match c with
      | .gone => False
      | .lp _ => False
      | .mp _ => False
      | c => jf5 i c L fun L1 => jdl i c H fun H1 => Wk off L1 ((i, .gone) :: H1) L2 H2) : Wk off L H L2 H2 := by
  obtain ⟨c, hc, h⟩ := jay h
  split at h
  · exact h.elim
  · exact h.elim
  · exact h.elim
  · rename_i hne hne2 hne3
    have hl : c.cel = true := by
      cases c with
      | gone => exact absurd rfl hne
      | lp p => exact absurd rfl (hne2 p)
      | mp p => exact absurd rfl (hne3 p)
      | _ => rfl
    rw [je8, je9] at h
    refine ⟨fun cx E h' a w e S => ?_⟩
    obtain ⟨h1, _, S1, _⟩ := S.publish hc hl
    exact h.out cx E h1 a w e S1
end Go.V
end
section
namespace Go.V
open Go Go.RowKit
abbrev tk (l:List Nat)(p:Plan):Plan:=l.foldr Plan.take p
abbrev e1 (j:Nat)(q:List Nat)(p:Plan):Plan := .ev (.cons j q p .nil)
theorem pok {P:Program}{all:List Oper}{ns:List Nd}{p:Plan}(a:P.follows .mixedOrders=true:=by kernel_rfl)(b:textB all=true:=by kernel_rfl)
  (c:planB all (ancs all) ns (List.range all.length) [] p=true:=by kernel_rfl) (d:ns.all (fun nd => !nd.plan.isGo && planB all (ancs all) ns nd.rem nd.pend nd.plan)=true:=by kernel_rfl):PlanOk P all ns p:=⟨a,b,c,d⟩
theorem br {P:Program}{tb:Tb}{inl:Inl}{N off:Nat}{a b:Code}{yl:Yl}{x:Bool}{L:Sl}{H:Hp}{K:K3}
  (h1:x=true→RunC P tb inl N a yl off L H K) (h2:x=false→RunC P tb inl N b yl off L H K):Cnd off x (RunC P tb inl N a yl off L H) (RunC P tb inl N b yl off L H) K:=Cnd.split (CondB.mk h1 h2)
theorem en {P:Program}{tb:Tb}{f:Nat}{fn:Func}{c:Code}{ds:List D}{r:D}(htb:TbOk P tb)(hf:P.funcs[f]? = some fn)(hh:RunF P tb (inlN P tb 6) (fun _ _ _ _ _=>False) fn c ds 0 [] (outK r) noP)
  (hb:fn.body=some c:=by rfl) (hn:(fn.name == "runtime.NumGoroutine")=false:=by rfl) (hl:ds.length≤fn.ntmps:=by exact jjw rfl):Called P f ds r:=jhb htb 6 ⟨hf,hb,hn,hl⟩ hh
abbrev sl2 (n:Nat)(l:List D):D := .slf 2 n (fun j=>List.take 2 (List.drop (j*2) l))
theorem a2 {A B:Prop}(a:A)(b:B):A∧B:=⟨a,b⟩
theorem a3 {A B C:Prop}(a:A)(b:B)(c:C):A∧B∧C:=⟨a,b,c⟩
theorem a4 {A B C D:Prop}(a:A)(b:B)(c:C)(d:D):A∧B∧C∧D:=⟨a,b,c,d⟩
theorem a5 {A B C D E:Prop}(a:A)(b:B)(c:C)(d:D)(e:E):A∧B∧C∧D∧E:=⟨a,b,c,d,e⟩
theorem a7 {A B C D E F G:Prop}(a:A)(b:B)(c:C)(d:D)(e:E)(f:F)(g:G):A∧B∧C∧D∧E∧F∧G:=⟨a,b,c,d,e,f,g⟩
theorem a8 {A B C D E F G I:Prop}(a:A)(b:B)(c:C)(d:D)(e:E)(f:F)(g:G)(i:I):A∧B∧C∧D∧E∧F∧G∧I:=⟨a,b,c,d,e,f,g,i⟩
theorem r0 {A B Z : Prop} (z : Z)  (k : B) (h : Hold B → Z → A := by
  first
  | (intro k z
     (conv => whnf)
     (try simp only [z])
     repeat ((first | refine V.s1 ?_); (try simp only [z]))
     exact k.out)
  | fail) : A := h ⟨k⟩ z
theorem d0 {A Z : Prop} (z : Z)  (h : Z → A := by
  first
  | (intro z
     (conv => whnf); (try simp only [z])
     repeat' (first | exact V.wk | exact True.intro | ((with_reducible refine And.intro ?_ jaz); (conv => whnf); (try simp only [z])) | ((with_reducible first | refine jas ?_ ?_ | refine jau ?_ ?_) <;> (conv => whnf); (try simp only [z])) | ((first | refine V.s1 ?_ | ((with_reducible refine jal ?_ ?_); (focus ((conv => whnf); (try simp only [z]); (repeat ((first | refine V.s1 ?_); (try simp only [z]))); exact ⟨rfl⟩)); (conv => whnf))); (try simp only [z])) | (refine And.intro ?_ ?_ <;> (conv => whnf); (try simp only [z]))))
  | fail) : A := h z
theorem r1 {A B Z C1 : Prop} (z : Z) (c1 : C1) (k : B) (h : Hold B → Z → C1 → A := by
  first
  | (intro k z c1
     (conv => whnf)
     (try simp only [z])
     repeat ((first | refine V.s1 ?_ | ((try ((with_reducible refine .ext ?_); (conv => whnf); (try simp only [z]))); (with_reducible refine jaa (r := ?_) ?_ ?_); rotate_left; (focus (first | exact c1 | (apply c1; done))); (conv => whnf))); (try simp only [z]))
     exact k.out)
  | fail) : A := h ⟨k⟩ z c1
theorem d1 {A Z C1 : Prop} (z : Z) (c1 : C1) (h : Z → C1 → A := by
  first
  | (intro z c1
     (conv => whnf); (try simp only [z])
     repeat' (first | exact V.wk | exact True.intro | ((with_reducible refine And.intro ?_ jaz); (conv => whnf); (try simp only [z])) | ((with_reducible first | refine jas ?_ ?_ | refine jau ?_ ?_) <;> (conv => whnf); (try simp only [z])) | ((first | refine V.s1 ?_ | ((with_reducible refine jal ?_ ?_); (focus ((conv => whnf); (try simp only [z]); (repeat ((first | refine V.s1 ?_); (try simp only [z]))); exact ⟨rfl⟩)); (conv => whnf)) | ((try ((with_reducible refine .ext ?_); (conv => whnf); (try simp only [z]))); (with_reducible refine jaa (r := ?_) ?_ ?_); rotate_left; (focus (first | exact c1 | (apply c1; done))); (conv => whnf))); (try simp only [z])) | (refine And.intro ?_ ?_ <;> (conv => whnf); (try simp only [z]))))
  | fail) : A := h z c1
theorem q1 {A B C1 : Prop} (c1 : C1) (k : B) (h : Hold B → C1 → A := by
  first
  | (intro k c1
     repeat ((try ((with_reducible refine .ext ?_); (conv => whnf))); (with_reducible refine jaa (r := ?_) ?_ ?_); rotate_left; (focus (first | exact c1 | (apply c1; done))); (conv => whnf); refine V.st ?_)
     exact k.out)
  | fail) : A := h ⟨k⟩ c1
theorem r2 {A B Z C1 C2 : Prop} (z : Z) (c1 : C1) (c2 : C2) (k : B) (h : Hold B → Z → C1 → C2 → A := by
  first
  | (intro k z c1 c2
     (conv => whnf)
     (try simp only [z])
     repeat ((first | refine V.s1 ?_ | ((try ((with_reducible refine .ext ?_); (conv => whnf); (try simp only [z]))); (with_reducible refine jaa (r := ?_) ?_ ?_); rotate_left; (focus (first | exact c1 | (apply c1; done) | exact c2 | (apply c2; done))); (conv => whnf))); (try simp only [z]))
     exact k.out)
  | fail) : A := h ⟨k⟩ z c1 c2
theorem d2 {A Z C1 C2 : Prop} (z : Z) (c1 : C1) (c2 : C2) (h : Z → C1 → C2 → A := by
  first
  | (intro z c1 c2
     (conv => whnf); (try simp only [z])
     repeat' (first | exact V.wk | exact True.intro | ((with_reducible refine And.intro ?_ jaz); (conv => whnf); (try simp only [z])) | ((with_reducible first | refine jas ?_ ?_ | refine jau ?_ ?_) <;> (conv => whnf); (try simp only [z])) | ((first | refine V.s1 ?_ | ((with_reducible refine jal ?_ ?_); (focus ((conv => whnf); (try simp only [z]); (repeat ((first | refine V.s1 ?_); (try simp only [z]))); exact ⟨rfl⟩)); (conv => whnf)) | ((try ((with_reducible refine .ext ?_); (conv => whnf); (try simp only [z]))); (with_reducible refine jaa (r := ?_) ?_ ?_); rotate_left; (focus (first | exact c1 | (apply c1; done) | exact c2 | (apply c2; done))); (conv => whnf))); (try simp only [z])) | (refine And.intro ?_ ?_ <;> (conv => whnf); (try simp only [z]))))
  | fail) : A := h z c1 c2
theorem q2 {A B C1 C2 : Prop} (c1 : C1) (c2 : C2) (k : B) (h : Hold B → C1 → C2 → A := by
  first
  | (intro k c1 c2
     repeat ((try ((with_reducible refine .ext ?_); (conv => whnf))); (with_reducible refine jaa (r := ?_) ?_ ?_); rotate_left; (focus (first | exact c1 | (apply c1; done) | exact c2 | (apply c2; done))); (conv => whnf); refine V.st ?_)
     exact k.out)
  | fail) : A := h ⟨k⟩ c1 c2
theorem r3 {A B Z C1 C2 C3 : Prop} (z : Z) (c1 : C1) (c2 : C2) (c3 : C3) (k : B) (h : Hold B → Z → C1 → C2 → C3 → A := by
  first
  | (intro k z c1 c2 c3
     (conv => whnf)
     (try simp only [z])
     repeat ((first | refine V.s1 ?_ | ((try ((with_reducible refine .ext ?_); (conv => whnf); (try simp only [z]))); (with_reducible refine jaa (r := ?_) ?_ ?_); rotate_left; (focus (first | exact c1 | (apply c1; done) | exact c2 | (apply c2; done) | exact c3 | (apply c3; done))); (conv => whnf))); (try simp only [z]))
     exact k.out)
  | fail) : A := h ⟨k⟩ z c1 c2 c3
theorem d3 {A Z C1 C2 C3 : Prop} (z : Z) (c1 : C1) (c2 : C2) (c3 : C3) (h : Z → C1 → C2 → C3 → A := by
  first
  | (intro z c1 c2 c3
     (conv => whnf); (try simp only [z])
     repeat' (first | exact V.wk | exact True.intro | ((with_reducible refine And.intro ?_ jaz); (conv => whnf); (try simp only [z])) | ((with_reducible first | refine jas ?_ ?_ | refine jau ?_ ?_) <;> (conv => whnf); (try simp only [z])) | ((first | refine V.s1 ?_ | ((with_reducible refine jal ?_ ?_); (focus ((conv => whnf); (try simp only [z]); (repeat ((first | refine V.s1 ?_); (try simp only [z]))); exact ⟨rfl⟩)); (conv => whnf)) | ((try ((with_reducible refine .ext ?_); (conv => whnf); (try simp only [z]))); (with_reducible refine jaa (r := ?_) ?_ ?_); rotate_left; (focus (first | exact c1 | (apply c1; done) | exact c2 | (apply c2; done) | exact c3 | (apply c3; done))); (conv => whnf))); (try simp only [z])) | (refine And.intro ?_ ?_ <;> (conv => whnf); (try simp only [z]))))
  | fail) : A := h z c1 c2 c3
theorem q3 {A B C1 C2 C3 : Prop} (c1 : C1) (c2 : C2) (c3 : C3) (k : B) (h : Hold B → C1 → C2 → C3 → A := by
  first
  | (intro k c1 c2 c3
     repeat ((try ((with_reducible refine .ext ?_); (conv => whnf))); (with_reducible refine jaa (r := ?_) ?_ ?_); rotate_left; (focus (first | exact c1 | (apply c1; done) | exact c2 | (apply c2; done) | exact c3 | (apply c3; done))); (conv => whnf); refine V.st ?_)
     exact k.out)
  | fail) : A := h ⟨k⟩ c1 c2 c3
theorem r4 {A B Z C1 C2 C3 C4 : Prop} (z : Z) (c1 : C1) (c2 : C2) (c3 : C3) (c4 : C4) (k : B) (h : Hold B → Z → C1 → C2 → C3 → C4 → A := by
  first
  | (intro k z c1 c2 c3 c4
     (conv => whnf)
     (try simp only [z])
     repeat ((first | refine V.s1 ?_ | ((try ((with_reducible refine .ext ?_); (conv => whnf); (try simp only [z]))); (with_reducible refine jaa (r := ?_) ?_ ?_); rotate_left; (focus (first | exact c1 | (apply c1; done) | exact c2 | (apply c2; done) | exact c3 | (apply c3; done) | exact c4 | (apply c4; done))); (conv => whnf))); (try simp only [z]))
     exact k.out)
  | fail) : A := h ⟨k⟩ z c1 c2 c3 c4
theorem d4 {A Z C1 C2 C3 C4 : Prop} (z : Z) (c1 : C1) (c2 : C2) (c3 : C3) (c4 : C4) (h : Z → C1 → C2 → C3 → C4 → A := by
  first
  | (intro z c1 c2 c3 c4
     (conv => whnf); (try simp only [z])
     repeat' (first | exact V.wk | exact True.intro | ((with_reducible refine And.intro ?_ jaz); (conv => whnf); (try simp only [z])) | ((with_reducible first | refine jas ?_ ?_ | refine jau ?_ ?_) <;> (conv => whnf); (try simp only [z])) | ((first | refine V.s1 ?_ | ((with_reducible refine jal ?_ ?_); (focus ((conv => whnf); (try simp only [z]); (repeat ((first | refine V.s1 ?_); (try simp only [z]))); exact ⟨rfl⟩)); (conv => whnf)) | ((try ((with_reducible refine .ext ?_); (conv => whnf); (try simp only [z]))); (with_reducible refine jaa (r := ?_) ?_ ?_); rotate_left; (focus (first | exact c1 | (apply c1; done) | exact c2 | (apply c2; done) | exact c3 | (apply c3; done) | exact c4 | (apply c4; done))); (conv => whnf))); (try simp only [z])) | (refine And.intro ?_ ?_ <;> (conv => whnf); (try simp only [z]))))
  | fail) : A := h z c1 c2 c3 c4
theorem q4 {A B C1 C2 C3 C4 : Prop} (c1 : C1) (c2 : C2) (c3 : C3) (c4 : C4) (k : B) (h : Hold B → C1 → C2 → C3 → C4 → A := by
  first
  | (intro k c1 c2 c3 c4
     repeat ((try ((with_reducible refine .ext ?_); (conv => whnf))); (with_reducible refine jaa (r := ?_) ?_ ?_); rotate_left; (focus (first | exact c1 | (apply c1; done) | exact c2 | (apply c2; done) | exact c3 | (apply c3; done) | exact c4 | (apply c4; done))); (conv => whnf); refine V.st ?_)
     exact k.out)
  | fail) : A := h ⟨k⟩ c1 c2 c3 c4
theorem d6 {A Z C1 C2 C3 C4 C5 C6 : Prop} (z : Z) (c1 : C1) (c2 : C2) (c3 : C3) (c4 : C4) (c5 : C5) (c6 : C6) (h : Z → C1 → C2 → C3 → C4 → C5 → C6 → A := by
  first
  | (intro z c1 c2 c3 c4 c5 c6
     (conv => whnf); (try simp only [z])
     repeat' (first | exact V.wk | exact True.intro | ((with_reducible refine And.intro ?_ jaz); (conv => whnf); (try simp only [z])) | ((with_reducible first | refine jas ?_ ?_ | refine jau ?_ ?_) <;> (conv => whnf); (try simp only [z])) | ((first | refine V.s1 ?_ | ((with_reducible refine jal ?_ ?_); (focus ((conv => whnf); (try simp only [z]); (repeat ((first | refine V.s1 ?_); (try simp only [z]))); exact ⟨rfl⟩)); (conv => whnf)) | ((try ((with_reducible refine .ext ?_); (conv => whnf); (try simp only [z]))); (with_reducible refine jaa (r := ?_) ?_ ?_); rotate_left; (focus (first | exact c1 | (apply c1; done) | exact c2 | (apply c2; done) | exact c3 | (apply c3; done) | exact c4 | (apply c4; done) | exact c5 | (apply c5; done) | exact c6 | (apply c6; done))); (conv => whnf))); (try simp only [z])) | (refine And.intro ?_ ?_ <;> (conv => whnf); (try simp only [z]))))
  | fail) : A := h z c1 c2 c3 c4 c5 c6
theorem d7 {A Z C1 C2 C3 C4 C5 C6 C7 : Prop} (z : Z) (c1 : C1) (c2 : C2) (c3 : C3) (c4 : C4) (c5 : C5) (c6 : C6) (c7 : C7) (h : Z → C1 → C2 → C3 → C4 → C5 → C6 → C7 → A := by
  first
  | (intro z c1 c2 c3 c4 c5 c6 c7
     (conv => whnf); (try simp only [z])
     repeat' (first | exact V.wk | exact True.intro | ((with_reducible refine And.intro ?_ jaz); (conv => whnf); (try simp only [z])) | ((with_reducible first | refine jas ?_ ?_ | refine jau ?_ ?_) <;> (conv => whnf); (try simp only [z])) | ((first | refine V.s1 ?_ | ((with_reducible refine jal ?_ ?_); (focus ((conv => whnf); (try simp only [z]); (repeat ((first | refine V.s1 ?_); (try simp only [z]))); exact ⟨rfl⟩)); (conv => whnf)) | ((try ((with_reducible refine .ext ?_); (conv => whnf); (try simp only [z]))); (with_reducible refine jaa (r := ?_) ?_ ?_); rotate_left; (focus (first | exact c1 | (apply c1; done) | exact c2 | (apply c2; done) | exact c3 | (apply c3; done) | exact c4 | (apply c4; done) | exact c5 | (apply c5; done) | exact c6 | (apply c6; done) | exact c7 | (apply c7; done))); (conv => whnf))); (try simp only [z])) | (refine And.intro ?_ ?_ <;> (conv => whnf); (try simp only [z]))))
  | fail) : A := h z c1 c2 c3 c4 c5 c6 c7
theorem u1 {A B C1 : Prop} (c1 : C1) (k : B) (h : Hold B → C1 → A := by
  first
  | (intro k c1
     (conv => whnf)
     refine V.st ?_
     repeat ((try ((with_reducible refine .ext ?_); (conv => whnf))); (with_reducible refine jaa (r := ?_) ?_ ?_); rotate_left; (focus (first | exact c1 | (apply c1; done))); (conv => whnf); refine V.st ?_)
     exact k.out)
  | fail) : A := h ⟨k⟩ c1
theorem u2 {A B C1 C2 : Prop} (c1 : C1) (c2 : C2) (k : B) (h : Hold B → C1 → C2 → A := by
  first
  | (intro k c1 c2
     (conv => whnf)
     refine V.st ?_
     repeat ((try ((with_reducible refine .ext ?_); (conv => whnf))); (with_reducible refine jaa (r := ?_) ?_ ?_); rotate_left; (focus (first | exact c1 | (apply c1; done) | exact c2 | (apply c2; done))); (conv => whnf); refine V.st ?_)
     exact k.out)
  | fail) : A := h ⟨k⟩ c1 c2
theorem u3 {A B C1 C2 C3 : Prop} (c1 : C1) (c2 : C2) (c3 : C3) (k : B) (h : Hold B → C1 → C2 → C3 → A := by
  first
  | (intro k c1 c2 c3
     (conv => whnf)
     refine V.st ?_
     repeat ((try ((with_reducible refine .ext ?_); (conv => whnf))); (with_reducible refine jaa (r := ?_) ?_ ?_); rotate_left; (focus (first | exact c1 | (apply c1; done) | exact c2 | (apply c2; done) | exact c3 | (apply c3; done))); (conv => whnf); refine V.st ?_)
     exact k.out)
  | fail) : A := h ⟨k⟩ c1 c2 c3
theorem u4 {A B C1 C2 C3 C4 : Prop} (c1 : C1) (c2 : C2) (c3 : C3) (c4 : C4) (k : B) (h : Hold B → C1 → C2 → C3 → C4 → A := by
  first
  | (intro k c1 c2 c3 c4
     (conv => whnf)
     refine V.st ?_
     repeat ((try ((with_reducible refine .ext ?_); (conv => whnf))); (with_reducible refine jaa (r := ?_) ?_ ?_); rotate_left; (focus (first | exact c1 | (apply c1; done) | exact c2 | (apply c2; done) | exact c3 | (apply c3; done) | exact c4 | (apply c4; done))); (conv => whnf); refine V.st ?_)
     exact k.out)
  | fail) : A := h ⟨k⟩ c1 c2 c3 c4
theorem u5 {A B C1 C2 C3 C4 C5 : Prop} (c1 : C1) (c2 : C2) (c3 : C3) (c4 : C4) (c5 : C5) (k : B) (h : Hold B → C1 → C2 → C3 → C4 → C5 → A := by
  first
  | (intro k c1 c2 c3 c4 c5
     (conv => whnf)
     refine V.st ?_
     repeat ((try ((with_reducible refine .ext ?_); (conv => whnf))); (with_reducible refine jaa (r := ?_) ?_ ?_); rotate_left; (focus (first | exact c1 | (apply c1; done) | exact c2 | (apply c2; done) | exact c3 | (apply c3; done) | exact c4 | (apply c4; done) | exact c5 | (apply c5; done))); (conv => whnf); refine V.st ?_)
     exact k.out)
  | fail) : A := h ⟨k⟩ c1 c2 c3 c4 c5
theorem u6 {A B C1 C2 C3 C4 C5 C6 : Prop} (c1 : C1) (c2 : C2) (c3 : C3) (c4 : C4) (c5 : C5) (c6 : C6) (k : B) (h : Hold B → C1 → C2 → C3 → C4 → C5 → C6 → A := by
  first
  | (intro k c1 c2 c3 c4 c5 c6
     (conv => whnf)
     refine V.st ?_
     repeat ((try ((with_reducible refine .ext ?_); (conv => whnf))); (with_reducible refine jaa (r := ?_) ?_ ?_); rotate_left; (focus (first | exact c1 | (apply c1; done) | exact c2 | (apply c2; done) | exact c3 | (apply c3; done) | exact c4 | (apply c4; done) | exact c5 | (apply c5; done) | exact c6 | (apply c6; done))); (conv => whnf); refine V.st ?_)
     exact k.out)
  | fail) : A := h ⟨k⟩ c1 c2 c3 c4 c5 c6
theorem il {A B C : Prop} (c : C) (k : B) (h : Hold B → C → A := by
  first
  | (intro k c
     refine .inl ?_
     (conv => whnf)
     refine ⟨0, _, _, ⟨c, rfl, rfl, jjw rfl⟩, ?_⟩
     exact k.out)
  | fail) : A := h ⟨k⟩ c
end Go.V
end
section
open Go Go.RowKit
namespace Go.V
def pubOf (w:World):Pub:=fun b o=>w.cell? ⟨b,o,none⟩
theorem jfO (w:World)(hg:GlW w):Agree (pubOf w) w:=⟨fun _ _ _ e=>e,fun g vs h i v hv=>by
 obtain⟨_,T,f,h2⟩:=hg.1 g vs h
 unfold pubOf
 rw[cell_of_row w g i _ T f h2]
 simpa using hv,hg,fun g h=>by
 obtain⟨tp,p,T,f,h2⟩:=hg.2 g h
 exact⟨.iface tp p,by unfold pubOf;rw[cell_of_row w g 0 _ T f h2];rfl⟩⟩
theorem Called.walk {P:Program}{f:Nat}{ds:List D}(c:Called P f ds (.bool true))(w:World){vs:List Value}(hd:DenL Env.dummy (pubOf w) ds vs)(hg:GlW w:=by first|exact⟨fun _ _ h=>absurd h List.not_mem_nil,fun _ h=>absurd h List.not_mem_nil⟩|fail) :
  Calls P f vs.toArray w fun e w'=>e = .returned (.bool true)∧Below w.heap.size w w':=by
 refine(c.call (pubOf w) w vs (jfO w hg) hd).mono fun e w' ⟨v,h',he,hv,_,_,hb,_⟩=>?_
 simp only[Den] at hv
 subst hv
 exact⟨he,hb⟩
end Go.V
end
section
open Go Go.RowKit
namespace Go.V
inductive L0 where
  | bool
  | int (k : IntKind)
  | str
def l0Ok:L0→Value→Prop
 | .bool,v => ∃ b,v = .bool b
 | .int k,v => ∃ n,v = .int k n∧InR k n
 | .str,v => ∃ s:List UInt8,v = .string ⟨s.toArray⟩∧s.length≤281474976710656
def l0sOk:List L0→List Value→Prop
 | [],vs=>vs=[]
 | l::ls,vs => ∃ v vs',vs=v::vs'∧l0Ok l v∧l0sOk ls vs'
def l0D:L0→D→Prop
 | .bool,d => ∃ b,d = .bool b
 | .int k,d => ∃ n,d = .int k n∧InR k n
 | .str,d => ∃ s:List UInt8,d = .str s∧s.length≤281474976710656
def l0sD:List L0→List D→Prop
 | [],ds=>ds=[]
 | l::ls,ds => ∃ d ds',ds=d::ds'∧l0D l d∧l0sD ls ds'
theorem l0s_den {h:Pub} : ∀ {ls:List L0} {vs:List Value},l0sOk ls vs → ∃ ds,DenL Env.dummy h ds vs∧l0sD ls ds∧(∀ v∈vs,v.oneCell'=true)∧vs.length=ls.length
 | [],vs,H=>⟨[],by simp only[l0sOk] at H;subst H;exact⟨rfl,rfl,fun v hv=>by simp at hv,rfl⟩⟩
 | l::ls,vs,⟨v,vs',e,h1,h2⟩=>by
  subst e
  obtain⟨ds,k1,k2,k3,k4⟩:=l0s_den h2
  have:∃ d,Den Env.dummy h d v∧l0D l d∧v.oneCell'=true:=by
   cases l with
   | bool=>obtain⟨b,rfl⟩:=h1;exact⟨.bool b,rfl,⟨b,rfl⟩,rfl⟩
   | int k=>obtain⟨n,rfl,hn⟩:=h1;exact⟨.int k n,⟨rfl,hn⟩,⟨n,rfl,hn⟩,rfl⟩
   | str=>obtain⟨s,rfl,hs⟩:=h1;exact⟨.str s,⟨rfl,hs⟩,⟨s,rfl,hs⟩,rfl⟩
  obtain⟨d,j1,j2,j3⟩:=this
  exact⟨d::ds,⟨v,vs',rfl,j1,k1⟩,⟨d,ds,rfl,j2,k2⟩,fun u hu=>by
   rcases jka.1 hu with rfl|hu
   ·exact j3
   ·exact k3 u hu,by simp[k4]⟩
inductive Lf where
  | bool
  | int (k : IntKind)
  | ints (k : IntKind)
  | str
  | recs (ls : List L0)
def leafOk (w:World):Lf→Value→Prop
 | .bool,v => ∃ b,v = .bool b
 | .int k,v => ∃ n,v = .int k n∧InR k n
 | .ints k,v => ∃ zs,jaQ (pubOf w) k zs v
 | .str,v => ∃ s:List UInt8,v = .string ⟨s.toArray⟩∧s.length≤281474976710656
 | .recs ls,v => ∃ n f,Den Env.dummy (pubOf w) (.slf ls.length n f) v∧n≤140737488355328 ∧ ∀ j,j<n→l0sD ls (f j)
def Lf.l0:Lf→Option L0
 | .bool=>some .bool
 | .int k=>some (.int k)
 | .str=>some .str
 | _=>none
def lf0s:List Lf→Option (List L0)
 | []=>some []
 | l::ls=>match l.l0,lf0s ls with|some x,some xs=>some (x::xs)|_,_=>none
def leavesOk (w:World):List Lf→List Value→Prop
 | [],vs=>vs=[]
 | l::ls,vs => ∃ v vs',vs=v::vs'∧leafOk w l v∧leavesOk w ls vs'
theorem leavesOk.app {w:World} : ∀ {a b:List Lf} {xs ys:List Value},leavesOk w a xs→leavesOk w b ys→leavesOk w (a++b) (xs++ys)
 | [],_,_,_,h,k=>by simp only[leavesOk] at h;subst h;exact k
 | _::a,b,_,ys,⟨v,vs',rfl,h1,h2⟩,k=>⟨v,vs'++ys,rfl,h1,leavesOk.app h2 k⟩
theorem l0s_of {w:World} : ∀ {ls:List Lf} {l0:List L0} {vs:List Value},lf0s ls=some l0→leavesOk w ls vs→l0sOk l0 vs
 | [],l0,vs,h,H=>by cases h;exact H
 | l::ls,l0,vs,h,⟨v,vs',e,h1,h2⟩=>by
  unfold lf0s at h
  split at h
  ·rename_i x xs e1 e2
   cases h
   refine⟨v,vs',e,?_,l0s_of e2 h2⟩
   cases l<;>cases e1<;>exact h1
  ·cases h
def rep (l:List Lf):Nat→List Lf
 | 0=>[]
 | n+1=>l++rep l n
def jcY (P:Program)(g:TypeId→Option (List Lf)):List Field→Nat→Option (List Lf)
 | [],_=>some []
 | fd::fds,off=>if fd.offset=off then (g fd.type).bind fun l=>if P.cellsOf fd.type=l.length then (jcY P g fds (off+l.length)).map (l ++ ·) else none else none
def leaf0 (P:Program)(t:TypeId):Option (List Lf):=match P.underlying t with
 | some .bool=>some [.bool]
 | some (.int k)=>some [.int k]
 | some .string=>some [.str]
 | _=>none
def leaves (P:Program):Nat→TypeId→Option (List Lf)
 | 0,_=>none
 | f+1,t=>match P.underlying t with
  | some .bool=>some [.bool]
  | some (.int k)=>some [.int k]
  | some .string=>some [.str]
  | some (.slice e)=>match P.underlying e with
   | some (.int k)=>if P.cellsOf e=1∧1≤P.bytesOf e then some [.ints k] else none
   | some (.struct fs)=>match jcY P (leaf0 P) fs.toList 0 with
    | some l=>match lf0s l with
     | some l0=>if P.cellsOf e=l.length∧1≤P.bytesOf e then some [.recs l0] else none
     | none=>none
    | none=>none
   | _=>none
  | some (.struct fs)=>(jcY P (leaves P f) fs.toList 0).bind fun l=>if P.cellsOf t=l.length then some l else none
  | some (.array n e)=>(leaves P f e).bind fun l=>if P.cellsOf e=l.length∧P.cellsOf t=(rep l n).length then some (rep l n) else none
  | _=>none
def jfP (v:Value):Prop := ∀ a len cap,v = .slice (some a) len cap→a.spot=none
theorem jdp {P : Program} {w : World} {r : Reach} {base : Nat} {t : TypeId} {v : Value} (h : Cell.okWide P w r base t v) : jfP v := by
  intro a len cap e
  subst e
  unfold Cell.okWide at h
  split at h
  all_goals first
    | (rename_i h1; simp at h1; done)
    | skip
  unfold Cell.ok at h
  split at h <;> simp_all [World.has]
theorem spotOk_of {P : Program} {w : World} {r : Reach} {base : Nat} {t : TypeId} {v : Value} (h : Value.okWide P w r base t v) : ∀ c ∈ v.cells.toList, jfP c := by
  unfold Value.okWide at h
  split at h
  · obtain ⟨cs, rfl, _, ts, _, _, h3⟩ := h
    intro c hc
    obtain ⟨i, hi, rfl⟩ := List.mem_iff_getElem.1 hc
    obtain ⟨u, _, hu⟩ := h3 i _ (by simp only [Value.cells] at hi ⊢; exact Array.getElem?_eq_getElem (by simpa using hi))
    exact jdp hu
  · obtain ⟨cs, rfl, _, ts, _, _, h3⟩ := h
    intro c hc
    obtain ⟨i, hi, rfl⟩ := List.mem_iff_getElem.1 hc
    obtain ⟨u, _, hu⟩ := h3 i _ (by simp only [Value.cells] at hi ⊢; exact Array.getElem?_eq_getElem (by simpa using hi))
    exact jdp hu
  · intro c hc
    have : c = v ∨ ∃ cs, v = .agg cs := by
      cases v <;> simp_all [Value.cells]
    rcases this with rfl | ⟨cs, rfl⟩
    · exact jdp h
    · exfalso
      unfold Cell.okWide at h
      split at h
      all_goals first
        | (rename_i h1; simp at h1; done)
        | skip
      unfold Cell.ok at h
      split at h <;> simp_all
section
variable {H : Type} {enc : TypeId × Value → H} {P : Program} {w : World} {base : Nat} {spare : Nat → Bool} {held : Bool}
theorem inR_wf {k:IntKind}{n:Int}(h:(Lit.int k n).wf=true):InR k n:=by
 cases k<;>simp[Lit.wf,IntKind.min,IntKind.max,IntKind.signed,IntKind.bits] at h<;>simp[InR,lo,hi]<;>omega
theorem leaf_ints {t e:TypeId}{k:IntKind}{fuel:Nat}{cs:List Value}{x:DataW H×List MemPlace}(ht:P.underlying t=some (.slice e))(he:P.underlying e=some (.int k))(hc:P.cellsOf e=1)(hb:1≤P.bytesOf e)
  (h:DataW.trod enc P w base spare held fuel t cs=some x) (hz:(x.1.weights P t).all (· ≤ reachBytes)=true) (hs:∀ v∈cs,jfP v):leavesOk w [.ints k] cs:=by
 rcases Go.ChangeShapes.open_ints ht he hc h with⟨rfl,_⟩|⟨a,len,cap,zs,rfl,_,hl,hm,hzl,rfl,hcell,hwf⟩
 ·exact⟨_,[],rfl,⟨[],none,0,rfl,jjG _,Jd,Js,rfl,rfl⟩,rfl⟩
 ·have hsp:a.spot=none:=hs _ Js a len cap rfl
  have hlz:len≤zs.length:=by rw[hzl];split<;>omega
  have hw:zs.length≤reachBytes:=by
   simp only[DataW.weights,ht,List.all_cons,jjv,decide_eq_true_eq,ChangeShapes.lits,List.length_map,jke,jkt] at hz
   have h1:=hz.1
   have e1:min len zs.length+(zs.length-len)=zs.length:=Jo
   rw[e1] at h1
   exact jjH (Nat.le_mul_of_pos_right _ hb) h1
  have hr:reachBytes≤281474976710656:=Jd
  have htl:(zs.take len).length=len:=by rw[jke];omega
  refine⟨_,[],rfl,⟨zs.take len,some a,cap,by rw[htl],Jo,Jo,fun n hn=>inR_wf (hwf n (jkj hn)),hsp,fun i n hi=>?_⟩,rfl⟩
  have hi2:i<len:=by
   have:=(jkh.1 hi).1
   omega
  have hg:zs[i]? = some n:=by rw[← hi,jkx hi2]
  have:=hcell i Jo
  rw[jj8,hg] at this
  have ea:a.add i=⟨a.block,a.off+i,none⟩:=by
   obtain⟨b,o,s⟩:=a
   subst hsp
   unfold Addr.add
   split
   ·rename_i h0
    subst h0
    rfl
   ·rfl
  rw[ea] at this
  exact this
theorem jgc {g:TypeId→Option (List Lf)}{n:Nat}{cs:List Value}{S:Value→Prop}
  (ih:∀ (t:TypeId) (ls:List Lf) (cs:List Value) (x:DataW H×List MemPlace),g t=some ls→DataW.trod enc P w base spare held n t cs=some x→(x.1.weights P t).all (· ≤ reachBytes)=true→(∀ v∈cs,S v)→leavesOk w ls cs)
  (hs:∀ v∈cs,S v) :
  ∀ (fds:List Field) (off:Nat) (ls:List Lf) (xs:List (DataW H×List MemPlace)),jcY P g fds off=some ls→xs.length=fds.length →
   (∀ (i:Nat) (f:Field),fds[i]? = some f→DataW.trod enc P w base spare held n f.type ((cs.drop f.offset).take (P.cellsOf f.type))=xs[i]?) →
   (DataW.weightsEach P (fds.map (·.type)) (xs.map (·.1))).all (· ≤ reachBytes)=true→leavesOk w ls ((cs.drop off).take ls.length):=by
 intro fds
 induction fds with
 | nil=>
  intro off ls xs h _ _ _
  simp only[jcY,Option.some.injEq] at h
  subst h
  rfl
 | cons fd fds ihf=>
  intro off ls xs h hl hx hz
  cases xs with
  | nil=>simp at hl
  | cons x xs=>
   simp only[jcY] at h
   split at h
   case isFalse=>cases h
   case isTrue ho=>
    cases hg:g fd.type with
    | none=>rw[hg] at h;cases h
    | some l=>
     rw[hg] at h
     simp only[Option.bind_some] at h
     split at h
     case isFalse=>cases h
     case isTrue hc=>
      obtain⟨r,hr,rfl⟩:=Option.map_eq_some_iff.1 h
      simp only[List.map_cons,DataW.weightsEach,List.all_append,jjv] at hz
      have h1:=ih _ _ _ _ hg (hx 0 fd rfl) hz.1 (fun v hv=>hs v (jki (jkj hv)))
      have h2:=ihf (off+l.length) r xs hr (by simpa using hl) (fun i f hf=>hx (i+1) f hf) hz.2
      rw[hc,ho] at h1
      rw[jkd,List.take_add,List.drop_drop]
      exact h1.app h2
theorem leaf0_ok {n:Nat}{t:TypeId}{ls:List Lf}{cs:List Value}{x:DataW H×List MemPlace}(h:leaf0 P t=some ls)(hd:DataW.trod enc P w base spare held n t cs=some x)
  (hz:(x.1.weights P t).all (· ≤ reachBytes)=true):leavesOk w ls cs:=by
 unfold leaf0 at h
 split at h
 ·rename_i ht
  cases h
  obtain⟨b,rfl,_⟩:=DataW.trod_bool ht hd
  exact⟨_,[],rfl,⟨b,rfl⟩,rfl⟩
 ·rename_i k ht
  cases h
  obtain⟨n,rfl,_,hwf⟩:=DataW.trod_int ht hd
  exact⟨_,[],rfl,⟨n,rfl,inR_wf hwf⟩,rfl⟩
 ·rename_i ht
  cases h
  obtain⟨s,rfl,hx,hwf⟩:=DataW.trod_string ht hd
  subst hx
  have hr:reachBytes≤281474976710656:=Jd
  refine⟨_,[],rfl,⟨s.data.toList,rfl,?_⟩,rfl⟩
  simp only[DataW.weights,ht,List.all_cons,List.all_nil,Bool.and_true,decide_eq_true_eq] at hz
  omega
 ·cases h
theorem jdw {e:TypeId} : ∀ {l:List (DataW H)} {i:Nat} {y:DataW H},(DataW.weightsAll P e l).all (· ≤ reachBytes)=true→l[i]? = some y→(y.weights P e).all (· ≤ reachBytes)=true
 | [],_,_,_,h=>by simp at h
 | x::l,0,y,hz,h=>by
  simp only[DataW.weightsAll,List.all_append,jjv] at hz
  simp at h;subst h;exact hz.1
 | x::l,i+1,y,hz,h=>by
  simp only[DataW.weightsAll,List.all_append,jjv] at hz
  exact jdw hz.2 (by simpa using h)
theorem leaf_recs {t e:TypeId}{fs:Array Field}{l:List Lf}{l0:List L0}{fuel:Nat}{cs:List Value}{x:DataW H×List MemPlace}(ht:P.underlying t=some (.slice e))(he:P.underlying e=some (.struct fs))
  (hl:jcY P (leaf0 P) fs.toList 0=some l) (h0:lf0s l=some l0) (hc:P.cellsOf e=l.length) (hb:1≤P.bytesOf e)
  (h:DataW.trod enc P w base spare held fuel t cs=some x) (hz:(x.1.weights P t).all (· ≤ reachBytes)=true) (hs:∀ v∈cs,jfP v):leavesOk w [.recs l0] cs:=by
 rcases DataW.trod_slice ht h with⟨rfl,_⟩|⟨a,len,cap,elems,rest,n,_,rfl,rfl,_,hle,hm,hlen,hel,_⟩
 ·exact⟨_,[],rfl,⟨0,fun _=>[],⟨none,0,rfl,jjG _,Jd,rfl,rfl⟩,Jd,fun j hj=>absurd hj (Nat.not_lt_zero _)⟩,rfl⟩
 ·have hsp:a.spot=none:=hs _ Js a len cap rfl
  simp only[DataW.weights,ht,List.all_cons,List.all_append,jjv,decide_eq_true_eq,List.length_map] at hz
  have hw:len≤140737488355328:=by
   have h1:=hz.1
   have h2:elems.length+rest.length≤(elems.length+rest.length)*P.bytesOf e:=Nat.le_mul_of_pos_right _ hb
   have hr:reachBytes≤140737488355328:=Jd
   omega
  have hll:l0.length=l.length:=by
   clear hl hc
   induction l generalizing l0 with
   | nil=>cases h0;rfl
   | cons y l ihl=>
    unfold lf0s at h0
    split at h0
    ·rename_i x xs e1 e2
     cases h0
     simp[ihl e2]
    ·cases h0
  have each:∀ j,j<len → ∃ ds:List D,(∃ vs,DenL Env.dummy (pubOf w) ds vs∧vs.length=l0.length∧(∀ v∈vs,v.oneCell'=true) ∧ ∀ (i:Nat) v,vs[i]? = some v→pubOf w a.block (a.off+j*l0.length+i)=some v)∧l0sD l0 ds:=by
   intro j hj
   have hej:=hel j hj
   have hy:elems[j]? = some (elems[j]' Jo):=jkb Jo
   rw[hy,Option.bind_eq_some_iff] at hej
   obtain⟨cs',hcs,hd⟩:=hej
   obtain⟨_,hcl,hce⟩:=World.cells?_some hcs
   have hwy:=jdw (l:=elems.map (·.1)) (i:=j) hz.2.1 (by rw[List.getElem?_map,hy];rfl)
   obtain⟨xs,m,_,hx,hcl2,hxl,hxf⟩:=DataW.trod_struct he hd
   rw[hx] at hwy
   simp only[DataW.weights,he] at hwy
   have lv:=jgc (P:=P) (enc:=enc) (base:=base) (spare:=spare) (held:=held) (n:=m) (S:=fun _=>True) (fun t ls cs x h1 h2 h3 _=>leaf0_ok h1 h2 h3) (fun _ _=>trivial) fs.toList 0 _ xs hl (by simpa using hxl) (fun i f hf=>hxf i f (by simpa using hf)) hwy
   rw[jku,jko Jo] at lv
   obtain⟨ds,k1,k2,k3,k4⟩:=l0s_den (h:=pubOf w) (l0s_of h0 lv)
   refine⟨ds,⟨cs',k1,k4,k3,fun i v hv=>?_⟩,k2⟩
   have hi:i<P.cellsOf e:=by
    have:=(jkh.1 hv).1
    omega
   have hcell:=hce i hi
   rw[hv] at hcell
   have ea:(a.add (j*P.cellsOf e)).add i=⟨a.block,a.off+j*l0.length+i,none⟩:=by
    obtain⟨b,o,s⟩:=a
    subst hsp
    rw[hc,← hll]
    unfold Addr.add
    simp only[]
    by_cases hz0:j*l0.length=0
    ·rw[if_pos hz0]
     by_cases hi0:i=0
     ·simp[hz0,hi0]
     ·simp[hz0,hi0]
    ·rw[if_neg hz0]
     by_cases hi0:i=0
     ·simp[hi0]
     ·simp[hi0]
   rw[ea] at hcell
   exact hcell
  classical
  refine⟨_,[],rfl,⟨len,fun j=>if h:j<len then (each j h).choose else [],?_,hw,fun j hj=>?_⟩,rfl⟩
  ·refine⟨some a,cap,rfl,hle,Jo,hsp,fun j hj=>?_⟩
   show ∃ vs,DenL Env.dummy (pubOf w) (if h:j<len then (each j h).choose else []) vs∧_
   rw[dif_pos hj]
   exact(each j hj).choose_spec.1
  ·show l0sD l0 (if h:j<len then (each j h).choose else [])
   rw[dif_pos hj]
   exact(each j hj).choose_spec.2
theorem leavesA_ok {l:List Lf}{e:TypeId}{n:Nat}{cs:List Value}
  (ih:∀ (cs:List Value) (x:DataW H×List MemPlace),DataW.trod enc P w base spare held n e cs=some x→(x.1.weights P e).all (· ≤ reachBytes)=true→(∀ v∈cs,jfP v)→leavesOk w l cs)
  (hs:∀ v∈cs,jfP v) :
  ∀ (m off:Nat) (xs:List (DataW H×List MemPlace)),xs.length=m →
   (∀ (i:Nat),i<m→DataW.trod enc P w base spare held n e ((cs.drop (off+i*l.length)).take l.length)=xs[i]?) →
   (DataW.weightsAll P e (xs.map (·.1))).all (· ≤ reachBytes)=true→leavesOk w (rep l m) ((cs.drop off).take (rep l m).length):=by
 intro m
 induction m with
 | zero=>intro off xs _ _ _;rfl
 | succ m ihm=>
  intro off xs hl hx hz
  cases xs with
  | nil=>simp at hl
  | cons x xs=>
   simp only[List.map_cons,DataW.weightsAll,List.all_append,jjv] at hz
   have h1:=ih _ _ (hx 0 Jo) hz.1 (fun v hv=>hs v (jki (jkj hv)))
   have h2:=ihm (off+l.length) xs (by simpa using hl) (fun i hi=>by
    have:=hx (i+1) Jo
    rw[Nat.add_mul,Nat.one_mul,Nat.add_comm (i*l.length),← Nat.add_assoc] at this
    exact this) hz.2
   rw[Nat.zero_mul,jjD] at h1
   rw[rep,jkd,List.take_add,List.drop_drop]
   exact h1.app h2
theorem leaves_ok:∀ (f:Nat) (n:Nat) (t:TypeId) (ls:List Lf) (cs:List Value) (x:DataW H×List MemPlace),leaves P f t=some ls→DataW.trod enc P w base spare held n t cs=some x →
  (x.1.weights P t).all (· ≤ reachBytes)=true→(∀ v∈cs,jfP v)→leavesOk w ls cs:=by
 intro f
 induction f with
 | zero=>intro n t ls cs x h;simp[leaves] at h
 | succ f ih=>
  intro n t ls cs x h hd hz hs
  unfold leaves at h
  split at h
  ·rename_i ht
   cases h
   obtain⟨b,rfl,_⟩:=DataW.trod_bool ht hd
   exact⟨_,[],rfl,⟨b,rfl⟩,rfl⟩
  ·rename_i k ht
   cases h
   obtain⟨n,rfl,_,hwf⟩:=DataW.trod_int ht hd
   exact⟨_,[],rfl,⟨n,rfl,inR_wf hwf⟩,rfl⟩
  ·rename_i ht
   cases h
   obtain⟨s,rfl,hx,hwf⟩:=DataW.trod_string ht hd
   subst hx
   have hr:reachBytes≤281474976710656:=Jd
   refine⟨_,[],rfl,⟨s.data.toList,rfl,?_⟩,rfl⟩
   simp only[DataW.weights,ht,List.all_cons,List.all_nil,Bool.and_true,decide_eq_true_eq] at hz
   omega
  ·rename_i e ht
   split at h
   ·rename_i k he
    split at h
    ·rename_i hc
     cases h
     exact leaf_ints ht he hc.1 hc.2 hd hz hs
    ·cases h
   ·rename_i fs he
    split at h
    ·rename_i l hl
     split at h
     ·rename_i l0 h0
      split at h
      ·rename_i hc
       cases h
       exact leaf_recs ht he hl h0 hc.1 hc.2 hd hz hs
      ·cases h
     ·cases h
    ·cases h
   ·cases h
  ·rename_i fs ht
   cases hg:jcY P (leaves P f) fs.toList 0 with
   | none=>rw[hg] at h;cases h
   | some l=>
    rw[hg] at h
    simp only[Option.bind_some] at h
    split at h
    case isFalse=>cases h
    case isTrue hc=>
     cases h
     obtain⟨xs,m,_,rfl,hcl,hxl,hx⟩:=DataW.trod_struct ht hd
     simp only[DataW.weights,ht] at hz
     have:=jgc (P:=P) (enc:=enc) (base:=base) (spare:=spare) (held:=held) (n:=m) (fun t ls cs x h1 h2 h3 h4=>ih m t ls cs x h1 h2 h3 h4) hs fs.toList 0 _ xs hg (by simpa using hxl) (fun i f hf=>hx i f (by simpa using hf)) hz
     rw[jku,jko Jo] at this
     exact this
  ·rename_i m e ht
   cases hg:leaves P f e with
   | none=>rw[hg] at h;cases h
   | some l=>
    rw[hg] at h
    simp only[Option.bind_some] at h
    split at h
    case isFalse=>cases h
    case isTrue hc=>
     cases h
     obtain⟨xs,m',_,rfl,hcl,hxl,hx⟩:=DataW.trod_array ht hd
     simp only[DataW.weights,ht] at hz
     have:=leavesA_ok (P:=P) (enc:=enc) (base:=base) (spare:=spare) (held:=held) (n:=m') (fun cs x h2 h3 h4=>ih m' e l cs x hg h2 h3 h4) hs m 0 xs hxl (fun i hi=>by
      have:=hx i hi
      rw[hc.1] at this
      rw[jjC]
      exact this) hz
     rw[jku,jko Jo] at this
     exact this
  ·cases h
theorem read_arg {r:Reach}{b0 f:Nat}{t:TypeId}{v:Value}{d:DataW H}{ps:List MemPlace}{ls:List Lf}(hl:leaves P f t=some ls)(hv:Value.okWide P w r b0 t v)(hd:DataW.Trod enc P w base spare held t v d ps)
  (hz:(d.weights P t).all (· ≤ reachBytes)=true):leavesOk w ls v.cells.toList:=by
 obtain⟨n,hn⟩:=hd
 exact leaves_ok f n t ls _ _ hl hn hz (spotOk_of hv)
end
def jA (P:Program)(f:FuncId)(fn:Func)(s:ChangeSpec)(c:OpenClaim):Bool:=c.wf (OpenSpec.ofChange s) && laidOutB P && mapsRowed P && fn.params.all (P.readableRec ·) && namedTie P c.named s.vars && (c.stops == []) && (P.stops == []) && (c.knobs == []) && (P.stopKnobs == [])
def jB (P:Program)(f:FuncId)(fn:Func)(s:ChangeSpec)(c:OpenClaim):Bool:=(c.inPlace == P.inPlace f)
def jC (P:Program)(f:FuncId)(fn:Func)(s:ChangeSpec)(c:OpenClaim):Bool:=(c.unfollowed == P.unfollowed f)
def jD (P:Program)(f:FuncId)(fn:Func)(s:ChangeSpec)(c:OpenClaim):Bool:=(c.recurses == P.recurses f)
def jE (P:Program)(f:FuncId)(fn:Func)(s:ChangeSpec)(c:OpenClaim):Bool:=(c.named == P.varsNamed f)
def jF (P:Program)(f:FuncId)(fn:Func)(s:ChangeSpec)(c:OpenClaim):Bool:=(c.maps == (fn.params.toList++s.plain.varTypes P).any (P.mapsRec ·)) && (c.ifaces == (fn.params.toList++s.plain.varTypes P).any (P.ifacesRec ·)) && (c.mapsOut == P.mapsAmong fn.resultTypes.toList) && (c.loops == (fn.params.toList++s.plain.varTypes P).any (P.loopsFrom ·)) && (c.wideKeys == (fn.params.toList++s.plain.varTypes P++fn.resultTypes.toList).any (P.wideKeysFrom ·)) && s.vars.all (P.varReadable ·) && fn.resultTypes.all (fun t=>P.readableRec t && decide (t<P.types.size)) && (c.ifacesOut == fn.resultTypes.toList.any (P.ifacesRec ·)) && (c.loopsOut == fn.resultTypes.toList.any (P.loopsFrom ·)) && (c.plainKeys == P.plainKeys) && c.shortTexts.isNone && P.stopsHeard && P.mayEnter
def jG (P:Program)(f:FuncId)(fn:Func)(s:ChangeSpec)(c:OpenClaim):Bool:=(c.lifted == P.liftsFinal)
def jH (P:Program)(f:FuncId)(fn:Func)(s:ChangeSpec)(c:OpenClaim):Bool:=(P.make == some c.make)
def jI (P:Program)(f:FuncId)(fn:Func)(s:ChangeSpec)(c:OpenClaim):Bool:=(c.kinds == (if c.domain.isEmpty then [] else fn.params.toList.map fun t=>match P.underlying t with|some (.int k)=>some k|_=>none)) && (c.pinned == c.pinnedBy) && (c.veiled == (fn.params.toList++s.plain.varTypes P++fn.resultTypes.toList).any (P.veiledRec ·)) && c.veiledFits P fn.params.toList (fn.params.toList++s.plain.varTypes P++fn.resultTypes.toList)
theorem joined_of {P:Program}{f:FuncId}{fn:Func}{s:ChangeSpec}{c:OpenClaim}(ha:jA P f fn s c=true)(hb:jB P f fn s c=true)(hc:jC P f fn s c=true)(hd:jD P f fn s c=true)(he:jE P f fn s c=true)(hf:jF P f fn s c=true)(hg:jG P f fn s c=true)(hh:jH P f fn s c=true)(hi:jI P f fn s c=true):joinedFacts P f fn s c=true:=by
 unfold jA jB jC jD jE jF jG jH jI at *
 simp only[jjv] at *
 obtain⟨⟨⟨⟨⟨⟨⟨⟨k0,k1⟩,k2⟩,k3⟩,k4⟩,k5⟩,k6⟩,k7⟩,k8⟩:=ha
 have k9:=hb
 have k10:=hc
 have k11:=hd
 have k12:=he
 obtain⟨⟨⟨⟨⟨⟨⟨⟨⟨⟨⟨⟨k13,k14⟩,k15⟩,k16⟩,k17⟩,k18⟩,k19⟩,k20⟩,k21⟩,k22⟩,k23⟩,k24⟩,k25⟩:=hf
 have k26:=hg
 have k27:=hh
 obtain⟨⟨⟨k28,k29⟩,k30⟩,k31⟩:=hi
 unfold joinedFacts
 simp only[jjv]
 exact⟨⟨⟨⟨⟨⟨⟨⟨⟨⟨⟨⟨⟨⟨⟨⟨⟨⟨⟨⟨⟨⟨⟨⟨⟨⟨⟨⟨⟨⟨⟨k0,k1⟩,k2⟩,k3⟩,k4⟩,k5⟩,k6⟩,k7⟩,k8⟩,k9⟩,k10⟩,k11⟩,k12⟩,k13⟩,k14⟩,k15⟩,k16⟩,k17⟩,k18⟩,k19⟩,k20⟩,k21⟩,k22⟩,k23⟩,k24⟩,k25⟩,k26⟩,k27⟩,k28⟩,k29⟩,k30⟩,k31⟩
end Go.V
end
