/- Laws of a small interpreter over plain values, part 4. No condition. -/
import Derived.Test.YtbnghipgicmpdaaGreatDoorSimplexRefinesH3
import Derived.RecoverIn
import Derived.KernelRfl
import Derived.Carry
set_option linter.unusedSimpArgs false
set_option linter.unusedVariables false
set_option maxHeartbeats 8000000
set_option maxRecDepth 100000
section
namespace Go.V
open Go Go.RowKit
section
variable {P : Program} {tb : Tb} {inl : Inl} {yl : Yl} {N n : Nat} {cx : Cx} {r : Option Nat} {Q : Exit → Act → World → Prop} {all : List Oper} {L : Sl} {H : Hp}
  {listed : Array Bool} {rem pend f : List Nat} {E : Env} {h : Pub} {a b : Act} {w : World}
theorem jdY (listed:Array Bool)(i j:Nat)(d:Bool):(listed.setIfInBounds i true).getD j d=if i=j∧i<listed.size then true else listed.getD j d:=by
 simp only[Array.getD_eq_getD_getElem?,Array.getElem?_setIfInBounds]
 by_cases h:i=j
 ·subst h
  by_cases h2:i<listed.size<;>simp[h2]
 ·simp[h]
theorem Ahead.congr {o:Oper}{L':Sl}{D:D}(hA:Ahead P all o L H D)(hl:∀ t∈looks all o,look L' t=look L t):Ahead P all o L' H D:=
 ⟨hA.1,hA.2.1,fun E h a w h1 h2 h3=>hA.2.2 E h a w (fun t ht=>by rw[← hl t ht];exact h1 t ht) h2 h3⟩
theorem Inv.looks_same (I:Inv P all n cx listed rem pend f E h L H a b w){j:Nat}{o:Oper}(ho:all[j]? = some o)(hready:∀ d∈ja1 o,listed.getD d true=true) :
  ∀ t∈looks all o,b.tmps.getD t Go.undef=a.tmps.getD t Go.undef:=by
 intro t ht
 refine I.same t fun i hi oi hoi hdi=>?_
 obtain⟨o',d',ho',hd',hnl,hs⟩:=ssa_spec (I.ssa i hi)
 rw[hoi] at ho';cases ho'
 rw[hdi] at hd';cases hd'
 by_cases e:j=i
 ·subst e;rw[ho] at hoi;cases hoi;exact hnl ht
 ·have hl:=I.anc_listed (hs j o ho e (.inl ht)) (fun o' ho'=>by rw[ho] at ho';cases ho';exact hready)
  have:=(I.part i (I.flt i hi)).2 (.inr hi)
  rw[hl] at this;cases this
theorem Inv.stepA (I : Inv P all n cx listed rem pend f E h L H a b w) {j : Nat} (hj : j ∈ f) (hready : ∀ o, all[j]? = some o → ∀ d ∈ ja1 o, listed.getD d true = true)
    {Kf : Act → World → Prop} (hK : ∀ a' b', Inv P all n cx (listed.setIfInBounds j true) rem pend (f.filter fun i => !Nat.beq i j) E h L H a' b' w → Kf a' w) : wpOpIn (FR r) 0 P all.toArray Q j Kf a w := by
  obtain ⟨o, d, ho, hd, hdn, hA⟩ := I.ahead j hj
  have hls := I.looks_same ho (hready o ho)
  obtain ⟨v, hden, hv⟩ := hA.2.2 E h a w (fun t ht => by rw [← hls t ht]; exact I.sat.knows t) I.sat.facts.chunk I.sat.agree
  have hjlt := I.flt j hj
  have fin : Kf (a.put o.dst v) w := by
    rw [hd]
    refine hK _ (b.put (some d) v) ?_
    refine { size := by simp [I.size], part := fun i hi => ?_, disj := fun i hi => I.disj i (jj2.1 hi).1, sub := fun i hi => I.sub i (jj2.1 hi).1, rlt := I.rlt, flt := fun i hi => I.flt i (jj2.1 hi).1,
             closed := fun i oi hoi hl dd hdd => ?_, fdeps := fun i hi => I.fdeps i (jj2.1 hi).1, ssa := fun i hi => I.ssa i (jj2.1 hi).1, ahead := fun i hi => I.ahead i (jj2.1 hi).1,
             sat := ?_, asize := by rw [jaz]; exact I.asize, bsize := by rw [jaz]; exact I.bsize, defs := I.defs, same := fun t ht => ?_ }
    · rw [jdY, I.size]
      by_cases e : j = i
      · subst e
        simp only [hjlt, and_self, if_true, jj2, Nat.beq_refl]
        constructor
        · intro h; cases h
        · rintro (h1 | h1)
          · exact absurd h1 (I.disj j hj)
          · simp at h1
      · rw [if_neg (fun x => e x.1), I.part i hi, jj2]
        have : Nat.beq i j = false := by
          cases hb : Nat.beq i j with
          | false => rfl
          | true => exact absurd (jae hb).symm e
        simp [this]
    · rw [jdY] at hl ⊢
      by_cases e : j = i
      · subst e
        have := hready oi hoi dd hdd
        rw [this]; simp
      · rw [if_neg (fun x => e x.1)] at hl
        have := I.closed i oi hoi hl dd hdd
        rw [this]; simp
    · have S' := I.sat.put (d := d) (r := look L d) (v := v) (by rw [I.bsize]; exact hdn) hden
      refine ⟨fun t => ?_, S'.mem, S'.agree, S'.since, S'.low, S'.side⟩
      have := S'.knows t
      rw [jaG] at this
      by_cases e : d = t
      · subst e; rw [if_pos rfl] at this; exact this
      · rw [if_neg e] at this; exact this
    · rw [jdd, jdd, I.asize, I.bsize]
      by_cases e : d = t ∧ d < n
      · rw [if_pos e, if_pos e]
      · rw [if_neg e, if_neg e]
        refine I.same t fun i hi oi hoi hdi => ?_
        by_cases ej : i = j
        · subst ej; rw [ho] at hoi; cases hoi; rw [hd] at hdi; cases hdi; exact e ⟨rfl, hdn⟩
        · refine ht i (jj2.2 ⟨hi, ?_⟩) oi hoi hdi
          have : Nat.beq i j = false := by
            cases hb : Nat.beq i j with
            | false => rfl
            | true => exact absurd (jae hb) ej
          simp [this]
  unfold wpOpIn
  simp only [jjY, ho]
  rcases hv with ⟨hw, hrun⟩ | ⟨hw, rfl⟩
  · rw [if_pos hw]
    refine jbw r hA.1 ?_
    unfold Oper.wp
    rw [hrun]
    simp only [Oper.upon]
    exact fin
  · rw [if_neg (by rw [hw]; decide)]
    exact ⟨fun _ _ => trivial, fin⟩
theorem Inv.take (I:Inv P all n cx listed rem pend f E h L H a b w)(ht:textB all=true){i:Nat}(hi:i∈rem)(hs:ssaB all (ancs all) i=true){o:Oper}{d:Nat}(ho:all[i]? = some o)(hd:o.dst=some d)(hdn:d<n)
  (hdeps:∀ x∈ja1 o,x∉rem) {D:D} (hA:Ahead P all o L H D) :
  ∃ b',Inv P all n cx listed (rem.filter fun j => !Nat.beq j i) (i::pend) (i::f) E h ((d,D)::L) H a b' w:=by
 obtain⟨v,hden,_⟩:=hA.2.2 E h b w (fun t _=>I.sat.knows t) I.sat.facts.chunk I.sat.agree
 obtain⟨o',d',ho',hd',hnl,hss⟩:=ssa_spec hs
 rw[ho] at ho';cases ho'
 rw[hd] at hd';cases hd'
 have nb:∀ j,j≠i→Nat.beq j i=false:=fun j e=>by
  cases hb:Nat.beq j i with
  | false=>rfl
  | true=>exact absurd (jae hb) e
 have hif:i∉f:=fun hf=>I.disj i hf hi
 refine⟨b.put (some d) v, { size:=I.size,part:=fun k hk=>?_,disj:=fun k hk hr=>?_,sub:=fun k hk=>?_,rlt:=fun k hk=>I.rlt k (jj2.1 hk).1,flt:=fun k hk=>?_,closed:=I.closed,fdeps:=fun k hk ok hok x hx hr=>?_,ssa:=fun k hk=>?_,ahead:=fun k hk=>?_,sat:=I.sat.put (by rw[I.bsize];exact hdn) hden,asize:=I.asize,bsize:=by rw[jaz];exact I.bsize,defs:=I.defs,same:=fun t hnt=>?_ }⟩
 ·rw[I.part k hk,jj2,jjH]
  by_cases e:k=i
  ·subst e;simp[hi]
  ·simp[nb k e,e]
 ·rcases jjH.1 hk with rfl|hk
  ·have:=(jj2.1 hr).2;rw[Nat.beq_refl] at this;cases this
  ·exact I.disj k hk (jj2.1 hr).1
 ·rcases jjH.1 hk with rfl|hk
  ·simp
  ·exact List.mem_cons_of_mem _ (I.sub k hk)
 ·rcases jjH.1 hk with rfl|hk
  ·exact I.rlt _ hi
  ·exact I.flt k hk
 ·rcases jjH.1 hk with rfl|hk
  ·rw[ho] at hok;cases hok;exact hdeps x hx (jj2.1 hr).1
  ·exact I.fdeps k hk ok hok x hx (jj2.1 hr).1
 ·rcases jjH.1 hk with rfl|hk
  ·exact hs
  ·exact I.ssa k hk
 ·rcases jjH.1 hk with rfl|hk
  ·refine⟨o,d,ho,hd,hdn,?_⟩
   rw[jaG,if_pos rfl]
   exact hA.congr fun t htt=>by rw[jaG,if_neg (fun e=>hnl (by rw[e];exact htt))]
  ·obtain⟨oq,dq,hoq,hdq,hdqn,hAq⟩:=I.ahead k hk
   have hki:k≠i:=fun e=>hif (e▸hk)
   have far:¬ (d∈looks all oq∨oq.dst=some d):=fun hn=>by
    exact I.anc_rem ht (hss k oq hoq hki hn) (fun o' ho' x hx=>by exact I.fdeps k hk o' ho' x hx) hi
   refine⟨oq,dq,hoq,hdq,hdqn,?_⟩
   rw[jaG,if_neg (fun e=>far (.inr (by rw[e];exact hdq)))]
   exact hAq.congr fun t htt=>by rw[jaG,if_neg (fun e=>far (.inl (by rw[e];exact htt)))]
 ·have hdt:d≠t:=fun e=>hnt i (by simp) o ho (by rw[hd,e])
  rw[jdd,if_neg (fun x=>hdt x.1)]
  exact I.same t fun k hk=>hnt k (List.mem_cons_of_mem _ hk)
end
end Go.V
end
section
namespace Go.V
open Go Go.RowKit
theorem upon_move {F:Fence}{n:Nat}{P:Program}{o:Oper}{a b:Act}{next1 next2:Act→World→Prop}{Q1 Q2:Exit→Act→World→Prop}{res:Result Next}(h:o.uponIn F n P b next1 Q1 res)
  (h1:∀ v w,next1 (b.put o.dst v) w→next2 (a.put o.dst v) w) (h2:∀ d v w,next1 ({ b with defers:=d::b.defers }.put o.dst v) w→next2 ({ a with defers:=d::a.defers }.put o.dst v) w) (hq:∀ e b w,Q1 e b w→e = .normal ∨ ∃ c,e = .panic c) (hp:∀ c w,Q1 (.panic c) b w→Q2 (.panic c) a w):o.uponIn F n P a next2 Q2 res:=by
 have ho:LetsOut Q1→False:=fun ⟨a,w,hx⟩=>by rcases hq _ _ _ hx with e|⟨c,e⟩<;>cases e
 cases res with
 | ok y w'=>
  cases y<;>simp only[Oper.uponIn] at h ⊢
  case value v=>exact h1 _ _ h
  case skip=>exact h1 _ _ h
  case defer d=>exact h2 _ _ _ h
  case enter f args=>
   exact⟨h.1,CallsIn.mono h.2 fun e w'' he=>by cases e<;>first|exact h1 _ _ he|exact hp _ _ he|exact(ho he).elim⟩
  case row row args=>exact⟨h.1,RowsIn.mono h.2 fun v w'' he=>h1 _ _ he⟩
  case round l f tmps assign body=>
   exact⟨h.1,RoundIn.mono h.2 fun e w'' he=>by cases e<;>first|exact h1 _ _ he|exact hp _ _ he|exact(ho he).elim⟩
 | halt y w'=>
  cases y<;>simp only[Oper.uponIn] at h ⊢
  all_goals first|exact hp _ _ h|exact h
section
variable {P : Program} {tb : Tb} {inl : Inl} {yl : Yl} {N n : Nat} {cx : Cx} {r : Option Nat} {Q : Exit → Act → World → Prop} {all : List Oper} {L : Sl} {H : Hp}
  {listed : Array Bool} {rem pend f : List Nat} {E : Env} {h : Pub} {a b : Act} {w : World}
theorem opK_select {off:Nat}{o:Oper}{K:K2}(h:opK P tb N off o L H K):∀ cs b,o.op ≠ .select cs b:=by
 intro c b e
 unfold opK at h
 rw[e] at h
 obtain⟨d,_,h⟩:=jaO h
 exact h.elim
theorem ops2_plain {off:Nat}{o:Oper}{KP:KPan}{K:K2}(hh:ops2K P tb inl yl N off all KP [o] L H K):(∀ c,o.op ≠ .defer c)∧(∀ cs b,o.op ≠ .select cs b):=by
 simp only[ops2K] at hh
 have ofCall:∀ {c:Call},o.op = .call c→(∀ c,o.op ≠ .defer c)∧(∀ cs b,o.op ≠ .select cs b):=fun hc=>⟨fun c e=>(by rw[hc] at e;cases e),fun cs b e=>(by rw[hc] at e;cases e)⟩
 split at hh
 ·unfold op2K at hh
  split at hh
  ·rename_i c ho;exact ofCall ho
  ·rename_i x ho;exact⟨fun c e=>(by rw[ho] at e;cases e),fun cs b e=>(by rw[ho] at e;cases e)⟩
  ·rename_i t r ho;exact⟨fun c e=>(by rw[ho] at e;cases e),fun cs b e=>(by rw[ho] at e;cases e)⟩
  ·rename_i t m k x ho;exact⟨fun c e=>(by rw[ho] at e;cases e),fun cs b e=>(by rw[ho] at e;cases e)⟩
  ·exact⟨jg7 hh,opK_select hh⟩
 ·obtain⟨oj,hj,hh⟩:=jee hh
  obtain⟨s,hs,hh⟩:=jaO hh
  rw[jbN] at hh
  obtain⟨c,hh,hc⟩:=jid hh
  split at hh
  ·rename_i hv;exact jhZ hv
  split at hh
  ·rename_i c ho;exact ofCall ho
  ·obtain⟨d,_,hh⟩:=jaO hh
   exact⟨jcv hh,jcP hh⟩
theorem jea (htb:TbOk P tb){K:Prop} : ∀ {qs:List Nat},jbs tb all qs L H K→K ∧ ∀ q∈qs, ∃ o d,all[q]? = some o∧o.dst=some d∧Ahead P all o L H (look L d)
 | [],hh=>⟨hh,fun q hq=>by cases hq⟩
 | q::qs,hh=>by
  obtain⟨h1,h2⟩:=hh
  obtain⟨hK,hr⟩:=jea htb h2
  refine⟨hK,fun q' hq'=>?_⟩
  rcases jjH.1 hq' with rfl|hq'
  ·obtain⟨o,ho,h1⟩:=jee h1
   obtain⟨d,hd,h1⟩:=jaO h1
   rw[jbN] at h1
   obtain⟨D,hs,hA⟩:=ahead_el htb h1
   have:=hs.eq;subst this
   exact⟨o,d,ho,hd,hA⟩
  ·exact hr q' hq'
theorem Inv.stepB (htb:TbOk P tb)(hin:InlOk P inl)(hyl:YlOk P cx yl)(hN:N≤n)(I:Inv P all n cx listed rem pend f E h L H a b w){j:Nat}(hj:j∈rem){o:Oper}(ho:all[j]? = some o)(hready:∀ d∈ja1 o,listed.getD d true=true)
  {pend':List Nat} (hpend:∀ q∈pend,q∈pend'∨Anc all j q) {K:Sl→Hp→Prop} {KP:KPan} (hP:∀ c L' H' E' h' a' w',KP c L' H'→a'.tmps.size=n→Sat cx E' h' a' w' L' H'→Q (.panic c) a' w') (hh:ops2K P tb inl yl N cx.off all (fun c L H=>keepK all L fun L=>KP c L H) [o] L H fun L' H'=>jbs tb all pend' L' H' (K L' H')) {Kf:Act→World→Prop}
  (hK:∀ a' b' w' E' h' L' H',K L' H'→Inv P all n cx (listed.setIfInBounds j true) (rem.filter fun i => !Nat.beq i j) pend' f E' h' L' H' a' b' w'→Kf a' w'):wpOpIn (FR r) 0 P all.toArray Q j Kf a w:=by
 have hls:=I.looks_same ho hready
 obtain⟨hnd,hns⟩:=ops2_plain hh
 have hjf:j∉f:=fun hf=>I.disj j hf hj
 have hjlt:=I.rlt j hj
 have hunl:∀ q∈f,listed.getD q true=false:=fun q hq=>(I.part q (I.flt q hq)).2 (.inr hq)
 have hrdy:∀ o',all[j]? = some o' → ∀ d∈ja1 o',listed.getD d true=true:=fun o' ho'=>by rw[ho] at ho';cases ho';exact hready
 have nb:∀ i,i≠j→Nat.beq i j=false:=fun i e=>by
  cases hb:Nat.beq i j with
  | false=>rfl
  | true=>exact absurd (jae hb) e
 let Q1:Exit→Act→World→Prop:=fun e b' w'=>(e = .normal ∧ ∃ L' H' E' h',jbs tb all pend' L' H' (K L' H')∧b'.tmps.size=n∧Sat cx E' h' b' w' L' H') ∨ ∃ c,e = .panic c ∧ ∃ L' H' E' h',KP c (keep all L') H'∧Sat cx E' h' b' w' L' H'
 have hw:=jaY (Q:=Q1) (r:=r) htb hin hyl hh hN (fun c L' H' E' h' b' w' hK hs S => .inr ⟨c,rfl,L',H',E',h',by rw[keepK_eq] at hK;exact hK,S⟩) (fun L' H' E' h' b' w' hK hs S => .inl ⟨rfl,L',H',E',h',hK,hs,S⟩) E h b w I.bsize I.sat
 have fin:∀ (a0 b0:Act) v w',a0.tmps=a.tmps→b0.tmps=b.tmps→b0.defers=a0.defers→Q1 .normal (b0.put o.dst v) w'→Kf (a0.put o.dst v) w':=by
  rintro a0 b0 v w' e1 e2 e3 (⟨_,L',H',E',h',hre,hbs,S⟩|⟨c,e,_⟩)
  case inr=>cases e
  obtain⟨hKK,hre⟩:=jea htb hre
  have hfp:∀ q∈f,q∈pend':=fun q hq=>by
   rcases hpend q (I.sub q hq) with h1|h1
   ·exact h1
   ·have:=I.anc_listed h1 hrdy
    rw[hunl q hq] at this;cases this
  refine hK _ (b0.put o.dst v) w' E' h' L' H' hKK
   { size:=by simp[I.size],part:=fun i hi=>?_,disj:=fun i hi hr=>I.disj i hi (jj2.1 hr).1,sub:=hfp,rlt:=fun i hi=>I.rlt i (jj2.1 hi).1,flt:=I.flt,closed:=fun i oi hoi hl dd hdd=>?_,fdeps:=fun i hi oi hoi x hx hr=>I.fdeps i hi oi hoi x hx (jj2.1 hr).1,ssa:=I.ssa,ahead:=fun i hi=>?_,sat:=S,asize:=by rw[jaz,e1];exact I.asize,bsize:=hbs,defs:=?_,same:=fun t ht=>?_ }
  ·rw[jdY,I.size,jj2]
   by_cases e:j=i
   ·subst e
    simp only[hjlt,and_self,if_true,Nat.beq_refl,Bool.not_true]
    constructor
    ·intro h;cases h
    ·rintro(h1|h1)
     ·cases h1.2
     ·exact absurd h1 hjf
   ·rw[if_neg (fun x=>e x.1),I.part i hi]
    simp[nb i (fun x=>e x.symm)]
  ·rw[jdY] at hl ⊢
   by_cases e:j=i
   ·subst e
    rw[ho] at hoi;cases hoi
    rw[hready dd hdd];simp
   ·rw[if_neg (fun x=>e x.1)] at hl
    rw[I.closed i oi hoi hl dd hdd];simp
  ·obtain⟨oq,dq,h1,h2,h3,_⟩:=I.ahead i hi
   obtain⟨o2,d2,g1,g2,g3⟩:=hre i (hfp i hi)
   rw[h1] at g1;cases g1
   rw[h2] at g2;cases g2
   exact⟨_,_,h1,h2,h3,g3⟩
  ·cases o.dst<;>exact e3
  ·cases hd:o.dst with
   | none=>
    show b0.tmps.getD t Go.undef=a0.tmps.getD t Go.undef
    rw[e1,e2];exact I.same t ht
   | some d=>
    rw[jdd,jdd,e1,e2,I.asize,I.bsize]
    by_cases e:d=t∧d<n
    ·rw[if_pos e,if_pos e]
    ·rw[if_neg e,if_neg e];exact I.same t ht
 unfold wpOpIn
 simp only[jjY,ho]
 unfold wpListIn at hw
 rw[jhr hls] at hw
 split
 ·rename_i hwt
  rw[if_pos hwt] at hw
  refine⟨fun _ _=>trivial,?_⟩
  have hw2:=hw.2
  have hsem:∀ ρ:Operand→Value,o.semAt (FR r).round ρ=execOp ρ o:=fun ρ=>by
   cases r with
   | none=>exact Oper.semAt_none ..
   | some l=>exact Oper.semAt_some _ _ _ hnd
  rw[hsem,eval_same hls hns] at hw2
  rw[hsem]
  generalize hres:(execOp a.eval o).run P w=res at hw2
  exact upon_move hw2 (fun v w' hx=>fin a b v w' rfl rfl I.defs hx) (fun d v w' hx=>fin { a with defers:=d::a.defers } { b with defers:=d::b.defers } v w' rfl rfl (by rw[I.defs]) hx) (fun e b w hx=>hx.imp And.left fun ⟨c,e,_⟩=>⟨c,e⟩) (fun c w' hx=>by
   rcases hx with⟨e,_⟩|⟨c',e,L',H',E',h',hk,S⟩
   ·cases e
   ·cases e
    refine hP _ _ H' E' h' a w' hk I.asize ⟨fun t=>?_,S.mem,S.agree,S.since,S.low,by rw[← I.defs];exact S.side⟩
    rcases look_keep all L' t with e|⟨e1,e2⟩
    ·rw[e];simp[Den]
    ·rw[e2,← I.same t (fun i _ oi hoi hdi=>isDst_spec e1 i oi hoi hdi)]
     exact S.knows t)
 ·rename_i hwt
  rw[if_neg hwt] at hw
  exact⟨fun _ _=>trivial,fin a b _ _ rfl rfl I.defs hw.2⟩
end
end Go.V
end
section
namespace Go.V
open Go Go.RowKit
section
variable {P : Program} {tb : Tb} {inl : Inl} {yl : Yl} {N n : Nat} {cx : Cx} {r : Option Nat} {Q : Exit → Act → World → Prop} {all : List Oper} {L : Sl} {H : Hp}
  {listed : Array Bool} {rem pend f : List Nat} {E : Env} {h : Pub} {a b : Act} {w : World}
theorem mem_deps {o:Oper}{d:Nat} : d∈ja1 o ↔ ∃ e∈o.after,Region.binds .any e=true∧e.on=d:=by
 simp only[ja1,List.mem_filterMap,Array.mem_toList_iff]
 constructor
 ·rintro⟨e,he,hx⟩
  cases hb:Region.binds .any e with
  | true=>rw[hb] at hx;exact⟨e,he,hb,by simpa using hx⟩
  | false=>rw[hb] at hx;simp at hx
 ·rintro⟨e,he,hb,rfl⟩
  exact⟨e,he,by rw[hb]⟩
theorem jgL (ht:textB all=true){k:Nat}{o:Oper}(hk:all[k]? = some o){d:Nat}(hd:d∈ja1 o):d<k:=by
 simp only[textB,jjE] at ht
 have hm:(o,k)∈all.zipIdx:=by rw[List.mem_zipIdx_iff_getElem?];exact hk
 have:=ht _ hm
 simp only[jjE] at this
 exact jfC (this d hd)
theorem jhh {listed:Array Bool}{d:Nat}(hd:d<listed.size)(x y:Bool):listed.getD d x=listed.getD d y:=by
 simp[Array.getD_eq_getD_getElem?,Array.getElem?_eq_getElem hd]
theorem jci (ht:textB all=true)(hs:listed.size=all.length){j:Nat} : j∈Region.ready .any all.toArray listed↔j<all.length∧listed.getD j true=false ∧ ∀ o,all[j]? = some o → ∀ d∈ja1 o,listed.getD d true=true:=by
 rw[mem_ready]
 constructor
 ·rintro⟨h1,o,ho,h2⟩
  rw[jjY] at ho
  have hj:=(jjP.1 ho).1
  refine⟨hj,h1,fun o' ho' d hd=>?_⟩
  rw[ho] at ho';cases ho'
  have hlt:=jgL ht ho hd
  obtain⟨e,he,hb,rfl⟩:=mem_deps.1 hd
  rw[jhh (by rw[hs];omega) true false]
  exact h2 e he hb
 ·rintro⟨hj,h1,h2⟩
  refine⟨h1,all[j],by rw[jjY,jjI hj],fun e he hb=>?_⟩
  have hd:e.on∈ja1 all[j]:=mem_deps.2 ⟨e,he,hb,rfl⟩
  have hlt:=jgL ht (jjI hj) hd
  rw[jhh (by rw[hs];omega) false true]
  exact h2 _ (jjI hj) _ hd
theorem jeo (ht:textB all=true)(hs:listed.size=all.length):∀ (i:Nat),i<all.length→listed.getD i true=false→Region.ready .any all.toArray listed≠[]:=by
 intro i
 induction i using Nat.strongRecOn with
 | _ i ih=>
  intro hi hl
  by_cases hd:∀ o,all[i]? = some o → ∀ d∈ja1 o,listed.getD d true=true
  ·have:=(jci ht hs).2 ⟨hi,hl,hd⟩
   exact fun e=>by rw[e] at this;cases this
  ·simp only[Classical.not_forall] at hd
   obtain⟨o,ho,d,hd,hx⟩:=hd
   have hlt:=jgL ht ho hd
   exact ih d hlt (by omega) (by simpa using hx)
theorem brs_el {as:List Nat}{ns:List Nd}{KP:KPan}{gt:Nat→Sl→Hp→Prop}{K:K2}{off:Nat}{i:Nat} : ∀ {bs:Brs},brsB all as ns rem pend bs=true→jfq P tb inl yl N off all KP gt bs L H K→jgf i bs=true →
  ∃ pend' p,(∀ q∈pend,q∈pend'∨(as.getD i 0).testBit q=true)∧planB all as ns (rem.filter fun k => !Nat.beq k i) pend' p=true ∧
   nthO all i fun o=>ops2K P tb inl yl N off all (fun c L H=>keepK all L fun L=>KP c L H) [o] L H fun L' H'=>jbs tb all pend' L' H' (drawK P tb inl yl N off all KP gt p L' H' K)
 | .nil,_,_,hb=>by simp[jgf] at hb
 | .cons j pend' p bs,h1,h2,hb=>by
  simp only[brsB,ji0,jjE,Bool.or_eq_true] at h1
  simp only[jfq] at h2
  simp only[jgf,Bool.or_eq_true] at hb
  by_cases e:i=j
  ·subst e
   exact⟨pend',p,fun q hq=>(h1.1.1.2 q hq).imp (fun x=>jcy.1 x) id,h1.1.2,h2.1⟩
  ·exact brs_el h1.2 h2.2 (hb.resolve_left fun x=>e (jae x))
theorem jfl {l:List Nat}{i:Nat}(hi:i∈l):(l.filter fun k => !Nat.beq k i).length<l.length:=by
 rw[List.length_filter_lt_length_iff_exists]
 exact⟨i,hi,by simp[Nat.beq_refl]⟩
theorem Inv.done (I:Inv P all n cx listed [] pend [] E h L H a b w):Sat cx E h a w L H:=by
 have S:=I.sat
 refine⟨fun t=>?_,S.mem,S.agree,S.since,S.low,by rw[← I.defs];exact S.side⟩
 rw[← I.same t (fun i hi=>by cases hi)]
 exact S.knows t
structure GtOk (P:Program)(tb:Tb)(inl:Inl)(yl:Yl)(N:Nat)(cx:Cx)(all:List Oper)(KP:KPan)(gt:Nat→Sl→Hp→Prop)(ns:List Nd)(K:K2):Prop where
 out:∀ k L H,gt k L H → ∃ nd Lk Hk,ns[k]? = some nd∧(∀ E h a w,Sat cx E h a w L H → ∃ E' h',Sat cx E' h' a w Lk Hk) ∧
  jbs tb all nd.pend Lk Hk (drawK P tb inl yl N cx.off all KP gt nd.plan Lk Hk K)
theorem Inv.move (I : Inv P all n cx listed rem pend f E h L H a b w) {E' : Env} {h' : Pub} {L' : Sl} {H' : Hp} {pend' : List Nat} (S : Sat cx E' h' b w L' H') (hp : ∀ q ∈ pend, q ∈ pend')
    (hre : ∀ q ∈ pend', ∃ o d, all[q]? = some o ∧ o.dst = some d ∧ Ahead P all o L' H' (look L' d)) : Inv P all n cx listed rem pend' f E' h' L' H' a b w :=
  { size := I.size, part := I.part, disj := I.disj, sub := fun i hi => hp i (I.sub i hi), rlt := I.rlt, flt := I.flt, closed := I.closed, fdeps := I.fdeps, ssa := I.ssa,
    ahead := fun i hi => by
      obtain ⟨oq, dq, h1, h2, h3, _⟩ := I.ahead i hi
      obtain ⟨o2, d2, g1, g2, g3⟩ := hre i (hp i (I.sub i hi))
      rw [h1] at g1; cases g1
      rw [h2] at g2; cases g2
      exact ⟨_, _, h1, h2, h3, g3⟩
    sat := S, asize := I.asize, bsize := I.bsize, defs := I.defs, same := I.same }
theorem draw_all (htb:TbOk P tb)(hin:InlOk P inl)(hyl:YlOk P cx yl)(hN:N≤n)(ht:textB all=true){KP:KPan}{gt:Nat→Sl→Hp→Prop}{ns:List Nd}(hns:ns.all (fun nd => !nd.plan.isGo && planB all (ancs all) ns nd.rem nd.pend nd.plan)=true)
  (hP:∀ c L' H' E' h' a' w',KP c L' H'→a'.tmps.size=n→Sat cx E' h' a' w' L' H'→Q (.panic c) a' w') {K:K2} (hgt:GtOk P tb inl yl N cx all KP gt ns K) (hQ:∀ L' H' E' h' a' w',K L' H'→a'.tmps.size=n→Sat cx E' h' a' w' L' H'→Q .normal a' w') :
  ∀ (fuel m:Nat) (plan:Plan) (rem pend f:List Nat) (L:Sl) (H:Hp) (listed:Array Bool) (a b:Act) (w:World) (E:Env) (h:Pub),rem.length=m→planB all (ancs all) ns rem pend plan=true →
   drawK P tb inl yl N cx.off all KP gt plan L H K→Inv P all n cx listed rem pend f E h L H a b w→rem.length+f.length≤fuel→wpAnyIn (FR r) 0 P .any all.toArray Q fuel listed a w:=by
 -- a place
 have place:∀ (k:Nat) (rem pend f:List Nat) (L:Sl) (H:Hp) (listed:Array Bool) (a b:Act) (w:World) (E:Env) (h:Pub),planB all (ancs all) ns rem pend (.goto k)=true→drawK P tb inl yl N cx.off all KP gt (.goto k) L H K →
   Inv P all n cx listed rem pend f E h L H a b w → ∃ plan pend' L' H' E' h',plan.isGo=false∧planB all (ancs all) ns rem pend' plan=true∧drawK P tb inl yl N cx.off all KP gt plan L' H' K∧Inv P all n cx listed rem pend' f E' h' L' H' a b w:=by
  intro k rem pend f L H listed a b w E h hp hd I
  simp only[drawK] at hd
  obtain⟨nd,Lk,Hk,hnd,hsat,hre⟩:=hgt.out k L H hd
  obtain⟨E',h',S⟩:=hsat E h b w I.sat
  obtain⟨hK,hre⟩:=jea htb hre
  simp only[planB,hnd,ji0,jjE] at hp
  have hrem:=eqNs_eq hp.1
  have hmem:nd∈ns:=jjK hnd
  have:=jjE.1 hns nd hmem
  simp only[ji0,Bool.not_eq_true'] at this
  exact⟨nd.plan,nd.pend,Lk,Hk,E',h',this.1,by rw[hrem];exact this.2,hK,I.move S (fun q hq=>jcy.1 (hp.2 q hq)) hre⟩
 -- the end
 have fin:∀ (plan:Plan) (rem pend f:List Nat) (L:Sl) (H:Hp) (listed:Array Bool) (a b:Act) (w:World) (E:Env) (h:Pub),planB all (ancs all) ns rem pend plan=true→drawK P tb inl yl N cx.off all KP gt plan L H K →
   Inv P all n cx listed rem pend f E h L H a b w→Region.ready .any all.toArray listed=[]→Q .normal a w:=by
  intro plan rem pend f L H listed a b w E h hp hd I hr
  have hrem:rem=[]:=by
   cases rem with
   | nil=>rfl
   | cons i rem=>exact absurd hr (jeo ht I.size i (I.rlt i (by simp)) ((I.part i (I.rlt i (by simp))).2 (.inl (by simp))))
  have hf:f=[]:=by
   cases f with
   | nil=>rfl
   | cons i f=>exact absurd hr (jeo ht I.size i (I.flt i (by simp)) ((I.part i (I.flt i (by simp))).2 (.inr (by simp))))
  subst hrem;subst hf
  have core:∀ (plan:Plan) (pend:List Nat) (L:Sl) (H:Hp) (E:Env) (h:Pub),plan.isGo=false→planB all (ancs all) ns [] pend plan=true→drawK P tb inl yl N cx.off all KP gt plan L H K →
    Inv P all n cx listed [] pend [] E h L H a b w→Q .normal a w:=by
   intro plan pend L H E h hg hp hd I
   cases plan with
   | done=>exact hQ _ _ _ _ _ _ hd I.asize I.done
   | take i p=>simp[planB,memB] at hp
   | ev bs=>simp[planB] at hp
   | goto k=>cases hg
  cases hg:plan.isGo with
  | false=>exact core plan _ _ _ _ _ hg hp hd I
  | true=>
   cases plan with
   | goto k=>
    obtain⟨p',pend',L',H',E',h',h1,h2,h3,h4⟩:=place k _ _ _ _ _ _ _ _ _ _ _ hp hd I
    exact core p' _ _ _ _ _ h1 h2 h3 h4
   | _=>cases hg
 intro fuel
 induction fuel with
 | zero=>
  intro m plan rem pend f L H listed a b w E h hm hp hd I hfuel
  have hr:Region.ready .any all.toArray listed=[]:=by
   cases hx:Region.ready .any all.toArray listed with
   | nil=>rfl
   | cons i l=>
    have hi:i∈Region.ready .any all.toArray listed:=by rw[hx];simp
    obtain⟨h1,h2,_⟩:=(jci ht I.size).1 hi
    rcases (I.part i h1).1 h2 with h3|h3
    ·have:=List.length_pos_of_mem h3;omega
    ·have:=List.length_pos_of_mem h3;omega
  exact⟨hr,fin _ _ _ _ _ _ _ _ _ _ _ _ hp hd I hr⟩
 | succ fuel ih=>
  intro m
  induction m using Nat.strongRecOn with
  | _ m ihm=>
   have core:∀ (plan:Plan) (rem pend f:List Nat) (L:Sl) (H:Hp) (listed:Array Bool) (a b:Act) (w:World) (E:Env) (h:Pub),plan.isGo=false→rem.length=m→planB all (ancs all) ns rem pend plan=true →
     drawK P tb inl yl N cx.off all KP gt plan L H K→Inv P all n cx listed rem pend f E h L H a b w→rem.length+f.length≤fuel+1→wpAnyIn (FR r) 0 P .any all.toArray Q (fuel+1) listed a w:=by
    intro plan rem pend f L H listed a b w E h hg hm hp hd I hfuel
    have stepF:∀ i∈Region.ready .any all.toArray listed,i∈f→wpOpIn (FR r) 0 P all.toArray Q i (wpAnyIn (FR r) 0 P .any all.toArray Q fuel (listed.setIfInBounds i true)) a w:=fun i hi hf=>by
     obtain⟨h1,h2,h3⟩:=(jci ht I.size).1 hi
     have hlt:=jfl hf
     exact I.stepA hf h3 fun a' b' I'=>ih rem.length plan rem pend _ L H _ a' b' w E h rfl hp hd I' (by omega)
    cases plan with
    | goto k=>cases hg
    | done=>
     refine⟨fin _ _ _ _ _ _ _ _ _ _ _ _ hp hd I,fun i hi=>?_⟩
     obtain⟨h1,h2,h3⟩:=(jci ht I.size).1 hi
     rcases (I.part i h1).1 h2 with h4|h4
     ·simp only[planB,List.isEmpty_iff] at hp
      rw[hp] at h4;cases h4
     ·exact stepF i hi h4
    | take i p=>
     simp only[planB,ji0] at hp
     obtain⟨⟨⟨hp1,hp2⟩,hp3⟩,hp4⟩:=hp
     have hir:=jcy.1 hp1
     simp only[drawK] at hd
     obtain⟨o,ho,hd⟩:=jee hd
     obtain⟨d,hdst,hd⟩:=jaO hd
     obtain⟨D,hd,hA⟩:=ahead_el htb hd
     obtain⟨hlt,hd⟩:=jcG hd
     rw[ho] at hp3
     simp only[jjE,Bool.not_eq_true'] at hp3
     obtain⟨b',I'⟩:=I.take ht hir hp2 ho hdst (by omega) (fun x hx hr=>by have:=hp3 x hx;rw[jcy.2 hr] at this;cases this) hA
     have hl:=jfl hir
     exact ihm _ (by rw[← hm];exact hl) p _ _ _ _ _ _ a b' w E h rfl hp4 hd I' (by simp only[jjV];omega)
    | ev bs=>
     refine⟨fin _ _ _ _ _ _ _ _ _ _ _ _ hp hd I,fun i hi=>?_⟩
     obtain⟨h1,h2,h3⟩:=(jci ht I.size).1 hi
     rcases (I.part i h1).1 h2 with h4|h4
     ·have hp':=hp
      simp only[planB,ji0,jjE] at hp'
      obtain⟨⟨_,hp2⟩,hp3⟩:=hp'
      have ho:=jjI h1
      have hb:jgf i bs=true:=by
       have:=hp2 i h4
       rw[Bool.or_eq_true] at this
       refine this.resolve_right fun hx=>?_
       rw[ho] at hx
       simp only[List.any_eq_true] at hx
       obtain⟨d,hd1,hd2⟩:=hx
       have hdl:=jgL ht ho hd1
       have e1:=h3 _ ho d hd1
       have e2:=(I.part d (by omega)).2 (.inl (jcy.1 hd2))
       rw[e1] at e2;cases e2
      simp only[drawK] at hd
      obtain⟨pend',p,q1,q2,q3⟩:=brs_el hp3 hd hb
      obtain⟨o,ho',q3⟩:=jee q3
      have hl:=jfl h4
      exact I.stepB htb hin hyl hN h4 ho' (h3 o ho') (fun q hq=>(q1 q hq).imp id fun x=>ancs_ok x) hP q3 fun a' b' w' E' h' L' H' hK I'=>
       ih _ p _ _ _ L' H' _ a' b' w' E' h' rfl q2 hK I' (by omega)
     ·exact stepF i hi h4
   intro plan rem pend f L H listed a b w E h hm hp hd I hfuel
   cases hg:plan.isGo with
   | false=>exact core plan _ _ _ _ _ _ _ _ _ _ _ hg hm hp hd I hfuel
   | true=>
    cases plan with
    | goto k=>
     obtain⟨p',pend',L',H',E',h',h1,h2,h3,h4⟩:=place k _ _ _ _ _ _ _ _ _ _ _ hp hd I
     exact core p' _ _ _ _ _ _ _ _ _ _ _ h1 hm h2 h3 h4 hfuel
    | _=>cases hg
theorem jfp (htb : TbOk P tb) (hin : InlOk P inl) (hyl : YlOk P cx yl) (hN : N ≤ n) {id : Nat} {ops : Array Oper} {plan : Plan} {ns : List Nd} (hp : PlanOk P ops.toList ns plan) {KP : KPan} {gt : Nat → Sl → Hp → Prop} {K : K2} (hd : drawK P tb inl yl N cx.off ops.toList KP gt plan L H K) (hgt : GtOk P tb inl yl N cx ops.toList KP gt ns K)
    (hP : ∀ c L' H' E' h' a' w', KP c L' H' → a'.tmps.size = n → Sat cx E' h' a' w' L' H' → Q (.panic c) a' w') (hQ : ∀ L' H' E' h' a' w', K L' H' → a'.tmps.size = n → Sat cx E' h' a' w' L' H' → Q .normal a' w') (hn : a.tmps.size = n) (S : Sat cx E h a w L H) : (Code.region id ops true).wpIn (FR r) 0 P Q a w := by
  refine wpIn_region_any hp.mixed ?_
  have S' : Sat cx E h a { w with drawn := w.drawn + 1 } L H := S.world ⟨rfl, rfl, rfl, jjc _, fun _ _ => rfl⟩
  have key := draw_all (r := r) (Q := Q) htb hin hyl hN hp.text hp.nds hP hgt hQ ops.size ops.size plan (List.range ops.toList.length) [] [] L H (Array.replicate ops.size false) a a { w with drawn := w.drawn + 1 } E h (by simp) hp.plan hd
    { size := by simp, part := fun i hi => (by simp at hi; simp [Array.getD_eq_getD_getElem?, hi]), disj := fun i hi => (by cases hi), sub := fun i hi => (by cases hi), rlt := fun i hi => (by simpa using hi), flt := fun i hi => (by cases hi),
      closed := fun i o ho hl => by
        have hi := (jjP.1 ho).1
        simp at hi
        simp [Array.getD_eq_getD_getElem?, hi] at hl
      fdeps := fun i hi => (by cases hi)
      ssa := fun i hi => (by cases hi)
      ahead := fun i hi => (by cases hi)
      sat := S', asize := hn, bsize := hn, defs := rfl, same := fun _ _ => rfl } (by simp)
  simpa using key
end
end Go.V
end
section
namespace Go.V
open Go Go.RowKit
structure Wk (off:Nat)(L:Sl)(H:Hp)(L':Sl)(H':Hp):Prop where
 out:∀ cx E h a w,cx.off=off→Sat cx E h a w L H → ∃ E' h',Sat cx E' h' a w L' H'
structure CondB (b:Bool)(A B:Prop):Prop where
 yes:b=true→A
 no:b=false→B
abbrev K3:=Exit→Sl→Hp→Prop
def nrm (X:Sl→Hp→Prop)(K:K3):K3:=fun e L H=>match e with
 | .normal=>X L H
 | e=>K e L H
def blk (i:Nat)(K:K3):K3:=fun e L H=>match e with
 | .exit j=>match Nat.beq j i with|true=>K .normal L H|false=>K (.exit j) L H
 | e=>K e L H
def scp (K:K3):K3:=fun e L H=>match e with
 | .goto _=>False
 | e=>K e L H
def jn (off:Nat)(L0:Sl)(H0:Hp)(K:K3):K3:=fun e L H=>match e with
 | .normal=>Wk off L H L0 H0
 | e=>K e L H
inductive Cnd (off : Nat) (x : Bool) (A B : K3 → Prop) (K : K3) : Prop where
  | split (h : CondB x (A K) (B K))
  | join (L0 : Sl) (H0 : Hp) (h : CondB x (A (jn off L0 H0 K)) (B (jn off L0 H0 K))) (k : K .normal L0 H0)
def drawD (P:Program)(tb:Tb)(inl:Inl)(yl:Yl)(N off:Nat)(all:List Oper)(KP:KPan)(plan:Plan)(ns:List Nd)(L:Sl)(H:Hp)(K:K2):Prop:=
 ∃ gt:Nat→Sl→Hp→Prop,(∀ k L H,gt k L H → ∃ nd Lk Hk,ns[k]? = some nd∧Wk off L H Lk Hk∧jbs tb all nd.pend Lk Hk (drawK P tb inl yl N off all KP gt nd.plan Lk Hk K)) ∧
  drawK P tb inl yl N off all KP gt plan L H K
theorem jac {P:Program}{tb:Tb}{inl:Inl}{yl:Yl}{N off:Nat}{all:List Oper}{KP:KPan}{plan:Plan}{ns:List Nd}{L:Sl}{H:Hp}{K:K2}(h:drawK P tb inl yl N off all KP (fun _ _ _=>False) plan L H K) :
  drawD P tb inl yl N off all KP plan ns L H K:=⟨_,fun _ _ _ h=>h.elim,h⟩
theorem drawD_gt {P:Program}{tb:Tb}{inl:Inl}{yl:Yl}{N:Nat}{cx:Cx}{all:List Oper}{KP:KPan}{plan:Plan}{ns:List Nd}{L:Sl}{H:Hp}{K:K2}(h:drawD P tb inl yl N cx.off all KP plan ns L H K) :
  ∃ gt,GtOk P tb inl yl N cx all KP gt ns K∧drawK P tb inl yl N cx.off all KP gt plan L H K:=by
 obtain⟨gt,h1,h2⟩:=h
 refine⟨gt,⟨fun k L H hk=>?_⟩,h2⟩
 obtain⟨nd,Lk,Hk,h3,h4,h5⟩:=h1 k L H hk
 exact⟨nd,Lk,Hk,h3,fun E h a w S=>h4.out cx E h a w rfl S,h5⟩
inductive Drw (off : Nat) (R : K2 → Prop) (K : K2) : Prop where
  | go (h : R K)
  | join (L0 : Sl) (H0 : Hp) (h : R fun L H => Wk off L H L0 H0) (k : K L0 H0)
theorem Wk.refl {off:Nat}{L:Sl}{H:Hp} : Wk off L H L H:=⟨fun _ E h _ _ _ S=>⟨E,h,S⟩⟩
structure Lp (off:Nat)(L:Sl)(H:Hp)(body:Sl→Hp→K3→Prop)(K:K3):Prop where
 out:∃ K2:K3,(∀ e L' H',K2 e L' H' → ∃ L'' H'',Wk off L' H' L'' H''∧K e L'' H'') ∧
  ∃ (α:Type) (inv:α→Prop) (sl:α→Sl) (hp:α→Hp) (μ:α→Nat),(∃ x,inv x∧Wk off L H (sl x) (hp x)) ∧
  ∀ x,inv x→body (sl x) (hp x) (nrm (fun L' H' => ∃ y,inv y∧μ y<μ x∧Wk off L' H' (sl y) (hp y)) K2)
theorem Lp.of {off : Nat} {L : Sl} {H : Hp} {body : Sl → Hp → K3 → Prop} {K : K3}
    (h : ∃ (α : Type) (inv : α → Prop) (sl : α → Sl) (hp : α → Hp) (μ : α → Nat), (∃ x, inv x ∧ Wk off L H (sl x) (hp x)) ∧
    ∀ x, inv x → body (sl x) (hp x) (nrm (fun L' H' => ∃ y, inv y ∧ μ y < μ x ∧ Wk off L' H' (sl y) (hp y)) K)) : Lp off L H body K :=
  ⟨K, fun _ L' H' h => ⟨L', H', Wk.refl, h⟩, h⟩
def subSl (L:Sl):Sl→Prop
 | []=>True
 | (t,d)::L'=>look L t=d∧subSl L L'
def subHp (H:Hp):Hp→Prop
 | []=>True
 | (i,c)::H'=>lookH H i=some c∧subHp H H'
theorem subSl_look {L L':Sl}(h:subSl L L')(t:Nat):look L' t = .any∨look L' t=look L t:=by
 induction L' with
 | nil=>exact .inl rfl
 | cons x L' ih=>
  obtain⟨s,d⟩:=x
  rw[jaG]
  split
  ·rename_i e;subst e;exact .inr h.1.symm
  ·exact ih h.2
theorem jch {H H':Hp}(h:subHp H H'){i:Nat}{c:Chunk}(hc:lookH H' i=some c):lookH H i=some c:=by
 induction H' with
 | nil=>simp[lookH] at hc
 | cons x H' ih=>
  obtain⟨s,d⟩:=x
  rw[jaf] at hc
  split at hc
  ·rename_i e;subst e;cases hc;exact h.1
  ·exact ih h.2 hc
theorem Wk.of {off : Nat} {L L' : Sl} {H H' : Hp} (h1 : subSl L L') (h2 : subHp H H') : Wk off L H L' H' := by
  refine ⟨fun cx E h a w _ S => ?_⟩
  refine ⟨E, h, { knows := fun t => ?_, mem := ?_, agree := S.agree, since := S.since, low := S.low, side := S.side }⟩
  · rcases subSl_look h1 t with e | e
    · rw [e]; simp [Den]
    · rw [e]; exact S.knows t
  · exact { ok := fun i c hc => S.mem.ok i c (jch h2 hc), base := fun i c hc => S.mem.base i c (jch h2 hc), unpub := fun i c hc => S.mem.unpub i c (jch h2 hc),
            inj := fun i j c c' hij hc hc' => S.mem.inj i j c c' hij (jch h2 hc) (jch h2 hc') }
theorem Wk.trans {off:Nat}{L1 L2 L3:Sl}{H1 H2 H3:Hp}(h:Wk off L1 H1 L2 H2)(k:Wk off L2 H2 L3 H3):Wk off L1 H1 L3 H3:=by
 refine⟨fun cx E h' a w e S=>?_⟩
 obtain⟨E1,h1,S1⟩:=h.out cx E h' a w e S
 exact k.out cx E1 h1 a w e S1
def resK (tb:Tb)(L:Sl)(H:Hp):List ResultVar→(List D→Prop)→Prop
 | [],K=>K []
 | .tmp t::rs,K=>lookK L t fun d=>resK tb L H rs fun ds=>K (d::ds)
 | .cell a t::rs,K=>lookK L a fun d=>loadK tb True H t d fun d=>resK tb L H rs fun ds=>K (d::ds)
def oneK (ds:List D)(K:D→Prop):Prop:=match ds with
 | [d]=>K d
 | ds=>K (.tup ds)
structure Fin (r r':D):Prop where
 out:∀ h v,Den Env.dummy h r' v→Den Env.dummy h r v
theorem Fin.same (r:D):Fin r r:=⟨fun _ _ h=>h⟩
theorem Fin.of {r r':D}(e:r'=r):Fin r r':=⟨fun _ _ h=>e▸h⟩
theorem Fin.nil (k:IntKind):Fin (.ints k []) .nil:=⟨fun h v hv=>by
 simp only[Den,jaP] at hv ⊢
 exact⟨none,0,by simpa using hv,by simp,by simp,by simp,by simp⟩⟩
def argSl:Nat→List D→Sl
 | _,[]=>[]
 | n,d::ds=>(n,d)::argSl (n+1) ds
structure AnyB (p:Bool→Prop)(A B:Prop):Prop where
 yes:p true→A
 no:p false→B
def jhJ (N:Nat):List Nat→List D→Sl→(Sl→Prop)→Prop
 | [],[],L,K=>K L
 | t::ts,d::ds,L,K=>ltK t N (jhJ N ts ds ((t,d)::L) K)
 | _,_,_,_=>False
def endR (i:Nat)(K1:D→Hp→Prop):K3:=fun e _ H=>match e with
 | .normal=>K1 (.bool true) ((i,.lp none)::H)
 | .exit j=>K1 (.bool false) ((i,.lp (some (.exit j)))::H)
 | .ret=>K1 (.bool false) ((i,.lp (some .ret))::H)
 | _=>False
def endL (i:Nat)(L0:Sl)(K:K3):D→Hp→Prop:=fun _ H=>jaS H i fun c=>match c with
 | .lp p=>match p with
  | none=>K .normal L0 ((i,.gone)::H)
  | some c=>match c with
   | .exit j=>K (.exit j) L0 ((i,.gone)::H)
   | .ret=>K .ret L0 ((i,.gone)::H)
   | _=>False
 | _=>False
def noRg:Code→Bool
 | .seq a b=>noRg a && noRg b
 | .cond _ a b=>noRg a && noRg b
 | .block _ b=>noRg b
 | .loop b=>noRg b
 | .scope b=>noRg b
 | .rangeFunc _ _ _ _=>false
 | _=>true
def rdyK (i:Nat)(H:Hp)(A:Prop):Prop:=jaS H i fun c=>match c with
 | .lp p=>match p with
  | none=>A
  | some _=>False
 | _=>False
def RunC (P : Program) (tb : Tb) (inl : Inl) (N : Nat) : Code → Yl → Nat → Sl → Hp → K3 → Prop
  | .skip, _, _, L, H, K => K .normal L H
  | .region _ ops draw, yl, off, L, H, K => match draw with
    | false => ops2K P tb inl yl N off ops.toList (fun c L H => K (.panic c) L H) ops.toList L H (K .normal)
    | true => ∃ plan ns, PlanOk P ops.toList ns plan ∧ Drw off (drawD P tb inl yl N off ops.toList (fun c L H => K (.panic c) L H) plan ns L H) (K .normal)
  | .seq a b, yl, off, L, H, K => RunC P tb inl N a yl off L H (nrm (fun L H => RunC P tb inl N b yl off L H K) K)
  | .cond c a b, yl, off, L, H, K => rdg True L c fun d => match d with
    | .bool x => Cnd off x (RunC P tb inl N a yl off L H) (RunC P tb inl N b yl off L H) K
    | .anyb p => AnyB p (RunC P tb inl N a yl off L H K) (RunC P tb inl N b yl off L H K)
    | _ => False
  | .block i b, yl, off, L, H, K => RunC P tb inl N b yl off L H (blk i K)
  | .loop b, yl, off, L, H, K => Lp off L H (RunC P tb inl N b yl off) K
  | .exit i, _, _, L, H, K => K (.exit i) L H
  | .ret, _, _, L, H, K => K .ret L H
  | .scope b, yl, off, L, H, K => RunC P tb inl N b yl off L H (scp K)
  | .rangeFunc f ps assign body, yl, off, L, H, K => rdg True L f fun df => match df with
    | .fn g first caps => match first with
      | [] => match D.freeL (off + N) caps with
        | true => jep (off + N) L fun L => cutK (off + N + 1) L fun L0 => jbW (off + N) H fun H => inl
            (fun i ds top H1 K1 => match Nat.beq i (off + N) with
              | true => match noRg assign with
               | true => rdyK (off + N) H1 (jhJ N ps.toList ds L0 fun Lp => RunC P tb inl N assign yl top Lp H1 fun e L2 H2 => match e with
                | .normal => rdyK (off + N) H2 (RunC P tb inl N body yl top L2 ((off + N, .gone) :: H2) (endR (off + N) K1))
                | _ => False)
               | false => False
              | false => yl i ds top H1 K1)
            g (.yld (off + N) :: caps) (off + N + 1) ((off + N, .lp none) :: H) (endL (off + N) L0 K) (fun _ _ => False)
        | false => False
      | _ => False
    | _ => False
  | .label _, _, _, L, H, K => K .normal L H
  | .goto _, _, _, _, _, _ => False
  | .refuse _, _, _, _, _, _ => False
theorem jhD {P:Program}{tb:Tb}(htb:TbOk P tb){L:Sl}{H:Hp} : ∀ {rs:List ResultVar} {K:List D→Prop},resK tb L H rs K →
  ∃ ds,K ds∧ds.length=rs.length ∧ ∀ cx E h a w,Sat cx E h a w L H → ∃ vs,DenL E h ds vs ∧
   (rs.mapM fun | .tmp t=>pure (a.tmps.getD t Go.undef) | .cell x t=>do loadVar t (← asAddr (a.tmps.getD x Go.undef)):Sem (List Value)).run P w = .ok vs w
 | [],K,hh=>⟨[],hh,rfl,fun cx E h a w S=>⟨[],by simp[DenL],by simp⟩⟩
 | .tmp t::rs,K,hh=>by
  simp only[resK] at hh
  rw[jbN] at hh
  obtain⟨ds,hK,hl,hv⟩:=jhD htb hh
  refine⟨_,hK,by simp[hl],fun cx E h a w S=>?_⟩
  obtain⟨vs,h1,h2⟩:=hv cx E h a w S
  refine⟨a.tmps.getD t Go.undef::vs,by simp only[DenL];exact⟨_,_,rfl,S.knows t,h1⟩,?_⟩
  simp only[List.mapM_cons,Sem.run_bind,Sem.run_pure,Result.andThen_ok,h2]
 | .cell x t::rs,K,hh=>by
  simp only[resK] at hh
  rw[jbN] at hh
  obtain⟨r,hh,hr⟩:=load_el htb hh
  obtain⟨ds,hK,hl,hv⟩:=jhD htb hh
  refine⟨_,hK,by simp[hl],fun cx E h a w S=>?_⟩
  obtain⟨vs,h1,h2⟩:=hv cx E h a w S
  obtain⟨v,h3,h4⟩:=hr E h a w L S.facts _ (S.knows x) trivial
  refine⟨v::vs,by simp only[DenL];exact⟨_,_,rfl,h4,h1⟩,?_⟩
  have h5:(do loadVar t (← asAddr (a.tmps.getD x Go.undef)):Sem Value).run P w = .ok v w:=by
   revert h3
   generalize a.tmps.getD x Go.undef=u
   intro h3
   cases u with
   | pointer p=>
    cases p with
    | some p=>simpa [Instr.loadAt,Instr.sureAddr,asAddr] using h3
    | none=>simp[Instr.loadAt,Instr.sureAddr] at h3
   | _=>simp[Instr.loadAt,Instr.sureAddr] at h3
  rw[List.mapM_cons,Sem.run_bind,h5]
  simp only[Result.andThen_ok,Sem.run_bind,h2,Sem.run_pure]
theorem look_argSl (n:Nat)(ds:List D)(t:Nat):look (argSl n ds) t=if n≤t then ds.getD (t-n) .any else .any:=by
 induction ds generalizing n with
 | nil=>simp[argSl,look]
 | cons d ds ih=>
  rw[argSl,jaG,ih]
  by_cases h:n=t
  ·subst h;simp
  ·rw[if_neg h]
   by_cases h2:n≤t
   ·have:t-n=(t-(n+1))+1:=by omega
    rw[if_pos (by omega),if_pos h2,this];simp
   ·rw[if_neg (by omega),if_neg h2]
theorem jfn {P:Program}{f:Nat}{fn:Func}{c:Code}(hf:P.funcs[f]? = some fn)(hname:(fn.name == "runtime.NumGoroutine")=false)(hb:fn.body=some c):Enters P f:=by
 intro args w
 have h2:¬ fn.name = "runtime.NumGoroutine" := by simpa using hname
 simp[callFunc,hf,hb,h2]
end Go.V
end
section
namespace Go.V
open Go Go.RowKit
def jgh (P:Program)(tb:Tb)(inl:Inl)(N n:Nat)(c:Code):Prop:=
 ∀ (cx:Cx) (yl:Yl) (r:Option Nat) (L:Sl) (H:Hp) (K:K3) (Q:Exit→Act→World→Prop),YlOk P cx yl→(noRg c=true ∨ ∀ l₀,r=some l₀ → ∃ r₀,cx.objs l₀=some (.loop r₀))→RunC P tb inl N c yl cx.off L H K →
  (∀ e L' H' E' h' a' w',K e L' H'→a'.tmps.size=n→Sat cx E' h' a' w' L' H'→Q e a' w') →
  ∀ E h a w,a.tmps.size=n→Sat cx E h a w L H→c.wpIn (FR r) 0 P Q a w
theorem params_el {N:Nat}{ps:List Nat}{ds:List D}{L:Sl}{K:Sl→Prop}(h:jhJ N ps ds L K) :
  ∃ L',K L'∧ps.length=ds.length ∧ ∀ E hp (tmps:Array Value) vs,N≤tmps.size→(∀ t,Den E hp (look L t) (tmps.getD t Go.undef))→DenL E hp ds vs →
   ∀ t,Den E hp (look L' t) (((ps.zip vs).foldl (fun (s:Array Value) (p:Nat×Value)=>s.setIfInBounds p.1 p.2) tmps).getD t Go.undef):=by
 induction ps generalizing ds L with
 | nil=>
  cases ds with
  | nil=>exact⟨L,h,rfl,fun E hp tmps vs _ hk _ t=>by simpa using hk t⟩
  | cons=>exact h.elim
 | cons p ps ih=>
  cases ds with
  | nil=>exact h.elim
  | cons d ds=>
   obtain⟨hlt,h⟩:=jcG h
   obtain⟨L',hK,hl,hf⟩:=ih h
   refine⟨L',hK,by simp[hl],fun E hp tmps vs hN hk hv=>?_⟩
   simp only[DenL] at hv
   obtain⟨v,vs',rfl,h1,h2⟩:=hv
   simp only[List.zip_cons_cons,List.foldl_cons]
   refine hf E hp _ vs' (by simpa using hN) (fun t=>?_) h2
   exact jcW (a := { tmps:=tmps,defers:=[] }) hk (by show p<tmps.size;omega) h1 t
theorem purge_el {E E':Env}{h:Pub}{i:Nat}{L:Sl}{a:Act}(he:E.off E' i)(hk:∀ t,Den E h (look L t) (a.tmps.getD t Go.undef)):∀ t,Den E' h (look (purge i L) t) (a.tmps.getD t Go.undef):=fun t=>jbS he (hk t)
section
variable {P : Program} {tb : Tb} {inl : Inl} {N n : Nat}
theorem enter_el {r:Option Nat}{w:World}(hr:∀ l₀,r=some l₀ → ∃ r₀,w.heap[l₀]? = some (.loop r₀))(fn:FuncId)(tmps:Array Value)(ps:Array Tmp)(assign body:Code) :
  ∃ (l:Nat) (md:List Nat) (w₁:World) (d:Nat),(Instr.enterLoop fn tmps ps assign body r).run P w = .ok (l,md.map fun b=>({ target := .collected b,args := #[] } : Deferred)) w₁∧Below w.heap.size w w₁∧w.heap.size≤l ∧
   w₁.heap[l]? = some (.loop { state := .ready,pending:=none,fn,tmps,params:=ps,assign,body,defers:=d })∧md.Nodup ∧ ∀ b∈md,w.heap.size≤b∧b≠l∧w₁.heap[b]? = some (.deferred (some [])):=by
 cases r with
 | none=>
  refine⟨_,[w.heap.size],_,w.heap.size,run_enterLoop_outer fn tmps ps assign body,((Below.refl _ w).alloc (jjc _) _).alloc (by rw[World.size_alloc];omega) _,by omega,?_,by simp,?_⟩
  ·have:=World.alloc_heap_new (w.alloc (.deferred (some []))) (.loop { state := .ready,pending:=none,fn,tmps,params:=ps,assign,body,defers:=w.heap.size })
   rwa [World.size_alloc] at this
  ·intro b hb
   simp only[List.mem_singleton] at hb
   subst hb
   refine⟨jjc _,by omega,?_⟩
   have h1:=World.alloc_heap_new w (.deferred (some []))
   rw[(Below.heap_alloc (w.alloc (.deferred (some []))) _ w.heap.size (by rw[World.size_alloc];omega))]
   exact h1
 | some l₀=>
  obtain⟨r₀,hr₀⟩:=hr l₀ rfl
  exact⟨_,[],_,r₀.defers,run_enterLoop_inner hr₀ fn tmps ps assign body,(Below.refl _ w).alloc (jjc _) _,jjc _,World.alloc_heap_new w _,by simp,by simp⟩
theorem rdy_el {i:Nat}{H:Hp}{A:Prop}(h:rdyK i H A):lookH H i=some (.lp none)∧A:=by
 obtain⟨c,hc,h⟩:=jaw h
 split at h
 ·split at h
  ·exact⟨hc,h⟩
  ·exact h.elim
 ·exact h.elim
theorem round_el {assign body : Code} (hA : jgh P tb inl N n assign) (hB : jgh P tb inl N n body) {cx0 cx : Cx} {yl : Yl} (hyl : YlOk P cx0 yl) (hl0 : Later cx0 cx) {E : Env} {h : Pub} {w : World} {H : Hp} {top : Nat} (htop : cx.off ≤ top) {i : Nat} (hi : i < cx.off) {rec : Loop}
    (hlpr : E.lpr i = some rec) (h0 : lpRec rec none = rec) (h3 : rec.assign = assign) (h4 : rec.body = body) (hno : noRg assign = true)
    (M : MS cx E h w H) {vs : List Value} {Lp : Sl} (hps : rec.params.size = vs.length) (hsz : rec.tmps.size = n) (hrdy : lookH H i = some (.lp none))
    (hk : ∀ t, Den E h (look Lp t) (((rec.params.toList.zip vs).foldl (fun (s : Array Value) (p : Nat × Value) => s.setIfInBounds p.1 p.2) rec.tmps).getD t Go.undef)) {K1 : D → Hp → Prop}
    (hh : RunC P tb inl N assign yl top Lp H fun e L2 H2 => match e with
                | .normal => rdyK i H2 (RunC P tb inl N body yl top L2 ((i, .gone) :: H2) (endR i K1))
                | _ => False) :
    ∃ fn tmps assign body, (Instr.yield (E.blk i) vs.toArray).run P w = .ok (.round (E.blk i) fn tmps assign body) w ∧
      RoundIn (FR none) 0 P (E.blk i) fn tmps assign body w fun e w' => ∃ v r E' h' H', e = .returned v ∧ K1 r H' ∧ Den E' h' r v ∧ MS (cx.now E h top cx.objs) E' h' w' H' := by
  obtain ⟨hreal, r1, hr1, hl⟩ := M.mem.ok i _ hrdy
  rw [hlpr] at hr1; cases hr1
  rw [h0] at hl
  have hB0 := M.mem.base i _ hrdy rfl hreal
  have hst : rec.state = .ready := by rw [← h0]; rfl
  have hnone : cx.objs (E.blk i) = none := by
    cases hc : cx.objs (E.blk i) with
    | none => rfl
    | some o =>
      obtain ⟨_, g1, g2⟩ := M.objs _ _ hc
      rw [hl] at g2; cases g2
      have := g1.2.1 _ rfl
      rw [hst] at this; cases this
  obtain ⟨l, hle⟩ : ∃ l, l = E.blk i := ⟨_, rfl⟩
  rw [← hle] at hl hB0 hnone ⊢
  refine ⟨_, _, _, _, run_yield hl (by rw [hps]; simp), ?_⟩
  rw [h3, h4]
  let cxa : Cx := cx.now E h top cx.objs
  have hla : Later cx cxa := M.later htop (fun b o e => e)
  have Ma : MS cxa E h w H := M.now M.objs
  obtain ⟨tm, htm⟩ : ∃ tm, tm = (rec.params.zip vs.toArray).foldl (fun tmps (t, a) => tmps.setIfInBounds t a) rec.tmps := ⟨_, rfl⟩
  have htm' : tm = (rec.params.toList.zip vs).foldl (fun (s : Array Value) (p : Nat × Value) => s.setIfInBounds p.1 p.2) rec.tmps := by
    rw [htm, ← Array.foldl_toList, Array.toList_zip]
  rw [← htm]
  have htsz : tm.size = n := by
    rw [htm', ← hsz]
    generalize rec.params.toList.zip vs = zs
    generalize rec.tmps = t0
    induction zs generalizing t0 with
    | nil => rfl
    | cons z zs ih => rw [List.foldl_cons, ih]; simp
  have Sa : Sat cxa E h { tmps := tm, defers := [] } w Lp H := Ma.sat (fun t => by show Den E h _ (tm.getD t Go.undef); rw [htm']; exact hk t) ⟨[], by simp, rfl, by simp⟩
  refine roundIn_of_wpIn (F := FR none) trivial ?_
  refine hA cxa yl (some l) Lp H _ _ (hyl.later (hl0.trans hla)) (.inl hno) hh ?_ E h _ w htsz Sa
  intro e L2 H2 E2 hp2 a2 w2 hK2 hs2 S2
  have hitop : i < top := jjj hi htop
  cases e with
  | normal =>
    obtain ⟨hrdy2, hK2⟩ := rdy_el hK2
    obtain ⟨hreal2, r2, hr2, hl2⟩ := S2.mem.ok i _ hrdy2
    have low2 := S2.low i hitop
    have hlp2 : E2.lpr i = some rec := by rw [low2.2.2.2.2]; exact hlpr
    rw [hlp2] at hr2; cases hr2
    have hbl2 : E2.blk i = l := low2.1.trans hle.symm
    rw [hbl2, h0] at hl2
    refine ⟨_, run_beginRound hl2 hst, ?_⟩
    let cxb : Cx := { cxa with objs := fun b => if b = l then some (.loop { rec with state := .busy }) else cx.objs b }
    have hheld : held (.loop { rec with state := .busy }) := ⟨rfl, (fun r e => by cases e; rfl), fun _ _ e => by cases e⟩
    have hob : ∀ b q, cxb.objs b = some q → (b ≠ l ∧ cxa.objs b = some q) ∨ (b = l ∧ q = .loop { rec with state := .busy } ∧ held (.loop { rec with state := .busy })) := by
      intro b q hq
      by_cases e : b = l
      · right; simp only [cxb, e, if_true] at hq; cases hq; exact ⟨e, rfl, hheld⟩
      · left; simp only [cxb, e, if_false] at hq; exact ⟨e, hq⟩
    have Mb : MS cxb E2 hp2 (w2.putObj l (.loop { rec with state := .busy })) ((i, .gone) :: H2) := (S2.ms.gone i).putObj hl2 rfl hB0 hob (fun j p hj hrj e => by
      rw [jaf] at hj
      split at hj
      · cases hj
      · rename_i hne
        refine S2.mem.inj i j _ _ hne hrdy2 hj rfl rfl hreal2 hrj ?_
        rw [hbl2, e])
    have Sb : Sat cxb E2 hp2 a2 (w2.putObj l (.loop { rec with state := .busy })) L2 ((i, .gone) :: H2) := by
      refine Mb.sat S2.knows ?_
      obtain ⟨ms, g0, g1, g2⟩ := S2.side.marks
      refine ⟨ms, g0, g1, fun b hb => ?_⟩
      obtain ⟨k1, k2, k3⟩ := g2 b hb
      have hbl : b ≠ l := fun e => by subst e; rw [hl2] at k3; cases k3
      exact ⟨k1, by simp only [cxb, hbl, if_false]; exact k2, by rw [World.putObj_heap_other hbl]; exact k3⟩
    have hlab : Later cxa cxb := ⟨rfl, Pub.Le.refl _, fun _ _ _ => rfl, jjc _, fun _ _ => .refl _ _, fun b o hbo => by
      have hbl : b ≠ l := fun e => by subst e; rw [show cxa.objs b = cx.objs b from rfl, hnone] at hbo; cases hbo
      simp only [cxb, hbl, if_false]; exact hbo⟩
    refine hB cxb yl (some l) L2 _ _ _ (hyl.later ((hl0.trans hla).trans hlab)) (.inr fun l₀ e => by cases e; exact ⟨{ rec with state := .busy }, by simp [cxb]⟩) hK2 ?_ E2 hp2 a2 _ hs2 Sb
    intro e L3 H3 E3 hp3 a3 w3 hK3 hs3 S3
    have hl3 : w3.heap[l]? = some (.loop { rec with state := .busy }) := (S3.side.objs l _ (by simp [cxb])).2.2
    have low3 := S3.low i hitop
    have low3' : E3.blk i = E.blk i ∧ E3.siz i = E.siz i ∧ E3.kn i = E.kn i ∧ E3.real i = E.real i ∧ E3.lpr i = E.lpr i := low3
    have hbl3 : E3.blk i = l := by rw [low3'.1, hle]
    have hlp3 : E3.lpr i = some rec := by rw [low3'.2.2.2.2]; exact hlpr
    have hreal3 : E3.real i = true := by rw [low3'.2.2.2.1]; exact hreal
    have hlpn : ∀ j p, lookH H3 j = some (.lp p) → E3.real j = true → E3.blk j ≠ l := fun j p hj hrj e => by
      obtain ⟨_, r, _, g⟩ := S3.mem.ok j _ hj
      rw [e, hl3] at g
      have g2 := congrArg (fun o : Option Obj => match o with | some (.loop r) => r.state | _ => .busy) g
      simp only [lpRec] at g2
      cases p <;> simp at g2
    have fin : ∀ p : Option Code, MS (cx.now E h top cx.objs) E3 hp3 (w3.putObj l (.loop (lpRec rec p))) ((i, .lp p) :: H3) := fun p => by
      have := S3.ms.putObj (o' := .loop (lpRec rec p)) (objs := cx.objs) hl3 rfl hB0 (fun b q hq => by
        by_cases e : b = l
        · subst e; rw [hnone] at hq; cases hq
        · exact .inl ⟨e, by simp only [cxb, e, if_false]; exact hq⟩) hlpn
      refine MS.mark (r := rec) (p := p) this hreal3 hlp3 ?_ (by rw [hbl3]; exact hB0) ?_
      · rw [hbl3]; exact World.putObj_heap_same (Array.getElem?_eq_some_iff.1 hl3).1
      · intro j c hj hc hlv hrj
        rw [hbl3]
        cases hcl : c.cel with
        | true =>
          obtain ⟨cs, T, f, hcell⟩ := (S3.mem.ok j c hc).cells hcl hrj
          intro e
          rw [e, hl3] at hcell; cases hcell
        | false =>
          cases c with
          | lp q => exact hlpn j q hc hrj
          | mp q =>
            intro e
            obtain ⟨_, x, ck, g, _⟩ := S3.mem.ok j _ hc
            rw [e, hl3] at g; cases g
          | gone => simp [Chunk.live] at hlv
          | _ => simp [Chunk.cel] at hcl
    cases e with
    | normal => exact ⟨_, _, run_endRound none hl3, _, .bool true, E3, hp3, _, rfl, hK3, by simp [Den], fin none⟩
    | ret => exact ⟨_, _, run_endRound (some .ret) hl3, _, .bool false, E3, hp3, _, rfl, hK3, by simp [Den], fin (some .ret)⟩
    | exit j => exact ⟨_, _, run_endRound (some (.exit j)) hl3, _, .bool false, E3, hp3, _, rfl, hK3, by simp [Den], fin (some (.exit j))⟩
    | _ => exact hK3.elim
  | _ => exact hK2.elim
end
end Go.V
end
section
namespace Go.V
open Go Go.RowKit
section
variable {P : Program} {tb : Tb} {inl : Inl} {N n : Nat}
theorem imp3 {A B G:Prop}(f:A→B)(a:A)(g:B→G):G:=g (f a)
theorem range_el (hin:InlOk P inl)(hN:N≤n){f:Operand}{ps:Array Nat}{assign body:Code}(hA:jgh P tb inl N n assign)(hB:jgh P tb inl N n body):jgh P tb inl N n (.rangeFunc f ps assign body):=by
 intro cx yl r L H K Q hyl hr hh hQ E h a w hn S
 replace hr:=hr.resolve_left (by simp[noRg])
 simp only[RunC] at hh
 obtain⟨df,hh,hdf⟩:=jas hh
 split at hh
 case h_2=>exact hh.elim
 rename_i g first caps
 split at hh
 case h_2=>exact hh.elim
 split at hh
 case h_2=>exact hh.elim
 rename_i hfree
 rw[jdH,jgO,jc7] at hh
 have hf:=hdf E h a trivial (S.facts.rd f)
 simp only[Den,DenL] at hf
 obtain⟨us,vs,hfv,rfl,hv⟩:=hf
 refine wpIn_rangeFunc ?_
 intro fn _
 obtain⟨l,md,w₁,d,hent,hbel,hlw,hl1,hnd,hmd⟩:=enter_el (P:=P) (r:=r) (fun l₀ e=>by obtain⟨r₀,h0⟩:=hr l₀ e;exact⟨r₀,(S.side.objs _ _ h0).2.2⟩) fn a.tmps ps assign body
 obtain⟨rec,hrec⟩:∃ rec:Loop,rec = { state := .ready,pending:=none,fn,tmps:=a.tmps,params:=ps,assign,body,defers:=d } := ⟨_,rfl⟩
 have hrec0:lpRec rec none=rec:=by rw[hrec];rfl
 rw[← hrec] at hl1
 have hB0:cx.w0.heap.size≤w.heap.size:=S.since.below.size
 obtain⟨ms,g0,g1,g2⟩:=S.side.marks
 have hnone:∀ b,w.heap.size≤b→cx.objs b=none:=fun b hb=>by
  cases hc:cx.objs b with
  | none=>rfl
  | some o=>have:=(Array.getElem?_eq_some_iff.1 (S.side.objs b o hc).2.2).1;omega
 -- the state behind the entry
 have hoff:=E.off_setL (cx.off+N) l rec
 obtain⟨E1,hE1⟩:∃ E1,E1=E.setL (cx.off+N) l rec:=⟨_,rfl⟩
 have hE1l:E1.blk (cx.off+N)=l:=by rw[hE1];exact E.setL_blk _ _ _
 have hE1r:E1.real (cx.off+N)=true:=by rw[hE1];exact E.setL_real _ _ _
 have hE1p:E1.lpr (cx.off+N)=some rec:=by rw[hE1];exact E.setL_lpr _ _ _
 rw[← hE1] at hoff
 obtain⟨H0,hH0⟩:∃ H0,H0=jaJ (cx.off+N) H:=⟨_,rfl⟩
 rw[← hH0] at hh
 have M0:MS cx E1 h w₁ ((cx.off+N,.gone)::H0):=by rw[hH0];exact(S.ms.below hbel).name hoff (Nat.le_add_right _ _)
 have hlt0:∀ j c,lookH ((cx.off+N,Chunk.gone)::H0) j=some c→c.live=true→E1.real j=true→E1.blk j<w.heap.size:=fun j c hj hlv hrj=>by
  rw[jaf] at hj
  split at hj
  ·cases hj;simp[Chunk.live] at hlv
  ·rename_i hne
   rw[hH0] at hj
   obtain⟨c0,k1,rfl⟩:=jbi hj
   rw[jbh] at hlv
   have e1:=hoff j (Ne.symm hne)
   rw[e1.2.2.2.1] at hrj
   rw[e1.1]
   exact(S.mem.ok j c0 k1).lt hlv hrj
 have hMk:∀ j c,j≠cx.off+N→lookH H0 j=some c→c.live=true→E1.real j=true→E1.blk j≠E1.blk (cx.off+N):=fun j c hj hc hlv hrj e=>by
  have:=hlt0 j c (by rw[jaf,if_neg (Ne.symm hj)];exact hc) hlv hrj
  rw[e,hE1l] at this;omega
 have M1':MS cx E1 h w₁ ((cx.off+N,.lp none)::(cx.off+N,.gone)::H0):=by
  refine M0.mark hE1r hE1p (by rw[hE1l,hrec0];exact hl1) (by rw[hE1l];omega) fun j c hj hc hlv hrj=>?_
  rw[jaf,if_neg (Ne.symm hj)] at hc
  exact hMk j c hj hc hlv hrj
 obtain⟨H1,hH1⟩:∃ H1,H1=(cx.off+N,Chunk.lp none)::H0:=⟨_,rfl⟩
 rw[← hH1] at hh
 have M1:MS cx E1 h w₁ H1:=by
  rw[hH1]
  have same:∀ j,lookH ((cx.off+N,Chunk.lp none)::H0) j=lookH ((cx.off+N,Chunk.lp none)::(cx.off+N,Chunk.gone)::H0) j:=fun j=>by
   simp only[jaf]
   split<;>rfl
  refine⟨⟨fun j c hc=>M1'.mem.ok j c (by rw[← same];exact hc),fun j c hc=>M1'.mem.base j c (by rw[← same];exact hc),fun j c hc=>M1'.mem.unpub j c (by rw[← same];exact hc),
   fun j k c1 c2 hjk h1 h2=>M1'.mem.inj j k c1 c2 hjk (by rw[← same];exact h1) (by rw[← same];exact h2)⟩,M1'.agree,M1'.since,M1'.low,M1'.objs⟩
 obtain⟨L1,hL1⟩:∃ L1,L1=purge (cx.off+N) L:=⟨_,rfl⟩
 rw[← hL1] at hh
 have hk1:∀ t,Den E1 h (look L1 t) (a.tmps.getD t Go.undef):=by rw[hL1];exact purge_el hoff S.knows
 let a1:Act := { a with defers:=(md.map fun b=>({ target := .collected b,args := #[] } : Deferred))++a.defers }
 have S1:Sat cx E1 h a1 w₁ L1 H1:=by
  refine M1.sat hk1 ⟨md++ms,?_,?_,?_⟩
  ·refine List.nodup_append.2 ⟨hnd,g0,fun b hb c hc e=>?_⟩
   subst e
   have h1:=(hmd b hb).1
   have h2:=(Array.getElem?_eq_some_iff.1 (g2 b hc).2.2).1
   omega
  ·show _++a.defers=_
   rw[g1];simp
  ·intro b hb
   rcases List.mem_append.1 hb with hb|hb
   ·obtain⟨k1,k2,k3⟩:=hmd b hb
    exact⟨by omega,hnone b k1,k3⟩
   ·obtain⟨k1,k2,k3⟩:=g2 b hb
    exact⟨k1,k2,by rw[hbel.block b (Array.getElem?_eq_some_iff.1 k3).1];exact k3⟩
 have hle:cx.off≤cx.off+N+1:=by omega
 have hlat:Later cx (cx.now E1 h (cx.off+N+1) (jbf cx w₁)):=M1.later hle (jcu cx w₁)
 have hargs:DenL E1 h (.yld (cx.off+N)::caps) (Value.func (.yield l) #[] #[]::vs):=by
  simp only[DenL,Den]
  exact⟨_,_,rfl,by rw[hE1l],DenL.env hoff hfree hv⟩
 refine imp3 (fun hy=>hin _ _ _ _ _ _ _ hh (cx.now E1 h (cx.off+N+1) (jbf cx w₁)) E1 h w₁ _ rfl rfl hy (M1.now (jct M1)) hargs) ?_ ?_
 ·
  intro cx' hl' i ds top H2 K2 hyl2 htop E2 h2 w2 vs2 M2 hv2
  cases hb:Nat.beq i (cx.off+N) with
  | false=>
   simp only[hb] at hyl2
   exact(hyl.later (hlat.trans hl')) cx' (Later.refl _) i ds top H2 K2 hyl2 htop E2 h2 w2 vs2 M2 hv2
  | true=>
   have:=jae hb;subst this
   simp only[hb] at hyl2
   split at hyl2
   case h_2=>exact hyl2.elim
   rename_i hno
   obtain⟨hrdy,hyl2⟩:=rdy_el hyl2
   obtain⟨Lp,hrun,hpl,hpk⟩:=params_el hyl2
   have hlo:cx.off+N<cx'.off:=jjj (show cx.off+N<cx.off+N+1 by omega) hl'.off
   have el:=M2.low (cx.off+N) hlo
   have ee:=hl'.env (cx.off+N) (show cx.off+N<cx.off+N+1 by omega)
   have hEp:E2.lpr (cx.off+N)=some rec:=by
    rw[el.2.2.2.2,ee.2.2.2.2];exact hE1p
   have hkn:∀ t,Den E2 h2 (look (cut (cx.off+N+1) L1) t) (a.tmps.getD t Go.undef):=fun t=>
    look_cut (fun j hj=>Env.same.trans (hl'.env j hj) (M2.low j (jjj hj hl'.off))) (hl'.le.trans M2.since.le) (hk1 t)
   have hlen2:=hv2.length
   refine round_el hA hB hyl (hlat.trans hl') htop hlo hEp hrec0 (by rw[hrec]) (by rw[hrec]) hno M2 (Lp:=Lp) ?_ (by rw[hrec];exact hn) hrdy ?_ hrun
   ·rw[hrec];show ps.size=_;rw[← Array.length_toList,hpl,hlen2]
   ·rw[hrec]
    exact hpk E2 h2 a.tmps vs2 (by omega) hkn hv2
 rintro⟨hgent,hcall⟩
 obtain⟨dd,hd1,hd2⟩:=jhy (P:=P) (x:=f) (args := #[.const (.func (.yield l) #[] #[])]) (ts := #[]) (t:=0) (w:=w₁) (us:=[]) hfv hgent
 refine⟨l,_,w₁,dd,w₁,g,_,w₁,hent,hd1,fun _ _=>trivial,hd2,fun e=>absurd (show (none:Option Nat).isSome=true from e) (by decide),?_⟩
 have hcall':CallsIn (FR r) 0 P g (Value.func (.yield l) #[] #[]::vs).toArray w₁ _:=hcall
 refine CallsIn.mono hcall' ?_
 rintro e w3 (⟨v,r',E3,h3,H3,rfl,hK,hden,M3⟩|⟨_,_,_,_,_,hf,_⟩)
 case inr=>exact hf.elim
 unfold endL at hK
 obtain⟨c3,hc3,hK⟩:=jaw hK
 split at hK
 case h_2=>exact hK.elim
 rename_i p
 obtain⟨hreal3,r3,hr3,hl3⟩:=M3.mem.ok _ _ hc3
 have el:=M3.low (cx.off+N) (show cx.off+N<cx.off+N+1 by omega)
 have hbl3:E3.blk (cx.off+N)=l:=el.1.trans hE1l
 have hp3:E3.lpr (cx.off+N)=some rec:=el.2.2.2.2.trans hE1p
 rw[hp3] at hr3;cases hr3
 rw[hbl3] at hl3
 have hbusy:(lpRec rec p).state ≠ .busy:=by cases p<;>simp[lpRec]
 have hend:=run_endLoop (P:=P) hl3 hbusy
 have M4:=(M3.gone (cx.off+N)).putObj (o' := .loop { lpRec rec p with state := .exhausted }) (objs:=jbf cx w₁) hl3 rfl (jjd hB0 hlw) (fun b q hq=>by
  have hbl:b≠l:=fun e=>by
   subst e
   obtain⟨_,k1,k2⟩:=jct M1 b q hq
   rw[hl1] at k2;cases k2
   have:=k1.2.1 _ rfl
   rw[hrec] at this;cases this
  exact .inl ⟨hbl,hq⟩) (fun j q hj hrj e=>by
   rw[jaf] at hj
   split at hj
   ·cases hj
   ·rename_i hne
    refine M3.mem.inj _ j _ _ hne hc3 hj rfl rfl hreal3 hrj ?_
    rw[hbl3,e])
 have S4:=S1.back' hle M4
 refine⟨(lpRec rec p).pending,_,hend,?_⟩
 cases p with
 | none=>exact hQ _ _ _ _ _ _ _ hK hn S4
 | some c=>
  show c.wpIn _ _ _ _ _ _
  cases c with
  | exit j=>exact wpIn_exit (hQ _ _ _ _ _ _ _ hK hn S4)
  | ret=>exact wpIn_ret (hQ _ _ _ _ _ _ _ hK hn S4)
  | _=>exact hK.elim
theorem jaL (htb:TbOk P tb)(hin:InlOk P inl)(hN:N≤n):∀ c:Code,jgh P tb inl N n c
 | .skip=>fun cx yl r L H K Q hyl hr hh hQ E h a w hn S=>wpIn_skip (hQ _ _ _ _ _ _ _ hh hn S)
 | .label _=>fun cx yl r L H K Q hyl hr hh hQ E h a w hn S=>wpIn_label (hQ _ _ _ _ _ _ _ hh hn S)
 | .exit i=>fun cx yl r L H K Q hyl hr hh hQ E h a w hn S=>wpIn_exit (hQ _ _ _ _ _ _ _ hh hn S)
 | .ret=>fun cx yl r L H K Q hyl hr hh hQ E h a w hn S=>wpIn_ret (hQ _ _ _ _ _ _ _ hh hn S)
 | .region id ops draw=>fun cx yl r L H K Q hyl hr hh hQ E h a w hn S=>by
  simp only[RunC] at hh
  cases draw with
  | true=>
   obtain⟨plan,ns,hp,hd⟩:=hh
   cases hd with
   | go hd=>
    obtain⟨gt,hgt,hd⟩:=drawD_gt hd
    exact jfp htb hin hyl hN hp hd hgt (fun c L' H' E' h' a' w' hK hs S'=>hQ _ _ _ _ _ _ _ hK hs S') (fun L' H' E' h' a' w' hK hs S'=>hQ _ _ _ _ _ _ _ hK hs S') hn S
   | join L0 H0 hd k=>
    obtain⟨gt,hgt,hd⟩:=drawD_gt hd
    exact jfp htb hin hyl hN hp hd hgt (fun c L' H' E' h' a' w' hK hs S'=>hQ _ _ _ _ _ _ _ hK hs S') (fun L' H' E' h' a' w' hK hs S'=>by
     obtain⟨E'',h'',S''⟩:=hK.out cx E' h' a' w' rfl S'
     exact hQ _ _ _ _ _ _ _ k hs S'') hn S
  | false=>
   refine wpIn_region_list ?_
   have:=jaY (Q:=Q) (r:=r) htb hin hyl hh hN (fun c L' H' E' h' a' w' hK hs S'=>hQ _ _ _ _ _ _ _ hK hs S') (fun L' H' E' h' a' w' hK hs S'=>hQ _ _ _ _ _ _ _ hK hs S') E h a w hn S
   simpa using this
 | .seq x y=>fun cx yl r L H K Q hyl hr hh hQ E h a w hn S=>by
  simp only[RunC] at hh
  refine wpIn_seq (jaL htb hin hN x cx yl r L H _ _ hyl (hr.imp_left fun e=>(ji0 _ _▸e:noRg x=true∧noRg y=true).1) hh ?_ E h a w hn S)
  intro e L' H' E' h' a' w' hK hs S'
  cases e with
  | normal=>exact jaL htb hin hN y cx yl r L' H' _ _ hyl (hr.imp_left fun e=>(ji0 _ _▸e:noRg x=true∧noRg y=true).2) hK hQ E' h' a' w' hs S'
  | _=>exact hQ _ _ _ _ _ _ _ hK hs S'
 | .cond c x y=>fun cx yl r L H K Q hyl hr hh hQ E h a w hn S=>by
  simp only[RunC] at hh
  obtain⟨d,hh,hd⟩:=jas hh
  have hden:=hd E h a trivial (S.facts.rd c)
  cases d with
  | bool b=>
   simp only[Den] at hden
   cases hh with
   | split hh=>
    cases b with
    | true=>exact wpIn_cond_true hden (jaL htb hin hN x cx yl r L H _ _ hyl (hr.imp_left fun e=>(ji0 _ _▸e:noRg x=true∧noRg y=true).1) (hh.yes rfl) hQ E h a w hn S)
    | false=>exact wpIn_cond_false hden (jaL htb hin hN y cx yl r L H _ _ hyl (hr.imp_left fun e=>(ji0 _ _▸e:noRg x=true∧noRg y=true).2) (hh.no rfl) hQ E h a w hn S)
   | join L0 H0 hh k=>
    have hQ2:∀ (e:Exit) L' H' E' h' a' w',jn cx.off L0 H0 K e L' H'→a'.tmps.size=n→Sat cx E' h' a' w' L' H'→Q e a' w':=fun e L' H' E' h' a' w' hK hs S'=>by
     cases e with
     | normal=>
      obtain⟨E'',h'',S''⟩:=hK.out cx E' h' a' w' rfl S'
      exact hQ _ _ _ _ _ _ _ k hs S''
     | _=>exact hQ _ _ _ _ _ _ _ hK hs S'
    cases b with
    | true=>exact wpIn_cond_true hden (jaL htb hin hN x cx yl r L H _ _ hyl (hr.imp_left fun e=>(ji0 _ _▸e:noRg x=true∧noRg y=true).1) (hh.yes rfl) hQ2 E h a w hn S)
    | false=>exact wpIn_cond_false hden (jaL htb hin hN y cx yl r L H _ _ hyl (hr.imp_left fun e=>(ji0 _ _▸e:noRg x=true∧noRg y=true).2) (hh.no rfl) hQ2 E h a w hn S)
  | anyb p=>
   simp only[Den] at hden
   obtain⟨b,hb,hp⟩:=hden
   cases b with
   | true=>exact wpIn_cond_true hb (jaL htb hin hN x cx yl r L H _ _ hyl (hr.imp_left fun e=>(ji0 _ _▸e:noRg x=true∧noRg y=true).1) (hh.yes hp) hQ E h a w hn S)
   | false=>exact wpIn_cond_false hb (jaL htb hin hN y cx yl r L H _ _ hyl (hr.imp_left fun e=>(ji0 _ _▸e:noRg x=true∧noRg y=true).2) (hh.no hp) hQ E h a w hn S)
  | _=>exact hh.elim
 | .block i b=>fun cx yl r L H K Q hyl hr hh hQ E h a w hn S=>by
  simp only[RunC] at hh
  refine wpIn_block (jaL htb hin hN b cx yl r L H _ _ hyl hr hh ?_ E h a w hn S)
  intro e L' H' E' h' a' w' hK hs S'
  cases e with
  | exit j=>
   simp only[blk] at hK
   cases hb:Nat.beq j i with
   | true=>
    rw[hb] at hK
    simp only[Exit.inBlock,jae hb,if_true]
    exact hQ _ _ _ _ _ _ _ hK hs S'
   | false=>
    rw[hb] at hK
    have hne:¬ j=i:=fun e=>by subst e;rw[Nat.beq_refl] at hb;cases hb
    simp only[Exit.inBlock,hne,if_false]
    exact hQ _ _ _ _ _ _ _ hK hs S'
  | _=>exact hQ _ _ _ _ _ _ _ hK hs S'
 | .scope b=>fun cx yl r L H K Q hyl hr hh hQ E h a w hn S=>by
  simp only[RunC] at hh
  refine wpIn_scope (jaL htb hin hN b cx yl r L H _ _ hyl hr hh ?_ E h a w hn S)
  intro e L' H' E' h' a' w' hK hs S'
  cases e with
  | goto l=>exact hK.elim
  | _=>exact hQ _ _ _ _ _ _ _ hK hs S'
 | .loop b=>fun cx yl r L H K Q hyl hr hh hQ E h a w hn S=>by
  obtain⟨K2,hK2,α,inv,sl,hp,μ,⟨x0,hx0,hwk0⟩,hround⟩:=Lp.out hh
  obtain⟨E0,h0,S0⟩:=hwk0.out cx E h a w rfl S
  refine jhq (fun x a' w'=>inv x ∧ ∃ E' h',a'.tmps.size=n∧Sat cx E' h' a' w' (sl x) (hp x)) μ ?_ x0 ⟨hx0,E0,h0,hn,S0⟩
  rintro x a' w' ⟨hx,E',h',hs,S'⟩
  refine jaL htb hin hN b cx yl r _ _ _ _ hyl hr (hround x hx) ?_ E' h' a' w' hs S'
  intro e L2 H2 E2 h2 a2 w2 hK hs2 S2
  cases e with
  | normal=>
   obtain⟨y,hy,hlt,hwk⟩:=hK
   obtain⟨E3,h3,S3⟩:=hwk.out cx E2 h2 a2 w2 rfl S2
   exact⟨y,⟨hy,E3,h3,hs2,S3⟩,hlt⟩
  | _=>
   obtain⟨L3,H3,hwk,hk⟩:=hK2 _ _ _ hK
   obtain⟨E3,h3,S3⟩:=hwk.out cx E2 h2 a2 w2 rfl S2
   exact hQ _ _ _ _ _ _ _ hk hs2 S3
 | .rangeFunc f ps assign body=>range_el hin hN (jaL htb hin hN assign) (jaL htb hin hN body)
 | .goto _=>fun cx yl r L H K Q hyl hr hh hQ E h a w hn S=>hh.elim
 | .refuse _=>fun cx yl r L H K Q hyl hr hh hQ E h a w hn S=>hh.elim
end
end Go.V
end
section
namespace Go.V
open Go Go.RowKit
structure InlF (P:Program)(g:Nat)(fn:Func)(c:Code)(k:Nat):Prop where
 func:P.funcs[g]? = some fn
 body:fn.body=some c
 name:(fn.name == "runtime.NumGoroutine")=false
 len:k≤fn.ntmps
def raisK (c:List PanicEntry)(A:Value→Prop):Prop:=match c with
 | [p]=>match p.recovered with
  | true=>False
  | false=>match p.goexit with
   | true=>False
   | false=>A p.v
 | _=>False
theorem raisK_el {c:List PanicEntry}{A:Value→Prop}(h:raisK c A):∃ v,c=[{ v:=v,recovered:=false }]∧A v:=by
 unfold raisK at h
 split at h
 ·rename_i p
  obtain⟨v,r,g⟩:=p
  cases r with
  | true=>exact h.elim
  | false=>
   cases g with
   | true=>exact h.elim
   | false=>exact⟨v,rfl,h⟩
 ·exact h.elim
def endK (tb:Tb)(fn:Func)(K:D→Hp→Prop)(KP:Value→Hp→Prop):K3:=fun e L H=>match e with
 | .ret=>resK tb L H fn.results.toList fun ds=>oneK ds fun d=>K d H
 | .normal=>resK tb L H fn.results.toList fun ds=>oneK ds fun d=>K d H
 | .panic c=>raisK c fun v=>KP v H
 | _=>False
def RunF (P:Program)(tb:Tb)(inl:Inl)(yl:Yl)(fn:Func)(c:Code)(ds:List D)(off:Nat)(H:Hp)(K:D→Hp→Prop)(KP:Value→Hp→Prop):Prop:=
 RunC P tb inl fn.ntmps c yl off (argSl 0 ds) H (endK tb fn K KP)
def inlS (P:Program)(tb:Tb)(inl:Inl):Inl:=fun yl g ds off H K KP => ∃ fn c,InlF P g fn c ds.length∧RunF P tb inl yl fn c ds off H K KP
def noP:Value→Hp→Prop:=fun _ _=>False
def inlN (P:Program)(tb:Tb):Nat→Inl
 | 0=>fun _ _ _ _ _ _ _=>False
 | k+1=>inlS P tb (inlN P tb k)
section
variable {P : Program} {tb : Tb} {inl : Inl}
theorem jer {fn : Func} {tmps : Array Value} {R : Ending → World → Prop} {cx : Cx} {E : Env} {h : Pub} {H : Hp} (fin : ∀ w, MS cx E h w H → ∃ v, (results fn tmps).run P w = .ok v w ∧ R (.returned v) w) :
    ∀ (ms : List Nat) (w : World), ms.Nodup → (∀ b ∈ ms, cx.w0.heap.size ≤ b ∧ cx.objs b = none ∧ w.heap[b]? = some (.deferred (some []))) → MS cx E h w H →
      LeavesInM (FR none) 0 P fn tmps R (ms.map fun b => ({ target := .collected b, args := #[] } : Deferred)) .returning w
  | [], w, _, _, M => by
    simp only [List.map_nil, LeavesInM, LeavesIn]
    exact fin w M
  | b :: ms, w, hnd, hms, M => by
    simp only [List.map_cons, LeavesInM]
    obtain ⟨h1, h2, h3⟩ := hms b (by simp)
    rw [List.nodup_cons] at hnd
    refine ⟨by simp, .inl ⟨b, _, rfl, run_takeDeferred h3, ?_⟩⟩
    refine jer fin ms _ hnd.2 (fun q hq => ?_) ?_
    · obtain ⟨k1, k2, k3⟩ := hms q (by simp [hq])
      exact ⟨k1, k2, by rw [World.putObj_heap_other (show q ≠ b from fun e => hnd.1 (by rw [← e]; exact hq))]; exact k3⟩
    · exact M.putObj (o' := .deferred none) (objs := cx.objs) h3 rfl h1 (fun q o hq => .inl ⟨fun e => (by subst e; rw [h2] at hq; cases hq), hq⟩) (fun j p hj hrj e => by
        obtain ⟨_, r, _, g⟩ := M.mem.ok j _ hj
        rw [e, h3] at g; cases g)
theorem jdS {fn : Func} {tmps : Array Value} {R : Ending → World → Prop} {cx : Cx} {E : Env} {h : Pub} {H : Hp} {c : List PanicEntry} (fin : ∀ w, MS cx E h w H → R (.panicked c) w) (hc : ∃ v, c = [{ v := v, recovered := false }]) :
    ∀ (ms : List Nat) (w : World), ms.Nodup → (∀ b ∈ ms, cx.w0.heap.size ≤ b ∧ cx.objs b = none ∧ w.heap[b]? = some (.deferred (some []))) → MS cx E h w H →
      LeavesInM (FR none) 0 P fn tmps R (ms.map fun b => ({ target := .collected b, args := #[] } : Deferred)) (.panicking c) w
  | [], w, _, _, M => by
    obtain ⟨v, rfl⟩ := hc
    simp only [List.map_nil, LeavesInM, LeavesIn]
    exact fin w M
  | b :: ms, w, hnd, hms, M => by
    simp only [List.map_cons, LeavesInM]
    obtain ⟨h1, h2, h3⟩ := hms b (by simp)
    rw [List.nodup_cons] at hnd
    refine ⟨by simp, .inl ⟨b, _, rfl, run_takeDeferred h3, ?_⟩⟩
    refine jdS fin hc ms _ hnd.2 (fun q hq => ?_) ?_
    · obtain ⟨k1, k2, k3⟩ := hms q (by simp [hq])
      exact ⟨k1, k2, by rw [World.putObj_heap_other (show q ≠ b from fun e => hnd.1 (by rw [← e]; exact hq))]; exact k3⟩
    · exact M.putObj (o' := .deferred none) (objs := cx.objs) h3 rfl h1 (fun q o hq => .inl ⟨fun e => (by subst e; rw [h2] at hq; cases hq), hq⟩) (fun j p hj hrj e => by
        obtain ⟨_, r, _, g⟩ := M.mem.ok j _ hj
        rw [e, h3] at g; cases g)
theorem inlS_ok (htb:TbOk P tb)(hin:InlOk P inl):InlOk P (inlS P tb inl):=by
 intro yl g ds off H K KP hh cx E h w vs hoff hds hyl M hv
 obtain⟨fn,c,hF,hh⟩:=hh
 subst hoff
 have hvl:=hv.length
 refine⟨jfn hF.func hF.name hF.body,?_⟩
 refine callsIn_of_wp_marks hF.func hF.body trivial ?_
 obtain⟨a0,ha0⟩:∃ a0:Act,a0 = { tmps:=vs.toArray++Array.replicate (fn.ntmps-vs.toArray.size) Go.undef,defers:=[] } := ⟨_,rfl⟩
 rw[← ha0]
 have hlen:=hF.len
 have hsz:a0.tmps.size=fn.ntmps:=by rw[ha0];simp;omega
 have S0:Sat cx E h a0 w (argSl 0 ds) H:=by
  refine M.sat (fun t=>?_) ⟨[],by simp,by rw[ha0,hds];rfl,by simp⟩
  rw[look_argSl,if_pos (ji2 _),Nat.sub_zero]
  by_cases ht:t<ds.length
  ·obtain⟨v,h1,h2⟩:=hv.get (i:=t) (d:=ds.getD t .any) (by simp[List.getD,jjI ht])
   have:a0.tmps.getD t Go.undef=v:=by
    have htv:t<vs.length:=by omega
    rw[ha0]
    simp only[Array.getD_eq_getD_getElem?]
    rw[Array.getElem?_append_left (by simpa using htv)]
    simp only[jjY,h1,Option.getD_some]
   rw[this];exact h2
  ·have:ds.getD t .any = .any:=by simp[List.getD,List.getElem?_eq_none (Nat.le_of_not_lt ht)]
   rw[this];simp[Den]
 refine jaL htb hin (Nat.le_of_eq hsz.symm) c cx yl none _ _ _ _ hyl (.inr fun _ e=>by cases e) hh ?_ E h a0 w rfl S0
 intro e L' H' E' h' a' w' hK _ S'
 have fin:(resK tb L' H' fn.results.toList fun ds=>oneK ds fun d=>K d H') →
   LeavesInM (FR none) 0 P fn a'.tmps (fun e w'=>(∃ v r E' h' H',e = .returned v∧K r H'∧Den E' h' r v∧MS cx E' h' w' H') ∨ ∃ v E' h' H',e = .panicked [{ v:=v,recovered:=false }]∧KP v H'∧MS cx E' h' w' H') a'.defers .returning w':=by
  intro hres
  obtain⟨ms,g0,g1,g2⟩:=S'.side.marks
  rw[g1,hds,List.append_nil]
  refine jer (fun w2 M2=>?_) ms w' g0 g2 S'.ms
  have S2:Sat cx E' h' { a' with defers:=[] } w2 L' H':=M2.sat S'.knows ⟨[],by simp,by rw[hds];rfl,by simp⟩
  obtain⟨rs,hres,hl,hrun⟩:=jhD htb hres
  obtain⟨us,h1,h2⟩:=hrun cx E' h' _ w2 S2
  have hul:=h1.length
  have hmap:(fn.results.mapM fun | .tmp t=>pure (a'.tmps.getD t Go.undef) | .cell x t=>do loadVar t (← asAddr (a'.tmps.getD x Go.undef)):Sem (Array Value)).run P w2 = .ok us.toArray w2:=by
   rw[Array.mapM_eq_mapM_toList,Sem.run_map]
   erw [h2];rfl
  have hr0:(results fn a'.tmps).run P w2 = .ok (if h:us.toArray.size=1 then us.toArray[0] else Value.tuple us.toArray) w2:=by
   have e:(results fn a'.tmps).run P w2=((fn.results.mapM fun | .tmp t=>pure (a'.tmps.getD t Go.undef) | .cell x t=>do loadVar t (← asAddr (a'.tmps.getD x Go.undef)):Sem (Array Value)).run P w2).andThen
     (fun vs w => .ok (if h:vs.size=1 then vs[0] else Value.tuple vs) w):=by
    unfold results;rw[Sem.run_bind];rfl
   rw[e,hmap];rfl
  have hone:∃ d v,K d H'∧Den E' h' d v∧(results fn a'.tmps).run P w2 = .ok v w2:=by
   cases rs with
   | nil=>
    simp only[DenL] at h1;subst h1
    refine⟨.tup [],.tuple #[],hres,by simp only[Den];exact⟨[],rfl,by simp[DenL]⟩,?_⟩
    rw[hr0];simp
   | cons d rs'=>
    cases rs' with
    | nil=>
     simp only[DenL] at h1
     obtain⟨v,_,rfl,hv,rfl⟩:=h1
     refine⟨d,v,hres,hv,?_⟩
     rw[hr0];simp
    | cons d2 rs2=>
     refine⟨.tup (d::d2::rs2),.tuple us.toArray,hres,by simp only[Den];exact⟨us,rfl,h1⟩,?_⟩
     rw[hr0]
     simp only[jjV] at hul
     simp;omega
  obtain⟨d,v,hd1,hden,hresv⟩:=hone
  exact⟨v,hresv,.inl ⟨v,d,E',h',H',rfl,hd1,hden,M2⟩⟩
 cases e with
 | normal=>exact fin hK
 | ret=>exact fin hK
 | panic c'=>
  have hK:raisK c' fun v=>KP v H':=hK
  obtain⟨v,rfl,hK⟩:=raisK_el hK
  obtain⟨ms,g0,g1,g2⟩:=S'.side.marks
  show LeavesInM (FR none) 0 P fn a'.tmps _ a'.defers (.panicking _) w'
  rw[g1,hds,List.append_nil]
  exact jdS (E:=E') (h:=h') (H:=H') (fun w2 M2 => .inr ⟨v,E',h',H',rfl,hK,M2⟩) ⟨_,rfl⟩ ms w' g0 g2 S'.ms
 | _=>exact hK.elim
theorem inlN_ok (htb:TbOk P tb):∀ k,InlOk P (inlN P tb k)
 | 0=>fun _ _ _ _ _ _ _ h=>h.elim
 | k+1=>inlS_ok htb (inlN_ok htb k)
def outK (r:D):D→Hp→Prop:=fun d H=>handK 40 [d] [] H fun ds _ _=>match ds with
 | [d']=>match D.pure d' with|true=>Fin r d'|false=>False
 | _=>False
theorem jgP (htb : TbOk P tb) (k : Nat) {f : Nat} {fn : Func} {c : Code} {ds : List D} {r : D} (hF : InlF P f fn c ds.length) (hh : RunF P tb (inlN P tb k) (fun _ _ _ _ _ => False) fn c ds 0 [] (outK r) noP) : Called P f ds r := by
  refine ⟨jfn hF.func hF.name hF.body, fun h w vs ha hd => ?_⟩
  let cx : Cx := { w0 := w, h0 := h, off := 0, E0 := Env.dummy, ds := [], objs := fun _ => none }
  have M : MS cx Env.dummy h w [] :=
    { mem := { ok := fun i c hc => by simp [lookH] at hc, base := fun i c hc => by simp [lookH] at hc, unpub := fun i c hc => by simp [lookH] at hc, inj := fun i j c c' _ hc => by simp [lookH] at hc }
      agree := ha
      since := ⟨Below.refl _ _, Pub.Le.refl _, fun _ _ _ => rfl⟩
      low := fun j hj => absurd hj (Nat.not_lt_zero _)
      objs := fun b o ho => by cases ho }
  have hok := inlS_ok htb (inlN_ok htb k) (fun _ _ _ _ _ => False) f ds 0 [] (outK r) noP ⟨fn, c, hF, hh⟩ cx Env.dummy h w vs rfl rfl (ylOk_none P cx) M hd
  refine (callsIn_wide.1 hok.2).mono ?_
  rintro e w' (⟨v, d, E', h', H', rfl, hK, hden, M'⟩ | ⟨_, _, _, _, _, hf, _⟩)
  case inr => exact hf.elim
  unfold outK at hK
  obtain ⟨ds', L2, H2, hK2, hl2, hS2⟩ := jh0 hK
  have S' : Sat cx E' h' { tmps := #[], defers := [] } w' [] H' := M'.sat (fun t => by simp [look, Den]) ⟨[], by simp, rfl, by simp⟩
  obtain ⟨h3, hle3, S3, hden3⟩ := hS2 cx E' h' _ w' S'
  split at hK2
  case h_2 => exact hK2.elim
  rename_i d'
  have h4 := hden3 [v] (by simp only [DenL]; exact ⟨v, [], rfl, hden, rfl⟩)
  simp only [DenL] at h4
  obtain ⟨v', _, he, h5, _⟩ := h4
  cases he
  cases hp : D.pure d' with
  | false => rw [hp] at hK2; exact hK2.elim
  | true =>
    rw [hp] at hK2
    exact ⟨v, h3, rfl, hK2.out _ _ (Den.pure hp h5), S3.agree, S3.since.le, S3.since.below, S3.since.old⟩
end
end Go.V
end
section
namespace Go.V
open Go Go.RowKit
def zB:D→Value→Bool
 | .any,v=>v.oneCell'
 | .int k n,.int k' n'=>kE k k' && decide (n=n') && decide (n=0)
 | .bool b,.bool b'=>b == b'
 | .str s,.string s'=>s.isEmpty && s'.size == 0
 | .nil,.slice none 0 0=>true
 | _,_=>false
def zBL:List D→List Value→Bool
 | [],[]=>true
 | d::ds,v::vs=>zB d v && zBL ds vs
 | _,_=>false
theorem zB_ok {d:D}{v:Value}(h:zB d v=true)(E:Env)(hp:Pub):Den E hp d v∧v.oneCell'=true:=by
 unfold zB at h
 split at h
 ·exact⟨by simp[Den],h⟩
 ·simp only[ji0,decide_eq_true_eq] at h
  obtain⟨⟨h1,rfl⟩,rfl⟩:=h
  have:=kE_eq h1;subst this
  exact⟨by simp only[Den];exact⟨trivial,zero_inR _⟩,rfl⟩
 ·simp at h;subst h;exact⟨by simp[Den],rfl⟩
 ·simp only[ji0,List.isEmpty_iff,beq_iff_eq] at h
  obtain⟨rfl,h2⟩:=h
  refine⟨?_,rfl⟩
  simp only[Den]
  refine⟨?_,by simp⟩
  congr 1
  apply ByteArray.ext
  apply Array.toList_inj.1
  rename_i s'
  have:s'.data.size=0:=h2
  simp[Array.size_eq_zero_iff.1 this]
 ·exact⟨by simp[Den],rfl⟩
 ·cases h
theorem zBL_ok {ds:List D}{vs:List Value}(h:zBL ds vs=true)(E:Env)(hp:Pub):DenL E hp ds vs ∧ ∀ v∈vs,v.oneCell'=true:=by
 induction ds generalizing vs with
 | nil=>cases vs with
  | nil=>exact⟨by simp[DenL],by simp⟩
  | cons=>simp[zBL] at h
 | cons d ds ih=>
  cases vs with
  | nil=>simp[zBL] at h
  | cons v vs=>
   simp only[zBL,ji0] at h
   obtain⟨h1,h2⟩:=zB_ok h.1 E hp
   obtain⟨h3,h4⟩:=ih h.2
   refine⟨by simp only[DenL];exact⟨_,_,rfl,h1,h3⟩,fun u hu=>?_⟩
   rcases jjH.1 hu with rfl|hu
   ·exact h2
   ·exact h4 u hu
def isAggV:Value→Bool
 | .agg _=>true
 | _=>false
def jgK (P : Program) (fields : Array Field) : Nat → List (Nat × Nat) → Bool
  | _, [] => true
  | j, (o, u) :: fs => (match fields[j]? with
    | some f => Nat.beq f.offset o && Nat.beq f.type u && (match P.info? u with | some iu => !Nat.beq iu.size 0 | none => false)
    | none => false) && jgK P fields (j + 1) fs
def undB (P:Program)(t:Nat)(k:TyK):Bool:=match k,P.underlying t with
 | .int k,some (.int k')=>kE k k'
 | .bool,some .bool=>true
 | .str,some .string=>true
 | .slice e,some (.slice e')=>Nat.beq e e'
 | .arr n e,some (.array n' e')=>Nat.beq n n' && Nat.beq e e'
 | .ptr e,some (.pointer e')=>Nat.beq e e'
 | .map k e,some (.map k' e')=>Nat.beq k k' && Nat.beq e e'
 | .func,some (.func _ _ _)=>true
 | .struct fs,some (.struct fields)=>Nat.beq fields.size fs.length && jgK P fields 0 fs
 | .other,some (.struct _)=>false
 | .other,some (.array _ _)=>false
 | .other,some _=>true
 | _,_=>false
def eqB (P:Program)(t:Nat):Bool:=match P.underlying t with
 | some (.struct fields) => !P.stoodInHeld t && fields.toList.all fun f=>f.name != "_"
 | _=>true
theorem eqB_ok {P:Program}{t:Nat}(h:eqB P t=true):∀ fields,P.underlying t=some (.struct fields)→P.stoodInHeld t=false ∧ ∀ f∈fields.toList,f.name ≠ "_" := fun fields hu=>by
 unfold eqB at h
 rw[hu] at h
 simp only[ji0,Bool.not_eq_true',jjE,bne_iff_ne] at h
 exact h
def tyB (P:Program)(t:Nat)(y:Ty):Bool:=match P.info? t with
 | none=>false
 | some i=>match i.zero with
  | none=>false
  | some z=>Nat.beq i.size y.size && Nat.beq i.bytes y.bytes && zBL y.zero z.cells.toList && (y.kind.isAgg == isAggV z) && Nat.beq z.cells.size y.size &&
    (y.kind.isAgg || (z.oneCell' && Nat.beq y.size 1)) && undB P t y.kind && eqB P t
theorem jgb {P:Program}{fields:Array Field} : ∀ {fs:List (Nat×Nat)} {j:Nat},jgK P fields j fs=true →
  ∀ (i o u:Nat),fs[i]? = some (o,u) → ∃ f iu,fields[j+i]? = some f∧f.offset=o∧f.type=u∧P.info? u=some iu∧iu.size≠0
 | [],j,_,i,o,u,hi=>by simp at hi
 | (o',u')::fs,j,h,i,o,u,hi=>by
  simp only[jgK,ji0] at h
  cases i with
  | zero=>
   simp at hi
   obtain⟨rfl,rfl⟩:=hi
   have h1:=h.1
   split at h1
   ·rename_i f hf
    simp only[ji0] at h1
    obtain⟨⟨h2,h3⟩,h4⟩:=h1
    split at h4
    ·rename_i iu hiu
     refine⟨f,iu,by simpa using hf,jae h2,jae h3,hiu,fun e=>?_⟩
     rw[e] at h4;simp at h4
    ·cases h4
   ·cases h1
  | succ i=>
   obtain⟨f,iu,h1,h2⟩:=jgb h.2 i o u (by simpa using hi)
   exact⟨f,iu,by rw[← h1];congr 1;omega,h2⟩
theorem tyB_ok {P : Program} {t : Nat} {y : Ty} (h : tyB P t y = true) : TyOk P t y := by
  unfold tyB at h
  split at h
  · cases h
  · rename_i i hi
    split at h
    · cases h
    · rename_i z hz
      simp only [ji0, Bool.or_eq_true] at h
      obtain ⟨⟨⟨⟨⟨⟨⟨h1, h2⟩, h3⟩, h4⟩, h5⟩, h6⟩, h7⟩, h8⟩ := h
      refine { info := ⟨i, z, hi, jae h1, jae h2, hz, fun E hp => (zBL_ok h3 E hp).1, (zBL_ok h3 Env.dummy (fun _ _ => none)).2, fun ha => ?_, jae h5, fun ha => ?_⟩, und := ?_, eqs := eqB_ok h8 }
      · rw [ha] at h4
        cases z <;> simp [isAggV] at h4
        exact ⟨_, rfl⟩
      · rw [ha] at h6
        rcases h6 with h6 | h6
        · cases h6
        · exact ⟨h6.1, jae h6.2⟩
      · unfold undB at h7
        cases hk : y.kind <;> rw [hk] at h7 <;> cases hu : P.underlying t <;> rw [hu] at h7 <;> (try simp only at h7) <;> first | cases h7 | skip
        all_goals rename_i d
        all_goals cases d <;> (try simp only at h7) <;> first | (cases h7; done) | skip
        all_goals first
          | (have := kE_eq h7; subst this; rfl)
          | rfl
          | (have := jae h7; subst this; rfl)
          | (simp only [ji0] at h7; have e1 := jae h7.1; have e2 := jae h7.2; subst e1; subst e2; rfl)
          | exact ⟨_, _, _, rfl⟩
          | (simp only [ji0] at h7
             exact ⟨_, rfl, jae h7.1, fun j o u hj => by have := jgb h7.2 j o u hj; simpa using this⟩)
          | exact ⟨_, rfl, (fun _ e => (by cases e)), (fun _ _ e => (by cases e))⟩
def tbB (P:Program):Tb→Bool
 | []=>true
 | (t,y)::tb=>tyB P t y && tbB P tb
theorem tbB_ok {P:Program}{tb:Tb}(h:tbB P tb=true):TbOk P tb:=by
 induction tb with
 | nil=>intro t y hy;simp[tyL] at hy
 | cons x tb ih=>
  obtain⟨s,y'⟩:=x
  simp only[tbB,ji0] at h
  intro t y hy
  simp only[tyL] at hy
  cases hb:Nat.beq s t with
  | true=>
   rw[hb] at hy
   have:=jae hb;subst this
   cases hy
   exact tyB_ok h.1
  | false=>rw[hb] at hy;exact ih h.2 t y hy
end Go.V
end
section
namespace Go.V
open Go Go.RowKit
theorem lp_inv {off:Nat}{L:Sl}{H:Hp}{body:Sl→Hp→K3→Prop}{K:K3}(n:Nat)(I:Nat→Prop)(sl:Nat→Sl)(hp:Nat→Hp)(h0:Wk off L H (sl 0) (hp 0))(hI:I 0)
  (step:∀ k,k≤n→I k→body (sl k) (hp k) (nrm (fun L' H' => ∃ y,(y≤n∧I y)∧n-y<n-k∧Wk off L' H' (sl y) (hp y)) K)):Lp off L H body K:=
 Lp.of ⟨Nat,fun k=>k≤n∧I k,sl,hp,fun k=>n-k,⟨0,⟨ji2 _,hI⟩,h0⟩,fun k hk=>step k hk.1 hk.2⟩
theorem jaA {P:Program}{tb:Tb}{inl:Inl}{yl:Yl}{N off:Nat}{all:List Oper}{KP:KPan}{gt:Nat→Sl→Hp→Prop}{L:Sl}{H:Hp}{K:K2} : jfq P tb inl yl N off all KP gt .nil L H K:=True.intro
theorem getD_toNat (xs:List Int)(k:Nat)(x:Int)(h:xs[k]? = some x):xs.getD (k:Int).toNat 0=x:=by
 simp[jjF,h]
theorem getx {xs:List Int}{k:Nat}(h:(k:Int)<xs.length):∃ x,xs[k]? = some x∧xs.getD (k:Int).toNat 0=x:=by
 have h2:k<xs.length:=by omega
 exact⟨xs[k],jjI h2,by simp[jjF,h2]⟩
def slApp:Sl→Sl→Sl
 | [],M=>M
 | x::L,M=>x::slApp L M
def hpApp:Hp→Hp→Hp
 | [],M=>M
 | x::L,M=>x::hpApp L M
def wkSl (L L2:Sl):Sl→Prop
 | []=>True
 | (t,_)::R=>(match look L2 t with | .any=>True|d=>look L t=d)∧wkSl L L2 R
def wkHp (H H2:Hp):Hp→Prop
 | []=>True
 | (i,_)::R=>(match lookH H2 i with|none=>True|some c=>lookH H i=some c)∧wkHp H H2 R
theorem look_none {L:Sl}{t:Nat}(h:∀ p∈L,p.1≠t):look L t = .any:=by
 induction L with
 | nil=>rfl
 | cons x L ih=>
  obtain⟨s,d⟩:=x
  rw[jaG,if_neg (h (s,d) (by simp))]
  exact ih fun p hp=>h p (by simp[hp])
theorem lookH_none {H:Hp}{t:Nat}(h:∀ p∈H,p.1≠t):lookH H t=none:=by
 induction H with
 | nil=>rfl
 | cons x L ih=>
  obtain⟨s,d⟩:=x
  rw[jaf,if_neg (h (s,d) (by simp))]
  exact ih fun p hp=>h p (by simp[hp])
theorem wkSl_mem {L L2 R:Sl}(h:wkSl L L2 R){t:Nat}(ht:∃ p∈R,p.1=t):look L2 t = .any∨look L t=look L2 t:=by
 induction R with
 | nil=>obtain⟨p,hp,_⟩:=ht;simp at hp
 | cons x R ih=>
  obtain⟨s,d⟩:=x
  obtain⟨p,hp,e⟩:=ht
  by_cases hs:s=t
  ·subst hs
   have h1:=h.1
   cases hl:look L2 s<;>rw[hl] at h1<;>first|exact .inl rfl|exact .inr h1
  ·rcases jjH.1 hp with e2|e2
   ·subst e2;exact absurd e hs
   ·exact ih h.2 ⟨p,e2,e⟩
theorem wkHp_mem {H H2 R:Hp}(h:wkHp H H2 R){i:Nat}{c:Chunk}(hi:∃ p∈R,p.1=i)(hc:lookH H2 i=some c):lookH H i=some c:=by
 induction R with
 | nil=>obtain⟨p,hp,_⟩:=hi;simp at hp
 | cons x R ih=>
  obtain⟨s,d⟩:=x
  obtain⟨p,hp,e⟩:=hi
  by_cases hs:s=i
  ·subst hs
   have h1:=h.1
   rw[hc] at h1;exact h1
  ·rcases jjH.1 hp with e2|e2
   ·subst e2;exact absurd e hs
   ·exact ih h.2 ⟨p,e2,e⟩
theorem Wk.of2 {off : Nat} {L L' : Sl} {H H' : Hp} (h1 : wkSl L L' L') (h2 : wkHp H H' H') : Wk off L H L' H' := by
  refine ⟨fun cx E h a w _ S => ?_⟩
  have hl : ∀ {i c}, lookH H' i = some c → lookH H i = some c := fun {i c} hc => by
    by_cases hm : ∃ p ∈ H', p.1 = i
    · exact wkHp_mem h2 hm hc
    · rw [lookH_none (fun p hp e => hm ⟨p, hp, e⟩)] at hc; cases hc
  refine ⟨E, h, { knows := fun t => ?_, mem := ?_, agree := S.agree, since := S.since, low := S.low, side := S.side }⟩
  · by_cases hm : ∃ p ∈ L', p.1 = t
    · rcases wkSl_mem h1 hm with e | e
      · rw [e]; simp [Den]
      · rw [← e]; exact S.knows t
    · rw [look_none (fun p hp e => hm ⟨p, hp, e⟩)]; simp [Den]
  · exact { ok := fun i c hc => S.mem.ok i c (hl hc), base := fun i c hc => S.mem.base i c (hl hc), unpub := fun i c hc => S.mem.unpub i c (hl hc),
            inj := fun i j c c' hij hc hc' => S.mem.inj i j c c' hij (hl hc) (hl hc') }
def jdy:Sl→Sl→(Sl→Prop)→Prop
 | [],M,K=>K M
 | x::L,M,K=>jdy L M fun N=>K (x::N)
theorem jcM (L M:Sl)(K:Sl→Prop):jdy L M K=K (slApp L M):=by
 induction L generalizing K with
 | nil=>rfl
 | cons x L ih=>simp only[jdy,slApp,ih]
def jdW:Hp→Hp→(Hp→Prop)→Prop
 | [],M,K=>K M
 | x::L,M,K=>jdW L M fun N=>K (x::N)
theorem jc0 (L M:Hp)(K:Hp→Prop):jdW L M K=K (hpApp L M):=by
 induction L generalizing K with
 | nil=>rfl
 | cons x L ih=>simp only[jdW,hpApp,ih]
theorem lp_go {off:Nat}{L:Sl}{H:Hp}{body:Sl→Hp→K3→Prop}{K:K3}(n:Nat)(I:Nat→Prop)(sl:Nat→Sl)(hp:Nat→Hp)(h0:Wk off L H (slApp (sl 0) L) (hpApp (hp 0) H))(hI:I 0)
  (step:∀ k,k≤n→I k→jdy (sl k) L fun L1=>jdW (hp k) H fun H1=>body L1 H1 (nrm (fun L' H' => ∃ y,(y≤n∧I y)∧n-y<n-k∧Wk off L' H' (slApp (sl y) L) (hpApp (hp y) H)) K)):Lp off L H body K:=
 lp_inv n I (fun k=>slApp (sl k) L) (fun k=>hpApp (hp k) H) h0 hI fun k hk hi=>by
  have:=step k hk hi
  rw[jcM,jc0] at this
  exact this
theorem jad {off:Nat}{L:Sl}{H:Hp}{body:Sl→Hp→K3→Prop}{K:K3}{α:Type}(x0:α)(I:α→Prop)(μ:α→Nat)(sl:α→Sl)(hp:α→Hp)(h0:Wk off L H (slApp (sl x0) L) (hpApp (hp x0) H))(hI:I x0)
  (step:∀ k,I k→jdy (sl k) L fun L1=>jdW (hp k) H fun H1=>body L1 H1 (nrm (fun L' H' => ∃ y,I y∧μ y<μ k∧Wk off L' H' (slApp (sl y) L) (hpApp (hp y) H)) K)):Lp off L H body K:=
 Lp.of ⟨α,I,fun k=>slApp (sl k) L,fun k=>hpApp (hp k) H,μ,⟨x0,hI,h0⟩,fun k hk=>by
  have:=step k hk
  rw[jcM,jc0] at this
  exact this⟩
def xjn (off i:Nat){β:Type}(inv:β→Prop)(sl:β→Sl)(hp:β→Hp)(K:K3):K3:=fun e L' H'=>match e with
 | .exit j=>match Nat.beq j i with
  | true => ∃ y,inv y∧Wk off L' H' (sl y) (hp y)
  | false=>K (.exit j) L' H'
 | e=>K e L' H'
theorem jbA {off:Nat}{L:Sl}{H:Hp}{body:Sl→Hp→K3→Prop}{K:K3}{β:Type}(i:Nat)(inv:β→Prop)(sl:β→Sl)(hp:β→Hp)
  (h:Lp off L H body (xjn off i inv (fun y=>slApp (sl y) L) (fun y=>hpApp (hp y) H) K)) (k:∀ y,inv y→jdy (sl y) L fun L1=>jdW (hp y) H fun H1=>K (.exit i) L1 H1):Lp off L H body K:=by
 obtain⟨K2,hK2,hr⟩:=h.out
 refine⟨K2,fun e L' H' hk=>?_,hr⟩
 obtain⟨L2,H2,hw,hx⟩:=hK2 e L' H' hk
 cases e with
 | exit j=>
  simp only[xjn] at hx
  cases hb:Nat.beq j i with
  | true=>
   rw[hb] at hx
   have:=jae hb;subst this
   obtain⟨y,hy,hw2⟩:=hx
   have:=k y hy
   rw[jcM,jc0] at this
   exact⟨_,_,hw.trans hw2,this⟩
  | false=>rw[hb] at hx;exact⟨_,_,hw,hx⟩
 | _=>exact⟨_,_,hw,hx⟩
theorem ja2 {P:Program}{tb:Tb}{inl:Inl}{N off:Nat}{a b:Code}{yl:Yl}{x:Bool}{L:Sl}{H:Hp}{K:K3}(sl:Sl)(hp:Hp)
  (h:CondB x (RunC P tb inl N a yl off L H (jn off (slApp sl L) (hpApp hp H) K)) (RunC P tb inl N b yl off L H (jn off (slApp sl L) (hpApp hp H) K))) (k:jdy sl L fun L1=>jdW hp H fun H1=>K .normal L1 H1) :
  Cnd off x (RunC P tb inl N a yl off L H) (RunC P tb inl N b yl off L H) K := .join _ _ h (by rw[jcM,jc0] at k;exact k)
theorem jab {P:Program}{tb:Tb}{inl:Inl}{N off:Nat}{all:List Oper}{KP:KPan}{p:Plan}{ns:List Nd}{yl:Yl}{L:Sl}{H:Hp}{K:K2}(sl:Sl)(hp:Hp)
  (h:drawK P tb inl yl N off all KP (fun _ _ _=>False) p L H fun L' H'=>Wk off L' H' (slApp sl L) (hpApp hp H)) (k:jdy sl L fun L1=>jdW hp H fun H1=>K L1 H1) :
  Drw off (drawD P tb inl yl N off all KP p ns L H) K := .join _ _ (jac h) (by rw[jcM,jc0] at k;exact k)
def ctrK:List (Nat×Sl×Hp)→List Nat→Sl→Hp→(Sl→Hp→Prop)→Prop
 | [],_,L,H,K=>K L H
 | (i,sl,hp)::c,rem,L,H,K=>match memB i rem with|true=>ctrK c rem L H K|false=>jdy sl L fun L1=>jdW hp H fun H1=>ctrK c rem L1 H1 K
def ndsK (P:Program)(tb:Tb)(inl:Inl)(yl:Yl)(N off:Nat)(all:List Oper)(KP:KPan)(gt:Nat→Sl→Hp→Prop)(ctr:List (Nat×Sl×Hp))(L:Sl)(H:Hp)(K:K2):List Nd→Prop
 | []=>True
 | nd::ns=>(ctrK ctr nd.rem L H fun Lk Hk=>jbs tb all nd.pend Lk Hk (drawK P tb inl yl N off all KP gt nd.plan Lk Hk K))∧ndsK P tb inl yl N off all KP gt ctr L H K ns
theorem jar {A:Prop}{P:Program}{tb:Tb}{inl:Inl}{yl:Yl}{N off:Nat}{all:List Oper}{KP:KPan}{gt:Nat→Sl→Hp→Prop}{bs:Brs}{L:Sl}{H:Hp}{K:K2}(a:A)(b:jfq P tb inl yl N off all KP gt bs L H K):A∧jfq P tb inl yl N off all KP gt bs L H K:=⟨a,b⟩
theorem jau {A:Prop}{P:Program}{tb:Tb}{inl:Inl}{yl:Yl}{N off:Nat}{all:List Oper}{KP:KPan}{gt:Nat→Sl→Hp→Prop}{ctr:List (Nat×Sl×Hp)}{L:Sl}{H:Hp}{K:K2}{ns:List Nd}(a:A)(b:ndsK P tb inl yl N off all KP gt ctr L H K ns):A∧ndsK P tb inl yl N off all KP gt ctr L H K ns:=⟨a,b⟩
theorem jan {A:Prop}{tb:Tb}{all:List Oper}{qs:List Nat}{L:Sl}{H:Hp}{K:Prop}(h:A)(k:jbs tb all qs L H K):A∧jbs tb all qs L H K:=⟨h,k⟩
theorem no_tf {A:Prop}(h:true=false):A:=by cases h
theorem no_ft {A:Prop}(h:false=true):A:=by cases h
theorem no_nt {A:Prop}(h:(!true)=true):A:=by cases h
theorem no_nf {A:Prop}(h:(!false)=false):A:=by cases h
theorem Cnd.y {off:Nat}{A B:K3→Prop}{K:K3}(h:A K):Cnd off true A B K := .split ⟨fun _=>h,no_tf⟩
theorem Cnd.n {off:Nat}{A B:K3→Prop}{K:K3}(h:B K):Cnd off false A B K := .split ⟨no_ft,fun _=>h⟩
theorem Cnd.ny {off:Nat}{A B:K3→Prop}{K:K3}(h:A K):Cnd off (!false) A B K := .split ⟨fun _=>h,no_nf⟩
theorem Cnd.nn {off:Nat}{A B:K3→Prop}{K:K3}(h:B K):Cnd off (!true) A B K := .split ⟨no_nt,fun _=>h⟩
theorem Cnd.yes {off:Nat}{x:Bool}{A B:K3→Prop}{K:K3}(e:x=true)(h:A K):Cnd off x A B K := .split ⟨fun _=>h,fun h'=>(by rw[e] at h';cases h')⟩
theorem Cnd.no {off:Nat}{x:Bool}{A B:K3→Prop}{K:K3}(e:x=false)(h:B K):Cnd off x A B K := .split ⟨fun h'=>(by rw[e] at h';cases h'),fun _=>h⟩
theorem jaa {P:Program}{g:Prop}{f:Nat}{ds:List D}{K:D→Prop}{r:D}(h:Called P f ds r)(k:K r):∃ r,(g→Called P f ds r)∧K r:=⟨r,fun _=>h,k⟩
def FinL:List D→List D→Prop
 | [],[]=>True
 | r::rs,r'::rs'=>Fin r r'∧FinL rs rs'
 | _,_=>False
theorem FinL.den {h:Pub} : ∀ {rs rs':List D} {vs:List Value},FinL rs rs'→DenL Env.dummy h rs' vs→DenL Env.dummy h rs vs
 | [],[],_,_,H=>H
 | _::_,_::_,_,F,H=>by
  simp only[DenL] at H ⊢
  obtain⟨v,vs',h1,h2,h3⟩:=H
  exact⟨v,vs',h1,F.1.out _ _ h2,FinL.den F.2 h3⟩
theorem Fin.tup {rs rs':List D}(F:FinL rs rs'):Fin (.tup rs) (.tup rs'):=⟨fun h v hv=>by
 simp only[Den] at hv ⊢
 obtain⟨vs,h1,h2⟩:=hv
 exact⟨vs,h1,FinL.den F h2⟩⟩
theorem Fin.agg {rs rs':List D}(F:FinL rs rs'):Fin (.agg rs) (.agg rs'):=⟨fun h v hv=>by
 simp only[Den] at hv ⊢
 obtain⟨vs,h1,h2,h3⟩:=hv
 exact⟨vs,h1,FinL.den F h2,h3⟩⟩
theorem Called.cast {P:Program}{f:Nat}{ds:List D}{r r':D}(h:Called P f ds r)(e:r=r'):Called P f ds r':=e▸h
theorem Called.arg {P:Program}{f:Nat}{ds ds':List D}{r:D}(F:FinL ds' ds)(h:Called P f ds' r):Called P f ds r:=
 ⟨h.1,fun hp w vs ha hd=>h.2 hp w vs ha (FinL.den F hd)⟩
theorem Called.fin {P:Program}{f:Nat}{ds:List D}{r r':D}(h:Called P f ds r)(F:Fin r' r):Called P f ds r':=
 ⟨h.1,fun hp w vs ha hd=>(h.2 hp w vs ha hd).mono fun e w' ⟨v,h',h1,h2,h3,h4,h5,h6⟩=>⟨v,h',h1,F.out _ _ h2,h3,h4,h5,h6⟩⟩
end Go.V
end
section
namespace Go.V
open Go Go.RowKit
section
variable {cx : Cx} {E : Env} {h : Pub} {a : Act} {w : World} {L : Sl} {H : Hp}
theorem Sat.rechunk (S:Sat cx E h a w L H){j:Nat}{c c':Chunk}(hj:lookH H j=some c)(hl:c.live=true)(hc:ChunkOk E h w j c'):Sat cx E h a w L ((j,c')::H):=by
 have key:∀ i x,lookH ((j,c')::H) i=some x→x.live=true → ∃ y,lookH H i=some y∧y.live=true:=fun i x hx hlx=>by
  rw[jaf] at hx
  split at hx
  ·rename_i e;subst e;exact⟨c,hj,hl⟩
  ·exact⟨x,hx,hlx⟩
 refine { S with mem := { ok:=?_,base:=?_,unpub:=?_,inj:=?_ } }
 ·intro i x hx
  rw[jaf] at hx
  split at hx
  ·rename_i e;subst e;cases hx;exact hc
  ·exact S.mem.ok i x hx
 ·intro i x hx hlx
  obtain⟨y,h1,h2⟩:=key i x hx hlx
  exact S.mem.base i y h1 h2
 ·intro i x hx hlx
  obtain⟨y,h1,h2⟩:=key i x hx hlx
  exact S.mem.unpub i y h1 h2
 ·intro i k x y hik hx hy lx ly
  obtain⟨x',h1,h2⟩:=key i x hx lx
  obtain⟨y',h3,h4⟩:=key k y hy ly
  exact S.mem.inj i k x' y' hik h1 h3 h2 h4
theorem Sat.reslot (S:Sat cx E h a w L H){t:Nat}{d:D}(hd:Den E h d (a.tmps.getD t Go.undef)):Sat cx E h a w ((t,d)::L) H:=by
 refine { S with knows:=fun s=>?_ }
 rw[jaG]
 split
 ·rename_i e;subst e;exact hd
 ·exact S.knows s
theorem Sat.virt0 (S:Sat cx E h a w L H){i:Nat}{k:IntKind}(hoff':cx.off≤i) :
  Sat cx (E.virt i) h a w (purge i L) ((i,.arr k [])::jaJ i H):=by
 have hoff:=E.off_virt i
 have live:∀ j c',j≠i→lookH ((i,.arr k [])::jaJ i H) j=some c'→c'.live=true → ∃ c0,lookH H j=some c0∧c'=jb5 i c0∧c0.live=true:=by
  intro j c' hj hc' hl
  rw[jaf,if_neg (Ne.symm hj)] at hc'
  obtain⟨c0,h1,h2⟩:=jbi hc'
  exact⟨c0,h1,h2,by rw[h2,jbh] at hl;exact hl⟩
 have hne:∀ j,(E.virt i).real j=true→j≠i:=fun j hr e=>by subst e;rw[E.virt_real] at hr;cases hr
 have hre:∀ j,j≠i→(E.virt i).real j=E.real j:=fun j hj=>(hoff j hj).2.2.2.1
 refine { knows:=?_,mem:=?_,agree:=S.agree,since:=S.since,low:=fun j hj=>jfe S.low hoff hoff' j hj,side:=S.side }
 ·exact fun t=>jbS hoff (S.knows t)
 ·refine { ok:=?_,base:=?_,unpub:=?_,inj:=?_ }
  ·intro j c' hc'
   by_cases hj:j=i
   ·subst hj;rw[jaf,if_pos rfl] at hc';cases hc';exact .inl ⟨E.virt_real _,rfl⟩
   ·cases hl:c'.live with
    | false=>cases c'<;>first|trivial|(simp[Chunk.live] at hl)
    | true=>
     obtain⟨c0,h1,rfl,hl'⟩:=live j c' hj hc' hl
     exact ChunkOk.env hoff hj (S.mem.ok j _ h1)
  ·intro j c' hc' hl hr
   have hj:=hne j hr
   obtain⟨c0,h1,rfl,hl'⟩:=live j c' hj hc' hl
   rw[hre j hj] at hr
   exact S.mem.base j _ h1 hl' hr
  ·intro j c' hc' hl hr o
   have hj:=hne j hr
   obtain⟨c0,h1,rfl,hl'⟩:=live j c' hj hc' hl
   rw[hre j hj] at hr
   exact S.mem.unpub j _ h1 hl' hr o
  ·intro j k' c1 c2 hjk h1 h2 l1 l2 r1 r2
   have hj:=hne j r1
   have hk:=hne k' r2
   obtain⟨c0,g1,rfl,l1'⟩:=live j c1 hj h1 l1
   obtain⟨c0',g2,rfl,l2'⟩:=live k' c2 hk h2 l2
   rw[hre j hj] at r1
   rw[hre k' hk] at r2
   exact S.mem.inj j k' _ _ hjk g1 g2 l1' l2' r1 r2
end
theorem jfs {E:Env}{h:Pub}{i:Nat}{v:Value}(hr:E.real i=false)(hv:Den E h .nil v):Den E h (.osl i 0 0) v:=by
 simp only[Den] at hv ⊢
 exact .inl ⟨hr,hv,trivial⟩
theorem jgM {E:Env}{h:Pub}{d:D} : ∀ {ds:List D} {vs:List Value} {p:Nat} {x:D},DenL E h ds vs→ds[p]? = some x→(∀ v,Den E h x v→Den E h d v)→DenL E h (ds.set p d) vs
 | [],_,_,_,_,hp,_=>by simp at hp
 | y::ds,vs,p,x,H,hp,hd=>by
  simp only[DenL] at H
  obtain⟨v,vs',rfl,h1,h2⟩:=H
  cases p with
  | zero=>simp at hp;subst hp;simp only[List.set_cons_zero,DenL];exact⟨v,vs',rfl,hd v h1,h2⟩
  | succ p=>simp only[List.set_cons_succ,DenL];exact⟨v,vs',rfl,h1,jgM h2 (by simpa using hp) hd⟩
theorem Wk.ghostBox {off:Nat}{L:Sl}{H:Hp}(i j p:Nat)(k:IntKind){ds:List D}(hoff:off≤i)(hj:lookH (jaJ i H) j=some (.box ds))(hij:j≠i)(hp:ds[p]? = some .nil) :
  Wk off L H (purge i L) ((j,.box (ds.set p (.osl i 0 0)))::(i,.arr k [])::jaJ i H):=by
 refine⟨fun cx E h a w e S=>?_⟩
 subst e
 have S1:=S.virt0 (k:=k) hoff
 have hj1:lookH ((i,.arr k [])::jaJ i H) j=some (.box ds):=by rw[jaf,if_neg (Ne.symm hij)];exact hj
 refine⟨E.virt i,h,S1.rechunk hj1 rfl ?_⟩
 obtain⟨h1,vs,rest,T,h2,h3,h4⟩:=S1.mem.ok j _ hj1
 exact⟨h1,vs,rest,T,h2,jgM h3 hp (fun v hv=>jfs (E.virt_real i) hv),h4⟩
theorem Wk.ghostSlot {off:Nat}{L:Sl}{H:Hp}(i t:Nat)(k:IntKind)(hoff:off≤i)(ht:look (purge i L) t = .nil) :
  Wk off L H ((t,.osl i 0 0)::purge i L) ((i,.arr k [])::jaJ i H):=by
 refine⟨fun cx E h a w e S=>?_⟩
 subst e
 have S1:=S.virt0 (k:=k) hoff
 have:=S1.knows t
 rw[ht] at this
 exact⟨E.virt i,h,S1.reslot (jfs (E.virt_real i) this)⟩
theorem Lp.pre {off:Nat}{L L1:Sl}{H H1:Hp}{body:Sl→Hp→K3→Prop}{K:K3}(hw:Wk off L H L1 H1)(hl:Lp off L1 H1 body K):Lp off L H body K:=by
 obtain⟨K2,hK2,α,I,sl,hp,μ,⟨x,hx,h0⟩,hs⟩:=hl.out
 exact⟨⟨K2,hK2,α,I,sl,hp,μ,⟨x,hx,hw.trans h0⟩,hs⟩⟩
theorem Lp.ghostBox {off : Nat} {L : Sl} {H : Hp} {body : Sl → Hp → K3 → Prop} {K : K3} (i j p : Nat) (k : IntKind) (hoff : off ≤ i) (hij : j ≠ i)
    (h : jep i L fun L1 => jbW i H fun H1 => jaS H1 j fun c => match c with
      | .box ds => nthK ds p fun d => match d with
        | .nil => jcF ds p [.osl i 0 0] fun ds' => Lp off L1 ((j, .box ds') :: (i, .arr k []) :: H1) body K
        | _ => False
      | _ => False) : Lp off L H body K := by
  rw [jdH, jc7] at h
  obtain ⟨c, hc, h⟩ := jaw h
  split at h
  case h_2 => exact h.elim
  rename_i ds
  obtain ⟨d, hd, h⟩ := jfc h
  split at h
  case h_2 => exact h.elim
  obtain ⟨_, h⟩ := jcN h
  have e : V.setAt ds p [.osl i 0 0] = ds.set p (.osl i 0 0) := by
    have hp := (jjP.1 hd).1
    unfold V.setAt
    rw [List.set_eq_take_append_cons_drop, if_pos hp]
    simp
  rw [e] at h
  exact Lp.pre (Wk.ghostBox i j p k hoff hc hij hd) h
theorem Lp.ghostSlot {off : Nat} {L : Sl} {H : Hp} {body : Sl → Hp → K3 → Prop} {K : K3} (i t : Nat) (k : IntKind) (hoff : off ≤ i)
    (h : jep i L fun L1 => jbW i H fun H1 => lookK L1 t fun d => match d with
      | .nil => Lp off ((t, .osl i 0 0) :: L1) ((i, .arr k []) :: H1) body K
      | _ => False) : Lp off L H body K := by
  rw [jdH, jc7, jbN] at h
  split at h
  case h_2 => exact h.elim
  rename_i hd
  exact Lp.pre (Wk.ghostSlot i t k hoff hd) h
theorem Lp.pub {off : Nat} {L : Sl} {H : Hp} {body : Sl → Hp → K3 → Prop} {K : K3} (i : Nat)
    (h : jaS H i fun c => match c with
      | .gone => False
      | .lp _ => False
      | .mp _ => False
      | c => jfX i c L fun L1 => jdk i c H fun H1 => Lp off L1 ((i, .gone) :: H1) body K) : Lp off L H body K := by
  obtain ⟨c, hc, h⟩ := jaw h
  split at h
  · exact h.elim
  · exact h.elim
  · exact h.elim
  · rename_i hne hne2 hne3
    have hl : c.cel = true := by
      cases c with
      | gone => exact absurd rfl hne
      | lp p => exact absurd rfl (hne2 p)
      | mp p => exact absurd rfl (hne3 p)
      | _ => rfl
    rw [je0, je1] at h
    refine Lp.pre ⟨fun cx E h' a w _ S => ?_⟩ h
    obtain ⟨h1, _, S1, _⟩ := S.publish hc hl
    exact ⟨E, h1, S1⟩
theorem getxn {xs:List Int}{k:Nat}(h:(k:Int)<xs.length):∃ x,xs[k]? = some x∧xs.getD k 0=x:=by
 have h2:k<xs.length:=by omega
 exact⟨xs[k],jjI h2,by simp[jjF,h2]⟩
end Go.V
end
section
namespace Go.V
open Go Go.RowKit
structure Hold (B:Prop):Prop where
 out:B
theorem sd {A : Prop} (h : A := by
  first
  | exact fun _ h => (by rw [h]; rfl)
  | (intros; (repeat' (first | exact rfl | exact True.intro | exact jjc _ | with_reducible refine And.intro ?_ ?_ | assumption)); done)
  | (intros; (try simp only [V.InR, V.lo, V.hi, decide_eq_true_eq, decide_eq_false_iff_not] at *); omega)
  | (intros; (try simp only [V.InR, V.lo, V.hi, decide_eq_true_eq, decide_eq_false_iff_not, true_and, jjV, List.length_nil, jjL, jj3, List.length_replicate, List.length_map, jjM, jj0, ji8, jjb] at *); omega)
  | fail) : A := h
theorem rc {A : Prop} (h : A := by
  first
  | ((conv => whnf); (repeat (first
      | ((with_reducible refine And.intro ?_ ?_); (focus (exact sd)); (conv => whnf))
      | ((with_reducible refine Or.inl (And.intro ?_ ?_)); (focus (exact sd)); (conv => whnf))
      | ((with_reducible refine Or.inr (And.intro ?_ ?_)); (focus (exact sd)); (conv => whnf)))); exact ⟨rfl⟩)
  | fail) : A := h
theorem s1 {A B : Prop} (k : B) (h : Hold B → A := by
  first
  | (intro k
     first
     | ((with_reducible first | refine And.intro ?_ jaA | refine Cnd.y ?_ | refine Cnd.n ?_ | refine Cnd.ny ?_ | refine Cnd.nn ?_); (conv => whnf))
     | ((with_reducible refine jan ?_ ?_); (focus (exact rc)); (conv => whnf))
     | ((with_reducible refine And.intro ?_ ?_); (focus (exact sd)); (conv => whnf))
     | ((with_reducible refine GrdK.yes ?_ ?_); (focus (first | with_reducible assumption | rfl)); (conv => whnf))
     | ((with_reducible refine GrdK.no ?_ ?_); (focus (first | with_reducible assumption | rfl)); (conv => whnf))
     | ((with_reducible refine Cnd.no ?_ ?_); (focus decide); (conv => whnf))
     | ((with_reducible refine Cnd.yes ?_ ?_); (focus decide); (conv => whnf))
     | ((with_reducible refine Or.inl (And.intro ?_ ?_)); (focus (exact sd)); (conv => whnf))
     | ((with_reducible refine Or.inr (And.intro ?_ ?_)); (focus (exact sd)); (conv => whnf))
     exact k.out)
  | fail) : A := h ⟨k⟩
theorem st {A B : Prop} (k : B) (h : Hold B → A := by
  first
  | (intro k
     repeat (first
     | ((with_reducible first | refine And.intro ?_ jaA | refine Cnd.y ?_ | refine Cnd.n ?_ | refine Cnd.ny ?_ | refine Cnd.nn ?_); (conv => whnf))
     | ((with_reducible refine jan ?_ ?_); (focus (exact rc)); (conv => whnf))
     | ((with_reducible refine And.intro ?_ ?_); (focus (exact sd)); (conv => whnf))
     | ((with_reducible refine GrdK.yes ?_ ?_); (focus (first | with_reducible assumption | rfl)); (conv => whnf))
     | ((with_reducible refine GrdK.no ?_ ?_); (focus (first | with_reducible assumption | rfl)); (conv => whnf))
     | ((with_reducible refine Cnd.no ?_ ?_); (focus decide); (conv => whnf))
     | ((with_reducible refine Cnd.yes ?_ ?_); (focus decide); (conv => whnf))
     | ((with_reducible refine Or.inl (And.intro ?_ ?_)); (focus (exact sd)); (conv => whnf))
     | ((with_reducible refine Or.inr (And.intro ?_ ?_)); (focus (exact sd)); (conv => whnf)))
     exact k.out)
  | fail) : A := h ⟨k⟩
theorem wk {off:Nat}{L L':Sl}{H H':Hp}(h1:wkSl L L' L':=by first|((repeat' (first|exact True.intro|exact rfl|(refine And.intro ?_ ?_)));done)|fail)
  (h2:wkHp H H' H':=by first|((repeat' (first|exact True.intro|exact rfl|(refine And.intro ?_ ?_)));done)|fail):Wk off L H L' H':=Wk.of2 h1 h2
end Go.V
end
section
namespace Go.V
open Go Go.RowKit
theorem Wk.pub {off : Nat} {L : Sl} {H : Hp} {L2 : Sl} {H2 : Hp} (i : Nat)
    (h : jaS H i fun c => match c with
      | .gone => False
      | .lp _ => False
      | .mp _ => False
      | c => jfX i c L fun L1 => jdk i c H fun H1 => Wk off L1 ((i, .gone) :: H1) L2 H2) : Wk off L H L2 H2 := by
  obtain ⟨c, hc, h⟩ := jaw h
  split at h
  · exact h.elim
  · exact h.elim
  · exact h.elim
  · rename_i hne hne2 hne3
    have hl : c.cel = true := by
      cases c with
      | gone => exact absurd rfl hne
      | lp p => exact absurd rfl (hne2 p)
      | mp p => exact absurd rfl (hne3 p)
      | _ => rfl
    rw [je0, je1] at h
    refine ⟨fun cx E h' a w e S => ?_⟩
    obtain ⟨h1, _, S1, _⟩ := S.publish hc hl
    exact h.out cx E h1 a w e S1
end Go.V
end
section
namespace Go.V
open Go Go.RowKit
abbrev tk (l:List Nat)(p:Plan):Plan:=l.foldr Plan.take p
abbrev e1 (j:Nat)(q:List Nat)(p:Plan):Plan := .ev (.cons j q p .nil)
theorem pok {P:Program}{all:List Oper}{ns:List Nd}{p:Plan}(a:P.follows .mixedOrders=true:=by kernel_rfl)(b:textB all=true:=by kernel_rfl)
  (c:planB all (ancs all) ns (List.range all.length) [] p=true:=by kernel_rfl) (d:ns.all (fun nd => !nd.plan.isGo && planB all (ancs all) ns nd.rem nd.pend nd.plan)=true:=by kernel_rfl):PlanOk P all ns p:=⟨a,b,c,d⟩
theorem br {P:Program}{tb:Tb}{inl:Inl}{N off:Nat}{a b:Code}{yl:Yl}{x:Bool}{L:Sl}{H:Hp}{K:K3}
  (h1:x=true→RunC P tb inl N a yl off L H K) (h2:x=false→RunC P tb inl N b yl off L H K):Cnd off x (RunC P tb inl N a yl off L H) (RunC P tb inl N b yl off L H) K:=Cnd.split (CondB.mk h1 h2)
theorem en {P:Program}{tb:Tb}{f:Nat}{fn:Func}{c:Code}{ds:List D}{r:D}(htb:TbOk P tb)(hf:P.funcs[f]? = some fn)(hh:RunF P tb (inlN P tb 6) (fun _ _ _ _ _=>False) fn c ds 0 [] (outK r) noP)
  (hb:fn.body=some c:=by rfl) (hn:(fn.name == "runtime.NumGoroutine")=false:=by rfl) (hl:ds.length≤fn.ntmps:=by exact ji1 rfl):Called P f ds r:=jgP htb 6 ⟨hf,hb,hn,hl⟩ hh
abbrev sl2 (n:Nat)(l:List D):D := .slf 2 n (fun j=>List.take 2 (List.drop (j*2) l))
theorem a2 {A B:Prop}(a:A)(b:B):A∧B:=⟨a,b⟩
theorem a3 {A B C:Prop}(a:A)(b:B)(c:C):A∧B∧C:=⟨a,b,c⟩
theorem a4 {A B C D:Prop}(a:A)(b:B)(c:C)(d:D):A∧B∧C∧D:=⟨a,b,c,d⟩
theorem a5 {A B C D E:Prop}(a:A)(b:B)(c:C)(d:D)(e:E):A∧B∧C∧D∧E:=⟨a,b,c,d,e⟩
theorem a7 {A B C D E F G:Prop}(a:A)(b:B)(c:C)(d:D)(e:E)(f:F)(g:G):A∧B∧C∧D∧E∧F∧G:=⟨a,b,c,d,e,f,g⟩
theorem a8 {A B C D E F G I:Prop}(a:A)(b:B)(c:C)(d:D)(e:E)(f:F)(g:G)(i:I):A∧B∧C∧D∧E∧F∧G∧I:=⟨a,b,c,d,e,f,g,i⟩
theorem r0 {A B Z : Prop} (z : Z)  (k : B) (h : Hold B → Z → A := by
  first
  | (intro k z
     (conv => whnf)
     (try simp only [z])
     repeat ((first | refine V.s1 ?_); (try simp only [z]))
     exact k.out)
  | fail) : A := h ⟨k⟩ z
theorem d0 {A Z : Prop} (z : Z)  (h : Z → A := by
  first
  | (intro z
     (conv => whnf); (try simp only [z])
     repeat' (first | exact V.wk | exact True.intro | ((with_reducible refine And.intro ?_ jaA); (conv => whnf); (try simp only [z])) | ((with_reducible first | refine jar ?_ ?_ | refine jau ?_ ?_) <;> (conv => whnf); (try simp only [z])) | ((first | refine V.s1 ?_ | ((with_reducible refine jan ?_ ?_); (focus ((conv => whnf); (try simp only [z]); (repeat ((first | refine V.s1 ?_); (try simp only [z]))); exact ⟨rfl⟩)); (conv => whnf))); (try simp only [z])) | (refine And.intro ?_ ?_ <;> (conv => whnf); (try simp only [z]))))
  | fail) : A := h z
theorem r1 {A B Z C1 : Prop} (z : Z) (c1 : C1) (k : B) (h : Hold B → Z → C1 → A := by
  first
  | (intro k z c1
     (conv => whnf)
     (try simp only [z])
     repeat ((first | refine V.s1 ?_ | ((try ((with_reducible refine .ext ?_); (conv => whnf); (try simp only [z]))); (with_reducible refine jaa (r := ?_) ?_ ?_); rotate_left; (focus (first | exact c1 | (apply c1; done))); (conv => whnf))); (try simp only [z]))
     exact k.out)
  | fail) : A := h ⟨k⟩ z c1
theorem d1 {A Z C1 : Prop} (z : Z) (c1 : C1) (h : Z → C1 → A := by
  first
  | (intro z c1
     (conv => whnf); (try simp only [z])
     repeat' (first | exact V.wk | exact True.intro | ((with_reducible refine And.intro ?_ jaA); (conv => whnf); (try simp only [z])) | ((with_reducible first | refine jar ?_ ?_ | refine jau ?_ ?_) <;> (conv => whnf); (try simp only [z])) | ((first | refine V.s1 ?_ | ((with_reducible refine jan ?_ ?_); (focus ((conv => whnf); (try simp only [z]); (repeat ((first | refine V.s1 ?_); (try simp only [z]))); exact ⟨rfl⟩)); (conv => whnf)) | ((try ((with_reducible refine .ext ?_); (conv => whnf); (try simp only [z]))); (with_reducible refine jaa (r := ?_) ?_ ?_); rotate_left; (focus (first | exact c1 | (apply c1; done))); (conv => whnf))); (try simp only [z])) | (refine And.intro ?_ ?_ <;> (conv => whnf); (try simp only [z]))))
  | fail) : A := h z c1
theorem q1 {A B C1 : Prop} (c1 : C1) (k : B) (h : Hold B → C1 → A := by
  first
  | (intro k c1
     repeat ((try ((with_reducible refine .ext ?_); (conv => whnf))); (with_reducible refine jaa (r := ?_) ?_ ?_); rotate_left; (focus (first | exact c1 | (apply c1; done))); (conv => whnf); refine V.st ?_)
     exact k.out)
  | fail) : A := h ⟨k⟩ c1
theorem r2 {A B Z C1 C2 : Prop} (z : Z) (c1 : C1) (c2 : C2) (k : B) (h : Hold B → Z → C1 → C2 → A := by
  first
  | (intro k z c1 c2
     (conv => whnf)
     (try simp only [z])
     repeat ((first | refine V.s1 ?_ | ((try ((with_reducible refine .ext ?_); (conv => whnf); (try simp only [z]))); (with_reducible refine jaa (r := ?_) ?_ ?_); rotate_left; (focus (first | exact c1 | (apply c1; done) | exact c2 | (apply c2; done))); (conv => whnf))); (try simp only [z]))
     exact k.out)
  | fail) : A := h ⟨k⟩ z c1 c2
theorem d2 {A Z C1 C2 : Prop} (z : Z) (c1 : C1) (c2 : C2) (h : Z → C1 → C2 → A := by
  first
  | (intro z c1 c2
     (conv => whnf); (try simp only [z])
     repeat' (first | exact V.wk | exact True.intro | ((with_reducible refine And.intro ?_ jaA); (conv => whnf); (try simp only [z])) | ((with_reducible first | refine jar ?_ ?_ | refine jau ?_ ?_) <;> (conv => whnf); (try simp only [z])) | ((first | refine V.s1 ?_ | ((with_reducible refine jan ?_ ?_); (focus ((conv => whnf); (try simp only [z]); (repeat ((first | refine V.s1 ?_); (try simp only [z]))); exact ⟨rfl⟩)); (conv => whnf)) | ((try ((with_reducible refine .ext ?_); (conv => whnf); (try simp only [z]))); (with_reducible refine jaa (r := ?_) ?_ ?_); rotate_left; (focus (first | exact c1 | (apply c1; done) | exact c2 | (apply c2; done))); (conv => whnf))); (try simp only [z])) | (refine And.intro ?_ ?_ <;> (conv => whnf); (try simp only [z]))))
  | fail) : A := h z c1 c2
theorem q2 {A B C1 C2 : Prop} (c1 : C1) (c2 : C2) (k : B) (h : Hold B → C1 → C2 → A := by
  first
  | (intro k c1 c2
     repeat ((try ((with_reducible refine .ext ?_); (conv => whnf))); (with_reducible refine jaa (r := ?_) ?_ ?_); rotate_left; (focus (first | exact c1 | (apply c1; done) | exact c2 | (apply c2; done))); (conv => whnf); refine V.st ?_)
     exact k.out)
  | fail) : A := h ⟨k⟩ c1 c2
theorem r3 {A B Z C1 C2 C3 : Prop} (z : Z) (c1 : C1) (c2 : C2) (c3 : C3) (k : B) (h : Hold B → Z → C1 → C2 → C3 → A := by
  first
  | (intro k z c1 c2 c3
     (conv => whnf)
     (try simp only [z])
     repeat ((first | refine V.s1 ?_ | ((try ((with_reducible refine .ext ?_); (conv => whnf); (try simp only [z]))); (with_reducible refine jaa (r := ?_) ?_ ?_); rotate_left; (focus (first | exact c1 | (apply c1; done) | exact c2 | (apply c2; done) | exact c3 | (apply c3; done))); (conv => whnf))); (try simp only [z]))
     exact k.out)
  | fail) : A := h ⟨k⟩ z c1 c2 c3
theorem d3 {A Z C1 C2 C3 : Prop} (z : Z) (c1 : C1) (c2 : C2) (c3 : C3) (h : Z → C1 → C2 → C3 → A := by
  first
  | (intro z c1 c2 c3
     (conv => whnf); (try simp only [z])
     repeat' (first | exact V.wk | exact True.intro | ((with_reducible refine And.intro ?_ jaA); (conv => whnf); (try simp only [z])) | ((with_reducible first | refine jar ?_ ?_ | refine jau ?_ ?_) <;> (conv => whnf); (try simp only [z])) | ((first | refine V.s1 ?_ | ((with_reducible refine jan ?_ ?_); (focus ((conv => whnf); (try simp only [z]); (repeat ((first | refine V.s1 ?_); (try simp only [z]))); exact ⟨rfl⟩)); (conv => whnf)) | ((try ((with_reducible refine .ext ?_); (conv => whnf); (try simp only [z]))); (with_reducible refine jaa (r := ?_) ?_ ?_); rotate_left; (focus (first | exact c1 | (apply c1; done) | exact c2 | (apply c2; done) | exact c3 | (apply c3; done))); (conv => whnf))); (try simp only [z])) | (refine And.intro ?_ ?_ <;> (conv => whnf); (try simp only [z]))))
  | fail) : A := h z c1 c2 c3
theorem q3 {A B C1 C2 C3 : Prop} (c1 : C1) (c2 : C2) (c3 : C3) (k : B) (h : Hold B → C1 → C2 → C3 → A := by
  first
  | (intro k c1 c2 c3
     repeat ((try ((with_reducible refine .ext ?_); (conv => whnf))); (with_reducible refine jaa (r := ?_) ?_ ?_); rotate_left; (focus (first | exact c1 | (apply c1; done) | exact c2 | (apply c2; done) | exact c3 | (apply c3; done))); (conv => whnf); refine V.st ?_)
     exact k.out)
  | fail) : A := h ⟨k⟩ c1 c2 c3
theorem r4 {A B Z C1 C2 C3 C4 : Prop} (z : Z) (c1 : C1) (c2 : C2) (c3 : C3) (c4 : C4) (k : B) (h : Hold B → Z → C1 → C2 → C3 → C4 → A := by
  first
  | (intro k z c1 c2 c3 c4
     (conv => whnf)
     (try simp only [z])
     repeat ((first | refine V.s1 ?_ | ((try ((with_reducible refine .ext ?_); (conv => whnf); (try simp only [z]))); (with_reducible refine jaa (r := ?_) ?_ ?_); rotate_left; (focus (first | exact c1 | (apply c1; done) | exact c2 | (apply c2; done) | exact c3 | (apply c3; done) | exact c4 | (apply c4; done))); (conv => whnf))); (try simp only [z]))
     exact k.out)
  | fail) : A := h ⟨k⟩ z c1 c2 c3 c4
theorem d4 {A Z C1 C2 C3 C4 : Prop} (z : Z) (c1 : C1) (c2 : C2) (c3 : C3) (c4 : C4) (h : Z → C1 → C2 → C3 → C4 → A := by
  first
  | (intro z c1 c2 c3 c4
     (conv => whnf); (try simp only [z])
     repeat' (first | exact V.wk | exact True.intro | ((with_reducible refine And.intro ?_ jaA); (conv => whnf); (try simp only [z])) | ((with_reducible first | refine jar ?_ ?_ | refine jau ?_ ?_) <;> (conv => whnf); (try simp only [z])) | ((first | refine V.s1 ?_ | ((with_reducible refine jan ?_ ?_); (focus ((conv => whnf); (try simp only [z]); (repeat ((first | refine V.s1 ?_); (try simp only [z]))); exact ⟨rfl⟩)); (conv => whnf)) | ((try ((with_reducible refine .ext ?_); (conv => whnf); (try simp only [z]))); (with_reducible refine jaa (r := ?_) ?_ ?_); rotate_left; (focus (first | exact c1 | (apply c1; done) | exact c2 | (apply c2; done) | exact c3 | (apply c3; done) | exact c4 | (apply c4; done))); (conv => whnf))); (try simp only [z])) | (refine And.intro ?_ ?_ <;> (conv => whnf); (try simp only [z]))))
  | fail) : A := h z c1 c2 c3 c4
theorem q4 {A B C1 C2 C3 C4 : Prop} (c1 : C1) (c2 : C2) (c3 : C3) (c4 : C4) (k : B) (h : Hold B → C1 → C2 → C3 → C4 → A := by
  first
  | (intro k c1 c2 c3 c4
     repeat ((try ((with_reducible refine .ext ?_); (conv => whnf))); (with_reducible refine jaa (r := ?_) ?_ ?_); rotate_left; (focus (first | exact c1 | (apply c1; done) | exact c2 | (apply c2; done) | exact c3 | (apply c3; done) | exact c4 | (apply c4; done))); (conv => whnf); refine V.st ?_)
     exact k.out)
  | fail) : A := h ⟨k⟩ c1 c2 c3 c4
theorem r5 {A B Z C1 C2 C3 C4 C5 : Prop} (z : Z) (c1 : C1) (c2 : C2) (c3 : C3) (c4 : C4) (c5 : C5) (k : B) (h : Hold B → Z → C1 → C2 → C3 → C4 → C5 → A := by
  first
  | (intro k z c1 c2 c3 c4 c5
     (conv => whnf)
     (try simp only [z])
     repeat ((first | refine V.s1 ?_ | ((try ((with_reducible refine .ext ?_); (conv => whnf); (try simp only [z]))); (with_reducible refine jaa (r := ?_) ?_ ?_); rotate_left; (focus (first | exact c1 | (apply c1; done) | exact c2 | (apply c2; done) | exact c3 | (apply c3; done) | exact c4 | (apply c4; done) | exact c5 | (apply c5; done))); (conv => whnf))); (try simp only [z]))
     exact k.out)
  | fail) : A := h ⟨k⟩ z c1 c2 c3 c4 c5
theorem r6 {A B Z C1 C2 C3 C4 C5 C6 : Prop} (z : Z) (c1 : C1) (c2 : C2) (c3 : C3) (c4 : C4) (c5 : C5) (c6 : C6) (k : B) (h : Hold B → Z → C1 → C2 → C3 → C4 → C5 → C6 → A := by
  first
  | (intro k z c1 c2 c3 c4 c5 c6
     (conv => whnf)
     (try simp only [z])
     repeat ((first | refine V.s1 ?_ | ((try ((with_reducible refine .ext ?_); (conv => whnf); (try simp only [z]))); (with_reducible refine jaa (r := ?_) ?_ ?_); rotate_left; (focus (first | exact c1 | (apply c1; done) | exact c2 | (apply c2; done) | exact c3 | (apply c3; done) | exact c4 | (apply c4; done) | exact c5 | (apply c5; done) | exact c6 | (apply c6; done))); (conv => whnf))); (try simp only [z]))
     exact k.out)
  | fail) : A := h ⟨k⟩ z c1 c2 c3 c4 c5 c6
theorem d6 {A Z C1 C2 C3 C4 C5 C6 : Prop} (z : Z) (c1 : C1) (c2 : C2) (c3 : C3) (c4 : C4) (c5 : C5) (c6 : C6) (h : Z → C1 → C2 → C3 → C4 → C5 → C6 → A := by
  first
  | (intro z c1 c2 c3 c4 c5 c6
     (conv => whnf); (try simp only [z])
     repeat' (first | exact V.wk | exact True.intro | ((with_reducible refine And.intro ?_ jaA); (conv => whnf); (try simp only [z])) | ((with_reducible first | refine jar ?_ ?_ | refine jau ?_ ?_) <;> (conv => whnf); (try simp only [z])) | ((first | refine V.s1 ?_ | ((with_reducible refine jan ?_ ?_); (focus ((conv => whnf); (try simp only [z]); (repeat ((first | refine V.s1 ?_); (try simp only [z]))); exact ⟨rfl⟩)); (conv => whnf)) | ((try ((with_reducible refine .ext ?_); (conv => whnf); (try simp only [z]))); (with_reducible refine jaa (r := ?_) ?_ ?_); rotate_left; (focus (first | exact c1 | (apply c1; done) | exact c2 | (apply c2; done) | exact c3 | (apply c3; done) | exact c4 | (apply c4; done) | exact c5 | (apply c5; done) | exact c6 | (apply c6; done))); (conv => whnf))); (try simp only [z])) | (refine And.intro ?_ ?_ <;> (conv => whnf); (try simp only [z]))))
  | fail) : A := h z c1 c2 c3 c4 c5 c6
theorem d7 {A Z C1 C2 C3 C4 C5 C6 C7 : Prop} (z : Z) (c1 : C1) (c2 : C2) (c3 : C3) (c4 : C4) (c5 : C5) (c6 : C6) (c7 : C7) (h : Z → C1 → C2 → C3 → C4 → C5 → C6 → C7 → A := by
  first
  | (intro z c1 c2 c3 c4 c5 c6 c7
     (conv => whnf); (try simp only [z])
     repeat' (first | exact V.wk | exact True.intro | ((with_reducible refine And.intro ?_ jaA); (conv => whnf); (try simp only [z])) | ((with_reducible first | refine jar ?_ ?_ | refine jau ?_ ?_) <;> (conv => whnf); (try simp only [z])) | ((first | refine V.s1 ?_ | ((with_reducible refine jan ?_ ?_); (focus ((conv => whnf); (try simp only [z]); (repeat ((first | refine V.s1 ?_); (try simp only [z]))); exact ⟨rfl⟩)); (conv => whnf)) | ((try ((with_reducible refine .ext ?_); (conv => whnf); (try simp only [z]))); (with_reducible refine jaa (r := ?_) ?_ ?_); rotate_left; (focus (first | exact c1 | (apply c1; done) | exact c2 | (apply c2; done) | exact c3 | (apply c3; done) | exact c4 | (apply c4; done) | exact c5 | (apply c5; done) | exact c6 | (apply c6; done) | exact c7 | (apply c7; done))); (conv => whnf))); (try simp only [z])) | (refine And.intro ?_ ?_ <;> (conv => whnf); (try simp only [z]))))
  | fail) : A := h z c1 c2 c3 c4 c5 c6 c7
theorem u1 {A B C1 : Prop} (c1 : C1) (k : B) (h : Hold B → C1 → A := by
  first
  | (intro k c1
     (conv => whnf)
     refine V.st ?_
     repeat ((try ((with_reducible refine .ext ?_); (conv => whnf))); (with_reducible refine jaa (r := ?_) ?_ ?_); rotate_left; (focus (first | exact c1 | (apply c1; done))); (conv => whnf); refine V.st ?_)
     exact k.out)
  | fail) : A := h ⟨k⟩ c1
theorem u2 {A B C1 C2 : Prop} (c1 : C1) (c2 : C2) (k : B) (h : Hold B → C1 → C2 → A := by
  first
  | (intro k c1 c2
     (conv => whnf)
     refine V.st ?_
     repeat ((try ((with_reducible refine .ext ?_); (conv => whnf))); (with_reducible refine jaa (r := ?_) ?_ ?_); rotate_left; (focus (first | exact c1 | (apply c1; done) | exact c2 | (apply c2; done))); (conv => whnf); refine V.st ?_)
     exact k.out)
  | fail) : A := h ⟨k⟩ c1 c2
theorem u3 {A B C1 C2 C3 : Prop} (c1 : C1) (c2 : C2) (c3 : C3) (k : B) (h : Hold B → C1 → C2 → C3 → A := by
  first
  | (intro k c1 c2 c3
     (conv => whnf)
     refine V.st ?_
     repeat ((try ((with_reducible refine .ext ?_); (conv => whnf))); (with_reducible refine jaa (r := ?_) ?_ ?_); rotate_left; (focus (first | exact c1 | (apply c1; done) | exact c2 | (apply c2; done) | exact c3 | (apply c3; done))); (conv => whnf); refine V.st ?_)
     exact k.out)
  | fail) : A := h ⟨k⟩ c1 c2 c3
theorem u4 {A B C1 C2 C3 C4 : Prop} (c1 : C1) (c2 : C2) (c3 : C3) (c4 : C4) (k : B) (h : Hold B → C1 → C2 → C3 → C4 → A := by
  first
  | (intro k c1 c2 c3 c4
     (conv => whnf)
     refine V.st ?_
     repeat ((try ((with_reducible refine .ext ?_); (conv => whnf))); (with_reducible refine jaa (r := ?_) ?_ ?_); rotate_left; (focus (first | exact c1 | (apply c1; done) | exact c2 | (apply c2; done) | exact c3 | (apply c3; done) | exact c4 | (apply c4; done))); (conv => whnf); refine V.st ?_)
     exact k.out)
  | fail) : A := h ⟨k⟩ c1 c2 c3 c4
theorem u5 {A B C1 C2 C3 C4 C5 : Prop} (c1 : C1) (c2 : C2) (c3 : C3) (c4 : C4) (c5 : C5) (k : B) (h : Hold B → C1 → C2 → C3 → C4 → C5 → A := by
  first
  | (intro k c1 c2 c3 c4 c5
     (conv => whnf)
     refine V.st ?_
     repeat ((try ((with_reducible refine .ext ?_); (conv => whnf))); (with_reducible refine jaa (r := ?_) ?_ ?_); rotate_left; (focus (first | exact c1 | (apply c1; done) | exact c2 | (apply c2; done) | exact c3 | (apply c3; done) | exact c4 | (apply c4; done) | exact c5 | (apply c5; done))); (conv => whnf); refine V.st ?_)
     exact k.out)
  | fail) : A := h ⟨k⟩ c1 c2 c3 c4 c5
theorem u6 {A B C1 C2 C3 C4 C5 C6 : Prop} (c1 : C1) (c2 : C2) (c3 : C3) (c4 : C4) (c5 : C5) (c6 : C6) (k : B) (h : Hold B → C1 → C2 → C3 → C4 → C5 → C6 → A := by
  first
  | (intro k c1 c2 c3 c4 c5 c6
     (conv => whnf)
     refine V.st ?_
     repeat ((try ((with_reducible refine .ext ?_); (conv => whnf))); (with_reducible refine jaa (r := ?_) ?_ ?_); rotate_left; (focus (first | exact c1 | (apply c1; done) | exact c2 | (apply c2; done) | exact c3 | (apply c3; done) | exact c4 | (apply c4; done) | exact c5 | (apply c5; done) | exact c6 | (apply c6; done))); (conv => whnf); refine V.st ?_)
     exact k.out)
  | fail) : A := h ⟨k⟩ c1 c2 c3 c4 c5 c6
theorem il {A B C : Prop} (c : C) (k : B) (h : Hold B → C → A := by
  first
  | (intro k c
     refine .inl ?_
     (conv => whnf)
     refine ⟨0, _, _, ⟨c, rfl, rfl, ji1 rfl⟩, ?_⟩
     exact k.out)
  | fail) : A := h ⟨k⟩ c
end Go.V
end
section
open Go Go.RowKit
namespace Go.V
def pubOf (w:World):Pub:=fun b o=>w.cell? ⟨b,o,none⟩
theorem jfE (w:World)(hg:GlW w):Agree (pubOf w) w:=⟨fun _ _ _ e=>e,fun g vs h i v hv=>by
 obtain⟨_,T,f,h2⟩:=hg.1 g vs h
 unfold pubOf
 rw[cell_of_row w g i _ T f h2]
 simpa using hv,hg,fun g h=>by
 obtain⟨tp,p,T,f,h2⟩:=hg.2 g h
 exact⟨.iface tp p,by unfold pubOf;rw[cell_of_row w g 0 _ T f h2];rfl⟩⟩
theorem Called.walk {P:Program}{f:Nat}{ds:List D}(c:Called P f ds (.bool true))(w:World){vs:List Value}(hd:DenL Env.dummy (pubOf w) ds vs)(hg:GlW w:=by first|exact⟨fun _ _ h=>absurd h List.not_mem_nil,fun _ h=>absurd h List.not_mem_nil⟩|fail) :
  Calls P f vs.toArray w fun e w'=>e = .returned (.bool true)∧Below w.heap.size w w':=by
 refine(c.call (pubOf w) w vs (jfE w hg) hd).mono fun e w' ⟨v,h',he,hv,_,_,hb,_⟩=>?_
 simp only[Den] at hv
 subst hv
 exact⟨he,hb⟩
end Go.V
end
