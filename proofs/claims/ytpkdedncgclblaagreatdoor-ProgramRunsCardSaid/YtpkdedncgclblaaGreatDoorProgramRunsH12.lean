/- What functions of the program answer at given values, part 12. Conditions: those that each theorem names. -/
import Derived.Test.YtpkdedncgclblaaGreatDoorProgramRunsH9
import Derived.Test.YtpkdedncgclblaaGreatDoorProgramRunsH8
import Derived.Test.YtpkdedncgclblaaGreatDoorProgramRunsH10
import Derived.Test.YtpkdedncgclblaaGreatDoorProgramRunsH7
import Derived.Test.YtpkdedncgclblaaGreatDoorProgramRunsH11
import Derived.Test.YtpkdedncgclblaaGreatDoorProgramRunsH6
set_option linter.unusedSimpArgs false
set_option linter.unusedVariables false
set_option maxHeartbeats 8000000
set_option maxRecDepth 100000
section
namespace Go.Proofs.YtpkdedncgclblaaGreatDoor
open Go Go.V Go.Nb
def Fq (n:Nat)(q:Rat):Prop:=q.num.natAbs<10^n∧q.den<10^n
theorem Fq.mono {m n:Nat}{q:Rat}(h:Fq m q)(hl:m≤n):Fq n q:=
 ⟨jiH h.1 (jiR (by decide) hl),jiH h.2 (jiR (by decide) hl)⟩
theorem Fq.ok {n:Nat}{q:Rat}(h:Fq n q)(h0:0<n)(h6:n≤600):okF q=true:=by
 unfold okF
 simp only[jir,decide_eq_true_eq]
 exact⟨jiC (ja0 n _ h0 h.1).1 h6,jiC (ja0 n _ h0 h.2).1 h6⟩
theorem jfs (n:Int)(d:Nat)(hd:0<d):(Rat.divInt n d).num.natAbs≤n.natAbs∧(Rat.divInt n d).den≤d:=by
 rw[Rat.num_divInt,Rat.den_divInt,if_neg (by omega),jiY (by omega),Int.one_mul]
 refine⟨?_,?_⟩
 ·rw[Int.natAbs_ediv_of_dvd (by exact Int.gcd_dvd_right ..)]
  exact jiS _ _
 ·rw[jiQ]
  exact jiS _ _
theorem je2 {n:Nat}{x:Int}{d:Nat}(hd:0<d)(h1:x.natAbs<10^n)(h2:d<10^n):Fq n (Rat.divInt x d):=
 ⟨Nat.lt_of_le_of_lt (jfs x d hd).1 h1,Nat.lt_of_le_of_lt (jfs x d hd).2 h2⟩
theorem jex {a b x y:Nat}(h1:x<10^a)(h2:y<10^b):x*y<10^(a+b):=by
 rw[Nat.pow_add]
 rcases jiE y with e|e
 ·rw[e,Nat.mul_zero]
  exact Nat.mul_pos (Nat.pow_pos (by decide)) (Nat.pow_pos (by decide))
 ·exact jiH (Nat.mul_lt_mul_of_pos_right h1 e) (Nat.mul_le_mul_left _ (Nat.le_of_lt h2))
theorem Fq.add {a b:Nat}{p q:Rat}(h:Fq a p)(g:Fq b q):Fq (a+b+1) (p+q):=by
 have hp:=p.den_pos
 have hq:=q.den_pos
 have e:p+q=Rat.divInt (p.num*q.den+q.num*p.den) ((p.den*q.den:Nat):Int):=by
  conv=>lhs;rw[← jiZ p,← jiZ q]
  rw[Rat.divInt_add_divInt _ _ (by omega) (by omega),jiL]
 rw[e]
 have m1:=jex h.1 g.2
 have m2:=jex g.1 h.2
 have m3:=jex h.2 g.2
 rw[Nat.add_comm b a] at m2
 have e10:10^(a+b+1)=10*10^(a+b):=by rw[Nat.pow_succ,Nat.mul_comm]
 refine je2 (Nat.mul_pos hp hq) ?_ ?_
 ·have t:=Int.natAbs_add_le (p.num*q.den) (q.num*p.den)
  rw[Int.natAbs_mul,Int.natAbs_mul,jiQ,jiQ] at t
  omega
 ·omega
theorem Fq.neg {a:Nat}{p:Rat}(h:Fq a p):Fq a (-p):=⟨by rw[Rat.neg_num,Int.natAbs_neg];exact h.1,by rw[Rat.neg_den];exact h.2⟩
theorem Fq.sub {a b:Nat}{p q:Rat}(h:Fq a p)(g:Fq b q):Fq (a+b+1) (p-q):=by
 rw[Rat.sub_eq_add_neg]
 exact h.add g.neg
theorem Fq.mul {a b:Nat}{p q:Rat}(h:Fq a p)(g:Fq b q):Fq (a+b) (p*q):=by
 have e:p*q=Rat.divInt (p.num*q.num) ((p.den*q.den:Nat):Int):=by
  conv=>lhs;rw[← jiZ p,← jiZ q]
  rw[Rat.divInt_mul_divInt,jiL]
 rw[e]
 refine je2 (Nat.mul_pos p.den_pos q.den_pos) ?_ (jex h.2 g.2)
 rw[Int.natAbs_mul]
 exact jex h.1 g.1
theorem dec_rdv:∀ (n:Nat) (d:List UInt8),d.length=n→d≠[]→(∀ c∈d,isDig c=true)→(d.getD 0 0≠48∨d.length=1)→dec (rdv d)=d
 | 0,d,h,h0,_,_=>absurd (ji4.1 h) h0
 | n+1,d,h,h0,hd,hz=>by
  obtain⟨e,c,rfl⟩:∃ e c,d=e++[c]:=⟨d.dropLast,d.getLast h0,(List.dropLast_concat_getLast h0).symm⟩
  have hc:=hd c (by simp)
  simp only[isDig,decide_eq_true_eq] at hc
  have hu:UInt8.ofNat (48+(c.toNat-48))=c:=by
   have:48+(c.toNat-48)=c.toNat:=by omega
   rw[this]
   exact UInt8.ofNat_toNat
  rw[ja4,jdc,List.length_singleton,Nat.pow_one]
  by_cases he:e=[]
  ·subst he
   rw[jjg,show rdv []=0 from rfl,Nat.zero_mul,jiy,jbc (by omega),hu]
  ·have hl:e.length=n:=by simpa using h
   have hpos:0<e.length:=List.length_pos_iff.2 he
   have hg:(e++[c]).getD 0 0=e.getD 0 0:=by
    rw[ji3,ji3,jjc hpos]
   have hz':e.getD 0 0≠48:=by
    rcases hz with hz|hz
    ·rwa [hg] at hz
    ·simp at hz
     exact absurd hz he
   have ih:=dec_rdv n e hl he (fun x hx=>hd x (by simp[hx])) (.inl hz')
   have hr:0<rdv e:=by
    rcases jiE (rdv e) with h1|h1
    ·rw[h1,jbc (by omega)] at ih
     rw[← ih] at hz'
     exact absurd rfl hz'
    ·exact h1
   have e1:(rdv e*10+(c.toNat-48))/10=rdv e:=by omega
   have e2:(rdv e*10+(c.toNat-48))%10=c.toNat-48:=by omega
   rw[jcl (by omega),e1,e2,ih,hu]
theorem jhh {s:List UInt8}(h:okW s=true):decZ (wval s)=s:=by
 have key:∀ (d:List UInt8) (neg:Bool),okD d neg=true→dec (rdv d)=d∧(neg=true→0<rdv d):=by
  intro d neg h
  have h':=h
  unfold okD at h
  simp only[jir,Bool.not_eq_true',jiK,decide_eq_false_iff_not,ji2,jiW] at h
  refine⟨dec_rdv _ d rfl (fun e=>h.1.1.1 (by rw[e];rfl)) h.1.2 ?_,fun e=>okD_nz (by rw[e] at h';exact h')⟩
  rcases h.2 with h2|h2
  ·exact .inl h2
  ·refine .inr ?_
   have h3:=h.1.1.1
   have h4:=h2.2
   omega
 unfold okW at h
 obtain⟨k1,k2⟩:=key _ _ h
 unfold wval
 cases hn:Go.Lib.hasPrefix s [45] with
 | true=>
  have hs:s=45::Go.Lib.trimPrefix s [45]:=by
   unfold Go.Lib.trimPrefix
   rw[if_pos hn]
   match s,hn with
   | c::r,hn=>
    unfold Go.Lib.hasPrefix at hn
    simp at hn
    simp[hn]
  have h0:=k2 hn
  simp only[if_true]
  unfold decZ
  rw[if_pos (by omega)]
  rw[show (-((rdv (Go.Lib.trimPrefix s [45]):Nat):Int)).natAbs=rdv (Go.Lib.trimPrefix s [45]) by omega,k1]
  exact hs.symm
 | false=>
  have hs:Go.Lib.trimPrefix s [45]=s:=by
   unfold Go.Lib.trimPrefix
   rw[hn]
   rfl
  simp only[Bool.false_eq_true,if_false]
  rw[hs] at k1 ⊢
  unfold decZ
  rw[if_neg (by omega),jiQ,k1]
def frT (x:Rat):D := .agg [.str (decZ x.num),.str (dec x.den)]
theorem jbg {q:Rat}(h:okF q=true):okP (decZ q.num) (dec q.den)=true∧qv (decZ q.num) (dec q.den)=q:=by
 unfold okF at h
 simp only[jir,decide_eq_true_eq] at h
 have hdz:dec q.den=decZ (q.den:Int):=by unfold decZ;rw[if_neg (by omega),jiQ]
 have w1:wval (decZ q.num)=q.num:=jbk _
 have w2:wval (dec q.den)=(q.den:Int):=by rw[hdz];exact jbk _
 have o1:=jbS q.num h.1
 have o2:okW (dec q.den)=true:=by rw[hdz];exact jbS _ (by rw[jiQ];exact h.2)
 have hp:=q.den_pos
 constructor
 ·unfold okP
  rw[o1,o2,w1,w2]
  simp only[jir,decide_eq_true_eq,Bool.true_and,jiQ]
  exact⟨by omega,q.reduced⟩
 ·unfold qv
  rw[w1,w2]
  exact jiZ q
theorem je1 {q:Rat}(h:okF q=true):frR q = .tup [frT q,.int .i64 0]:=by
 unfold frR
 rw[h]
 rfl
theorem okP_text {s t:List UInt8}(h:okP s t=true):decZ (qv s t).num=s∧dec (qv s t).den=t:=by
 obtain⟨h1,h2,h3,h4⟩:=jeQ h
 obtain⟨p1,p2⟩:=jdw h
 have e2:=jhh h2
 unfold decZ at e2
 rw[if_neg (by omega)] at e2
 rw[p1,p2]
 exact⟨jhh h1,e2⟩
abbrev Tx:=List UInt8×List UInt8
def okX (x:Tx):Bool:=okP x.1 x.2
def qX (x:Tx):Rat:=qv x.1 x.2
def BdX (n:Nat)(x:Tx):Prop:=(x.1.length≤281474976710656∧x.2.length≤281474976710656)∧(okX x=true→Fq n (qX x))
theorem BdX.mono {m n:Nat}{x:Tx}(h:BdX m x)(hl:m≤n):BdX n x:=⟨h.1,fun g=>(h.2 g).mono hl⟩
structure Sg (s d:List UInt8)(j:Nat)(neg:Bool):Prop where
 hj:j=if neg then 1 else 0
 hl:s.length=d.length+j
 hg:∀ i,s.getD (i+j) 0=d.getD i 0
 h0:(0<s.length∧s.getD 0 0=45)↔neg=true
theorem sg_of (s:List UInt8):∃ d j neg,Sg s d j neg∧okW s=okD d neg∧wval s=if neg then -(rdv d:Int) else rdv d:=by
 cases s with
 | nil=>exact⟨[],0,false,⟨rfl,rfl,fun i=>rfl,by simp⟩,rfl,rfl⟩
 | cons c r=>
  by_cases hc:c=45
  ·subst hc
   have h1:Go.Lib.hasPrefix (45::r) [45]=true:=by simp[Go.Lib.hasPrefix]
   have h2:Go.Lib.trimPrefix (45::r) [45]=r:=by unfold Go.Lib.trimPrefix;rw[h1];rfl
   refine⟨r,1,true,⟨rfl,by simp,fun i=>by simp,by simp⟩,?_,?_⟩
   ·unfold okW;rw[h1,h2]
   ·unfold wval;rw[h1,h2]
  ·have h1:Go.Lib.hasPrefix (c::r) [45]=false:=by
    show List.isPrefixOf [45] (c::r)=false
    simp only[List.isPrefixOf,Bool.and_true,beq_eq_false_iff_ne]
    exact Ne.symm hc
   have h2:Go.Lib.trimPrefix (c::r) [45]=c::r:=by unfold Go.Lib.trimPrefix;rw[h1];rfl
   refine⟨c::r,0,false,⟨rfl,by simp,fun i=>by simp,by simp[hc]⟩,?_,?_⟩
   ·unfold okW;rw[h1,h2]
   ·unfold wval;rw[h1,h2]
theorem u8_eq (c:UInt8)(n:Nat)(hn:n<256):decide (((c.toNat:Nat):Int)=n)=decide (c=UInt8.ofNat n):=decide_eq_decide.2 ⟨fun h=>UInt8.toNat_inj.1 (by rw[UInt8.toNat_ofNat_of_lt' (by simpa using hn)];omega),fun h=>by rw[h,UInt8.toNat_ofNat_of_lt' (by simpa using hn)]⟩
theorem right01_g (s d:List UInt8)(j:Nat)(neg:Bool)(S:Sg s d j neg)(hs:s.length≤281474976710656):Cl 67 [.str s] (.bool (okD d neg)):=by
 obtain⟨hj,hl,hg,h0⟩:=S
 have hJ:j≤1:=by rw[hj];split<;>omega
 have e0:(0:Int).toNat=0:=rfl
 have q45:decide (((s.getD 0 0).toNat:Int)=45)=decide (s.getD 0 0=45):=u8_eq _ 45 (by omega)
 have qn:(decide ((s.length:Int)>0) && decide (s.getD 0 0=45))=neg:=by
  rw[Bool.eq_iff_iff,← h0,jir,decide_eq_true_eq,decide_eq_true_eq]
  exact and_congr_left' (by omega)
 refine V.en tbOk Tryz.func67 ?_
 refine V.r0 (V.a3 e0 q45 qn) ?_
 refine cnd_meet [(3,.int .i64 j)] [] (CondB.mk (fun hq=>?_) (fun hq=>?_)) ?_
 ·subst hq
  rw[if_pos rfl] at hj
  subst hj
  (conv=>whnf)
  refine V.st ?_
  exact V.wk
 ·subst hq
  rw[if_neg (by simp)] at hj
  subst hj
  (conv=>whnf)
  refine V.st ?_
  exact V.wk
 have hsl:(s.length:Int)-j=d.length:=by omega
 clear q45 qn h0
 refine V.r0 hsl ?_
 refine V.br (fun hq=>?_) (fun hq=>?_)
 ·simp only[jiJ,decide_eq_true_eq] at hq
  have hf:okD d neg=false:=by
   unfold okD
   rcases hq with h|h
   ·rw[decide_eq_true (show d.length=0 by omega)];rfl
   ·rw[decide_eq_true (show 600<d.length by omega),Bool.or_true];rfl
  rw[hf]
  (conv=>whnf)
  refine V.st ?_
  exact Fin.of rfl
 ·simp only[jiK,decide_eq_false_iff_not] at hq
  (conv=>whnf)
  refine V.st ?_
  refine jaf (0:Nat) (fun k=>k≤d.length ∧ ∀ i,i<k→isDig (d.getD i 0)=true) (fun k=>d.length-k) (fun k=>[(5,.int .i64 ((k+j:Nat):Int))]) (fun _=>[]) ?_ ?_ ?_
  ·rw[jiy]
   exact V.wk
  ·exact⟨jit _,fun i hi=>by omega⟩
  intro k hk
  have hkc:(((k+j:Nat):Int)+1)=((k+1+j:Nat):Int):=by omega
  have hkt:((k+j:Nat):Int).toNat=k+j:=by omega
  (conv=>whnf)
  refine V.st ?_
  refine V.br (fun hq2=>?_) (fun hq2=>?_)
  ·rw[decide_eq_true_eq] at hq2
   have hdl:=dig_lo (d.getD k 0)
   have hgk:=hg k
   generalize hc:d.getD k 0=c at *
   refine V.r0 (V.a3 hkt hgk hkc) ?_
   refine V.br (fun hq3=>?_) (fun hq3=>?_)
   ·rw[jiJ,decide_eq_true_eq,decide_eq_true_eq] at hq3
    have hf:okD d neg=false:=by
     have h1:d.all isDig=false:=by
      rw[List.all_eq_false]
      refine⟨c,?_,fun h=>by have:=hdl.1 h;omega⟩
      rw[← hc,ji3,ji6 (by omega)]
      exact ji7 _
     unfold okD
     rw[h1,Bool.and_false,Bool.false_and]
    rw[hf]
    (conv=>whnf)
    refine V.st ?_
    exact Fin.of rfl
   ·rw[jiK,decide_eq_false_iff_not,decide_eq_false_iff_not] at hq3
    refine V.r0 hkc ?_
    refine⟨k+1,⟨by omega,fun i hi=>?_⟩,by omega,V.wk⟩
    rcases jiI i k with h|h
    ·exact hk.2 i h
    ·obtain rfl:i=k:=by omega
     rw[hc];exact hdl.2 (by omega)
  ·rw[decide_eq_false_iff_not] at hq2
   obtain rfl:k=d.length:=by omega
   have hall:∀ c∈d,isDig c=true:=fun c hc=>by
    obtain⟨i,hi,e⟩:=List.getElem_of_mem hc
    have:=hk.2 i hi
    rw[ji3,ji6 hi] at this
    rw[← e];exact this
   have hok:okD d neg = !(decide (d.getD 0 0=48) && (neg || decide (1<d.length))):=by
    unfold okD
    rw[ji2.2 hall,decide_eq_false (show ¬ d.length=0 by omega),decide_eq_false (show ¬ 600<d.length by omega)]
    rfl
   have hu:decide ((((d.getD 0 0).toNat:Nat):Int)=48)=decide (d.getD 0 0=48):=u8_eq _ 48 (by omega)
   have hg0:=hg 0
   rw[jiy] at hg0
   have hll:decide ((s.length:Int)=1) = !(neg || decide (1<d.length)):=by
    by_cases hn:neg=true
    ·subst hn
     rw[if_pos rfl] at hj
     rw[decide_eq_false (by omega)]
     rfl
    ·rw[if_neg hn] at hj
     rw[Bool.eq_false_iff.2 hn,Bool.false_or]
     by_cases h1:1<d.length
     ·rw[decide_eq_true h1,decide_eq_false (by omega)];rfl
     ·rw[decide_eq_false h1,decide_eq_true (by omega)];rfl
   have hu2:decide ((((d.getD 0 0).toNat:Nat):Int)≠48) = !decide (d.getD 0 0=48):=by rw[← hu,decide_not]
   have hne:(!decide (d.getD 0 0=48) || !(neg || decide (1<d.length)))=okD d neg:=by rw[hok,Bool.not_and]
   refine V.r0 (V.a5 @jiA hg0 hu2 hll hne) ?_
   exact Fin.of rfl
theorem rdv_chunk (d:List UInt8)(hd:∀ c∈d,isDig c=true)(m:Nat)(hm:m≤d.length):rdv (d.take m)/10000=rdv (d.take (m-4))∧rdv (d.take m)%10000=rdv ((d.take m).drop (m-4)):=by
 have e:d.take m=d.take (m-4)++(d.take m).drop (m-4):=by
  conv=>lhs;rw[← jjb (m-4) (d.take m),List.take_take,jix (by omega)]
 have hb:=jeF (s:=(d.take m).drop (m-4)) (fun c hc=>hd c (jjf (jje hc)))
 have hl:((d.take m).drop (m-4)).length=m-(m-4):=by rw[jjo,ji9];omega
 rw[hl] at hb
 have ev:rdv (d.take m)=rdv (d.take (m-4))*10^(m-(m-4))+rdv ((d.take m).drop (m-4)):=by
  conv=>lhs;rw[e]
  rw[ja4,hl]
 rw[ev]
 generalize rdv ((d.take m).drop (m-4))=y at *
 rcases (by omega:m<4∨4≤m) with h|h
 ·have h0:m-4=0:=by omega
  have h10:10^(m-(m-4))≤10000:=by
   rw[h0]
   rcases (by omega:m=0∨m=1∨m=2∨m=3) with e|e|e|e<;>subst e<;>decide
  rw[h0,List.take_zero,show rdv []=0 from rfl,Nat.zero_mul]
  omega
 ·rw[show m-(m-4)=4 by omega,show (10:Nat)^4=10000 from rfl] at *
  omega
theorem rdv_next (d:List UInt8)(lo k:Nat)(h1:lo≤k)(h2:k<d.length):rdv ((d.take (k+1)).drop lo)=rdv ((d.take k).drop lo)*10+((d.getD k 0).toNat-48):=by
 have e:(d.take (k+1)).drop lo=(d.take k).drop lo++[d.getD k 0]:=by
  rw[List.take_add_one,ji6 h2,List.drop_append_of_le_length (by rw[ji9];omega),ji3,ji6 h2]
  rfl
 rw[e,ja4,jdc]
 rfl
theorem in01_g (s d:List UInt8)(j:Nat)(neg:Bool)(S:Sg s d j neg)(hd:∀ c∈d,isDig c=true)(hdl:d.length≤600)(hs0:0<s.length) :
  Cl 68 [.str s] (plD (if neg then -(rdv d:Int) else rdv d)):=by
 obtain⟨hj,hl,hg,h0⟩:=S
 have hJ:j≤1:=by rw[hj];split<;>omega
 have e0:(0:Int).toNat=0:=rfl
 have q45:decide (((s.getD 0 0).toNat:Int)=45)=neg:=by
  rw[show (45:Int)=((45:Nat):Int) from rfl,u8_eq _ 45 (by omega),Bool.eq_iff_iff,← h0,decide_eq_true_eq]
  exact⟨fun h=>⟨hs0,h⟩,fun h=>h.2⟩
 refine V.en tbOk Tryz.func68 ?_
 refine V.r0 (V.a2 e0 q45) ?_
 refine cnd_meet [(3,.int .i64 j)] [] (CondB.mk (fun hq=>?_) (fun hq=>?_)) ?_
 ·subst hq
  rw[if_pos rfl] at hj
  subst hj
  (conv=>whnf)
  refine V.st ?_
  exact V.wk
 ·subst hq
  rw[if_neg (by simp)] at hj
  subst hj
  (conv=>whnf)
  refine V.st ?_
  exact V.wk
 (conv=>whnf)
 refine V.st ?_
 refine Lp.ghostSlot 38 4 .i64 (by decide) ?_
 (conv=>whnf)
 refine jaf (((s.length:Int),d.length,[]):Int×Nat×List Int) (fun st=>st.2.1≤d.length∧(st.1=(st.2.1+j:Nat)∨(st.2.1=0∧st.1<j∧(j:Int)-4≤st.1))∧val 10000 st.2.2+((10000:Nat):Int)^st.2.2.length*((rdv (d.take st.2.1):Nat):Int)=((rdv d:Nat):Int)∧Dg 10000 st.2.2∧st.2.2.length+(st.2.1+3)/4≤151) (fun st=>st.2.1) (fun st=>[(5,.int .i64 st.1),(4,.osl 38 0 st.2.2.length)]) (fun st=>[(38,.arr .i64 st.2.2)]) ?_ ?_ ?_
 ·exact V.wk
 ·exact⟨jiB _,.inl (by dsimp only;omega),by simp[val],fun x hx=>by simp at hx,by dsimp only [List.length_nil];omega⟩
 rintro⟨e,m,out⟩ ⟨h1,h2,h3,h4,h5⟩
 dsimp only at h1 h2 h3 h4 h5 ⊢
 (conv=>whnf)
 refine V.st ?_
 refine V.br (fun hq=>?_) (fun hq=>?_)
 ·rw[decide_eq_true_eq] at hq
  have he:e=((m+j:Nat):Int):=by omega
  have hm0:0<m:=by omega
  subst he
  obtain⟨lo,hlo⟩:∃ lo,lo=m-4:=⟨_,rfl⟩
  have hmx:max (((m+j:Nat):Int)-4) (j:Int)=((lo+j:Nat):Int):=by omega
  have hch:=rdv_chunk d hd m h1
  rw[← hlo] at hch
  have hst:=jet (B:=10000) (by omega) h3
  rw[hch.1,hch.2] at hst
  have hbd:∀ i,lo+i≤m→rdv ((d.take (lo+i)).drop lo)<10000:=fun i hi=>by
   have hl1:((d.take (lo+i)).drop lo).length≤4:=by rw[jjo,ji9];omega
   have:=jeF (s:=(d.take (lo+i)).drop lo) (fun c hc=>hd c (jjf (jje hc)))
   have h2:(10:Nat)^((d.take (lo+i)).drop lo).length≤10^4:=jiR (by omega) hl1
   omega
  have hnx:∀ i,lo+i<m→rdv ((d.take (lo+(i+1))).drop lo)=rdv ((d.take (lo+i)).drop lo)*10+((d.getD (lo+i) 0).toNat-48):=fun i hi=>by
   rw[← Nat.add_assoc]
   exact rdv_next d lo (lo+i) (by omega) (by omega)
  have hx0:rdv ((d.take (lo+0)).drop lo)=0:=by
   have hnil:(d.take lo).drop lo=[]:=jjt (by rw[ji9];omega)
   rw[jiz,hnil];rfl
  refine V.r0 hmx ?_
  refine jaf (0:Nat) (fun i=>lo+i≤m) (fun i=>m-(lo+i)) (fun i=>[(7,.int .i64 ((lo+i+j:Nat):Int)),(6,.int .i64 ((rdv ((d.take (lo+i)).drop lo):Nat):Int))]) (fun _=>[]) ?_ ?_ ?_
  ·rw[hx0]
   exact V.wk
  ·show lo+0≤m
   omega
  intro i hi
  have hi2:=hbd i hi
  (conv=>whnf)
  refine V.st ?_
  refine V.br (fun hq2=>?_) (fun hq2=>?_)
  ·rw[decide_eq_true_eq] at hq2
   have hn2:=hnx i (by omega)
   have hgi:=hg (lo+i)
   have hdc:isDig (d.getD (lo+i) 0)=true:=hd _ (by rw[ji3,ji6 (by omega)];exact ji7 _)
   have hdl2:=(dig_lo _).1 hdc
   have hi3:=hbd (i+1) (by omega)
   generalize d.getD (lo+i) 0=c at *
   have hkt:((lo+i+j:Nat):Int).toNat=lo+i+j:=by omega
   have hkc:(((lo+i+j:Nat):Int)+1)=((lo+(i+1)+j:Nat):Int):=by omega
   have hsum:((rdv ((d.take (lo+i)).drop lo):Nat):Int)*10+((c.toNat:Int)-48)=((rdv ((d.take (lo+(i+1))).drop lo):Nat):Int):=by
    rw[hn2];omega
   refine V.r0 (V.a4 hkt hgi hkc hsum) ?_
   exact⟨i+1,by omega,by omega,V.wk⟩
  ·rw[decide_eq_false_iff_not] at hq2
   have hmi:lo+i=m:=by omega
   rw[hmi]
   have hl2:(out++[((rdv ((d.take m).drop lo):Nat):Int)]).length=out.length+1:=by simp
   have hl3:out.length+(List.take 1 (List.drop 0 [((rdv ((d.take m).drop lo):Nat):Int)])).length=(out++[((rdv ((d.take m).drop lo):Nat):Int)]).length:=by simp
   have hdg:Dg 10000 (out++[((rdv ((d.take m).drop lo):Nat):Int)]):=jag h4 (jar ⟨by omega,by have:=hbd i hi;rw[hmi] at this;omega⟩)
   refine V.r0 hl3 ?_
   try refine And.intro (fun _=>⟨trivial,by omega⟩) ?_
   refine V.r0 hl3 ?_
   exact⟨(((m+j:Nat):Int)-4,lo,out++[((rdv ((d.take m).drop lo):Nat):Int)]),⟨by dsimp only;omega,by dsimp only;omega,hst,hdg,by dsimp only;omega⟩,by dsimp only;omega,V.wk⟩
 ·rw[decide_eq_false_iff_not] at hq
  have hm0:m=0:=by omega
  subst hm0
  have hv:val 10000 out=((rdv d:Nat):Int):=by
   rw[List.take_zero,show rdv []=0 from rfl] at h3
   simpa using h3
  have hmd:=jeS neg out h4 (by omega)
  rw[hv] at hmd
  have e1:decide ((j:Int)=1)=neg:=by
   cases neg with
   | true=>rw[if_pos rfl] at hj;rw[hj];rfl
   | false=>rw[if_neg (by simp)] at hj;rw[hj];rfl
  (conv=>whnf)
  (try simp only[e1,jjs])
  repeat ((first|refine V.s1 ?_|((try ((with_reducible refine .ext ?_);(conv=>whnf);(try simp only[e1,jjs])));(with_reducible refine jaa (r:=?_) ?_ ?_);rotate_left;(focus (first|exact(hmd)));(conv=>whnf)));(try simp only[e1,jjs]))
  exact Fin.of rfl
theorem jbb (x y:Int)(hx:Sm 40000000 x)(hy:Sm 40000000 y):Cl 73 [plD x,plD y] (plD (x*y)):=by
 unfold Sm at hx hy
 have hl:=jbX (B:=10000) (by omega) x.natAbs y.natAbs
 have hp:=jeM (mg 10000 x.natAbs) (mg 10000 y.natAbs) (by omega) (by omega) (mg_dg (by omega) _) (fun j=>by
  have:=jaj (B:=10000) (by omega) (mg_dg (B:=10000) (by omega) y.natAbs) j
  omega)
 rw[jay (by omega),jay (by omega),← jiL,jiA] at hp
 have hm:=jde (!(decide (x<0) == decide (y<0))) (x.natAbs*y.natAbs) (by omega)
 have e:(if (!(decide (x<0) == decide (y<0)))=true then -((x.natAbs*y.natAbs:Nat):Int) else ((x.natAbs*y.natAbs:Nat):Int))=x*y:=by
  rw[jiL]
  by_cases h:x<0
  ·have e1:(x.natAbs:Int) = -x:=by omega
   by_cases h2:y<0
   ·have e2:(y.natAbs:Int) = -y:=by omega
    rw[e1,e2];simp[h,h2,Int.neg_mul_neg]
   ·have e2:(y.natAbs:Int)=y:=by omega
    rw[e1,e2];simp[h,h2,Int.neg_mul]
  ·have e1:(x.natAbs:Int)=x:=by omega
   by_cases h2:y<0
   ·have e2:(y.natAbs:Int) = -y:=by omega
    rw[e1,e2];simp[h,h2,Int.mul_neg]
   ·have e2:(y.natAbs:Int)=y:=by omega
    rw[e1,e2];simp[h,h2]
 rw[e] at hm
 rw[show plD x = .agg [.bool (decide (x<0)),.ints .i64 (mg 10000 x.natAbs)] from rfl,show plD y = .agg [.bool (decide (y<0)),.ints .i64 (mg 10000 y.natAbs)] from rfl]
 refine V.en tbOk Tryz.func73 ?_
 (conv=>whnf)
 refine V.st ?_
 refine⟨(V.tk [0,1,2,3,4,5,6,7,8] (V.e1 9 [4,3,2,1,0] (V.e1 10 [] (V.e1 11 [] .done)))),[],V.pok,.go (jab ?_)⟩
 (conv=>whnf)
 refine V.st ?_
 repeat ((try ((with_reducible refine .ext ?_);(conv=>whnf)));(with_reducible refine jaa (r:=?_) ?_ ?_);rotate_left;(focus (first|exact(hp)|exact(hm)));(conv=>whnf);refine V.st ?_)
 exact Fin.of rfl
theorem order01_c (x y:Int)(hx:Sm 80000000 x)(hy:Sm 80000000 y):Cl 117 [plD x,plD y] (.int .i64 (x-y).sign):=by
 have hm:=minus_c x y (hx.mono (by omega)) (hy.mono (by omega))
 have hn:=jce (B:=10000) (n:=(x-y).natAbs) (by omega)
 have hz:Sm 80000001 (x-y):=by rw[Int.sub_eq_add_neg];exact hx.add hy.neg
 unfold Sm at hz
 rw[show plD (x-y) = .agg [.bool (decide (x-y<0)),.ints .i64 (mg 10000 (x-y).natAbs)] from rfl] at hm
 generalize x-y=z at *
 generalize mg 10000 z.natAbs=xs at *
 refine V.en tbOk Tryz.func117 ?_
 (conv=>whnf)
 refine V.st ?_
 repeat ((try ((with_reducible refine .ext ?_);(conv=>whnf)));(with_reducible refine jaa (r:=?_) ?_ ?_);rotate_left;(focus (first|exact(hm)));(conv=>whnf);refine V.st ?_)
 refine V.br (fun hq=>?_) (fun hq=>?_)
 ·rw[decide_eq_true_eq] at hq
  (conv=>whnf)
  refine V.st ?_
  exact Fin.of (by rw[jiX hq])
 ·rw[decide_eq_false_iff_not] at hq
  (conv=>whnf)
  refine V.st ?_
  refine V.br (fun hq2=>?_) (fun hq2=>?_)
  ·rw[decide_eq_true_eq] at hq2
   have h0:z≠0:=fun e=>by
    have:=hn.2 (by rw[e];rfl)
    rw[this] at hq2;simp at hq2
   (conv=>whnf)
   refine V.st ?_
   exact Fin.of (by rw[jiY (by omega)])
  ·rw[decide_eq_false_iff_not] at hq2
   have h0:=hn.1 (ji4.1 (by omega))
   (conv=>whnf)
   refine V.st ?_
   exact Fin.of (by rw[show z=0 by omega];rfl)
def Q4 (k:Nat)(q:Rat):Prop:=Sm k q.num∧Sm k (q.den:Int)
theorem Q4.mono {k l:Nat}{q:Rat}(h:Q4 k q)(hl:k≤l):Q4 l q:=⟨h.1.mono hl,h.2.mono hl⟩
theorem Q4.neg {k:Nat}{q:Rat}(h:Q4 k q):Q4 k (-q):=⟨by rw[Rat.neg_num];exact h.1.neg,by rw[Rat.neg_den];exact h.2⟩
theorem Q4.of {k:Nat}{n d:Int}(hn:Sm k n)(hd:Sm k d)(hd0:d≠0):Q4 k (Rat.divInt n d):=by
 have h1:=jhG n d hd0
 have h2:=jhH n d hd0
 have h3:=jbA (if d<0 then -n else n) (Int.gcd (if d<0 then -n else n) (if d<0 then -d else d))
 have h4:=jbA (if d<0 then -d else d) (Int.gcd (if d<0 then -n else n) (if d<0 then -d else d))
 rw[h1] at h3
 rw[h2] at h4
 have e1:(if d<0 then -n else n).natAbs=n.natAbs:=by split<;>simp
 have e2:(if d<0 then -d else d).natAbs=d.natAbs:=by split<;>simp
 exact⟨hn.le (by omega),hd.le (by omega)⟩
theorem plN (n:Nat):plD (n:Int) = .agg [.bool false,.ints .i64 (mg 10000 n)]:=by
 unfold plD
 rw[decide_eq_false (by omega),jiQ]
theorem jfK (x y:Rat):x*y=Rat.divInt (x.num*y.num) ((x.den:Int)*(y.den:Int)):=by
 conv=>lhs;rw[← jiZ x,← jiZ y]
 rw[Rat.divInt_mul_divInt]
theorem jee (x:Rat):(x.den:Int)≠0:=by have:=x.den_pos;omega
theorem times02_c (x y:Rat)(hx:Q4 40000000 x)(hy:Q4 40000000 y):Cl 45 [raD x,raD y] (raD (x*y)):=by
 have h1:=jbb x.num y.num hx.1 hy.1
 have h2:=jbb x.den y.den hx.2 hy.2
 have h3:=jeq (x.num*y.num) ((x.den:Int)*(y.den:Int)) (hx.1.mul hy.1) (hx.2.mul hy.2) (Int.mul_ne_zero (jee x) (jee y))
 rw[← jfK] at h3
 rw[plN,plN] at h2
 refine V.en tbOk Tryz.func45 ?_
 (conv=>whnf)
 refine V.st ?_
 refine⟨(V.tk [0,1,2,3,5,6,7,8] (V.e1 4 [8,7,6,5] (V.e1 9 [] (V.e1 10 [] (V.e1 11 [] .done))))),[],V.pok,.go (jab ?_)⟩
 (conv=>whnf)
 refine V.st ?_
 repeat ((try ((with_reducible refine .ext ?_);(conv=>whnf)));(with_reducible refine jaa (r:=?_) ?_ ?_);rotate_left;(focus (first|exact(h1)|exact(h2)|exact(h3)));(conv=>whnf);refine V.st ?_)
 exact Fin.of rfl
theorem jcp (x y:Rat)(hx:Q4 40000000 x)(hy:Q4 40000000 y):Cl 54 [raD x,raD y] (.int .i64 (ordQ x y)):=by
 have h1:=jbb x.num y.den hx.1 hy.2
 have h2:=jbb y.num x.den hy.1 hx.2
 have h3:=order01_c (x.num*y.den) (y.num*x.den) (hx.1.mul hy.2) (hy.1.mul hx.2)
 rw[Int.sub_eq_add_neg,jeN] at h3
 rw[plN] at h1 h2
 refine V.en tbOk Tryz.func54 ?_
 (conv=>whnf)
 refine V.st ?_
 refine⟨(V.tk [0,1,2,3,5,6,7,8] (V.e1 4 [8,7,6,5] (V.e1 9 [] (V.e1 10 [] (V.tk [11] .done))))),[],V.pok,.go (jab ?_)⟩
 (conv=>whnf)
 refine V.st ?_
 repeat ((try ((with_reducible refine .ext ?_);(conv=>whnf)));(with_reducible refine jaa (r:=?_) ?_ ?_);rotate_left;(focus (first|exact(h1)|exact(h2)|exact(h3)));(conv=>whnf);refine V.st ?_)
 exact Fin.of rfl
theorem turn02_c (x:Rat)(hx:Q4 80000000 x):Cl 201 [raD x] (raD (-x)):=by
 have h1:=turn_c x.num (by have:=hx.1;unfold Sm at this;omega)
 have e:raD (-x) = .agg [.bool (decide (-x.num<0)),.ints .i64 (mg 10000 (-x.num).natAbs),.bool false,.ints .i64 (mg 10000 x.den)]:=by unfold raD;rw[Rat.neg_num,Rat.neg_den]
 rw[e]
 refine V.en tbOk Tryz.func201 ?_
 (conv=>whnf)
 refine V.st ?_
 refine⟨(V.tk [0,1,3,4] (V.e1 2 [4,3] (V.tk [5] (V.e1 6 [] .done)))),[],V.pok,.go (jab ?_)⟩
 (conv=>whnf)
 refine V.st ?_
 repeat ((try ((with_reducible refine .ext ?_);(conv=>whnf)));(with_reducible refine jaa (r:=?_) ?_ ?_);rotate_left;(focus (first|exact(h1)));(conv=>whnf);refine V.st ?_)
 exact Fin.of rfl
theorem Q4.mul {k l:Nat}{x y:Rat}(h:Q4 k x)(g:Q4 l y):Q4 (k+l) (x*y):=by
 rw[jfK]
 exact Q4.of (h.1.mul g.1) (h.2.mul g.2) (Int.mul_ne_zero (jee x) (jee y))
theorem jib (x y:Rat):x+y=Rat.divInt (x.num*y.den+y.num*x.den) ((x.den:Int)*(y.den:Int)):=by
 conv=>lhs;rw[← jiZ x,← jiZ y]
 rw[Rat.divInt_add_divInt _ _ (jee x) (jee y)]
theorem plus02_c (x y:Rat)(hx:Q4 30000000 x)(hy:Q4 30000000 y):Cl 43 [raD x,raD y] (raD (x+y)):=by
 have h1:=jbb x.num y.den (hx.1.mono (by omega)) (hy.2.mono (by omega))
 have h2:=jbb y.num x.den (hy.1.mono (by omega)) (hx.2.mono (by omega))
 have z1:Sm 60000000 (x.num*(y.den:Int)):=hx.1.mul hy.2
 have z2:Sm 60000000 (y.num*(x.den:Int)):=hy.1.mul hx.2
 have z3:Sm 60000000 ((x.den:Int)*(y.den:Int)):=hx.2.mul hy.2
 have h3:=jgR _ _ (z1.mono (by omega)) (z2.mono (by omega))
 have h4:=jbb x.den y.den (hx.2.mono (by omega)) (hy.2.mono (by omega))
 have h5:=jeq (x.num*y.den+y.num*x.den) ((x.den:Int)*(y.den:Int)) ((z1.add z2).mono (by omega)) (z3.mono (by omega)) (Int.mul_ne_zero (jee x) (jee y))
 rw[← jib] at h5
 rw[plN] at h1 h2
 rw[plN,plN] at h4
 generalize x.num*y.den+y.num*x.den=S at *
 clear z1 z2 z3
 refine V.en tbOk Tryz.func43 ?_
 (conv=>whnf)
 refine V.st ?_
 refine⟨(V.tk [0,1,2,3,5,6,7,8] (.ev (.cons 4 [8,7,6,5] (.ev (.cons 9 [] (.ev (.cons 10 [] (V.e1 11 [] (V.e1 12 [] .done)) (.cons 11 [] (V.e1 10 [] (V.e1 12 [] .done)) .nil))) (.cons 11 [8,7,6,5] (V.e1 9 [] (V.e1 10 [] (V.e1 12 [] .done))) .nil))) (.cons 11 [8,7,6,5,3,2,1,0] (V.e1 4 [8,7,6,5] (V.e1 9 [] (V.e1 10 [] (V.e1 12 [] .done)))) .nil)))),[],V.pok,?_⟩
 refine jas [(5,.box 5 0)] [(5,.box [.bool (decide (S<0)),.ints .i64 (mg 10000 S.natAbs)])] ?_ ?_
 ·exact V.d3 @jiy h1 h2 h3
 (conv=>whnf)
 refine V.st ?_
 refine⟨(V.tk [0,1,2,3,4] (V.e1 5 [0] (V.e1 6 [] (V.e1 7 [] .done)))),[],V.pok,.go (jab ?_)⟩
 (conv=>whnf)
 refine V.st ?_
 repeat ((try ((with_reducible refine .ext ?_);(conv=>whnf)));(with_reducible refine jaa (r:=?_) ?_ ?_);rotate_left;(focus (first|exact(h4)|exact(h5)));(conv=>whnf);refine V.st ?_)
 exact Fin.of rfl
theorem minus02_c (x y:Rat)(hx:Q4 30000000 x)(hy:Q4 30000000 y):Cl 202 [raD x,raD y] (raD (x-y)):=by
 have h1:=turn02_c y (hy.mono (by omega))
 have h2:=plus02_c x (-y) hx hy.neg
 rw[show x + -y=x-y from (Rat.sub_eq_add_neg x y).symm] at h2
 unfold raD at *
 refine V.en tbOk Tryz.func202 ?_
 (conv=>whnf)
 refine V.st ?_
 refine⟨Pq49z,[],V.pok,.go (jab ?_)⟩
 (conv=>whnf)
 refine V.st ?_
 repeat ((try ((with_reducible refine .ext ?_);(conv=>whnf)));(with_reducible refine jaa (r:=?_) ?_ ?_);rotate_left;(focus (first|exact(h1)|exact(h2)));(conv=>whnf);refine V.st ?_)
 exact Fin.of rfl
theorem jgN (s:List UInt8)(hs:s.length≤281474976710656):Cl 67 [.str s] (.bool (okW s)):=by
 obtain⟨d,j,neg,S,e1,_⟩:=sg_of s
 rw[e1]
 exact right01_g s d j neg S hs
theorem in01_c (s:List UInt8)(h:okW s=true):Cl 68 [.str s] (plD (wval s)):=by
 obtain⟨d,j,neg,S,e1,e2⟩:=sg_of s
 rw[e2]
 rw[e1] at h
 unfold okD at h
 simp only[jir,Bool.not_eq_true',jiK,decide_eq_false_iff_not,ji2] at h
 exact in01_g s d j neg S h.1.2 (by omega) (by have:=S.hl;omega)
theorem jdP {s:List UInt8}(h:okW s=true):Sm 151 (wval s):=by
 obtain⟨d,j,neg,S,e1,e2⟩:=sg_of s
 rw[e1] at h
 unfold okD at h
 simp only[jir,Bool.not_eq_true',jiK,decide_eq_false_iff_not,ji2] at h
 have hlt:=jeF (s:=d) h.1.2
 have h2:∀ k,d.length≤4*k→rdv d<10000^k:=fun k hk=>by
  refine jiH hlt ?_
  rw[show (10000:Nat)=10^4 from rfl,← Nat.pow_mul]
  exact jiR (by omega) hk
 have e:(wval s).natAbs=rdv d:=by
  rw[e2];split<;>omega
 unfold Sm
 rw[e]
 exact jap (by omega) (h2 151 (by omega))
theorem jbG (s t : List UInt8) (hs : s.length ≤ 281474976710656) (ht : t.length ≤ 281474976710656) : Cl 41 [.agg [.str s, .str t]] (.bool (okP s t)) := by
  have r1 := jgN s hs
  have r2 := jgN t ht
  by_cases h1 : okW s = true
  · rw [h1] at r1
    by_cases h2 : okW t = true
    · rw [h2] at r2
      have i1 := in01_c s h1
      have i2 := in01_c t h2
      have g1 := je8 (wval s) (wval t) ((jdP h1).mono (by omega)) ((jdP h2).mono (by omega))
      have hz := jce (B := 10000) (n := (wval t).natAbs) (by omega)
      have gl : Sm 151 (Int.gcd (wval s) (wval t) : Int) := by
        by_cases h0 : wval t = 0
        · rw [h0, Int.gcd_zero_right]
          exact (jdP h1).le (by omega)
        · exact (jdP h2).le (by
            rw [jiQ]
            exact Nat.le_of_dvd (by omega) (Int.ofNat_dvd_left.1 (Int.gcd_dvd_right _ _)))
      have x1 := text_c _ (gl.mono (by omega))
      have hp : okP s t = (decide (0 < wval t) && decide (decZ (Int.gcd (wval s) (wval t) : Int) = [49])) := by
        unfold okP
        rw [h1, h2, Bool.true_and, Bool.true_and]
        congr 1
        refine decide_eq_decide.2 ⟨fun h => ?_, fun h => ?_⟩
        · rw [show Int.gcd (wval s) (wval t) = 1 from h]; decide
        · have := jbk (Int.gcd (wval s) (wval t) : Int)
          rw [h] at this
          have e49 : wval [49] = 1 := by decide
          rw [e49] at this
          show Int.gcd (wval s) (wval t) = 1
          omega
      rw [hp]
      clear hp gl
      generalize wval s = x at *
      generalize wval t = y at *
      generalize (Int.gcd x y : Int) = g at *
      generalize decZ g = gt at *
      have hy : (decide (y < 0) || decide ((((mg 10000 y.natAbs).length : Nat) : Int) = 0)) = !decide (0 < y) := by
        rw [Bool.eq_iff_iff]
        simp only [jiJ, decide_eq_true_eq, Bool.not_eq_true', decide_eq_false_iff_not]
        constructor
        · rintro (h | h)
          · omega
          · have : mg 10000 y.natAbs = [] := ji4.1 (by omega)
            have := hz.1 this
            omega
        · intro h
          by_cases h0 : y < 0
          · exact .inl h0
          · right
            have : mg 10000 y.natAbs = [] := hz.2 (by omega)
            rw [this]; rfl
      unfold plD at *
      refine V.en tbOk Tryz.func41 ?_
      (conv => whnf)
      refine V.st ?_
      repeat ((try ((with_reducible refine .ext ?_); (conv => whnf))); (with_reducible refine jaa (r := ?_) ?_ ?_); rotate_left; (focus (first | exact (r1) | exact (r2))); (conv => whnf); refine V.st ?_)
      refine ⟨Pq44z, [], V.pok, ?_⟩
      refine jas [(3, .box 3 0), (4, .box 4 0)] [(3, .box [.bool (decide (x < 0)), .ints .i64 (mg 10000 x.natAbs)]), (4, .box [.bool (decide (y < 0)), .ints .i64 (mg 10000 y.natAbs)])] ?_ ?_
      · exact V.d2 @jiy i1 i2
      refine V.r0 hy ?_
      refine V.br (fun hq => ?_) (fun hq => ?_)
      · simp only [Bool.not_eq_true', decide_eq_false_iff_not] at hq
        rw [decide_eq_false hq, Bool.false_and]
        (conv => whnf)
        refine V.st ?_
        exact Fin.of rfl
      · simp only [Bool.not_eq_false', decide_eq_true_eq] at hq
        rw [decide_eq_true hq, Bool.true_and]
        (conv => whnf)
        refine V.st ?_
        repeat ((try ((with_reducible refine .ext ?_); (conv => whnf))); (with_reducible refine jaa (r := ?_) ?_ ?_); rotate_left; (focus (first | exact (g1) | exact (x1))); (conv => whnf); refine V.st ?_)
        exact Fin.of rfl
    · rw [Bool.eq_false_iff.2 h2] at r2
      have hp : okP s t = false := by unfold okP; rw [Bool.eq_false_iff.2 h2, Bool.and_false, Bool.false_and, Bool.false_and]
      rw [hp]
      refine V.en tbOk Tryz.func41 ?_
      (conv => whnf)
      refine V.st ?_
      repeat ((try ((with_reducible refine .ext ?_); (conv => whnf))); (with_reducible refine jaa (r := ?_) ?_ ?_); rotate_left; (focus (first | exact (r1) | exact (r2))); (conv => whnf); refine V.st ?_)
      exact Fin.of rfl
  · rw [Bool.eq_false_iff.2 h1] at r1
    have hp : okP s t = false := by unfold okP; rw [Bool.eq_false_iff.2 h1, Bool.false_and, Bool.false_and, Bool.false_and]
    rw [hp]
    refine V.en tbOk Tryz.func41 ?_
    (conv => whnf)
    refine V.st ?_
    repeat ((try ((with_reducible refine .ext ?_); (conv => whnf))); (with_reducible refine jaa (r := ?_) ?_ ?_); rotate_left; (focus (first | exact (r1) | exact (r2))); (conv => whnf); refine V.st ?_)
    refine V.br (fun hq => ?_) (fun hq => ?_)
    · (conv => whnf)
      refine V.st ?_
      exact Fin.of rfl
    · simp at hq
theorem q4_qv {s t:List UInt8}(h:okP s t=true):Q4 151 (qv s t):=by
 obtain⟨h1,h2,h3,h4⟩:=jeQ h
 obtain⟨p1,p2⟩:=jdw h
 exact⟨by rw[p1];exact jdP h1,by rw[p2];exact(jdP h2).le (by omega)⟩
theorem jeX (s t:List UInt8)(h:okP s t=true):Cl 44 [.agg [.str s,.str t]] (raD (qv s t)):=by
 obtain⟨h1,h2,h3,h4⟩:=jeQ h
 obtain⟨p1,p2⟩:=jdw h
 have i1:=in01_c s h1
 have i2:=in01_c t h2
 unfold raD
 rw[p1,p2]
 unfold plD at i1 i2
 rw[decide_eq_false (show ¬ wval t<0 by omega)] at i2
 refine V.en tbOk Tryz.func44 ?_
 (conv=>whnf)
 refine V.st ?_
 refine⟨(V.tk [0,1,3,4] (V.e1 2 [4,3] (V.e1 5 [] (V.tk [6] (V.e1 7 [] .done))))),[],V.pok,.go (jab ?_)⟩
 (conv=>whnf)
 refine V.st ?_
 repeat ((try ((with_reducible refine .ext ?_);(conv=>whnf)));(with_reducible refine jaa (r:=?_) ?_ ?_);rotate_left;(focus (first|exact(i1)|exact(i2)));(conv=>whnf);refine V.st ?_)
 exact Fin.of rfl
theorem jf6 (s t:List UInt8)(hs:s.length≤281474976710656)(ht:t.length≤281474976710656):Cl 62 [.agg [.str s,.str t]] (.int .i64 (if okP s t then 0 else 20)):=by
 have r1:=jbG s t hs ht
 by_cases h:okP s t=true
 ·rw[h] at r1 ⊢
  rw[if_pos rfl]
  refine V.en tbOk Tryz.func62 ?_
  (conv=>whnf)
  refine V.st ?_
  repeat ((try ((with_reducible refine .ext ?_);(conv=>whnf)));(with_reducible refine jaa (r:=?_) ?_ ?_);rotate_left;(focus (first|exact(r1)));(conv=>whnf);refine V.st ?_)
  exact Fin.of rfl
 ·rw[if_neg h]
  rw[Bool.eq_false_iff.2 h] at r1
  refine V.en tbOk Tryz.func62 ?_
  (conv=>whnf)
  refine V.st ?_
  repeat ((try ((with_reducible refine .ext ?_);(conv=>whnf)));(with_reducible refine jaa (r:=?_) ?_ ?_);rotate_left;(focus (first|exact(r1)));(conv=>whnf);refine V.st ?_)
  exact Fin.of rfl
theorem ja9 {s t:List UInt8}(h:okP s t=true):s.length≤281474976710656∧t.length≤281474976710656:=by
 obtain⟨h1,h2,_,_⟩:=jeQ h
 have l1:=(jcj h1).1
 have l2:=(jcj h2).1
 omega
theorem pow_4 (k:Nat):(10000:Nat)^k=10^(4*k):=by rw[show (10000:Nat)=10^4 from rfl,← Nat.pow_mul]
theorem sm_nat {x:Nat}{k:Nat}(hk:k≤90000000)(h:x<10^(4*k)):(mg 10000 x).length≤90000000:=
 jiC (jap (k:=k) (by omega) (by rw[pow_4];exact h)) hk
theorem radd (s t u v:List UInt8)(h:okP s t=true)(g:okP u v=true)(hn:Sm 90000000 (qv s t+qv u v).num)(hd:Sm 90000000 ((qv s t+qv u v).den:Int)):Cl 13 [.agg [.str s,.str t],.agg [.str u,.str v]] (frR (qv s t+qv u v)):=by
 have r1:=jbG s t (ja9 h).1 (ja9 h).2
 have r2:=jbG u v (ja9 g).1 (ja9 g).2
 rw[h] at r1
 rw[g] at r2
 have i1:=jeX s t h
 have i2:=jeX u v g
 have o:=plus02_c (qv s t) (qv u v) ((q4_qv h).mono (by omega)) ((q4_qv g).mono (by omega))
 have w:=jdd (qv s t+qv u v) hn hd
 generalize qv s t+qv u v=q at *
 generalize qv s t=q1 at *
 generalize qv u v=q2 at *
 unfold frR at w ⊢
 refine V.en tbOk Tryz.func13 ?_
 (conv=>whnf)
 refine V.st ?_
 repeat ((try ((with_reducible refine .ext ?_);(conv=>whnf)));(with_reducible refine jaa (r:=?_) ?_ ?_);rotate_left;(focus (first|exact(r1)|exact(r2)));(conv=>whnf);refine V.st ?_)
 refine⟨Pq52z,[],V.pok,.go (jab ?_)⟩
 (conv=>whnf)
 refine V.st ?_
 repeat ((try ((with_reducible refine .ext ?_);(conv=>whnf)));(with_reducible refine jaa (r:=?_) ?_ ?_);rotate_left;(focus (first|exact(i1)|exact(i2)|exact(o)|exact(w)));(conv=>whnf);refine V.st ?_)
 exact Fin.of rfl
theorem rsub (s t u v:List UInt8)(h:okP s t=true)(g:okP u v=true)(hn:Sm 90000000 (qv s t-qv u v).num)(hd:Sm 90000000 ((qv s t-qv u v).den:Int)):Cl 133 [.agg [.str s,.str t],.agg [.str u,.str v]] (frR (qv s t-qv u v)):=by
 have r1:=jbG s t (ja9 h).1 (ja9 h).2
 have r2:=jbG u v (ja9 g).1 (ja9 g).2
 rw[h] at r1
 rw[g] at r2
 have i1:=jeX s t h
 have i2:=jeX u v g
 have o:=minus02_c (qv s t) (qv u v) ((q4_qv h).mono (by omega)) ((q4_qv g).mono (by omega))
 have w:=jdd (qv s t-qv u v) hn hd
 generalize qv s t-qv u v=q at *
 generalize qv s t=q1 at *
 generalize qv u v=q2 at *
 unfold frR at w ⊢
 refine V.en tbOk Tryz.func133 ?_
 (conv=>whnf)
 refine V.st ?_
 repeat ((try ((with_reducible refine .ext ?_);(conv=>whnf)));(with_reducible refine jaa (r:=?_) ?_ ?_);rotate_left;(focus (first|exact(r1)|exact(r2)));(conv=>whnf);refine V.st ?_)
 refine⟨Pq52z,[],V.pok,.go (jab ?_)⟩
 (conv=>whnf)
 refine V.st ?_
 repeat ((try ((with_reducible refine .ext ?_);(conv=>whnf)));(with_reducible refine jaa (r:=?_) ?_ ?_);rotate_left;(focus (first|exact(i1)|exact(i2)|exact(o)|exact(w)));(conv=>whnf);refine V.st ?_)
 exact Fin.of rfl
theorem rmul (s t u v:List UInt8)(h:okP s t=true)(g:okP u v=true)(hn:Sm 90000000 (qv s t*qv u v).num)(hd:Sm 90000000 ((qv s t*qv u v).den:Int)):Cl 14 [.agg [.str s,.str t],.agg [.str u,.str v]] (frR (qv s t*qv u v)):=by
 have r1:=jbG s t (ja9 h).1 (ja9 h).2
 have r2:=jbG u v (ja9 g).1 (ja9 g).2
 rw[h] at r1
 rw[g] at r2
 have i1:=jeX s t h
 have i2:=jeX u v g
 have o:=times02_c (qv s t) (qv u v) ((q4_qv h).mono (by omega)) ((q4_qv g).mono (by omega))
 have w:=jdd (qv s t*qv u v) hn hd
 generalize qv s t*qv u v=q at *
 generalize qv s t=q1 at *
 generalize qv u v=q2 at *
 unfold frR at w ⊢
 refine V.en tbOk Tryz.func14 ?_
 (conv=>whnf)
 refine V.st ?_
 repeat ((try ((with_reducible refine .ext ?_);(conv=>whnf)));(with_reducible refine jaa (r:=?_) ?_ ?_);rotate_left;(focus (first|exact(r1)|exact(r2)));(conv=>whnf);refine V.st ?_)
 refine⟨Pq52z,[],V.pok,.go (jab ?_)⟩
 (conv=>whnf)
 refine V.st ?_
 repeat ((try ((with_reducible refine .ext ?_);(conv=>whnf)));(with_reducible refine jaa (r:=?_) ?_ ?_);rotate_left;(focus (first|exact(i1)|exact(i2)|exact(o)|exact(w)));(conv=>whnf);refine V.st ?_)
 exact Fin.of rfl
theorem y_one:Fq 1 1:=⟨by decide,by decide⟩
theorem jdO {n m:Int}(hn : -9223372036854775807≤n∧n≤9223372036854775807)(hm:1≤m∧m≤9223372036854775807):Fq 20 (Rat.divInt n m):=by
 obtain⟨d,rfl⟩:∃ d:Nat,m=d:=⟨m.toNat,by omega⟩
 exact je2 (by omega) (by omega) (by omega)
theorem y_of {n m:Int}(hn : -9223372036854775807≤n∧n≤9223372036854775807)(hm:1≤m∧m≤9223372036854775807):Cl 77 [.int .i64 n,.int .i64 m] (.tup [frT (Rat.divInt n m),.int .i64 0]):=by
 rw[← je1 ((jdO hn hm).ok (by omega) (by omega))]
 exact of_c n m (by simp[InR,V.lo,V.hi];omega) (by simp[InR,V.lo,V.hi];omega) (by omega)
theorem y_rof {n m:Int}(hn : -9223372036854775807≤n∧n≤9223372036854775807)(hm:1≤m∧m≤9223372036854775807):Cl 40 [.int .i64 n,.int .i64 m] (.tup [frT (Rat.divInt n m),.int .i64 0]):=by
 rw[← je1 ((jdO hn hm).ok (by omega) (by omega))]
 exact of02_c n m (by simp[InR,V.lo,V.hi];omega) (by simp[InR,V.lo,V.hi];omega) (by omega)
def sm (f:Nat→Rat):Nat→Rat
 | 0=>0
 | k+1=>sm f k+f k
theorem div_nz {N:Nat}(h:0<N):((N:Int):Rat)≠0:=by
 intro e
 have:(N:Int)=0:=by exact_mod_cast e
 omega
theorem rlt {N A B:Nat}(hN:0<N):(((A:Int):Rat)/((N:Int):Rat)<((B:Int):Rat)/((N:Int):Rat))↔A<B:=by
 have h1:(0:Rat)<((N:Int):Rat):=by exact_mod_cast (show (0:Int)<N by omega)
 rw[Rat.div_lt_iff h1,Rat.div_mul_cancel (div_nz hN)]
 constructor
 ·intro h
  have:(A:Int)<B:=by exact_mod_cast h
  omega
 ·intro h
  exact_mod_cast (show (A:Int)<B by omega)
def clQ (x:Rat):Rat:=if 1<(if x<0 then 0 else x) then 1 else (if x<0 then 0 else x)
def gp (s:Int)(x:Rat):Rat:=clQ x*((s-1:Int):Rat)
theorem jeI {n:Nat}{q:Rat}(h:Fq n q)(h0:0<n∧n≤600):Q9 20000000 q:=by
 obtain⟨h1,e1⟩:=jbg (h.ok h0.1 h0.2)
 have:=qsize h1
 rw[e1] at this
 exact this
theorem rd_q_p {n:Nat}{q:Rat}(h:Fq n q)(h0:0<n∧n≤600):Cl 75 [frT q] (.tup [rtD q,.bool true]):=by
 obtain⟨h1,e1⟩:=jbg (h.ok h0.1 h0.2)
 have r1:=jdR _ _ h1
 rw[e1] at r1
 exact r1
theorem jhO {n:Nat}{q:Rat}(h:Fq n q)(h0:0<n):Fq n (clQ q):=by
 have z:Fq n 0:=(show Fq 1 0 from ⟨by decide,by decide⟩).mono h0
 have o:Fq n 1:=y_one.mono h0
 unfold clQ
 by_cases h1:q<0
 ·rw[if_pos h1]
  split
  ·exact o
  ·exact z
 ·rw[if_neg h1]
  split
  ·exact o
  ·exact h
theorem fclamp_c_p {n:Nat}{q:Rat}(h:Fq n q)(h0:0<n∧n≤600):Cl 90 [frT q,frT 0,frT 1] (.tup [frT (clQ q),.int .i64 0]):=by
 have fz:Fq 1 0:=⟨by decide,by decide⟩
 have r0:=rd_q_p h h0
 have r1:=rd_q_p fz (by omega)
 have r2:=rd_q_p y_one (by omega)
 have q0:=jeI h h0
 have q1:=jeI fz (by omega)
 have q2:=jeI y_one (by omega)
 have od:=jgg 0 1 (q1.1.mono (by omega)) (q2.1.mono (by omega)) (by have:=q1.2;omega) (by have:=q2.2;omega)
 have e:ordQ 0 1 = -1:=by decide +kernel
 rw[e] at od
 have g:=jg5 q 0 q0 q1
 have q3:Q9 20000000 (if q<0 then 0 else q):=by
  split
  ·exact q1
  ·exact q0
 have l:=lesser_c (if q<0 then 0 else q) 1 q3 q2
 have fc:=jhO h h0.1
 have ec:(if 1<(if q<0 then 0 else q) then 1 else (if q<0 then 0 else q))=clQ q:=rfl
 rw[ec] at l
 have qc:=jeI fc h0
 have w:=jhj (clQ q) (by have:=qc.1;unfold S9 at this;omega) (by have:=qc.2;omega)
 rw[je1 (fc.ok h0.1 h0.2)] at w
 clear h fc ec e q0 q1 q2 q3 qc fz
 generalize clQ q=c at *
 generalize (if q<0 then 0 else q)=u at *
 generalize (0:Rat)=zz at *
 generalize (1:Rat)=oo at *
 unfold frT rtD at *
 refine V.en tbOk Tryz.func90 ?_
 refine V.r4 @jiy r0 r1 r2 od ?_
 refine⟨(V.tk [0,1,3] (V.e1 2 [3] (V.e1 4 [] (V.e1 5 [] (V.tk [6,7] (V.e1 8 [] (V.tk [9] .done))))))),[],V.pok,?_⟩
 refine jas [(7,.int .i64 0)] [(6,.box [.str (decZ c.num),.str (dec c.den)])] ?_ ?_
 ·exact V.d3 @jiy g l w
 refine V.r0 @jiy ?_
 exact Fin.of rfl
theorem nat_okF {n m:Nat}(h:(dec n).length≤m):n<10^m:=by
 have:=jeF (jfd n)
 rw[jhz] at this
 exact jiH this (jiR (by decide) h)
theorem jaS {q:Rat}(h:okF q=true):Fq 600 q:=by
 unfold okF at h
 simp only[jir,decide_eq_true_eq] at h
 unfold Fq
 generalize 600=m at *
 exact⟨nat_okF h.1,nat_okF h.2⟩
theorem mg_fq2 {n k:Nat}{q:Rat}(h:Fq n q)(h6:n≤9*k)(hk:k≤90000000):(mg 1000000000 q.num.natAbs).length≤90000000∧(mg 1000000000 q.den).length≤90000000:=by
 have h:=h.mono h6
 have e:(1000000000:Nat)^k=10^(9*k):=by rw[Nat.pow_mul]
 exact⟨jiC (jap (k:=k) (by omega) (by rw[e];exact h.1)) hk,jiC (jap (k:=k) (by omega) (by rw[e];exact h.2)) hk⟩
theorem rd_f {q:Rat}(h:okF q=true):Cl 75 [frT q] (.tup [rtD q,.bool true]):=rd_q_p (jaS h) (by omega)
theorem q9_f {q:Rat}(h:okF q=true):Q9 20000000 q:=jeI (jaS h) (by omega)
theorem wr_f {n:Nat}{q:Rat}(h:Fq n q)(h6:n≤9*200):Cl 173 [rtD q] (frR q):=jhj q (mg_fq2 h h6 (by omega)).1 (mg_fq2 h h6 (by omega)).2
theorem fadd_f {p q:Rat}(hp:okF p=true)(hq:okF q=true):Cl 79 [frT p,frT q] (frR (p+q)):=by
 have r1:=rd_f hp
 have r2:=rd_f hq
 have o:=add_c p q (q9_f hp) (q9_f hq)
 have w:=wr_f (q:=p+q) ((jaS hp).add (jaS hq)) (by omega)
 generalize (p+q)=r at *
 have ap:Cl 165 [frT p,frT q,.fn 166 [] []] (.tup [rtD r,.int .i64 0]):=by
  unfold frT at *
  refine V.en tbOk Tryz.func165 ?_
  (conv=>whnf)
  refine V.st ?_
  repeat ((try ((with_reducible refine .ext ?_);(conv=>whnf)));(with_reducible refine jaa (r:=?_) ?_ ?_);rotate_left;(focus (first|exact(r1)|exact(r2)|exact(o)));(conv=>whnf);refine V.st ?_)
  exact Fin.of rfl
 have rs:Cl 164 [rtD r,.int .i64 0] (frR r):=by
  refine V.en tbOk Tryz.func164 ?_
  (conv=>whnf)
  refine V.st ?_
  repeat ((try ((with_reducible refine .ext ?_);(conv=>whnf)));(with_reducible refine jaa (r:=?_) ?_ ?_);rotate_left;(focus (first|exact(w)));(conv=>whnf);refine V.st ?_)
  exact Fin.of rfl
 unfold frT at *
 refine V.en tbOk Tryz.func79 ?_
 (conv=>whnf)
 refine V.st ?_
 repeat ((try ((with_reducible refine .ext ?_);(conv=>whnf)));(with_reducible refine jaa (r:=?_) ?_ ?_);rotate_left;(focus (first|exact(ap)|exact(rs)));(conv=>whnf);refine V.st ?_)
 exact Fin.of rfl
theorem fsub_f {p q:Rat}(hp:okF p=true)(hq:okF q=true):Cl 80 [frT p,frT q] (frR (p-q)):=by
 have r1:=rd_f hp
 have r2:=rd_f hq
 have o:=sub_c p q (q9_f hp) (q9_f hq)
 have w:=wr_f (q:=p-q) ((jaS hp).sub (jaS hq)) (by omega)
 generalize (p-q)=r at *
 have ap:Cl 165 [frT p,frT q,.fn 167 [] []] (.tup [rtD r,.int .i64 0]):=by
  unfold frT at *
  refine V.en tbOk Tryz.func165 ?_
  (conv=>whnf)
  refine V.st ?_
  repeat ((try ((with_reducible refine .ext ?_);(conv=>whnf)));(with_reducible refine jaa (r:=?_) ?_ ?_);rotate_left;(focus (first|exact(r1)|exact(r2)|exact(o)));(conv=>whnf);refine V.st ?_)
  exact Fin.of rfl
 have rs:Cl 164 [rtD r,.int .i64 0] (frR r):=by
  refine V.en tbOk Tryz.func164 ?_
  (conv=>whnf)
  refine V.st ?_
  repeat ((try ((with_reducible refine .ext ?_);(conv=>whnf)));(with_reducible refine jaa (r:=?_) ?_ ?_);rotate_left;(focus (first|exact(w)));(conv=>whnf);refine V.st ?_)
  exact Fin.of rfl
 unfold frT at *
 refine V.en tbOk Tryz.func80 ?_
 (conv=>whnf)
 refine V.st ?_
 repeat ((try ((with_reducible refine .ext ?_);(conv=>whnf)));(with_reducible refine jaa (r:=?_) ?_ ?_);rotate_left;(focus (first|exact(ap)|exact(rs)));(conv=>whnf);refine V.st ?_)
 exact Fin.of rfl
theorem fmul_f {p q:Rat}(hp:okF p=true)(hq:okF q=true):Cl 81 [frT p,frT q] (frR (p*q)):=by
 have r1:=rd_f hp
 have r2:=rd_f hq
 have o:=mul_c p q (q9_f hp) (q9_f hq)
 have w:=wr_f (q:=p*q) ((jaS hp).mul (jaS hq)) (by omega)
 generalize (p*q)=r at *
 have ap:Cl 165 [frT p,frT q,.fn 168 [] []] (.tup [rtD r,.int .i64 0]):=by
  unfold frT at *
  refine V.en tbOk Tryz.func165 ?_
  (conv=>whnf)
  refine V.st ?_
  repeat ((try ((with_reducible refine .ext ?_);(conv=>whnf)));(with_reducible refine jaa (r:=?_) ?_ ?_);rotate_left;(focus (first|exact(r1)|exact(r2)|exact(o)));(conv=>whnf);refine V.st ?_)
  exact Fin.of rfl
 have rs:Cl 164 [rtD r,.int .i64 0] (frR r):=by
  refine V.en tbOk Tryz.func164 ?_
  (conv=>whnf)
  refine V.st ?_
  repeat ((try ((with_reducible refine .ext ?_);(conv=>whnf)));(with_reducible refine jaa (r:=?_) ?_ ?_);rotate_left;(focus (first|exact(w)));(conv=>whnf);refine V.st ?_)
  exact Fin.of rfl
 unfold frT at *
 refine V.en tbOk Tryz.func81 ?_
 (conv=>whnf)
 refine V.st ?_
 repeat ((try ((with_reducible refine .ext ?_);(conv=>whnf)));(with_reducible refine jaa (r:=?_) ?_ ?_);rotate_left;(focus (first|exact(ap)|exact(rs)));(conv=>whnf);refine V.st ?_)
 exact Fin.of rfl
theorem fq_if {n:Nat}{p q:Rat}{c:Prop}[Decidable c](h:Fq n p)(g:Fq n q):Fq n (if c then p else q):=by split<;>assumption
theorem fmin_f {p q:Rat}(hp:okF p=true)(hq:okF q=true):Cl 82 [frT p,frT q] (frR (if q<p then q else p)):=by
 have r1:=rd_f hp
 have r2:=rd_f hq
 have o:=lesser_c p q (q9_f hp) (q9_f hq)
 have w:=wr_f (q:=if q<p then q else p) (fq_if (jaS hq) (jaS hp)) (by omega)
 generalize (if q<p then q else p)=r at *
 have ap:Cl 165 [frT p,frT q,.fn 169 [] []] (.tup [rtD r,.int .i64 0]):=by
  unfold frT at *
  refine V.en tbOk Tryz.func165 ?_
  (conv=>whnf)
  refine V.st ?_
  repeat ((try ((with_reducible refine .ext ?_);(conv=>whnf)));(with_reducible refine jaa (r:=?_) ?_ ?_);rotate_left;(focus (first|exact(r1)|exact(r2)|exact(o)));(conv=>whnf);refine V.st ?_)
  exact Fin.of rfl
 have rs:Cl 164 [rtD r,.int .i64 0] (frR r):=by
  refine V.en tbOk Tryz.func164 ?_
  (conv=>whnf)
  refine V.st ?_
  repeat ((try ((with_reducible refine .ext ?_);(conv=>whnf)));(with_reducible refine jaa (r:=?_) ?_ ?_);rotate_left;(focus (first|exact(w)));(conv=>whnf);refine V.st ?_)
  exact Fin.of rfl
 unfold frT at *
 refine V.en tbOk Tryz.func82 ?_
 (conv=>whnf)
 refine V.st ?_
 repeat ((try ((with_reducible refine .ext ?_);(conv=>whnf)));(with_reducible refine jaa (r:=?_) ?_ ?_);rotate_left;(focus (first|exact(ap)|exact(rs)));(conv=>whnf);refine V.st ?_)
 exact Fin.of rfl
theorem fmax_f {p q:Rat}(hp:okF p=true)(hq:okF q=true):Cl 83 [frT p,frT q] (frR (if p<q then q else p)):=by
 have r1:=rd_f hp
 have r2:=rd_f hq
 have o:=jg5 p q (q9_f hp) (q9_f hq)
 have w:=wr_f (q:=if p<q then q else p) (fq_if (jaS hq) (jaS hp)) (by omega)
 generalize (if p<q then q else p)=r at *
 have ap:Cl 165 [frT p,frT q,.fn 170 [] []] (.tup [rtD r,.int .i64 0]):=by
  unfold frT at *
  refine V.en tbOk Tryz.func165 ?_
  (conv=>whnf)
  refine V.st ?_
  repeat ((try ((with_reducible refine .ext ?_);(conv=>whnf)));(with_reducible refine jaa (r:=?_) ?_ ?_);rotate_left;(focus (first|exact(r1)|exact(r2)|exact(o)));(conv=>whnf);refine V.st ?_)
  exact Fin.of rfl
 have rs:Cl 164 [rtD r,.int .i64 0] (frR r):=by
  refine V.en tbOk Tryz.func164 ?_
  (conv=>whnf)
  refine V.st ?_
  repeat ((try ((with_reducible refine .ext ?_);(conv=>whnf)));(with_reducible refine jaa (r:=?_) ?_ ?_);rotate_left;(focus (first|exact(w)));(conv=>whnf);refine V.st ?_)
  exact Fin.of rfl
 unfold frT at *
 refine V.en tbOk Tryz.func83 ?_
 (conv=>whnf)
 refine V.st ?_
 repeat ((try ((with_reducible refine .ext ?_);(conv=>whnf)));(with_reducible refine jaa (r:=?_) ?_ ?_);rotate_left;(focus (first|exact(ap)|exact(rs)));(conv=>whnf);refine V.st ?_)
 exact Fin.of rfl
theorem jdW {q:Rat}(h:okF q=true):okF (-q)=true:=by
 unfold okF at *
 rw[Rat.neg_num,Rat.neg_den,Int.natAbs_neg];exact h
theorem jgW {p q:Rat}{c:Prop}[Decidable c](h:okF p=true)(g:okF q=true):okF (if c then p else q)=true:=by split<;>assumption
theorem fneg_f {q:Rat}(h:okF q=true):Cl 85 [frT q] (.tup [frT (-q),.int .i64 0]):=by
 have r1:=rd_f h
 have n1:=jgY q
 have w:=wr_f (jaS h).neg (by omega)
 rw[je1 (jdW h)] at w
 generalize -q=r at *
 unfold frT at *
 refine V.en tbOk Tryz.func85 ?_
 (conv=>whnf)
 refine V.st ?_
 repeat ((try ((with_reducible refine .ext ?_);(conv=>whnf)));(with_reducible refine jaa (r:=?_) ?_ ?_);rotate_left;(focus (first|exact(r1)));(conv=>whnf);refine V.st ?_)
 (conv=>whnf)
 refine V.st ?_
 repeat ((try ((with_reducible refine .ext ?_);(conv=>whnf)));(with_reducible refine jaa (r:=?_) ?_ ?_);rotate_left;(focus (first|exact(n1)|exact(w)));(conv=>whnf);refine V.st ?_)
 exact Fin.of rfl
def absQ (q:Rat):Rat:=if q.num<0 then -q else q
theorem jdX {q:Rat}(h:okF q=true):okF (absQ q)=true:=jgW (jdW h) h
theorem fabs_f {q:Rat}(h:okF q=true):Cl 86 [frT q] (.tup [frT (absQ q),.int .i64 0]):=by
 have r1:=rd_f h
 have w:=wr_f (jaS (jdX h)) (by omega)
 rw[je1 (jdX h)] at w
 have s1:=ja2 q.num.natAbs false
 have e1:(absQ q).num.natAbs=q.num.natAbs:=by
  unfold absQ;split
  ·rw[Rat.neg_num,Int.natAbs_neg]
  ·rfl
 have e2:(absQ q).den=q.den:=by
  unfold absQ;split
  ·rw[Rat.neg_den]
  ·rfl
 have e3:decide ((absQ q).num<0)=false:=by
  unfold absQ;split
  ·rw[Rat.neg_num];exact decide_eq_false (by omega)
  ·exact decide_eq_false (by omega)
 unfold rtD at r1 w
 rw[e1,e2,e3] at w
 generalize absQ q=r at *
 unfold frT at *
 refine V.en tbOk Tryz.func86 ?_
 (conv=>whnf)
 refine V.st ?_
 repeat ((try ((with_reducible refine .ext ?_);(conv=>whnf)));(with_reducible refine jaa (r:=?_) ?_ ?_);rotate_left;(focus (first|exact(r1)));(conv=>whnf);refine V.st ?_)
 (conv=>whnf)
 refine V.st ?_
 refine⟨(V.tk [0,1,2,4,5] (V.e1 3 [5,4] (V.tk [6] (V.e1 7 [] (V.tk [8,9] (V.e1 10 [] (V.tk [11] .done))))))),[],V.pok,.go (jab ?_)⟩
 (conv=>whnf)
 refine V.st ?_
 repeat ((try ((with_reducible refine .ext ?_);(conv=>whnf)));(with_reducible refine jaa (r:=?_) ?_ ?_);rotate_left;(focus (first|exact(s1)|exact(w)));(conv=>whnf);refine V.st ?_)
 exact Fin.of rfl
theorem fsign_f {q:Rat}(hq:okF q=true):Cl 88 [frT q] (.tup [.int .i64 q.num.sign,.int .i64 0]):=by
 obtain⟨h,e1⟩:=jbg hq
 have r1:=jdR _ _ h
 rw[e1] at r1
 have sg:=sign_c q.num
 unfold rtD at r1
 unfold itD at sg
 unfold frT
 refine V.en tbOk Tryz.func88 ?_
 (conv=>whnf)
 refine V.st ?_
 repeat ((try ((with_reducible refine .ext ?_);(conv=>whnf)));(with_reducible refine jaa (r:=?_) ?_ ?_);rotate_left;(focus (first|exact(r1)));(conv=>whnf);refine V.st ?_)
 (conv=>whnf)
 refine V.st ?_
 repeat ((try ((with_reducible refine .ext ?_);(conv=>whnf)));(with_reducible refine jaa (r:=?_) ?_ ?_);rotate_left;(focus (first|exact(sg)));(conv=>whnf);refine V.st ?_)
 exact Fin.of rfl
theorem jgc (p:List (Int×Int))(i o:Int):Cl 25 [opsD p,.int .i64 i,.int .i64 o] (.int .i64 (if (surv p i o).isSome then 0 else 120)):=by
 have s:=survey_c p i o
 refine V.en tbOk Tryz.func25 ?_
 (conv=>whnf)
 refine V.st ?_
 repeat ((try ((with_reducible refine .ext ?_);(conv=>whnf)));(with_reducible refine jaa (r:=?_) ?_ ?_);rotate_left;(focus (first|exact(s)));(conv=>whnf);refine V.st ?_)
 exact Fin.of rfl
theorem pdepth_c (p:List (Int×Int))(i o:Int):Cl 27 [opsD p,.int .i64 i,.int .i64 o] (.tup [.int .i64 ((surv p i o).getD 0),.int .i64 (if (surv p i o).isSome then 0 else 120)]):=by
 have s:=survey_c p i o
 refine V.en tbOk Tryz.func27 ?_
 (conv=>whnf)
 refine V.st ?_
 repeat ((try ((with_reducible refine .ext ?_);(conv=>whnf)));(with_reducible refine jaa (r:=?_) ?_ ?_);rotate_left;(focus (first|exact(s)));(conv=>whnf);refine V.st ?_)
 exact Fin.of rfl
theorem jgC (f:Nat):Cl 78 [.fn f [] []] (.fn 163 [] [.ref [.fn f [] []]]):=by
 refine V.en tbOk Tryz.func78 ?_
 (conv=>whnf)
 refine V.st ?_
 exact Fin.of rfl
theorem oneF_c (f:Nat):Cl 84 [.fn f [] []] (.fn 171 [] [.ref [.fn f [] []]]):=by
 refine V.en tbOk Tryz.func84 ?_
 (conv=>whnf)
 refine V.st ?_
 exact Fin.of rfl
theorem numF_c (n:Int)(h : -1000000000≤n∧n≤1000000000):Cl 76 [.int .i64 n] (.tup [frT (Rat.divInt n 1000000),.int .i64 0]):=by
 have c:=y_of (n:=n) (m:=1000000) (by omega) (by omega)
 unfold frT at *
 generalize Rat.divInt n 1000000=q at *
 refine V.en tbOk Tryz.func76 ?_
 (conv=>whnf)
 refine V.st ?_
 repeat ((try ((with_reducible refine .ext ?_);(conv=>whnf)));(with_reducible refine jaa (r:=?_) ?_ ?_);rotate_left;(focus (first|exact(c)));(conv=>whnf);refine V.st ?_)
 exact Fin.of rfl
theorem clF_c {q:Rat}(h:okF q=true):Cl 89 [frT q] (.tup [frT (clQ q),.int .i64 0]):=by
 have c:=fclamp_c_p (jaS h) (by omega)
 have e0:frT 0 = .agg [.str [48],.str [49]]:=by unfold frT;rw[show decZ (0:Rat).num=[48] by decide +kernel,show dec (0:Rat).den=[49] by decide +kernel]
 have e1:frT 1 = .agg [.str [49],.str [49]]:=by unfold frT;rw[show decZ (1:Rat).num=[49] by decide +kernel,show dec (1:Rat).den=[49] by decide +kernel]
 rw[e0,e1] at c
 unfold frT at *
 generalize clQ q=r at *
 refine V.en tbOk Tryz.func89 ?_
 (conv=>whnf)
 refine V.st ?_
 repeat ((try ((with_reducible refine .ext ?_);(conv=>whnf)));(with_reducible refine jaa (r:=?_) ?_ ?_);rotate_left;(focus (first|exact(c)));(conv=>whnf);refine V.st ?_)
 exact Fin.of rfl
end Go.Proofs.YtpkdedncgclblaaGreatDoor
end
section
namespace Go.V
open Go Go.RowKit
def Env.alias2 (E:Env)(i j:Nat):Env:=⟨fun x=>if x=j then E.blk i else E.blk x,fun x=>if x=j then E.siz i else E.siz x,fun x=>if x=j then E.kn i else E.kn x,fun x=>if x=j then E.real i else E.real x,fun x=>if x=j then E.lpr i else E.lpr x⟩
theorem Env.off_alias2 (E:Env)(i j:Nat):E.off (E.alias2 i j) j:=fun k hk=>by simp[Env.alias2,hk]
section
variable {cx : Cx} {E : Env} {h : Pub} {a : Act} {w : World} {L : Sl} {H : Hp}
theorem Sat.renBx (S:Sat cx E h a w L H){i j:Nat}{es:List D}(hij:i≠j)(hoff':cx.off≤j)(hfr:D.freeL j es=true)(hi:lookH H i=some (.box es)) :
  Sat cx (E.alias2 i j) h a w (purge j L) ((j,.box es)::(i,.gone)::jaC j H):=by
 have hoff:=E.off_alias2 i j
 have ej:(E.alias2 i j).blk j=E.blk i∧(E.alias2 i j).siz j=E.siz i∧(E.alias2 i j).kn j=E.kn i∧(E.alias2 i j).real j=E.real i:=by simp[Env.alias2]
 have ne:∀ x,x≠j→(E.alias2 i j).blk x=E.blk x∧(E.alias2 i j).real x=E.real x:=fun x hx=>⟨(hoff x hx).1,(hoff x hx).2.2.2.1⟩
 have live:∀ x c',x≠j→lookH ((j,.box es)::(i,.gone)::jaC j H) x=some c'→c'.live=true→x≠i ∧ ∃ c0,lookH H x=some c0∧c'=jcd j c0∧c0.live=true:=by
  intro x c' hx hc' hl
  rw[jad,if_neg (Ne.symm hx),jad] at hc'
  by_cases hxi:i=x
  ·rw[if_pos hxi] at hc';cases hc';cases hl
  ·rw[if_neg hxi] at hc'
   obtain⟨c0,h1,h2⟩:=jbh hc'
   exact⟨Ne.symm hxi,c0,h1,h2,by rw[h2,jbf] at hl;exact hl⟩
 have atj:∀ c',lookH ((j,.box es)::(i,.gone)::jaC j H) j=some c'→c' = .box es:=fun c' hc'=>by
  rw[jad,if_pos rfl] at hc';cases hc';rfl
 refine { knows:=?_,mem:=?_,agree:=S.agree,since:=S.since,low:=fun x hx=>jeT S.low hoff hoff' x hx,side:=S.side }
 ·exact fun t=>jbY hoff (S.knows t)
 ·refine { ok:=?_,base:=?_,unpub:=?_,inj:=?_ }
  ·intro x c' hc'
   by_cases hx:x=j
   ·subst hx
    rw[atj c' hc']
    obtain⟨h1,vs,rest,T,h2,h3,h4,h5⟩:=S.mem.ok i _ hi
    exact⟨by rw[ej.2.2.2];exact h1,vs,rest,T,by rw[ej.1];exact h2,DenL.env hoff hfr h3,h4,by rw[ej.2.1];exact h5⟩
   ·cases hl:c'.live with
    | false=>cases c'<;>first|trivial|(simp[Chunk.live] at hl)
    | true=>
     obtain⟨_,c0,h1,rfl,hl'⟩:=live x c' hx hc' hl
     exact ChunkOk.env hoff hx (S.mem.ok x _ h1)
  ·intro x c' hc' hl hr
   by_cases hx:x=j
   ·subst hx
    rw[ej.2.2.2] at hr
    rw[ej.1]
    exact S.mem.base i _ hi rfl hr
   ·obtain⟨_,c0,h1,rfl,hl'⟩:=live x c' hx hc' hl
    rw[(ne x hx).2] at hr
    rw[(ne x hx).1]
    exact S.mem.base x _ h1 hl' hr
  ·intro x c' hc' hl hr o
   by_cases hx:x=j
   ·subst hx
    rw[ej.2.2.2] at hr
    rw[ej.1]
    exact S.mem.unpub i _ hi rfl hr o
   ·obtain⟨_,c0,h1,rfl,hl'⟩:=live x c' hx hc' hl
    rw[(ne x hx).2] at hr
    rw[(ne x hx).1]
    exact S.mem.unpub x _ h1 hl' hr o
  ·intro x y c1 c2 hxy h1 h2 l1 l2 r1 r2
   by_cases hx:x=j
   ·subst hx
    obtain⟨hyi,c0',g2,rfl,l2'⟩:=live y c2 (Ne.symm hxy) h2 l2
    rw[ej.2.2.2] at r1
    rw[(ne y (Ne.symm hxy)).2] at r2
    rw[ej.1,(ne y (Ne.symm hxy)).1]
    exact S.mem.inj i y _ _ (Ne.symm hyi) hi g2 rfl l2' r1 r2
   ·obtain⟨hxi,c0,g1,rfl,l1'⟩:=live x c1 hx h1 l1
    rw[(ne x hx).2] at r1
    rw[(ne x hx).1]
    by_cases hy:y=j
    ·subst hy
     rw[ej.2.2.2] at r2
     rw[ej.1]
     exact S.mem.inj x i _ _ hxi g1 hi l1' rfl r1 r2
    ·obtain⟨hyi,c0',g2,rfl,l2'⟩:=live y c2 hy h2 l2
     rw[(ne y hy).2] at r2
     rw[(ne y hy).1]
     exact S.mem.inj x y _ _ hxy g1 g2 l1' l2' r1 r2
end
theorem Wk.renB {off:Nat}{L:Sl}{H:Hp}{L2:Sl}{H2:Hp}(i j b p n e:Nat){es:List D}{ds:List D}(hij:i≠j)(hb:b≠i∧b≠j)(hoff:off≤j)(hfr:D.freeL j es=true)(hi:lookH H i=some (.box es))(hj:lookH (jaC j H) b=some (.box ds))(hp:ds[p]? = some (.bsl i 0 n e))
  (h:Wk off (purge j L) ((b,.box (ds.set p (.bsl j 0 n e)))::(j,.box es)::(i,.gone)::jaC j H) L2 H2):Wk off L H L2 H2:=by
 refine⟨fun cx E h' a w e' S=>?_⟩
 subst e'
 have S1:=S.renBx hij hoff hfr hi
 have hb1:lookH ((j,.box es)::(i,.gone)::jaC j H) b=some (.box ds):=by
  rw[jad,if_neg (Ne.symm hb.2),jad,if_neg (Ne.symm hb.1)];exact hj
 have fe:∀ v,Den (E.alias2 i j) h' (.bsl i 0 n e) v→Den (E.alias2 i j) h' (.bsl j 0 n e) v:=fun v hv=>by
  simp only[Den,Env.alias2,if_true,if_neg hij] at hv ⊢
  exact hv
 refine h.out cx (E.alias2 i j) h' a w rfl (S1.rechunk hb1 rfl ?_)
 obtain⟨h1,vs,rest,T,h2,h3,h4⟩:=S1.mem.ok b _ hb1
 exact⟨h1,vs,rest,T,h2,denL_set h3 hp fe,h4⟩
theorem Wk.trim {off:Nat}{L:Sl}{H:Hp}{L2:Sl}{H2:Hp}(i n:Nat){ds:List D}(hi:lookH H i=some (.box ds))(h:Wk off L ((i,.box (ds.take n))::H) L2 H2):Wk off L H L2 H2:=by
 refine⟨fun cx E h' a w e' S=>?_⟩
 refine h.out cx E h' a w e' (S.rechunk hi rfl ?_)
 obtain⟨h1,vs,rest,T,h2,h3,h4,h5⟩:=S.mem.ok i _ hi
 refine⟨h1,vs.take n,vs.drop n++rest,T,?_,h3.take n,fun v hv=>h4 v (jjf hv),?_⟩
 ·rw[h2]
  congr 2
  apply Array.toList_inj.1
  simp only[← jja,jjb]
 ·rw[h5]
  have:vs.length=(vs.take n).length+(vs.drop n).length:=by rw[← ji8,jjb]
  simp only[ji8];omega
theorem Wk.same {off:Nat}{L:Sl}{H:Hp}{L2:Sl}{H2:Hp}(i:Nat){ds es:List D}(hi:lookH H i=some (.box ds))(he:ds=es)(h:Wk off L ((i,.box es)::H) L2 H2):Wk off L H L2 H2:=by
 refine⟨fun cx E h' a w e' S=>?_⟩
 subst he
 exact h.out cx E h' a w e' (S.rechunk hi rfl (S.mem.ok i _ hi))
end Go.V
end
section
namespace Go.Proofs.YtpkdedncgclblaaGreatDoor
open Go Go.V Go.Nb
def jaF:Code→Option Code
 | .loop b=>some b
 | .seq a b=>match jaF a with|some c=>some c|none=>jaF b
 | .block _ b=>jaF b
 | .scope b=>jaF b
 | _=>none
abbrev slM (p:List (Int×Int))(k:Nat):Sl:=[(0,.box 58 0),(1,opsD p),(6,.mapr 114),(7,.int .i64 k),(4,.box 64 0),(5,.box 65 0)]
abbrev slE:Sl:=[(4,.box 64 0),(5,.box 65 0)]
abbrev hpE:Hp:=[(64,.box [.nil]),(65,.box [.int .i64 0])]
theorem jaO {n:Nat}(h:n≤16):Nat.ble (n+1) 1000000=true:=by rw[ji0];omega
def fcl:List Rat→List D
 | []=>[]
 | q::l => .str (decZ q.num) :: .str (dec q.den)::fcl l
theorem jgt (l m:List Rat):fcl (l++m)=fcl l++fcl m:=by
 induction l with
 | nil=>rfl
 | cons q l ih=>simp[fcl,ih]
theorem jb7 (l:List Rat):(fcl l).length=l.length*2:=by
 induction l with
 | nil=>rfl
 | cons q l ih=>simp only[fcl,jji,ih];omega
theorem jcK (l:List Rat):Nat.beq (fcl l).length (l.length*2)=true:=by rw[jb7];exact jip _
theorem jbI (l:List Rat)(i:Nat)(K:List D→Prop):jbR i (fcl l) K=K (fcl l):=by
 have e:∀ m:List Rat,jbw i (fcl m)=fcl m:=fun m=>by
  induction m with
  | nil=>rfl
  | cons q m ih=>simp only[fcl,jbw,D.free,ih]
 rw[jcC,e]
theorem jc6 (l r:List Rat):(fcl (l++r)).take (l.length*2)=fcl l:=by
 rw[jgt,List.take_append_of_le_length (by rw[jb7];omega),jjl (by rw[jb7];omega)]
theorem jbB (l:List Rat)(S T:List UInt8)(i:Nat):D.freeL i (fcl l++[.str S,.str T])=true:=by
 induction l with
 | nil=>rfl
 | cons q l ih=>simp only[fcl,ji1,D.freeL,D.free];exact ih
theorem jbC (r:List Rat)(K:List D→Prop):∀ l:List Rat,dropK (fcl (l++r)) (l.length*2) K=K (fcl r)
 | []=>by simp only[jjg,List.length_nil,Nat.zero_mul,dropK]
 | q::l=>by
  have e:(q::l).length*2=l.length*2+1+1:=by simp only[jji];omega
  rw[e]
  simp only[ji1,fcl,dropK]
  exact jbC r K l
theorem je4 (l r:List Rat)(u:Rat)(K:List D→Prop):dropK (fcl (l++u::r)) (l.length*2+2) K=K (fcl r):=by
 have:=jbC r K (l++[u])
 rw[jja,ji8,Nat.add_mul] at this
 exact this
theorem jhb (l r:List Rat)(u v:Rat)(K:List D→Prop):dropK (fcl (l++u::v::r)) (l.length*2+4) K=K (fcl r):=by
 have:=jbC r K (l++[u,v])
 rw[jja,ji8,Nat.add_mul] at this
 exact this
abbrev inF (x:List Rat):D := .slf 2 x.length (fun j=>[.str (decZ (x.getD j 0).num),.str (dec (x.getD j 0).den)])
abbrev esF:List (Int×D):=[(3,.fn 163 [] [.ref [.fn 79 [] []]]),(4,.fn 163 [] [.ref [.fn 80 [] []]]),(5,.fn 163 [] [.ref [.fn 81 [] []]]),(6,.fn 163 [] [.ref [.fn 82 [] []]]),(7,.fn 163 [] [.ref [.fn 83 [] []]]),(8,.fn 171 [] [.ref [.fn 85 [] []]]),(9,.fn 171 [] [.ref [.fn 86 [] []]]),(10,.fn 87 [] []),(12,.fn 171 [] [.ref [.fn 89 [] []]])]
abbrev stepsF:List (Int×D):=[(1,.fn 92 [] []),(2,.fn 93 [] []),(11,.fn 94 [] [])]
abbrev hpF0 (x:List Rat):Hp:=[(58,.box [.nil,inF x,.fn 76 [] [],.mapr 44]),(44,.mp esF),(114,.mp stepsF),(64,.box [.nil]),(65,.box [.int .i64 0])]
abbrev hpF (x:List Rat)(n:Nat)(cs:List D):Hp:=[(58,.box [.bsl 145 0 n 2,inF x,.fn 76 [] [],.mapr 44]),(145,.box cs),(44,.mp esF),(114,.mp stepsF),(64,.box [.nil]),(65,.box [.int .i64 0])]
theorem rdF_in0 (p:List (Int×Int))(x:List Rat)(k:Nat)(a:Int)(hk:k<p.length)(hp:p.length≤40)(hca:p.getD k (0,0)=(1,a))(ha:0≤a∧a<x.length){K:K3}
  (hok:∀ L H,Wk 103 L H (slM p (k+1)) (hpF x 1 [.str (decZ (x.getD a.toNat 0).num),.str (dec (x.getD a.toNat 0).den)])→K .normal L H):RunC Tryz.prog tb (inlN Tryz.prog tb 6) 42 ((jaF (Tryz.f49.body.getD .skip)).getD .skip) (fun _ _ _ _ _=>False) 103 (slM p k) (hpF0 x) K:=by
 have hkc:((k:Int)+1)=((k+1:Nat):Int):=by omega
 have hne:decide ((k:Int)=p.length)=false:=decide_eq_false (by omega)
 refine V.r0 (V.a3 hne @jiA hca) ?_
 refine .inl ?_
 (conv=>whnf)
 refine⟨0,_,_,⟨Tryz.func92,rfl,rfl,jis rfl⟩,?_⟩
 refine V.r0 @jiA ?_
 refine⟨Pq10z,[],V.pok,.go (jab ?_)⟩
 refine V.r0 @jiA ?_
 refine .inl ?_
 (conv=>whnf)
 refine⟨0,_,_,⟨Tryz.func176,rfl,rfl,jis rfl⟩,?_⟩
 refine V.r0 @jiA ?_
 refine⟨Pq22z,[],V.pok,.go (jab ?_)⟩
 refine V.r0 (V.a2 @jiA hkc) ?_
 refine hok _ _ (Wk.renB 179 145 58 0 1 2 (by decide) (by decide) (by decide) rfl rfl rfl rfl ?_)
 exact V.wk
theorem rdF_in1 (p:List (Int×Int))(x l:List Rat)(k:Nat)(a:Int)(hk:k<p.length)(hp:p.length≤40)(hca:p.getD k (0,0)=(1,a))(ha:0≤a∧a<x.length)(hl:l.length≤16){K:K3}
  (hok:∀ L H,Wk 103 L H (slM p (k+1)) (hpF x (l.length+1) (fcl l++[.str (decZ (x.getD a.toNat 0).num),.str (dec (x.getD a.toNat 0).den)]))→K .normal L H):RunC Tryz.prog tb (inlN Tryz.prog tb 6) 42 ((jaF (Tryz.f49.body.getD .skip)).getD .skip) (fun _ _ _ _ _=>False) 103 (slM p k) (hpF x l.length (fcl l)) K:=by
 have hkc:((k:Int)+1)=((k+1:Nat):Int):=by omega
 have hne:decide ((k:Int)=p.length)=false:=decide_eq_false (by omega)
 have pg:=jbI l
 have hb:=jcK l
 have ht:=jaO hl
 have hf:∀ i,D.freeL i (fcl l++[.str (decZ (x.getD a.toNat 0).num),.str (dec (x.getD a.toNat 0).den)])=true:=jbB l _ _
 (conv=>whnf)
 (try simp only[hne,jiA,hca])
 repeat ((first|refine V.s1 ?_|((try ((with_reducible refine .ext ?_);(conv=>whnf);(try simp only[hne,jiA,hca])));(with_reducible refine jaa (r:=?_) ?_ ?_);rotate_left;(focus (first|fail));(conv=>whnf))|(((simp only[pg];(conv=>whnf)));(conv=>whnf)));(try simp only[hne,jiA,hca]))
 refine .inl ?_
 (conv=>whnf)
 refine⟨0,_,_,⟨Tryz.func92,rfl,rfl,jis rfl⟩,?_⟩
 (conv=>whnf)
 (conv=>whnf)
 (try simp only[jiA])
 repeat ((first|refine V.s1 ?_|((try ((with_reducible refine .ext ?_);(conv=>whnf);(try simp only[jiA])));(with_reducible refine jaa (r:=?_) ?_ ?_);rotate_left;(focus (first|fail));(conv=>whnf))|(((simp only[pg];(conv=>whnf)));(conv=>whnf)));(try simp only[jiA]))
 refine⟨Pq10z,[],V.pok,.go (jab ?_)⟩
 (conv=>whnf)
 (try simp only[jiA])
 repeat ((first|refine V.s1 ?_|((try ((with_reducible refine .ext ?_);(conv=>whnf);(try simp only[jiA])));(with_reducible refine jaa (r:=?_) ?_ ?_);rotate_left;(focus (first|fail));(conv=>whnf))|(((simp only[pg];(conv=>whnf)));(conv=>whnf)));(try simp only[jiA]))
 refine .inl ?_
 (conv=>whnf)
 refine⟨0,_,_,⟨Tryz.func176,rfl,rfl,jis rfl⟩,?_⟩
 (conv=>whnf)
 (conv=>whnf)
 (try simp only[jiA])
 repeat ((first|refine V.s1 ?_|((try ((with_reducible refine .ext ?_);(conv=>whnf);(try simp only[jiA])));(with_reducible refine jaa (r:=?_) ?_ ?_);rotate_left;(focus (first|fail));(conv=>whnf))|(((simp only[pg];(conv=>whnf)));(conv=>whnf)));(try simp only[jiA]))
 refine⟨Pq22z,[],V.pok,.go (jab ?_)⟩
 (conv=>whnf)
 (try simp only[jiA,hkc])
 repeat ((first|refine V.s1 ?_|((try ((with_reducible refine .ext ?_);(conv=>whnf);(try simp only[jiA,hkc])));(with_reducible refine jaa (r:=?_) ?_ ?_);rotate_left;(focus (first|fail));(conv=>whnf))|(((simp only[pg];(conv=>whnf)));(conv=>whnf))|(((simp only[hb,ht,jju,hf];(conv=>whnf)));(conv=>whnf)));(try simp only[jiA,hkc]))
 refine hok _ _ (Wk.renB 179 145 58 0 (l.length+1) 2 (by decide) (by decide) (by decide) (hf _) rfl rfl rfl ?_)
 exact V.wk
theorem rdF_num0 (p:List (Int×Int))(x:List Rat)(S T:List UInt8)(k:Nat)(a:Int)(hk:k<p.length)(hp:p.length≤40)(hca:p.getD k (0,0)=(2,a))(nu:Cl 76 [.int .i64 a] (.tup [.agg [.str S,.str T],.int .i64 0])){K:K3}
  (hok:∀ L H,Wk 103 L H (slM p (k+1)) (hpF x 1 [.str S,.str T])→K .normal L H):RunC Tryz.prog tb (inlN Tryz.prog tb 6) 42 ((jaF (Tryz.f49.body.getD .skip)).getD .skip) (fun _ _ _ _ _=>False) 103 (slM p k) (hpF0 x) K:=by
 have hkc:((k:Int)+1)=((k+1:Nat):Int):=by omega
 have hne:decide ((k:Int)=p.length)=false:=decide_eq_false (by omega)
 refine V.r0 (V.a3 hne @jiA hca) ?_
 refine .inl ?_
 (conv=>whnf)
 refine⟨0,_,_,⟨Tryz.func93,rfl,rfl,jis rfl⟩,?_⟩
 refine V.r0 @jiA ?_
 refine⟨Pq15z,[],V.pok,.go (jab ?_)⟩
 refine V.r1 @jiA nu ?_
 refine .inl ?_
 (conv=>whnf)
 refine⟨0,_,_,⟨Tryz.func176,rfl,rfl,jis rfl⟩,?_⟩
 refine V.r0 @jiA ?_
 refine⟨Pq22z,[],V.pok,.go (jab ?_)⟩
 refine V.r0 (V.a2 @jiA hkc) ?_
 refine hok _ _ (Wk.renB 180 145 58 0 1 2 (by decide) (by decide) (by decide) rfl rfl rfl rfl ?_)
 exact V.wk
theorem rdF_num1 (p:List (Int×Int))(x l:List Rat)(S T:List UInt8)(k:Nat)(a:Int)(hk:k<p.length)(hp:p.length≤40)(hca:p.getD k (0,0)=(2,a))(nu:Cl 76 [.int .i64 a] (.tup [.agg [.str S,.str T],.int .i64 0]))(hl:l.length≤16){K:K3}
  (hok:∀ L H,Wk 103 L H (slM p (k+1)) (hpF x (l.length+1) (fcl l++[.str S,.str T]))→K .normal L H):RunC Tryz.prog tb (inlN Tryz.prog tb 6) 42 ((jaF (Tryz.f49.body.getD .skip)).getD .skip) (fun _ _ _ _ _=>False) 103 (slM p k) (hpF x l.length (fcl l)) K:=by
 have hkc:((k:Int)+1)=((k+1:Nat):Int):=by omega
 have hne:decide ((k:Int)=p.length)=false:=decide_eq_false (by omega)
 have pg:=jbI l
 have hb:=jcK l
 have ht:=jaO hl
 have hf:=jbB l S T
 (conv=>whnf)
 (try simp only[hne,jiA,hca])
 repeat ((first|refine V.s1 ?_|((try ((with_reducible refine .ext ?_);(conv=>whnf);(try simp only[hne,jiA,hca])));(with_reducible refine jaa (r:=?_) ?_ ?_);rotate_left;(focus (first|fail));(conv=>whnf))|(((simp only[pg];(conv=>whnf)));(conv=>whnf)));(try simp only[hne,jiA,hca]))
 refine .inl ?_
 (conv=>whnf)
 refine⟨0,_,_,⟨Tryz.func93,rfl,rfl,jis rfl⟩,?_⟩
 (conv=>whnf)
 (conv=>whnf)
 (try simp only[jiA])
 repeat ((first|refine V.s1 ?_|((try ((with_reducible refine .ext ?_);(conv=>whnf);(try simp only[jiA])));(with_reducible refine jaa (r:=?_) ?_ ?_);rotate_left;(focus (first|fail));(conv=>whnf))|(((simp only[pg];(conv=>whnf)));(conv=>whnf)));(try simp only[jiA]))
 refine⟨Pq15z,[],V.pok,.go (jab ?_)⟩
 (conv=>whnf)
 (try simp only[jiA])
 repeat ((first|refine V.s1 ?_|((try ((with_reducible refine .ext ?_);(conv=>whnf);(try simp only[jiA])));(with_reducible refine jaa (r:=?_) ?_ ?_);rotate_left;(focus (first|exact(nu)));(conv=>whnf))|(((simp only[pg];(conv=>whnf)));(conv=>whnf)));(try simp only[jiA]))
 refine .inl ?_
 (conv=>whnf)
 refine⟨0,_,_,⟨Tryz.func176,rfl,rfl,jis rfl⟩,?_⟩
 (conv=>whnf)
 (conv=>whnf)
 (try simp only[jiA])
 repeat ((first|refine V.s1 ?_|((try ((with_reducible refine .ext ?_);(conv=>whnf);(try simp only[jiA])));(with_reducible refine jaa (r:=?_) ?_ ?_);rotate_left;(focus (first|fail));(conv=>whnf))|(((simp only[pg];(conv=>whnf)));(conv=>whnf)));(try simp only[jiA]))
 refine⟨Pq22z,[],V.pok,.go (jab ?_)⟩
 (conv=>whnf)
 (try simp only[jiA,hkc])
 repeat ((first|refine V.s1 ?_|((try ((with_reducible refine .ext ?_);(conv=>whnf);(try simp only[jiA,hkc])));(with_reducible refine jaa (r:=?_) ?_ ?_);rotate_left;(focus (first|fail));(conv=>whnf))|(((simp only[pg];(conv=>whnf)));(conv=>whnf))|(((simp only[hb,ht,jju,hf];(conv=>whnf)));(conv=>whnf)));(try simp only[jiA,hkc]))
 refine hok _ _ (Wk.renB 180 145 58 0 (l.length+1) 2 (by decide) (by decide) (by decide) (hf _) rfl rfl rfl ?_)
 exact V.wk
theorem rdF_copy (p:List (Int×Int))(x l:List Rat)(y:Rat)(rest:List D)(j:Nat)(k:Nat)(a:Int)(hk:k<p.length)(hp:p.length≤40)(hca:p.getD k (0,0)=(11,a))(hl:l.length≤16)(hix:(l.length:Int)-1-a=(j:Nat))(hj:j<l.length)(hd:∀ K,dropK (fcl l) (j*2) K=K (.str (decZ y.num) :: .str (dec y.den)::rest)){K:K3}
  (hok:∀ L H,Wk 103 L H (slM p (k+1)) (hpF x (l.length+1) (fcl l++[.str (decZ y.num),.str (dec y.den)]))→K .normal L H):RunC Tryz.prog tb (inlN Tryz.prog tb 6) 42 ((jaF (Tryz.f49.body.getD .skip)).getD .skip) (fun _ _ _ _ _=>False) 103 (slM p k) (hpF x l.length (fcl l)) K:=by
 have hkc:((k:Int)+1)=((k+1:Nat):Int):=by omega
 have hne:decide ((k:Int)=p.length)=false:=decide_eq_false (by omega)
 have pg:=jbI l
 have hb:=jcK l
 have ht:=jaO hl
 have hf:∀ i,D.freeL i ((fcl l)++[.str (decZ y.num),.str (dec y.den)])=true:=jbB l _ _
 (conv=>whnf)
 (try simp only[hne,jiA,hca])
 repeat ((first|refine V.s1 ?_|((try ((with_reducible refine .ext ?_);(conv=>whnf);(try simp only[hne,jiA,hca])));(with_reducible refine jaa (r:=?_) ?_ ?_);rotate_left;(focus (first|fail));(conv=>whnf))|(((simp only[pg];(conv=>whnf)));(conv=>whnf)));(try simp only[hne,jiA,hca]))
 refine .inl ?_
 (conv=>whnf)
 refine⟨0,_,_,⟨Tryz.func94,rfl,rfl,jis rfl⟩,?_⟩
 (conv=>whnf)
 (conv=>whnf)
 (try simp only[jiA])
 repeat ((first|refine V.s1 ?_|((try ((with_reducible refine .ext ?_);(conv=>whnf);(try simp only[jiA])));(with_reducible refine jaa (r:=?_) ?_ ?_);rotate_left;(focus (first|fail));(conv=>whnf))|(((simp only[pg];(conv=>whnf)));(conv=>whnf)));(try simp only[jiA]))
 refine⟨Pq0z,[],V.pok,.go (jab ?_)⟩
 (conv=>whnf)
 (try simp only[hix,jiA,jiy])
 repeat ((first|refine V.s1 ?_|((try ((with_reducible refine .ext ?_);(conv=>whnf);(try simp only[hix,jiA,jiy])));(with_reducible refine jaa (r:=?_) ?_ ?_);rotate_left;(focus (first|fail));(conv=>whnf))|(((simp only[pg];(conv=>whnf)));(conv=>whnf)));(try simp only[hix,jiA,jiy]))
 refine .inl ?_
 (conv=>whnf)
 refine⟨0,_,_,⟨Tryz.func177,rfl,rfl,jis rfl⟩,?_⟩
 refine V.r0 (V.a3 hix @jiA @jiy) ?_
 simp only[hd]
 unfold takeK takeK takeK
 dsimp only
 unfold ltK
 rw[show Nat.blt 19 Tryz.f94.ntmps=true from rfl]
 dsimp only
 unfold drawK
 unfold jdH
 refine And.intro ?_ jbD
 (conv=>whnf)
 refine .inl ?_
 (conv=>whnf)
 refine⟨0,_,_,⟨Tryz.func176,rfl,rfl,jis rfl⟩,?_⟩
 (conv=>whnf)
 (conv=>whnf)
 (try simp only[jiA])
 repeat ((first|refine V.s1 ?_|((try ((with_reducible refine .ext ?_);(conv=>whnf);(try simp only[jiA])));(with_reducible refine jaa (r:=?_) ?_ ?_);rotate_left;(focus (first|fail));(conv=>whnf))|(((simp only[pg];(conv=>whnf)));(conv=>whnf)));(try simp only[jiA]))
 refine⟨Pq22z,[],V.pok,.go (jab ?_)⟩
 (conv=>whnf)
 (try simp only[jiA,hkc])
 repeat ((first|refine V.s1 ?_|((try ((with_reducible refine .ext ?_);(conv=>whnf);(try simp only[jiA,hkc])));(with_reducible refine jaa (r:=?_) ?_ ?_);rotate_left;(focus (first|fail));(conv=>whnf))|(((simp only[pg];(conv=>whnf)));(conv=>whnf))|(((simp only[hb,ht,jju,hf];(conv=>whnf)));(conv=>whnf)));(try simp only[jiA,hkc]))
 refine hok _ _ (Wk.renB 186 145 58 0 (l.length+1) 2 (by decide) (by decide) (by decide) (hf _) rfl rfl rfl ?_)
 exact V.wk
theorem jeG {c:Int}{fn:Nat}(hfn:(c=3∧fn=79)∨(c=4∧fn=80)∨(c=5∧fn=81)∨(c=6∧fn=82)∨(c=7∧fn=83))(p:List (Int×Int))(x l:List Rat)(u v:Rat)(k:Nat)(a:Int)(S T:List UInt8)(e:Int)(hk:k<p.length)(hp:p.length≤40)(hca:p.getD k (0,0)=(c,a))(hl:l.length≤16)
  (cf:Cl fn [.agg [.str (decZ u.num),.str (dec u.den)],.agg [.str (decZ v.num),.str (dec v.den)]] (.tup [.agg [.str S,.str T],.int .i64 e])) {K:K3}
  (hok:e=0 → ∀ L H,Wk 103 L H (slM p (k+1)) (hpF x (l.length+1) (fcl l++[.str S,.str T]))→K .normal L H)
  (hpan:e≠0 → ∀ L H,Wk 103 L H slE hpE→K (.panic [{ v := .iface 155 (.agg #[.int .i64 e]),recovered:=false }]) L H) :
  RunC Tryz.prog tb (inlN Tryz.prog tb 6) 42 ((jaF (Tryz.f49.body.getD .skip)).getD .skip) (fun _ _ _ _ _=>False) 103 (slM p k) (hpF x (l.length+2) (fcl (l++[u,v]))) K:=by
 have hkc:((k:Int)+1)=((k+1:Nat):Int):=by omega
 have hne:decide ((k:Int)=p.length)=false:=decide_eq_false (by omega)
 have pg:=jbI (l++[u,v])
 have tk:Cl 120 [.int .i64 c] (.tup [.int .i64 2,.bool true]):=by
  rcases hfn with⟨rfl,_⟩|⟨rfl,_⟩|⟨rfl,_⟩|⟨rfl,_⟩|⟨rfl,_⟩<;>exact jbl _
 have hr:(((l.length+2:Nat):Int)-2)=(l.length:Nat):=by omega
 have hble:Nat.ble (0+(l.length+2)*2) (fcl (l++[u,v])).length=true:=by rw[jb7,ji0];simp
 have hsub:l.length+2-l.length=2:=by omega
 have hd0:∀ K,dropK (fcl (l++[u,v])) (l.length*2+Int.toNat 0*2) K=K (fcl [u,v]):=fun K=>jbC [u,v] K l
 have hd1:∀ K,dropK (fcl (l++[u,v])) (l.length*2+Int.toNat 1*2) K=K (fcl [v]):=fun K=>je4 l [v] u K
 rcases hfn with⟨rfl,rfl⟩|⟨rfl,rfl⟩|⟨rfl,rfl⟩|⟨rfl,rfl⟩|⟨rfl,rfl⟩
 all_goals
  (conv=>whnf)
  (try simp only[hne,jiA,hca])
  repeat ((first|refine V.s1 ?_|((try ((with_reducible refine .ext ?_);(conv=>whnf);(try simp only[hne,jiA,hca])));(with_reducible refine jaa (r:=?_) ?_ ?_);rotate_left;(focus (first|fail));(conv=>whnf))|(((simp only[pg];(conv=>whnf)));(conv=>whnf)));(try simp only[hne,jiA,hca]))
  refine .inl ?_
  (conv=>whnf)
  refine⟨0,_,_,⟨Tryz.func95,rfl,rfl,jis rfl⟩,?_⟩
  (conv=>whnf)
  (conv=>whnf)
  (try simp only[jiA])
  repeat ((first|refine V.s1 ?_|((try ((with_reducible refine .ext ?_);(conv=>whnf);(try simp only[jiA])));(with_reducible refine jaa (r:=?_) ?_ ?_);rotate_left;(focus (first|exact(tk)));(conv=>whnf))|(((simp only[pg];(conv=>whnf)));(conv=>whnf)));(try simp only[jiA]))
  refine .inl ?_
  (conv=>whnf)
  refine⟨0,_,_,⟨Tryz.func177,rfl,rfl,jis rfl⟩,?_⟩
  (conv=>whnf)
  (conv=>whnf)
  (try simp only[hr,jiA])
  repeat ((first|refine V.s1 ?_|((try ((with_reducible refine .ext ?_);(conv=>whnf);(try simp only[hr,jiA])));(with_reducible refine jaa (r:=?_) ?_ ?_);rotate_left;(focus (first|exact(tk)));(conv=>whnf))|(((simp only[pg];(conv=>whnf)));(conv=>whnf))|(((simp only[hr,jiA,hsub];(conv=>whnf)));(conv=>whnf))|(((simp only[hble];(conv=>whnf)));(conv=>whnf)));(try simp only[hr,jiA]))
  refine⟨Pq8z,[],V.pok,.go (jab ?_)⟩
  (conv=>whnf)
  (try simp only[jiA])
  repeat ((first|refine V.s1 ?_|((try ((with_reducible refine .ext ?_);(conv=>whnf);(try simp only[jiA])));(with_reducible refine jaa (r:=?_) ?_ ?_);rotate_left;(focus (first|fail));(conv=>whnf))|(((simp only[pg];(conv=>whnf)));(conv=>whnf)));(try simp only[jiA]))
  refine .inl ?_
  (conv=>whnf)
  refine⟨0,_,_,⟨Tryz.func163,rfl,rfl,jis rfl⟩,?_⟩
  (conv=>whnf)
  (conv=>whnf)
  (try simp only[jiA])
  repeat ((first|refine V.s1 ?_|((try ((with_reducible refine .ext ?_);(conv=>whnf);(try simp only[jiA])));(with_reducible refine jaa (r:=?_) ?_ ?_);rotate_left;(focus (first|fail));(conv=>whnf))|(((simp only[pg];(conv=>whnf)));(conv=>whnf)));(try simp only[jiA]))
  refine⟨Pq17z,[],V.pok,.go (jab ?_)⟩
  (conv=>whnf)
  (try simp only[jiA,jiy])
  repeat ((first|refine V.s1 ?_|((try ((with_reducible refine .ext ?_);(conv=>whnf);(try simp only[jiA,jiy])));(with_reducible refine jaa (r:=?_) ?_ ?_);rotate_left;(focus (first|exact(cf)));(conv=>whnf))|(((simp only[pg];(conv=>whnf)));(conv=>whnf))|(((simp only[hd0];(conv=>whnf)));(conv=>whnf))|(((simp only[hd1];(conv=>whnf)));(conv=>whnf)));(try simp only[jiA,jiy]))
  refine .inl ?_
  (conv=>whnf)
  refine⟨0,_,_,⟨Tryz.func176,rfl,rfl,jis rfl⟩,?_⟩
  (conv=>whnf)
  (conv=>whnf)
  (try simp only[jiA])
  repeat ((first|refine V.s1 ?_|((try ((with_reducible refine .ext ?_);(conv=>whnf);(try simp only[jiA])));(with_reducible refine jaa (r:=?_) ?_ ?_);rotate_left;(focus (first|fail));(conv=>whnf))|(((simp only[pg];(conv=>whnf)));(conv=>whnf)));(try simp only[jiA]))
  by_cases he:e=0
  ·refine jbP [(0,.box 58 0),(4,.box 200 0)] [(58,.box [.bsl 145 0 l.length 2,inF x,.fn 76 [] [],.mapr 44]),(145,.box (fcl l)),(200,.box [.str S,.str T]),(44,.mp esF),(114,.mp stepsF),(64,.box [.nil]),(65,.box [.int .i64 0])] (CondB.mk (fun h=>absurd he (by simpa using h)) (fun _=>?_)) ?_
   ·(conv=>whnf)
    exact Wk.trim 145 (l.length*2) rfl (Wk.same 145 rfl (jc6 l [u,v]) V.wk)
   ·have pg:=jbI l
    have hb:=jcK l
    have ht:=jaO hl
    have hf:∀ i,D.freeL i (fcl l++[.str S,.str T])=true:=jbB l _ _
    (conv=>whnf)
    refine⟨Pq22z,[],V.pok,.go (jab ?_)⟩
    (conv=>whnf)
    (try simp only[jiA,hkc])
    repeat ((first|refine V.s1 ?_|((try ((with_reducible refine .ext ?_);(conv=>whnf);(try simp only[jiA,hkc])));(with_reducible refine jaa (r:=?_) ?_ ?_);rotate_left;(focus (first|fail));(conv=>whnf))|(((simp only[pg];(conv=>whnf)));(conv=>whnf))|(((simp only[hb,ht,jju,hf];(conv=>whnf)));(conv=>whnf)));(try simp only[jiA,hkc]))
    refine hok he _ _ (Wk.renB 214 145 58 0 (l.length+1) 2 (by decide) (by decide) (by decide) (hf _) rfl rfl rfl ?_)
    exact V.wk
  ·refine Cnd.split (CondB.mk (fun _=>?_) (fun h=>absurd (by simpa using h) he))
   refine V.r0 @jiA ?_
   exact hpan he _ _ V.wk
end Go.Proofs.YtpkdedncgclblaaGreatDoor
end
