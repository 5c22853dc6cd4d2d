/- What functions of the program answer at given values, part 12. Conditions: those that each theorem names. -/
import Derived.Test.YtpkdedncgclblaaGreatDoorProgramBandsH8
import Derived.Test.YtpkdedncgclblaaGreatDoorProgramBandsH9
import Derived.Test.YtpkdedncgclblaaGreatDoorProgramBandsH7
import Derived.Test.YtpkdedncgclblaaGreatDoorProgramBandsH11
import Derived.Test.YtpkdedncgclblaaGreatDoorProgramBandsH10
import Derived.Test.YtpkdedncgclblaaGreatDoorProgramBandsH6
set_option linter.unusedSimpArgs false
set_option linter.unusedVariables false
set_option maxHeartbeats 8000000
set_option maxRecDepth 100000
section
namespace Go.Proofs.YtpkdedncgclblaaGreatDoor
open Go Go.V Go.Nb
structure Sg (s d:List UInt8)(j:Nat)(neg:Bool):Prop where
 hj:j=if neg then 1 else 0
 hl:s.length=d.length+j
 hg:∀ i,s.getD (i+j) 0=d.getD i 0
 h0:(0<s.length∧s.getD 0 0=45)↔neg=true
theorem sg_of (s:List UInt8):∃ d j neg,Sg s d j neg∧okW s=okD d neg∧wval s=if neg then -(rdv d:Int) else rdv d:=by
 cases s with
 | nil=>exact⟨[],0,false,⟨rfl,rfl,fun i=>rfl,by simp⟩,rfl,rfl⟩
 | cons c r=>
  by_cases hc:c=45
  ·subst hc
   have h1:Go.Lib.hasPrefix (45::r) [45]=true:=by simp[Go.Lib.hasPrefix]
   have h2:Go.Lib.trimPrefix (45::r) [45]=r:=by unfold Go.Lib.trimPrefix;rw[h1];rfl
   refine⟨r,1,true,⟨rfl,by simp,fun i=>by simp,by simp⟩,?_,?_⟩
   ·unfold okW;rw[h1,h2]
   ·unfold wval;rw[h1,h2]
  ·have h1:Go.Lib.hasPrefix (c::r) [45]=false:=by
    show List.isPrefixOf [45] (c::r)=false
    simp only[List.isPrefixOf,Bool.and_true,beq_eq_false_iff_ne]
    exact Ne.symm hc
   have h2:Go.Lib.trimPrefix (c::r) [45]=c::r:=by unfold Go.Lib.trimPrefix;rw[h1];rfl
   refine⟨c::r,0,false,⟨rfl,by simp,fun i=>by simp,by simp[hc]⟩,?_,?_⟩
   ·unfold okW;rw[h1,h2]
   ·unfold wval;rw[h1,h2]
theorem u8_eq (c:UInt8)(n:Nat)(hn:n<256):decide (((c.toNat:Nat):Int)=n)=decide (c=UInt8.ofNat n):=decide_eq_decide.2 ⟨fun h=>UInt8.toNat_inj.1 (by rw[UInt8.toNat_ofNat_of_lt' (by simpa using hn)];omega),fun h=>by rw[h,UInt8.toNat_ofNat_of_lt' (by simpa using hn)]⟩
theorem right01_g (s d:List UInt8)(j:Nat)(neg:Bool)(S:Sg s d j neg)(hs:s.length≤281474976710656):Cl 67 [.str s] (.bool (okD d neg)):=by
 obtain⟨hj,hl,hg,h0⟩:=S
 have hJ:j≤1:=by rw[hj];split<;>omega
 have e0:(0:Int).toNat=0:=rfl
 have q45:decide (((s.getD 0 0).toNat:Int)=45)=decide (s.getD 0 0=45):=u8_eq _ 45 (by omega)
 have qn:(decide ((s.length:Int)>0) && decide (s.getD 0 0=45))=neg:=by
  rw[Bool.eq_iff_iff,← h0,jiv,decide_eq_true_eq,decide_eq_true_eq]
  exact and_congr_left' (by omega)
 refine V.en tbOk Tryz.func67 ?_
 refine V.r0 (V.a3 e0 q45 qn) ?_
 refine cnd_meet [(3,.int .i64 j)] [] (CondB.mk (fun hq=>?_) (fun hq=>?_)) ?_
 ·subst hq
  rw[if_pos rfl] at hj
  subst hj
  (conv=>whnf)
  refine V.st ?_
  exact V.wk
 ·subst hq
  rw[if_neg (by simp)] at hj
  subst hj
  (conv=>whnf)
  refine V.st ?_
  exact V.wk
 have hsl:(s.length:Int)-j=d.length:=by omega
 clear q45 qn h0
 refine V.r0 hsl ?_
 refine V.br (fun hq=>?_) (fun hq=>?_)
 ·simp only[jiM,decide_eq_true_eq] at hq
  have hf:okD d neg=false:=by
   unfold okD
   rcases hq with h|h
   ·rw[decide_eq_true (show d.length=0 by omega)];rfl
   ·rw[decide_eq_true (show 600<d.length by omega),Bool.or_true];rfl
  rw[hf]
  (conv=>whnf)
  refine V.st ?_
  exact Fin.of rfl
 ·simp only[jiN,decide_eq_false_iff_not] at hq
  (conv=>whnf)
  refine V.st ?_
  refine jai (0:Nat) (fun k=>k≤d.length ∧ ∀ i,i<k→isDig (d.getD i 0)=true) (fun k=>d.length-k) (fun k=>[(5,.int .i64 ((k+j:Nat):Int))]) (fun _=>[]) ?_ ?_ ?_
  ·rw[jiC]
   exact V.wk
  ·exact⟨jix _,fun i hi=>by omega⟩
  intro k hk
  have hkc:(((k+j:Nat):Int)+1)=((k+1+j:Nat):Int):=by omega
  have hkt:((k+j:Nat):Int).toNat=k+j:=by omega
  (conv=>whnf)
  refine V.st ?_
  refine V.br (fun hq2=>?_) (fun hq2=>?_)
  ·rw[decide_eq_true_eq] at hq2
   have hdl:=dig_lo (d.getD k 0)
   have hgk:=hg k
   generalize hc:d.getD k 0=c at *
   refine V.r0 (V.a3 hkt hgk hkc) ?_
   refine V.br (fun hq3=>?_) (fun hq3=>?_)
   ·rw[jiM,decide_eq_true_eq,decide_eq_true_eq] at hq3
    have hf:okD d neg=false:=by
     have h1:d.all isDig=false:=by
      rw[List.all_eq_false]
      refine⟨c,?_,fun h=>by have:=hdl.1 h;omega⟩
      rw[← hc,ji5,ji8 (by omega)]
      exact ji9 _
     unfold okD
     rw[h1,Bool.and_false,Bool.false_and]
    rw[hf]
    (conv=>whnf)
    refine V.st ?_
    exact Fin.of rfl
   ·rw[jiN,decide_eq_false_iff_not,decide_eq_false_iff_not] at hq3
    refine V.r0 hkc ?_
    refine⟨k+1,⟨by omega,fun i hi=>?_⟩,by omega,V.wk⟩
    rcases jiL i k with h|h
    ·exact hk.2 i h
    ·obtain rfl:i=k:=by omega
     rw[hc];exact hdl.2 (by omega)
  ·rw[decide_eq_false_iff_not] at hq2
   obtain rfl:k=d.length:=by omega
   have hall:∀ c∈d,isDig c=true:=fun c hc=>by
    obtain⟨i,hi,e⟩:=List.getElem_of_mem hc
    have:=hk.2 i hi
    rw[ji5,ji8 hi] at this
    rw[← e];exact this
   have hok:okD d neg = !(decide (d.getD 0 0=48) && (neg || decide (1<d.length))):=by
    unfold okD
    rw[ji4.2 hall,decide_eq_false (show ¬ d.length=0 by omega),decide_eq_false (show ¬ 600<d.length by omega)]
    rfl
   have hu:decide ((((d.getD 0 0).toNat:Nat):Int)=48)=decide (d.getD 0 0=48):=u8_eq _ 48 (by omega)
   have hg0:=hg 0
   rw[jiC] at hg0
   have hll:decide ((s.length:Int)=1) = !(neg || decide (1<d.length)):=by
    by_cases hn:neg=true
    ·subst hn
     rw[if_pos rfl] at hj
     rw[decide_eq_false (by omega)]
     rfl
    ·rw[if_neg hn] at hj
     rw[Bool.eq_false_iff.2 hn,Bool.false_or]
     by_cases h1:1<d.length
     ·rw[decide_eq_true h1,decide_eq_false (by omega)];rfl
     ·rw[decide_eq_false h1,decide_eq_true (by omega)];rfl
   have hu2:decide ((((d.getD 0 0).toNat:Nat):Int)≠48) = !decide (d.getD 0 0=48):=by rw[← hu,decide_not]
   have hne:(!decide (d.getD 0 0=48) || !(neg || decide (1<d.length)))=okD d neg:=by rw[hok,Bool.not_and]
   refine V.r0 (V.a5 @jiD hg0 hu2 hll hne) ?_
   exact Fin.of rfl
theorem rdv_chunk (d:List UInt8)(hd:∀ c∈d,isDig c=true)(m:Nat)(hm:m≤d.length):rdv (d.take m)/10000=rdv (d.take (m-4))∧rdv (d.take m)%10000=rdv ((d.take m).drop (m-4)):=by
 have e:d.take m=d.take (m-4)++(d.take m).drop (m-4):=by
  conv=>lhs;rw[← jjd (m-4) (d.take m),List.take_take,jiB (by omega)]
 have hb:=jeJ (s:=(d.take m).drop (m-4)) (fun c hc=>hd c (jjh (jjg hc)))
 have hl:((d.take m).drop (m-4)).length=m-(m-4):=by rw[jjp,jjb];omega
 rw[hl] at hb
 have ev:rdv (d.take m)=rdv (d.take (m-4))*10^(m-(m-4))+rdv ((d.take m).drop (m-4)):=by
  conv=>lhs;rw[e]
  rw[jbd,hl]
 rw[ev]
 generalize rdv ((d.take m).drop (m-4))=y at *
 rcases (by omega:m<4∨4≤m) with h|h
 ·have h0:m-4=0:=by omega
  have h10:10^(m-(m-4))≤10000:=by
   rw[h0]
   rcases (by omega:m=0∨m=1∨m=2∨m=3) with e|e|e|e<;>subst e<;>decide
  rw[h0,List.take_zero,show rdv []=0 from rfl,Nat.zero_mul]
  omega
 ·rw[show m-(m-4)=4 by omega,show (10:Nat)^4=10000 from rfl] at *
  omega
theorem rdv_next (d:List UInt8)(lo k:Nat)(h1:lo≤k)(h2:k<d.length):rdv ((d.take (k+1)).drop lo)=rdv ((d.take k).drop lo)*10+((d.getD k 0).toNat-48):=by
 have e:(d.take (k+1)).drop lo=(d.take k).drop lo++[d.getD k 0]:=by
  rw[List.take_add_one,ji8 h2,List.drop_append_of_le_length (by rw[jjb];omega),ji5,ji8 h2]
  rfl
 rw[e,jbd,jdT]
 rfl
theorem in01_g (s d:List UInt8)(j:Nat)(neg:Bool)(S:Sg s d j neg)(hd:∀ c∈d,isDig c=true)(hdl:d.length≤600)(hs0:0<s.length) :
  Cl 68 [.str s] (plD (if neg then -(rdv d:Int) else rdv d)):=by
 obtain⟨hj,hl,hg,h0⟩:=S
 have hJ:j≤1:=by rw[hj];split<;>omega
 have e0:(0:Int).toNat=0:=rfl
 have q45:decide (((s.getD 0 0).toNat:Int)=45)=neg:=by
  rw[show (45:Int)=((45:Nat):Int) from rfl,u8_eq _ 45 (by omega),Bool.eq_iff_iff,← h0,decide_eq_true_eq]
  exact⟨fun h=>⟨hs0,h⟩,fun h=>h.2⟩
 refine V.en tbOk Tryz.func68 ?_
 refine V.r0 (V.a2 e0 q45) ?_
 refine cnd_meet [(3,.int .i64 j)] [] (CondB.mk (fun hq=>?_) (fun hq=>?_)) ?_
 ·subst hq
  rw[if_pos rfl] at hj
  subst hj
  (conv=>whnf)
  refine V.st ?_
  exact V.wk
 ·subst hq
  rw[if_neg (by simp)] at hj
  subst hj
  (conv=>whnf)
  refine V.st ?_
  exact V.wk
 (conv=>whnf)
 refine V.st ?_
 refine Lp.ghostSlot 38 4 .i64 (by decide) ?_
 (conv=>whnf)
 refine jai (((s.length:Int),d.length,[]):Int×Nat×List Int) (fun st=>st.2.1≤d.length∧(st.1=(st.2.1+j:Nat)∨(st.2.1=0∧st.1<j∧(j:Int)-4≤st.1))∧val 10000 st.2.2+((10000:Nat):Int)^st.2.2.length*((rdv (d.take st.2.1):Nat):Int)=((rdv d:Nat):Int)∧Dg 10000 st.2.2∧st.2.2.length+(st.2.1+3)/4≤151) (fun st=>st.2.1) (fun st=>[(5,.int .i64 st.1),(4,.osl 38 0 st.2.2.length)]) (fun st=>[(38,.arr .i64 st.2.2)]) ?_ ?_ ?_
 ·exact V.wk
 ·exact⟨jiE _,.inl (by dsimp only;omega),by simp[val],fun x hx=>by simp at hx,by dsimp only [List.length_nil];omega⟩
 rintro⟨e,m,out⟩ ⟨h1,h2,h3,h4,h5⟩
 dsimp only at h1 h2 h3 h4 h5 ⊢
 (conv=>whnf)
 refine V.st ?_
 refine V.br (fun hq=>?_) (fun hq=>?_)
 ·rw[decide_eq_true_eq] at hq
  have he:e=((m+j:Nat):Int):=by omega
  have hm0:0<m:=by omega
  subst he
  obtain⟨lo,hlo⟩:∃ lo,lo=m-4:=⟨_,rfl⟩
  have hmx:max (((m+j:Nat):Int)-4) (j:Int)=((lo+j:Nat):Int):=by omega
  have hch:=rdv_chunk d hd m h1
  rw[← hlo] at hch
  have hst:=jeu (B:=10000) (by omega) h3
  rw[hch.1,hch.2] at hst
  have hbd:∀ i,lo+i≤m→rdv ((d.take (lo+i)).drop lo)<10000:=fun i hi=>by
   have hl1:((d.take (lo+i)).drop lo).length≤4:=by rw[jjp,jjb];omega
   have:=jeJ (s:=(d.take (lo+i)).drop lo) (fun c hc=>hd c (jjh (jjg hc)))
   have h2:(10:Nat)^((d.take (lo+i)).drop lo).length≤10^4:=jiU (by omega) hl1
   omega
  have hnx:∀ i,lo+i<m→rdv ((d.take (lo+(i+1))).drop lo)=rdv ((d.take (lo+i)).drop lo)*10+((d.getD (lo+i) 0).toNat-48):=fun i hi=>by
   rw[← Nat.add_assoc]
   exact rdv_next d lo (lo+i) (by omega) (by omega)
  have hx0:rdv ((d.take (lo+0)).drop lo)=0:=by
   have hnil:(d.take lo).drop lo=[]:=jjs (by rw[jjb];omega)
   rw[Nat.add_zero,hnil];rfl
  refine V.r0 hmx ?_
  refine jai (0:Nat) (fun i=>lo+i≤m) (fun i=>m-(lo+i)) (fun i=>[(7,.int .i64 ((lo+i+j:Nat):Int)),(6,.int .i64 ((rdv ((d.take (lo+i)).drop lo):Nat):Int))]) (fun _=>[]) ?_ ?_ ?_
  ·rw[hx0]
   exact V.wk
  ·show lo+0≤m
   omega
  intro i hi
  have hi2:=hbd i hi
  (conv=>whnf)
  refine V.st ?_
  refine V.br (fun hq2=>?_) (fun hq2=>?_)
  ·rw[decide_eq_true_eq] at hq2
   have hn2:=hnx i (by omega)
   have hgi:=hg (lo+i)
   have hdc:isDig (d.getD (lo+i) 0)=true:=hd _ (by rw[ji5,ji8 (by omega)];exact ji9 _)
   have hdl2:=(dig_lo _).1 hdc
   have hi3:=hbd (i+1) (by omega)
   generalize d.getD (lo+i) 0=c at *
   have hkt:((lo+i+j:Nat):Int).toNat=lo+i+j:=by omega
   have hkc:(((lo+i+j:Nat):Int)+1)=((lo+(i+1)+j:Nat):Int):=by omega
   have hsum:((rdv ((d.take (lo+i)).drop lo):Nat):Int)*10+((c.toNat:Int)-48)=((rdv ((d.take (lo+(i+1))).drop lo):Nat):Int):=by
    rw[hn2];omega
   refine V.r0 (V.a4 hkt hgi hkc hsum) ?_
   exact⟨i+1,by omega,by omega,V.wk⟩
  ·rw[decide_eq_false_iff_not] at hq2
   have hmi:lo+i=m:=by omega
   rw[hmi]
   have hl2:(out++[((rdv ((d.take m).drop lo):Nat):Int)]).length=out.length+1:=by simp
   have hl3:out.length+(List.take 1 (List.drop 0 [((rdv ((d.take m).drop lo):Nat):Int)])).length=(out++[((rdv ((d.take m).drop lo):Nat):Int)]).length:=by simp
   have hdg:Dg 10000 (out++[((rdv ((d.take m).drop lo):Nat):Int)]):=jaf h4 (jas ⟨by omega,by have:=hbd i hi;rw[hmi] at this;omega⟩)
   refine V.r0 hl3 ?_
   try refine And.intro (fun _=>⟨trivial,by omega⟩) ?_
   refine V.r0 hl3 ?_
   exact⟨(((m+j:Nat):Int)-4,lo,out++[((rdv ((d.take m).drop lo):Nat):Int)]),⟨by dsimp only;omega,by dsimp only;omega,hst,hdg,by dsimp only;omega⟩,by dsimp only;omega,V.wk⟩
 ·rw[decide_eq_false_iff_not] at hq
  have hm0:m=0:=by omega
  subst hm0
  have hv:val 10000 out=((rdv d:Nat):Int):=by
   rw[List.take_zero,show rdv []=0 from rfl] at h3
   simpa using h3
  have hmd:=jeW neg out h4 (by omega)
  rw[hv] at hmd
  have e1:decide ((j:Int)=1)=neg:=by
   cases neg with
   | true=>rw[if_pos rfl] at hj;rw[hj];rfl
   | false=>rw[if_neg (by simp)] at hj;rw[hj];rfl
  (conv=>whnf)
  (try simp only[e1,jjr])
  repeat ((first|refine V.s1 ?_|((try ((with_reducible refine .ext ?_);(conv=>whnf);(try simp only[e1,jjr])));(with_reducible refine jaa (r:=?_) ?_ ?_);rotate_left;(focus (first|exact(hmd)));(conv=>whnf)));(try simp only[e1,jjr]))
  exact Fin.of rfl
theorem jbS (x y:Int)(hx:Sm 40000000 x)(hy:Sm 40000000 y):Cl 73 [plD x,plD y] (plD (x*y)):=by
 unfold Sm at hx hy
 have hl:=jbN (B:=10000) (by omega) x.natAbs y.natAbs
 have hp:=jeQ (mg 10000 x.natAbs) (mg 10000 y.natAbs) (by omega) (by omega) (mg_dg (by omega) _) (fun j=>by
  have:=jaj (B:=10000) (by omega) (mg_dg (B:=10000) (by omega) y.natAbs) j
  omega)
 rw[jax (by omega),jax (by omega),← jiO,jiD] at hp
 have hm:=jd1 (!(decide (x<0) == decide (y<0))) (x.natAbs*y.natAbs) (by omega)
 have e:(if (!(decide (x<0) == decide (y<0)))=true then -((x.natAbs*y.natAbs:Nat):Int) else ((x.natAbs*y.natAbs:Nat):Int))=x*y:=by
  rw[jiO]
  by_cases h:x<0
  ·have e1:(x.natAbs:Int) = -x:=by omega
   by_cases h2:y<0
   ·have e2:(y.natAbs:Int) = -y:=by omega
    rw[e1,e2];simp[h,h2,Int.neg_mul_neg]
   ·have e2:(y.natAbs:Int)=y:=by omega
    rw[e1,e2];simp[h,h2,Int.neg_mul]
  ·have e1:(x.natAbs:Int)=x:=by omega
   by_cases h2:y<0
   ·have e2:(y.natAbs:Int) = -y:=by omega
    rw[e1,e2];simp[h,h2,Int.mul_neg]
   ·have e2:(y.natAbs:Int)=y:=by omega
    rw[e1,e2];simp[h,h2]
 rw[e] at hm
 rw[show plD x = .agg [.bool (decide (x<0)),.ints .i64 (mg 10000 x.natAbs)] from rfl,show plD y = .agg [.bool (decide (y<0)),.ints .i64 (mg 10000 y.natAbs)] from rfl]
 refine V.en tbOk Tryz.func73 ?_
 (conv=>whnf)
 refine V.st ?_
 refine⟨(V.tk [0,1,2,3,4,5,6,7,8] (V.e1 9 [4,3,2,1,0] (V.e1 10 [] (V.e1 11 [] .done)))),[],V.pok,.go (jab ?_)⟩
 (conv=>whnf)
 refine V.st ?_
 repeat ((try ((with_reducible refine .ext ?_);(conv=>whnf)));(with_reducible refine jaa (r:=?_) ?_ ?_);rotate_left;(focus (first|exact(hp)|exact(hm)));(conv=>whnf);refine V.st ?_)
 exact Fin.of rfl
theorem jeS (x y:Int)(hx:Sm 80000000 x)(hy:Sm 80000000 y):Cl 117 [plD x,plD y] (.int .i64 (x-y).sign):=by
 have hm:=minus_c x y (hx.mono (by omega)) (hy.mono (by omega))
 have hn:=jci (B:=10000) (n:=(x-y).natAbs) (by omega)
 have hz:Sm 80000001 (x-y):=by rw[Int.sub_eq_add_neg];exact hx.add hy.neg
 unfold Sm at hz
 rw[show plD (x-y) = .agg [.bool (decide (x-y<0)),.ints .i64 (mg 10000 (x-y).natAbs)] from rfl] at hm
 generalize x-y=z at *
 generalize mg 10000 z.natAbs=xs at *
 refine V.en tbOk Tryz.func117 ?_
 (conv=>whnf)
 refine V.st ?_
 repeat ((try ((with_reducible refine .ext ?_);(conv=>whnf)));(with_reducible refine jaa (r:=?_) ?_ ?_);rotate_left;(focus (first|exact(hm)));(conv=>whnf);refine V.st ?_)
 refine V.br (fun hq=>?_) (fun hq=>?_)
 ·rw[decide_eq_true_eq] at hq
  (conv=>whnf)
  refine V.st ?_
  exact Fin.of (by rw[jiZ hq])
 ·rw[decide_eq_false_iff_not] at hq
  (conv=>whnf)
  refine V.st ?_
  refine V.br (fun hq2=>?_) (fun hq2=>?_)
  ·rw[decide_eq_true_eq] at hq2
   have h0:z≠0:=fun e=>by
    have:=hn.2 (by rw[e];rfl)
    rw[this] at hq2;simp at hq2
   (conv=>whnf)
   refine V.st ?_
   exact Fin.of (by rw[ji0 (by omega)])
  ·rw[decide_eq_false_iff_not] at hq2
   have h0:=hn.1 (ji6.1 (by omega))
   (conv=>whnf)
   refine V.st ?_
   exact Fin.of (by rw[show z=0 by omega];rfl)
theorem off1 {p:Go.Program}{f:Nat}{ys:List D}{c:Bool}(hc:c=false):c=true→Called p f ys (.int .i64 0):=fun h=>by rw[hc] at h;cases h
theorem sign_lt {a b:Int} : (a-b).sign<0↔a<b:=by
 rcases Int.lt_trichotomy a b with h|h|h
 ·rw[jiZ (by omega)];exact⟨fun _=>h,fun _=>by omega⟩
 ·rw[h,Int.sub_self];exact⟨fun e=>by simp at e,fun e=>by omega⟩
 ·rw[ji0 (by omega)];exact⟨fun e=>by omega,fun e=>by omega⟩
theorem sign_gt {a b:Int} : (a-b).sign>0↔a>b:=by
 rcases Int.lt_trichotomy a b with h|h|h
 ·rw[jiZ (by omega)];exact⟨fun e=>by omega,fun e=>by omega⟩
 ·rw[h,Int.sub_self];exact⟨fun e=>by simp at e,fun e=>by omega⟩
 ·rw[ji0 (by omega)];exact⟨fun _=>h,fun _=>by omega⟩
theorem jfP (z:Int)(hz:Sm 80000000 z):Cl 234 [plD z] (.tup [.int .i64 (if -9223372036854775808≤z∧z≤9223372036854775807 then z else 0),.int .i64 (if -9223372036854775808≤z∧z≤9223372036854775807 then 0 else 6)]):=by
 have i1:=jcT (-9223372036854775808) (by constructor<;>decide)
 have i2:=jcT 9223372036854775807 (by constructor<;>decide)
 have y1:Sm 5 (-9223372036854775808):=Sm.lit (by decide)
 have y2:Sm 5 9223372036854775807:=Sm.lit (by decide)
 have o1:=jeS z (-9223372036854775808) hz (y1.mono (by omega))
 have o2:=jeS z 9223372036854775807 hz (y2.mono (by omega))
 have t1:=sign_lt (a:=z) (b := -9223372036854775808)
 have t2:=sign_gt (a:=z) (b:=9223372036854775807)
 generalize (z - -9223372036854775808).sign=s1 at *
 generalize (z-9223372036854775807).sign=s2 at *
 have hdx:=mg_dg (B:=10000) (by omega) z.natAbs
 have hvx:=jax (B:=10000) (by omega) z.natAbs
 unfold Sm at hz
 have hlen:z.natAbs<10000^5→(mg 10000 z.natAbs).length≤5:=fun h=>jaq (by omega) h
 rw[show plD z = .agg [.bool (decide (z<0)),.ints .i64 (mg 10000 z.natAbs)] from rfl] at *
 generalize mg 10000 z.natAbs=xs at *
 refine V.en tbOk Tryz.func234 ?_
 (conv=>whnf)
 refine V.st ?_
 refine⟨(V.tk [0] (V.e1 1 [0] (V.e1 2 [] (V.tk [3,4,5] (V.e1 6 [5] (V.e1 7 [] (V.tk [8,9] .done))))))),[],V.pok,.go (jab ?_)⟩
 by_cases h1:s1<0
 ·have hd:decide (s1<0)=true:=decide_eq_true h1
  have hn:¬ (-9223372036854775808≤z∧z≤9223372036854775807):=by omega
  rw[if_neg hn,if_neg hn]
  (conv=>whnf)
  (try simp only[hd])
  repeat ((first|refine V.s1 ?_|((try ((with_reducible refine .ext ?_);(conv=>whnf);(try simp only[hd])));(with_reducible refine jaa (r:=?_) ?_ ?_);rotate_left;(focus (first|exact(i1)|exact(o1)|exact(i2)|exact(o2)|exact(off1 rfl)));(conv=>whnf)));(try simp only[hd]))
  refine And.intro (fun _ h=>by cases h) ?_
  refine V.r0 hd ?_
  refine V.br (fun hq=>?_) (fun hq=>?_)
  ·(conv=>whnf)
   refine V.st ?_
   exact Fin.of rfl
  ·simp at hq
 ·have hd:decide (s1<0)=false:=decide_eq_false h1
  (conv=>whnf)
  (try simp only[hd])
  repeat ((first|refine V.s1 ?_|((try ((with_reducible refine .ext ?_);(conv=>whnf);(try simp only[hd])));(with_reducible refine jaa (r:=?_) ?_ ?_);rotate_left;(focus (first|exact(i1)|exact(o1)|exact(i2)|exact(o2)));(conv=>whnf)));(try simp only[hd]))
  refine V.br (fun hq=>?_) (fun hq=>?_)
  ·simp only[Bool.false_or,decide_eq_true_eq] at hq
   have hn:¬ (-9223372036854775808≤z∧z≤9223372036854775807):=by omega
   rw[if_neg hn,if_neg hn]
   (conv=>whnf)
   refine V.st ?_
   exact Fin.of rfl
  ·simp only[Bool.false_or,decide_eq_false_iff_not] at hq
   have hn : -9223372036854775808≤z∧z≤9223372036854775807:=by omega
   rw[if_pos hn,if_pos hn]
   have hl5:=hlen (by omega)
   (conv=>whnf)
   refine V.st ?_
   refine jai (xs.length:Nat) (fun k=>k≤xs.length) (fun k=>k) (fun k=>[(5,.int .i64 ((k:Int)-1)),(4,.int .i64 (0-val 10000 (xs.drop k)))]) (fun _=>[]) ?_ ?_ ?_
   ·rw[List.drop_length]
    exact V.wk
   ·exact jiE _
   intro k hk
   (conv=>whnf)
   refine V.st ?_
   refine V.br (fun hq2=>?_) (fun hq2=>?_)
   ·rw[decide_eq_true_eq] at hq2
    obtain⟨j,rfl⟩:∃ j,k=j+1:=⟨k-1,by omega⟩
    have hd2:=jbF (B:=10000) (l:=xs) (k:=j) (by omega)
    have bx:=jaj (by omega) hdx j
    have h0:=jak (jbb hdx (j+1))
    have he:=(jdl (B:=10000) (by omega) hdx j).1
    have hp1:(1:Int)≤((10000:Nat):Int)^j:=by have:=jdy (B:=10000) (by omega) j;omega
    have hle:val 10000 (xs.drop j)≤val 10000 xs:=by
     have:=jiS hp1 (jak (jbb hdx j))
     omega
    have e2:(((j+1:Nat):Int)-1)=(j:Int):=by omega
    generalize hx0:xs.getD j 0=x at *
    have e3:(0-val 10000 (xs.drop (j+1)))*10000-x=0-val 10000 (xs.drop j):=by omega
    refine V.r0 (V.a4 e2 @jiD hx0 e3) ?_
    exact⟨j,by omega,by omega,V.wk⟩
   ·rw[decide_eq_false_iff_not] at hq2
    obtain rfl:k=0:=by omega
    rw[List.drop_zero,hvx]
    (conv=>whnf)
    refine V.st ?_
    refine V.br (fun hz0=>?_) (fun hz0=>?_)
    ·rw[decide_eq_true_eq] at hz0
     (conv=>whnf)
     refine V.st ?_
     exact Fin.of (by rw[show 0-(z.natAbs:Int)=z by omega])
    ·rw[decide_eq_false_iff_not] at hz0
     (conv=>whnf)
     refine V.st ?_
     exact Fin.of (by rw[show 0-(0-(z.natAbs:Int))=z by omega])
def Q4 (k:Nat)(q:Rat):Prop:=Sm k q.num∧Sm k (q.den:Int)
theorem Q4.mono {k l:Nat}{q:Rat}(h:Q4 k q)(hl:k≤l):Q4 l q:=⟨h.1.mono hl,h.2.mono hl⟩
theorem Q4.neg {k:Nat}{q:Rat}(h:Q4 k q):Q4 k (-q):=⟨by rw[Rat.neg_num];exact h.1.neg,by rw[Rat.neg_den];exact h.2⟩
theorem Q4.of {k:Nat}{n d:Int}(hn:Sm k n)(hd:Sm k d)(hd0:d≠0):Q4 k (Rat.divInt n d):=by
 have h1:=jhO n d hd0
 have h2:=jhP n d hd0
 have h3:=ja4 (if d<0 then -n else n) (Int.gcd (if d<0 then -n else n) (if d<0 then -d else d))
 have h4:=ja4 (if d<0 then -d else d) (Int.gcd (if d<0 then -n else n) (if d<0 then -d else d))
 rw[h1] at h3
 rw[h2] at h4
 have e1:(if d<0 then -n else n).natAbs=n.natAbs:=by split<;>simp
 have e2:(if d<0 then -d else d).natAbs=d.natAbs:=by split<;>simp
 exact⟨hn.le (by omega),hd.le (by omega)⟩
theorem plN (n:Nat):plD (n:Int) = .agg [.bool false,.ints .i64 (mg 10000 n)]:=by
 unfold plD
 rw[decide_eq_false (by omega),jiT]
theorem jfL (x y:Rat):x*y=Rat.divInt (x.num*y.num) ((x.den:Int)*(y.den:Int)):=by
 conv=>lhs;rw[← ji1 x,← ji1 y]
 rw[Rat.divInt_mul_divInt]
theorem jdK (x:Rat):(x.den:Int)≠0:=by have:=x.den_pos;omega
theorem jcc (x y:Rat)(hx:Q4 40000000 x)(hy:Q4 40000000 y):Cl 45 [raD x,raD y] (raD (x*y)):=by
 have h1:=jbS x.num y.num hx.1 hy.1
 have h2:=jbS x.den y.den hx.2 hy.2
 have h3:=jgr (x.num*y.num) ((x.den:Int)*(y.den:Int)) (hx.1.mul hy.1) (hx.2.mul hy.2) (Int.mul_ne_zero (jdK x) (jdK y))
 rw[← jfL] at h3
 rw[plN,plN] at h2
 refine V.en tbOk Tryz.func45 ?_
 (conv=>whnf)
 refine V.st ?_
 refine⟨(V.tk [0,1,2,3,5,6,7,8] (V.e1 4 [8,7,6,5] (V.e1 9 [] (V.e1 10 [] (V.e1 11 [] .done))))),[],V.pok,.go (jab ?_)⟩
 (conv=>whnf)
 refine V.st ?_
 repeat ((try ((with_reducible refine .ext ?_);(conv=>whnf)));(with_reducible refine jaa (r:=?_) ?_ ?_);rotate_left;(focus (first|exact(h1)|exact(h2)|exact(h3)));(conv=>whnf);refine V.st ?_)
 exact Fin.of rfl
theorem jgW (x y:Rat)(hx:Q4 40000000 x)(hy:Q4 40000000 y):Cl 54 [raD x,raD y] (.int .i64 (ordQ x y)):=by
 have h1:=jbS x.num y.den hx.1 hy.2
 have h2:=jbS y.num x.den hy.1 hx.2
 have h3:=jeS (x.num*y.den) (y.num*x.den) (hx.1.mul hy.2) (hy.1.mul hx.2)
 rw[Int.sub_eq_add_neg,jeR] at h3
 rw[plN] at h1 h2
 refine V.en tbOk Tryz.func54 ?_
 (conv=>whnf)
 refine V.st ?_
 refine⟨(V.tk [0,1,2,3,5,6,7,8] (V.e1 4 [8,7,6,5] (V.e1 9 [] (V.e1 10 [] (V.tk [11] .done))))),[],V.pok,.go (jab ?_)⟩
 (conv=>whnf)
 refine V.st ?_
 repeat ((try ((with_reducible refine .ext ?_);(conv=>whnf)));(with_reducible refine jaa (r:=?_) ?_ ?_);rotate_left;(focus (first|exact(h1)|exact(h2)|exact(h3)));(conv=>whnf);refine V.st ?_)
 exact Fin.of rfl
theorem down_c (x:Rat)(hx:Q4 80000000 x):Cl 235 [raD x] (plD (x.num/(x.den:Int))):=by
 have h1:=jdz x.num x.den hx.1 hx.2 (jdK x)
 rw[plN] at h1
 refine V.en tbOk Tryz.func235 ?_
 (conv=>whnf)
 refine V.st ?_
 repeat ((try ((with_reducible refine .ext ?_);(conv=>whnf)));(with_reducible refine jaa (r:=?_) ?_ ?_);rotate_left;(focus (first|exact(h1)));(conv=>whnf);refine V.st ?_)
 exact Fin.of rfl
theorem turn02_c (x:Rat)(hx:Q4 80000000 x):Cl 201 [raD x] (raD (-x)):=by
 have h1:=turn_c x.num (by have:=hx.1;unfold Sm at this;omega)
 have e:raD (-x) = .agg [.bool (decide (-x.num<0)),.ints .i64 (mg 10000 (-x.num).natAbs),.bool false,.ints .i64 (mg 10000 x.den)]:=by unfold raD;rw[Rat.neg_num,Rat.neg_den]
 rw[e]
 refine V.en tbOk Tryz.func201 ?_
 (conv=>whnf)
 refine V.st ?_
 refine⟨(V.tk [0,1,3,4] (V.e1 2 [4,3] (V.tk [5] (V.e1 6 [] .done)))),[],V.pok,.go (jab ?_)⟩
 (conv=>whnf)
 refine V.st ?_
 repeat ((try ((with_reducible refine .ext ?_);(conv=>whnf)));(with_reducible refine jaa (r:=?_) ?_ ?_);rotate_left;(focus (first|exact(h1)));(conv=>whnf);refine V.st ?_)
 exact Fin.of rfl
theorem jby (n:Int)(hn:InR .i64 n):Cl 55 [.int .i64 n] (raD (Rat.divInt n 1000000000000)):=by
 have h:=jhG n 1000000000000 hn (by constructor<;>decide) (by decide)
 refine V.en tbOk Tryz.func55 ?_
 (conv=>whnf)
 refine V.st ?_
 repeat ((try ((with_reducible refine .ext ?_);(conv=>whnf)));(with_reducible refine jaa (r:=?_) ?_ ?_);rotate_left;(focus (first|exact(h)));(conv=>whnf);refine V.st ?_)
 exact Fin.of rfl
theorem Q4.mul {k l:Nat}{x y:Rat}(h:Q4 k x)(g:Q4 l y):Q4 (k+l) (x*y):=by
 rw[jfL]
 exact Q4.of (h.1.mul g.1) (h.2.mul g.2) (Int.mul_ne_zero (jdK x) (jdK y))
theorem jii (x y:Rat):x+y=Rat.divInt (x.num*y.den+y.num*x.den) ((x.den:Int)*(y.den:Int)):=by
 conv=>lhs;rw[← ji1 x,← ji1 y]
 rw[Rat.divInt_add_divInt _ _ (jdK x) (jdK y)]
theorem jgf (x y:Rat)(hx:Q4 30000000 x)(hy:Q4 30000000 y):Cl 43 [raD x,raD y] (raD (x+y)):=by
 have h1:=jbS x.num y.den (hx.1.mono (by omega)) (hy.2.mono (by omega))
 have h2:=jbS y.num x.den (hy.1.mono (by omega)) (hx.2.mono (by omega))
 have z1:Sm 60000000 (x.num*(y.den:Int)):=hx.1.mul hy.2
 have z2:Sm 60000000 (y.num*(x.den:Int)):=hy.1.mul hx.2
 have z3:Sm 60000000 ((x.den:Int)*(y.den:Int)):=hx.2.mul hy.2
 have h3:=plus_c _ _ (z1.mono (by omega)) (z2.mono (by omega))
 have h4:=jbS x.den y.den (hx.2.mono (by omega)) (hy.2.mono (by omega))
 have h5:=jgr (x.num*y.den+y.num*x.den) ((x.den:Int)*(y.den:Int)) ((z1.add z2).mono (by omega)) (z3.mono (by omega)) (Int.mul_ne_zero (jdK x) (jdK y))
 rw[← jii] at h5
 rw[plN] at h1 h2
 rw[plN,plN] at h4
 generalize x.num*y.den+y.num*x.den=S at *
 clear z1 z2 z3
 refine V.en tbOk Tryz.func43 ?_
 (conv=>whnf)
 refine V.st ?_
 refine⟨(V.tk [0,1,2,3,5,6,7,8] (.ev (.cons 4 [8,7,6,5] (.ev (.cons 9 [] (.ev (.cons 10 [] (V.e1 11 [] (V.e1 12 [] .done)) (.cons 11 [] (V.e1 10 [] (V.e1 12 [] .done)) .nil))) (.cons 11 [8,7,6,5] (V.e1 9 [] (V.e1 10 [] (V.e1 12 [] .done))) .nil))) (.cons 11 [8,7,6,5,3,2,1,0] (V.e1 4 [8,7,6,5] (V.e1 9 [] (V.e1 10 [] (V.e1 12 [] .done)))) .nil)))),[],V.pok,?_⟩
 refine jaK [(5,.box 5 0)] [(5,.box [.bool (decide (S<0)),.ints .i64 (mg 10000 S.natAbs)])] ?_ ?_
 ·exact V.d3 @jiC h1 h2 h3
 (conv=>whnf)
 refine V.st ?_
 refine⟨(V.tk [0,1,2,3,4] (V.e1 5 [0] (V.e1 6 [] (V.e1 7 [] .done)))),[],V.pok,.go (jab ?_)⟩
 (conv=>whnf)
 refine V.st ?_
 repeat ((try ((with_reducible refine .ext ?_);(conv=>whnf)));(with_reducible refine jaa (r:=?_) ?_ ?_);rotate_left;(focus (first|exact(h4)|exact(h5)));(conv=>whnf);refine V.st ?_)
 exact Fin.of rfl
theorem jg4 (x y:Rat)(hx:Q4 30000000 x)(hy:Q4 30000000 y):Cl 202 [raD x,raD y] (raD (x-y)):=by
 have h1:=turn02_c y (hy.mono (by omega))
 have h2:=jgf x (-y) hx hy.neg
 rw[show x + -y=x-y from (Rat.sub_eq_add_neg x y).symm] at h2
 unfold raD at *
 refine V.en tbOk Tryz.func202 ?_
 (conv=>whnf)
 refine V.st ?_
 refine⟨Pq45z,[],V.pok,.go (jab ?_)⟩
 (conv=>whnf)
 refine V.st ?_
 repeat ((try ((with_reducible refine .ext ?_);(conv=>whnf)));(with_reducible refine jaa (r:=?_) ?_ ?_);rotate_left;(focus (first|exact(h1)|exact(h2)));(conv=>whnf);refine V.st ?_)
 exact Fin.of rfl
theorem y_one:Fq 1 1:=⟨by decide,by decide⟩
theorem jez {n m:Int}(hn : -9223372036854775807≤n∧n≤9223372036854775807)(hm:1≤m∧m≤9223372036854775807):Fq 20 (Rat.divInt n m):=by
 obtain⟨d,rfl⟩:∃ d:Nat,m=d:=⟨m.toNat,by omega⟩
 exact je2 (by omega) (by omega) (by omega)
theorem y_of {n m:Int}(hn : -9223372036854775807≤n∧n≤9223372036854775807)(hm:1≤m∧m≤9223372036854775807):Cl 77 [.int .i64 n,.int .i64 m] (.tup [frT (Rat.divInt n m),.int .i64 0]):=by
 rw[← jhf ((jez hn hm).ok (by omega) (by omega))]
 exact of_c n m (by simp[InR,V.lo,V.hi];omega) (by simp[InR,V.lo,V.hi];omega) (by omega)
theorem y_rof {n m:Int}(hn : -9223372036854775807≤n∧n≤9223372036854775807)(hm:1≤m∧m≤9223372036854775807):Cl 40 [.int .i64 n,.int .i64 m] (.tup [frT (Rat.divInt n m),.int .i64 0]):=by
 rw[← jhf ((jez hn hm).ok (by omega) (by omega))]
 exact of02_c n m (by simp[InR,V.lo,V.hi];omega) (by simp[InR,V.lo,V.hi];omega) (by omega)
theorem div_nz {N:Nat}(h:0<N):((N:Int):Rat)≠0:=by
 intro e
 have:(N:Int)=0:=by exact_mod_cast e
 omega
theorem rlt {N A B:Nat}(hN:0<N):(((A:Int):Rat)/((N:Int):Rat)<((B:Int):Rat)/((N:Int):Rat))↔A<B:=by
 have h1:(0:Rat)<((N:Int):Rat):=by exact_mod_cast (show (0:Int)<N by omega)
 rw[Rat.div_lt_iff h1,Rat.div_mul_cancel (div_nz hN)]
 constructor
 ·intro h
  have:(A:Int)<B:=by exact_mod_cast h
  omega
 ·intro h
  exact_mod_cast (show (A:Int)<B by omega)
def clQ (x:Rat):Rat:=if 1<(if x<0 then 0 else x) then 1 else (if x<0 then 0 else x)
def gp (s:Int)(x:Rat):Rat:=clQ x*((s-1:Int):Rat)
theorem jeM {n:Nat}{q:Rat}(h:Fq n q)(h0:0<n∧n≤600):Q9 20000000 q:=by
 obtain⟨h1,e1⟩:=jdY (h.ok h0.1 h0.2)
 have:=qsize h1
 rw[e1] at this
 exact this
theorem rd_q_p {n:Nat}{q:Rat}(h:Fq n q)(h0:0<n∧n≤600):Cl 75 [frT q] (.tup [rtD q,.bool true]):=by
 obtain⟨h1,e1⟩:=jdY (h.ok h0.1 h0.2)
 have r1:=jdS _ _ h1
 rw[e1] at r1
 exact r1
theorem fq_cl_p {n:Nat}{q:Rat}(h:Fq n q)(h0:0<n):Fq n (clQ q):=by
 have z:Fq n 0:=(show Fq 1 0 from ⟨by decide,by decide⟩).mono h0
 have o:Fq n 1:=y_one.mono h0
 unfold clQ
 by_cases h1:q<0
 ·rw[if_pos h1]
  split
  ·exact o
  ·exact z
 ·rw[if_neg h1]
  split
  ·exact o
  ·exact h
theorem fclamp_c_p {n:Nat}{q:Rat}(h:Fq n q)(h0:0<n∧n≤600):Cl 90 [frT q,frT 0,frT 1] (.tup [frT (clQ q),.int .i64 0]):=by
 have fz:Fq 1 0:=⟨by decide,by decide⟩
 have r0:=rd_q_p h h0
 have r1:=rd_q_p fz (by omega)
 have r2:=rd_q_p y_one (by omega)
 have q0:=jeM h h0
 have q1:=jeM fz (by omega)
 have q2:=jeM y_one (by omega)
 have od:=jgk 0 1 (q1.1.mono (by omega)) (q2.1.mono (by omega)) (by have:=q1.2;omega) (by have:=q2.2;omega)
 have e:ordQ 0 1 = -1:=by decide +kernel
 rw[e] at od
 have g:=jha q 0 q0 q1
 have q3:Q9 20000000 (if q<0 then 0 else q):=by
  split
  ·exact q1
  ·exact q0
 have l:=lesser_c (if q<0 then 0 else q) 1 q3 q2
 have fc:=fq_cl_p h h0.1
 have ec:(if 1<(if q<0 then 0 else q) then 1 else (if q<0 then 0 else q))=clQ q:=rfl
 rw[ec] at l
 have qc:=jeM fc h0
 have w:=jhp (clQ q) (by have:=qc.1;unfold S9 at this;omega) (by have:=qc.2;omega)
 rw[jhf (fc.ok h0.1 h0.2)] at w
 clear h fc ec e q0 q1 q2 q3 qc fz
 generalize clQ q=c at *
 generalize (if q<0 then 0 else q)=u at *
 generalize (0:Rat)=zz at *
 generalize (1:Rat)=oo at *
 unfold frT rtD at *
 refine V.en tbOk Tryz.func90 ?_
 refine V.r4 @jiC r0 r1 r2 od ?_
 refine⟨(V.tk [0,1,3] (V.e1 2 [3] (V.e1 4 [] (V.e1 5 [] (V.tk [6,7] (V.e1 8 [] (V.tk [9] .done))))))),[],V.pok,?_⟩
 refine jaK [(7,.int .i64 0)] [(6,.box [.str (decZ c.num),.str (dec c.den)])] ?_ ?_
 ·exact V.d3 @jiC g l w
 refine V.r0 @jiC ?_
 exact Fin.of rfl
theorem nat_okF {n m:Nat}(h:(dec n).length≤m):n<10^m:=by
 have:=jeJ (jfe n)
 rw[jhF] at this
 exact jiK this (jiU (by decide) h)
theorem jbC {q:Rat}(h:okF q=true):Fq 600 q:=by
 unfold okF at h
 simp only[jiv,decide_eq_true_eq] at h
 unfold Fq
 generalize 600=m at *
 exact⟨nat_okF h.1,nat_okF h.2⟩
theorem mg_fq2 {n k:Nat}{q:Rat}(h:Fq n q)(h6:n≤9*k)(hk:k≤90000000):(mg 1000000000 q.num.natAbs).length≤90000000∧(mg 1000000000 q.den).length≤90000000:=by
 have h:=h.mono h6
 have e:(1000000000:Nat)^k=10^(9*k):=by rw[Nat.pow_mul]
 exact⟨jiF (jaq (k:=k) (by omega) (by rw[e];exact h.1)) hk,jiF (jaq (k:=k) (by omega) (by rw[e];exact h.2)) hk⟩
theorem rd_f {q:Rat}(h:okF q=true):Cl 75 [frT q] (.tup [rtD q,.bool true]):=rd_q_p (jbC h) (by omega)
theorem q9_f {q:Rat}(h:okF q=true):Q9 20000000 q:=jeM (jbC h) (by omega)
theorem wr_f {n:Nat}{q:Rat}(h:Fq n q)(h6:n≤9*200):Cl 173 [rtD q] (frR q):=jhp q (mg_fq2 h h6 (by omega)).1 (mg_fq2 h h6 (by omega)).2
theorem fadd_f {p q:Rat}(hp:okF p=true)(hq:okF q=true):Cl 79 [frT p,frT q] (frR (p+q)):=by
 have r1:=rd_f hp
 have r2:=rd_f hq
 have o:=add_c p q (q9_f hp) (q9_f hq)
 have w:=wr_f (q:=p+q) ((jbC hp).add (jbC hq)) (by omega)
 generalize (p+q)=r at *
 have ap:Cl 165 [frT p,frT q,.fn 166 [] []] (.tup [rtD r,.int .i64 0]):=by
  unfold frT at *
  refine V.en tbOk Tryz.func165 ?_
  (conv=>whnf)
  refine V.st ?_
  repeat ((try ((with_reducible refine .ext ?_);(conv=>whnf)));(with_reducible refine jaa (r:=?_) ?_ ?_);rotate_left;(focus (first|exact(r1)|exact(r2)|exact(o)));(conv=>whnf);refine V.st ?_)
  exact Fin.of rfl
 have rs:Cl 164 [rtD r,.int .i64 0] (frR r):=by
  refine V.en tbOk Tryz.func164 ?_
  (conv=>whnf)
  refine V.st ?_
  repeat ((try ((with_reducible refine .ext ?_);(conv=>whnf)));(with_reducible refine jaa (r:=?_) ?_ ?_);rotate_left;(focus (first|exact(w)));(conv=>whnf);refine V.st ?_)
  exact Fin.of rfl
 unfold frT at *
 refine V.en tbOk Tryz.func79 ?_
 (conv=>whnf)
 refine V.st ?_
 repeat ((try ((with_reducible refine .ext ?_);(conv=>whnf)));(with_reducible refine jaa (r:=?_) ?_ ?_);rotate_left;(focus (first|exact(ap)|exact(rs)));(conv=>whnf);refine V.st ?_)
 exact Fin.of rfl
theorem fsub_f {p q:Rat}(hp:okF p=true)(hq:okF q=true):Cl 80 [frT p,frT q] (frR (p-q)):=by
 have r1:=rd_f hp
 have r2:=rd_f hq
 have o:=sub_c p q (q9_f hp) (q9_f hq)
 have w:=wr_f (q:=p-q) ((jbC hp).sub (jbC hq)) (by omega)
 generalize (p-q)=r at *
 have ap:Cl 165 [frT p,frT q,.fn 167 [] []] (.tup [rtD r,.int .i64 0]):=by
  unfold frT at *
  refine V.en tbOk Tryz.func165 ?_
  (conv=>whnf)
  refine V.st ?_
  repeat ((try ((with_reducible refine .ext ?_);(conv=>whnf)));(with_reducible refine jaa (r:=?_) ?_ ?_);rotate_left;(focus (first|exact(r1)|exact(r2)|exact(o)));(conv=>whnf);refine V.st ?_)
  exact Fin.of rfl
 have rs:Cl 164 [rtD r,.int .i64 0] (frR r):=by
  refine V.en tbOk Tryz.func164 ?_
  (conv=>whnf)
  refine V.st ?_
  repeat ((try ((with_reducible refine .ext ?_);(conv=>whnf)));(with_reducible refine jaa (r:=?_) ?_ ?_);rotate_left;(focus (first|exact(w)));(conv=>whnf);refine V.st ?_)
  exact Fin.of rfl
 unfold frT at *
 refine V.en tbOk Tryz.func80 ?_
 (conv=>whnf)
 refine V.st ?_
 repeat ((try ((with_reducible refine .ext ?_);(conv=>whnf)));(with_reducible refine jaa (r:=?_) ?_ ?_);rotate_left;(focus (first|exact(ap)|exact(rs)));(conv=>whnf);refine V.st ?_)
 exact Fin.of rfl
theorem fmul_f {p q:Rat}(hp:okF p=true)(hq:okF q=true):Cl 81 [frT p,frT q] (frR (p*q)):=by
 have r1:=rd_f hp
 have r2:=rd_f hq
 have o:=mul_c p q (q9_f hp) (q9_f hq)
 have w:=wr_f (q:=p*q) ((jbC hp).mul (jbC hq)) (by omega)
 generalize (p*q)=r at *
 have ap:Cl 165 [frT p,frT q,.fn 168 [] []] (.tup [rtD r,.int .i64 0]):=by
  unfold frT at *
  refine V.en tbOk Tryz.func165 ?_
  (conv=>whnf)
  refine V.st ?_
  repeat ((try ((with_reducible refine .ext ?_);(conv=>whnf)));(with_reducible refine jaa (r:=?_) ?_ ?_);rotate_left;(focus (first|exact(r1)|exact(r2)|exact(o)));(conv=>whnf);refine V.st ?_)
  exact Fin.of rfl
 have rs:Cl 164 [rtD r,.int .i64 0] (frR r):=by
  refine V.en tbOk Tryz.func164 ?_
  (conv=>whnf)
  refine V.st ?_
  repeat ((try ((with_reducible refine .ext ?_);(conv=>whnf)));(with_reducible refine jaa (r:=?_) ?_ ?_);rotate_left;(focus (first|exact(w)));(conv=>whnf);refine V.st ?_)
  exact Fin.of rfl
 unfold frT at *
 refine V.en tbOk Tryz.func81 ?_
 (conv=>whnf)
 refine V.st ?_
 repeat ((try ((with_reducible refine .ext ?_);(conv=>whnf)));(with_reducible refine jaa (r:=?_) ?_ ?_);rotate_left;(focus (first|exact(ap)|exact(rs)));(conv=>whnf);refine V.st ?_)
 exact Fin.of rfl
theorem fq_if {n:Nat}{p q:Rat}{c:Prop}[Decidable c](h:Fq n p)(g:Fq n q):Fq n (if c then p else q):=by split<;>assumption
theorem fmin_f {p q:Rat}(hp:okF p=true)(hq:okF q=true):Cl 82 [frT p,frT q] (frR (if q<p then q else p)):=by
 have r1:=rd_f hp
 have r2:=rd_f hq
 have o:=lesser_c p q (q9_f hp) (q9_f hq)
 have w:=wr_f (q:=if q<p then q else p) (fq_if (jbC hq) (jbC hp)) (by omega)
 generalize (if q<p then q else p)=r at *
 have ap:Cl 165 [frT p,frT q,.fn 169 [] []] (.tup [rtD r,.int .i64 0]):=by
  unfold frT at *
  refine V.en tbOk Tryz.func165 ?_
  (conv=>whnf)
  refine V.st ?_
  repeat ((try ((with_reducible refine .ext ?_);(conv=>whnf)));(with_reducible refine jaa (r:=?_) ?_ ?_);rotate_left;(focus (first|exact(r1)|exact(r2)|exact(o)));(conv=>whnf);refine V.st ?_)
  exact Fin.of rfl
 have rs:Cl 164 [rtD r,.int .i64 0] (frR r):=by
  refine V.en tbOk Tryz.func164 ?_
  (conv=>whnf)
  refine V.st ?_
  repeat ((try ((with_reducible refine .ext ?_);(conv=>whnf)));(with_reducible refine jaa (r:=?_) ?_ ?_);rotate_left;(focus (first|exact(w)));(conv=>whnf);refine V.st ?_)
  exact Fin.of rfl
 unfold frT at *
 refine V.en tbOk Tryz.func82 ?_
 (conv=>whnf)
 refine V.st ?_
 repeat ((try ((with_reducible refine .ext ?_);(conv=>whnf)));(with_reducible refine jaa (r:=?_) ?_ ?_);rotate_left;(focus (first|exact(ap)|exact(rs)));(conv=>whnf);refine V.st ?_)
 exact Fin.of rfl
theorem fmax_f {p q:Rat}(hp:okF p=true)(hq:okF q=true):Cl 83 [frT p,frT q] (frR (if p<q then q else p)):=by
 have r1:=rd_f hp
 have r2:=rd_f hq
 have o:=jha p q (q9_f hp) (q9_f hq)
 have w:=wr_f (q:=if p<q then q else p) (fq_if (jbC hq) (jbC hp)) (by omega)
 generalize (if p<q then q else p)=r at *
 have ap:Cl 165 [frT p,frT q,.fn 170 [] []] (.tup [rtD r,.int .i64 0]):=by
  unfold frT at *
  refine V.en tbOk Tryz.func165 ?_
  (conv=>whnf)
  refine V.st ?_
  repeat ((try ((with_reducible refine .ext ?_);(conv=>whnf)));(with_reducible refine jaa (r:=?_) ?_ ?_);rotate_left;(focus (first|exact(r1)|exact(r2)|exact(o)));(conv=>whnf);refine V.st ?_)
  exact Fin.of rfl
 have rs:Cl 164 [rtD r,.int .i64 0] (frR r):=by
  refine V.en tbOk Tryz.func164 ?_
  (conv=>whnf)
  refine V.st ?_
  repeat ((try ((with_reducible refine .ext ?_);(conv=>whnf)));(with_reducible refine jaa (r:=?_) ?_ ?_);rotate_left;(focus (first|exact(w)));(conv=>whnf);refine V.st ?_)
  exact Fin.of rfl
 unfold frT at *
 refine V.en tbOk Tryz.func83 ?_
 (conv=>whnf)
 refine V.st ?_
 repeat ((try ((with_reducible refine .ext ?_);(conv=>whnf)));(with_reducible refine jaa (r:=?_) ?_ ?_);rotate_left;(focus (first|exact(ap)|exact(rs)));(conv=>whnf);refine V.st ?_)
 exact Fin.of rfl
theorem jhK {q:Rat}(h:okF q=true):okF (-q)=true:=by
 unfold okF at *
 rw[Rat.neg_num,Rat.neg_den,Int.natAbs_neg];exact h
theorem okF_if {p q:Rat}{c:Prop}[Decidable c](h:okF p=true)(g:okF q=true):okF (if c then p else q)=true:=by split<;>assumption
theorem fneg_f {q:Rat}(h:okF q=true):Cl 85 [frT q] (.tup [frT (-q),.int .i64 0]):=by
 have r1:=rd_f h
 have n1:=jg2 q
 have w:=wr_f (jbC h).neg (by omega)
 rw[jhf (jhK h)] at w
 generalize -q=r at *
 unfold frT at *
 refine V.en tbOk Tryz.func85 ?_
 (conv=>whnf)
 refine V.st ?_
 repeat ((try ((with_reducible refine .ext ?_);(conv=>whnf)));(with_reducible refine jaa (r:=?_) ?_ ?_);rotate_left;(focus (first|exact(r1)));(conv=>whnf);refine V.st ?_)
 (conv=>whnf)
 refine V.st ?_
 repeat ((try ((with_reducible refine .ext ?_);(conv=>whnf)));(with_reducible refine jaa (r:=?_) ?_ ?_);rotate_left;(focus (first|exact(n1)|exact(w)));(conv=>whnf);refine V.st ?_)
 exact Fin.of rfl
def absQ (q:Rat):Rat:=if q.num<0 then -q else q
theorem jhL {q:Rat}(h:okF q=true):okF (absQ q)=true:=okF_if (jhK h) h
theorem fabs_f {q:Rat}(h:okF q=true):Cl 86 [frT q] (.tup [frT (absQ q),.int .i64 0]):=by
 have r1:=rd_f h
 have w:=wr_f (jbC (jhL h)) (by omega)
 rw[jhf (jhL h)] at w
 have s1:=jaZ q.num.natAbs false
 have e1:(absQ q).num.natAbs=q.num.natAbs:=by
  unfold absQ;split
  ·rw[Rat.neg_num,Int.natAbs_neg]
  ·rfl
 have e2:(absQ q).den=q.den:=by
  unfold absQ;split
  ·rw[Rat.neg_den]
  ·rfl
 have e3:decide ((absQ q).num<0)=false:=by
  unfold absQ;split
  ·rw[Rat.neg_num];exact decide_eq_false (by omega)
  ·exact decide_eq_false (by omega)
 unfold rtD at r1 w
 rw[e1,e2,e3] at w
 generalize absQ q=r at *
 unfold frT at *
 refine V.en tbOk Tryz.func86 ?_
 (conv=>whnf)
 refine V.st ?_
 repeat ((try ((with_reducible refine .ext ?_);(conv=>whnf)));(with_reducible refine jaa (r:=?_) ?_ ?_);rotate_left;(focus (first|exact(r1)));(conv=>whnf);refine V.st ?_)
 (conv=>whnf)
 refine V.st ?_
 refine⟨(V.tk [0,1,2,4,5] (V.e1 3 [5,4] (V.tk [6] (V.e1 7 [] (V.tk [8,9] (V.e1 10 [] (V.tk [11] .done))))))),[],V.pok,.go (jab ?_)⟩
 (conv=>whnf)
 refine V.st ?_
 repeat ((try ((with_reducible refine .ext ?_);(conv=>whnf)));(with_reducible refine jaa (r:=?_) ?_ ?_);rotate_left;(focus (first|exact(s1)|exact(w)));(conv=>whnf);refine V.st ?_)
 exact Fin.of rfl
theorem fsign_f {q:Rat}(hq:okF q=true):Cl 88 [frT q] (.tup [.int .i64 q.num.sign,.int .i64 0]):=by
 obtain⟨h,e1⟩:=jdY hq
 have r1:=jdS _ _ h
 rw[e1] at r1
 have sg:=sign_c q.num
 unfold rtD at r1
 unfold itD at sg
 unfold frT
 refine V.en tbOk Tryz.func88 ?_
 (conv=>whnf)
 refine V.st ?_
 repeat ((try ((with_reducible refine .ext ?_);(conv=>whnf)));(with_reducible refine jaa (r:=?_) ?_ ?_);rotate_left;(focus (first|exact(r1)));(conv=>whnf);refine V.st ?_)
 (conv=>whnf)
 refine V.st ?_
 repeat ((try ((with_reducible refine .ext ?_);(conv=>whnf)));(with_reducible refine jaa (r:=?_) ?_ ?_);rotate_left;(focus (first|exact(sg)));(conv=>whnf);refine V.st ?_)
 exact Fin.of rfl
theorem jgg (p:List (Int×Int))(i o:Int):Cl 25 [opsD p,.int .i64 i,.int .i64 o] (.int .i64 (if (surv p i o).isSome then 0 else 120)):=by
 have s:=survey_c p i o
 refine V.en tbOk Tryz.func25 ?_
 (conv=>whnf)
 refine V.st ?_
 repeat ((try ((with_reducible refine .ext ?_);(conv=>whnf)));(with_reducible refine jaa (r:=?_) ?_ ?_);rotate_left;(focus (first|exact(s)));(conv=>whnf);refine V.st ?_)
 exact Fin.of rfl
theorem pdepth_c (p:List (Int×Int))(i o:Int):Cl 27 [opsD p,.int .i64 i,.int .i64 o] (.tup [.int .i64 ((surv p i o).getD 0),.int .i64 (if (surv p i o).isSome then 0 else 120)]):=by
 have s:=survey_c p i o
 refine V.en tbOk Tryz.func27 ?_
 (conv=>whnf)
 refine V.st ?_
 repeat ((try ((with_reducible refine .ext ?_);(conv=>whnf)));(with_reducible refine jaa (r:=?_) ?_ ?_);rotate_left;(focus (first|exact(s)));(conv=>whnf);refine V.st ?_)
 exact Fin.of rfl
theorem jgJ (f:Nat):Cl 78 [.fn f [] []] (.fn 163 [] [.ref [.fn f [] []]]):=by
 refine V.en tbOk Tryz.func78 ?_
 (conv=>whnf)
 refine V.st ?_
 exact Fin.of rfl
theorem oneF_c (f:Nat):Cl 84 [.fn f [] []] (.fn 171 [] [.ref [.fn f [] []]]):=by
 refine V.en tbOk Tryz.func84 ?_
 (conv=>whnf)
 refine V.st ?_
 exact Fin.of rfl
theorem numF_c (n:Int)(h : -1000000000≤n∧n≤1000000000):Cl 76 [.int .i64 n] (.tup [frT (Rat.divInt n 1000000),.int .i64 0]):=by
 have c:=y_of (n:=n) (m:=1000000) (by omega) (by omega)
 unfold frT at *
 generalize Rat.divInt n 1000000=q at *
 refine V.en tbOk Tryz.func76 ?_
 (conv=>whnf)
 refine V.st ?_
 repeat ((try ((with_reducible refine .ext ?_);(conv=>whnf)));(with_reducible refine jaa (r:=?_) ?_ ?_);rotate_left;(focus (first|exact(c)));(conv=>whnf);refine V.st ?_)
 exact Fin.of rfl
theorem clF_c {q:Rat}(h:okF q=true):Cl 89 [frT q] (.tup [frT (clQ q),.int .i64 0]):=by
 have c:=fclamp_c_p (jbC h) (by omega)
 have e0:frT 0 = .agg [.str [48],.str [49]]:=by unfold frT;rw[show decZ (0:Rat).num=[48] by decide +kernel,show dec (0:Rat).den=[49] by decide +kernel]
 have e1:frT 1 = .agg [.str [49],.str [49]]:=by unfold frT;rw[show decZ (1:Rat).num=[49] by decide +kernel,show dec (1:Rat).den=[49] by decide +kernel]
 rw[e0,e1] at c
 unfold frT at *
 generalize clQ q=r at *
 refine V.en tbOk Tryz.func89 ?_
 (conv=>whnf)
 refine V.st ?_
 repeat ((try ((with_reducible refine .ext ?_);(conv=>whnf)));(with_reducible refine jaa (r:=?_) ?_ ?_);rotate_left;(focus (first|exact(c)));(conv=>whnf);refine V.st ?_)
 exact Fin.of rfl
end Go.Proofs.YtpkdedncgclblaaGreatDoor
end
section
namespace Go.V
open Go Go.RowKit
def Env.alias2 (E:Env)(i j:Nat):Env:=⟨fun x=>if x=j then E.blk i else E.blk x,fun x=>if x=j then E.siz i else E.siz x,fun x=>if x=j then E.kn i else E.kn x,fun x=>if x=j then E.real i else E.real x,fun x=>if x=j then E.lpr i else E.lpr x⟩
theorem Env.off_alias2 (E:Env)(i j:Nat):E.off (E.alias2 i j) j:=fun k hk=>by simp[Env.alias2,hk]
section
variable {cx : Cx} {E : Env} {h : Pub} {a : Act} {w : World} {L : Sl} {H : Hp}
theorem Sat.renBx (S:Sat cx E h a w L H){i j:Nat}{es:List D}(hij:i≠j)(hoff':cx.off≤j)(hfr:D.freeL j es=true)(hi:lookH H i=some (.box es)) :
  Sat cx (E.alias2 i j) h a w (purge j L) ((j,.box es)::(i,.gone)::jaB j H):=by
 have hoff:=E.off_alias2 i j
 have ej:(E.alias2 i j).blk j=E.blk i∧(E.alias2 i j).siz j=E.siz i∧(E.alias2 i j).kn j=E.kn i∧(E.alias2 i j).real j=E.real i:=by simp[Env.alias2]
 have ne:∀ x,x≠j→(E.alias2 i j).blk x=E.blk x∧(E.alias2 i j).real x=E.real x:=fun x hx=>⟨(hoff x hx).1,(hoff x hx).2.2.2.1⟩
 have live:∀ x c',x≠j→lookH ((j,.box es)::(i,.gone)::jaB j H) x=some c'→c'.live=true→x≠i ∧ ∃ c0,lookH H x=some c0∧c'=jb3 j c0∧c0.live=true:=by
  intro x c' hx hc' hl
  rw[jad,if_neg (Ne.symm hx),jad] at hc'
  by_cases hxi:i=x
  ·rw[if_pos hxi] at hc';cases hc';cases hl
  ·rw[if_neg hxi] at hc'
   obtain⟨c0,h1,h2⟩:=jba hc'
   exact⟨Ne.symm hxi,c0,h1,h2,by rw[h2,ja9] at hl;exact hl⟩
 have atj:∀ c',lookH ((j,.box es)::(i,.gone)::jaB j H) j=some c'→c' = .box es:=fun c' hc'=>by
  rw[jad,if_pos rfl] at hc';cases hc';rfl
 refine { knows:=?_,mem:=?_,agree:=S.agree,since:=S.since,low:=fun x hx=>jeX S.low hoff hoff' x hx,side:=S.side }
 ·exact fun t=>jbO hoff (S.knows t)
 ·refine { ok:=?_,base:=?_,unpub:=?_,inj:=?_ }
  ·intro x c' hc'
   by_cases hx:x=j
   ·subst hx
    rw[atj c' hc']
    obtain⟨h1,vs,rest,T,h2,h3,h4,h5⟩:=S.mem.ok i _ hi
    exact⟨by rw[ej.2.2.2];exact h1,vs,rest,T,by rw[ej.1];exact h2,DenL.env hoff hfr h3,h4,by rw[ej.2.1];exact h5⟩
   ·cases hl:c'.live with
    | false=>cases c'<;>first|trivial|(simp[Chunk.live] at hl)
    | true=>
     obtain⟨_,c0,h1,rfl,hl'⟩:=live x c' hx hc' hl
     exact ChunkOk.env hoff hx (S.mem.ok x _ h1)
  ·intro x c' hc' hl hr
   by_cases hx:x=j
   ·subst hx
    rw[ej.2.2.2] at hr
    rw[ej.1]
    exact S.mem.base i _ hi rfl hr
   ·obtain⟨_,c0,h1,rfl,hl'⟩:=live x c' hx hc' hl
    rw[(ne x hx).2] at hr
    rw[(ne x hx).1]
    exact S.mem.base x _ h1 hl' hr
  ·intro x c' hc' hl hr o
   by_cases hx:x=j
   ·subst hx
    rw[ej.2.2.2] at hr
    rw[ej.1]
    exact S.mem.unpub i _ hi rfl hr o
   ·obtain⟨_,c0,h1,rfl,hl'⟩:=live x c' hx hc' hl
    rw[(ne x hx).2] at hr
    rw[(ne x hx).1]
    exact S.mem.unpub x _ h1 hl' hr o
  ·intro x y c1 c2 hxy h1 h2 l1 l2 r1 r2
   by_cases hx:x=j
   ·subst hx
    obtain⟨hyi,c0',g2,rfl,l2'⟩:=live y c2 (Ne.symm hxy) h2 l2
    rw[ej.2.2.2] at r1
    rw[(ne y (Ne.symm hxy)).2] at r2
    rw[ej.1,(ne y (Ne.symm hxy)).1]
    exact S.mem.inj i y _ _ (Ne.symm hyi) hi g2 rfl l2' r1 r2
   ·obtain⟨hxi,c0,g1,rfl,l1'⟩:=live x c1 hx h1 l1
    rw[(ne x hx).2] at r1
    rw[(ne x hx).1]
    by_cases hy:y=j
    ·subst hy
     rw[ej.2.2.2] at r2
     rw[ej.1]
     exact S.mem.inj x i _ _ hxi g1 hi l1' rfl r1 r2
    ·obtain⟨hyi,c0',g2,rfl,l2'⟩:=live y c2 hy h2 l2
     rw[(ne y hy).2] at r2
     rw[(ne y hy).1]
     exact S.mem.inj x y _ _ hxy g1 g2 l1' l2' r1 r2
end
theorem Wk.renB {off:Nat}{L:Sl}{H:Hp}{L2:Sl}{H2:Hp}(i j b p n e:Nat){es:List D}{ds:List D}(hij:i≠j)(hb:b≠i∧b≠j)(hoff:off≤j)(hfr:D.freeL j es=true)(hi:lookH H i=some (.box es))(hj:lookH (jaB j H) b=some (.box ds))(hp:ds[p]? = some (.bsl i 0 n e))
  (h:Wk off (purge j L) ((b,.box (ds.set p (.bsl j 0 n e)))::(j,.box es)::(i,.gone)::jaB j H) L2 H2):Wk off L H L2 H2:=by
 refine⟨fun cx E h' a w e' S=>?_⟩
 subst e'
 have S1:=S.renBx hij hoff hfr hi
 have hb1:lookH ((j,.box es)::(i,.gone)::jaB j H) b=some (.box ds):=by
  rw[jad,if_neg (Ne.symm hb.2),jad,if_neg (Ne.symm hb.1)];exact hj
 have fe:∀ v,Den (E.alias2 i j) h' (.bsl i 0 n e) v→Den (E.alias2 i j) h' (.bsl j 0 n e) v:=fun v hv=>by
  simp only[Den,Env.alias2,if_true,if_neg hij] at hv ⊢
  exact hv
 refine h.out cx (E.alias2 i j) h' a w rfl (S1.rechunk hb1 rfl ?_)
 obtain⟨h1,vs,rest,T,h2,h3,h4⟩:=S1.mem.ok b _ hb1
 exact⟨h1,vs,rest,T,h2,denL_set h3 hp fe,h4⟩
theorem Wk.trim {off:Nat}{L:Sl}{H:Hp}{L2:Sl}{H2:Hp}(i n:Nat){ds:List D}(hi:lookH H i=some (.box ds))(h:Wk off L ((i,.box (ds.take n))::H) L2 H2):Wk off L H L2 H2:=by
 refine⟨fun cx E h' a w e' S=>?_⟩
 refine h.out cx E h' a w e' (S.rechunk hi rfl ?_)
 obtain⟨h1,vs,rest,T,h2,h3,h4,h5⟩:=S.mem.ok i _ hi
 refine⟨h1,vs.take n,vs.drop n++rest,T,?_,h3.take n,fun v hv=>h4 v (jjh hv),?_⟩
 ·rw[h2]
  congr 2
  apply Array.toList_inj.1
  simp only[← jjc,jjd]
 ·rw[h5]
  have:vs.length=(vs.take n).length+(vs.drop n).length:=by rw[← jja,jjd]
  simp only[jja];omega
theorem Wk.same {off:Nat}{L:Sl}{H:Hp}{L2:Sl}{H2:Hp}(i:Nat){ds es:List D}(hi:lookH H i=some (.box ds))(he:ds=es)(h:Wk off L ((i,.box es)::H) L2 H2):Wk off L H L2 H2:=by
 refine⟨fun cx E h' a w e' S=>?_⟩
 subst he
 exact h.out cx E h' a w e' (S.rechunk hi rfl (S.mem.ok i _ hi))
end Go.V
end
section
namespace Go.Proofs.YtpkdedncgclblaaGreatDoor
open Go Go.V Go.Nb
def jaF:Code→Option Code
 | .loop b=>some b
 | .seq a b=>match jaF a with|some c=>some c|none=>jaF b
 | .block _ b=>jaF b
 | .scope b=>jaF b
 | _=>none
abbrev slM (p:List (Int×Int))(k:Nat):Sl:=[(0,.box 58 0),(1,opsD p),(6,.mapr 114),(7,.int .i64 k),(4,.box 64 0),(5,.box 65 0)]
abbrev slE:Sl:=[(4,.box 64 0),(5,.box 65 0)]
abbrev hpE:Hp:=[(64,.box [.nil]),(65,.box [.int .i64 0])]
theorem jaP {n:Nat}(h:n≤16):Nat.ble (n+1) 1000000=true:=by rw[ji2];omega
def fcl:List Rat→List D
 | []=>[]
 | q::l => .str (decZ q.num) :: .str (dec q.den)::fcl l
theorem fcl_app (l m:List Rat):fcl (l++m)=fcl l++fcl m:=by
 induction l with
 | nil=>rfl
 | cons q l ih=>simp[fcl,ih]
theorem jca (l:List Rat):(fcl l).length=l.length*2:=by
 induction l with
 | nil=>rfl
 | cons q l ih=>simp only[fcl,jjj,ih];omega
theorem jcC (l:List Rat):Nat.beq (fcl l).length (l.length*2)=true:=by rw[jca];exact Nat.beq_refl _
theorem jbD (l:List Rat)(i:Nat)(K:List D→Prop):jcu i (fcl l) K=K (fcl l):=by
 have e:∀ m:List Rat,jbX i (fcl m)=fcl m:=fun m=>by
  induction m with
  | nil=>rfl
  | cons q m ih=>simp only[fcl,jbX,D.free,ih]
 rw[jdb,e]
theorem jc4 (l r:List Rat):(fcl (l++r)).take (l.length*2)=fcl l:=by
 rw[fcl_app,List.take_append_of_le_length (by rw[jca];omega),jjm (by rw[jca];omega)]
theorem jbJ (l:List Rat)(S T:List UInt8)(i:Nat):D.freeL i (fcl l++[.str S,.str T])=true:=by
 induction l with
 | nil=>rfl
 | cons q l ih=>simp only[fcl,ji3,D.freeL,D.free];exact ih
theorem jbr (r:List Rat)(K:List D→Prop):∀ l:List Rat,dropK (fcl (l++r)) (l.length*2) K=K (fcl r)
 | []=>by simp only[jji,List.length_nil,Nat.zero_mul,dropK]
 | q::l=>by
  have e:(q::l).length*2=l.length*2+1+1:=by simp only[jjj];omega
  rw[e]
  simp only[ji3,fcl,dropK]
  exact jbr r K l
theorem je6 (l r:List Rat)(u:Rat)(K:List D→Prop):dropK (fcl (l++u::r)) (l.length*2+2) K=K (fcl r):=by
 have:=jbr r K (l++[u])
 rw[jjc,jja,Nat.add_mul] at this
 exact this
theorem jhj (l r:List Rat)(u v:Rat)(K:List D→Prop):dropK (fcl (l++u::v::r)) (l.length*2+4) K=K (fcl r):=by
 have:=jbr r K (l++[u,v])
 rw[jjc,jja,Nat.add_mul] at this
 exact this
abbrev inF (x:List Rat):D := .slf 2 x.length (fun j=>[.str (decZ (x.getD j 0).num),.str (dec (x.getD j 0).den)])
abbrev esF:List (Int×D):=[(3,.fn 163 [] [.ref [.fn 79 [] []]]),(4,.fn 163 [] [.ref [.fn 80 [] []]]),(5,.fn 163 [] [.ref [.fn 81 [] []]]),(6,.fn 163 [] [.ref [.fn 82 [] []]]),(7,.fn 163 [] [.ref [.fn 83 [] []]]),(8,.fn 171 [] [.ref [.fn 85 [] []]]),(9,.fn 171 [] [.ref [.fn 86 [] []]]),(10,.fn 87 [] []),(12,.fn 171 [] [.ref [.fn 89 [] []]])]
abbrev stepsF:List (Int×D):=[(1,.fn 92 [] []),(2,.fn 93 [] []),(11,.fn 94 [] [])]
abbrev hpF0 (x:List Rat):Hp:=[(58,.box [.nil,inF x,.fn 76 [] [],.mapr 44]),(44,.mp esF),(114,.mp stepsF),(64,.box [.nil]),(65,.box [.int .i64 0])]
abbrev hpF (x:List Rat)(n:Nat)(cs:List D):Hp:=[(58,.box [.bsl 145 0 n 2,inF x,.fn 76 [] [],.mapr 44]),(145,.box cs),(44,.mp esF),(114,.mp stepsF),(64,.box [.nil]),(65,.box [.int .i64 0])]
theorem rdF_in0 (p:List (Int×Int))(x:List Rat)(k:Nat)(a:Int)(hk:k<p.length)(hp:p.length≤40)(hca:p.getD k (0,0)=(1,a))(ha:0≤a∧a<x.length){K:K3}
  (hok:∀ L H,Wk 103 L H (slM p (k+1)) (hpF x 1 [.str (decZ (x.getD a.toNat 0).num),.str (dec (x.getD a.toNat 0).den)])→K .normal L H):RunC Tryz.prog tb (inlN Tryz.prog tb 6) 42 ((jaF (Tryz.f49.body.getD .skip)).getD .skip) (fun _ _ _ _ _=>False) 103 (slM p k) (hpF0 x) K:=by
 have hkc:((k:Int)+1)=((k+1:Nat):Int):=by omega
 have hne:decide ((k:Int)=p.length)=false:=decide_eq_false (by omega)
 refine V.r0 (V.a3 hne @jiD hca) ?_
 refine .inl ?_
 (conv=>whnf)
 refine⟨0,_,_,⟨Tryz.func92,rfl,rfl,jiw rfl⟩,?_⟩
 refine V.r0 @jiD ?_
 refine⟨Pq10z,[],V.pok,.go (jab ?_)⟩
 refine V.r0 @jiD ?_
 refine .inl ?_
 (conv=>whnf)
 refine⟨0,_,_,⟨Tryz.func176,rfl,rfl,jiw rfl⟩,?_⟩
 refine V.r0 @jiD ?_
 refine⟨Pq20z,[],V.pok,.go (jab ?_)⟩
 refine V.r0 (V.a2 @jiD hkc) ?_
 refine hok _ _ (Wk.renB 179 145 58 0 1 2 (by decide) (by decide) (by decide) rfl rfl rfl rfl ?_)
 exact V.wk
theorem rdF_in1 (p:List (Int×Int))(x l:List Rat)(k:Nat)(a:Int)(hk:k<p.length)(hp:p.length≤40)(hca:p.getD k (0,0)=(1,a))(ha:0≤a∧a<x.length)(hl:l.length≤16){K:K3}
  (hok:∀ L H,Wk 103 L H (slM p (k+1)) (hpF x (l.length+1) (fcl l++[.str (decZ (x.getD a.toNat 0).num),.str (dec (x.getD a.toNat 0).den)]))→K .normal L H):RunC Tryz.prog tb (inlN Tryz.prog tb 6) 42 ((jaF (Tryz.f49.body.getD .skip)).getD .skip) (fun _ _ _ _ _=>False) 103 (slM p k) (hpF x l.length (fcl l)) K:=by
 have hkc:((k:Int)+1)=((k+1:Nat):Int):=by omega
 have hne:decide ((k:Int)=p.length)=false:=decide_eq_false (by omega)
 have pg:=jbD l
 have hb:=jcC l
 have ht:=jaP hl
 have hf:∀ i,D.freeL i (fcl l++[.str (decZ (x.getD a.toNat 0).num),.str (dec (x.getD a.toNat 0).den)])=true:=jbJ l _ _
 (conv=>whnf)
 (try simp only[hne,jiD,hca])
 repeat ((first|refine V.s1 ?_|((try ((with_reducible refine .ext ?_);(conv=>whnf);(try simp only[hne,jiD,hca])));(with_reducible refine jaa (r:=?_) ?_ ?_);rotate_left;(focus (first|fail));(conv=>whnf))|(((simp only[pg];(conv=>whnf)));(conv=>whnf)));(try simp only[hne,jiD,hca]))
 refine .inl ?_
 (conv=>whnf)
 refine⟨0,_,_,⟨Tryz.func92,rfl,rfl,jiw rfl⟩,?_⟩
 (conv=>whnf)
 (conv=>whnf)
 (try simp only[jiD])
 repeat ((first|refine V.s1 ?_|((try ((with_reducible refine .ext ?_);(conv=>whnf);(try simp only[jiD])));(with_reducible refine jaa (r:=?_) ?_ ?_);rotate_left;(focus (first|fail));(conv=>whnf))|(((simp only[pg];(conv=>whnf)));(conv=>whnf)));(try simp only[jiD]))
 refine⟨Pq10z,[],V.pok,.go (jab ?_)⟩
 (conv=>whnf)
 (try simp only[jiD])
 repeat ((first|refine V.s1 ?_|((try ((with_reducible refine .ext ?_);(conv=>whnf);(try simp only[jiD])));(with_reducible refine jaa (r:=?_) ?_ ?_);rotate_left;(focus (first|fail));(conv=>whnf))|(((simp only[pg];(conv=>whnf)));(conv=>whnf)));(try simp only[jiD]))
 refine .inl ?_
 (conv=>whnf)
 refine⟨0,_,_,⟨Tryz.func176,rfl,rfl,jiw rfl⟩,?_⟩
 (conv=>whnf)
 (conv=>whnf)
 (try simp only[jiD])
 repeat ((first|refine V.s1 ?_|((try ((with_reducible refine .ext ?_);(conv=>whnf);(try simp only[jiD])));(with_reducible refine jaa (r:=?_) ?_ ?_);rotate_left;(focus (first|fail));(conv=>whnf))|(((simp only[pg];(conv=>whnf)));(conv=>whnf)));(try simp only[jiD]))
 refine⟨Pq20z,[],V.pok,.go (jab ?_)⟩
 (conv=>whnf)
 (try simp only[jiD,hkc])
 repeat ((first|refine V.s1 ?_|((try ((with_reducible refine .ext ?_);(conv=>whnf);(try simp only[jiD,hkc])));(with_reducible refine jaa (r:=?_) ?_ ?_);rotate_left;(focus (first|fail));(conv=>whnf))|(((simp only[pg];(conv=>whnf)));(conv=>whnf))|(((simp only[hb,ht,jjt,hf];(conv=>whnf)));(conv=>whnf)));(try simp only[jiD,hkc]))
 refine hok _ _ (Wk.renB 179 145 58 0 (l.length+1) 2 (by decide) (by decide) (by decide) (hf _) rfl rfl rfl ?_)
 exact V.wk
theorem rdF_num0 (p:List (Int×Int))(x:List Rat)(S T:List UInt8)(k:Nat)(a:Int)(hk:k<p.length)(hp:p.length≤40)(hca:p.getD k (0,0)=(2,a))(nu:Cl 76 [.int .i64 a] (.tup [.agg [.str S,.str T],.int .i64 0])){K:K3}
  (hok:∀ L H,Wk 103 L H (slM p (k+1)) (hpF x 1 [.str S,.str T])→K .normal L H):RunC Tryz.prog tb (inlN Tryz.prog tb 6) 42 ((jaF (Tryz.f49.body.getD .skip)).getD .skip) (fun _ _ _ _ _=>False) 103 (slM p k) (hpF0 x) K:=by
 have hkc:((k:Int)+1)=((k+1:Nat):Int):=by omega
 have hne:decide ((k:Int)=p.length)=false:=decide_eq_false (by omega)
 refine V.r0 (V.a3 hne @jiD hca) ?_
 refine .inl ?_
 (conv=>whnf)
 refine⟨0,_,_,⟨Tryz.func93,rfl,rfl,jiw rfl⟩,?_⟩
 refine V.r0 @jiD ?_
 refine⟨Pq15z,[],V.pok,.go (jab ?_)⟩
 refine V.r1 @jiD nu ?_
 refine .inl ?_
 (conv=>whnf)
 refine⟨0,_,_,⟨Tryz.func176,rfl,rfl,jiw rfl⟩,?_⟩
 refine V.r0 @jiD ?_
 refine⟨Pq20z,[],V.pok,.go (jab ?_)⟩
 refine V.r0 (V.a2 @jiD hkc) ?_
 refine hok _ _ (Wk.renB 180 145 58 0 1 2 (by decide) (by decide) (by decide) rfl rfl rfl rfl ?_)
 exact V.wk
theorem rdF_num1 (p:List (Int×Int))(x l:List Rat)(S T:List UInt8)(k:Nat)(a:Int)(hk:k<p.length)(hp:p.length≤40)(hca:p.getD k (0,0)=(2,a))(nu:Cl 76 [.int .i64 a] (.tup [.agg [.str S,.str T],.int .i64 0]))(hl:l.length≤16){K:K3}
  (hok:∀ L H,Wk 103 L H (slM p (k+1)) (hpF x (l.length+1) (fcl l++[.str S,.str T]))→K .normal L H):RunC Tryz.prog tb (inlN Tryz.prog tb 6) 42 ((jaF (Tryz.f49.body.getD .skip)).getD .skip) (fun _ _ _ _ _=>False) 103 (slM p k) (hpF x l.length (fcl l)) K:=by
 have hkc:((k:Int)+1)=((k+1:Nat):Int):=by omega
 have hne:decide ((k:Int)=p.length)=false:=decide_eq_false (by omega)
 have pg:=jbD l
 have hb:=jcC l
 have ht:=jaP hl
 have hf:=jbJ l S T
 (conv=>whnf)
 (try simp only[hne,jiD,hca])
 repeat ((first|refine V.s1 ?_|((try ((with_reducible refine .ext ?_);(conv=>whnf);(try simp only[hne,jiD,hca])));(with_reducible refine jaa (r:=?_) ?_ ?_);rotate_left;(focus (first|fail));(conv=>whnf))|(((simp only[pg];(conv=>whnf)));(conv=>whnf)));(try simp only[hne,jiD,hca]))
 refine .inl ?_
 (conv=>whnf)
 refine⟨0,_,_,⟨Tryz.func93,rfl,rfl,jiw rfl⟩,?_⟩
 (conv=>whnf)
 (conv=>whnf)
 (try simp only[jiD])
 repeat ((first|refine V.s1 ?_|((try ((with_reducible refine .ext ?_);(conv=>whnf);(try simp only[jiD])));(with_reducible refine jaa (r:=?_) ?_ ?_);rotate_left;(focus (first|fail));(conv=>whnf))|(((simp only[pg];(conv=>whnf)));(conv=>whnf)));(try simp only[jiD]))
 refine⟨Pq15z,[],V.pok,.go (jab ?_)⟩
 (conv=>whnf)
 (try simp only[jiD])
 repeat ((first|refine V.s1 ?_|((try ((with_reducible refine .ext ?_);(conv=>whnf);(try simp only[jiD])));(with_reducible refine jaa (r:=?_) ?_ ?_);rotate_left;(focus (first|exact(nu)));(conv=>whnf))|(((simp only[pg];(conv=>whnf)));(conv=>whnf)));(try simp only[jiD]))
 refine .inl ?_
 (conv=>whnf)
 refine⟨0,_,_,⟨Tryz.func176,rfl,rfl,jiw rfl⟩,?_⟩
 (conv=>whnf)
 (conv=>whnf)
 (try simp only[jiD])
 repeat ((first|refine V.s1 ?_|((try ((with_reducible refine .ext ?_);(conv=>whnf);(try simp only[jiD])));(with_reducible refine jaa (r:=?_) ?_ ?_);rotate_left;(focus (first|fail));(conv=>whnf))|(((simp only[pg];(conv=>whnf)));(conv=>whnf)));(try simp only[jiD]))
 refine⟨Pq20z,[],V.pok,.go (jab ?_)⟩
 (conv=>whnf)
 (try simp only[jiD,hkc])
 repeat ((first|refine V.s1 ?_|((try ((with_reducible refine .ext ?_);(conv=>whnf);(try simp only[jiD,hkc])));(with_reducible refine jaa (r:=?_) ?_ ?_);rotate_left;(focus (first|fail));(conv=>whnf))|(((simp only[pg];(conv=>whnf)));(conv=>whnf))|(((simp only[hb,ht,jjt,hf];(conv=>whnf)));(conv=>whnf)));(try simp only[jiD,hkc]))
 refine hok _ _ (Wk.renB 180 145 58 0 (l.length+1) 2 (by decide) (by decide) (by decide) (hf _) rfl rfl rfl ?_)
 exact V.wk
theorem rdF_copy (p:List (Int×Int))(x l:List Rat)(y:Rat)(rest:List D)(j:Nat)(k:Nat)(a:Int)(hk:k<p.length)(hp:p.length≤40)(hca:p.getD k (0,0)=(11,a))(hl:l.length≤16)(hix:(l.length:Int)-1-a=(j:Nat))(hj:j<l.length)(hd:∀ K,dropK (fcl l) (j*2) K=K (.str (decZ y.num) :: .str (dec y.den)::rest)){K:K3}
  (hok:∀ L H,Wk 103 L H (slM p (k+1)) (hpF x (l.length+1) (fcl l++[.str (decZ y.num),.str (dec y.den)]))→K .normal L H):RunC Tryz.prog tb (inlN Tryz.prog tb 6) 42 ((jaF (Tryz.f49.body.getD .skip)).getD .skip) (fun _ _ _ _ _=>False) 103 (slM p k) (hpF x l.length (fcl l)) K:=by
 have hkc:((k:Int)+1)=((k+1:Nat):Int):=by omega
 have hne:decide ((k:Int)=p.length)=false:=decide_eq_false (by omega)
 have pg:=jbD l
 have hb:=jcC l
 have ht:=jaP hl
 have hf:∀ i,D.freeL i ((fcl l)++[.str (decZ y.num),.str (dec y.den)])=true:=jbJ l _ _
 (conv=>whnf)
 (try simp only[hne,jiD,hca])
 repeat ((first|refine V.s1 ?_|((try ((with_reducible refine .ext ?_);(conv=>whnf);(try simp only[hne,jiD,hca])));(with_reducible refine jaa (r:=?_) ?_ ?_);rotate_left;(focus (first|fail));(conv=>whnf))|(((simp only[pg];(conv=>whnf)));(conv=>whnf)));(try simp only[hne,jiD,hca]))
 refine .inl ?_
 (conv=>whnf)
 refine⟨0,_,_,⟨Tryz.func94,rfl,rfl,jiw rfl⟩,?_⟩
 (conv=>whnf)
 (conv=>whnf)
 (try simp only[jiD])
 repeat ((first|refine V.s1 ?_|((try ((with_reducible refine .ext ?_);(conv=>whnf);(try simp only[jiD])));(with_reducible refine jaa (r:=?_) ?_ ?_);rotate_left;(focus (first|fail));(conv=>whnf))|(((simp only[pg];(conv=>whnf)));(conv=>whnf)));(try simp only[jiD]))
 refine⟨Pq0z,[],V.pok,.go (jab ?_)⟩
 (conv=>whnf)
 (try simp only[hix,jiD,jiC])
 repeat ((first|refine V.s1 ?_|((try ((with_reducible refine .ext ?_);(conv=>whnf);(try simp only[hix,jiD,jiC])));(with_reducible refine jaa (r:=?_) ?_ ?_);rotate_left;(focus (first|fail));(conv=>whnf))|(((simp only[pg];(conv=>whnf)));(conv=>whnf)));(try simp only[hix,jiD,jiC]))
 refine .inl ?_
 (conv=>whnf)
 refine⟨0,_,_,⟨Tryz.func177,rfl,rfl,jiw rfl⟩,?_⟩
 refine V.r0 (V.a3 hix @jiD @jiC) ?_
 simp only[hd]
 unfold takeK takeK takeK
 dsimp only
 unfold ltK
 rw[show Nat.blt 19 Tryz.f94.ntmps=true from rfl]
 dsimp only
 unfold drawK
 unfold jdI
 refine And.intro ?_ jbK
 (conv=>whnf)
 refine .inl ?_
 (conv=>whnf)
 refine⟨0,_,_,⟨Tryz.func176,rfl,rfl,jiw rfl⟩,?_⟩
 (conv=>whnf)
 (conv=>whnf)
 (try simp only[jiD])
 repeat ((first|refine V.s1 ?_|((try ((with_reducible refine .ext ?_);(conv=>whnf);(try simp only[jiD])));(with_reducible refine jaa (r:=?_) ?_ ?_);rotate_left;(focus (first|fail));(conv=>whnf))|(((simp only[pg];(conv=>whnf)));(conv=>whnf)));(try simp only[jiD]))
 refine⟨Pq20z,[],V.pok,.go (jab ?_)⟩
 (conv=>whnf)
 (try simp only[jiD,hkc])
 repeat ((first|refine V.s1 ?_|((try ((with_reducible refine .ext ?_);(conv=>whnf);(try simp only[jiD,hkc])));(with_reducible refine jaa (r:=?_) ?_ ?_);rotate_left;(focus (first|fail));(conv=>whnf))|(((simp only[pg];(conv=>whnf)));(conv=>whnf))|(((simp only[hb,ht,jjt,hf];(conv=>whnf)));(conv=>whnf)));(try simp only[jiD,hkc]))
 refine hok _ _ (Wk.renB 186 145 58 0 (l.length+1) 2 (by decide) (by decide) (by decide) (hf _) rfl rfl rfl ?_)
 exact V.wk
theorem jeK {c:Int}{fn:Nat}(hfn:(c=3∧fn=79)∨(c=4∧fn=80)∨(c=5∧fn=81)∨(c=6∧fn=82)∨(c=7∧fn=83))(p:List (Int×Int))(x l:List Rat)(u v:Rat)(k:Nat)(a:Int)(S T:List UInt8)(e:Int)(hk:k<p.length)(hp:p.length≤40)(hca:p.getD k (0,0)=(c,a))(hl:l.length≤16)
  (cf:Cl fn [.agg [.str (decZ u.num),.str (dec u.den)],.agg [.str (decZ v.num),.str (dec v.den)]] (.tup [.agg [.str S,.str T],.int .i64 e])) {K:K3}
  (hok:e=0 → ∀ L H,Wk 103 L H (slM p (k+1)) (hpF x (l.length+1) (fcl l++[.str S,.str T]))→K .normal L H)
  (hpan:e≠0 → ∀ L H,Wk 103 L H slE hpE→K (.panic [{ v := .iface 155 (.agg #[.int .i64 e]),recovered:=false }]) L H) :
  RunC Tryz.prog tb (inlN Tryz.prog tb 6) 42 ((jaF (Tryz.f49.body.getD .skip)).getD .skip) (fun _ _ _ _ _=>False) 103 (slM p k) (hpF x (l.length+2) (fcl (l++[u,v]))) K:=by
 have hkc:((k:Int)+1)=((k+1:Nat):Int):=by omega
 have hne:decide ((k:Int)=p.length)=false:=decide_eq_false (by omega)
 have pg:=jbD (l++[u,v])
 have tk:Cl 120 [.int .i64 c] (.tup [.int .i64 2,.bool true]):=by
  rcases hfn with⟨rfl,_⟩|⟨rfl,_⟩|⟨rfl,_⟩|⟨rfl,_⟩|⟨rfl,_⟩<;>exact jbf _
 have hr:(((l.length+2:Nat):Int)-2)=(l.length:Nat):=by omega
 have hble:Nat.ble (0+(l.length+2)*2) (fcl (l++[u,v])).length=true:=by rw[jca,ji2];simp
 have hsub:l.length+2-l.length=2:=by omega
 have hd0:∀ K,dropK (fcl (l++[u,v])) (l.length*2+Int.toNat 0*2) K=K (fcl [u,v]):=fun K=>jbr [u,v] K l
 have hd1:∀ K,dropK (fcl (l++[u,v])) (l.length*2+Int.toNat 1*2) K=K (fcl [v]):=fun K=>je6 l [v] u K
 rcases hfn with⟨rfl,rfl⟩|⟨rfl,rfl⟩|⟨rfl,rfl⟩|⟨rfl,rfl⟩|⟨rfl,rfl⟩
 all_goals
  (conv=>whnf)
  (try simp only[hne,jiD,hca])
  repeat ((first|refine V.s1 ?_|((try ((with_reducible refine .ext ?_);(conv=>whnf);(try simp only[hne,jiD,hca])));(with_reducible refine jaa (r:=?_) ?_ ?_);rotate_left;(focus (first|fail));(conv=>whnf))|(((simp only[pg];(conv=>whnf)));(conv=>whnf)));(try simp only[hne,jiD,hca]))
  refine .inl ?_
  (conv=>whnf)
  refine⟨0,_,_,⟨Tryz.func95,rfl,rfl,jiw rfl⟩,?_⟩
  (conv=>whnf)
  (conv=>whnf)
  (try simp only[jiD])
  repeat ((first|refine V.s1 ?_|((try ((with_reducible refine .ext ?_);(conv=>whnf);(try simp only[jiD])));(with_reducible refine jaa (r:=?_) ?_ ?_);rotate_left;(focus (first|exact(tk)));(conv=>whnf))|(((simp only[pg];(conv=>whnf)));(conv=>whnf)));(try simp only[jiD]))
  refine .inl ?_
  (conv=>whnf)
  refine⟨0,_,_,⟨Tryz.func177,rfl,rfl,jiw rfl⟩,?_⟩
  (conv=>whnf)
  (conv=>whnf)
  (try simp only[hr,jiD])
  repeat ((first|refine V.s1 ?_|((try ((with_reducible refine .ext ?_);(conv=>whnf);(try simp only[hr,jiD])));(with_reducible refine jaa (r:=?_) ?_ ?_);rotate_left;(focus (first|exact(tk)));(conv=>whnf))|(((simp only[pg];(conv=>whnf)));(conv=>whnf))|(((simp only[hr,jiD,hsub];(conv=>whnf)));(conv=>whnf))|(((simp only[hble];(conv=>whnf)));(conv=>whnf)));(try simp only[hr,jiD]))
  refine⟨Pq8z,[],V.pok,.go (jab ?_)⟩
  (conv=>whnf)
  (try simp only[jiD])
  repeat ((first|refine V.s1 ?_|((try ((with_reducible refine .ext ?_);(conv=>whnf);(try simp only[jiD])));(with_reducible refine jaa (r:=?_) ?_ ?_);rotate_left;(focus (first|fail));(conv=>whnf))|(((simp only[pg];(conv=>whnf)));(conv=>whnf)));(try simp only[jiD]))
  refine .inl ?_
  (conv=>whnf)
  refine⟨0,_,_,⟨Tryz.func163,rfl,rfl,jiw rfl⟩,?_⟩
  (conv=>whnf)
  (conv=>whnf)
  (try simp only[jiD])
  repeat ((first|refine V.s1 ?_|((try ((with_reducible refine .ext ?_);(conv=>whnf);(try simp only[jiD])));(with_reducible refine jaa (r:=?_) ?_ ?_);rotate_left;(focus (first|fail));(conv=>whnf))|(((simp only[pg];(conv=>whnf)));(conv=>whnf)));(try simp only[jiD]))
  refine⟨Pq16z,[],V.pok,.go (jab ?_)⟩
  (conv=>whnf)
  (try simp only[jiD,jiC])
  repeat ((first|refine V.s1 ?_|((try ((with_reducible refine .ext ?_);(conv=>whnf);(try simp only[jiD,jiC])));(with_reducible refine jaa (r:=?_) ?_ ?_);rotate_left;(focus (first|exact(cf)));(conv=>whnf))|(((simp only[pg];(conv=>whnf)));(conv=>whnf))|(((simp only[hd0];(conv=>whnf)));(conv=>whnf))|(((simp only[hd1];(conv=>whnf)));(conv=>whnf)));(try simp only[jiD,jiC]))
  refine .inl ?_
  (conv=>whnf)
  refine⟨0,_,_,⟨Tryz.func176,rfl,rfl,jiw rfl⟩,?_⟩
  (conv=>whnf)
  (conv=>whnf)
  (try simp only[jiD])
  repeat ((first|refine V.s1 ?_|((try ((with_reducible refine .ext ?_);(conv=>whnf);(try simp only[jiD])));(with_reducible refine jaa (r:=?_) ?_ ?_);rotate_left;(focus (first|fail));(conv=>whnf))|(((simp only[pg];(conv=>whnf)));(conv=>whnf)));(try simp only[jiD]))
  by_cases he:e=0
  ·refine jbE [(0,.box 58 0),(4,.box 200 0)] [(58,.box [.bsl 145 0 l.length 2,inF x,.fn 76 [] [],.mapr 44]),(145,.box (fcl l)),(200,.box [.str S,.str T]),(44,.mp esF),(114,.mp stepsF),(64,.box [.nil]),(65,.box [.int .i64 0])] (CondB.mk (fun h=>absurd he (by simpa using h)) (fun _=>?_)) ?_
   ·(conv=>whnf)
    exact Wk.trim 145 (l.length*2) rfl (Wk.same 145 rfl (jc4 l [u,v]) V.wk)
   ·have pg:=jbD l
    have hb:=jcC l
    have ht:=jaP hl
    have hf:∀ i,D.freeL i (fcl l++[.str S,.str T])=true:=jbJ l _ _
    (conv=>whnf)
    refine⟨Pq20z,[],V.pok,.go (jab ?_)⟩
    (conv=>whnf)
    (try simp only[jiD,hkc])
    repeat ((first|refine V.s1 ?_|((try ((with_reducible refine .ext ?_);(conv=>whnf);(try simp only[jiD,hkc])));(with_reducible refine jaa (r:=?_) ?_ ?_);rotate_left;(focus (first|fail));(conv=>whnf))|(((simp only[pg];(conv=>whnf)));(conv=>whnf))|(((simp only[hb,ht,jjt,hf];(conv=>whnf)));(conv=>whnf)));(try simp only[jiD,hkc]))
    refine hok he _ _ (Wk.renB 214 145 58 0 (l.length+1) 2 (by decide) (by decide) (by decide) (hf _) rfl rfl rfl ?_)
    exact V.wk
  ·refine Cnd.split (CondB.mk (fun _=>?_) (fun h=>absurd (by simpa using h) he))
   refine V.r0 @jiD ?_
   exact hpan he _ _ V.wk
end Go.Proofs.YtpkdedncgclblaaGreatDoor
end
