/- What functions of the program answer at given values, part 11. Conditions: those that each theorem names. -/
import Derived.Test.YtgjgpdceghjajaaGreatDoorSimplexWithinH10
import Derived.Test.YtgjgpdceghjajaaGreatDoorSimplexWithinH8
import Derived.Test.YtgjgpdceghjajaaGreatDoorSimplexWithinH7
import Derived.Test.YtgjgpdceghjajaaGreatDoorSimplexWithinH6
set_option linter.unusedSimpArgs false
set_option linter.unusedVariables false
set_option maxHeartbeats 8000000
set_option maxRecDepth 100000
section
namespace Go.Proofs.YtgjgpdceghjajaaGreatDoor
open Go Go.V Go.Nb
theorem fadd_ok (s t u v:List UInt8)(h:okP s t=true)(g:okP u v=true)(hn:(mg 1000000000 (qv s t+qv u v).num.natAbs).length≤90000000)(hd:(mg 1000000000 (qv s t+qv u v).den).length≤90000000):Cl 100 [.agg [.str s,.str t],.agg [.str u,.str v]] (frR (qv s t+qv u v)):=by
 have r1:=jbs s t h
 have r2:=jbs u v g
 have o:=add_c (qv s t) (qv u v) (qsize h) (qsize g)
 have w:=jdF (qv s t+qv u v) hn hd
 generalize qv s t+qv u v=q at *
 have ap:Cl 130 [.agg [.str s,.str t],.agg [.str u,.str v],.fn 138 [] []] (.tup [rtD q,.int .i64 0]):=by
  refine V.en tbOk Tryz.func130 ?_
  (conv=>whnf)
  refine V.st ?_
  repeat ((try ((with_reducible refine .ext ?_);(conv=>whnf)));(with_reducible refine jaa (r:=?_) ?_ ?_);rotate_left;(focus (first|exact(r1)|exact(r2)|exact(o)));(conv=>whnf);refine V.st ?_)
  exact Fin.of rfl
 have rs:Cl 129 [rtD q,.int .i64 0] (frR q):=by
  refine V.en tbOk Tryz.func129 ?_
  (conv=>whnf)
  refine V.st ?_
  repeat ((try ((with_reducible refine .ext ?_);(conv=>whnf)));(with_reducible refine jaa (r:=?_) ?_ ?_);rotate_left;(focus (first|exact(w)));(conv=>whnf);refine V.st ?_)
  exact Fin.of rfl
 refine V.en tbOk Tryz.func100 ?_
 (conv=>whnf)
 refine V.st ?_
 repeat ((try ((with_reducible refine .ext ?_);(conv=>whnf)));(with_reducible refine jaa (r:=?_) ?_ ?_);rotate_left;(focus (first|exact(ap)|exact(rs)));(conv=>whnf);refine V.st ?_)
 exact Fin.of rfl
theorem fsub_ok (s t u v:List UInt8)(h:okP s t=true)(g:okP u v=true)(hn:(mg 1000000000 (qv s t-qv u v).num.natAbs).length≤90000000)(hd:(mg 1000000000 (qv s t-qv u v).den).length≤90000000):Cl 99 [.agg [.str s,.str t],.agg [.str u,.str v]] (frR (qv s t-qv u v)):=by
 have r1:=jbs s t h
 have r2:=jbs u v g
 have o:=sub_c (qv s t) (qv u v) (qsize h) (qsize g)
 have w:=jdF (qv s t-qv u v) hn hd
 generalize qv s t-qv u v=q at *
 have ap:Cl 130 [.agg [.str s,.str t],.agg [.str u,.str v],.fn 137 [] []] (.tup [rtD q,.int .i64 0]):=by
  refine V.en tbOk Tryz.func130 ?_
  (conv=>whnf)
  refine V.st ?_
  repeat ((try ((with_reducible refine .ext ?_);(conv=>whnf)));(with_reducible refine jaa (r:=?_) ?_ ?_);rotate_left;(focus (first|exact(r1)|exact(r2)|exact(o)));(conv=>whnf);refine V.st ?_)
  exact Fin.of rfl
 have rs:Cl 129 [rtD q,.int .i64 0] (frR q):=by
  refine V.en tbOk Tryz.func129 ?_
  (conv=>whnf)
  refine V.st ?_
  repeat ((try ((with_reducible refine .ext ?_);(conv=>whnf)));(with_reducible refine jaa (r:=?_) ?_ ?_);rotate_left;(focus (first|exact(w)));(conv=>whnf);refine V.st ?_)
  exact Fin.of rfl
 refine V.en tbOk Tryz.func99 ?_
 (conv=>whnf)
 refine V.st ?_
 repeat ((try ((with_reducible refine .ext ?_);(conv=>whnf)));(with_reducible refine jaa (r:=?_) ?_ ?_);rotate_left;(focus (first|exact(ap)|exact(rs)));(conv=>whnf);refine V.st ?_)
 exact Fin.of rfl
theorem fmul_ok (s t u v:List UInt8)(h:okP s t=true)(g:okP u v=true)(hn:(mg 1000000000 (qv s t*qv u v).num.natAbs).length≤90000000)(hd:(mg 1000000000 (qv s t*qv u v).den).length≤90000000):Cl 85 [.agg [.str s,.str t],.agg [.str u,.str v]] (frR (qv s t*qv u v)):=by
 have r1:=jbs s t h
 have r2:=jbs u v g
 have o:=mul_c (qv s t) (qv u v) (qsize h) (qsize g)
 have w:=jdF (qv s t*qv u v) hn hd
 generalize qv s t*qv u v=q at *
 have ap:Cl 130 [.agg [.str s,.str t],.agg [.str u,.str v],.fn 131 [] []] (.tup [rtD q,.int .i64 0]):=by
  refine V.en tbOk Tryz.func130 ?_
  (conv=>whnf)
  refine V.st ?_
  repeat ((try ((with_reducible refine .ext ?_);(conv=>whnf)));(with_reducible refine jaa (r:=?_) ?_ ?_);rotate_left;(focus (first|exact(r1)|exact(r2)|exact(o)));(conv=>whnf);refine V.st ?_)
  exact Fin.of rfl
 have rs:Cl 129 [rtD q,.int .i64 0] (frR q):=by
  refine V.en tbOk Tryz.func129 ?_
  (conv=>whnf)
  refine V.st ?_
  repeat ((try ((with_reducible refine .ext ?_);(conv=>whnf)));(with_reducible refine jaa (r:=?_) ?_ ?_);rotate_left;(focus (first|exact(w)));(conv=>whnf);refine V.st ?_)
  exact Fin.of rfl
 refine V.en tbOk Tryz.func85 ?_
 (conv=>whnf)
 refine V.st ?_
 repeat ((try ((with_reducible refine .ext ?_);(conv=>whnf)));(with_reducible refine jaa (r:=?_) ?_ ?_);rotate_left;(focus (first|exact(ap)|exact(rs)));(conv=>whnf);refine V.st ?_)
 exact Fin.of rfl
theorem Q9.inv {k:Nat}{q:Rat}(h:Q9 k q)(h0:q.num≠0):Q9 k q⁻¹:=by
 obtain⟨p1,p2⟩:=jgY q h0
 constructor
 ·rw[p1]
  unfold S9
  have e:(if decide (q.num<0)=true then -(q.den:Int) else (q.den:Int)).natAbs=q.den:=by
   split<;>simp
  rw[e]
  exact h.2
 ·rw[p2];exact h.1
theorem fdiv_ok (s t u v:List UInt8)(h:okP s t=true)(g:okP u v=true)(h0:(qv u v).num≠0)(hn:(mg 1000000000 (qv s t/qv u v).num.natAbs).length≤90000000)(hd:(mg 1000000000 (qv s t/qv u v).den).length≤90000000):Cl 88 [.agg [.str s,.str t],.agg [.str u,.str v]] (frR (qv s t/qv u v)):=by
 have r1:=jbs s t h
 have r2:=jbs u v g
 have z1:=jdb (qv u v).num.natAbs
 rw[decide_eq_false (show ¬ (qv u v).num.natAbs=0 by omega)] at z1
 have i1:=inverse_c (qv u v) h0
 have o:=mul_c (qv s t) (qv u v)⁻¹ (qsize h) ((qsize g).inv h0)
 have w:=jdF (qv s t/qv u v) hn hd
 rw[Rat.div_def] at w ⊢
 unfold frR at *
 generalize qv s t*(qv u v)⁻¹=q at *
 generalize (qv u v)⁻¹=y at *
 refine V.en tbOk Tryz.func88 ?_
 (conv=>whnf)
 refine V.st ?_
 repeat ((try ((with_reducible refine .ext ?_);(conv=>whnf)));(with_reducible refine jaa (r:=?_) ?_ ?_);rotate_left;(focus (first|exact(r1)|exact(r2)|exact(z1)));(conv=>whnf);refine V.st ?_)
 refine⟨(V.tk [0,1] (V.e1 2 [0] (V.e1 3 [] (V.e1 4 [] (V.tk [5,6] (V.e1 7 [] (V.tk [8] .done))))))),[],V.pok,.go (jae ?_)⟩
 (conv=>whnf)
 refine V.st ?_
 repeat ((try ((with_reducible refine .ext ?_);(conv=>whnf)));(with_reducible refine jaa (r:=?_) ?_ ?_);rotate_left;(focus (first|exact(i1)|exact(o)|exact(w)));(conv=>whnf);refine V.st ?_)
 exact Fin.of rfl
def frT (x:Rat):D := .agg [.str (decZ x.num),.str (dec x.den)]
theorem jbc {q:Rat}(h:okF q=true):okP (decZ q.num) (dec q.den)=true∧qv (decZ q.num) (dec q.den)=q:=by
 unfold okF at h
 simp only[jit,decide_eq_true_eq] at h
 have hdz:dec q.den=decZ (q.den:Int):=by unfold decZ;rw[if_neg (by omega),jiR]
 have w1:wval (decZ q.num)=q.num:=jbz _
 have w2:wval (dec q.den)=(q.den:Int):=by rw[hdz];exact jbz _
 have o1:=jcm q.num h.1
 have o2:okW (dec q.den)=true:=by rw[hdz];exact jcm _ (by rw[jiR];exact h.2)
 have hp:=q.den_pos
 constructor
 ·unfold okP
  rw[o1,o2,w1,w2]
  simp only[jit,decide_eq_true_eq,Bool.true_and,jiR]
  exact⟨by omega,q.reduced⟩
 ·unfold qv
  rw[w1,w2]
  exact ji1 q
theorem je0 {q:Rat}(h:okF q=true):frR q = .tup [frT q,.int .i64 0]:=by
 unfold frR
 rw[h]
 rfl
theorem mg_fq {n:Nat}{q:Rat}(h:Fq n q)(h6:n≤600):(mg 1000000000 q.num.natAbs).length≤90000000∧(mg 1000000000 q.den).length≤90000000:=
 ⟨jiK (len9 (h.mono h6).1) (by omega),jiK (len9 (h.mono h6).2) (by omega)⟩
theorem zadd {a b:Nat}{p q:Rat}(h:Fq a p)(g:Fq b q)(ha:0<a)(hb:0<b)(hab:a+b+1≤600):Cl 100 [frT p,frT q] (.tup [frT (p+q),.int .i64 0]):=by
 obtain⟨o1,e1⟩:=jbc (h.ok ha (by omega))
 obtain⟨o2,e2⟩:=jbc (g.ok hb (by omega))
 have hs:=h.add g
 have hm:=mg_fq hs (by omega)
 have c:=fadd_ok _ _ _ _ o1 o2 (by rw[e1,e2];exact hm.1) (by rw[e1,e2];exact hm.2)
 rw[e1,e2,je0 (hs.ok (by omega) (by omega))] at c
 exact c
theorem zsub {a b:Nat}{p q:Rat}(h:Fq a p)(g:Fq b q)(ha:0<a)(hb:0<b)(hab:a+b+1≤600):Cl 99 [frT p,frT q] (.tup [frT (p-q),.int .i64 0]):=by
 obtain⟨o1,e1⟩:=jbc (h.ok ha (by omega))
 obtain⟨o2,e2⟩:=jbc (g.ok hb (by omega))
 have hs:=h.sub g
 have hm:=mg_fq hs (by omega)
 have c:=fsub_ok _ _ _ _ o1 o2 (by rw[e1,e2];exact hm.1) (by rw[e1,e2];exact hm.2)
 rw[e1,e2,je0 (hs.ok (by omega) (by omega))] at c
 exact c
theorem zmul {a b:Nat}{p q:Rat}(h:Fq a p)(g:Fq b q)(ha:0<a)(hb:0<b)(hab:a+b+1≤600):Cl 85 [frT p,frT q] (.tup [frT (p*q),.int .i64 0]):=by
 obtain⟨o1,e1⟩:=jbc (h.ok ha (by omega))
 obtain⟨o2,e2⟩:=jbc (g.ok hb (by omega))
 have hs:=h.mul g
 have hm:=mg_fq hs (by omega)
 have c:=fmul_ok _ _ _ _ o1 o2 (by rw[e1,e2];exact hm.1) (by rw[e1,e2];exact hm.2)
 rw[e1,e2,je0 (hs.ok (by omega) (by omega))] at c
 exact c
theorem zdiv {a b:Nat}{p q:Rat}(h:Fq a p)(g:Fq b q)(h0:q.num≠0)(ha:0<a)(hb:0<b)(hab:a+b+1≤600):Cl 88 [frT p,frT q] (.tup [frT (p/q),.int .i64 0]):=by
 obtain⟨o1,e1⟩:=jbc (h.ok ha (by omega))
 obtain⟨o2,e2⟩:=jbc (g.ok hb (by omega))
 have hs:=h.div g h0
 have hm:=mg_fq hs (by omega)
 have c:=fdiv_ok _ _ _ _ o1 o2 (by rw[e2];exact h0) (by rw[e1,e2];exact hm.1) (by rw[e1,e2];exact hm.2)
 rw[e1,e2,je0 (hs.ok (by omega) (by omega))] at c
 exact c
theorem zcmp {a b:Nat}{p q:Rat}(h:Fq a p)(g:Fq b q)(ha:0<a∧a≤600)(hb:0<b∧b≤600):Cl 127 [frT p,frT q] (.tup [.int .i64 (ordQ p q),.int .i64 0]):=by
 obtain⟨o1,e1⟩:=jbc (h.ok ha.1 ha.2)
 obtain⟨o2,e2⟩:=jbc (g.ok hb.1 hb.2)
 have c:=fcmp_ok _ _ _ _ o1 o2
 rw[e1,e2] at c
 exact c
abbrev Tx:=List UInt8×List UInt8
def okX (x:Tx):Bool:=okP x.1 x.2
def qX (x:Tx):Rat:=qv x.1 x.2
def BdX (n:Nat)(x:Tx):Prop:=(x.1.length≤281474976710656∧x.2.length≤281474976710656)∧(okX x=true→Fq n (qX x))
theorem BdX.mono {m n:Nat}{x:Tx}(h:BdX m x)(hl:m≤n):BdX n x:=⟨h.1,fun g=>(h.2 g).mono hl⟩
structure Sg (s d:List UInt8)(j:Nat)(neg:Bool):Prop where
 hj:j=if neg then 1 else 0
 hl:s.length=d.length+j
 hg:∀ i,s.getD (i+j) 0=d.getD i 0
 h0:(0<s.length∧s.getD 0 0=45)↔neg=true
theorem sg_of (s:List UInt8):∃ d j neg,Sg s d j neg∧okW s=okD d neg∧wval s=if neg then -(rdv d:Int) else rdv d:=by
 cases s with
 | nil=>exact⟨[],0,false,⟨rfl,rfl,fun i=>rfl,by simp⟩,rfl,rfl⟩
 | cons c r=>
  by_cases hc:c=45
  ·subst hc
   have h1:Go.Lib.hasPrefix (45::r) [45]=true:=by simp[Go.Lib.hasPrefix]
   have h2:Go.Lib.trimPrefix (45::r) [45]=r:=by unfold Go.Lib.trimPrefix;rw[h1];rfl
   refine⟨r,1,true,⟨rfl,by simp,fun i=>by simp,by simp⟩,?_,?_⟩
   ·unfold okW;rw[h1,h2]
   ·unfold wval;rw[h1,h2]
  ·have h1:Go.Lib.hasPrefix (c::r) [45]=false:=by
    show List.isPrefixOf [45] (c::r)=false
    simp only[List.isPrefixOf,Bool.and_true,beq_eq_false_iff_ne]
    exact Ne.symm hc
   have h2:Go.Lib.trimPrefix (c::r) [45]=c::r:=by unfold Go.Lib.trimPrefix;rw[h1];rfl
   refine⟨c::r,0,false,⟨rfl,by simp,fun i=>by simp,by simp[hc]⟩,?_,?_⟩
   ·unfold okW;rw[h1,h2]
   ·unfold wval;rw[h1,h2]
theorem u8_eq (c:UInt8)(n:Nat)(hn:n<256):decide (((c.toNat:Nat):Int)=n)=decide (c=UInt8.ofNat n):=decide_eq_decide.2 ⟨fun h=>UInt8.toNat_inj.1 (by rw[UInt8.toNat_ofNat_of_lt' (by simpa using hn)];omega),fun h=>by rw[h,UInt8.toNat_ofNat_of_lt' (by simpa using hn)]⟩
theorem right01_g (s d:List UInt8)(j:Nat)(neg:Bool)(S:Sg s d j neg)(hs:s.length≤281474976710656):Cl 105 [.str s] (.bool (okD d neg)):=by
 obtain⟨hj,hl,hg,h0⟩:=S
 have hJ:j≤1:=by rw[hj];split<;>omega
 have e0:(0:Int).toNat=0:=rfl
 have q45:decide (((s.getD 0 0).toNat:Int)=45)=decide (s.getD 0 0=45):=u8_eq _ 45 (by omega)
 have qn:(decide ((s.length:Int)>0) && decide (s.getD 0 0=45))=neg:=by
  rw[Bool.eq_iff_iff,← h0,jit,decide_eq_true_eq,decide_eq_true_eq]
  exact and_congr_left' (by omega)
 refine V.en tbOk Tryz.func105 ?_
 refine V.r0 (V.a3 e0 q45 qn) ?_
 refine ja9 [(3,.int .i64 j)] [] (CondB.mk (fun hq=>?_) (fun hq=>?_)) ?_
 ·subst hq
  rw[if_pos rfl] at hj
  subst hj
  (conv=>whnf)
  refine V.st ?_
  exact V.wk
 ·subst hq
  rw[if_neg (by simp)] at hj
  subst hj
  (conv=>whnf)
  refine V.st ?_
  exact V.wk
 have hsl:(s.length:Int)-j=d.length:=by omega
 clear q45 qn h0
 refine V.r0 hsl ?_
 refine V.br (fun hq=>?_) (fun hq=>?_)
 ·simp only[Bool.or_eq_true,decide_eq_true_eq] at hq
  have hf:okD d neg=false:=by
   unfold okD
   rcases hq with h|h
   ·rw[decide_eq_true (show d.length=0 by omega)];rfl
   ·rw[decide_eq_true (show 600<d.length by omega),Bool.or_true];rfl
  rw[hf]
  (conv=>whnf)
  refine V.st ?_
  exact Fin.of rfl
 ·simp only[jiL,decide_eq_false_iff_not] at hq
  (conv=>whnf)
  refine V.st ?_
  refine jac (0:Nat) (fun k=>k≤d.length ∧ ∀ i,i<k→isDig (d.getD i 0)=true) (fun k=>d.length-k) (fun k=>[(5,.int .i64 ((k+j:Nat):Int))]) (fun _=>[]) ?_ ?_ ?_
  ·rw[jiA]
   exact V.wk
  ·exact⟨jiv _,fun i hi=>by omega⟩
  intro k hk
  have hkc:(((k+j:Nat):Int)+1)=((k+1+j:Nat):Int):=by omega
  have hkt:((k+j:Nat):Int).toNat=k+j:=by omega
  (conv=>whnf)
  refine V.st ?_
  refine V.br (fun hq2=>?_) (fun hq2=>?_)
  ·rw[decide_eq_true_eq] at hq2
   have hdl:=dig_lo (d.getD k 0)
   have hgk:=hg k
   generalize hc:d.getD k 0=c at *
   refine V.r0 (V.a3 hkt hgk hkc) ?_
   refine V.br (fun hq3=>?_) (fun hq3=>?_)
   ·rw[Bool.or_eq_true,decide_eq_true_eq,decide_eq_true_eq] at hq3
    have hf:okD d neg=false:=by
     have h1:d.all isDig=false:=by
      rw[List.all_eq_false]
      refine⟨c,?_,fun h=>by have:=hdl.1 h;omega⟩
      rw[← hc,ji5,ji8 (by omega)]
      exact List.getElem_mem _
     unfold okD
     rw[h1,Bool.and_false,Bool.false_and]
    rw[hf]
    (conv=>whnf)
    refine V.st ?_
    exact Fin.of rfl
   ·rw[jiL,decide_eq_false_iff_not,decide_eq_false_iff_not] at hq3
    refine V.r0 hkc ?_
    refine⟨k+1,⟨by omega,fun i hi=>?_⟩,by omega,V.wk⟩
    rcases jiJ i k with h|h
    ·exact hk.2 i h
    ·obtain rfl:i=k:=by omega
     rw[hc];exact hdl.2 (by omega)
  ·rw[decide_eq_false_iff_not] at hq2
   obtain rfl:k=d.length:=by omega
   have hall:∀ c∈d,isDig c=true:=fun c hc=>by
    obtain⟨i,hi,e⟩:=List.getElem_of_mem hc
    have:=hk.2 i hi
    rw[ji5,ji8 hi] at this
    rw[← e];exact this
   have hok:okD d neg = !(decide (d.getD 0 0=48) && (neg || decide (1<d.length))):=by
    unfold okD
    rw[ji4.2 hall,decide_eq_false (show ¬ d.length=0 by omega),decide_eq_false (show ¬ 600<d.length by omega)]
    rfl
   have hu:decide ((((d.getD 0 0).toNat:Nat):Int)=48)=decide (d.getD 0 0=48):=u8_eq _ 48 (by omega)
   have hg0:=hg 0
   rw[jiA] at hg0
   have hll:decide ((s.length:Int)=1) = !(neg || decide (1<d.length)):=by
    by_cases hn:neg=true
    ·subst hn
     rw[if_pos rfl] at hj
     rw[decide_eq_false (by omega)]
     rfl
    ·rw[if_neg hn] at hj
     rw[Bool.eq_false_iff.2 hn,Bool.false_or]
     by_cases h1:1<d.length
     ·rw[decide_eq_true h1,decide_eq_false (by omega)];rfl
     ·rw[decide_eq_false h1,decide_eq_true (by omega)];rfl
   have hu2:decide ((((d.getD 0 0).toNat:Nat):Int)≠48) = !decide (d.getD 0 0=48):=by rw[← hu,decide_not]
   have hne:(!decide (d.getD 0 0=48) || !(neg || decide (1<d.length)))=okD d neg:=by rw[hok,Bool.not_and]
   refine V.r0 (V.a5 @jiC hg0 hu2 hll hne) ?_
   exact Fin.of rfl
theorem rdv_chunk (d:List UInt8)(hd:∀ c∈d,isDig c=true)(m:Nat)(hm:m≤d.length):rdv (d.take m)/10000=rdv (d.take (m-4))∧rdv (d.take m)%10000=rdv ((d.take m).drop (m-4)):=by
 have e:d.take m=d.take (m-4)++(d.take m).drop (m-4):=by
  conv=>lhs;rw[← List.take_append_drop (m-4) (d.take m),List.take_take,Nat.min_eq_left (by omega)]
 have hb:=jeD (s:=(d.take m).drop (m-4)) (fun c hc=>hd c (jjg (jjf hc)))
 have hl:((d.take m).drop (m-4)).length=m-(m-4):=by rw[jjp,jjb];omega
 rw[hl] at hb
 have ev:rdv (d.take m)=rdv (d.take (m-4))*10^(m-(m-4))+rdv ((d.take m).drop (m-4)):=by
  conv=>lhs;rw[e]
  rw[jbf,hl]
 rw[ev]
 generalize rdv ((d.take m).drop (m-4))=y at *
 rcases (by omega:m<4∨4≤m) with h|h
 ·have h0:m-4=0:=by omega
  have h10:10^(m-(m-4))≤10000:=by
   rw[h0]
   rcases (by omega:m=0∨m=1∨m=2∨m=3) with e|e|e|e<;>subst e<;>decide
  rw[h0,List.take_zero,show rdv []=0 from rfl,Nat.zero_mul]
  omega
 ·rw[show m-(m-4)=4 by omega,show (10:Nat)^4=10000 from rfl] at *
  omega
theorem rdv_next (d:List UInt8)(lo k:Nat)(h1:lo≤k)(h2:k<d.length):rdv ((d.take (k+1)).drop lo)=rdv ((d.take k).drop lo)*10+((d.getD k 0).toNat-48):=by
 have e:(d.take (k+1)).drop lo=(d.take k).drop lo++[d.getD k 0]:=by
  rw[jjr,ji8 h2,List.drop_append_of_le_length (by rw[jjb];omega),ji5,ji8 h2]
  rfl
 rw[e,jbf,jdJ]
 rfl
theorem in01_g (s d:List UInt8)(j:Nat)(neg:Bool)(S:Sg s d j neg)(hd:∀ c∈d,isDig c=true)(hdl:d.length≤600)(hs0:0<s.length) :
  Cl 73 [.str s] (plD (if neg then -(rdv d:Int) else rdv d)):=by
 obtain⟨hj,hl,hg,h0⟩:=S
 have hJ:j≤1:=by rw[hj];split<;>omega
 have e0:(0:Int).toNat=0:=rfl
 have q45:decide (((s.getD 0 0).toNat:Int)=45)=neg:=by
  rw[show (45:Int)=((45:Nat):Int) from rfl,u8_eq _ 45 (by omega),Bool.eq_iff_iff,← h0,decide_eq_true_eq]
  exact⟨fun h=>⟨hs0,h⟩,fun h=>h.2⟩
 refine V.en tbOk Tryz.func73 ?_
 refine V.r0 (V.a2 e0 q45) ?_
 refine ja9 [(3,.int .i64 j)] [] (CondB.mk (fun hq=>?_) (fun hq=>?_)) ?_
 ·subst hq
  rw[if_pos rfl] at hj
  subst hj
  (conv=>whnf)
  refine V.st ?_
  exact V.wk
 ·subst hq
  rw[if_neg (by simp)] at hj
  subst hj
  (conv=>whnf)
  refine V.st ?_
  exact V.wk
 (conv=>whnf)
 refine V.st ?_
 refine Lp.ghostSlot 38 4 .i64 (by decide) ?_
 (conv=>whnf)
 refine jac (((s.length:Int),d.length,[]):Int×Nat×List Int) (fun st=>st.2.1≤d.length∧(st.1=(st.2.1+j:Nat)∨(st.2.1=0∧st.1<j∧(j:Int)-4≤st.1))∧val 10000 st.2.2+((10000:Nat):Int)^st.2.2.length*((rdv (d.take st.2.1):Nat):Int)=((rdv d:Nat):Int)∧Dg 10000 st.2.2∧st.2.2.length+(st.2.1+3)/4≤151) (fun st=>st.2.1) (fun st=>[(5,.int .i64 st.1),(4,.osl 38 0 st.2.2.length)]) (fun st=>[(38,.arr .i64 st.2.2)]) ?_ ?_ ?_
 ·exact V.wk
 ·exact⟨jiD _,.inl (by dsimp only;omega),by simp[val],fun x hx=>by simp at hx,by dsimp only [List.length_nil];omega⟩
 rintro⟨e,m,out⟩ ⟨h1,h2,h3,h4,h5⟩
 dsimp only at h1 h2 h3 h4 h5 ⊢
 (conv=>whnf)
 refine V.st ?_
 refine V.br (fun hq=>?_) (fun hq=>?_)
 ·rw[decide_eq_true_eq] at hq
  have he:e=((m+j:Nat):Int):=by omega
  have hm0:0<m:=by omega
  subst he
  obtain⟨lo,hlo⟩:∃ lo,lo=m-4:=⟨_,rfl⟩
  have hmx:max (((m+j:Nat):Int)-4) (j:Int)=((lo+j:Nat):Int):=by omega
  have hch:=rdv_chunk d hd m h1
  rw[← hlo] at hch
  have hst:=jeo (B:=10000) (by omega) h3
  rw[hch.1,hch.2] at hst
  have hbd:∀ i,lo+i≤m→rdv ((d.take (lo+i)).drop lo)<10000:=fun i hi=>by
   have hl1:((d.take (lo+i)).drop lo).length≤4:=by rw[jjp,jjb];omega
   have:=jeD (s:=(d.take (lo+i)).drop lo) (fun c hc=>hd c (jjg (jjf hc)))
   have h2:(10:Nat)^((d.take (lo+i)).drop lo).length≤10^4:=jiS (by omega) hl1
   omega
  have hnx:∀ i,lo+i<m→rdv ((d.take (lo+(i+1))).drop lo)=rdv ((d.take (lo+i)).drop lo)*10+((d.getD (lo+i) 0).toNat-48):=fun i hi=>by
   rw[← Nat.add_assoc]
   exact rdv_next d lo (lo+i) (by omega) (by omega)
  have hx0:rdv ((d.take (lo+0)).drop lo)=0:=by
   have hnil:(d.take lo).drop lo=[]:=List.drop_eq_nil_of_le (by rw[jjb];omega)
   rw[Nat.add_zero,hnil];rfl
  refine V.r0 hmx ?_
  refine jac (0:Nat) (fun i=>lo+i≤m) (fun i=>m-(lo+i)) (fun i=>[(7,.int .i64 ((lo+i+j:Nat):Int)),(6,.int .i64 ((rdv ((d.take (lo+i)).drop lo):Nat):Int))]) (fun _=>[]) ?_ ?_ ?_
  ·rw[hx0]
   exact V.wk
  ·show lo+0≤m
   omega
  intro i hi
  have hi2:=hbd i hi
  (conv=>whnf)
  refine V.st ?_
  refine V.br (fun hq2=>?_) (fun hq2=>?_)
  ·rw[decide_eq_true_eq] at hq2
   have hn2:=hnx i (by omega)
   have hgi:=hg (lo+i)
   have hdc:isDig (d.getD (lo+i) 0)=true:=hd _ (by rw[ji5,ji8 (by omega)];exact List.getElem_mem _)
   have hdl2:=(dig_lo _).1 hdc
   have hi3:=hbd (i+1) (by omega)
   generalize d.getD (lo+i) 0=c at *
   have hkt:((lo+i+j:Nat):Int).toNat=lo+i+j:=by omega
   have hkc:(((lo+i+j:Nat):Int)+1)=((lo+(i+1)+j:Nat):Int):=by omega
   have hsum:((rdv ((d.take (lo+i)).drop lo):Nat):Int)*10+((c.toNat:Int)-48)=((rdv ((d.take (lo+(i+1))).drop lo):Nat):Int):=by
    rw[hn2];omega
   refine V.r0 (V.a4 hkt hgi hkc hsum) ?_
   exact⟨i+1,by omega,by omega,V.wk⟩
  ·rw[decide_eq_false_iff_not] at hq2
   have hmi:lo+i=m:=by omega
   rw[hmi]
   have hl2:(out++[((rdv ((d.take m).drop lo):Nat):Int)]).length=out.length+1:=by simp
   have hl3:out.length+(List.take 1 (List.drop 0 [((rdv ((d.take m).drop lo):Nat):Int)])).length=(out++[((rdv ((d.take m).drop lo):Nat):Int)]).length:=by simp
   have hdg:Dg 10000 (out++[((rdv ((d.take m).drop lo):Nat):Int)]):=jah h4 (jav ⟨by omega,by have:=hbd i hi;rw[hmi] at this;omega⟩)
   refine V.r0 hl3 ?_
   try refine And.intro (fun _=>⟨trivial,by omega⟩) ?_
   refine V.r0 hl3 ?_
   exact⟨(((m+j:Nat):Int)-4,lo,out++[((rdv ((d.take m).drop lo):Nat):Int)]),⟨by dsimp only;omega,by dsimp only;omega,hst,hdg,by dsimp only;omega⟩,by dsimp only;omega,V.wk⟩
 ·rw[decide_eq_false_iff_not] at hq
  have hm0:m=0:=by omega
  subst hm0
  have hv:val 10000 out=((rdv d:Nat):Int):=by
   rw[List.take_zero,show rdv []=0 from rfl] at h3
   simpa using h3
  have hmd:=jeP neg out h4 (by omega)
  rw[hv] at hmd
  have e1:decide ((j:Int)=1)=neg:=by
   cases neg with
   | true=>rw[if_pos rfl] at hj;rw[hj];rfl
   | false=>rw[if_neg (by simp)] at hj;rw[hj];rfl
  refine V.r1 (V.a2 @e1 @jjs) hmd ?_
  exact Fin.of rfl
theorem in01_c (s:List UInt8)(h:okW s=true):Cl 73 [.str s] (plD (wval s)):=by
 obtain⟨d,j,neg,S,e1,e2⟩:=sg_of s
 rw[e2]
 rw[e1] at h
 unfold okD at h
 simp only[jit,Bool.not_eq_true',jiL,decide_eq_false_iff_not,ji4] at h
 exact in01_g s d j neg S h.1.2 (by omega) (by have:=S.hl;omega)
theorem sm_wval {s:List UInt8}(h:okW s=true):Sm 151 (wval s):=by
 obtain⟨d,j,neg,S,e1,e2⟩:=sg_of s
 rw[e1] at h
 unfold okD at h
 simp only[jit,Bool.not_eq_true',jiL,decide_eq_false_iff_not,ji4] at h
 have hlt:=jeD (s:=d) h.1.2
 have h2:∀ k,d.length≤4*k→rdv d<10000^k:=fun k hk=>by
  refine jiI hlt ?_
  rw[show (10000:Nat)=10^4 from rfl,← Nat.pow_mul]
  exact jiS (by omega) hk
 have e:(wval s).natAbs=rdv d:=by
  rw[e2];split<;>omega
 unfold Sm
 rw[e]
 exact jaw (by omega) (h2 151 (by omega))
theorem q4_qv {s t:List UInt8}(h:okP s t=true):Q4 151 (qv s t):=by
 obtain⟨h1,h2,h3,h4⟩:=jd1 h
 obtain⟨p1,p2⟩:=jcO h
 exact⟨by rw[p1];exact sm_wval h1,by rw[p2];exact(sm_wval h2).le (by omega)⟩
theorem in02_c (s t:List UInt8)(h:okP s t=true):Cl 64 [.agg [.str s,.str t]] (raD (qv s t)):=by
 obtain⟨h1,h2,h3,h4⟩:=jd1 h
 obtain⟨p1,p2⟩:=jcO h
 have i1:=in01_c s h1
 have i2:=in01_c t h2
 unfold raD
 rw[p1,p2]
 unfold plD at i1 i2
 rw[decide_eq_false (show ¬ wval t<0 by omega)] at i2
 refine V.en tbOk Tryz.func64 ?_
 (conv=>whnf)
 refine V.st ?_
 refine⟨Pq53z,[],V.pok,.go (jae ?_)⟩
 (conv=>whnf)
 refine V.st ?_
 repeat ((try ((with_reducible refine .ext ?_);(conv=>whnf)));(with_reducible refine jaa (r:=?_) ?_ ?_);rotate_left;(focus (first|exact(i1)|exact(i2)));(conv=>whnf);refine V.st ?_)
 exact Fin.of rfl
theorem y_one:Fq 1 1:=⟨by decide,by decide⟩
theorem y_small {n m:Int}(hn : -9223372036854775807≤n∧n≤9223372036854775807)(hm:1≤m∧m≤9223372036854775807):Fq 20 (Rat.divInt n m):=by
 obtain⟨d,rfl⟩:∃ d:Nat,m=d:=⟨m.toNat,by omega⟩
 exact jaM (by omega) (by omega) (by omega)
theorem y_of {n m:Int}(hn : -9223372036854775807≤n∧n≤9223372036854775807)(hm:1≤m∧m≤9223372036854775807):Cl 97 [.int .i64 n,.int .i64 m] (.tup [frT (Rat.divInt n m),.int .i64 0]):=by
 rw[← je0 ((y_small hn hm).ok (by omega) (by omega))]
 exact of_c n m (by simp[InR,V.lo,V.hi];omega) (by simp[InR,V.lo,V.hi];omega) (by omega)
theorem y_rof {n m:Int}(hn : -9223372036854775807≤n∧n≤9223372036854775807)(hm:1≤m∧m≤9223372036854775807):Cl 46 [.int .i64 n,.int .i64 m] (.tup [frT (Rat.divInt n m),.int .i64 0]):=by
 rw[← je0 ((y_small hn hm).ok (by omega) (by omega))]
 exact of02_c n m (by simp[InR,V.lo,V.hi];omega) (by simp[InR,V.lo,V.hi];omega) (by omega)
def sm (f:Nat→Rat):Nat→Rat
 | 0=>0
 | k+1=>sm f k+f k
theorem jbj {f g:Nat→Rat} : ∀ {k:Nat},(∀ i,i<k→f i=g i)→sm f k=sm g k
 | 0,_=>rfl
 | k+1,h=>by
  simp only[sm]
  rw[jbj (k:=k) fun i hi=>h i (by omega),h k (by omega)]
theorem jfA (f g:Nat→Rat):∀ k,sm (fun i=>f i+g i) k=sm f k+sm g k
 | 0=>by simp only[sm];grind
 | k+1=>by
  simp only[sm]
  rw[jfA f g k]
  grind
theorem jfz (c:Rat)(f:Nat→Rat):∀ k,sm (fun i=>c*f i) k=c*sm f k
 | 0=>by simp only[sm];grind
 | k+1=>by
  simp only[sm]
  rw[jfz c f k]
  grind
theorem jdf (c:Rat):∀ k:Nat,sm (fun _=>c) k=((k:Int):Rat)*c
 | 0=>by simp[sm]
 | k+1=>by
  simp only[sm]
  rw[jdf c k,Int.natCast_add,Rat.intCast_add]
  grind
theorem jgJ (R:Nat):∀ k,R≤k→sm (fun t=>if t<R then 1 else 0) k=((R:Int):Rat)
 | 0,h=>by
  have:R=0:=by omega
  subst this
  simp[sm]
 | k+1,h=>by
  simp only[sm]
  by_cases e:R=k+1
  ·subst e
   rw[if_pos (by omega),jbj (g:=fun _=>1) fun i hi=>if_pos (by omega),jdf,Int.natCast_add,Rat.intCast_add]
   grind
  ·rw[if_neg (by omega),jgJ R k (by omega)]
   grind
theorem sm_le {f g:Nat→Rat} : ∀ {k:Nat},(∀ i,i<k→f i≤g i)→sm f k≤sm g k
 | 0,_=>Rat.le_refl
 | k+1,h=>by
  simp only[sm]
  have h1:=sm_le (k:=k) fun i hi=>h i (by omega)
  have h2:=h k (by omega)
  grind
theorem lvl {N b R t:Int}(hN:0<N)(h0:0≤R)(h1:R≤N)(t0:0≤t)(t1:t<N):(b*N+R-1-t)/N+1=b+(if t<R then 1 else 0):=by
 by_cases h:t<R
 ·rw[if_pos h,show b*N+R-1-t=(R-1-t)+N*b by rw[jiO];omega,Int.add_mul_ediv_left _ _ (by omega),Int.ediv_eq_zero_of_lt (by omega) (by omega)]
  omega
 ·rw[if_neg h,show b*N+R-1-t=(R-1-t+N)+N*(b-1) by rw[Int.mul_sub,Int.mul_one,jiO];omega,Int.add_mul_ediv_left _ _ (by omega),Int.ediv_eq_zero_of_lt (by omega) (by omega)]
  omega
def lvF (v:Int→Int→Int→Rat)(N:Nat)(P Q R:Int):Rat:=sm (fun t=>v ((P-1-t)/N+1) ((Q-1-t)/N+1) ((R-1-t)/N+1)) N
theorem jdS {N A B C:Nat}(hA:A≤N)(hB:B≤A)(hC:C≤B)(v0 v1 v2 v3:Rat) :
  sm (fun t=>if t<C then v3 else if t<B then v2 else if t<A then v1 else v0) N=(((N:Int):Rat)-((A:Int):Rat))*v0+(((A:Int):Rat)-((B:Int):Rat))*v1+(((B:Int):Rat)-((C:Int):Rat))*v2+((C:Int):Rat)*v3:=by
 have e:∀ t,(if t<C then v3 else if t<B then v2 else if t<A then v1 else v0)=v0+((v1-v0)*(if t<A then 1 else 0)+((v2-v1)*(if t<B then 1 else 0)+(v3-v2)*(if t<C then 1 else 0))):=fun t=>by
  by_cases h1:t<C
  ·rw[if_pos h1,if_pos h1,if_pos (show t<B by omega),if_pos (show t<A by omega)];grind
  ·rw[if_neg h1,if_neg h1]
   by_cases h2:t<B
   ·rw[if_pos h2,if_pos h2,if_pos (show t<A by omega)];grind
   ·rw[if_neg h2,if_neg h2]
    by_cases h3:t<A
    ·rw[if_pos h3,if_pos h3];grind
    ·rw[if_neg h3,if_neg h3];grind
 rw[jbj fun t _=>e t,jfA,jfA,jfA,jdf,jfz,jfz,jfz,jgJ A N hA,jgJ B N (by omega),jgJ C N (by omega)]
 grind
def ord3 (r0 r1 r2:Rat):List Int:=
 if r0<r1 then (if r0<r2 then (if r1<r2 then [2,1,0] else [1,2,0]) else [1,0,2])
 else (if r1<r2 then (if r0<r2 then [2,0,1] else [0,2,1]) else [0,1,2])
def ord2 (r0 r1:Rat):List Int:=if r0<r1 then [1,0] else [0,1]
def sel (r0 r1 r2:Rat)(i:Int):Rat:=if i=0 then r0 else if i=1 then r1 else r2
def bmp (b:Int×Int×Int)(i:Int):Int×Int×Int:=if i=0 then (b.1+1,b.2.1,b.2.2) else if i=1 then (b.1,b.2.1+1,b.2.2) else (b.1,b.2.1,b.2.2+1)
def vat (v:Int→Int→Int→Rat)(b:Int×Int×Int):Rat:=v b.1 b.2.1 b.2.2
def evO (v:Int→Int→Int→Rat)(b:Int×Int×Int)(r0 r1 r2:Rat)(i j k:Int):Rat:=
 (1-sel r0 r1 r2 i)*vat v b+(sel r0 r1 r2 i-sel r0 r1 r2 j)*vat v (bmp b i)+(sel r0 r1 r2 j-sel r0 r1 r2 k)*vat v (bmp (bmp b i) j)+sel r0 r1 r2 k*vat v (bmp (bmp (bmp b i) j) k)
def evL (v:Int→Int→Int→Rat)(b:Int×Int×Int)(r0 r1 r2:Rat)(o:List Int):Rat:=evO v b r0 r1 r2 (o.getD 0 0) (o.getD 1 0) (o.getD 2 0)
theorem lvlN {N R t:Nat}{b:Int}(hN:0<N)(h1:R≤N)(t1:t<N):(b*N+R-1-t)/N+1=b+(if t<R then 1 else 0):=by
 have h:=lvl (N:=N) (b:=b) (R:=R) (t:=t) (by omega) (by omega) (by omega) (by omega) (by omega)
 rw[h]
 by_cases g:t<R
 ·rw[if_pos g,if_pos (by omega)]
 ·rw[if_neg g,if_neg (by omega)]
theorem jc2 {N:Nat}(h:0<N):((N:Int):Rat)≠0:=by
 intro e
 have:(N:Int)=0:=by exact_mod_cast e
 omega
theorem ev_210 {N A0 A1 A2:Nat}{b0 b1 b2:Int}(hN:0<N)(hA:A2≤N)(hB:A1≤A2)(hC:A0≤A1)(v:Int→Int→Int→Rat) :
  ((N:Int):Rat)*evO v (b0,b1,b2) (((A0:Int):Rat)/((N:Int):Rat)) (((A1:Int):Rat)/((N:Int):Rat)) (((A2:Int):Rat)/((N:Int):Rat)) 2 1 0=lvF v N (b0*N+A0) (b1*N+A1) (b2*N+A2):=by
 have hz:=jc2 hN
 have key:=jdS hA hB hC (v b0 b1 b2) (v b0 b1 (b2+1)) (v b0 (b1+1) (b2+1)) (v (b0+1) (b1+1) (b2+1))
 unfold lvF
 rw[jbj (g:=fun t=>if t<A0 then v (b0+1) (b1+1) (b2+1) else if t<A1 then v b0 (b1+1) (b2+1) else if t<A2 then v b0 b1 (b2+1) else v b0 b1 b2) fun t ht=>by
  rw[lvlN hN (show A0≤N by omega) ht,lvlN hN (show A1≤N by omega) ht,lvlN hN (show A2≤N by omega) ht]
  by_cases h1:t<A0
  ·rw[if_pos h1,if_pos h1,if_pos (show t<A2 by omega),if_pos (show t<A1 by omega)]
  ·by_cases h2:t<A1
   ·rw[if_neg h1,if_neg h1,if_pos h2,if_pos h2,if_pos (show t<A2 by omega)]
    simp only[jiV]
   ·by_cases h3:t<A2
    ·rw[if_neg h1,if_neg h1,if_neg h2,if_neg h2,if_pos h3,if_pos h3]
     simp only[jiV]
    ·rw[if_neg h1,if_neg h1,if_neg h2,if_neg h2,if_neg h3,if_neg h3]
     simp only[jiV],key]
 simp only[evO,sel,bmp,vat]
 simp
 generalize v b0 b1 b2=w0
 generalize v b0 b1 (b2+1)=w1
 generalize v b0 (b1+1) (b2+1)=w2
 generalize v (b0+1) (b1+1) (b2+1)=w3
 grind
theorem ev_120 {N A0 A1 A2:Nat}{b0 b1 b2:Int}(hN:0<N)(hA:A1≤N)(hB:A2≤A1)(hC:A0≤A2)(v:Int→Int→Int→Rat) :
  ((N:Int):Rat)*evO v (b0,b1,b2) (((A0:Int):Rat)/((N:Int):Rat)) (((A1:Int):Rat)/((N:Int):Rat)) (((A2:Int):Rat)/((N:Int):Rat)) 1 2 0=lvF v N (b0*N+A0) (b1*N+A1) (b2*N+A2):=by
 have hz:=jc2 hN
 have key:=jdS hA hB hC (v b0 b1 b2) (v b0 (b1+1) b2) (v b0 (b1+1) (b2+1)) (v (b0+1) (b1+1) (b2+1))
 unfold lvF
 rw[jbj (g:=fun t=>if t<A0 then v (b0+1) (b1+1) (b2+1) else if t<A2 then v b0 (b1+1) (b2+1) else if t<A1 then v b0 (b1+1) b2 else v b0 b1 b2) fun t ht=>by
  rw[lvlN hN (show A0≤N by omega) ht,lvlN hN (show A1≤N by omega) ht,lvlN hN (show A2≤N by omega) ht]
  by_cases h1:t<A0
  ·rw[if_pos h1,if_pos h1,if_pos (show t<A1 by omega),if_pos (show t<A2 by omega)]
  ·by_cases h2:t<A2
   ·rw[if_neg h1,if_neg h1,if_pos h2,if_pos h2,if_pos (show t<A1 by omega)]
    simp only[jiV]
   ·by_cases h3:t<A1
    ·rw[if_neg h1,if_neg h1,if_neg h2,if_neg h2,if_pos h3,if_pos h3]
     simp only[jiV]
    ·rw[if_neg h1,if_neg h1,if_neg h2,if_neg h2,if_neg h3,if_neg h3]
     simp only[jiV],key]
 simp only[evO,sel,bmp,vat]
 simp
 generalize v b0 b1 b2=w0
 generalize v b0 (b1+1) b2=w1
 generalize v b0 (b1+1) (b2+1)=w2
 generalize v (b0+1) (b1+1) (b2+1)=w3
 grind
theorem ev_102 {N A0 A1 A2:Nat}{b0 b1 b2:Int}(hN:0<N)(hA:A1≤N)(hB:A0≤A1)(hC:A2≤A0)(v:Int→Int→Int→Rat) :
  ((N:Int):Rat)*evO v (b0,b1,b2) (((A0:Int):Rat)/((N:Int):Rat)) (((A1:Int):Rat)/((N:Int):Rat)) (((A2:Int):Rat)/((N:Int):Rat)) 1 0 2=lvF v N (b0*N+A0) (b1*N+A1) (b2*N+A2):=by
 have hz:=jc2 hN
 have key:=jdS hA hB hC (v b0 b1 b2) (v b0 (b1+1) b2) (v (b0+1) (b1+1) b2) (v (b0+1) (b1+1) (b2+1))
 unfold lvF
 rw[jbj (g:=fun t=>if t<A2 then v (b0+1) (b1+1) (b2+1) else if t<A0 then v (b0+1) (b1+1) b2 else if t<A1 then v b0 (b1+1) b2 else v b0 b1 b2) fun t ht=>by
  rw[lvlN hN (show A0≤N by omega) ht,lvlN hN (show A1≤N by omega) ht,lvlN hN (show A2≤N by omega) ht]
  by_cases h1:t<A2
  ·rw[if_pos h1,if_pos h1,if_pos (show t<A1 by omega),if_pos (show t<A0 by omega)]
  ·by_cases h2:t<A0
   ·rw[if_neg h1,if_neg h1,if_pos h2,if_pos h2,if_pos (show t<A1 by omega)]
    simp only[jiV]
   ·by_cases h3:t<A1
    ·rw[if_neg h1,if_neg h1,if_neg h2,if_neg h2,if_pos h3,if_pos h3]
     simp only[jiV]
    ·rw[if_neg h1,if_neg h1,if_neg h2,if_neg h2,if_neg h3,if_neg h3]
     simp only[jiV],key]
 simp only[evO,sel,bmp,vat]
 simp
 generalize v b0 b1 b2=w0
 generalize v b0 (b1+1) b2=w1
 generalize v (b0+1) (b1+1) b2=w2
 generalize v (b0+1) (b1+1) (b2+1)=w3
 grind
theorem ev_201 {N A0 A1 A2:Nat}{b0 b1 b2:Int}(hN:0<N)(hA:A2≤N)(hB:A0≤A2)(hC:A1≤A0)(v:Int→Int→Int→Rat) :
  ((N:Int):Rat)*evO v (b0,b1,b2) (((A0:Int):Rat)/((N:Int):Rat)) (((A1:Int):Rat)/((N:Int):Rat)) (((A2:Int):Rat)/((N:Int):Rat)) 2 0 1=lvF v N (b0*N+A0) (b1*N+A1) (b2*N+A2):=by
 have hz:=jc2 hN
 have key:=jdS hA hB hC (v b0 b1 b2) (v b0 b1 (b2+1)) (v (b0+1) b1 (b2+1)) (v (b0+1) (b1+1) (b2+1))
 unfold lvF
 rw[jbj (g:=fun t=>if t<A1 then v (b0+1) (b1+1) (b2+1) else if t<A0 then v (b0+1) b1 (b2+1) else if t<A2 then v b0 b1 (b2+1) else v b0 b1 b2) fun t ht=>by
  rw[lvlN hN (show A0≤N by omega) ht,lvlN hN (show A1≤N by omega) ht,lvlN hN (show A2≤N by omega) ht]
  by_cases h1:t<A1
  ·rw[if_pos h1,if_pos h1,if_pos (show t<A2 by omega),if_pos (show t<A0 by omega)]
  ·by_cases h2:t<A0
   ·rw[if_neg h1,if_neg h1,if_pos h2,if_pos h2,if_pos (show t<A2 by omega)]
    simp only[jiV]
   ·by_cases h3:t<A2
    ·rw[if_neg h1,if_neg h1,if_neg h2,if_neg h2,if_pos h3,if_pos h3]
     simp only[jiV]
    ·rw[if_neg h1,if_neg h1,if_neg h2,if_neg h2,if_neg h3,if_neg h3]
     simp only[jiV],key]
 simp only[evO,sel,bmp,vat]
 simp
 generalize v b0 b1 b2=w0
 generalize v b0 b1 (b2+1)=w1
 generalize v (b0+1) b1 (b2+1)=w2
 generalize v (b0+1) (b1+1) (b2+1)=w3
 grind
theorem ev_021 {N A0 A1 A2:Nat}{b0 b1 b2:Int}(hN:0<N)(hA:A0≤N)(hB:A2≤A0)(hC:A1≤A2)(v:Int→Int→Int→Rat) :
  ((N:Int):Rat)*evO v (b0,b1,b2) (((A0:Int):Rat)/((N:Int):Rat)) (((A1:Int):Rat)/((N:Int):Rat)) (((A2:Int):Rat)/((N:Int):Rat)) 0 2 1=lvF v N (b0*N+A0) (b1*N+A1) (b2*N+A2):=by
 have hz:=jc2 hN
 have key:=jdS hA hB hC (v b0 b1 b2) (v (b0+1) b1 b2) (v (b0+1) b1 (b2+1)) (v (b0+1) (b1+1) (b2+1))
 unfold lvF
 rw[jbj (g:=fun t=>if t<A1 then v (b0+1) (b1+1) (b2+1) else if t<A2 then v (b0+1) b1 (b2+1) else if t<A0 then v (b0+1) b1 b2 else v b0 b1 b2) fun t ht=>by
  rw[lvlN hN (show A0≤N by omega) ht,lvlN hN (show A1≤N by omega) ht,lvlN hN (show A2≤N by omega) ht]
  by_cases h1:t<A1
  ·rw[if_pos h1,if_pos h1,if_pos (show t<A0 by omega),if_pos (show t<A2 by omega)]
  ·by_cases h2:t<A2
   ·rw[if_neg h1,if_neg h1,if_pos h2,if_pos h2,if_pos (show t<A0 by omega)]
    simp only[jiV]
   ·by_cases h3:t<A0
    ·rw[if_neg h1,if_neg h1,if_neg h2,if_neg h2,if_pos h3,if_pos h3]
     simp only[jiV]
    ·rw[if_neg h1,if_neg h1,if_neg h2,if_neg h2,if_neg h3,if_neg h3]
     simp only[jiV],key]
 simp only[evO,sel,bmp,vat]
 simp
 generalize v b0 b1 b2=w0
 generalize v (b0+1) b1 b2=w1
 generalize v (b0+1) b1 (b2+1)=w2
 generalize v (b0+1) (b1+1) (b2+1)=w3
 grind
theorem ev_012 {N A0 A1 A2:Nat}{b0 b1 b2:Int}(hN:0<N)(hA:A0≤N)(hB:A1≤A0)(hC:A2≤A1)(v:Int→Int→Int→Rat) :
  ((N:Int):Rat)*evO v (b0,b1,b2) (((A0:Int):Rat)/((N:Int):Rat)) (((A1:Int):Rat)/((N:Int):Rat)) (((A2:Int):Rat)/((N:Int):Rat)) 0 1 2=lvF v N (b0*N+A0) (b1*N+A1) (b2*N+A2):=by
 have hz:=jc2 hN
 have key:=jdS hA hB hC (v b0 b1 b2) (v (b0+1) b1 b2) (v (b0+1) (b1+1) b2) (v (b0+1) (b1+1) (b2+1))
 unfold lvF
 rw[jbj (g:=fun t=>if t<A2 then v (b0+1) (b1+1) (b2+1) else if t<A1 then v (b0+1) (b1+1) b2 else if t<A0 then v (b0+1) b1 b2 else v b0 b1 b2) fun t ht=>by
  rw[lvlN hN (show A0≤N by omega) ht,lvlN hN (show A1≤N by omega) ht,lvlN hN (show A2≤N by omega) ht]
  by_cases h1:t<A2
  ·rw[if_pos h1,if_pos h1,if_pos (show t<A0 by omega),if_pos (show t<A1 by omega)]
  ·by_cases h2:t<A1
   ·rw[if_neg h1,if_neg h1,if_pos h2,if_pos h2,if_pos (show t<A0 by omega)]
    simp only[jiV]
   ·by_cases h3:t<A0
    ·rw[if_neg h1,if_neg h1,if_neg h2,if_neg h2,if_pos h3,if_pos h3]
     simp only[jiV]
    ·rw[if_neg h1,if_neg h1,if_neg h2,if_neg h2,if_neg h3,if_neg h3]
     simp only[jiV],key]
 simp only[evO,sel,bmp,vat]
 simp
 generalize v b0 b1 b2=w0
 generalize v (b0+1) b1 b2=w1
 generalize v (b0+1) (b1+1) b2=w2
 generalize v (b0+1) (b1+1) (b2+1)=w3
 grind
theorem rlt {N A B:Nat}(hN:0<N):(((A:Int):Rat)/((N:Int):Rat)<((B:Int):Rat)/((N:Int):Rat))↔A<B:=by
 have h1:(0:Rat)<((N:Int):Rat):=by exact_mod_cast (show (0:Int)<N by omega)
 rw[Rat.div_lt_iff h1,Rat.div_mul_cancel (jc2 hN)]
 constructor
 ·intro h
  have:(A:Int)<B:=by exact_mod_cast h
  omega
 ·intro h
  exact_mod_cast (show (A:Int)<B by omega)
theorem ev_main {N A0 A1 A2:Nat}{b0 b1 b2:Int}(hN:0<N)(h0:A0≤N)(h1:A1≤N)(h2:A2≤N)(v:Int→Int→Int→Rat) :
  ((N:Int):Rat)*evL v (b0,b1,b2) (((A0:Int):Rat)/((N:Int):Rat)) (((A1:Int):Rat)/((N:Int):Rat)) (((A2:Int):Rat)/((N:Int):Rat)) (ord3 (((A0:Int):Rat)/((N:Int):Rat)) (((A1:Int):Rat)/((N:Int):Rat)) (((A2:Int):Rat)/((N:Int):Rat)))=lvF v N (b0*N+A0) (b1*N+A1) (b2*N+A2):=by
 unfold ord3
 simp only[rlt hN]
 by_cases c1:A0<A1
 ·rw[if_pos c1]
  by_cases c2:A0<A2
  ·rw[if_pos c2]
   by_cases c3:A1<A2
   ·rw[if_pos c3]
    exact ev_210 hN h2 (by omega) (by omega) v
   ·rw[if_neg c3]
    exact ev_120 hN h1 (by omega) (by omega) v
  ·rw[if_neg c2]
   exact ev_102 hN h1 (by omega) (by omega) v
 ·rw[if_neg c1]
  by_cases c3:A1<A2
  ·rw[if_pos c3]
   by_cases c2:A0<A2
   ·rw[if_pos c2]
    exact ev_201 hN h2 (by omega) (by omega) v
   ·rw[if_neg c2]
    exact ev_021 hN h0 (by omega) (by omega) v
  ·rw[if_neg c3]
   exact ev_012 hN h0 (by omega) (by omega) v
theorem split_N {N:Nat}(hN:0<N)(P:Int):∃ (b:Int) (A:Nat),A<N∧P=b*N+A:=by
 have h1:=jix P (show (N:Int)≠0 by omega)
 have h2:=jiU P (show (0:Int)<N by omega)
 have h3:=Int.mul_ediv_add_emod P N
 refine⟨P/N,(P%N).toNat,by omega,?_⟩
 rw[jiB h1,jiO]
 omega
theorem sm_up {N:Nat}(hN:0<N)(P:Int):sm (fun t=>(((P-1-t)/N+1:Int):Rat)) N=(P:Rat):=by
 obtain⟨b,A,hA,rfl⟩:=split_N hN P
 rw[jbj (g:=fun t=>(b:Rat)+(if t<A then 1 else 0)) fun t ht=>by
  rw[lvlN hN (by omega) ht,Rat.intCast_add]
  by_cases h:t<A
  ·rw[if_pos h,if_pos h];rfl
  ·rw[if_neg h,if_neg h];rfl]
 rw[jfA,jdf,jgJ A N (by omega),Rat.intCast_add,Rat.intCast_mul]
 grind
theorem lv_le {N:Nat}{v w:Int→Int→Int→Rat}{P Q R:Int}(h:∀ i j k:Int,(∃ t:Nat,t<N∧i=(P-1-t)/N+1∧j=(Q-1-t)/N+1∧k=(R-1-t)/N+1)→v i j k≤w i j k):lvF v N P Q R≤lvF w N P Q R:=
 sm_le fun t ht=>h _ _ _ ⟨t,ht,rfl,rfl,rfl⟩
theorem lv_const (c:Rat)(N:Nat)(P Q R:Int):lvF (fun _ _ _=>c) N P Q R=((N:Int):Rat)*c:=jdf c N
theorem jcD {N t:Nat}{P m:Int}(hN:0<N)(ht:t<N)(h0:0≤P)(h1:P≤m*N):0≤(P-1-t)/N+1∧(P-1-t)/N+1≤m:=by
 have hN':(0:Int)<N:=by omega
 constructor
 ·have : -1≤(P-1-t)/N:=(Int.le_ediv_iff_mul_le hN').2 (by omega)
  omega
 ·have:(P-1-t)/N<m:=(Int.ediv_lt_iff_lt_mul hN').2 (by omega)
  omega
theorem sm_sub (f g:Nat→Rat)(k:Nat):sm (fun i=>f i-g i) k=sm f k-sm g k:=by
 have h:=jfA (fun i=>f i-g i) g k
 rw[jbj (g:=f) fun i _=>by grind] at h
 grind
theorem lv_lip {N : Nat} (hN : 0 < N) {v : Int → Int → Int → Rat} {P P' Q R : Int} {L : Rat} (hL : ∀ (i : Int) (d : Nat) (t : Nat), t < N → i = (P - 1 - t) / N + 1 → i + d = (P' - 1 - t) / N + 1 →
      v (i + d) ((Q - 1 - t) / N + 1) ((R - 1 - t) / N + 1) - v i ((Q - 1 - t) / N + 1) ((R - 1 - t) / N + 1) ≤ L * ((d : Int) : Rat)) (h : P ≤ P') :
    lvF v N P' Q R - lvF v N P Q R ≤ L * ((P' : Rat) - (P : Rat)) := by
  have h1 : sm (fun t => v ((P' - 1 - t) / N + 1) ((Q - 1 - t) / N + 1) ((R - 1 - t) / N + 1) - v ((P - 1 - t) / N + 1) ((Q - 1 - t) / N + 1) ((R - 1 - t) / N + 1)) N ≤ sm (fun t => L * ((((P' - 1 - t) / N + 1 : Int) : Rat) - (((P - 1 - t) / N + 1 : Int) : Rat))) N := by
    refine sm_le fun t ht => ?_
    have hm : (P - 1 - t) / N ≤ (P' - 1 - t) / N := Int.ediv_le_ediv (by omega) (by omega)
    obtain ⟨d, hd⟩ : ∃ d : Nat, (P - 1 - t) / N + 1 + d = (P' - 1 - t) / N + 1 := ⟨((P' - 1 - t) / N - (P - 1 - t) / N).toNat, by omega⟩
    have := hL _ d t ht rfl hd
    rw [hd] at this
    have e : (((P' - 1 - t) / N + 1 : Int) : Rat) - (((P - 1 - t) / N + 1 : Int) : Rat) = ((d : Int) : Rat) := by
      rw [← hd, Rat.intCast_add]
      grind
    rw [e]
    exact this
  rw [sm_sub, jfz, sm_sub, sm_up hN, sm_up hN] at h1
  exact h1
theorem at_N {N:Nat}{p:Rat}{P s:Int}(hN:0<N)(hP:(P:Rat)=((N:Int):Rat)*p)(h0:0≤P)(h1:P≤(s-1)*N)(hs:2≤s) :
  ∃ A:Nat,A≤N∧P=(min p.floor (s-2))*N+A∧p-((min p.floor (s-2):Int):Rat)=((A:Int):Rat)/((N:Int):Rat)∧0≤min p.floor (s-2):=by
 obtain⟨b,B,hB,e⟩:=split_N hN P
 have hz:=jc2 hN
 have hNp:(0:Rat)<((N:Int):Rat):=by exact_mod_cast (show (0:Int)<N by omega)
 have hp:p=(P:Rat)/((N:Int):Rat):=by
  rw[hP]
  grind
 have hf:p.floor=b:=by
  have l1:(b:Rat)≤p:=by
   rw[← Rat.not_lt,hp,Rat.div_lt_iff hNp,Rat.not_lt]
   rw[e,Rat.intCast_add,Rat.intCast_mul]
   have:(0:Rat)≤((B:Int):Rat):=by exact_mod_cast (show (0:Int)≤B by omega)
   grind
  have l2:p<((b+1:Int):Rat):=by
   rw[hp,Rat.div_lt_iff hNp,e,Rat.intCast_add,Rat.intCast_mul,Rat.intCast_add]
   have:((B:Int):Rat)<((N:Int):Rat):=by exact_mod_cast (show (B:Int)<N by omega)
   grind
  have g1:=Rat.le_floor_iff.2 l1
  have g2:=Rat.floor_lt_iff.2 l2
  omega
 have b0:0≤b:=by
  rcases Int.lt_or_le b 0 with h|h
  ·exfalso
   have:b*N ≤ -1*N:=jiH (by omega) (by omega)
   omega
  ·exact h
 rw[hf]
 by_cases hm:b≤s-2
 ·rw[show min b (s-2)=b by omega]
  refine⟨B,by omega,e,?_,b0⟩
  rw[hp,e,Rat.intCast_add,Rat.intCast_mul]
  grind
 ·have hb:b=s-1:=by
   have:(s-1)*(N:Int)≤b*N:=jiH (by omega) (by omega)
   rcases Int.lt_or_le (s-1) b with h|h
   ·exfalso
    have:(s-1+1)*(N:Int)≤b*N:=jiH (by omega) (by omega)
    rw[jiX,jiY] at this
    omega
   ·omega
  have hB0:B=0:=by
   rw[hb] at e
   omega
  rw[show min b (s-2)=s-2 by omega]
  refine⟨N,by omega,?_,?_,by omega⟩
  ·rw[e,hb,hB0,show s-1=(s-2)+1 by omega,jiX,jiY]
   omega
  ·rw[hp,e,hb,hB0,show s-1=(s-2)+1 by omega,Rat.intCast_add,Rat.intCast_mul,Rat.intCast_add]
   grind
def clQ (x:Rat):Rat:=if 1<(if x<0 then 0 else x) then 1 else (if x<0 then 0 else x)
theorem clQ_bd (x:Rat):0≤clQ x∧clQ x≤1:=by
 unfold clQ
 have h01:(0:Rat)≤1:=by decide
 by_cases h:x<0
 ·rw[if_pos h]
  by_cases g:(1:Rat)<0
  ·rw[if_pos g];exact⟨h01,Rat.le_refl⟩
  ·rw[if_neg g];exact⟨Rat.le_refl,h01⟩
 ·rw[if_neg h]
  by_cases g:1<x
  ·rw[if_pos g];exact⟨h01,Rat.le_refl⟩
  ·rw[if_neg g];exact⟨Rat.not_lt.1 h,Rat.not_lt.1 g⟩
theorem clQ_id {x:Rat}(h0:0≤x)(h1:x≤1):clQ x=x:=by
 unfold clQ
 rw[if_neg (Rat.not_lt.2 h0),if_neg (Rat.not_lt.2 h1)]
def gp (s:Int)(x:Rat):Rat:=clQ x*((s-1:Int):Rat)
def spB (s:Int)(x:Rat):Int:=min (gp s x).floor (s-2)
def spR (s:Int)(x:Rat):Rat:=gp s x-((spB s x:Int):Rat)
def evF (s0 s1 s2:Int)(v:Int→Int→Int→Rat)(x0 x1 x2:Rat):Rat:=
 evL v (spB s0 x0,spB s1 x1,spB s2 x2) (spR s0 x0) (spR s1 x1) (spR s2 x2) (ord3 (spR s0 x0) (spR s1 x1) (spR s2 x2))
theorem gp_bd {s:Int}(hs:2≤s)(x:Rat):0≤gp s x∧gp s x≤((s-1:Int):Rat):=by
 have h:=clQ_bd x
 have h1:(0:Rat)≤((s-1:Int):Rat):=by exact_mod_cast (show (0:Int)≤s-1 by omega)
 unfold gp
 refine⟨Rat.mul_nonneg h.1 h1,?_⟩
 have:=Rat.mul_nonneg (show 0≤1-clQ x by grind) h1
 grind
theorem np_pos {N:Nat}(hN:0<N):(0:Rat)<((N:Int):Rat):=by exact_mod_cast (show (0:Int)<N by omega)
theorem P_bd {N:Nat}{s P:Int}{x:Rat}(hN:0<N)(hs:2≤s)(hP:(P:Rat)=((N:Int):Rat)*gp s x):0≤P∧P≤(s-1)*N:=by
 have h:=gp_bd hs x
 have hn:=np_pos hN
 constructor
 ·have:=Rat.mul_nonneg (Rat.le_of_lt hn) h.1
  rw[← hP] at this
  exact_mod_cast this
 ·have:=Rat.mul_nonneg (Rat.le_of_lt hn) (show 0≤((s-1:Int):Rat)-gp s x by grind)
  have e:(P:Rat)≤(((s-1)*N:Int):Rat):=by
   rw[Rat.intCast_mul]
   grind
  exact_mod_cast e
theorem ev_lv {N:Nat}{s0 s1 s2 P Q R:Int}{x0 x1 x2:Rat}(hN:0<N)(hs:2≤s0∧2≤s1∧2≤s2)(h0:(P:Rat)=((N:Int):Rat)*gp s0 x0)(h1:(Q:Rat)=((N:Int):Rat)*gp s1 x1)(h2:(R:Rat)=((N:Int):Rat)*gp s2 x2)(v:Int→Int→Int→Rat) :
  ((N:Int):Rat)*evF s0 s1 s2 v x0 x1 x2=lvF v N P Q R:=by
 have b0:=P_bd hN hs.1 h0
 have b1:=P_bd hN hs.2.1 h1
 have b2:=P_bd hN hs.2.2 h2
 obtain⟨A0,a0,e0,r0,_⟩:=at_N hN h0 b0.1 b0.2 hs.1
 obtain⟨A1,a1,e1,r1,_⟩:=at_N hN h1 b1.1 b1.2 hs.2.1
 obtain⟨A2,a2,e2,r2,_⟩:=at_N hN h2 b2.1 b2.2 hs.2.2
 have m:=ev_main (b0:=spB s0 x0) (b1:=spB s1 x1) (b2:=spB s2 x2) hN a0 a1 a2 v
 unfold evF spR
 have f0:gp s0 x0-((spB s0 x0:Int):Rat)=((A0:Int):Rat)/((N:Int):Rat):=r0
 have f1:gp s1 x1-((spB s1 x1:Int):Rat)=((A1:Int):Rat)/((N:Int):Rat):=r1
 have f2:gp s2 x2-((spB s2 x2:Int):Rat)=((A2:Int):Rat)/((N:Int):Rat):=r2
 rw[f0,f1,f2,m]
 have g0:P=spB s0 x0*N+A0:=e0
 have g1:Q=spB s1 x1*N+A1:=e1
 have g2:R=spB s2 x2*N+A2:=e2
 rw[← g0,← g1,← g2]
theorem jh5:∀ l:List Rat, ∃ N:Nat,0<N ∧ ∀ p∈l, ∃ P:Int,(P:Rat)=((N:Int):Rat)*p
 | []=>⟨1,by decide,fun p hp=>by cases hp⟩
 | q::l=>by
  obtain⟨N,hN,h⟩:=jh5 l
  refine⟨N*q.den,Nat.mul_pos hN q.den_pos,fun p hp=>?_⟩
  rcases ji7.1 hp with e|e
  ·subst e
   refine⟨N*p.num,?_⟩
   have hd:((p.den:Int):Rat)*p=((p.num:Int):Rat):=by
    have h1:=ji1 p
    have hz:=jc2 p.den_pos
    rw[Rat.divInt_eq_div] at h1
    have:p=((p.num:Int):Rat)/((p.den:Int):Rat):=h1.symm
    conv=>lhs;rhs;rw[this]
    rw[Rat.mul_comm,Rat.div_mul_cancel hz]
   rw[Rat.intCast_mul,jiM,Rat.intCast_mul,Rat.mul_assoc,hd]
  ·obtain⟨P,hP⟩:=h p e
   refine⟨q.den*P,?_⟩
   rw[Rat.intCast_mul,hP,jiM,Rat.intCast_mul]
   grind
theorem com3 (a b c:Rat):∃ (N:Nat) (P Q R:Int),0<N∧(P:Rat)=((N:Int):Rat)*a∧(Q:Rat)=((N:Int):Rat)*b∧(R:Rat)=((N:Int):Rat)*c:=by
 obtain⟨N,hN,h⟩:=jh5 [a,b,c]
 obtain⟨P,hP⟩:=h a (by simp)
 obtain⟨Q,hQ⟩:=h b (by simp)
 obtain⟨R,hR⟩:=h c (by simp)
 exact⟨N,P,Q,R,hN,hP,hQ,hR⟩
theorem canc {N:Nat}(hN:0<N){a b:Rat}(h:((N:Int):Rat)*a=((N:Int):Rat)*b):a=b:=by
 have:=jc2 hN
 grind
theorem cancle {N:Nat}(hN:0<N){a b:Rat}(h:((N:Int):Rat)*a≤((N:Int):Rat)*b):a≤b:=by
 rcases (Rat.le_total:a≤b∨b≤a) with g|g
 ·exact g
 ·by_cases e:a=b
  ·rw[e];exact Rat.le_refl
  ·exfalso
   have hlt:b<a:=Rat.lt_of_le_of_ne g fun h=>e h.symm
   have:=Rat.mul_pos (np_pos hN) (show 0<a-b by grind)
   grind
theorem ev_bd {s0 s1 s2:Int}(hs:2≤s0∧2≤s1∧2≤s2){v:Int→Int→Int→Rat}{m M:Rat}(h:∀ i j k:Int,0≤i∧i≤s0-1→0≤j∧j≤s1-1→0≤k∧k≤s2-1→m≤v i j k∧v i j k≤M)(x0 x1 x2:Rat):m≤evF s0 s1 s2 v x0 x1 x2∧evF s0 s1 s2 v x0 x1 x2≤M:=by
 obtain⟨N,P,Q,R,hN,hP,hQ,hR⟩:=com3 (gp s0 x0) (gp s1 x1) (gp s2 x2)
 have b0:=P_bd hN hs.1 hP
 have b1:=P_bd hN hs.2.1 hQ
 have b2:=P_bd hN hs.2.2 hR
 have key:∀ i j k:Int,(∃ t:Nat,t<N∧i=(P-1-t)/N+1∧j=(Q-1-t)/N+1∧k=(R-1-t)/N+1)→m≤v i j k∧v i j k≤M:=fun i j k hh=>by
  obtain⟨t,ht,rfl,rfl,rfl⟩:=hh
  exact h _ _ _ (jcD hN ht b0.1 b0.2) (jcD hN ht b1.1 b1.2) (jcD hN ht b2.1 b2.2)
 constructor
 ·refine cancle hN ?_
  rw[ev_lv hN hs hP hQ hR,← lv_const m N P Q R]
  exact lv_le fun i j k hh=>(key i j k hh).1
 ·refine cancle hN ?_
  rw[ev_lv hN hs hP hQ hR,← lv_const M N P Q R]
  exact lv_le fun i j k hh=>(key i j k hh).2
theorem ev_sw01 {s0 s1 s2:Int}(hs:2≤s0∧2≤s1∧2≤s2)(v:Int→Int→Int→Rat)(x0 x1 x2:Rat):evF s1 s0 s2 (fun i j k=>v j i k) x1 x0 x2=evF s0 s1 s2 v x0 x1 x2:=by
 obtain⟨N,P,Q,R,hN,hP,hQ,hR⟩:=com3 (gp s0 x0) (gp s1 x1) (gp s2 x2)
 refine canc hN ?_
 rw[ev_lv hN hs hP hQ hR,ev_lv hN ⟨hs.2.1,hs.1,hs.2.2⟩ hQ hP hR]
 rfl
theorem ev_sw02 {s0 s1 s2:Int}(hs:2≤s0∧2≤s1∧2≤s2)(v:Int→Int→Int→Rat)(x0 x1 x2:Rat):evF s2 s1 s0 (fun i j k=>v k j i) x2 x1 x0=evF s0 s1 s2 v x0 x1 x2:=by
 obtain⟨N,P,Q,R,hN,hP,hQ,hR⟩:=com3 (gp s0 x0) (gp s1 x1) (gp s2 x2)
 refine canc hN ?_
 rw[ev_lv hN hs hP hQ hR,ev_lv hN ⟨hs.2.2,hs.2.1,hs.1⟩ hR hQ hP]
 rfl
theorem jbo {n m:Int}(hn : -9223372036854775807≤n∧n≤9223372036854775807)(hm:1≤m∧m≤9223372036854775807):Cl 58 [.int .i64 n,.int .i64 m] (frT (Rat.divInt n m)):=by
 have c:=y_of hn hm
 unfold frT at *
 generalize Rat.divInt n m=q at *
 refine V.en tbOk Tryz.func58 ?_
 (conv=>whnf)
 refine V.st ?_
 repeat ((try ((with_reducible refine .ext ?_);(conv=>whnf)));(with_reducible refine jaa (r:=?_) ?_ ?_);rotate_left;(focus (first|exact(c)));(conv=>whnf);refine V.st ?_)
 exact Fin.of rfl
theorem int_q (n:Int):Rat.divInt n 1=(n:Rat):=by rw[Rat.divInt_eq_div];grind
theorem jam {n:Int}(hn : -9223372036854775807≤n∧n≤9223372036854775807):Cl 86 [.int .i64 n] (frT (n:Rat)):=by
 have c:=jbo (n:=n) (m:=1) hn (by omega)
 rw[int_q] at c
 unfold frT at *
 generalize (n:Rat)=q at *
 refine V.en tbOk Tryz.func86 ?_
 (conv=>whnf)
 refine V.st ?_
 repeat ((try ((with_reducible refine .ext ?_);(conv=>whnf)));(with_reducible refine jaa (r:=?_) ?_ ?_);rotate_left;(focus (first|exact(c)));(conv=>whnf);refine V.st ?_)
 exact Fin.of rfl
theorem q9_of {n:Nat}{q:Rat}(h:Fq n q)(h0:0<n∧n≤600):Q9 20000000 q:=by
 obtain⟨h1,e1⟩:=jbc (h.ok h0.1 h0.2)
 have:=qsize h1
 rw[e1] at this
 exact this
theorem rd_q {n:Nat}{q:Rat}(h:Fq n q)(h0:0<n∧n≤600):Cl 111 [frT q] (.tup [rtD q,.bool true]):=by
 obtain⟨h1,e1⟩:=jbc (h.ok h0.1 h0.2)
 have r1:=jbs _ _ h1
 rw[e1] at r1
 exact r1
theorem fq_cl {n:Nat}{q:Rat}(h:Fq n q)(h0:0<n):Fq n (clQ q):=by
 have z:Fq n 0:=(show Fq 1 0 from ⟨by decide,by decide⟩).mono h0
 have o:Fq n 1:=y_one.mono h0
 unfold clQ
 by_cases h1:q<0
 ·rw[if_pos h1]
  split
  ·exact o
  ·exact z
 ·rw[if_neg h1]
  split
  ·exact o
  ·exact h
theorem fclamp_c {n:Nat}{q:Rat}(h:Fq n q)(h0:0<n∧n≤600):Cl 160 [frT q,frT 0,frT 1] (.tup [frT (clQ q),.int .i64 0]):=by
 have fz:Fq 1 0:=⟨by decide,by decide⟩
 have r0:=rd_q h h0
 have r1:=rd_q fz (by omega)
 have r2:=rd_q y_one (by omega)
 have q0:=q9_of h h0
 have q1:=q9_of fz (by omega)
 have q2:=q9_of y_one (by omega)
 have od:=jgj 0 1 (q1.1.mono (by omega)) (q2.1.mono (by omega)) (by have:=q1.2;omega) (by have:=q2.2;omega)
 have e:ordQ 0 1 = -1:=by decide +kernel
 rw[e] at od
 have g:=greater_c q 0 q0 q1
 have q3:Q9 20000000 (if q<0 then 0 else q):=by
  split
  ·exact q1
  ·exact q0
 have l:=lesser_c (if q<0 then 0 else q) 1 q3 q2
 have fc:=fq_cl h h0.1
 have ec:(if 1<(if q<0 then 0 else q) then 1 else (if q<0 then 0 else q))=clQ q:=rfl
 rw[ec] at l
 have qc:=q9_of fc h0
 have w:=jdF (clQ q) (by have:=qc.1;unfold S9 at this;omega) (by have:=qc.2;omega)
 rw[je0 (fc.ok h0.1 h0.2)] at w
 clear h fc ec e q0 q1 q2 q3 qc fz
 generalize clQ q=c at *
 generalize (if q<0 then 0 else q)=u at *
 generalize (0:Rat)=zz at *
 generalize (1:Rat)=oo at *
 unfold frT rtD at *
 refine V.en tbOk Tryz.func160 ?_
 refine V.r4 @jiA r0 r1 r2 od ?_
 refine⟨(V.tk [0,1,3] (V.e1 2 [3] (V.e1 4 [] (V.e1 5 [] (V.tk [6,7] (V.e1 8 [] (V.tk [9] .done))))))),[],V.pok,?_⟩
 refine jab [(7,.int .i64 0)] [(6,.box [.str (decZ c.num),.str (dec c.den)])] ?_ ?_
 ·exact V.d3 @jiA g l w
 refine V.r0 @jiA ?_
 exact Fin.of rfl
theorem ffloor_c {n:Nat}{q:Rat}(h:Fq n q)(h0:0<n∧n≤600):Cl 161 [frT q] (.tup [.str (decZ q.floor),.int .i64 0]):=by
 have r0:=rd_q h h0
 have q0:=q9_of h h0
 have f:=floor_c q.num q.den q.den_pos (q0.1.mono (by omega)) (by have:=q0.2;omega)
 rw[← Rat.floor_def] at f
 have hl:S9 20000000 q.floor:=by
  rw[Rat.floor_def]
  refine q0.1.le ?_
  exact Int.natAbs_ediv_le_natAbs _ _
 unfold S9 at hl
 have t:=jhR q.floor (by omega)
 generalize q.floor=z at *
 unfold frT at *
 unfold rtD at r0
 unfold itD at f t
 refine V.en tbOk Tryz.func161 ?_
 refine V.r3 @jiA r0 f t ?_
 exact Fin.of rfl
theorem atoi_dig:∀ z:Int,0≤z→z≤9→Go.Lib.atoi (decZ z)=some z:=fun z h0 h1=>by
 have key:∀ n∈List.range 10,Go.Lib.atoi (decZ ((n:Nat):Int))=some ((n:Nat):Int):=by decide +kernel
 obtain⟨n,rfl⟩:∃ n:Nat,z=(n:Int):=⟨z.toNat,by omega⟩
 exact key n (List.mem_range.2 (by omega))
theorem atoi_len:∀ z:Int,0≤z→z≤9→(decZ z).length≤18:=fun z h0 h1=>by
 have key:∀ n∈List.range 10,(decZ ((n:Nat):Int)).length≤18:=by decide +kernel
 obtain⟨n,rfl⟩:∃ n:Nat,z=(n:Int):=⟨z.toNat,by omega⟩
 exact key n (List.mem_range.2 (by omega))
theorem atoi_c {z:Int}(h0:0≤z)(h1:z≤9):Cl 162 [.str (decZ z)] (.tup [.int .i64 z,.val .nilIface]):=by
 refine jaX Tryz.func162 rfl rfl rfl fun w hp vs ha hd=>?_
 simp only[DenL,Den] at hd
 obtain⟨v,_,rfl,⟨rfl,h2⟩,rfl⟩:=hd
 refine(Tryz.strconv_Atoi ⟨(decZ z).toArray⟩ z (by have:=atoi_len z h0 h1;simpa [ByteArray.size] using this) (by simpa using atoi_dig z h0 h1) w).mono fun e w' ⟨he,t,hw⟩=>⟨⟨_,he,fun hp=>?_⟩,?_⟩
 ·simp only[Den,DenL]
  exact⟨_,rfl,_,_,rfl,⟨rfl,by simp only[InR,V.lo,V.hi];omega⟩,_,_,rfl,rfl,rfl⟩
 ·rw[hw]
  exact Go.Lib.bytesWorld_below w _ _
theorem floor_bd {p:Rat}{m:Int}(h0:0≤p)(h1:p≤(m:Rat)):0≤p.floor∧p.floor≤m:=by
 constructor
 ·exact Rat.le_floor_iff.2 (by exact_mod_cast h0)
 ·have:p<((m+1:Int):Rat):=by
   rw[Rat.intCast_add]
   have:(0:Rat)<((1:Int):Rat):=by decide
   grind
  have:=Rat.floor_lt_iff.2 this
  omega
theorem jdX {s:Int}(hs:2≤s)(x:Rat):0≤spB s x∧spB s x≤s-2:=by
 have h:=gp_bd hs x
 have:=floor_bd h.1 h.2
 unfold spB
 omega
theorem split_t (a b z0 z1 o0 o1 c0 c1 s0 s1 p0 p1 i0 i1 r0 r1:List UInt8)(f:List UInt8)(s fl:Int)(hs:2≤s∧s≤9)(hf:0≤fl∧fl≤9)(iz:Cl 86 [.int .i64 0] (.agg [.str z0,.str z1]))(io:Cl 86 [.int .i64 1] (.agg [.str o0,.str o1]))
  (cl:Cl 160 [.agg [.str a,.str b],.agg [.str z0,.str z1],.agg [.str o0,.str o1]] (.tup [.agg [.str c0,.str c1],.int .i64 0])) (is:Cl 86 [.int .i64 (s-1)] (.agg [.str s0,.str s1]))
  (mu:Cl 85 [.agg [.str c0,.str c1],.agg [.str s0,.str s1]] (.tup [.agg [.str p0,.str p1],.int .i64 0])) (fo:Cl 161 [.agg [.str p0,.str p1]] (.tup [.str f,.int .i64 0]))
  (at':Cl 162 [.str f] (.tup [.int .i64 fl,.val .nilIface])) (ib:Cl 86 [.int .i64 (min fl (s-2))] (.agg [.str i0,.str i1])) (sb:Cl 99 [.agg [.str p0,.str p1],.agg [.str i0,.str i1]] (.tup [.agg [.str r0,.str r1],.int .i64 0])) :
  Cl 124 [.agg [.str a,.str b],.int .i64 s] (.tup [.int .i64 (min fl (s-2)),.agg [.str r0,.str r1],.int .i64 0]):=by
 refine V.en tbOk Tryz.func124 ?_
 refine V.r0 @jiA ?_
 refine⟨(V.tk [0] (V.e1 1 [0] (V.e1 2 [0] (V.e1 3 [] (V.tk [4,5,6] (V.e1 7 [6] (V.tk [8] .done))))))),[],V.pok,?_⟩
 refine jab [(6,.int .i64 0)] [(2,.box [.str c0,.str c1])] ?_ ?_
 ·exact V.d3 @jiA iz io cl
 refine V.r0 @jiA ?_
 refine⟨(V.tk [0,1,2] (.ev (.cons 3 [0] (.ev (.cons 4 [] (V.tk [5,6,7] (V.e1 8 [7,6,5] (V.e1 9 [7] (V.tk [10] .done)))) (.cons 8 [0] (V.e1 4 [] (V.tk [5,6,7] (V.e1 9 [7] (V.tk [10] .done)))) .nil))) (.cons 8 [2,1,0] (V.e1 3 [0] (V.e1 4 [] (V.tk [5,6,7] (V.e1 9 [7] (V.tk [10] .done))))) .nil)))),[],V.pok,?_⟩
 refine jab [(7,.box 7 0),(6,.int .i64 0)] [(7,.box [.str p0,.str p1])] ?_ ?_
 ·exact V.d2 @jiA is mu
 refine V.r2 @jiA fo at' ?_
 refine⟨(V.tk [0,1] (V.e1 2 [0] (V.e1 3 [] (V.tk [4,5,6] (V.e1 7 [6] (V.tk [8] .done)))))),[],V.pok,?_⟩
 refine jab [(6,.int .i64 0)] [(5,.box [.str r0,.str r1])] ?_ ?_
 ·exact V.d2 @jiA ib sb
 refine V.r0 @jiA ?_
 refine⟨(V.tk [0,1,2] (V.e1 3 [2,1] (V.e1 4 [2] (V.e1 5 [] .done)))),[],V.pok,?_⟩
 refine jab [(4,.int .i64 (min fl (s-2))),(6,.int .i64 0)] [(5,.box [.str r0,.str r1])] ?_ ?_
 ·exact V.d0 @jiA
 refine V.r0 @jiA ?_
 exact Fin.of rfl
theorem jaD {n:Nat}{z:Int}(h:z.natAbs<10^n)(h0:0<n):Fq n (z:Rat):=by
 have:=jaM (n:=n) (x:=z) (d:=1) (by omega) h (Nat.one_lt_pow (by omega) (by decide))
 rw[show (((1:Nat):Int))=1 from rfl,int_q] at this
 exact this
theorem jdH {n:Nat}{x:Rat}{s:Int}(h:Fq n x)(h0:0<n∧n≤500)(hs:2≤s∧s≤9):Cl 124 [frT x,.int .i64 s] (.tup [.int .i64 (spB s x),frT (spR s x),.int .i64 0]):=by
 have h6:0<n∧n≤600:=by omega
 have fc:=fq_cl h h0.1
 have iz:=jam (n:=0) (by omega)
 have io:=jam (n:=1) (by omega)
 rw[show ((0:Int):Rat)=0 from rfl] at iz
 rw[show ((1:Int):Rat)=1 from rfl] at io
 have is:=jam (n:=s-1) (by omega)
 have fs:Fq 1 ((s-1:Int):Rat):=jaD (by omega) (by omega)
 have mu:=zmul fc fs h0.1 (by omega) (by omega)
 have gb:=gp_bd hs.1 x
 have fb:0≤(clQ x*((s-1:Int):Rat)).floor∧(clQ x*((s-1:Int):Rat)).floor≤s-1:=floor_bd gb.1 gb.2
 have fb2:0≤(gp s x).floor∧(gp s x).floor≤s-1:=fb
 have fo:=ffloor_c (fc.mul fs) (by omega)
 have bb:=jdX hs.1 x
 have ib:=jam (n:=spB s x) (by omega)
 have fi:Fq 1 ((spB s x:Int):Rat):=jaD (by omega) (by omega)
 have sb:=zsub (fc.mul fs) fi (by omega) (by omega) (by omega)
 exact split_t _ _ _ _ _ _ _ _ _ _ _ _ _ _ _ _ _ s _ hs ⟨fb.1,by omega⟩ iz io (fclamp_c h h6) is mu fo (atoi_c fb.1 (by omega)) ib sb
end Go.Proofs.YtgjgpdceghjajaaGreatDoor
end
section
namespace Go.Proofs.YtgjgpdceghjajaaGreatDoor
theorem k0:((0:Nat):Int)=0:=rfl
theorem k1:((1:Nat):Int)=1:=rfl
theorem k2:((2:Nat):Int)=2:=rfl
theorem k3:((3:Nat):Int)=3:=rfl
theorem tn0:(0:Int).toNat=0:=rfl
theorem tn1:(1:Int).toNat=1:=rfl
theorem tn2:(2:Int).toNat=2:=rfl
theorem tn3:(3:Int).toNat=3:=rfl
end Go.Proofs.YtgjgpdceghjajaaGreatDoor
end
section
namespace Go.Proofs.YtgjgpdceghjajaaGreatDoor
open Go Go.V Go.Nb
def preZ (k:Nat)(l:List Int):List Int:=l.take k++List.replicate (l.length-k) 0
def insJ (w:Int→Int→Int):Nat→List Int→List Int
 | 0,xs=>xs
 | j+1,xs=>if w (xs.getD (j+1) 0) (xs.getD j 0)<0 then insJ w j ((xs.set (j+1) (xs.getD j 0)).set j (xs.getD (j+1) 0)) else xs
def isoK (w:Int→Int→Int)(xs:List Int):Nat→List Int
 | 0=>xs
 | i+1=>insJ w (i+1) (isoK w xs i)
def Bel (n:Nat)(xs:List Int):Prop:=xs.length=n ∧ ∀ i,i<n→0≤xs.getD i 0∧xs.getD i 0<n
theorem jcH (xs:List Int)(i k:Nat)(v:Int)(h:i<xs.length):(xs.set i v).getD k 0=if k=i then v else xs.getD k 0:=by
 rw[ji5,List.getElem?_set]
 by_cases e:i=k
 ·rw[if_pos e,if_pos h,if_pos e.symm]
  rfl
 ·rw[if_neg e,if_neg (fun h=>e h.symm),ji5]
theorem jer {n:Nat}{xs:List Int}{j:Nat}(h:Bel n xs)(hj:j+1<n):Bel n ((xs.set (j+1) (xs.getD j 0)).set j (xs.getD (j+1) 0)):=by
 refine⟨by rw[jjo,jjo];exact h.1,fun i hi=>?_⟩
 rw[jcH _ _ _ _ (by rw[jjo,h.1];omega)]
 by_cases e:i=j
 ·rw[if_pos e];exact h.2 _ hj
 ·rw[if_neg e,jcH _ _ _ _ (by rw[h.1];omega)]
  by_cases e2:i=j+1
  ·rw[if_pos e2];exact h.2 _ (by omega)
  ·rw[if_neg e2];exact h.2 _ hi
theorem bel_ins (w:Int→Int→Int){n:Nat} : ∀ (j:Nat) {xs:List Int},j<n→Bel n xs→Bel n (insJ w j xs)
 | 0,_,_,h=>h
 | j+1,xs,hj,h=>by
  simp only[insJ]
  split
  ·exact bel_ins w j (by omega) (jer h hj)
  ·exact h
theorem jgC (w:Int→Int→Int){n:Nat}{xs:List Int}(h:Bel n xs):∀ i,i<n→Bel n (isoK w xs i)
 | 0,_=>h
 | i+1,hi=>bel_ins w (i+1) hi (jgC w h i (by omega))
theorem tns (j:Nat):((j:Int)-1).toNat=j-1:=by omega
def wcl:Nat→D
 | 0 => .nil
 | k+1 => .bsl 62 0 (k+1) 2
def wce (W:Nat→Tx):Nat→List D
 | 0=>[]
 | k+1=>wce W k++[.str (W k).1,.str (W k).2]
def wch (W:Nat→Tx):Nat→Hp
 | 0=>[]
 | k+1=>[(62,.box (wce W (k+1)))]
def preD (k:Nat)(l:List D):List D:=l.take k++List.replicate (l.length-k) (.str [])
theorem xk4:((4:Nat):Int)=4:=rfl
theorem xt4:(4:Int).toNat=4:=rfl
theorem jia:type_of% @jiA∧type_of% @tn0∧type_of% @tn1∧type_of% @tn2∧type_of% @tn3∧type_of% @xt4:=⟨@jiA,@tn0,@tn1,@tn2,@tn3,@xt4⟩
theorem jhK {F e0 n0 e1 n1:Nat}{f0 f1:Nat→List D}{z:Int}(T:Nat→Tx)(c0:Cl F (.int .i64 0::[.ref [.slf e0 n0 f0],.ref [.slf e1 n1 f1]]) (.tup [.agg [.str (T 0).1,.str (T 0).2],.int .i64 0])) :
  Cl 82 [.int .i64 1,.fn F [] [.ref [.slf e0 n0 f0],.ref [.slf e1 n1 f1]]] (.tup [V.sl2 1 [.str (T 0).1,.str (T 0).2],.int .i64 0]):=by
 refine V.en tbOk Tryz.func82 ?_
 refine V.r0 @jiA ?_
 refine jac (0) (fun k=>k≤1) (fun k=>1-k) (fun k=>[(14,.int .i64 k)]) (fun k=>[(11,.box (preD (2*k) [.str (T 0).1,.str (T 0).2]))]) ?_ ?_ ?_
 ·exact V.wk
 ·exact jiv _
 intro k hk
 have hk4:k=0∨k=1:=by omega
 rcases hk4 with e|e
 all_goals subst e
 ·simp only[k0]
  refine V.r1 jia c0 ?_
  exact⟨1,by omega,by omega,V.wk⟩
 ·simp only[k1]
  refine V.r0 @jiA ?_
  exact Fin.of rfl
theorem jhJ {F e0 n0 e1 n1:Nat}{f0 f1:Nat→List D}{z:Int}(T:Nat→Tx)(c0:Cl F (.int .i64 0::[.ref [.slf e0 n0 f0],.ref [.slf e1 n1 f1]]) (.tup [.agg [.str (T 0).1,.str (T 0).2],.int .i64 0]))(c1:Cl F (.int .i64 1::[.ref [.slf e0 n0 f0],.ref [.slf e1 n1 f1]]) (.tup [.agg [.str (T 1).1,.str (T 1).2],.int .i64 0])) :
  Cl 82 [.int .i64 2,.fn F [] [.ref [.slf e0 n0 f0],.ref [.slf e1 n1 f1]]] (.tup [V.sl2 2 [.str (T 0).1,.str (T 0).2,.str (T 1).1,.str (T 1).2],.int .i64 0]):=by
 refine V.en tbOk Tryz.func82 ?_
 refine V.r0 @jiA ?_
 refine jac (0) (fun k=>k≤2) (fun k=>2-k) (fun k=>[(14,.int .i64 k)]) (fun k=>[(11,.box (preD (2*k) [.str (T 0).1,.str (T 0).2,.str (T 1).1,.str (T 1).2]))]) ?_ ?_ ?_
 ·exact V.wk
 ·exact jiv _
 intro k hk
 have hk4:k=0∨k=1∨k=2:=by omega
 rcases hk4 with e|e|e
 all_goals subst e
 ·simp only[k0]
  refine V.r1 jia c0 ?_
  exact⟨1,by omega,by omega,V.wk⟩
 ·simp only[k1]
  refine V.r1 jia c1 ?_
  exact⟨2,by omega,by omega,V.wk⟩
 ·simp only[k2]
  refine V.r0 @jiA ?_
  exact Fin.of rfl
theorem list2_3 {F e0 n0 e1 n1:Nat}{f0 f1:Nat→List D}{z:Int}(T:Nat→Tx)(c0:Cl F (.int .i64 0::[.ref [.slf e0 n0 f0],.ref [.slf e1 n1 f1],.ref [.int .i64 z]]) (.tup [.agg [.str (T 0).1,.str (T 0).2],.int .i64 0]))(c1:Cl F (.int .i64 1::[.ref [.slf e0 n0 f0],.ref [.slf e1 n1 f1],.ref [.int .i64 z]]) (.tup [.agg [.str (T 1).1,.str (T 1).2],.int .i64 0])) :
  Cl 82 [.int .i64 2,.fn F [] [.ref [.slf e0 n0 f0],.ref [.slf e1 n1 f1],.ref [.int .i64 z]]] (.tup [V.sl2 2 [.str (T 0).1,.str (T 0).2,.str (T 1).1,.str (T 1).2],.int .i64 0]):=by
 refine V.en tbOk Tryz.func82 ?_
 refine V.r0 @jiA ?_
 refine jac (0) (fun k=>k≤2) (fun k=>2-k) (fun k=>[(14,.int .i64 k)]) (fun k=>[(11,.box (preD (2*k) [.str (T 0).1,.str (T 0).2,.str (T 1).1,.str (T 1).2]))]) ?_ ?_ ?_
 ·exact V.wk
 ·exact jiv _
 intro k hk
 have hk4:k=0∨k=1∨k=2:=by omega
 rcases hk4 with e|e|e
 all_goals subst e
 ·simp only[k0]
  refine V.r1 jia c0 ?_
  exact⟨1,by omega,by omega,V.wk⟩
 ·simp only[k1]
  refine V.r1 jia c1 ?_
  exact⟨2,by omega,by omega,V.wk⟩
 ·simp only[k2]
  refine V.r0 @jiA ?_
  exact Fin.of rfl
theorem jhI {F e0 n0 e1 n1:Nat}{f0 f1:Nat→List D}{z:Int}(T:Nat→Tx)(c0:Cl F (.int .i64 0::[.ref [.slf e0 n0 f0],.ref [.slf e1 n1 f1]]) (.tup [.agg [.str (T 0).1,.str (T 0).2],.int .i64 0]))(c1:Cl F (.int .i64 1::[.ref [.slf e0 n0 f0],.ref [.slf e1 n1 f1]]) (.tup [.agg [.str (T 1).1,.str (T 1).2],.int .i64 0]))(c2:Cl F (.int .i64 2::[.ref [.slf e0 n0 f0],.ref [.slf e1 n1 f1]]) (.tup [.agg [.str (T 2).1,.str (T 2).2],.int .i64 0])) :
  Cl 82 [.int .i64 3,.fn F [] [.ref [.slf e0 n0 f0],.ref [.slf e1 n1 f1]]] (.tup [V.sl2 3 [.str (T 0).1,.str (T 0).2,.str (T 1).1,.str (T 1).2,.str (T 2).1,.str (T 2).2],.int .i64 0]):=by
 refine V.en tbOk Tryz.func82 ?_
 refine V.r0 @jiA ?_
 refine jac (0) (fun k=>k≤3) (fun k=>3-k) (fun k=>[(14,.int .i64 k)]) (fun k=>[(11,.box (preD (2*k) [.str (T 0).1,.str (T 0).2,.str (T 1).1,.str (T 1).2,.str (T 2).1,.str (T 2).2]))]) ?_ ?_ ?_
 ·exact V.wk
 ·exact jiv _
 intro k hk
 have hk4:k=0∨k=1∨k=2∨k=3:=by omega
 rcases hk4 with e|e|e|e
 all_goals subst e
 ·simp only[k0]
  refine V.r1 jia c0 ?_
  exact⟨1,by omega,by omega,V.wk⟩
 ·simp only[k1]
  refine V.r1 jia c1 ?_
  exact⟨2,by omega,by omega,V.wk⟩
 ·simp only[k2]
  refine V.r1 jia c2 ?_
  exact⟨3,by omega,by omega,V.wk⟩
 ·simp only[k3]
  refine V.r0 @jiA ?_
  exact Fin.of rfl
theorem list3_3 {F e0 n0 e1 n1:Nat}{f0 f1:Nat→List D}{z:Int}(T:Nat→Tx)(c0:Cl F (.int .i64 0::[.ref [.slf e0 n0 f0],.ref [.slf e1 n1 f1],.ref [.int .i64 z]]) (.tup [.agg [.str (T 0).1,.str (T 0).2],.int .i64 0]))(c1:Cl F (.int .i64 1::[.ref [.slf e0 n0 f0],.ref [.slf e1 n1 f1],.ref [.int .i64 z]]) (.tup [.agg [.str (T 1).1,.str (T 1).2],.int .i64 0]))(c2:Cl F (.int .i64 2::[.ref [.slf e0 n0 f0],.ref [.slf e1 n1 f1],.ref [.int .i64 z]]) (.tup [.agg [.str (T 2).1,.str (T 2).2],.int .i64 0])) :
  Cl 82 [.int .i64 3,.fn F [] [.ref [.slf e0 n0 f0],.ref [.slf e1 n1 f1],.ref [.int .i64 z]]] (.tup [V.sl2 3 [.str (T 0).1,.str (T 0).2,.str (T 1).1,.str (T 1).2,.str (T 2).1,.str (T 2).2],.int .i64 0]):=by
 refine V.en tbOk Tryz.func82 ?_
 refine V.r0 @jiA ?_
 refine jac (0) (fun k=>k≤3) (fun k=>3-k) (fun k=>[(14,.int .i64 k)]) (fun k=>[(11,.box (preD (2*k) [.str (T 0).1,.str (T 0).2,.str (T 1).1,.str (T 1).2,.str (T 2).1,.str (T 2).2]))]) ?_ ?_ ?_
 ·exact V.wk
 ·exact jiv _
 intro k hk
 have hk4:k=0∨k=1∨k=2∨k=3:=by omega
 rcases hk4 with e|e|e|e
 all_goals subst e
 ·simp only[k0]
  refine V.r1 jia c0 ?_
  exact⟨1,by omega,by omega,V.wk⟩
 ·simp only[k1]
  refine V.r1 jia c1 ?_
  exact⟨2,by omega,by omega,V.wk⟩
 ·simp only[k2]
  refine V.r1 jia c2 ?_
  exact⟨3,by omega,by omega,V.wk⟩
 ·simp only[k3]
  refine V.r0 @jiA ?_
  exact Fin.of rfl
theorem jhH {F e0 n0 e1 n1:Nat}{f0 f1:Nat→List D}{z:Int}(T:Nat→Tx)(c0:Cl F (.int .i64 0::[.ref [.slf e0 n0 f0],.ref [.slf e1 n1 f1]]) (.tup [.agg [.str (T 0).1,.str (T 0).2],.int .i64 0]))(c1:Cl F (.int .i64 1::[.ref [.slf e0 n0 f0],.ref [.slf e1 n1 f1]]) (.tup [.agg [.str (T 1).1,.str (T 1).2],.int .i64 0]))(c2:Cl F (.int .i64 2::[.ref [.slf e0 n0 f0],.ref [.slf e1 n1 f1]]) (.tup [.agg [.str (T 2).1,.str (T 2).2],.int .i64 0]))(c3:Cl F (.int .i64 3::[.ref [.slf e0 n0 f0],.ref [.slf e1 n1 f1]]) (.tup [.agg [.str (T 3).1,.str (T 3).2],.int .i64 0])) :
  Cl 82 [.int .i64 4,.fn F [] [.ref [.slf e0 n0 f0],.ref [.slf e1 n1 f1]]] (.tup [V.sl2 4 [.str (T 0).1,.str (T 0).2,.str (T 1).1,.str (T 1).2,.str (T 2).1,.str (T 2).2,.str (T 3).1,.str (T 3).2],.int .i64 0]):=by
 refine V.en tbOk Tryz.func82 ?_
 refine V.r0 @jiA ?_
 refine jac (0) (fun k=>k≤4) (fun k=>4-k) (fun k=>[(14,.int .i64 k)]) (fun k=>[(11,.box (preD (2*k) [.str (T 0).1,.str (T 0).2,.str (T 1).1,.str (T 1).2,.str (T 2).1,.str (T 2).2,.str (T 3).1,.str (T 3).2]))]) ?_ ?_ ?_
 ·exact V.wk
 ·exact jiv _
 intro k hk
 have hk4:k=0∨k=1∨k=2∨k=3∨k=4:=by omega
 rcases hk4 with e|e|e|e|e
 all_goals subst e
 ·simp only[k0]
  refine V.r1 jia c0 ?_
  exact⟨1,by omega,by omega,V.wk⟩
 ·simp only[k1]
  refine V.r1 jia c1 ?_
  exact⟨2,by omega,by omega,V.wk⟩
 ·simp only[k2]
  refine V.r1 jia c2 ?_
  exact⟨3,by omega,by omega,V.wk⟩
 ·simp only[k3]
  refine V.r1 jia c3 ?_
  exact⟨4,by omega,by omega,V.wk⟩
 ·simp only[xk4]
  refine V.r0 @jiA ?_
  exact Fin.of rfl
theorem list4_3 {F e0 n0 e1 n1:Nat}{f0 f1:Nat→List D}{z:Int}(T:Nat→Tx)(c0:Cl F (.int .i64 0::[.ref [.slf e0 n0 f0],.ref [.slf e1 n1 f1],.ref [.int .i64 z]]) (.tup [.agg [.str (T 0).1,.str (T 0).2],.int .i64 0]))(c1:Cl F (.int .i64 1::[.ref [.slf e0 n0 f0],.ref [.slf e1 n1 f1],.ref [.int .i64 z]]) (.tup [.agg [.str (T 1).1,.str (T 1).2],.int .i64 0]))(c2:Cl F (.int .i64 2::[.ref [.slf e0 n0 f0],.ref [.slf e1 n1 f1],.ref [.int .i64 z]]) (.tup [.agg [.str (T 2).1,.str (T 2).2],.int .i64 0]))(c3:Cl F (.int .i64 3::[.ref [.slf e0 n0 f0],.ref [.slf e1 n1 f1],.ref [.int .i64 z]]) (.tup [.agg [.str (T 3).1,.str (T 3).2],.int .i64 0])) :
  Cl 82 [.int .i64 4,.fn F [] [.ref [.slf e0 n0 f0],.ref [.slf e1 n1 f1],.ref [.int .i64 z]]] (.tup [V.sl2 4 [.str (T 0).1,.str (T 0).2,.str (T 1).1,.str (T 1).2,.str (T 2).1,.str (T 2).2,.str (T 3).1,.str (T 3).2],.int .i64 0]):=by
 refine V.en tbOk Tryz.func82 ?_
 refine V.r0 @jiA ?_
 refine jac (0) (fun k=>k≤4) (fun k=>4-k) (fun k=>[(14,.int .i64 k)]) (fun k=>[(11,.box (preD (2*k) [.str (T 0).1,.str (T 0).2,.str (T 1).1,.str (T 1).2,.str (T 2).1,.str (T 2).2,.str (T 3).1,.str (T 3).2]))]) ?_ ?_ ?_
 ·exact V.wk
 ·exact jiv _
 intro k hk
 have hk4:k=0∨k=1∨k=2∨k=3∨k=4:=by omega
 rcases hk4 with e|e|e|e|e
 all_goals subst e
 ·simp only[k0]
  refine V.r1 jia c0 ?_
  exact⟨1,by omega,by omega,V.wk⟩
 ·simp only[k1]
  refine V.r1 jia c1 ?_
  exact⟨2,by omega,by omega,V.wk⟩
 ·simp only[k2]
  refine V.r1 jia c2 ?_
  exact⟨3,by omega,by omega,V.wk⟩
 ·simp only[k3]
  refine V.r1 jia c3 ?_
  exact⟨4,by omega,by omega,V.wk⟩
 ·simp only[xk4]
  refine V.r0 @jiA ?_
  exact Fin.of rfl
theorem sum2 (P S:Nat→Tx)(h0:S 0=P 0)(c0:Cl 100 [.agg [.str (S 0).1,.str (S 0).2],.agg [.str (P 1).1,.str (P 1).2]] (.tup [.agg [.str (S 1).1,.str (S 1).2],.int .i64 0])) :
  Cl 87 [V.sl2 2 [.str (P 0).1,.str (P 0).2,.str (P 1).1,.str (P 1).2]] (.tup [.agg [.str (S 1).1,.str (S 1).2],.int .i64 0]):=by
 have h1:(S 0).1=(P 0).1∧(S 0).2=(P 0).2:=by rw[h0];exact⟨rfl,rfl⟩
 refine V.en tbOk Tryz.func87 ?_
 refine V.r0 jia ?_
 refine jac (0) (fun k=>k≤1) (fun k=>1-k) (fun k=>[(14,.int .i64 k)]) (fun k=>[(4,.box [.str (S k).1,.str (S k).2])]) ?_ ?_ ?_
 ·rw[h1.1,h1.2]
  exact V.wk
 ·exact jiv _
 intro k hk
 have hk4:k=0∨k=1:=by omega
 rcases hk4 with e|e
 all_goals subst e
 ·simp only[k0]
  refine V.r1 jia c0 ?_
  exact⟨1,by omega,by omega,V.wk⟩
 ·simp only[k1]
  refine V.r0 @jiA ?_
  exact Fin.of rfl
theorem sum3 (P S:Nat→Tx)(h0:S 0=P 0)(c0:Cl 100 [.agg [.str (S 0).1,.str (S 0).2],.agg [.str (P 1).1,.str (P 1).2]] (.tup [.agg [.str (S 1).1,.str (S 1).2],.int .i64 0]))(c1:Cl 100 [.agg [.str (S 1).1,.str (S 1).2],.agg [.str (P 2).1,.str (P 2).2]] (.tup [.agg [.str (S 2).1,.str (S 2).2],.int .i64 0])) :
  Cl 87 [V.sl2 3 [.str (P 0).1,.str (P 0).2,.str (P 1).1,.str (P 1).2,.str (P 2).1,.str (P 2).2]] (.tup [.agg [.str (S 2).1,.str (S 2).2],.int .i64 0]):=by
 have h1:(S 0).1=(P 0).1∧(S 0).2=(P 0).2:=by rw[h0];exact⟨rfl,rfl⟩
 refine V.en tbOk Tryz.func87 ?_
 refine V.r0 jia ?_
 refine jac (0) (fun k=>k≤2) (fun k=>2-k) (fun k=>[(14,.int .i64 k)]) (fun k=>[(4,.box [.str (S k).1,.str (S k).2])]) ?_ ?_ ?_
 ·rw[h1.1,h1.2]
  exact V.wk
 ·exact jiv _
 intro k hk
 have hk4:k=0∨k=1∨k=2:=by omega
 rcases hk4 with e|e|e
 all_goals subst e
 ·simp only[k0]
  refine V.r1 jia c0 ?_
  exact⟨1,by omega,by omega,V.wk⟩
 ·simp only[k1]
  refine V.r1 jia c1 ?_
  exact⟨2,by omega,by omega,V.wk⟩
 ·simp only[k2]
  refine V.r0 @jiA ?_
  exact Fin.of rfl
theorem sum4 (P S:Nat→Tx)(h0:S 0=P 0)(c0:Cl 100 [.agg [.str (S 0).1,.str (S 0).2],.agg [.str (P 1).1,.str (P 1).2]] (.tup [.agg [.str (S 1).1,.str (S 1).2],.int .i64 0]))(c1:Cl 100 [.agg [.str (S 1).1,.str (S 1).2],.agg [.str (P 2).1,.str (P 2).2]] (.tup [.agg [.str (S 2).1,.str (S 2).2],.int .i64 0]))(c2:Cl 100 [.agg [.str (S 2).1,.str (S 2).2],.agg [.str (P 3).1,.str (P 3).2]] (.tup [.agg [.str (S 3).1,.str (S 3).2],.int .i64 0])) :
  Cl 87 [V.sl2 4 [.str (P 0).1,.str (P 0).2,.str (P 1).1,.str (P 1).2,.str (P 2).1,.str (P 2).2,.str (P 3).1,.str (P 3).2]] (.tup [.agg [.str (S 3).1,.str (S 3).2],.int .i64 0]):=by
 have h1:(S 0).1=(P 0).1∧(S 0).2=(P 0).2:=by rw[h0];exact⟨rfl,rfl⟩
 refine V.en tbOk Tryz.func87 ?_
 refine V.r0 jia ?_
 refine jac (0) (fun k=>k≤3) (fun k=>3-k) (fun k=>[(14,.int .i64 k)]) (fun k=>[(4,.box [.str (S k).1,.str (S k).2])]) ?_ ?_ ?_
 ·rw[h1.1,h1.2]
  exact V.wk
 ·exact jiv _
 intro k hk
 have hk4:k=0∨k=1∨k=2∨k=3:=by omega
 rcases hk4 with e|e|e|e
 all_goals subst e
 ·simp only[k0]
  refine V.r1 jia c0 ?_
  exact⟨1,by omega,by omega,V.wk⟩
 ·simp only[k1]
  refine V.r1 jia c1 ?_
  exact⟨2,by omega,by omega,V.wk⟩
 ·simp only[k2]
  refine V.r1 jia c2 ?_
  exact⟨3,by omega,by omega,V.wk⟩
 ·simp only[k3]
  refine V.r0 @jiA ?_
  exact Fin.of rfl
theorem jir:type_of% @jiC∧type_of% @jiA∧type_of% @tn0∧type_of% @tn1∧type_of% @tn2∧type_of% @tn3∧type_of% @xt4:=⟨@jiC,@jiA,@tn0,@tn1,@tn2,@tn3,@xt4⟩
theorem prod2_0 (W M:Nat→Tx)(U:Nat→List Int)(out:Nat)(g0 g1:List UInt8)(hl:out<(U 0).length)(ig:Cl 86 [.int .i64 ((U 0).getD out 0)] (.agg [.str g0,.str g1]))
  (mu:Cl 85 [.agg [.str (W 0).1,.str (W 0).2],.agg [.str g0,.str g1]] (.tup [.agg [.str (M 0).1,.str (M 0).2],.int .i64 0])) :
  Cl 84 [.int .i64 0,.ref [V.sl2 2 [.str (W 0).1,.str (W 0).2,.str (W 1).1,.str (W 1).2]],.ref [.slf 1 2 (fun j=>List.take 1 (List.drop (j*1) [.ints .i64 (U 0),.ints .i64 (U 1)]))],.ref [.int .i64 out]] (.tup [.agg [.str (M 0).1,.str (M 0).2],.int .i64 0]):=by
 have hi:(out:Int)<(U 0).length:=by omega
 refine V.en tbOk Tryz.func84 ?_
 refine V.r0 jia ?_
 refine⟨Pq13z,[],V.pok,?_⟩
 refine jab [(6,.int .i64 0)] [(5,.box [.str (M 0).1,.str (M 0).2])] ?_ ?_
 ·exact V.d2 jir ig mu
 refine V.r0 @jiA ?_
 exact Fin.of rfl
theorem prod2_1 (W M:Nat→Tx)(U:Nat→List Int)(out:Nat)(g0 g1:List UInt8)(hl:out<(U 1).length)(ig:Cl 86 [.int .i64 ((U 1).getD out 0)] (.agg [.str g0,.str g1]))
  (mu:Cl 85 [.agg [.str (W 1).1,.str (W 1).2],.agg [.str g0,.str g1]] (.tup [.agg [.str (M 1).1,.str (M 1).2],.int .i64 0])) :
  Cl 84 [.int .i64 1,.ref [V.sl2 2 [.str (W 0).1,.str (W 0).2,.str (W 1).1,.str (W 1).2]],.ref [.slf 1 2 (fun j=>List.take 1 (List.drop (j*1) [.ints .i64 (U 0),.ints .i64 (U 1)]))],.ref [.int .i64 out]] (.tup [.agg [.str (M 1).1,.str (M 1).2],.int .i64 0]):=by
 have hi:(out:Int)<(U 1).length:=by omega
 refine V.en tbOk Tryz.func84 ?_
 refine V.r0 jia ?_
 refine⟨Pq13z,[],V.pok,?_⟩
 refine jab [(6,.int .i64 0)] [(5,.box [.str (M 1).1,.str (M 1).2])] ?_ ?_
 ·exact V.d2 jir ig mu
 refine V.r0 @jiA ?_
 exact Fin.of rfl
theorem prod3_0 (W M:Nat→Tx)(U:Nat→List Int)(out:Nat)(g0 g1:List UInt8)(hl:out<(U 0).length)(ig:Cl 86 [.int .i64 ((U 0).getD out 0)] (.agg [.str g0,.str g1]))
  (mu:Cl 85 [.agg [.str (W 0).1,.str (W 0).2],.agg [.str g0,.str g1]] (.tup [.agg [.str (M 0).1,.str (M 0).2],.int .i64 0])) :
  Cl 84 [.int .i64 0,.ref [V.sl2 3 [.str (W 0).1,.str (W 0).2,.str (W 1).1,.str (W 1).2,.str (W 2).1,.str (W 2).2]],.ref [.slf 1 3 (fun j=>List.take 1 (List.drop (j*1) [.ints .i64 (U 0),.ints .i64 (U 1),.ints .i64 (U 2)]))],.ref [.int .i64 out]] (.tup [.agg [.str (M 0).1,.str (M 0).2],.int .i64 0]):=by
 have hi:(out:Int)<(U 0).length:=by omega
 refine V.en tbOk Tryz.func84 ?_
 refine V.r0 jia ?_
 refine⟨Pq13z,[],V.pok,?_⟩
 refine jab [(6,.int .i64 0)] [(5,.box [.str (M 0).1,.str (M 0).2])] ?_ ?_
 ·exact V.d2 jir ig mu
 refine V.r0 @jiA ?_
 exact Fin.of rfl
theorem prod3_1 (W M:Nat→Tx)(U:Nat→List Int)(out:Nat)(g0 g1:List UInt8)(hl:out<(U 1).length)(ig:Cl 86 [.int .i64 ((U 1).getD out 0)] (.agg [.str g0,.str g1]))
  (mu:Cl 85 [.agg [.str (W 1).1,.str (W 1).2],.agg [.str g0,.str g1]] (.tup [.agg [.str (M 1).1,.str (M 1).2],.int .i64 0])) :
  Cl 84 [.int .i64 1,.ref [V.sl2 3 [.str (W 0).1,.str (W 0).2,.str (W 1).1,.str (W 1).2,.str (W 2).1,.str (W 2).2]],.ref [.slf 1 3 (fun j=>List.take 1 (List.drop (j*1) [.ints .i64 (U 0),.ints .i64 (U 1),.ints .i64 (U 2)]))],.ref [.int .i64 out]] (.tup [.agg [.str (M 1).1,.str (M 1).2],.int .i64 0]):=by
 have hi:(out:Int)<(U 1).length:=by omega
 refine V.en tbOk Tryz.func84 ?_
 refine V.r0 jia ?_
 refine⟨Pq13z,[],V.pok,?_⟩
 refine jab [(6,.int .i64 0)] [(5,.box [.str (M 1).1,.str (M 1).2])] ?_ ?_
 ·exact V.d2 jir ig mu
 refine V.r0 @jiA ?_
 exact Fin.of rfl
theorem prod3_2 (W M:Nat→Tx)(U:Nat→List Int)(out:Nat)(g0 g1:List UInt8)(hl:out<(U 2).length)(ig:Cl 86 [.int .i64 ((U 2).getD out 0)] (.agg [.str g0,.str g1]))
  (mu:Cl 85 [.agg [.str (W 2).1,.str (W 2).2],.agg [.str g0,.str g1]] (.tup [.agg [.str (M 2).1,.str (M 2).2],.int .i64 0])) :
  Cl 84 [.int .i64 2,.ref [V.sl2 3 [.str (W 0).1,.str (W 0).2,.str (W 1).1,.str (W 1).2,.str (W 2).1,.str (W 2).2]],.ref [.slf 1 3 (fun j=>List.take 1 (List.drop (j*1) [.ints .i64 (U 0),.ints .i64 (U 1),.ints .i64 (U 2)]))],.ref [.int .i64 out]] (.tup [.agg [.str (M 2).1,.str (M 2).2],.int .i64 0]):=by
 have hi:(out:Int)<(U 2).length:=by omega
 refine V.en tbOk Tryz.func84 ?_
 refine V.r0 jia ?_
 refine⟨Pq13z,[],V.pok,?_⟩
 refine jab [(6,.int .i64 0)] [(5,.box [.str (M 2).1,.str (M 2).2])] ?_ ?_
 ·exact V.d2 jir ig mu
 refine V.r0 @jiA ?_
 exact Fin.of rfl
theorem prod4_0 (W M:Nat→Tx)(U:Nat→List Int)(out:Nat)(g0 g1:List UInt8)(hl:out<(U 0).length)(ig:Cl 86 [.int .i64 ((U 0).getD out 0)] (.agg [.str g0,.str g1]))
  (mu:Cl 85 [.agg [.str (W 0).1,.str (W 0).2],.agg [.str g0,.str g1]] (.tup [.agg [.str (M 0).1,.str (M 0).2],.int .i64 0])) :
  Cl 84 [.int .i64 0,.ref [V.sl2 4 [.str (W 0).1,.str (W 0).2,.str (W 1).1,.str (W 1).2,.str (W 2).1,.str (W 2).2,.str (W 3).1,.str (W 3).2]],.ref [.slf 1 4 (fun j=>List.take 1 (List.drop (j*1) [.ints .i64 (U 0),.ints .i64 (U 1),.ints .i64 (U 2),.ints .i64 (U 3)]))],.ref [.int .i64 out]] (.tup [.agg [.str (M 0).1,.str (M 0).2],.int .i64 0]):=by
 have hi:(out:Int)<(U 0).length:=by omega
 refine V.en tbOk Tryz.func84 ?_
 refine V.r0 jia ?_
 refine⟨Pq13z,[],V.pok,?_⟩
 refine jab [(6,.int .i64 0)] [(5,.box [.str (M 0).1,.str (M 0).2])] ?_ ?_
 ·exact V.d2 jir ig mu
 refine V.r0 @jiA ?_
 exact Fin.of rfl
theorem prod4_1 (W M:Nat→Tx)(U:Nat→List Int)(out:Nat)(g0 g1:List UInt8)(hl:out<(U 1).length)(ig:Cl 86 [.int .i64 ((U 1).getD out 0)] (.agg [.str g0,.str g1]))
  (mu:Cl 85 [.agg [.str (W 1).1,.str (W 1).2],.agg [.str g0,.str g1]] (.tup [.agg [.str (M 1).1,.str (M 1).2],.int .i64 0])) :
  Cl 84 [.int .i64 1,.ref [V.sl2 4 [.str (W 0).1,.str (W 0).2,.str (W 1).1,.str (W 1).2,.str (W 2).1,.str (W 2).2,.str (W 3).1,.str (W 3).2]],.ref [.slf 1 4 (fun j=>List.take 1 (List.drop (j*1) [.ints .i64 (U 0),.ints .i64 (U 1),.ints .i64 (U 2),.ints .i64 (U 3)]))],.ref [.int .i64 out]] (.tup [.agg [.str (M 1).1,.str (M 1).2],.int .i64 0]):=by
 have hi:(out:Int)<(U 1).length:=by omega
 refine V.en tbOk Tryz.func84 ?_
 refine V.r0 jia ?_
 refine⟨Pq13z,[],V.pok,?_⟩
 refine jab [(6,.int .i64 0)] [(5,.box [.str (M 1).1,.str (M 1).2])] ?_ ?_
 ·exact V.d2 jir ig mu
 refine V.r0 @jiA ?_
 exact Fin.of rfl
theorem prod4_2 (W M:Nat→Tx)(U:Nat→List Int)(out:Nat)(g0 g1:List UInt8)(hl:out<(U 2).length)(ig:Cl 86 [.int .i64 ((U 2).getD out 0)] (.agg [.str g0,.str g1]))
  (mu:Cl 85 [.agg [.str (W 2).1,.str (W 2).2],.agg [.str g0,.str g1]] (.tup [.agg [.str (M 2).1,.str (M 2).2],.int .i64 0])) :
  Cl 84 [.int .i64 2,.ref [V.sl2 4 [.str (W 0).1,.str (W 0).2,.str (W 1).1,.str (W 1).2,.str (W 2).1,.str (W 2).2,.str (W 3).1,.str (W 3).2]],.ref [.slf 1 4 (fun j=>List.take 1 (List.drop (j*1) [.ints .i64 (U 0),.ints .i64 (U 1),.ints .i64 (U 2),.ints .i64 (U 3)]))],.ref [.int .i64 out]] (.tup [.agg [.str (M 2).1,.str (M 2).2],.int .i64 0]):=by
 have hi:(out:Int)<(U 2).length:=by omega
 refine V.en tbOk Tryz.func84 ?_
 refine V.r0 jia ?_
 refine⟨Pq13z,[],V.pok,?_⟩
 refine jab [(6,.int .i64 0)] [(5,.box [.str (M 2).1,.str (M 2).2])] ?_ ?_
 ·exact V.d2 jir ig mu
 refine V.r0 @jiA ?_
 exact Fin.of rfl
theorem prod4_3 (W M:Nat→Tx)(U:Nat→List Int)(out:Nat)(g0 g1:List UInt8)(hl:out<(U 3).length)(ig:Cl 86 [.int .i64 ((U 3).getD out 0)] (.agg [.str g0,.str g1]))
  (mu:Cl 85 [.agg [.str (W 3).1,.str (W 3).2],.agg [.str g0,.str g1]] (.tup [.agg [.str (M 3).1,.str (M 3).2],.int .i64 0])) :
  Cl 84 [.int .i64 3,.ref [V.sl2 4 [.str (W 0).1,.str (W 0).2,.str (W 1).1,.str (W 1).2,.str (W 2).1,.str (W 2).2,.str (W 3).1,.str (W 3).2]],.ref [.slf 1 4 (fun j=>List.take 1 (List.drop (j*1) [.ints .i64 (U 0),.ints .i64 (U 1),.ints .i64 (U 2),.ints .i64 (U 3)]))],.ref [.int .i64 out]] (.tup [.agg [.str (M 3).1,.str (M 3).2],.int .i64 0]):=by
 have hi:(out:Int)<(U 3).length:=by omega
 refine V.en tbOk Tryz.func84 ?_
 refine V.r0 jia ?_
 refine⟨Pq13z,[],V.pok,?_⟩
 refine jab [(6,.int .i64 0)] [(5,.box [.str (M 3).1,.str (M 3).2])] ?_ ?_
 ·exact V.d2 jir ig mu
 refine V.r0 @jiA ?_
 exact Fin.of rfl
theorem val1_2 (W M S:Nat→Tx)(U:Nat→List Int)(out:Int)(f0 f1 y0 y1:List UInt8)(li:Cl 82 [.int .i64 2,.fn 84 [] [.ref [V.sl2 2 [.str (W 0).1,.str (W 0).2,.str (W 1).1,.str (W 1).2]],.ref [.slf 1 2 (fun j=>List.take 1 (List.drop (j*1) [.ints .i64 (U 0),.ints .i64 (U 1)]))],.ref [.int .i64 out]]] (.tup [V.sl2 2 [.str (M 0).1,.str (M 0).2,.str (M 1).1,.str (M 1).2],.int .i64 0]))
  (su:Cl 87 [V.sl2 2 [.str (M 0).1,.str (M 0).2,.str (M 1).1,.str (M 1).2]] (.tup [.agg [.str (S 1).1,.str (S 1).2],.int .i64 0])) (fu:Cl 86 [.int .i64 65535] (.agg [.str f0,.str f1])) (dv:Cl 88 [.agg [.str (S 1).1,.str (S 1).2],.agg [.str f0,.str f1]] (.tup [.agg [.str y0,.str y1],.int .i64 0])) :
  Cl 83 [.int .i64 out,.ref [.slf 1 2 (fun j=>List.take 1 (List.drop (j*1) [.ints .i64 (U 0),.ints .i64 (U 1)]))],.ref [V.sl2 2 [.str (W 0).1,.str (W 0).2,.str (W 1).1,.str (W 1).2]]] (.tup [.agg [.str y0,.str y1],.int .i64 0]):=by
 refine V.en tbOk Tryz.func83 ?_
 refine V.r2 @jiA li su ?_
 refine⟨Pq68z,[],V.pok,?_⟩
 refine jab [(5,.int .i64 0)] [(4,.box [.str y0,.str y1])] ?_ ?_
 ·exact V.d2 @jiA fu dv
 refine V.r0 @jiA ?_
 exact Fin.of rfl
theorem val1_3 (W M S:Nat→Tx)(U:Nat→List Int)(out:Int)(f0 f1 y0 y1:List UInt8)(li:Cl 82 [.int .i64 3,.fn 84 [] [.ref [V.sl2 3 [.str (W 0).1,.str (W 0).2,.str (W 1).1,.str (W 1).2,.str (W 2).1,.str (W 2).2]],.ref [.slf 1 3 (fun j=>List.take 1 (List.drop (j*1) [.ints .i64 (U 0),.ints .i64 (U 1),.ints .i64 (U 2)]))],.ref [.int .i64 out]]] (.tup [V.sl2 3 [.str (M 0).1,.str (M 0).2,.str (M 1).1,.str (M 1).2,.str (M 2).1,.str (M 2).2],.int .i64 0]))
  (su:Cl 87 [V.sl2 3 [.str (M 0).1,.str (M 0).2,.str (M 1).1,.str (M 1).2,.str (M 2).1,.str (M 2).2]] (.tup [.agg [.str (S 2).1,.str (S 2).2],.int .i64 0])) (fu:Cl 86 [.int .i64 65535] (.agg [.str f0,.str f1])) (dv:Cl 88 [.agg [.str (S 2).1,.str (S 2).2],.agg [.str f0,.str f1]] (.tup [.agg [.str y0,.str y1],.int .i64 0])) :
  Cl 83 [.int .i64 out,.ref [.slf 1 3 (fun j=>List.take 1 (List.drop (j*1) [.ints .i64 (U 0),.ints .i64 (U 1),.ints .i64 (U 2)]))],.ref [V.sl2 3 [.str (W 0).1,.str (W 0).2,.str (W 1).1,.str (W 1).2,.str (W 2).1,.str (W 2).2]]] (.tup [.agg [.str y0,.str y1],.int .i64 0]):=by
 refine V.en tbOk Tryz.func83 ?_
 refine V.r2 @jiA li su ?_
 refine⟨Pq68z,[],V.pok,?_⟩
 refine jab [(5,.int .i64 0)] [(4,.box [.str y0,.str y1])] ?_ ?_
 ·exact V.d2 @jiA fu dv
 refine V.r0 @jiA ?_
 exact Fin.of rfl
theorem val1_4 (W M S:Nat→Tx)(U:Nat→List Int)(out:Int)(f0 f1 y0 y1:List UInt8)(li:Cl 82 [.int .i64 4,.fn 84 [] [.ref [V.sl2 4 [.str (W 0).1,.str (W 0).2,.str (W 1).1,.str (W 1).2,.str (W 2).1,.str (W 2).2,.str (W 3).1,.str (W 3).2]],.ref [.slf 1 4 (fun j=>List.take 1 (List.drop (j*1) [.ints .i64 (U 0),.ints .i64 (U 1),.ints .i64 (U 2),.ints .i64 (U 3)]))],.ref [.int .i64 out]]] (.tup [V.sl2 4 [.str (M 0).1,.str (M 0).2,.str (M 1).1,.str (M 1).2,.str (M 2).1,.str (M 2).2,.str (M 3).1,.str (M 3).2],.int .i64 0]))
  (su:Cl 87 [V.sl2 4 [.str (M 0).1,.str (M 0).2,.str (M 1).1,.str (M 1).2,.str (M 2).1,.str (M 2).2,.str (M 3).1,.str (M 3).2]] (.tup [.agg [.str (S 3).1,.str (S 3).2],.int .i64 0])) (fu:Cl 86 [.int .i64 65535] (.agg [.str f0,.str f1])) (dv:Cl 88 [.agg [.str (S 3).1,.str (S 3).2],.agg [.str f0,.str f1]] (.tup [.agg [.str y0,.str y1],.int .i64 0])) :
  Cl 83 [.int .i64 out,.ref [.slf 1 4 (fun j=>List.take 1 (List.drop (j*1) [.ints .i64 (U 0),.ints .i64 (U 1),.ints .i64 (U 2),.ints .i64 (U 3)]))],.ref [V.sl2 4 [.str (W 0).1,.str (W 0).2,.str (W 1).1,.str (W 1).2,.str (W 2).1,.str (W 2).2,.str (W 3).1,.str (W 3).2]]] (.tup [.agg [.str y0,.str y1],.int .i64 0]):=by
 refine V.en tbOk Tryz.func83 ?_
 refine V.r2 @jiA li su ?_
 refine⟨Pq68z,[],V.pok,?_⟩
 refine jab [(5,.int .i64 0)] [(4,.box [.str y0,.str y1])] ?_ ?_
 ·exact V.d2 @jiA fu dv
 refine V.r0 @jiA ?_
 exact Fin.of rfl
end Go.Proofs.YtgjgpdceghjajaaGreatDoor
end
