/- What functions of the program answer at given values, part 6. Conditions: those that each theorem names. -/
import Derived.Test.YtgjgpdceghjajaaGreatDoorSimplexWeightsH5
import Derived.Shelf.Strconv.ParseIntPublic10
import Derived.Test.YtgjgpdceghjajaaGreatDoorSimplexWeightsH4
set_option linter.unusedSimpArgs false
set_option linter.unusedVariables false
set_option maxHeartbeats 8000000
set_option maxRecDepth 100000
section
namespace Go.Proofs.YtgjgpdceghjajaaGreatDoor
open Go Go.V Go.Nb
theorem jcF (a b:Nat)(ha:(mg 1000000000 a).length≤100000000)(hb:(mg 1000000000 b).length≤100000000):Cl 151 [.ints .u32 (mg 1000000000 a),.ints .u32 (mg 1000000000 b)] (.ints .u32 (mg 1000000000 (a*b))):=by
 have hdx:=mg_dg (B:=1000000000) (by omega) a
 have hdy:=mg_dg (B:=1000000000) (by omega) b
 have hvx:=jaE (B:=1000000000) (by omega) a
 have hvy:=jaE (B:=1000000000) (by omega) b
 generalize mg 1000000000 a=xs at *
 generalize mg 1000000000 b=ys at *
 have hmn:((xs.length:Int)+(ys.length:Int)).toNat=xs.length+ys.length:=by omega
 refine V.en tbOk Tryz.func151 ?_
 refine V.r0 hmn ?_
 refine jac ((0,List.replicate (xs.length+ys.length) 0):Nat×List Int) (fun s=>s.1≤xs.length∧s.2.length=xs.length+ys.length∧Dg 1000000000 s.2∧(∀ k,s.1+ys.length≤k→s.2.getD k 0=0)∧val 1000000000 s.2=val 1000000000 (xs.take s.1)*val 1000000000 ys) (fun s=>xs.length-s.1)
  (fun s=>[(19,.int .i64 s.1),(5,.osl 16 0 (xs.length+ys.length))]) (fun s=>[(16,.arr .u32 s.2)]) ?_ ?_ ?_
 ·exact V.wk
 ·exact⟨jiF _,by simp,jb5 (by omega) _,fun k _=>by simp[jje,List.getElem?_replicate];split<;>simp,by simp[val,jer]⟩
 rintro⟨i,out⟩ ⟨h1,h2,h3,h4,h5⟩
 dsimp only at h1 h2 h3 h4 h5 ⊢
 have vx:=jai 1000000000 xs i
 have bx:=jal (by omega) hdx i
 generalize hx0:xs.getD i 0=x at *
 (conv=>whnf)
 refine V.st ?_
 refine V.br (fun hq=>?_) (fun hq=>?_)
 ·rw[decide_eq_true_eq] at hq
  refine V.r0 (V.a2 @jiK hx0) ?_
  refine jac ((0,out,0):Nat×List Int×Int) (fun s=>s.1≤ys.length∧s.2.1.length=xs.length+ys.length∧Dg 1000000000 s.2.1∧(∀ k,i+ys.length≤k→s.2.1.getD k 0=0)∧(0≤s.2.2∧s.2.2<1000000000)∧val 1000000000 s.2.1+((1000000000:Nat):Int)^(i+s.1)*s.2.2=val 1000000000 (xs.take i)*val 1000000000 ys+((1000000000:Nat):Int)^i*x*val 1000000000 (ys.take s.1)) (fun s=>ys.length-s.1)
   (fun s=>[(26,.int .i64 s.1),(8,.int .u64 s.2.2),(5,.osl 16 0 (xs.length+ys.length))]) (fun s=>[(16,.arr .u32 s.2.1)]) ?_ ?_ ?_
  ·exact V.wk
  ·exact⟨jiF _,h2,h3,h4,by simp,by simp[val,h5]⟩
  rintro⟨j,o,c⟩ ⟨g1,g2,g3,g4,g5,g6⟩
  dsimp only at g1 g2 g3 g4 g5 g6 ⊢
  have vy:=jai 1000000000 ys j
  have by':=jal (by omega) hdy j
  have bo:=jal (by omega) g3 (i+j)
  generalize hy0:ys.getD j 0=y at *
  generalize ho0:o.getD (i+j) 0=q at *
  have eij:((i:Int)+(j:Int)).toNat=i+j:=by omega
  have hxy:0≤x*y∧x*y≤999999999*999999999:=⟨jiH (by omega) (by omega),Int.mul_le_mul (by omega) (by omega) (by omega) (by omega)⟩
  have hkj:((j:Int)+1)=((j+1:Nat):Int):=by omega
  have hki:((i:Int)+1)=((i+1:Nat):Int):=by omega
  have ein:((i:Int)+(ys.length:Int)).toNat=i+ys.length:=by omega
  (conv=>whnf)
  refine V.st ?_
  refine V.br (fun hw=>?_) (fun hw=>?_)
  ·rw[decide_eq_true_eq] at hw
   have hm:0≤(c+(q+x*y))%1000000000∧(c+(q+x*y))%1000000000<1000000000:=⟨Int.emod_nonneg _ (by omega),ji4 _ (by omega)⟩
   have hc9:0≤(c+(q+x*y))/1000000000∧(c+(q+x*y))/1000000000<1000000000:=by omega
   have hst:=jgv (B:=1000000000) (x:=x) (y:=y) (q:=q) (c:=c) (d:=(c+(q+x*y))%1000000000) (c':=(c+(q+x*y))/1000000000) (by omega) ho0 g6 (by have:=jiG (c+(q+x*y)) 1000000000;omega)
   rw[← vy] at hst
   refine V.r0 (V.a7 eij @jiI @jiK hx0 hy0 ho0 hkj) ?_
   exact⟨(j+1,o.set (i+j) ((c+(q+x*y))%1000000000),(c+(q+x*y))/1000000000),⟨by dsimp only;omega,by dsimp only;rw[jjw];exact g2,jdD g3 hm,fun k hk=>by dsimp only;rw[jcz (by omega)];exact g4 k hk,⟨hc9.1,hc9.2⟩,hst⟩,by dsimp only;omega,V.wk⟩
  ·rw[decide_eq_false_iff_not] at hw
   have hj:j=ys.length:=by omega
   subst hj
   rw[jjA] at g6
   have hst:=prod_end (B:=1000000000) (by omega) (g4 _ (jiL _)) g6 hx0
   refine V.r0 (V.a3 ein @jiI hki) ?_
   exact⟨(i+1,o.set (i+ys.length) c),⟨by dsimp only;omega,by dsimp only;rw[jjw];exact g2,jdD g3 ⟨g5.1,g5.2⟩,fun k hk=>by dsimp only at hk ⊢; rw[jcz (by omega)];exact g4 k (by omega),hst⟩,by dsimp only;omega,V.wk⟩
 ·rw[decide_eq_false_iff_not] at hq
  rw[jjr (by omega),hvx,hvy,← jiW] at h5
  have hc:=jff out h3 (by omega)
  rw[h5,jiK,← jjA (l:=out),h2] at hc
  (conv=>whnf)
  refine V.st ?_
  repeat ((try ((with_reducible refine .ext ?_);(conv=>whnf)));(with_reducible refine jaa (r:=?_) ?_ ?_);rotate_left;(focus (first|exact(hc)));(conv=>whnf);refine V.st ?_)
  exact Fin.of rfl
theorem short_c (a d:Nat)(ha:(mg 1000000000 a).length≤100000000)(hd0:0<d)(hd1:d≤1000000000):Cl 196 [.ints .u32 (mg 1000000000 a),.int .u32 d] (.tup [.ints .u32 (mg 1000000000 (a/d)),.int .u32 (a%d:Nat)]):=by
 have hdx:=mg_dg (B:=1000000000) (by omega) a
 have hvx:=jaE (B:=1000000000) (by omega) a
 generalize mg 1000000000 a=xs at *
 have hmn:((xs.length:Int)).toNat=xs.length:=by omega
 refine V.en tbOk Tryz.func196 ?_
 refine V.r0 hmn ?_
 refine jac ((xs.length,List.replicate xs.length 0,0):Nat×List Int×Int) (fun s=>s.1≤xs.length∧s.2.1.length=xs.length∧Dg 1000000000 s.2.1∧(0≤s.2.2∧s.2.2<d)∧val 1000000000 (xs.drop s.1)=val 1000000000 (s.2.1.drop s.1)*d+s.2.2) (fun s=>s.1)
  (fun s=>[(8,.int .i64 ((s.1:Int)-1)),(7,.int .u64 s.2.2),(6,.osl 11 0 xs.length)]) (fun s=>[(11,.arr .u32 s.2.1)]) ?_ ?_ ?_
 ·exact V.wk
 ·exact⟨jiL _,by simp,jb5 (by omega) _,⟨by simp,by dsimp only;omega⟩,by simp[val]⟩
 rintro⟨k,out,r⟩ ⟨h1,h2,h3,h4,h5⟩
 dsimp only at h1 h2 h3 h4 h5 ⊢
 (conv=>whnf)
 refine V.st ?_
 refine V.br (fun hq=>?_) (fun hq=>?_)
 ·rw[decide_eq_true_eq] at hq
  obtain⟨j,rfl⟩:∃ j,k=j+1:=⟨k-1,by omega⟩
  have hj:j<xs.length:=by omega
  have bx:=jal (by omega) hdx j
  generalize hx0:xs.getD j 0=x at *
  have e2:(((j+1:Nat):Int)-1)=(j:Int):=by omega
  have hb:0≤(r*1000000000+x)/(d:Int)∧(r*1000000000+x)/(d:Int)<1000000000∧0≤(r*1000000000+x)%(d:Int)∧(r*1000000000+x)%(d:Int)<d:=jeE (B:=1000000000) (by omega:(0:Int)<d) h4 bx
  have hst:=jeD (B:=1000000000) hj (by omega) hx0 h5 (t:=r*1000000000+x) rfl
  have hr0:0≤r*1000000000+x:=by omega
  refine V.r0 (V.a4 e2 @jiI @jiK hx0) ?_
  exact⟨(j,out.set j ((r*1000000000+x)/d),(r*1000000000+x)%d),⟨by dsimp only;omega,by dsimp only;rw[jjw];exact h2,jdD h3 ⟨hb.1,hb.2.1⟩,⟨hb.2.2.1,hb.2.2.2⟩,hst⟩,by dsimp only;omega,V.wk⟩
 ·rw[decide_eq_false_iff_not] at hq
  obtain rfl:k=0:=by omega
  rw[List.drop_zero,List.drop_zero,hvx] at h5
  have hvq:=jam h3
  obtain⟨w,hw⟩:∃ w:Nat,val 1000000000 out=w:=⟨(val 1000000000 out).toNat,by omega⟩
  obtain⟨r',rfl⟩:∃ r':Nat,r=r':=⟨r.toNat,by omega⟩
  rw[hw,← jiW] at h5
  have h6:a=w*d+r':=by omega
  have e8:a/d=w:=by rw[h6,Nat.add_comm,Nat.add_mul_div_right _ _ hd0,Nat.div_eq_of_lt (by omega),jiI]
  have e9:a%d=r':=by rw[h6,Nat.add_comm,Nat.add_mul_mod_self_right,jiO (by omega)]
  have hc:=jff out h3 (by omega)
  rw[hw,jiK,← jjA (l:=out),h2] at hc
  (conv=>whnf)
  refine V.st ?_
  repeat ((try ((with_reducible refine .ext ?_);(conv=>whnf)));(with_reducible refine jaa (r:=?_) ?_ ?_);rotate_left;(focus (first|exact(hc)));(conv=>whnf);refine V.st ?_)
  exact Fin.of (by rw[e8,e9])
theorem length_c (n:Nat)(hn:(mg 1000000000 n).length≤100000000):Cl 167 [.ints .u32 (mg 1000000000 n)] (.int .i64 (dec n).length):=by
 have hz:=jdf n
 have hdx:=mg_dg (B:=1000000000) (by omega) n
 have hvx:=jaE (B:=1000000000) (by omega) n
 have hlx:=jdQ (B:=1000000000) (n:=n) (by omega)
 have hnil:=jb2 (B:=1000000000) (n:=n) (by omega)
 generalize mg 1000000000 n=xs at *
 refine V.en tbOk Tryz.func167 ?_
 (conv=>whnf)
 refine V.st ?_
 repeat ((try ((with_reducible refine .ext ?_);(conv=>whnf)));(with_reducible refine jaa (r:=?_) ?_ ?_);rotate_left;(focus (first|exact(hz)));(conv=>whnf);refine V.st ?_)
 refine V.br (fun hq=>?_) (fun hq=>?_)
 ·rw[decide_eq_true_eq] at hq
  subst hq
  (conv=>whnf)
  refine V.st ?_
  exact Fin.of rfl
 ·rw[decide_eq_false_iff_not] at hq
  obtain⟨j,hj⟩:∃ j,xs.length=j+1:=⟨xs.length-1,by
   have:xs≠[]:=fun e=>hq (hnil.1 e)
   have:=List.length_pos_iff.2 this
   omega⟩
  have bx:=jal (by omega) hdx j
  have hd:=jbX (B:=1000000000) (l:=xs) (k:=j) (by omega)
  have hnil2:xs.drop (j+1)=[]:=List.drop_eq_nil_of_le (by omega)
  rw[hnil2] at hd
  have hsp:=jbR 1000000000 xs j (by omega)
  have hlo:=jcd (jbq hdx j)
  have hlo0:=jam (jbq hdx j)
  rw[jjk,Nat.min_eq_left (by omega)] at hlo
  have hx1:xs.getD j 0≠0:=by
   refine hlx _ ?_
   rw[List.getLast?_eq_getElem?,hj,jje,show j+1-1=j by omega,jjh (by omega)];rfl
  generalize hx0:xs.getD j 0=x at *
  obtain⟨d,rfl⟩:∃ d:Nat,x=d:=⟨x.toNat,by omega⟩
  rw[hd,hvx] at hsp
  obtain⟨w,hw⟩:∃ w:Nat,val 1000000000 (xs.take j)=w:=⟨(val 1000000000 (xs.take j)).toNat,by omega⟩
  have hnw:n=d*10^(9*j)+w:=by
   have e:((10^(9*j):Nat):Int)=((1000000000:Nat):Int)^j:=by rw[Nat.pow_mul,ji6]
   simp only[val,Int.mul_zero,ji5] at hsp
   rw[hw,← e,← jiW,jiN] at hsp
   omega
  have hwl:w<10^(9*j):=by
   rw[Nat.pow_mul]
   rw[hw,← ji6] at hlo
   exact_mod_cast hlo
  have hdp:=jhV (a:=d) (by omega) (9*j) w hwl
  rw[← hnw] at hdp
  have hlen:(dec n).length=(dec d).length+9*j:=by rw[hdp,jjj,jdO]
  have hi:=itoa_c (d:Int)
  have hdz:decZ (d:Int)=dec d:=by unfold decZ;rw[if_neg (by omega),ji1]
  rw[hdz] at hi
  have e1:((xs.length:Int)-1)=(j:Int):=by omega
  have hdl:=je0 d 9 (by omega) (by omega)
  refine V.r1 (V.a3 @e1 @jiK hx0) hi ?_
  exact Fin.of (by rw[hlen];congr 1;omega)
end Go.Proofs.YtgjgpdceghjajaaGreatDoor
end
section
namespace Go.Nb
structure Kn (B top v2 vr u2 ur head U V P:Int):Prop where
 hB:2≤B
 hP:1≤P
 ht:1≤top
 hv:V=(top*B+v2)*P+vr
 hu:U=(head*B+u2)*P+ur
 v20:0≤v2
 v2B:v2<B
 u20:0≤u2
 u2B:u2<B
 vr0:0≤vr
 vrP:vr<P
 ur0:0≤ur
 urP:ur<P
 hh:0≤head
 htB:top<B
 lt:U<B*V
section
variable {B top v2 vr u2 ur head U V P : Int}
theorem Kn.vpos (K:Kn B top v2 vr u2 ur head U V P):0<V:=by
 have h1:0≤top*B:=jiH (by have:=K.ht;omega) (by have:=K.hB;omega)
 have h2:1*2≤top*B:=Int.mul_le_mul K.ht K.hB (by omega) (by have:=K.ht;omega)
 have h3:1*1≤(top*B+v2)*P:=Int.mul_le_mul (by have:=K.v20;omega) K.hP (by omega) (by have:=K.v20;omega)
 have:=K.hv
 have:=K.vr0
 omega
theorem Kn.ulo (K:Kn B top v2 vr u2 ur head U V P):head*B*P≤U∧U<(head+1)*B*P:=by
 have e:(head*B+u2)*P=head*B*P+u2*P:=ji7 _ _ _
 have e2:(head+1)*B*P=head*B*P+B*P:=by rw[ji7,ji8,ji7]
 have h1:0≤u2*P:=jiH K.u20 (by have:=K.hP;omega)
 have h2:(u2+1)*P≤B*P:=jiP (by have:=K.u2B;omega) (by have:=K.hP;omega)
 rw[ji7,ji8] at h2
 have:=K.hu
 have:=K.ur0
 have:=K.urP
 omega
theorem Kn.vlo (K:Kn B top v2 vr u2 ur head U V P):top*B*P≤V∧V<(top+1)*B*P:=by
 have e:(top*B+v2)*P=top*B*P+v2*P:=ji7 _ _ _
 have e2:(top+1)*B*P=top*B*P+B*P:=by rw[ji7,ji8,ji7]
 have h1:0≤v2*P:=jiH K.v20 (by have:=K.hP;omega)
 have h2:(v2+1)*P≤B*P:=jiP (by have:=K.v2B;omega) (by have:=K.hP;omega)
 rw[ji7,ji8] at h2
 have:=K.hv
 have:=K.vr0
 have:=K.vrP
 omega
theorem Kn.bp (K:Kn B top v2 vr u2 ur head U V P):0<B*P:=Int.mul_pos (by have:=K.hB;omega) (by have:=K.hP;omega)
theorem Kn.qlt (K:Kn B top v2 vr u2 ur head U V P){Q:Int}(h:Q*V≤U):Q<B:=
 Int.lt_of_mul_lt_mul_right (Int.lt_of_le_of_lt h K.lt) (Int.le_of_lt K.vpos)
theorem Kn.init (K:Kn B top v2 vr u2 ur head U V P){Q:Int}(hQ:0≤Q)(h:Q*V≤U):Q≤head/top:=by
 have ht:=K.ht
 refine(Int.le_ediv_iff_mul_le (by omega)).2 ?_
 rcases Int.lt_or_le head (Q*top) with hc|hc
 ·exfalso
  have h1:(head+1)*(B*P)≤Q*top*(B*P):=jiP (by omega) (Int.le_of_lt K.bp)
  have h2:Q*(top*B*P)≤Q*V:=ji0 K.vlo.1 hQ
  have h3:=K.ulo.2
  have e1:(head+1)*(B*P)=(head+1)*B*P:=(jiZ _ _ _).symm
  have e2:Q*top*(B*P)=Q*(top*B*P):=by simp only[jiZ]
  omega
 ·exact hc
theorem Kn.step (K:Kn B top v2 vr u2 ur head U V P){Q q r:Int}(hQ:0≤Q)(h:Q*V≤U)(hq:Q≤q)(hr:head=q*top+r)(hc:B≤q∨r*B+u2<q*v2):Q≤q-1:=by
 rcases hc with hc|hc
 ·have:=K.qlt h
  omega
 ·have hq0:0≤q:=by omega
  have h1:head*B+u2+1≤q*(top*B+v2):=by
   rw[hr,ji7,jiX,jiZ]
   omega
  have h2:(head*B+u2+1)*P≤q*(top*B+v2)*P:=jiP h1 (by have:=K.hP;omega)
  rw[ji7,ji8] at h2
  have h3:q*((top*B+v2)*P)≤q*V:=ji0 (by have:=K.hv;have:=K.vr0;omega) hq0
  rw[← jiZ] at h3
  have h4:Q*V<q*V:=by
   have:=K.hu
   have:=K.urP
   omega
  have:=Int.lt_of_mul_lt_mul_right h4 (Int.le_of_lt K.vpos)
  omega
theorem Kn.out1 (K:Kn B top v2 vr u2 ur head U V P){q r:Int}(hq0:0≤q)(hr:head=q*top+r)(h1:q<B)(h2:q*v2≤r*B+u2):(q-1)*V≤U:=by
 have h3:q*(top*B+v2)≤head*B+u2:=by
  rw[hr,ji7,jiX,jiZ]
  omega
 have h4:q*(top*B+v2)*P≤(head*B+u2)*P:=jiP h3 (by have:=K.hP;omega)
 have e1:q*V=q*(top*B+v2)*P+q*vr:=by rw[K.hv,jiX,jiZ]
 have h5:q*vr≤B*P:=by
  have h6:q*vr≤B*vr:=jiP (by omega) K.vr0
  have h7:B*vr≤B*P:=ji0 (by have:=K.vrP;omega) (by have:=K.hB;omega)
  omega
 have h8:1*(B*P)≤top*(B*P):=jiP K.ht (Int.le_of_lt K.bp)
 have e2:top*(B*P)=top*B*P:=(jiZ _ _ _).symm
 have h9:=K.vlo.1
 have:=K.hu
 have:=K.ur0
 rw[Int.sub_mul,ji8]
 omega
theorem Kn.out2 (K:Kn B top v2 vr u2 ur head U V P){q r:Int}(hq0:0≤q)(hr:head=q*top+r)(h1:B≤r):q<B∧(q-1)*V≤U:=by
 have hlo:=K.ulo
 have vlo:=K.vlo
 have hbp:=K.bp
 -- the head is at most top * B + B - 1
 have h2:head<(top+1)*B:=by
  rcases Int.lt_or_le head ((top+1)*B) with h|h
  ·exact h
  ·exfalso
   have h3:(top+1)*B*(B*P)≤head*(B*P):=jiP h (Int.le_of_lt hbp)
   have h4:B*V<B*((top+1)*B*P):=Int.mul_lt_mul_of_pos_left vlo.2 (by have:=K.hB;omega)
   have e1:(top+1)*B*(B*P)=B*((top+1)*B*P):=by ac_rfl
   have e2:head*(B*P)=head*B*P:=(jiZ _ _ _).symm
   have:=K.lt
   omega
 rw[ji7,ji8] at h2
 have hqB:q<B:=by
  rcases Int.lt_or_le q B with h|h
  ·exact h
  ·exfalso
   have h3:B*top≤q*top:=jiP h (by have:=K.ht;omega)
   rw[jiY B top] at h3
   omega
 refine⟨hqB,?_⟩
 have h5:q*top≤head-B:=by omega
 have h6:q*top*(B*P)≤(head-B)*(B*P):=jiP h5 (Int.le_of_lt hbp)
 have h7:q*V≤q*((top+1)*B*P):=ji0 (Int.le_of_lt vlo.2) hq0
 have h8:q*(B*P)≤B*(B*P):=jiP (Int.le_of_lt hqB) (Int.le_of_lt hbp)
 have e1:q*((top+1)*B*P)=q*top*(B*P)+q*(B*P):=by
  rw[ji7,ji8,ji7,jiX]
  simp only[jiZ]
 rw[Int.sub_mul] at h6
 have e2:head*(B*P)=head*B*P:=(jiZ _ _ _).symm
 have:=K.vpos
 rw[Int.sub_mul,ji8]
 omega
end
end Go.Nb
end
section
namespace Go.Proofs.YtgjgpdceghjajaaGreatDoor
open Go Go.V Go.Nb
theorem red_a {P W V q c b mid wlo un:Int}(hP:0<P)(hV0:0<V)(hVP:V≤P)(hW:W=wlo+un*P)(hmid:mid-(c+b)*P=wlo-q*V)(hm0:0≤mid)(hq:W/V≤q)(h:c+b≤un):q=W/V∧mid=W%V:=by
 have h1:=jiG W V
 have h2:=ji4 W hV0
 have h3:W-q*V=mid+(un-(c+b))*P:=by rw[Int.sub_mul];omega
 have h4:0≤(q-W/V)*V:=jiH (by omega) (by omega)
 rw[Int.sub_mul,jiY (W/V)] at h4
 have h5:un-(c+b)=0:=by
  rcases Int.lt_or_le 0 (un-(c+b)) with h6|h6
  ·have h7:1*P≤(un-(c+b))*P:=jiP (by omega) (by omega)
   omega
  ·omega
 rw[h5,Int.zero_mul,ji5] at h3
 have h8:q≤W/V:=(Int.le_ediv_iff_mul_le hV0).2 (by omega)
 have h9:q=W/V:=by omega
 refine⟨h9,?_⟩
 rw[h9,jiY] at h3
 omega
theorem red_b {P W V q c b mid mid2 over wlo un:Int}(hP:0<P)(hV0:0<V)(hVP:V≤P)(hW:W=wlo+un*P)(hmid:mid-(c+b)*P=wlo-q*V)(hm1:mid<P)(hq1:(q-1)*V≤W)(h:un<c+b)
  (h2:mid2+over*P=mid+V) (h20:0≤mid2) (h21:mid2<P):q-1=W/V∧mid2=W%V:=by
 have h1:=jiG W V
 have h3:=ji4 W hV0
 have h30:=Int.emod_nonneg W (by omega:V≠0)
 have h4:W-q*V=mid+(un-(c+b))*P:=by rw[Int.sub_mul];omega
 have h5:1*P≤(c+b-un)*P:=jiP (by omega) (by omega)
 have h6:(un-(c+b))*P = -((c+b-un)*P):=by rw[← Int.neg_mul];congr 1;omega
 have h7:q-1≤W/V:=(Int.le_ediv_iff_mul_le hV0).2 hq1
 have h8:W/V<q:=(Int.ediv_lt_iff_lt_mul hV0).2 (by omega)
 have h9:q-1=W/V:=by omega
 refine⟨h9,?_⟩
 have e1:W%V=mid2+(over+un-(c+b))*P:=by
  have e2:W%V=W-(q-1)*V:=by rw[h9,jiY];omega
  rw[e2,Int.sub_mul,ji8]
  have e3:(over+un-(c+b))*P=over*P+(un-(c+b))*P:=by rw[← ji7];congr 1;omega
  rw[e3];omega
 have e4:over+un-(c+b)=0:=by
  rcases Int.lt_trichotomy (over+un-(c+b)) 0 with g|g|g
  ·have:(over+un-(c+b))*P≤(-1)*P:=jiP (by omega) (by omega)
   omega
  ·exact g
  ·have:1*P≤(over+un-(c+b))*P:=jiP (by omega) (by omega)
   omega
 rw[e4,Int.zero_mul,ji5] at e1
 exact e1.symm
theorem red_step {B:Nat}{mid ul vl:List Int}{c b u d r c' b' q:Int}{i:Nat}(hi:mid.length=i)(h:val B mid-(c+b)*(B:Int)^i=val B ul-q*val B vl)(hs:r-B*(c'+b')=u-q*d-(c+b)) :
  val B (mid++[r])-(c'+b')*(B:Int)^(i+1)=(val B ul+(B:Int)^i*u)-q*(val B vl+(B:Int)^i*d):=by
 rw[jaR,hi,Int.pow_succ,jiX]
 generalize (B:Int)^i=P at *
 have e1:P*(r-B*(c'+b'))=P*r-(c'+b')*(P*B):=by rw[Int.mul_sub];congr 1;ac_rfl
 have e2:P*(u-q*d-(c+b))=P*u-q*(P*d)-(c+b)*P:=by rw[Int.mul_sub,Int.mul_sub];congr 1;congr 1;ac_rfl;ac_rfl
 rw[hs,e2] at e1
 omega
theorem jf6 {u A mid:List Int}{k:Nat}{r:Int}(hk:A.length+mid.length=k)(h:k<u.length):(A++mid++u.drop k).set k r=A++(mid++[r])++u.drop (k+1):=by
 have e:(A++mid).length=k:=by rw[jjj];exact hk
 rw[List.set_append_right _ _ (by omega),e,Nat.sub_self,jju h,List.set_cons_zero]
 simp
theorem mid_get {u A mid:List Int}{k:Nat}(hk:A.length+mid.length=k):(A++mid++u.drop k).getD k 0=u.getD k 0:=by
 have e:(A++mid).length=k:=by rw[jjj];exact hk
 rw[jje,List.getElem?_append_right (by omega),e,Nat.sub_self,List.getElem?_drop,jje]
 rfl
theorem mid_drop {u A mid:List Int}{k:Nat}(hk:A.length+mid.length=k):(A++mid++u.drop k).drop k=u.drop k:=by
 have e:(A++mid).length=k:=by rw[jjj];exact hk
 rw[List.drop_append,e,Nat.sub_self,jjs (by omega)]
 simp
theorem getD_drop {u:List Int}{j i:Nat} : (u.drop j).getD i 0=u.getD (j+i) 0:=by
 rw[jje,List.getElem?_drop,jje]
theorem kn_of {B p j:Nat}{u v:List Int}{W V:Int}(hB:2≤B)(hu:Dg B u)(hv:Dg B v)(hlv:v.length=p+2)(hV:val B v=V)(hW:val B (u.drop j)=W)(hz:val B (u.drop (j+(p+2)+1))=0)(htop:1≤v.getD (p+1) 0)(hlt:W<B*V) :
  Kn B (v.getD (p+1) 0) (v.getD p 0) (val B (v.take p)) (u.getD (j+p) 0) (val B ((u.drop j).take p)) (u.getD (j+(p+2)) 0*B+u.getD (j+(p+1)) 0) W V ((B:Int)^p):=by
 have e1:V=(v.getD (p+1) 0*B+v.getD p 0)*(B:Int)^p+val B (v.take p):=by
  rw[← hV]
  conv=>lhs;rw[← jjA (l:=v),hlv,jai,jai]
  rw[Int.pow_succ]
  generalize (B:Int)^p=P
  rw[ji7]
  have e:v.getD (p+1) 0*B*P=P*B*v.getD (p+1) 0:=by ac_rfl
  have e':v.getD p 0*P=P*v.getD p 0:=jiY _ _
  omega
 have e2:W=((u.getD (j+(p+2)) 0*B+u.getD (j+(p+1)) 0)*B+u.getD (j+p) 0)*(B:Int)^p+val B ((u.drop j).take p):=by
  have h1:val B (u.drop j)=val B ((u.drop j).take p)+(B:Int)^p*val B (u.drop (j+p)):=by
   rcases Nat.le_total p (u.drop j).length with h|h
   ·rw[jbR B (u.drop j) p h,List.drop_drop]
   ·have hz2:u.drop (j+p)=[]:=List.drop_eq_nil_of_le (by rw[jjx] at h;omega)
    rw[jjr h,hz2];simp[val]
  rw[← hW,h1,ja4 B u (j+p),ja4 B u (j+p+1),ja4 B u (j+p+1+1)]
  rw[show j+p+1+1+1=j+(p+2)+1 by omega,hz,show j+p+1+1=j+(p+2) by omega,show j+p+1=j+(p+1) by omega]
  rw[Int.mul_zero,ji5]
  generalize (B:Int)^p=P
  rw[Int.add_comm,jiY P]
  congr 2
  rw[jiY (B:Int),jiY (B:Int),Int.add_comm,Int.add_comm (u.getD (j+(p+1)) 0)]
 have b1:=jal (by omega) hv (p+1)
 have b2:=jal (by omega) hv p
 have b3:=jal (by omega) hu (j+p)
 have b4:=jal (by omega) hu (j+(p+1))
 have b5:=jal (by omega) hu (j+(p+2))
 have l1:=jcp hB hv p
 have l2:=jcp hB (jbx hu j) p
 have l3:=jam (jbq hv p)
 have l4:=jam (jbq (jbx hu j) p)
 have l5:=jec hB p
 have l6:0≤u.getD (j+(p+2)) 0*(B:Int):=jiH b5.1 (by omega)
 exact { hB:=by omega,hP:=by omega,ht:=htop,hv:=e1,hu:=e2,v20:=b2.1,v2B:=b2.2,u20:=b3.1,u2B:=b3.2,vr0:=l3,vrP:=l1,ur0:=l4,urP:=l2,hh:=by omega,htB:=b1.2,lt:=hlt }
theorem div_inv {B p j:Nat}{u q mid:List Int}{Qd W VV M:Int}(hB:2≤B)(hj:j<q.length)(hju:j+(p+2)<u.length)(hmid:mid.length=p+2)(hdu:Dg B u)(hdm:Dg B mid)(h6:val B (u.drop (j+(p+2)+1))=0)
  (hW:val B (u.drop j)=W) (hV0:0<VV) (hm:val B mid=W%VV) (hQ:Qd=W/VV) (h8:M=val B (q.drop (j+1))*(B:Int)^(j+1)*VV+val B u) :
  (u.take j++(mid++[0])++u.drop (j+(p+2)+1)).length=u.length∧Dg B (u.take j++(mid++[0])++u.drop (j+(p+2)+1))∧val B ((u.take j++(mid++[0])++u.drop (j+(p+2)+1)).drop (j+(p+2)))=0 ∧
  val B ((u.take j++(mid++[0])++u.drop (j+(p+2)+1)).drop j)<VV∧M=val B ((q.set j Qd).drop j)*(B:Int)^j*VV+val B (u.take j++(mid++[0])++u.drop (j+(p+2)+1)):=by
 have hA:(u.take j).length=j:=by rw[jjk];omega
 have hl:(u.take j++(mid++[0])++u.drop (j+(p+2)+1)).length=u.length:=by
  simp only[jjj,jjk,jjx,List.length_singleton,hmid];omega
 have hd:Dg B (u.take j++(mid++[0])++u.drop (j+(p+2)+1)):=jah (jah (jbq hdu _) (jah hdm (jav (by omega)))) (jbx hdu _)
 have hz:∀ P:Int,val B (mid++[0]++u.drop (j+(p+2)+1))=val B mid:=fun _=>by
  rw[jbM,h6,Int.mul_zero,ji5,jaR,Int.mul_zero,ji5]
 have e1:(u.take j++(mid++[0])++u.drop (j+(p+2)+1)).drop j=mid++[0]++u.drop (j+(p+2)+1):=by
  rw[jjl,List.drop_append,hA,Nat.sub_self,jjs (by omega)];rfl
 have e2:(u.take j++(mid++[0])++u.drop (j+(p+2)+1)).drop (j+(p+2))=[0]++u.drop (j+(p+2)+1):=by
  rw[← List.drop_drop,e1,jjl,List.drop_append,hmid,Nat.sub_self,jjs (by omega)];rfl
 have hr:=ji4 W hV0
 refine⟨hl,hd,?_,?_,?_⟩
 ·rw[e2,jbM,h6];simp[val]
 ·rw[e1,hz 0,hm];exact hr
 ·have v1:=jbR B u j (by omega)
  rw[hW] at v1
  have v2:val B (u.take j++(mid++[0])++u.drop (j+(p+2)+1))=val B (u.take j)+(B:Int)^j*(W%VV):=by
   rw[jjl,jbM,hA,hz 0,hm]
  have v3:=jbX (B:=B) (l:=q.set j Qd) (k:=j) (by rw[jjw];exact hj)
  rw[jeN hj,jeS (l:=q) (i:=j) (k:=j+1) (by omega)] at v3
  rw[h8,v2,v3,v1,hQ,Int.pow_succ]
  have v4:=jiG W VV
  generalize W/VV=Q at *
  generalize W%VV=R at *
  generalize (B:Int)^j=P
  generalize val B (q.drop (j+1))=q1
  rw[← v4,jiX,ji7,ji7]
  have w1:q1*(P*(B:Int))*VV=(B:Int)*q1*P*VV:=by ac_rfl
  have w2:P*(VV*Q)=Q*P*VV:=by ac_rfl
  rw[w1,w2]
  omega
theorem jhP (a b:Nat)(h:a<b)(ha:(mg 1000000000 a).length≤100000000)(hb:(mg 1000000000 b).length≤100000000):Cl 166 [.ints .u32 (mg 1000000000 a),.ints .u32 (mg 1000000000 b)] (.tup [.ints .u32 (mg 1000000000 (a/b)),.ints .u32 (mg 1000000000 (a%b))]):=by
 have hc:=jcl a b ha hb
 rw[ji9 (by omega)] at hc
 rw[Nat.div_eq_of_lt h,jiO h,jcv]
 refine V.en tbOk Tryz.func166 ?_
 (conv=>whnf)
 refine V.st ?_
 repeat ((try ((with_reducible refine .ext ?_);(conv=>whnf)));(with_reducible refine jaa (r:=?_) ?_ ?_);rotate_left;(focus (first|exact(hc)));(conv=>whnf);refine V.st ?_)
 exact Fin.tup ⟨Fin.nil _,Fin.of rfl,trivial⟩
theorem divide_one (a b:Nat)(h:b≤a)(hb:0<b)(hb1:b<1000000000)(ha:(mg 1000000000 a).length≤100000000):Cl 166 [.ints .u32 (mg 1000000000 a),.ints .u32 (mg 1000000000 b)] (.tup [.ints .u32 (mg 1000000000 (a/b)),.ints .u32 (mg 1000000000 (a%b))]):=by
 have hc:=jcl a b ha (by have:=jaf (B:=1000000000) (by omega) h;omega)
 have hmb:mg 1000000000 b=[(b:Int)]:=by
  rw[jcj (by omega) hb,jiO hb1,Nat.div_eq_of_lt hb1];rfl
 have hs0:0≤((a:Int)-b).sign:=Int.sign_nonneg_iff.2 (by omega)
 generalize ((a:Int)-b).sign=sg at *
 have hsh:=short_c a b ha hb (by omega)
 have hlt:a%b<b:=Nat.mod_lt _ hb
 have hfs:=jdc (a%b) (by omega)
 rw[hmb] at hc ⊢
 refine V.en tbOk Tryz.func166 ?_
 (conv=>whnf)
 refine V.st ?_
 repeat ((try ((with_reducible refine .ext ?_);(conv=>whnf)));(with_reducible refine jaa (r:=?_) ?_ ?_);rotate_left;(focus (first|exact(hc)));(conv=>whnf);refine V.st ?_)
 refine Cnd.no (by rw[decide_eq_false_iff_not];omega) ?_
 (conv=>whnf)
 refine V.st ?_
 refine Cnd.yes (by simp) ?_
 (conv=>whnf)
 refine V.st ?_
 repeat ((try ((with_reducible refine .ext ?_);(conv=>whnf)));(with_reducible refine jaa (r:=?_) ?_ ?_);rotate_left;(focus (first|exact(hsh)|exact(hfs)));(conv=>whnf);refine V.st ?_)
 exact Fin.of rfl
theorem jid:type_of% @jiK∧type_of% @jiI:=⟨@jiK,@jiI⟩
theorem jhO (a b:Nat)(h:b≤a)(hb1:1000000000≤b)(ha:(mg 1000000000 a).length≤90000000):Cl 166 [.ints .u32 (mg 1000000000 a),.ints .u32 (mg 1000000000 b)] (.tup [.ints .u32 (mg 1000000000 (a/b)),.ints .u32 (mg 1000000000 (a%b))]):=by
 have hlen:=jaf (B:=1000000000) (by omega) h
 have hc:=jcl a b (by omega) (by omega)
 have hs0:0≤((a:Int)-b).sign:=Int.sign_nonneg_iff.2 (by omega)
 generalize ((a:Int)-b).sign=sg at *
 obtain⟨p,hp⟩:∃ p,(mg 1000000000 b).length=p+2:=by
  have:=jaf (B:=1000000000) (by omega) hb1
  have e:mg 1000000000 1000000000=[0,1]:=by rfl
  rw[e] at this
  exact⟨(mg 1000000000 b).length-2,by simp at this;omega⟩
 -- the scale
 have hdb:=mg_dg (B:=1000000000) (by omega) b
 have hvb:=jaE (B:=1000000000) (by omega) b
 have hlb:=jdQ (B:=1000000000) (n:=b) (by omega)
 have hlt1:=jaJ (B:=1000000000) (n:=a) (by omega)
 have ht0:=jal (by omega) hdb (p+1)
 have ht1:(mg 1000000000 b).getD (p+1) 0≠0:=by
  refine hlb _ ?_
  rw[List.getLast?_eq_getElem?,hp,jje,show p+2-1=p+1 by omega,jjh (by omega)];rfl
 generalize hts:(mg 1000000000 b).getD (p+1) 0=t at *
 obtain⟨t,rfl⟩:∃ t':Nat,t=t':=⟨t.toNat,by omega⟩
 obtain⟨s,hs⟩:∃ s:Nat,1000000000/((t:Int)+1)=s:=⟨(1000000000/((t:Int)+1)).toNat,by have:=Int.ediv_nonneg (a:=1000000000) (b:=(t:Int)+1) (by omega) (by omega);omega⟩
 have hs1:1≤s∧s<1000000000∧s*(t+1)≤1000000000:=by
  have e1:s=1000000000/(t+1):=by
   have:((1000000000/(t+1):Nat):Int)=1000000000/((t:Int)+1):=by rw[Int.natCast_ediv];rfl
   omega
  refine⟨?_,?_,?_⟩
  ·rw[e1];exact(Nat.le_div_iff_mul_le (by omega)).2 (by omega)
  ·rw[e1];exact Nat.div_lt_of_lt_mul (by omega)
  ·rw[e1];exact Nat.div_mul_le_self _ _
 have hms:mg 1000000000 s=[(s:Int)]:=by
  rw[jcj (by omega) (by omega),jiO (by omega),Nat.div_eq_of_lt (by omega)];rfl
 have htm1:=jcF b s (by omega) (by rw[hms];simp)
 have htm2:=jcF a s (by omega) (by rw[hms];simp)
 rw[hms] at htm1 htm2
 -- the divisor, scaled
 have hbt:b<(t+1)*1000000000^(p+1)∧t*1000000000^(p+1)≤b:=by
  have h1:=jd8 (B:=1000000000) (by omega) hdb (p+1)
  rw[ja4,hts,List.drop_eq_nil_of_le (by omega),hvb] at h1
  simp only[val,Int.mul_zero,ji5] at h1
  have e:((1000000000:Nat):Int)^(p+1)=((1000000000^(p+1):Nat):Int):=by rw[ji6]
  rw[e] at h1
  have e1:((t:Int)+1)=((t+1:Nat):Int):=by omega
  rw[e1,← jiW,← jiW] at h1
  omega
 have hPp:0<1000000000^(p+1):=Nat.pow_pos (by omega)
 have hVlt:b*s<1000000000^(p+2):=by
  have h1:b*s<(t+1)*1000000000^(p+1)*s:=Nat.mul_lt_mul_of_pos_right hbt.1 (by omega)
  have h2:s*(t+1)*1000000000^(p+1)≤1000000000*1000000000^(p+1):=Nat.mul_le_mul_right _ hs1.2.2
  have e1:(t+1)*1000000000^(p+1)*s=s*(t+1)*1000000000^(p+1):=by ac_rfl
  rw[Nat.pow_succ 1000000000 (p+1),jiN (1000000000^(p+1))]
  omega
 have hVge:s*1000000000^(p+1)≤b*s:=by
  have h1:1*1000000000^(p+1)≤t*1000000000^(p+1):=Nat.mul_le_mul_right _ (by omega)
  rw[jiN b]
  exact Nat.mul_le_mul_left _ (by omega)
 have hVl:(mg 1000000000 (b*s)).length=p+2:=by
  have h1:=jaw (B:=1000000000) (n:=b*s) (k:=p+2) (by omega) hVlt
  rcases jiR (mg 1000000000 (b*s)).length (p+2) with h2|h2
  ·have h3:=jaJ (B:=1000000000) (n:=b*s) (by omega)
   have h4:1000000000^(mg 1000000000 (b*s)).length≤1000000000^(p+1):=ji2 (by omega) (by omega)
   have h5:1*1000000000^(p+1)≤s*1000000000^(p+1):=Nat.mul_le_mul_right _ hs1.1
   omega
  ·omega
 have hdV:=mg_dg (B:=1000000000) (by omega) (b*s)
 have hvV:=jaE (B:=1000000000) (by omega) (b*s)
 have hlV:=jdQ (B:=1000000000) (n:=b*s) (by omega)
 have htV:(mg 1000000000 (b*s)).getD (p+1) 0≠0:=by
  refine hlV _ ?_
  rw[List.getLast?_eq_getElem?,hVl,jje,show p+2-1=p+1 by omega,jjh (by omega)];rfl
 have hM:(mg 1000000000 (a*s)).length≤(mg 1000000000 a).length+1:=by
  have:=jbO (B:=1000000000) (by omega) a s
  rw[hms] at this
  simpa using this
 have hdM:=mg_dg (B:=1000000000) (by omega) (a*s)
 have hvM:=jaE (B:=1000000000) (by omega) (a*s)
 have hMlt:a*s<s*1000000000^(mg 1000000000 a).length:=by
  rw[jiN];exact Nat.mul_lt_mul_of_pos_left hlt1 (by omega)
 generalize hmb:mg 1000000000 b=bs at *
 generalize hma:mg 1000000000 a=xs at *
 generalize hmV:mg 1000000000 (b*s)=vs at *
 generalize hmM:mg 1000000000 (a*s)=ms at *
 have e1:((bs.length:Int)-1).toNat=p+1:=by omega
 obtain⟨N,hN⟩:∃ N,N=xs.length+1:=⟨_,rfl⟩
 obtain⟨L,hL⟩:∃ L,L=xs.length-vs.length:=⟨_,rfl⟩
 obtain⟨L1,hL1⟩:∃ L1,L1=L+1:=⟨_,rfl⟩
 have e2:(xs.length:Int)+1=(N:Int):=by omega
 have e3:(xs.length:Int)-((p+2:Nat):Int)=(L:Int):=by omega
 have e4:(L:Int)+1=(L1:Int):=by omega
 refine V.en tbOk Tryz.func166 ?_
 (conv=>whnf)
 refine V.st ?_
 repeat ((try ((with_reducible refine .ext ?_);(conv=>whnf)));(with_reducible refine jaa (r:=?_) ?_ ?_);rotate_left;(focus (first|exact(hc)));(conv=>whnf);refine V.st ?_)
 refine Cnd.no (by rw[decide_eq_false_iff_not];omega) ?_
 (conv=>whnf)
 refine V.st ?_
 refine Cnd.no (by rw[decide_eq_false_iff_not];omega) ?_
 refine V.r2 (V.a8 @e1 e2 e3 e4 hts hs hVl @jiK) htm1 htm2 ?_
 have hu0:setAt (List.replicate N 0) 0 (List.take N ms)=ms++List.replicate (N-ms.length) 0:=by
  unfold setAt
  rw[List.take_zero,List.nil_append,jjr (l:=ms) (by omega),jiI,List.drop_replicate]
 have hu0v:val 1000000000 (ms++List.replicate (N-ms.length) 0)=(a*s:Nat):=by
  rw[jbM,jer,Int.mul_zero,ji5,hvM]
 simp only[hu0]
 refine jac ((L1,ms++List.replicate (N-ms.length) 0,List.replicate L1 0):Nat×List Int×List Int) (fun x=>x.1≤L1∧x.2.1.length=N∧Dg 1000000000 x.2.1∧x.2.2.length=L1∧Dg 1000000000 x.2.2∧val 1000000000 (x.2.1.drop (x.1+(p+2)))=0∧val 1000000000 (x.2.1.drop x.1)<(b*s:Nat)∧((a*s:Nat):Int)=val 1000000000 (x.2.2.drop x.1)*((1000000000:Nat):Int)^x.1*(b*s:Nat)+val 1000000000 x.2.1) (fun x=>x.1)
  (fun x=>[(12,.int .i64 ((x.1:Int)-1)),(4,.osl 62 0 L1),(10,.osl 48 0 N)]) (fun x=>[(62,.arr .u32 x.2.2),(48,.arr .u32 x.2.1)]) ?_ ?_ ?_
 ·rw[show ((L1:Int)-1)=(L:Int) by omega]
  exact V.wk
 ·refine⟨jiL _,by simp;omega,jah hdM (jb5 (by omega) _),by simp,jb5 (by omega) _,?_,?_,?_⟩
  ·dsimp only
   rw[jjs (by simp;omega)];rfl
  ·dsimp only
   have h1:=jd8 (B:=1000000000) (by omega) (jah hdM (jb5 (by omega) (N-ms.length))) L1
   rw[hu0v] at h1
   generalize val 1000000000 ((ms++List.replicate (N-ms.length) 0).drop L1)=z at *
   have h2:((1000000000:Nat):Int)^L1=((1000000000^L1:Nat):Int):=by rw[ji6]
   have h3:0<1000000000^L1:=Nat.pow_pos (by omega)
   have h4:a*s<(s*1000000000^(p+1))*1000000000^L1:=by
    rw[Nat.mul_assoc,← Nat.pow_add,show p+1+L1=xs.length by omega];exact hMlt
   have h5:(s*1000000000^(p+1))*1000000000^L1≤(b*s)*1000000000^L1:=Nat.mul_le_mul_right _ hVge
   rw[h2] at h1
   refine Int.lt_of_mul_lt_mul_right (a:=((1000000000^L1:Nat):Int)) ?_ (by omega)
   rw[← jiW]
   omega
  ·dsimp only
   rw[jjs (by simp),hu0v];simp[val]
 rintro⟨k,u,q⟩ ⟨h1,h2,h3,h4,h5,h6,h7,h8⟩
 dsimp only at h1 h2 h3 h4 h5 h6 h7 h8 ⊢
 (conv=>whnf)
 refine V.st ?_
 refine V.br (fun hq=>?_) (fun hq=>?_)
 ·rw[decide_eq_true_eq] at hq
  obtain⟨j,rfl⟩:∃ j,k=j+1:=⟨k-1,by omega⟩
  have f1:(((j+1:Nat):Int)-1)=(j:Int):=by omega
  have f2:(j:Int)+((p+2:Nat):Int)=((j+(p+2):Nat):Int):=by omega
  have f4:((j+(p+2):Nat):Int)+1=((j+(p+3):Nat):Int):=by omega
  have f5:j+(p+3)-j=p+3:=by omega
  have f6:((p+2:Nat):Int)-1=((p+1:Nat):Int):=by omega
  have f7:((p+2:Nat):Int)-2=((p:Nat):Int):=by omega
  -- what is looked at
  obtain⟨W,hW⟩:∃ W,val 1000000000 (u.drop j)=W:=⟨_,rfl⟩
  obtain⟨VV,hVV⟩:∃ VV:Int,((b*s:Nat):Int)=VV:=⟨_,rfl⟩
  rw[hVV] at h7 h8 hvV
  have bv1:=jal (by omega) hdV (p+1)
  have bu:=jal (by omega) h3 j
  have hWlt:W<1000000000*VV:=by
   rw[ja4] at hW;omega
  have hkn:=kn_of (B:=1000000000) (p:=p) (j:=j) (u:=u) (v:=vs) (W:=W) (V:=VV) (by omega) h3 hdV hVl hvV hW (by rw[show j+(p+2)+1=j+1+(p+2) by omega];exact h6) (by omega) hWlt
  have hVpos:=hkn.vpos
  have hW0:0≤W:=by rw[← hW];exact jam (jbx h3 j)
  have b1:=jal (by omega) h3 (j+(p+2))
  have b2:=jal (by omega) h3 (j+(p+1))
  have b3:=jal (by omega) h3 (j+p)
  have b4:=jal (by omega) hdV p
  generalize hg1:u.getD (j+(p+2)) 0=un at *
  generalize hg2:u.getD (j+(p+1)) 0=u1 at *
  generalize hg3:u.getD (j+p) 0=u0 at *
  generalize hg4:vs.getD (p+1) 0=vt at *
  generalize hg5:vs.getD p 0=v2 at *
  refine V.r0 (V.a7 jid f1 f2 f4 f5 f6 f7) ?_
  refine .inl ?_
  (conv=>whnf)
  refine⟨0,_,_,⟨Tryz.func197,rfl,rfl,jiE rfl⟩,?_⟩
  (conv=>whnf)
  (conv=>whnf)
  (try simp only[jid,f1,f2,f4,f5,f6,f7,hVl,hg4])
  repeat ((first|refine V.s1 ?_);(try simp only[jid,f1,f2,f4,f5,f6,f7,hVl,hg4]))
  refine⟨(V.tk [0,1,2,3,4,5,6,7,8,9,10,11,12,13] .done),[],V.pok,.go (jad ?_)⟩
  (conv=>whnf)
  (try simp only[jid,f1,f2,f4,f5,f6,f7,hVl,hg1,hg2])
  repeat ((first|refine V.s1 ?_);(try simp only[jid,f1,f2,f4,f5,f6,f7,hVl,hg1,hg2]))
  refine⟨(V.tk [0,1,2,3,4,5,6,7] .done),[],V.pok,.go (jad ?_)⟩
  (conv=>whnf)
  (try simp only[jid,f1,f2,f4,f5,f6,f7,hVl,hg1,hg2])
  repeat ((first|refine V.s1 ?_);(try simp only[jid,f1,f2,f4,f5,f6,f7,hVl,hg1,hg2]))
  have hkn':Kn 1000000000 vt v2 (val 1000000000 (vs.take p)) u0 (val 1000000000 ((u.drop j).take p)) (un*1000000000+u1) W VV (((1000000000:Nat):Int)^p):=hkn
  have hQ0:0≤W/VV:=Int.ediv_nonneg hW0 (by omega)
  have hQm:W/VV*VV≤W:=Int.ediv_mul_le _ (by omega)
  have hQi:=hkn'.init hQ0 hQm
  have hhd:0≤un*1000000000+u1∧un*1000000000+u1<1000000000000000000:=by omega
  generalize hHD:un*1000000000+u1=HD at *
  refine jhy (β:=Int×Int) 0 (fun y=>0≤y.1∧y.1<1000000000∧(y.1-1)*VV≤W∧W/VV≤y.1) (fun y=>[(8,.int .u64 y.1),(9,.int .u64 y.2)]) (fun _=>[]) ?_ ?_
  ·refine jac ((HD/vt,HD%vt):Int×Int) (fun y=>HD=y.1*vt+y.2∧(0≤y.2∧y.2<1000000000)∧W/VV≤y.1) (fun y=>y.1.toNat) (fun y=>[(8,.int .u64 y.1),(9,.int .u64 y.2)]) (fun _=>[]) ?_ ?_ ?_
   ·exact V.wk
   ·have hvtp:(0:Int)<vt:=by omega
    refine⟨by dsimp only;have:=jiG HD vt;rw[jiY];omega,⟨Int.emod_nonneg _ (by omega),?_⟩,hQi⟩
    have:=ji4 HD hvtp
    dsimp only;omega
   rintro⟨qq,r⟩ ⟨i1,i2,i3⟩
   dsimp only at i1 i2 i3 ⊢
   have hqv:qq<1000000000→0≤qq*v2∧qq*v2≤999999999*999999999:=fun h=>⟨jiH (by omega) (by omega),Int.mul_le_mul (by omega) (by omega) (by omega) (by omega)⟩
   refine V.r0 (V.a8 jid f1 f2 f4 f5 f6 f7 hVl) ?_
   refine⟨(V.tk [0,1,2,3,4,5,6,7,8,9,10,11,12,13,14,15,16,17,18,19,20,21] .done),[],V.pok,.go (jad ?_)⟩
   (conv=>whnf)
   (try simp only[jid,f1,f2,f4,f5,f6,f7,hVl,hg5,hg3])
   repeat ((first|refine V.s1 ?_);(try simp only[jid,f1,f2,f4,f5,f6,f7,hVl,hg5,hg3]))
   refine Or.inl (And.intro (fun h _ _=>?_) ?_)
   ·have h9:=hqv (by simpa using h)
    exact⟨by simp only[V.lo];omega,by simp only[V.hi];omega⟩
   (conv=>whnf)
   (try simp only[jid,f1,f2,f4,f5,f6,f7,hVl,hg5,hg3])
   repeat ((first|refine V.s1 ?_);(try simp only[jid,f1,f2,f4,f5,f6,f7,hVl,hg5,hg3]))
   refine V.br (fun hq5=>?_) (fun hq5=>?_)
   ·rw[jiT,decide_eq_true_eq,decide_eq_true_eq] at hq5
    have hst:=hkn'.step hQ0 hQm i3 i1 (by omega)
    have hqpos:1≤qq:=by omega
    have hrec:HD=(qq-1)*vt+(r+vt):=by rw[Int.sub_mul,ji8];omega
    refine V.r0 (V.a8 jid f1 f2 f4 f5 f6 f7 hVl) ?_
    refine V.br (fun hq6=>?_) (fun hq6=>?_)
    ·rw[decide_eq_true_eq] at hq6
     have ho:=hkn'.out2 (q:=qq-1) (r:=r+vt) (by omega) hrec hq6
     refine V.r0 (V.a8 jid f1 f2 f4 f5 f6 f7 hVl) ?_
     exact⟨(qq-1,r+vt),⟨by dsimp only;omega,ho.1,ho.2,hst⟩,V.wk⟩
    ·rw[decide_eq_false_iff_not] at hq6
     refine V.r0 (V.a8 jid f1 f2 f4 f5 f6 f7 hVl) ?_
     exact⟨(qq-1,r+vt),⟨hrec,by dsimp only;omega,hst⟩,by dsimp only;omega,V.wk⟩
   ·rw[jiU,decide_eq_false_iff_not,decide_eq_false_iff_not] at hq5
    have ho:=hkn'.out1 (q:=qq) (r:=r) (by omega) i1 (by omega) (by omega)
    refine V.r0 (V.a8 jid f1 f2 f4 f5 f6 f7 hVl) ?_
    exact⟨(qq,r),⟨by dsimp only;omega,by dsimp only;omega,ho,i3⟩,V.wk⟩
  ·rintro⟨qq,r⟩ ⟨i1,i2,i3,i4⟩
   dsimp only at i1 i2 i3 i4 ⊢
   refine V.r0 (V.a8 jid f1 f2 f4 f5 f6 f7 hVl) ?_
   have hAl:(u.take j).length=j:=by rw[jjk];omega
   have hnl:u.take j++[]++u.drop (j+0)=u:=by rw[List.append_nil,Nat.add_zero,List.take_append_drop]
   refine jac ((0,[],0,0):Nat×List Int×Int×Int) (fun y=>y.1≤p+2∧y.2.1.length=y.1∧Dg 1000000000 y.2.1∧(0≤y.2.2.1∧y.2.2.1<1000000000)∧(0≤y.2.2.2∧y.2.2.2≤1)∧val 1000000000 y.2.1-(y.2.2.1+y.2.2.2)*((1000000000:Nat):Int)^y.1=val 1000000000 ((u.drop j).take y.1)-qq*val 1000000000 (vs.take y.1)) (fun y=>p+2-y.1)
    (fun y=>[(77,.int .i64 y.1),(10,.int .u64 y.2.2.1),(11,.int .i64 y.2.2.2)]) (fun y=>[(48,.arr .u32 (u.take j++y.2.1++u.drop (j+y.1)))]) ?_ ?_ ?_
   ·rw[hnl]
    exact V.wk
   ·exact⟨jiF _,rfl,fun x hx=>by simp at hx,by simp,by simp,by simp[val]⟩
   rintro⟨i,mid,c,bw⟩ ⟨g1,g2,g3,g4,g5,g6⟩
   dsimp only at g1 g2 g3 g4 g5 g6 ⊢
   have hvu:=jai 1000000000 (u.drop j) i
   have hvv:=jai 1000000000 vs i
   rw[getD_drop] at hvu
   have bd:=jal (by omega) hdV i
   have bui:=jal (by omega) h3 (j+i)
   have hcl:(u.take j++mid++u.drop (j+i)).length=N:=by
    rw[jjj,jjj,hAl,g2,jjx];omega
   have hcg:=mid_get (u:=u) (A:=u.take j) (mid:=mid) (k:=j+i) (by omega)
   refine V.r0 (V.a8 jid f1 f2 f4 f5 f6 f7 hVl) ?_
   refine V.br (fun hw=>?_) (fun hw=>?_)
   ·rw[decide_eq_true_eq] at hw
    have hms2:=fun r=>jf6 (u:=u) (A:=u.take j) (mid:=mid) (k:=j+i) (r:=r) (by omega) (by omega)
    generalize hd0:vs.getD i 0=d at *
    generalize hui:u.getD (j+i) 0=ui at *
    have hqd:0≤qq*d∧qq*d≤999999999*999999999:=⟨jiH (by omega) (by omega),Int.mul_le_mul (by omega) (by omega) (by omega) (by omega)⟩
    have hki:((i:Int)+1)=((i+1:Nat):Int):=by omega
    have hai:j+i+1=j+(i+1):=by omega
    generalize hqd0:qq*d=qd at *
    (conv=>whnf)
    (try simp only[jid,f1,f2,f4,f5,f6,f7,hVl,hd0,hcg,hki,hqd0])
    repeat ((first|refine V.s1 ?_);(try simp only[jid,f1,f2,f4,f5,f6,f7,hVl,hd0,hcg,hki,hqd0]))
    refine V.br (fun hneg=>?_) (fun hneg=>?_)
    ·rw[decide_eq_true_eq] at hneg
     have hst:=red_step (B:=1000000000) (q:=qq) (d:=d) (u:=ui) (r:=ui-bw-(c+qd)%1000000000+1000000000) (c':=(c+qd)/1000000000) (b':=1) g2 g6 (by rw[hqd0];have:=jiG (c+qd) 1000000000;omega)
     rw[← hvu,← hvv] at hst
     (conv=>whnf)
     (try simp only[jid,f1,f2,f4,f5,f6,f7,hVl,hd0,hcg,hki,hms2,hai])
     repeat ((first|refine V.s1 ?_);(try simp only[jid,f1,f2,f4,f5,f6,f7,hVl,hd0,hcg,hki,hms2,hai]))
     exact⟨(i+1,mid++[ui-bw-(c+qd)%1000000000+1000000000],(c+qd)/1000000000,1),⟨by dsimp only;omega,by simp[g2],jah g3 (jav (by omega)),by dsimp only;omega,by simp,hst⟩,by dsimp only;omega,V.wk⟩
    ·rw[decide_eq_false_iff_not] at hneg
     have hst:=red_step (B:=1000000000) (q:=qq) (d:=d) (u:=ui) (r:=ui-bw-(c+qd)%1000000000) (c':=(c+qd)/1000000000) (b':=0) g2 g6 (by rw[hqd0];have:=jiG (c+qd) 1000000000;omega)
     rw[← hvu,← hvv] at hst
     (conv=>whnf)
     (try simp only[jid,f1,f2,f4,f5,f6,f7,hVl,hd0,hcg,hki,hms2,hai])
     repeat ((first|refine V.s1 ?_);(try simp only[jid,f1,f2,f4,f5,f6,f7,hVl,hd0,hcg,hki,hms2,hai]))
     exact⟨(i+1,mid++[ui-bw-(c+qd)%1000000000],(c+qd)/1000000000,0),⟨by dsimp only;omega,by simp[g2],jah g3 (jav (by omega)),by dsimp only;omega,by simp,hst⟩,by dsimp only;omega,V.wk⟩
   ·rw[decide_eq_false_iff_not] at hw
    obtain rfl:i=p+2:=by omega
    rw[hg1] at hcg
    (conv=>whnf)
    (try simp only[jid,f1,f2,f4,f5,f6,f7,hVl,hcg])
    repeat ((first|refine V.s1 ?_);(try simp only[jid,f1,f2,f4,f5,f6,f7,hVl,hcg]))
    have h6':val 1000000000 (u.drop (j+(p+2)+1))=0:=by rw[show j+(p+2)+1=j+1+(p+2) by omega];exact h6
    have hWs:W=val 1000000000 ((u.drop j).take (p+2))+un*((1000000000:Nat):Int)^(p+2):=by
     have k1:=jbR 1000000000 (u.drop j) (p+2) (by rw[jjx];omega)
     rw[hW,List.drop_drop,ja4 1000000000 u (j+(p+2)),h6',hg1,Int.mul_zero,ji5,jiY] at k1
     exact k1
    have hvsV:val 1000000000 (vs.take (p+2))=VV:=by rw[← hVl,jjA,hvV]
    rw[hvsV] at g6
    have hPn:(0:Int)<((1000000000:Nat):Int)^(p+2):=jec (by omega) _
    have hVP:VV≤((1000000000:Nat):Int)^(p+2):=by
     have k1:((b*s:Nat):Int)<((1000000000^(p+2):Nat):Int):=by exact_mod_cast hVlt
     rw[ji6] at k1
     omega
    have hm0:=jam g3
    have hm1:=jcd g3
    rw[g2] at hm1
    have hsetz:=jf6 (u:=u) (A:=u.take j) (mid:=mid) (k:=j+(p+2)) (r:=0) (by omega) (by omega)
    refine V.br (fun hc2=>?_) (fun hc2=>?_)
    ·rw[decide_eq_true_eq] at hc2
     have hq1:1≤qq:=by
      rcases Int.lt_or_le qq 1 with k0|k0
      ·obtain rfl:qq=0:=by omega
       exfalso
       rw[Int.zero_mul,Int.sub_zero] at g6
       have k3:0≤val 1000000000 ((u.drop j).take (p+2)):=jam (jbq (jbx h3 j) _)
       rcases Int.lt_or_le 0 (c+bw) with k4|k4
       ·have k5:1*((1000000000:Nat):Int)^(p+2)≤(c+bw)*((1000000000:Nat):Int)^(p+2):=jiP (by omega) (by omega)
        omega
       ·omega
      ·exact k0
     have hml:(u.take j++mid++u.drop (j+(p+2))).length=N:=by
      rw[jjj,jjj,hAl,g2,jjx];omega
     obtain⟨w,hw1⟩:∃ w,w=u.take j++mid++u.drop (j+(p+2)):=⟨_,rfl⟩
     have hwd:w.drop (j+(p+2))=u.drop (j+(p+2)):=by rw[hw1];exact mid_drop (by omega)
     have hwg:∀ i,i<p+2→w.getD (j+i) 0=mid.getD i 0:=fun i hi=>by
      rw[hw1,jjl,jje,List.getElem?_append_right (by omega),hAl,Nat.add_sub_cancel_left,jjm (by omega),jje]
     have hnl2:u.take j++[]++w.drop (j+0)=w:=by
      have:u.take j=w.take j:=by rw[hw1,jjl,List.take_append_of_le_length (by omega),List.take_take,Nat.min_self]
      rw[this,List.append_nil,Nat.add_zero,List.take_append_drop]
     rw[← hw1] at hml
     simp only[← hw1]
     refine V.r0 (V.a8 jid f1 f2 f4 f5 f6 f7 hVl) ?_
     refine jac ((0,[],0):Nat×List Int×Int) (fun y=>y.1≤p+2∧y.2.1.length=y.1∧Dg 1000000000 y.2.1∧(0≤y.2.2∧y.2.2≤1)∧val 1000000000 y.2.1+y.2.2*((1000000000:Nat):Int)^y.1=val 1000000000 (mid.take y.1)+val 1000000000 (vs.take y.1)) (fun y=>p+2-y.1)
      (fun y=>[(125,.int .i64 y.1),(15,.int .u32 y.2.2)]) (fun y=>[(48,.arr .u32 (u.take j++y.2.1++w.drop (j+y.1)))]) ?_ ?_ ?_
     ·rw[hnl2]
      exact V.wk
     ·exact⟨jiF _,rfl,fun x hx=>by simp at hx,by simp,by simp[val]⟩
     rintro⟨i,m2,ov⟩ ⟨k1,k2,k3,k4,k5⟩
     dsimp only at k1 k2 k3 k4 k5 ⊢
     have hvm:=jai 1000000000 mid i
     have hvv2:=jai 1000000000 vs i
     have bd:=jal (by omega) hdV i
     have bmi:=jal (by omega) g3 i
     have hcg2:=mid_get (u:=w) (A:=u.take j) (mid:=m2) (k:=j+i) (by omega)
     have hcl2:(u.take j++m2++w.drop (j+i)).length=N:=by
      rw[jjj,jjj,hAl,k2,jjx];omega
     refine V.r0 (V.a8 jid f1 f2 f4 f5 f6 f7 hVl) ?_
     refine V.br (fun hw2=>?_) (fun hw2=>?_)
     ·rw[decide_eq_true_eq] at hw2
      have hms3:=fun r=>jf6 (u:=w) (A:=u.take j) (mid:=m2) (k:=j+i) (r:=r) (by omega) (by omega)
      rw[hwg i (by omega)] at hcg2
      generalize hd0:vs.getD i 0=d at *
      generalize hmi:mid.getD i 0=mi at *
      have hki:((i:Int)+1)=((i+1:Nat):Int):=by omega
      have hai:j+i+1=j+(i+1):=by omega
      (conv=>whnf)
      (try simp only[jid,f1,f2,f4,f5,f6,f7,hVl,hd0,hcg2,hki])
      repeat ((first|refine V.s1 ?_);(try simp only[jid,f1,f2,f4,f5,f6,f7,hVl,hd0,hcg2,hki]))
      refine V.br (fun hge=>?_) (fun hge=>?_)
      ·rw[decide_eq_true_eq] at hge
       have hst:=jaz (B:=1000000000) (x:=mi) (y:=d) (d:=mi+d+ov-1000000000) (c':=1) k2 k5 (by omega)
       rw[← hvm,← hvv2] at hst
       (conv=>whnf)
       (try simp only[jid,f1,f2,f4,f5,f6,f7,hVl,hki,hms3,hai])
       repeat ((first|refine V.s1 ?_);(try simp only[jid,f1,f2,f4,f5,f6,f7,hVl,hki,hms3,hai]))
       exact⟨(i+1,m2++[mi+d+ov-1000000000],1),⟨by dsimp only;omega,by simp[k2],jah k3 (jav (by omega)),by simp,hst⟩,by dsimp only;omega,V.wk⟩
      ·rw[decide_eq_false_iff_not] at hge
       have hst:=jaz (B:=1000000000) (x:=mi) (y:=d) (d:=mi+d+ov) (c':=0) k2 k5 (by omega)
       rw[← hvm,← hvv2] at hst
       (conv=>whnf)
       (try simp only[jid,f1,f2,f4,f5,f6,f7,hVl,hki,hms3,hai])
       repeat ((first|refine V.s1 ?_);(try simp only[jid,f1,f2,f4,f5,f6,f7,hVl,hki,hms3,hai]))
       exact⟨(i+1,m2++[mi+d+ov],0),⟨by dsimp only;omega,by simp[k2],jah k3 (jav (by omega)),by simp,hst⟩,by dsimp only;omega,V.wk⟩
     ·rw[decide_eq_false_iff_not] at hw2
      obtain rfl:i=p+2:=by omega
      rw[hvsV,← g2,jjA,g2] at k5
      have hn0:=jam k3
      have hn1:=jcd k3
      rw[k2] at hn1
      have hrb:=red_b hPn hVpos hVP hWs g6 hm1 i3 (by omega) k5 hn0 hn1
      have hinv:=div_inv (B:=1000000000) (p:=p) (j:=j) (u:=u) (q:=q) (mid:=m2) (Qd:=qq-1) (M:=((a*s:Nat):Int)) (by omega) (by omega) (by omega) k2 h3 k3 h6' hW hVpos hrb.2 hrb.1 h8
      have hsetz2:=jf6 (u:=u) (A:=u.take j) (mid:=m2) (k:=j+(p+2)) (r:=0) (by omega) (by omega)
      (conv=>whnf)
      (try simp only[jid,f1,f2,f4,f5,f6,f7,hVl,hwd,hsetz2])
      repeat ((first|refine V.s1 ?_);(try simp only[jid,f1,f2,f4,f5,f6,f7,hVl,hwd,hsetz2]))
      exact⟨(j,u.take j++(m2++[0])++u.drop (j+(p+2)+1),q.set j (qq-1)),⟨by dsimp only;omega,by dsimp only;rw[hinv.1];exact h2,hinv.2.1,by dsimp only;rw[jjw];exact h4,jdD h5 (by omega),hinv.2.2.1,by dsimp only;rw[hVV];exact hinv.2.2.2.1,by dsimp only;rw[hVV];exact hinv.2.2.2.2⟩,by dsimp only;omega,V.wk⟩
    ·rw[decide_eq_false_iff_not] at hc2
     have hra:=red_a hPn hVpos hVP hWs g6 hm0 i4 (by omega)
     have hinv:=div_inv (B:=1000000000) (p:=p) (j:=j) (u:=u) (q:=q) (mid:=mid) (Qd:=qq) (M:=((a*s:Nat):Int)) (by omega) (by omega) (by omega) g2 h3 g3 h6' hW hVpos hra.2 hra.1 h8
     (conv=>whnf)
     (try simp only[jid,f1,f2,f4,f5,f6,f7,hVl,hsetz])
     repeat ((first|refine V.s1 ?_);(try simp only[jid,f1,f2,f4,f5,f6,f7,hVl,hsetz]))
     exact⟨(j,u.take j++(mid++[0])++u.drop (j+(p+2)+1),q.set j qq),⟨by dsimp only;omega,by dsimp only;rw[hinv.1];exact h2,hinv.2.1,by dsimp only;rw[jjw];exact h4,jdD h5 ⟨i1,i2⟩,hinv.2.2.1,by dsimp only;rw[hVV];exact hinv.2.2.2.1,by dsimp only;rw[hVV];exact hinv.2.2.2.2⟩,by dsimp only;omega,V.wk⟩
 ·rw[decide_eq_false_iff_not] at hq
  obtain rfl:k=0:=by omega
  rw[List.drop_zero,Int.pow_zero,Int.mul_one] at h8
  rw[List.drop_zero] at h7
  rw[jiI] at h6
  have hvq:=jam h5
  have hvu:=jam h3
  obtain⟨w,hw⟩:∃ w:Nat,val 1000000000 q=w:=⟨(val 1000000000 q).toNat,by omega⟩
  obtain⟨z,hz⟩:∃ z:Nat,val 1000000000 u=z:=⟨(val 1000000000 u).toNat,by omega⟩
  rw[hw,hz,← jiW,← Int.natCast_add] at h8
  rw[hz] at h7
  have h8':a*s=w*(b*s)+z:=by exact_mod_cast h8
  have h7':z<b*s:=by exact_mod_cast h7
  have hbs:0<b*s:=by omega
  have hdiv:a/b=w:=by
   have k1:a*s/(b*s)=a/b:=Nat.mul_div_mul_right a b (by omega)
   rw[← k1,h8',Nat.add_comm,Nat.add_mul_div_right _ _ hbs,Nat.div_eq_of_lt h7',jiI]
  have hmod:z=a%b*s:=by
   have k1:a*s%(b*s)=a%b*s:=Nat.mul_mod_mul_right s a b
   rw[← k1,h8',Nat.add_comm,Nat.add_mul_mod_self_right,jiO h7']
  have hzs:z/s=a%b:=by rw[hmod,Nat.mul_div_cancel _ (by omega)]
  have hut:val 1000000000 (u.take (p+2))=z:=by
   rw[jbR 1000000000 u (p+2) (by omega),h6,Int.mul_zero,ji5] at hz
   exact hz
  have hzl:=jaw (B:=1000000000) (n:=z) (k:=p+2) (by omega) (by omega)
  have hc1:=jff (u.take (p+2)) (jbq h3 _) (by rw[jjk];omega)
  rw[hut,jiK] at hc1
  have hc2:=short_c z s (by omega) (by omega) (by omega)
  rw[hzs] at hc2
  have hc3:=jff q h5 (by omega)
  rw[hw,jiK,← jjA (l:=q),h4] at hc3
  rw[hdiv]
  refine V.r3 (V.a2 hVl @jiK) hc1 hc2 hc3 ?_
  exact Fin.of rfl
theorem jbc (a b:Nat)(hb0:0<b)(ha:(mg 1000000000 a).length≤90000000)(hb:(mg 1000000000 b).length≤90000000):Cl 166 [.ints .u32 (mg 1000000000 a),.ints .u32 (mg 1000000000 b)] (.tup [.ints .u32 (mg 1000000000 (a/b)),.ints .u32 (mg 1000000000 (a%b))]):=by
 rcases jiR a b with h|h
 ·exact jhP a b h (by omega) (by omega)
 ·rcases jiR b 1000000000 with h1|h1
  ·exact divide_one a b h hb0 h1 (by omega)
  ·exact jhO a b h h1 ha
end Go.Proofs.YtgjgpdceghjajaaGreatDoor
end
section
namespace Go.Proofs.YtgjgpdceghjajaaGreatDoor
open Go Go.V Go.Nb Go.RowKit Go.Proofs
set_option maxHeartbeats 4000000
set_option maxRecDepth 1000000
theorem zero_k (n:Nat)(w:World)(hg:GlW w)(v:Value)(hv:Den Env.dummy (pubOf w) (.ints .u32 (mg 1000000000 n)) v):Calls Tryz.prog 132 #[v] w fun e w'=>e = .returned (.bool (decide (n=0)))∧RowKit.Below w.heap.size w w':=by
 refine(je5 (jdf n) w hg (vs:=[v]) ?_).mono ?_
 ·simp only[DenL];exact⟨_,_,rfl,hv,rfl⟩
 ·rintro e w' ⟨v,h',rfl,hv,hb⟩
  simp only[Den] at hv
  rw[hv]
  exact⟨rfl,hb⟩
def cv:Nat→Int
 | 0 => -1
 | k+1=>k
theorem cv_eq (m:Nat):cv m=(m:Int)-1:=by cases m<;>simp[cv]
theorem digits_w (n:Nat)(hn:0<n)(hl:(mg 1000000000 n).length≤100000000)(w:World)(hg:GlW w)(hlt:GlLt w.heap.size)(v:Value)(hv:Den Env.dummy (pubOf w) (.ints .u32 (mg 1000000000 n)) v) :
  Calls Tryz.prog 155 #[v] w fun e w'=>e = .returned (.string ⟨(dec n).toArray⟩)∧RowKit.Below w.heap.size w w':=by
 have hz:=zero_k n w hg v hv
 have hdx:=mg_dg (B:=1000000000) (by omega) n
 have hvx:=jaE (B:=1000000000) (by omega) n
 have hlx:=jdQ (B:=1000000000) (n:=n) (by omega)
 have hnil:=jb2 (B:=1000000000) (n:=n) (by omega)
 generalize mg 1000000000 n=xs at *
 simp only[Den,jaM] at hv
 obtain⟨a,cap,rfl,hcap,_,_,ha⟩:=hv
 obtain⟨j,hj⟩:∃ j,xs.length=j+1:=⟨xs.length-1,by
  have:xs≠[]:=fun e=>by have:=hnil.1 e;omega
  have:=List.length_pos_iff.2 this
  omega⟩
 obtain⟨ad,rfl⟩:∃ ad,a=some ad:=by
  cases a with
  | none=>obtain⟨h1,_⟩:=ha;rw[h1] at hj;simp at hj
  | some ad=>exact⟨ad,rfl⟩
 obtain⟨blk,off,spot⟩:=ad
 simp only at ha
 obtain⟨rfl,hcell⟩:=ha
 have hne:decide (n=0)=false:=decide_eq_false (by omega)
 rw[hne] at hz
 have hc0:∀ i,i<xs.length→w.cell? ⟨blk,off+i,none⟩=some (.int .u32 (xs.getD i 0)):=fun i hi=>by
  have:=hcell i (xs.getD i 0) (by rw[jje,jjh hi];rfl)
  exact this
 have hblk:blk<w.heap.size:=by
  have:=hc0 0 (by omega)
  rcases jiR blk w.heap.size with h|h
  ·exact h
  ·simp[World.cell?,Array.getElem?_eq_none h] at this
 clear hcell
 rw[hj] at hz ⊢
 go_enter Tryz.func155,Tryz.ntmps155
 go_wp2_with (go_at_call 132;refine hz.mono ?_)
 rintro e w1 ⟨rfl,hb1⟩
 have hs1:=hb1.size
 have hc1:(w1.alloc (.cells #[.pointer none,.slice none 0 0] 259)).cell? ⟨blk,off+j,none⟩=some (.int .u32 (xs.getD j 0)):=by
  have h1:=hb1.alloc (o := .cells #[.pointer none,.slice none 0 0] 259) (by omega)
  rw[h1.cell (by exact hblk)]
  exact hc0 j (by omega)
 have hI0:=Lib.IsBuilderF.of (Lib.fresh_isBuilder 259 5 w1)
 have hgl1:GlW (w1.alloc (.cells #[.pointer none,.slice none 0 0] 259)):=jgP hg (hb1.alloc (by omega) _) hlt
 have hlt1:GlLt w1.heap.size:=⟨fun g vs h=>by have:=hlt.1 g vs h;omega,fun g h=>by have:=hlt.2 g h;omega⟩
 have bx:=jal (by omega) hdx j
 have hx1:xs.getD j 0≠0:=by
  refine hlx _ ?_
  rw[List.getLast?_eq_getElem?,hj,jje,show j+1-1=j by omega,jjh (by omega)];rfl
 have hvj:val 1000000000 (xs.drop j)=xs.getD j 0:=by rw[ja4,show xs.drop (j+1)=[] from List.drop_eq_nil_of_le (by omega)];simp[val]
 obtain⟨g,hgx⟩:∃ g:Nat,xs.getD j 0=g:=⟨(xs.getD j 0).toNat,by omega⟩
 rw[hgx] at bx hx1 hvj hc1
 have hput:=put_k w1.heap.size w1.heap.size [] g 0 (w1.alloc (.cells #[.pointer none,.slice none 0 0] 259)) hgl1 hlt1 (by simp) hI0 (by omega) (by omega) (by simp)
 have e0:List.replicate ((0:Int).toNat-(dec g).length) (48:UInt8)=[]:=by simp
 rw[e0,List.append_nil,List.nil_append] at hput
 clear hz hI0
 go_wp2_with (go_at_call 186;refine hput.mono ?_)
 rintro e w2 ⟨rfl,hI2,hb2⟩
 have hbw2:RowKit.Below w.heap.size w w2:=(hb1.alloc (by omega) _).trans (hb2.mono hs1)
 have hs2:w1.heap.size+1≤w2.heap.size:=by have:=hb2.size;simpa using this
 have hd0:dec g=dec (val 1000000000 (xs.drop j)).toNat:=by rw[hvj,jiK]
 rw[hd0] at hI2
 clear hput hd0
 go_wp2
 go_loopw [6] (fun i wr => ∃ m:Nat,m≤j∧i = .int .i64 (cv m)∧Lib.IsBuilderF 259 5 w1.heap.size w1.heap.size (Lib.byteCells (dec (val 1000000000 (xs.drop m)).toNat)) wr∧RowKit.Below w1.heap.size w2 wr) (fun i _=>(intOf i+1).toNat)
 case atStart=>exact⟨j,jiL _,by rw[cv_eq],hI2,Below.refl _ _⟩
 case round=>
  obtain⟨m,hm,rfl,hI,hbr⟩:=hrel
  have hsr:=hbr.size
  have hbw:RowKit.Below w.heap.size w wr:=hbw2.trans (hbr.mono hs1)
  rcases m with _|m
  ·rw[List.drop_zero,hvx,jiK] at hI
   simp only[cv]
   go_wp2_with (go_at_call 189;refine(Tryz.Builder_String_any_k w1.heap.size w1.heap.size (dec n) _ hI (by omega)).mono ?_)
   intros
   rename_i e W1 h2
   obtain⟨rfl,_,b2,_⟩:=h2
   go_wp2
   go_ret
   exact⟨rfl,hbw.trans (b2.mono hs1)⟩
  ·simp only[cv]
   have bm:=jal (by omega) hdx m
   have hcm:wr.cell? ⟨blk,off+m,none⟩=some (.int .u32 (xs.getD m 0)):=by
    rw[hbw.cell (by exact hblk)];exact hc0 m (by omega)
   obtain⟨y,hy⟩:∃ y:Nat,xs.getD m 0=y:=⟨(xs.getD m 0).toNat,by omega⟩
   have hvm:=jbX (B:=1000000000) (l:=xs) (k:=m) (by omega)
   have hv0:=jam (jbx hdx (m+1))
   have hvp:0<val 1000000000 (xs.drop (m+1)):=by
    have h1:=jbR 1000000000 (xs.drop (m+1)) (j-(m+1)) (by rw[jjx];omega)
    rw[List.drop_drop,show m+1+(j-(m+1))=j by omega,hvj] at h1
    have h2:=jam (jbq (jbx hdx (m+1)) (j-(m+1)))
    have h3:(0:Int)<((1000000000:Nat):Int)^(j-(m+1))*g:=Int.mul_pos (jec (by omega) _) (by omega)
    omega
   rw[hy] at bm hcm hvm
   obtain⟨u,hu⟩:∃ u:Nat,val 1000000000 (xs.drop (m+1))=u:=⟨(val 1000000000 (xs.drop (m+1))).toNat,by omega⟩
   rw[hu,jiK] at hI
   have hdp:=jhV (a:=u) (by omega) 9 y (by omega)
   have hpd:=jaW 9 y (by omega) (by omega)
   have hnew:(val 1000000000 (xs.drop m)).toNat=u*10^9+y:=by rw[hvm,hu];omega
   rw[hpd.2,← hnew,← jjl] at hdp
   have hdlen:(dec u).length≤1000000000000:=by
    have h1:u<10^(9*(j+1)):=by
     have h2:=jcd (jbx hdx (m+1))
     rw[hu,jjx,hj] at h2
     have h3:(1000000000:Nat)^(j+1-(m+1))≤1000000000^(j+1):=ji2 (by omega) (by omega)
     rw[← ji6] at h2
     rw[Nat.pow_mul]
     have h4:u<1000000000^(j+1-(m+1)):=by exact_mod_cast h2
     exact jiQ h4 h3
    have:=(jaW (9*(j+1)) u (by omega) h1).1
    omega
   have hput:=put_k w1.heap.size w1.heap.size (dec u) y 9 wr (jgP hg hbw hlt) hlt1 (by omega) hI (by omega) (by omega) hdlen
   rw[show (9:Int).toNat=9 from rfl,← hdp] at hput
   clear hdp hpd hnew hdlen hu hvm hvp hv0
   go_wp2_with (go_at_call 186;refine hput.mono ?_)
   intros
   rename_i e W1 h2
   obtain⟨rfl,hI3,b2⟩:=h2
   go_wp2
   go_roundw
   case rel=>exact⟨m,by omega,by (have h:=cv_eq m;show Value.int .i64 ((m:Int)-1)=Value.int .i64 (cv m);rw[h]),hI3,hbr.trans b2⟩
   case measure=>simp[intOf]
theorem jhQ:Cl 155 [.ints .u32 (mg 1000000000 0)] (.str (dec 0)):=by
 have hz:=jdf 0
 refine V.en tbOk Tryz.func155 ?_
 (conv=>whnf)
 refine V.st ?_
 repeat ((try ((with_reducible refine .ext ?_);(conv=>whnf)));(with_reducible refine jaa (r:=?_) ?_ ?_);rotate_left;(focus (first|exact(hz)));(conv=>whnf);refine V.st ?_)
 exact Fin.of rfl
theorem digits_c (n:Nat)(hl:(mg 1000000000 n).length≤100000000):Cl 155 [.ints .u32 (mg 1000000000 n)] (.str (dec n)):=by
 rcases jiM n with h0|h0
 ·subst h0;exact jhQ
 refine jaZ Tryz.func155 rfl rfl rfl fun w hp vs ha hd=>?_
 simp only[DenL] at hd
 obtain⟨v,_,rfl,hv,rfl⟩:=hd
 have hle:hp.Le (pubOf w):=fun b o v h=>ha.cells b o v h
 refine(digits_w n h0 hl w ha.blk (glLt ha.blk) v (Den.mono hle hv)).mono fun e w' ⟨he,hw⟩=>⟨⟨_,he,fun hp=>?_⟩,hw⟩
 ·simp only[Den]
  refine⟨trivial,?_⟩
  have h2:=jaJ (B:=1000000000) (n:=n) (by omega)
  generalize (mg 1000000000 n).length=l at *
  have h1:n<10^(9*(l+1)):=by
   rw[Nat.pow_mul]
   exact jiQ h2 (ji2 (by omega) (by omega))
  have:=(jaW (9*(l+1)) n (by omega) h1).1
  omega
end Go.Proofs.YtgjgpdceghjajaaGreatDoor
end
section
namespace Go.Proofs.YtgjgpdceghjajaaGreatDoor
open Go Go.V Go.Nb
def raD (q:Rat):D := .agg [.bool (decide (q.num<0)),.ints .i64 (mg 10000 q.num.natAbs),.bool false,.ints .i64 (mg 10000 q.den)]
theorem jhz (n d:Int)(hd:d≠0):(if d<0 then -n else n)/((Int.gcd (if d<0 then -n else n) (if d<0 then -d else d):Nat):Int)=(Rat.divInt n d).num:=by
 rw[Rat.num_divInt]
 split
 ·rw[Int.neg_gcd,Int.gcd_neg,Int.gcd_comm,ji9 (by omega),Int.neg_mul,ji8]
 ·rw[Int.gcd_comm,jja (by omega),ji8]
theorem jhA (n d:Int)(hd:d≠0):(if d<0 then -d else d)/((Int.gcd (if d<0 then -n else n) (if d<0 then -d else d):Nat):Int)=((Rat.divInt n d).den:Int):=by
 rw[Rat.den_divInt,if_neg hd]
 split
 ·rw[Int.neg_gcd,Int.gcd_neg,Int.gcd_comm,Int.natCast_ediv];congr 1;omega
 ·rw[Int.gcd_comm,Int.natCast_ediv];congr 1;omega
theorem jby (n:Int)(g:Nat):(n/(g:Int)).natAbs≤n.natAbs:=by
 rcases Int.le_total 0 n with h|h
 ·have h1:=Int.ediv_nonneg h (by omega:(0:Int)≤g)
  have h2:=Int.ediv_le_self (a:=n) (g:Int) h
  omega
 ·rcases jiM g with e|e
  ·subst e;simp
  ·have h1:n/(g:Int)≤0:=by
    have:=Int.ediv_le_ediv (by omega:(0:Int)<g) h
    simpa using this
   have h2:n≤n/(g:Int):=Int.le_ediv_of_mul_le (by omega) (by
    have:=Int.mul_le_mul_of_nonpos_left h (by omega:(1:Int)≤g)
    omega)
   omega
theorem jeg (n d:Int)(hn:Sm 80000000 n)(hd:Sm 80000000 d)(hd0:d≠0):Cl 77 [plD n,plD d] (raD (Rat.divInt n d)):=by
 have e1:=jhz n d hd0
 have e2:=jhA n d hd0
 refine V.en tbOk Tryz.func77 ?_
 (conv=>whnf)
 refine V.st ?_
 refine V.br (fun hq=>?_) (fun hq=>?_)
 ·rw[decide_eq_true_eq] at hq
  simp only[if_pos hq] at e1 e2
  have hN:=hn.neg
  have hD:=hd.neg
  have ht1:=turn_c n (by unfold Sm at hn;omega)
  have ht2:=turn_c d (by unfold Sm at hd;omega)
  (conv=>whnf)
  refine V.st ?_
  refine⟨(V.tk [0,2] (V.e1 1 [2] (V.e1 3 [] (V.e1 4 [] (V.e1 5 [] .done))))),[],V.pok,.go (jad ?_)⟩
  (conv=>whnf)
  refine V.st ?_
  repeat ((try ((with_reducible refine .ext ?_);(conv=>whnf)));(with_reducible refine jaa (r:=?_) ?_ ?_);rotate_left;(focus (first|exact(ht1)|exact(ht2)));(conv=>whnf);refine V.st ?_)
  have hgp:0<Int.gcd (-n) (-d):=Int.gcd_pos_of_ne_zero_right _ (by omega)
  have hdv:=jeV (-n) (-d) hN hD
  have hgD:Sm 80000000 ((Int.gcd (-n) (-d):Nat):Int):=hD.le (by rw[ji1];exact Nat.le_of_dvd (by omega) (Nat.gcd_dvd_right ((-n)).natAbs ((-d)).natAbs))
  have hp1:=jed (-n) ((Int.gcd (-n) (-d):Nat):Int) hN hgD (by omega)
  have hp2:=jed (-d) ((Int.gcd (-n) (-d):Nat):Int) hD hgD (by omega)
  rw[e1] at hp1
  rw[e2] at hp2
  (conv=>whnf)
  refine V.st ?_
  repeat ((try ((with_reducible refine .ext ?_);(conv=>whnf)));(with_reducible refine jaa (r:=?_) ?_ ?_);rotate_left;(focus (first|exact(hdv)|exact(hp1)|exact(hp2)));(conv=>whnf);refine V.st ?_)
  exact Fin.of (by unfold raD;rw[ji1,decide_eq_false (p:=((Rat.divInt n d).den:Int)<0) (by omega)])
 ·rw[decide_eq_false_iff_not] at hq
  simp only[if_neg hq] at e1 e2
  have hN:=hn
  have hD:=hd
  have hgp:0<Int.gcd n d:=Int.gcd_pos_of_ne_zero_right _ (by omega)
  have hdv:=jeV n d hN hD
  have hgD:Sm 80000000 ((Int.gcd n d:Nat):Int):=hD.le (by rw[ji1];exact Nat.le_of_dvd (by omega) (Nat.gcd_dvd_right (n).natAbs (d).natAbs))
  have hp1:=jed n ((Int.gcd n d:Nat):Int) hN hgD (by omega)
  have hp2:=jed d ((Int.gcd n d:Nat):Int) hD hgD (by omega)
  rw[e1] at hp1
  rw[e2] at hp2
  (conv=>whnf)
  refine V.st ?_
  repeat ((try ((with_reducible refine .ext ?_);(conv=>whnf)));(with_reducible refine jaa (r:=?_) ?_ ?_);rotate_left;(focus (first|exact(hdv)|exact(hp1)|exact(hp2)));(conv=>whnf);refine V.st ?_)
  exact Fin.of (by unfold raD;rw[ji1,decide_eq_false (p:=((Rat.divInt n d).den:Int)<0) (by omega)])
theorem quick_c (n d:Int)(hn:InR .i64 n)(hd:InR .i64 d)(hd0:d≠0):Cl 89 [.int .i64 n,.int .i64 d] (raD (Rat.divInt n d)):=by
 have h1:=jbp n hn
 have h2:=jbp d hd
 simp only[V.InR,V.lo,V.hi] at hn hd
 have h3:=jeg n d ((Sm.lit (k:=5) (by omega)).mono (by omega)) ((Sm.lit (k:=5) (by omega)).mono (by omega)) hd0
 refine V.en tbOk Tryz.func89 ?_
 (conv=>whnf)
 refine V.st ?_
 repeat ((try ((with_reducible refine .ext ?_);(conv=>whnf)));(with_reducible refine jaa (r:=?_) ?_ ?_);rotate_left;(focus (first|exact(h1)|exact(h2)|exact(h3)));(conv=>whnf);refine V.st ?_)
 exact Fin.of rfl
def okF (q:Rat):Bool:=decide ((dec q.num.natAbs).length≤600) && decide ((dec q.den).length≤600)
def frR (q:Rat):D := .tup [.agg [.str (cond (okF q) (decZ q.num) []),.str (cond (okF q) (dec q.den) [])],.int .i64 (cond (okF q) 0 6)]
theorem outN_c (n:Nat)(hz:Sm 90000000 n):Cl 120 [.agg [.bool false,.ints .i64 (mg 10000 n)]] (.tup [.str (if 600<(dec n).length then [] else dec n),.int .i64 (if 600<(dec n).length then 6 else 0)]):=by
 have h:=out_c n hz
 unfold plD decZ at h
 rw[ji1,decide_eq_false (p:=(n:Int)<0) (by omega),if_neg (c:=(n:Int)<0) (by omega)] at h
 exact h
theorem jf2 (q:Rat)(hn:Sm 90000000 q.num)(hd:Sm 90000000 (q.den:Int)):Cl 76 [raD q] (frR q):=by
 have h1:=out_c q.num hn
 have h2:=outN_c q.den hd
 unfold frR okF
 by_cases g1:600<(dec q.num.natAbs).length<;>by_cases g2:600<(dec q.den).length
 all_goals
  simp only[g1,g2,if_true,if_false] at h1 h2
  simp only[← Nat.not_lt,g1,g2,not_true_eq_false,not_false_eq_true,decide_true,decide_false,jjb,Bool.and_false,Bool.false_and,jiV,cond_true,cond_false]
  refine V.en tbOk Tryz.func76 ?_
  (conv=>whnf)
  refine V.st ?_
  repeat ((try ((with_reducible refine .ext ?_);(conv=>whnf)));(with_reducible refine jaa (r:=?_) ?_ ?_);rotate_left;(focus (first|exact(h1)|exact(h2)));(conv=>whnf);refine V.st ?_)
  exact Fin.of rfl
theorem of02_c (n d:Int)(hn:InR .i64 n)(hd:InR .i64 d)(hd0:d≠0):Cl 46 [.int .i64 n,.int .i64 d] (frR (Rat.divInt n d)):=by
 have h1:=quick_c n d hn hd hd0
 simp only[V.InR,V.lo,V.hi] at hn hd
 have hnum:Sm 90000000 (Rat.divInt n d).num:=by
  have e1:=jhz n d hd0
  have h:=jby (if d<0 then -n else n) (Int.gcd (if d<0 then -n else n) (if d<0 then -d else d))
  rw[e1] at h
  exact(Sm.lit (k:=5) (by split at h<;>omega)).mono (by omega)
 have hden:Sm 90000000 ((Rat.divInt n d).den:Int):=by
  have e1:=jhA n d hd0
  have h:=jby (if d<0 then -d else d) (Int.gcd (if d<0 then -n else n) (if d<0 then -d else d))
  rw[e1] at h
  exact(Sm.lit (k:=5) (by split at h<;>omega)).mono (by omega)
 have h2:=jf2 _ hnum hden
 refine V.en tbOk Tryz.func46 ?_
 (conv=>whnf)
 refine V.st ?_
 refine Cnd.no (decide_eq_false hd0) ?_
 (conv=>whnf)
 refine V.st ?_
 repeat ((try ((with_reducible refine .ext ?_);(conv=>whnf)));(with_reducible refine jaa (r:=?_) ?_ ?_);rotate_left;(focus (first|exact(h1)|exact(h2)));(conv=>whnf);refine V.st ?_)
 exact Fin.of rfl
theorem gcd_c (a b:Nat)(ha:(mg 1000000000 a).length≤90000000)(hb:(mg 1000000000 b).length≤90000000):Cl 147 [.ints .u32 (mg 1000000000 a),.ints .u32 (mg 1000000000 b)] (.ints .u32 (mg 1000000000 (Nat.gcd a b))):=by
 obtain⟨g,hg⟩:∃ g,g=Nat.gcd a b:=⟨_,rfl⟩
 rw[← hg]
 refine V.en tbOk Tryz.func147 ?_
 (conv=>whnf)
 refine V.st ?_
 refine jac ((a,b):Nat×Nat) (fun s=>Nat.gcd s.1 s.2=g∧(mg 1000000000 s.1).length≤90000000∧(mg 1000000000 s.2).length≤90000000) (fun s=>s.2)
  (fun s=>[(0,.ints .u32 (mg 1000000000 s.1)),(1,.ints .u32 (mg 1000000000 s.2))]) (fun _=>[]) ?_ ?_ ?_
 ·exact V.wk
 ·exact⟨hg.symm,ha,hb⟩
 rintro⟨x,y⟩ ⟨h1,h2,h3⟩
 dsimp only at h1 h2 h3 ⊢
 have hz:=jdf y
 (conv=>whnf)
 refine V.st ?_
 repeat ((try ((with_reducible refine .ext ?_);(conv=>whnf)));(with_reducible refine jaa (r:=?_) ?_ ?_);rotate_left;(focus (first|exact(hz)));(conv=>whnf);refine V.st ?_)
 refine V.br (fun hq=>?_) (fun hq=>?_)
 ·have hy:¬ y=0:=by simpa using hq
  (conv=>whnf)
  refine V.st ?_
  refine V.br (fun hq2=>?_) (fun hq2=>?_)
  ·rw[jiD,decide_eq_true_eq,decide_eq_true_eq] at hq2
   have hx18:x<1000000000000000000:=by
    have:=jaJ (B:=1000000000) (n:=x) (by omega)
    have h5:1000000000^(mg 1000000000 x).length≤1000000000^2:=ji2 (by omega) (by omega)
    omega
   have hy18:y<1000000000000000000:=by
    have:=jaJ (B:=1000000000) (n:=y) (by omega)
    have h5:1000000000^(mg 1000000000 y).length≤1000000000^2:=ji2 (by omega) (by omega)
    omega
   have hs1:=small_c x hx18
   have hs2:=small_c y hy18
   (conv=>whnf)
   refine V.st ?_
   repeat ((try ((with_reducible refine .ext ?_);(conv=>whnf)));(with_reducible refine jaa (r:=?_) ?_ ?_);rotate_left;(focus (first|exact(hs1)|exact(hs2)));(conv=>whnf);refine V.st ?_)
   refine jac ((x,y):Nat×Nat) (fun s=>Nat.gcd s.1 s.2=g∧s.1<1000000000000000000∧s.2<1000000000000000000) (fun s=>s.2) (fun s=>[(5,.int .u64 s.1),(6,.int .u64 s.2)]) (fun _=>[]) ?_ ?_ ?_
   ·exact V.wk
   ·exact⟨h1,hx18,hy18⟩
   rintro⟨p,q⟩ ⟨i1,i2,i3⟩
   dsimp only at i1 i2 i3 ⊢
   (conv=>whnf)
   refine V.st ?_
   refine V.br (fun hq3=>?_) (fun hq3=>?_)
   ·rw[decide_eq_true_eq] at hq3
    have hqp:0<q:=by omega
    have em:(p:Int)%(q:Int)=((p%q:Nat):Int):=by rw[Int.natCast_emod]
    have hlt:=Nat.mod_lt p hqp
    refine V.r0 em ?_
    refine⟨(V.tk [0,1,2,3] (V.e1 4 [3,2] (V.e1 5 [] .done))),[],V.pok,.go (jad ?_)⟩
    refine V.r0 em ?_
    exact⟨(q,p%q),⟨by dsimp only;rw[Nat.gcd_comm,← Nat.gcd_rec,Nat.gcd_comm];exact i1,i3,by dsimp only;omega⟩,hlt,V.wk⟩
   ·rw[decide_eq_false_iff_not] at hq3
    obtain rfl:q=0:=by omega
    rw[Nat.gcd_zero_right] at i1
    have hf:=jdc p (by omega)
    (conv=>whnf)
    refine V.st ?_
    repeat ((try ((with_reducible refine .ext ?_);(conv=>whnf)));(with_reducible refine jaa (r:=?_) ?_ ?_);rotate_left;(focus (first|exact(hf)));(conv=>whnf);refine V.st ?_)
    exact Fin.of (by rw[i1])
  ·have hd:=jbc x y (by omega) h2 h3
   have hlt:=Nat.mod_lt x (by omega:y>0)
   have hr:=jaf (B:=1000000000) (by omega) (Nat.le_of_lt hlt)
   (conv=>whnf)
   refine V.st ?_
   repeat ((try ((with_reducible refine .ext ?_);(conv=>whnf)));(with_reducible refine jaa (r:=?_) ?_ ?_);rotate_left;(focus (first|exact(hd)));(conv=>whnf);refine V.st ?_)
   exact⟨(y,x%y),⟨by dsimp only;rw[Nat.gcd_comm,← Nat.gcd_rec,Nat.gcd_comm];exact h1,h3,by dsimp only;omega⟩,hlt,V.wk⟩
 ·have hy:y=0:=by simpa using hq
  subst hy
  rw[Nat.gcd_zero_right] at h1
  (conv=>whnf)
  refine V.st ?_
  exact Fin.of (by rw[h1])
theorem jhK (z:Int)(hz:(mg 1000000000 z.natAbs).length≤90000000):Cl 115 [itD z] (.str (decZ z)):=by
 have hd:=digits_c z.natAbs (by omega)
 have hl:(dec z.natAbs).length≤1000000000000:=by
  have h2:=jaJ (B:=1000000000) (n:=z.natAbs) (by omega)
  generalize (mg 1000000000 z.natAbs).length=l at *
  have h1:z.natAbs<10^(9*(l+1)):=by
   rw[Nat.pow_mul]
   exact jiQ h2 (ji2 (by omega) (by omega))
  have:=(jaW (9*(l+1)) z.natAbs (by omega) h1).1
  omega
 refine V.en tbOk Tryz.func115 ?_
 (conv=>whnf)
 refine V.st ?_
 refine V.br (fun hq=>?_) (fun hq=>?_)
 ·rw[decide_eq_true_eq] at hq
  (conv=>whnf)
  refine V.st ?_
  repeat ((try ((with_reducible refine .ext ?_);(conv=>whnf)));(with_reducible refine jaa (r:=?_) ?_ ?_);rotate_left;(focus (first|exact(hd)));(conv=>whnf);refine V.st ?_)
  exact Fin.of (by unfold decZ;rw[if_pos hq];rfl)
 ·rw[decide_eq_false_iff_not] at hq
  (conv=>whnf)
  refine V.st ?_
  repeat ((try ((with_reducible refine .ext ?_);(conv=>whnf)));(with_reducible refine jaa (r:=?_) ?_ ?_);rotate_left;(focus (first|exact(hd)));(conv=>whnf);refine V.st ?_)
  exact Fin.of (by unfold decZ;rw[if_neg hq])
def rtD (q:Rat):D := .agg [.ints .u32 (mg 1000000000 q.num.natAbs),.bool (decide (q.num<0)),.ints .u32 (mg 1000000000 q.den)]
theorem jdJ (q:Rat)(hn:(mg 1000000000 q.num.natAbs).length≤90000000)(hd:(mg 1000000000 q.den).length≤90000000):Cl 134 [rtD q] (frR q):=by
 have h1:=length_c q.num.natAbs (by omega)
 have h2:=length_c q.den (by omega)
 have h3:=jhK q.num hn
 have h4:=digits_c q.den (by omega)
 unfold frR okF
 refine V.en tbOk Tryz.func134 ?_
 (conv=>whnf)
 refine V.st ?_
 repeat ((try ((with_reducible refine .ext ?_);(conv=>whnf)));(with_reducible refine jaa (r:=?_) ?_ ?_);rotate_left;(focus (first|exact(h1)|exact(h2)));(conv=>whnf);refine V.st ?_)
 refine V.br (fun hq=>?_) (fun hq=>?_)
 ·rw[jiT,decide_eq_true_eq,decide_eq_true_eq] at hq
  have e:(decide ((dec q.num.natAbs).length≤600) && decide ((dec q.den).length≤600))=false:=by
   rw[Bool.and_eq_false_iff,decide_eq_false_iff_not,decide_eq_false_iff_not];omega
  rw[e]
  (conv=>whnf)
  refine V.st ?_
  exact Fin.of rfl
 ·rw[jiU,decide_eq_false_iff_not,decide_eq_false_iff_not] at hq
  have e:(decide ((dec q.num.natAbs).length≤600) && decide ((dec q.den).length≤600))=true:=by
   rw[jiD,decide_eq_true_eq,decide_eq_true_eq];omega
  rw[e]
  (conv=>whnf)
  refine V.st ?_
  refine⟨(V.tk [0,1,3,4] (V.e1 2 [4,3] (V.e1 5 [] (V.tk [6] (V.e1 7 [] (V.tk [8] .done)))))),[],V.pok,.go (jad ?_)⟩
  (conv=>whnf)
  refine V.st ?_
  repeat ((try ((with_reducible refine .ext ?_);(conv=>whnf)));(with_reducible refine jaa (r:=?_) ?_ ?_);rotate_left;(focus (first|exact(h3)|exact(h4)));(conv=>whnf);refine V.st ?_)
  exact Fin.of rfl
theorem jcO (n:Int)(d:Nat)(hd:0<d):(Rat.divInt n d).num.natAbs=n.natAbs/Nat.gcd n.natAbs d∧decide ((Rat.divInt n d).num<0)=decide (n<0)∧(Rat.divInt n d).den=d/Nat.gcd n.natAbs d:=by
 have hg:Int.gcd (d:Int) n=Nat.gcd n.natAbs d:=by
  rw[Int.gcd_comm];rfl
 have hgp:0<Nat.gcd n.natAbs d:=Nat.gcd_pos_of_pos_right _ hd
 have hdv:((Nat.gcd n.natAbs d:Nat):Int) ∣ n:=Int.ofNat_dvd_left.2 (Nat.gcd_dvd_left _ _)
 rw[Rat.num_divInt,Rat.den_divInt,if_neg (by omega),jja (by omega),ji8,hg,ji1]
 generalize Nat.gcd n.natAbs d=g at *
 obtain⟨k,rfl⟩:=hdv
 have e:(g:Int)*k/g=k:=Int.mul_ediv_cancel_left _ (by omega)
 rw[e,Int.natAbs_mul,ji1,Nat.mul_div_cancel_left _ hgp]
 refine⟨rfl,?_,rfl⟩
 apply decide_eq_decide.2
 constructor
 ·intro h;exact Int.mul_neg_of_pos_of_neg (by omega) h
 ·intro h
  rcases Int.lt_or_le k 0 with h2|h2
  ·exact h2
  ·have:=jiH (a:=(g:Int)) (by omega) h2;omega
theorem reduced_c (n:Int)(d:Nat)(hd0:0<d)(hn:(mg 1000000000 n.natAbs).length≤90000000)(hd:(mg 1000000000 d).length≤90000000):Cl 168 [itD n,.ints .u32 (mg 1000000000 d)] (rtD (Rat.divInt n d)):=by
 obtain⟨p1,p2,p3⟩:=jcO n d hd0
 have hg:=gcd_c n.natAbs d hn hd
 have hgp:0<Nat.gcd n.natAbs d:=Nat.gcd_pos_of_pos_right _ hd0
 have hgl:=jaf (B:=1000000000) (by omega) (Nat.le_of_dvd hd0 (Nat.gcd_dvd_right n.natAbs d))
 have h1:=jbc n.natAbs (Nat.gcd n.natAbs d) hgp hn (by omega)
 have h2:=jbc d (Nat.gcd n.natAbs d) hgp hd (by omega)
 have h3:=ja0 (n.natAbs/Nat.gcd n.natAbs d) (decide (n<0))
 have e:itD (if decide (n<0)=true then -((n.natAbs/Nat.gcd n.natAbs d:Nat):Int) else ((n.natAbs/Nat.gcd n.natAbs d:Nat):Int))=itD (Rat.divInt n d).num:=by
  congr 1
  rw[← p1,← p2]
  by_cases h:(Rat.divInt n d).num<0
  ·rw[decide_eq_true h,if_pos rfl];omega
  ·rw[decide_eq_false h,if_neg (by simp)];omega
 rw[e] at h3
 refine V.en tbOk Tryz.func168 ?_
 (conv=>whnf)
 refine V.st ?_
 repeat ((try ((with_reducible refine .ext ?_);(conv=>whnf)));(with_reducible refine jaa (r:=?_) ?_ ?_);rotate_left;(focus (first|exact(hg)|exact(h1)|exact(h2)|exact(h3)));(conv=>whnf);refine V.st ?_)
 exact Fin.of (by unfold rtD;rw[p3])
theorem wof_c (n:Int)(h:InR .i64 n):Cl 136 [.int .i64 n] (.str (decZ n)):=by
 have hi:=itoa_c n
 refine V.en tbOk Tryz.func136 ?_
 (conv=>whnf)
 refine V.st ?_
 repeat ((try ((with_reducible refine .ext ?_);(conv=>whnf)));(with_reducible refine jaa (r:=?_) ?_ ?_);rotate_left;(focus (first|exact(hi)));(conv=>whnf);refine V.st ?_)
 exact Fin.of rfl
theorem jgT (n d:Int)(hd:d≠0):Rat.divInt (if (decide (n<0) != decide (d<0))=true then -(n.natAbs:Int) else (n.natAbs:Int)) (d.natAbs:Nat)=Rat.divInt n d:=by
 rw[Rat.divInt_eq_divInt_iff (by omega) hd]
 by_cases h1:n<0<;>by_cases h2:d<0
 ·simp only[h1,h2,decide_true,bne_self_eq_false,Bool.false_eq_true,if_false]
  rw[show (n.natAbs:Int) = -n by omega,show (d.natAbs:Int) = -d by omega,Int.neg_mul,Int.mul_neg]
 ·have e:(decide (n<0) != decide (d<0))=true:=by simp[h1,h2]
  rw[if_pos e,show (n.natAbs:Int) = -n by omega,show (d.natAbs:Int)=d by omega,Int.neg_neg]
 ·have e:(decide (n<0) != decide (d<0))=true:=by simp[h1,h2]
  rw[if_pos e,show (n.natAbs:Int)=n by omega,show (d.natAbs:Int) = -d by omega,Int.neg_mul,Int.mul_neg]
 ·have e:¬ (decide (n<0) != decide (d<0))=true:=by simp[h1,h2]
  rw[if_neg e,show (n.natAbs:Int)=n by omega,show (d.natAbs:Int)=d by omega]
theorem jb9 {s:List UInt8}(h:okW s=true):s.length≤601∧(wval s).natAbs<10^600:=by
 unfold okW okD at h
 simp only[jiD,Bool.not_eq_true',jiU,decide_eq_false_iff_not,jjd] at h
 obtain⟨⟨h1,h2⟩,h3⟩:=h
 have h4:=jfm h2
 have h5:∀ k,(Go.Lib.trimPrefix s [45]).length≤k→10^(Go.Lib.trimPrefix s [45]).length≤10^k:=fun k hk=>ji2 (by omega) hk
 constructor
 ·unfold Go.Lib.trimPrefix at h1
  split at h1
  ·rw[jjx] at h1;simp at h1;omega
  ·omega
 ·have:(wval s).natAbs=rdv (Go.Lib.trimPrefix s [45]):=by unfold wval;split<;>simp
  rw[this]
  exact jiQ h4 (h5 600 (by omega))
theorem len9 {n:Nat}(h:n<10^600):(mg 1000000000 n).length≤67:=jaw (by omega) (jiQ h (by
 have h1:∀ k,(1000000000:Nat)^k=10^(9*k):=fun k=>by rw[Nat.pow_mul]
 have h2:∀ a b:Nat,a≤b→(10:Nat)^a≤10^b:=fun a b hab=>ji2 (by omega) hab
 obtain⟨m,hm⟩:∃ m,m=9*67:=⟨_,rfl⟩
 rw[h1 67,← hm]
 exact h2 600 m (by omega)))
theorem make_c (s t:List UInt8)(hs:okW s=true)(ht:okW t=true)(hz:wval t≠0):Cl 135 [.str s,.str t] (frR (Rat.divInt (wval s) (wval t))):=by
 obtain⟨ls,vs⟩:=jb9 hs
 obtain⟨lt,vt⟩:=jb9 ht
 have c1:=jcm s (by omega)
 have c2:=jcm t (by omega)
 rw[hs,if_pos rfl] at c1
 rw[ht,if_pos rfl] at c2
 have n1:=jcU s hs
 have n2:=jcU t ht
 generalize wval s=n at *
 generalize wval t=d at *
 have hz1:=jdf d.natAbs
 have hs1:=ja0 n.natAbs (decide (n<0) != decide (d<0))
 have hnl:=len9 vs
 have hdl:=len9 vt
 have e1:(if (decide (n<0) != decide (d<0))=true then -(n.natAbs:Int) else (n.natAbs:Int)).natAbs=n.natAbs:=by split<;>omega
 have hr:=reduced_c (if (decide (n<0) != decide (d<0))=true then -(n.natAbs:Int) else (n.natAbs:Int)) d.natAbs (by omega) (by rw[e1];omega) (by omega)
 obtain⟨p1,p2,p3⟩:=jcO (if (decide (n<0) != decide (d<0))=true then -(n.natAbs:Int) else (n.natAbs:Int)) d.natAbs (by omega)
 rw[jgT n d hz] at hr p1 p2 p3
 rw[e1] at p1 p3
 have hw:=jdJ (Rat.divInt n d) (by
  rw[p1]
  have:=jaf (B:=1000000000) (by omega) (ji3 n.natAbs (n.natAbs.gcd d.natAbs))
  omega) (by
  rw[p3]
  have:=jaf (B:=1000000000) (by omega) (ji3 d.natAbs (n.natAbs.gcd d.natAbs))
  omega)
 refine V.en tbOk Tryz.func135 ?_
 (conv=>whnf)
 refine V.st ?_
 repeat ((try ((with_reducible refine .ext ?_);(conv=>whnf)));(with_reducible refine jaa (r:=?_) ?_ ?_);rotate_left;(focus (first|exact(c1)|exact(c2)|exact(n1)|exact(n2)|exact(hz1)));(conv=>whnf);refine V.st ?_)
 refine Cnd.no (decide_eq_false (by omega)) ?_
 (conv=>whnf)
 refine V.st ?_
 refine⟨(V.tk [0,1,2,3,4,5,6,8,9] (V.e1 7 [9,8] (V.e1 10 [] (V.e1 11 [] (V.tk [12,13] (V.e1 14 [] (V.tk [15] .done))))))),[],V.pok,.go (jad ?_)⟩
 (conv=>whnf)
 refine V.st ?_
 repeat ((try ((with_reducible refine .ext ?_);(conv=>whnf)));(with_reducible refine jaa (r:=?_) ?_ ?_);rotate_left;(focus (first|exact(hs1)|exact(hr)|exact(hw)));(conv=>whnf);refine V.st ?_)
 exact Fin.of rfl
theorem of_c (n d:Int)(hn:InR .i64 n)(hd:InR .i64 d)(hd0:d≠0):Cl 97 [.int .i64 n,.int .i64 d] (frR (Rat.divInt n d)):=by
 have h1:=wof_c n hn
 have h2:=wof_c d hd
 simp only[V.InR,V.lo,V.hi] at hn hd
 have o1:=jbI n (by have:=je0 n.natAbs 19 (by omega) (by omega);omega)
 have o2:=jbI d (by have:=je0 d.natAbs 19 (by omega) (by omega);omega)
 have h3:=make_c (decZ n) (decZ d) o1 o2 (by rw[jbl];exact hd0)
 rw[jbl,jbl] at h3
 refine V.en tbOk Tryz.func97 ?_
 (conv=>whnf)
 refine V.st ?_
 repeat ((try ((with_reducible refine .ext ?_);(conv=>whnf)));(with_reducible refine jaa (r:=?_) ?_ ?_);rotate_left;(focus (first|exact(h1)|exact(h2)|exact(h3)));(conv=>whnf);refine V.st ?_)
 exact Fin.of rfl
end Go.Proofs.YtgjgpdceghjajaaGreatDoor
end
section
namespace Go.Nb
theorem fold_ge:∀ (l:List UInt8) (acc:Nat),acc≤l.foldl (fun v c=>v*10+(c.toNat-48)) acc
 | [],_=>jiL _
 | c::r,acc=>by
  have:=fold_ge r (acc*10+(c.toNat-48))
  simp only[List.foldl_cons]
  omega
theorem jcK:∀ (l:List UInt8) (acc:Nat),(∀ c∈l,isDig c=true)→l.foldl (fun v c=>v*10+(c.toNat-48)) acc≤18446744073709551615 →
  Go.Lib.parseUintM 18446744073709551615 acc l = .ok (l.foldl (fun v c=>v*10+(c.toNat-48)) acc)
 | [],acc,_,_=>rfl
 | c::r,acc,hd,hl=>by
  have h1:=fold_ge r (acc*10+(c.toNat-48))
  have h2:=hd c (by simp)
  unfold isDig at h2
  rw[decide_eq_true_eq] at h2
  simp only[List.foldl_cons] at hl ⊢
  unfold Go.Lib.parseUintM
  rw[if_pos h2,if_neg (by omega),if_neg (by omega)]
  exact jcK r _ (fun c hc=>hd c (by simp[hc])) hl
theorem jfa (n:Nat)(h:n≤18446744073709551615):Go.Lib.parseUintB 64 (dec n) = .ok n:=by
 unfold Go.Lib.parseUintB
 have hne:dec n≠[]:=by
  by_cases h10:n<10
  ·rw[jbB h10];simp
  ·rw[jcB (by omega)];simp
 rw[if_neg hne]
 have hv:(dec n).foldl (fun v c=>v*10+(c.toNat-48)) 0=n:=rdv_dec n
 have:=jcK (dec n) 0 (jgf n) (by omega)
 rw[hv] at this
 exact this
theorem jfY (z:Int)(h1 : -9223372036854775808≤z)(h2:z≤9223372036854775807):Go.Lib.parseIntB 64 (decZ z) = .ok z:=by
 have hu:=jfa z.natAbs (by omega)
 unfold decZ
 by_cases hz:z<0
 ·rw[if_pos hz,Go.Lib.parseIntB_minus,hu]
  unfold Go.Lib.signedC
  simp only
  rw[if_neg (by omega)]
  congr 1
  omega
 ·rw[if_neg hz]
  have hne:dec z.natAbs≠[]:=by
   by_cases h10:z.natAbs<10
   ·rw[jbB h10];simp
   ·rw[jcB (by omega)];simp
  have hd:=jgf z.natAbs
  revert hu hd hne
  generalize dec z.natAbs=l
  intro hu hne hd
  cases l with
  | nil=>exact absurd rfl hne
  | cons c r=>
   have hc:=hd c (by simp)
   unfold isDig at hc
   rw[decide_eq_true_eq] at hc
   rw[Go.Lib.parseIntB_plain 64 c r (by omega) (by omega),hu]
   unfold Go.Lib.signlessC
   simp only
   rw[if_neg (by omega)]
   congr 1
   omega
theorem decZ_len (z:Int)(h1 : -9223372036854775808≤z)(h2:z≤9223372036854775807):(decZ z).length≤20:=by
 have:=(jaW 19 z.natAbs (by omega) (by omega)).1
 unfold decZ
 split
 ·simp only[jjq];omega
 ·omega
end Go.Nb
namespace Go.Proofs.YtgjgpdceghjajaaGreatDoor
open Go Go.V Go.Nb Go.RowKit Go.Proofs
set_option maxHeartbeats 4000000
set_option maxRecDepth 1000000
theorem wcheck_k (z:Int)(h1 : -9223372036854775808≤z)(h2:z≤9223372036854775807)(w:World)(hg:GlW w):Calls Tryz.prog 144 #[.string ⟨(decZ z).toArray⟩] w fun e w'=>e = .returned (.int .i64 0)∧RowKit.Below w.heap.size w w':=by
 have hl:=decZ_len z h1 h2
 have hd:(dec z.natAbs).length≤600:=jiS (jaW 19 z.natAbs (by omega) (by omega)).1 (by omega)
 have hc:=jcm (decZ z) (by omega)
 rw[if_pos (jbI z hd)] at hc
 refine(je5 hc w hg (vs:=[.string ⟨(decZ z).toArray⟩]) ?_).mono ?_
 ·simp only[DenL,Den];exact⟨_,_,rfl,⟨rfl,by omega⟩,rfl⟩
 ·rintro e w' ⟨v,h',rfl,hv,hb⟩
  simp only[Den] at hv
  rw[hv.1]
  exact⟨rfl,hb⟩
theorem int_w (z:Int)(h1 : -9223372036854775808≤z)(h2:z≤9223372036854775807)(w:World)(hg:GlW w):Calls Tryz.prog 112 #[.string ⟨(decZ z).toArray⟩] w fun e w'=>e = .returned (.tuple #[.int .i64 z,.int .i64 0])∧RowKit.Below w.heap.size w w':=by
 have hl:=decZ_len z h1 h2
 have hc:=wcheck_k z h1 h2 w hg
 have hp:=jfY z h1 h2
 have hsz:(⟨(decZ z).toArray⟩:ByteArray).size≤9223372036854775806:=by simp[ByteArray.size];omega
 have hpi:=fun w=>Tryz.strconv_ParseInt_10_at64_ok ⟨(decZ z).toArray⟩ hsz z (by simpa using hp) w
 go_enter Tryz.func112,Tryz.ntmps112
 go_wp2_with (go_at_call 144;refine hc.mono ?_)
 rintro e w1 ⟨rfl,hb1⟩
 go_wp2_with (go_at_call 149;refine(hpi w1).mono ?_)
 rintro e w2 ⟨rfl,hw⟩
 have hb2:RowKit.Below w.heap.size w w2:=by
  rcases hw with rfl|⟨t,rfl⟩
  ·exact hb1
  ·exact hb1.trans ((Lib.bytesWorld_below w1 _ _).mono hb1.size)
 go_wp2
 go_ret2
 exact⟨rfl,hb2⟩
theorem int_c (z:Int)(h1 : -9223372036854775808≤z)(h2:z≤9223372036854775807):Called Tryz.prog 112 [.str (decZ z)] (.tup [.int .i64 z,.int .i64 0]):=by
 refine jaZ Tryz.func112 rfl rfl rfl fun w hp vs ha hd=>?_
 simp only[DenL,Den] at hd
 obtain⟨v,_,rfl,⟨rfl,_⟩,rfl⟩:=hd
 refine(int_w z h1 h2 w ha.blk).mono fun e w' ⟨he,hw⟩=>⟨⟨_,he,fun hp=>?_⟩,hw⟩
 simp only[Den,DenL]
 exact⟨_,rfl,_,_,rfl,⟨rfl,by simp only[InR,V.lo,V.hi];omega⟩,_,_,rfl,⟨rfl,by constructor<;>decide⟩,rfl⟩
end Go.Proofs.YtgjgpdceghjajaaGreatDoor
end
section
namespace Go.Proofs.YtgjgpdceghjajaaGreatDoor
open Go Go.V Go.Nb
theorem plus_m (a b : Nat) (ha : (mg 1000000000 a).length ≤ 100000000) (hb : (mg 1000000000 b).length ≤ 100000000) : Cl 184 [.ints .u32 (mg 1000000000 a), .ints .u32 (mg 1000000000 b)] (.ints .u32 (mg 1000000000 (a + b))) := by
  have hdx := mg_dg (B := 1000000000) (by omega) a
  have hdy := mg_dg (B := 1000000000) (by omega) b
  have hvx := jaE (B := 1000000000) (by omega) a
  have hvy := jaE (B := 1000000000) (by omega) b
  have hpx := fun h => jcJ (B := 1000000000) (n := a) (by omega) h
  have hpy := fun h => jcJ (B := 1000000000) (n := b) (by omega) h
  have hex := jb2 (B := 1000000000) (n := a) (by omega)
  have hey := jb2 (B := 1000000000) (n := b) (by omega)
  generalize mg 1000000000 a = xs at *
  generalize mg 1000000000 b = ys at *
  refine V.en tbOk Tryz.func184 ?_
  (conv => whnf)
  refine V.st ?_
  refine V.br (fun hl => ?_) (fun hl => ?_)
  · rw [decide_eq_true_eq] at hl
    obtain ⟨N, hN⟩ : ∃ N, N = ys.length + 1 := ⟨_, rfl⟩
    have e1 : (ys.length : Int) + 1 = (N : Int) := by omega
    rw [Nat.add_comm a b]
    refine V.r0 (V.a2 @e1 @jiK) ?_
    (obtain ⟨hdx, hdy⟩ := And.intro hdy hdx)
    refine jac ((false, 0, [], 0) : Bool × Nat × List Int × Int) (fun s => s.2.2.1.length = s.2.1 ∧ Dg 1000000000 s.2.2.1 ∧ (0 ≤ s.2.2.2 ∧ s.2.2.2 ≤ 1) ∧ val 1000000000 s.2.2.1 + s.2.2.2 * ((1000000000 : Nat) : Int) ^ s.2.1 = val 1000000000 ((ys).take s.2.1) + val 1000000000 ((xs).take s.2.1) ∧ s.2.1 ≤ (ys).length ∧ (s.1 = false → s.2.2.1 = [])) (fun s => (ys).length - s.2.1)
      (fun s => match s.1 with | false => [(22, .int .i64 s.2.1), (6, .int .u32 s.2.2.2), (5, .osl 19 0 0)] | true => [(22, .int .i64 s.2.1), (6, .int .u32 s.2.2.2), (5, .osl 47 0 s.2.2.1.length)]) (fun s => match s.1 with | false => [(19, .arr .u32 [])] | true => [(47, .arr .u32 s.2.2.1), (19, .gone)]) ?_ ?_ ?_
    · exact V.wk
    · exact ⟨rfl, fun x hx => by simp at hx, by simp, by simp [val], jiF _, fun _ => rfl⟩
    rintro ⟨_ | _, k, out, c⟩ ⟨h1, h2, h3, h4, h5, h6⟩
    · dsimp only at h1 h2 h3 h4 h5 h6 ⊢
      have h7 := h6 rfl
      clear h6
      subst h7
      have vx := jai 1000000000 ys k
      have vy := jai 1000000000 xs k
      have bx := jal (by omega) hdx k
      have by' := jal (by omega) hdy k
      have gy := jcb (xs := xs) (k := k)
      generalize hx0 : (ys).getD k 0 = x at *
      generalize hy0 : (xs).getD k 0 = y at *
      refine V.r0 @jiK ?_
      refine V.br (fun hq => ?_) (fun hq => ?_)
      · rw [decide_eq_true_eq] at hq
        refine V.r0 (V.a2 @jiK hx0) ?_
        refine V.br (fun hy => ?_) (fun hy => ?_)
        · rw [decide_eq_true_eq] at hy
          refine V.r0 (V.a2 @jiK hy0) ?_
          refine V.br (fun hz => ?_) (fun hz => ?_)
          · rw [decide_eq_true_eq] at hz
            have hst := jaz (B := 1000000000) (x := x) (y := y) (d := (x + c + y - 1000000000)) (c' := 1) h1 h4 (by omega)
            rw [← vx, ← vy] at hst
            have hdg : Dg 1000000000 (([] : List Int) ++ [(x + c + y - 1000000000)]) := jah h2 (jav (by omega))
            have hl2 : (([] : List Int) ++ [(x + c + y - 1000000000)]).length = k + 1 := by simp [h1]
            have hl3 : (([] : List Int)).length + (List.take 1 (List.drop 0 [(x + c + y - 1000000000)])).length = (([] : List Int) ++ [(x + c + y - 1000000000)]).length := by simp
            have hkc : ((k : Int) + 1) = ((k + 1 : Nat) : Int) := by omega
            refine V.r0 (V.a3 hl3 hkc @jiI) ?_
            try refine And.intro (fun _ => ⟨trivial, by omega⟩) ?_
            refine V.r0 (V.a3 hl3 hkc @jiI) ?_
            exact ⟨(true, k + 1, ([] : List Int) ++ [(x + c + y - 1000000000)], 1), ⟨hl2, hdg, by dsimp only; omega, hst, by dsimp only; omega, fun h => by cases h⟩, by dsimp only; omega, V.wk⟩
          · rw [decide_eq_false_iff_not] at hz
            have hst := jaz (B := 1000000000) (x := x) (y := y) (d := (x + c + y)) (c' := 0) h1 h4 (by omega)
            rw [← vx, ← vy] at hst
            have hdg : Dg 1000000000 (([] : List Int) ++ [(x + c + y)]) := jah h2 (jav (by omega))
            have hl2 : (([] : List Int) ++ [(x + c + y)]).length = k + 1 := by simp [h1]
            have hl3 : (([] : List Int)).length + (List.take 1 (List.drop 0 [(x + c + y)])).length = (([] : List Int) ++ [(x + c + y)]).length := by simp
            have hkc : ((k : Int) + 1) = ((k + 1 : Nat) : Int) := by omega
            refine V.r0 (V.a3 hl3 hkc @jiI) ?_
            try refine And.intro (fun _ => ⟨trivial, by omega⟩) ?_
            refine V.r0 (V.a3 hl3 hkc @jiI) ?_
            exact ⟨(true, k + 1, ([] : List Int) ++ [(x + c + y)], 0), ⟨hl2, hdg, by dsimp only; omega, hst, by dsimp only; omega, fun h => by cases h⟩, by dsimp only; omega, V.wk⟩
        · rw [decide_eq_false_iff_not] at hy
          have := gy (by omega)
          refine V.r0 @jiK ?_
          refine V.br (fun hz => ?_) (fun hz => ?_)
          · rw [decide_eq_true_eq] at hz
            have hst := jaz (B := 1000000000) (x := x) (y := y) (d := (x + c - 1000000000)) (c' := 1) h1 h4 (by omega)
            rw [← vx, ← vy] at hst
            have hdg : Dg 1000000000 (([] : List Int) ++ [(x + c - 1000000000)]) := jah h2 (jav (by omega))
            have hl2 : (([] : List Int) ++ [(x + c - 1000000000)]).length = k + 1 := by simp [h1]
            have hl3 : (([] : List Int)).length + (List.take 1 (List.drop 0 [(x + c - 1000000000)])).length = (([] : List Int) ++ [(x + c - 1000000000)]).length := by simp
            have hkc : ((k : Int) + 1) = ((k + 1 : Nat) : Int) := by omega
            refine V.r0 (V.a3 hl3 hkc @jiI) ?_
            try refine And.intro (fun _ => ⟨trivial, by omega⟩) ?_
            refine V.r0 (V.a3 hl3 hkc @jiI) ?_
            exact ⟨(true, k + 1, ([] : List Int) ++ [(x + c - 1000000000)], 1), ⟨hl2, hdg, by dsimp only; omega, hst, by dsimp only; omega, fun h => by cases h⟩, by dsimp only; omega, V.wk⟩
          · rw [decide_eq_false_iff_not] at hz
            have hst := jaz (B := 1000000000) (x := x) (y := y) (d := (x + c)) (c' := 0) h1 h4 (by omega)
            rw [← vx, ← vy] at hst
            have hdg : Dg 1000000000 (([] : List Int) ++ [(x + c)]) := jah h2 (jav (by omega))
            have hl2 : (([] : List Int) ++ [(x + c)]).length = k + 1 := by simp [h1]
            have hl3 : (([] : List Int)).length + (List.take 1 (List.drop 0 [(x + c)])).length = (([] : List Int) ++ [(x + c)]).length := by simp
            have hkc : ((k : Int) + 1) = ((k + 1 : Nat) : Int) := by omega
            refine V.r0 (V.a3 hl3 hkc @jiI) ?_
            try refine And.intro (fun _ => ⟨trivial, by omega⟩) ?_
            refine V.r0 (V.a3 hl3 hkc @jiI) ?_
            exact ⟨(true, k + 1, ([] : List Int) ++ [(x + c)], 0), ⟨hl2, hdg, by dsimp only; omega, hst, by dsimp only; omega, fun h => by cases h⟩, by dsimp only; omega, V.wk⟩
      · rw [decide_eq_false_iff_not] at hq
        have h7 : k = 0 := by simpa using h1.symm
        have h8 : (ys).length = 0 := by omega
        have e2 := hey.mp (jjf.mp h8)
        have e3 := hex.mp (jjf.mp (by omega))
        have e4 : c = 0 := by
          rw [jjr (by omega), jjr (by omega), hvy, hvx, e2, e3, h7] at h4
          simpa [val] using h4
        subst e4 h7
        rw [e2, e3]
        (conv => whnf)
        refine V.st ?_
        exact Fin.of rfl
    · clear h6
      dsimp only at h1 h2 h3 h4 h5 ⊢
      have vx := jai 1000000000 ys k
      have vy := jai 1000000000 xs k
      have bx := jal (by omega) hdx k
      have by' := jal (by omega) hdy k
      have gy := jcb (xs := xs) (k := k)
      generalize hx0 : (ys).getD k 0 = x at *
      generalize hy0 : (xs).getD k 0 = y at *
      refine V.r0 @jiK ?_
      refine V.br (fun hq => ?_) (fun hq => ?_)
      · rw [decide_eq_true_eq] at hq
        refine V.r0 (V.a2 @jiK hx0) ?_
        refine V.br (fun hy => ?_) (fun hy => ?_)
        · rw [decide_eq_true_eq] at hy
          refine V.r0 (V.a2 @jiK hy0) ?_
          refine V.br (fun hz => ?_) (fun hz => ?_)
          · rw [decide_eq_true_eq] at hz
            have hst := jaz (B := 1000000000) (x := x) (y := y) (d := (x + c + y - 1000000000)) (c' := 1) h1 h4 (by omega)
            rw [← vx, ← vy] at hst
            have hdg : Dg 1000000000 (out ++ [(x + c + y - 1000000000)]) := jah h2 (jav (by omega))
            have hl2 : (out ++ [(x + c + y - 1000000000)]).length = k + 1 := by simp [h1]
            have hl3 : (out).length + (List.take 1 (List.drop 0 [(x + c + y - 1000000000)])).length = (out ++ [(x + c + y - 1000000000)]).length := by simp
            have hkc : ((k : Int) + 1) = ((k + 1 : Nat) : Int) := by omega
            refine V.r0 (V.a3 hl3 hkc @jiI) ?_
            try refine And.intro (fun _ => ⟨trivial, by omega⟩) ?_
            refine V.r0 (V.a3 hl3 hkc @jiI) ?_
            exact ⟨(true, k + 1, out ++ [(x + c + y - 1000000000)], 1), ⟨hl2, hdg, by dsimp only; omega, hst, by dsimp only; omega, fun h => by cases h⟩, by dsimp only; omega, V.wk⟩
          · rw [decide_eq_false_iff_not] at hz
            have hst := jaz (B := 1000000000) (x := x) (y := y) (d := (x + c + y)) (c' := 0) h1 h4 (by omega)
            rw [← vx, ← vy] at hst
            have hdg : Dg 1000000000 (out ++ [(x + c + y)]) := jah h2 (jav (by omega))
            have hl2 : (out ++ [(x + c + y)]).length = k + 1 := by simp [h1]
            have hl3 : (out).length + (List.take 1 (List.drop 0 [(x + c + y)])).length = (out ++ [(x + c + y)]).length := by simp
            have hkc : ((k : Int) + 1) = ((k + 1 : Nat) : Int) := by omega
            refine V.r0 (V.a3 hl3 hkc @jiI) ?_
            try refine And.intro (fun _ => ⟨trivial, by omega⟩) ?_
            refine V.r0 (V.a3 hl3 hkc @jiI) ?_
            exact ⟨(true, k + 1, out ++ [(x + c + y)], 0), ⟨hl2, hdg, by dsimp only; omega, hst, by dsimp only; omega, fun h => by cases h⟩, by dsimp only; omega, V.wk⟩
        · rw [decide_eq_false_iff_not] at hy
          have := gy (by omega)
          refine V.r0 @jiK ?_
          refine V.br (fun hz => ?_) (fun hz => ?_)
          · rw [decide_eq_true_eq] at hz
            have hst := jaz (B := 1000000000) (x := x) (y := y) (d := (x + c - 1000000000)) (c' := 1) h1 h4 (by omega)
            rw [← vx, ← vy] at hst
            have hdg : Dg 1000000000 (out ++ [(x + c - 1000000000)]) := jah h2 (jav (by omega))
            have hl2 : (out ++ [(x + c - 1000000000)]).length = k + 1 := by simp [h1]
            have hl3 : (out).length + (List.take 1 (List.drop 0 [(x + c - 1000000000)])).length = (out ++ [(x + c - 1000000000)]).length := by simp
            have hkc : ((k : Int) + 1) = ((k + 1 : Nat) : Int) := by omega
            refine V.r0 (V.a3 hl3 hkc @jiI) ?_
            try refine And.intro (fun _ => ⟨trivial, by omega⟩) ?_
            refine V.r0 (V.a3 hl3 hkc @jiI) ?_
            exact ⟨(true, k + 1, out ++ [(x + c - 1000000000)], 1), ⟨hl2, hdg, by dsimp only; omega, hst, by dsimp only; omega, fun h => by cases h⟩, by dsimp only; omega, V.wk⟩
          · rw [decide_eq_false_iff_not] at hz
            have hst := jaz (B := 1000000000) (x := x) (y := y) (d := (x + c)) (c' := 0) h1 h4 (by omega)
            rw [← vx, ← vy] at hst
            have hdg : Dg 1000000000 (out ++ [(x + c)]) := jah h2 (jav (by omega))
            have hl2 : (out ++ [(x + c)]).length = k + 1 := by simp [h1]
            have hl3 : (out).length + (List.take 1 (List.drop 0 [(x + c)])).length = (out ++ [(x + c)]).length := by simp
            have hkc : ((k : Int) + 1) = ((k + 1 : Nat) : Int) := by omega
            refine V.r0 (V.a3 hl3 hkc @jiI) ?_
            try refine And.intro (fun _ => ⟨trivial, by omega⟩) ?_
            refine V.r0 (V.a3 hl3 hkc @jiI) ?_
            exact ⟨(true, k + 1, out ++ [(x + c)], 0), ⟨hl2, hdg, by dsimp only; omega, hst, by dsimp only; omega, fun h => by cases h⟩, by dsimp only; omega, V.wk⟩
      · rw [decide_eq_false_iff_not] at hq
        have hk : k = (ys).length := by omega
        rw [jjr (by omega), jjr (by omega), hvy, hvx] at h4
        (conv => whnf)
        refine V.st ?_
        refine V.br (fun hc => ?_) (fun hc => ?_)
        · rw [decide_eq_true_eq] at hc
          have hc1 : c = 1 := by omega
          subst hc1
          have h8 : out ++ [1] = mg 1000000000 (b + a) := by
            have h9 : val 1000000000 (out ++ [1]) = ((b + a : Nat) : Int) := by rw [jaR, h1]; omega
            have h10 := jdu (B := 1000000000) (l := out ++ [1]) (by omega) (jah h2 (jav (by omega))) (by
              rw [jaR, jjj, List.length_singleton, Nat.add_sub_cancel]
              have := jam h2
              omega)
            rw [h10, h9]; rfl
          (conv => whnf)
          refine V.st ?_
          exact Fin.of (by rw [← h8]; exact congrArg _ (jjr (by simp)))
        · rw [decide_eq_false_iff_not] at hc
          have hc1 : c = 0 := by omega
          subst hc1
          have h8 : out = mg 1000000000 (b + a) := by
            have h9 : val 1000000000 out = ((b + a : Nat) : Int) := by omega
            rcases jiM b with h0 | h0
            · have h10 : (ys).length = 0 := by rw [hey.mpr h0]; rfl
              have e3 := hex.mp (jjf.mp (by omega))
              rw [h0, e3, jjf.mp (by omega : out.length = 0)]; rfl
            · have h10 := jdu (B := 1000000000) (l := out) (by omega) h2 (by
                have h11 := hpy h0
                rw [h1, h9, hk]
                have h12 : ((1000000000 ^ ((ys).length - 1) : Nat) : Int) ≤ (b : Int) := by exact_mod_cast h11
                rw [ji6] at h12
                omega)
              rw [h10, h9]; rfl
          (conv => whnf)
          refine V.st ?_
          exact Fin.of (by rw [← h8, jjr (by simp)])
  · rw [decide_eq_false_iff_not] at hl
    obtain ⟨N, hN⟩ : ∃ N, N = xs.length + 1 := ⟨_, rfl⟩
    have e1 : (xs.length : Int) + 1 = (N : Int) := by omega
    refine V.r0 (V.a2 @e1 @jiK) ?_
    refine jac ((false, 0, [], 0) : Bool × Nat × List Int × Int) (fun s => s.2.2.1.length = s.2.1 ∧ Dg 1000000000 s.2.2.1 ∧ (0 ≤ s.2.2.2 ∧ s.2.2.2 ≤ 1) ∧ val 1000000000 s.2.2.1 + s.2.2.2 * ((1000000000 : Nat) : Int) ^ s.2.1 = val 1000000000 ((xs).take s.2.1) + val 1000000000 ((ys).take s.2.1) ∧ s.2.1 ≤ (xs).length ∧ (s.1 = false → s.2.2.1 = [])) (fun s => (xs).length - s.2.1)
      (fun s => match s.1 with | false => [(22, .int .i64 s.2.1), (6, .int .u32 s.2.2.2), (5, .osl 19 0 0)] | true => [(22, .int .i64 s.2.1), (6, .int .u32 s.2.2.2), (5, .osl 47 0 s.2.2.1.length)]) (fun s => match s.1 with | false => [(19, .arr .u32 [])] | true => [(47, .arr .u32 s.2.2.1), (19, .gone)]) ?_ ?_ ?_
    · exact V.wk
    · exact ⟨rfl, fun x hx => by simp at hx, by simp, by simp [val], jiF _, fun _ => rfl⟩
    rintro ⟨_ | _, k, out, c⟩ ⟨h1, h2, h3, h4, h5, h6⟩
    · dsimp only at h1 h2 h3 h4 h5 h6 ⊢
      have h7 := h6 rfl
      clear h6
      subst h7
      have vx := jai 1000000000 xs k
      have vy := jai 1000000000 ys k
      have bx := jal (by omega) hdx k
      have by' := jal (by omega) hdy k
      have gy := jcb (xs := ys) (k := k)
      generalize hx0 : (xs).getD k 0 = x at *
      generalize hy0 : (ys).getD k 0 = y at *
      refine V.r0 @jiK ?_
      refine V.br (fun hq => ?_) (fun hq => ?_)
      · rw [decide_eq_true_eq] at hq
        refine V.r0 (V.a2 @jiK hx0) ?_
        refine V.br (fun hy => ?_) (fun hy => ?_)
        · rw [decide_eq_true_eq] at hy
          refine V.r0 (V.a2 @jiK hy0) ?_
          refine V.br (fun hz => ?_) (fun hz => ?_)
          · rw [decide_eq_true_eq] at hz
            have hst := jaz (B := 1000000000) (x := x) (y := y) (d := (x + c + y - 1000000000)) (c' := 1) h1 h4 (by omega)
            rw [← vx, ← vy] at hst
            have hdg : Dg 1000000000 (([] : List Int) ++ [(x + c + y - 1000000000)]) := jah h2 (jav (by omega))
            have hl2 : (([] : List Int) ++ [(x + c + y - 1000000000)]).length = k + 1 := by simp [h1]
            have hl3 : (([] : List Int)).length + (List.take 1 (List.drop 0 [(x + c + y - 1000000000)])).length = (([] : List Int) ++ [(x + c + y - 1000000000)]).length := by simp
            have hkc : ((k : Int) + 1) = ((k + 1 : Nat) : Int) := by omega
            refine V.r0 (V.a3 hl3 hkc @jiI) ?_
            try refine And.intro (fun _ => ⟨trivial, by omega⟩) ?_
            refine V.r0 (V.a3 hl3 hkc @jiI) ?_
            exact ⟨(true, k + 1, ([] : List Int) ++ [(x + c + y - 1000000000)], 1), ⟨hl2, hdg, by dsimp only; omega, hst, by dsimp only; omega, fun h => by cases h⟩, by dsimp only; omega, V.wk⟩
          · rw [decide_eq_false_iff_not] at hz
            have hst := jaz (B := 1000000000) (x := x) (y := y) (d := (x + c + y)) (c' := 0) h1 h4 (by omega)
            rw [← vx, ← vy] at hst
            have hdg : Dg 1000000000 (([] : List Int) ++ [(x + c + y)]) := jah h2 (jav (by omega))
            have hl2 : (([] : List Int) ++ [(x + c + y)]).length = k + 1 := by simp [h1]
            have hl3 : (([] : List Int)).length + (List.take 1 (List.drop 0 [(x + c + y)])).length = (([] : List Int) ++ [(x + c + y)]).length := by simp
            have hkc : ((k : Int) + 1) = ((k + 1 : Nat) : Int) := by omega
            refine V.r0 (V.a3 hl3 hkc @jiI) ?_
            try refine And.intro (fun _ => ⟨trivial, by omega⟩) ?_
            refine V.r0 (V.a3 hl3 hkc @jiI) ?_
            exact ⟨(true, k + 1, ([] : List Int) ++ [(x + c + y)], 0), ⟨hl2, hdg, by dsimp only; omega, hst, by dsimp only; omega, fun h => by cases h⟩, by dsimp only; omega, V.wk⟩
        · rw [decide_eq_false_iff_not] at hy
          have := gy (by omega)
          refine V.r0 @jiK ?_
          refine V.br (fun hz => ?_) (fun hz => ?_)
          · rw [decide_eq_true_eq] at hz
            have hst := jaz (B := 1000000000) (x := x) (y := y) (d := (x + c - 1000000000)) (c' := 1) h1 h4 (by omega)
            rw [← vx, ← vy] at hst
            have hdg : Dg 1000000000 (([] : List Int) ++ [(x + c - 1000000000)]) := jah h2 (jav (by omega))
            have hl2 : (([] : List Int) ++ [(x + c - 1000000000)]).length = k + 1 := by simp [h1]
            have hl3 : (([] : List Int)).length + (List.take 1 (List.drop 0 [(x + c - 1000000000)])).length = (([] : List Int) ++ [(x + c - 1000000000)]).length := by simp
            have hkc : ((k : Int) + 1) = ((k + 1 : Nat) : Int) := by omega
            refine V.r0 (V.a3 hl3 hkc @jiI) ?_
            try refine And.intro (fun _ => ⟨trivial, by omega⟩) ?_
            refine V.r0 (V.a3 hl3 hkc @jiI) ?_
            exact ⟨(true, k + 1, ([] : List Int) ++ [(x + c - 1000000000)], 1), ⟨hl2, hdg, by dsimp only; omega, hst, by dsimp only; omega, fun h => by cases h⟩, by dsimp only; omega, V.wk⟩
          · rw [decide_eq_false_iff_not] at hz
            have hst := jaz (B := 1000000000) (x := x) (y := y) (d := (x + c)) (c' := 0) h1 h4 (by omega)
            rw [← vx, ← vy] at hst
            have hdg : Dg 1000000000 (([] : List Int) ++ [(x + c)]) := jah h2 (jav (by omega))
            have hl2 : (([] : List Int) ++ [(x + c)]).length = k + 1 := by simp [h1]
            have hl3 : (([] : List Int)).length + (List.take 1 (List.drop 0 [(x + c)])).length = (([] : List Int) ++ [(x + c)]).length := by simp
            have hkc : ((k : Int) + 1) = ((k + 1 : Nat) : Int) := by omega
            refine V.r0 (V.a3 hl3 hkc @jiI) ?_
            try refine And.intro (fun _ => ⟨trivial, by omega⟩) ?_
            refine V.r0 (V.a3 hl3 hkc @jiI) ?_
            exact ⟨(true, k + 1, ([] : List Int) ++ [(x + c)], 0), ⟨hl2, hdg, by dsimp only; omega, hst, by dsimp only; omega, fun h => by cases h⟩, by dsimp only; omega, V.wk⟩
      · rw [decide_eq_false_iff_not] at hq
        have h7 : k = 0 := by simpa using h1.symm
        have h8 : (xs).length = 0 := by omega
        have e2 := hex.mp (jjf.mp h8)
        have e3 := hey.mp (jjf.mp (by omega))
        have e4 : c = 0 := by
          rw [jjr (by omega), jjr (by omega), hvx, hvy, e2, e3, h7] at h4
          simpa [val] using h4
        subst e4 h7
        rw [e2, e3]
        (conv => whnf)
        refine V.st ?_
        exact Fin.of rfl
    · clear h6
      dsimp only at h1 h2 h3 h4 h5 ⊢
      have vx := jai 1000000000 xs k
      have vy := jai 1000000000 ys k
      have bx := jal (by omega) hdx k
      have by' := jal (by omega) hdy k
      have gy := jcb (xs := ys) (k := k)
      generalize hx0 : (xs).getD k 0 = x at *
      generalize hy0 : (ys).getD k 0 = y at *
      refine V.r0 @jiK ?_
      refine V.br (fun hq => ?_) (fun hq => ?_)
      · rw [decide_eq_true_eq] at hq
        refine V.r0 (V.a2 @jiK hx0) ?_
        refine V.br (fun hy => ?_) (fun hy => ?_)
        · rw [decide_eq_true_eq] at hy
          refine V.r0 (V.a2 @jiK hy0) ?_
          refine V.br (fun hz => ?_) (fun hz => ?_)
          · rw [decide_eq_true_eq] at hz
            have hst := jaz (B := 1000000000) (x := x) (y := y) (d := (x + c + y - 1000000000)) (c' := 1) h1 h4 (by omega)
            rw [← vx, ← vy] at hst
            have hdg : Dg 1000000000 (out ++ [(x + c + y - 1000000000)]) := jah h2 (jav (by omega))
            have hl2 : (out ++ [(x + c + y - 1000000000)]).length = k + 1 := by simp [h1]
            have hl3 : (out).length + (List.take 1 (List.drop 0 [(x + c + y - 1000000000)])).length = (out ++ [(x + c + y - 1000000000)]).length := by simp
            have hkc : ((k : Int) + 1) = ((k + 1 : Nat) : Int) := by omega
            refine V.r0 (V.a3 hl3 hkc @jiI) ?_
            try refine And.intro (fun _ => ⟨trivial, by omega⟩) ?_
            refine V.r0 (V.a3 hl3 hkc @jiI) ?_
            exact ⟨(true, k + 1, out ++ [(x + c + y - 1000000000)], 1), ⟨hl2, hdg, by dsimp only; omega, hst, by dsimp only; omega, fun h => by cases h⟩, by dsimp only; omega, V.wk⟩
          · rw [decide_eq_false_iff_not] at hz
            have hst := jaz (B := 1000000000) (x := x) (y := y) (d := (x + c + y)) (c' := 0) h1 h4 (by omega)
            rw [← vx, ← vy] at hst
            have hdg : Dg 1000000000 (out ++ [(x + c + y)]) := jah h2 (jav (by omega))
            have hl2 : (out ++ [(x + c + y)]).length = k + 1 := by simp [h1]
            have hl3 : (out).length + (List.take 1 (List.drop 0 [(x + c + y)])).length = (out ++ [(x + c + y)]).length := by simp
            have hkc : ((k : Int) + 1) = ((k + 1 : Nat) : Int) := by omega
            refine V.r0 (V.a3 hl3 hkc @jiI) ?_
            try refine And.intro (fun _ => ⟨trivial, by omega⟩) ?_
            refine V.r0 (V.a3 hl3 hkc @jiI) ?_
            exact ⟨(true, k + 1, out ++ [(x + c + y)], 0), ⟨hl2, hdg, by dsimp only; omega, hst, by dsimp only; omega, fun h => by cases h⟩, by dsimp only; omega, V.wk⟩
        · rw [decide_eq_false_iff_not] at hy
          have := gy (by omega)
          refine V.r0 @jiK ?_
          refine V.br (fun hz => ?_) (fun hz => ?_)
          · rw [decide_eq_true_eq] at hz
            have hst := jaz (B := 1000000000) (x := x) (y := y) (d := (x + c - 1000000000)) (c' := 1) h1 h4 (by omega)
            rw [← vx, ← vy] at hst
            have hdg : Dg 1000000000 (out ++ [(x + c - 1000000000)]) := jah h2 (jav (by omega))
            have hl2 : (out ++ [(x + c - 1000000000)]).length = k + 1 := by simp [h1]
            have hl3 : (out).length + (List.take 1 (List.drop 0 [(x + c - 1000000000)])).length = (out ++ [(x + c - 1000000000)]).length := by simp
            have hkc : ((k : Int) + 1) = ((k + 1 : Nat) : Int) := by omega
            refine V.r0 (V.a3 hl3 hkc @jiI) ?_
            try refine And.intro (fun _ => ⟨trivial, by omega⟩) ?_
            refine V.r0 (V.a3 hl3 hkc @jiI) ?_
            exact ⟨(true, k + 1, out ++ [(x + c - 1000000000)], 1), ⟨hl2, hdg, by dsimp only; omega, hst, by dsimp only; omega, fun h => by cases h⟩, by dsimp only; omega, V.wk⟩
          · rw [decide_eq_false_iff_not] at hz
            have hst := jaz (B := 1000000000) (x := x) (y := y) (d := (x + c)) (c' := 0) h1 h4 (by omega)
            rw [← vx, ← vy] at hst
            have hdg : Dg 1000000000 (out ++ [(x + c)]) := jah h2 (jav (by omega))
            have hl2 : (out ++ [(x + c)]).length = k + 1 := by simp [h1]
            have hl3 : (out).length + (List.take 1 (List.drop 0 [(x + c)])).length = (out ++ [(x + c)]).length := by simp
            have hkc : ((k : Int) + 1) = ((k + 1 : Nat) : Int) := by omega
            refine V.r0 (V.a3 hl3 hkc @jiI) ?_
            try refine And.intro (fun _ => ⟨trivial, by omega⟩) ?_
            refine V.r0 (V.a3 hl3 hkc @jiI) ?_
            exact ⟨(true, k + 1, out ++ [(x + c)], 0), ⟨hl2, hdg, by dsimp only; omega, hst, by dsimp only; omega, fun h => by cases h⟩, by dsimp only; omega, V.wk⟩
      · rw [decide_eq_false_iff_not] at hq
        have hk : k = (xs).length := by omega
        rw [jjr (by omega), jjr (by omega), hvx, hvy] at h4
        (conv => whnf)
        refine V.st ?_
        refine V.br (fun hc => ?_) (fun hc => ?_)
        · rw [decide_eq_true_eq] at hc
          have hc1 : c = 1 := by omega
          subst hc1
          have h8 : out ++ [1] = mg 1000000000 (a + b) := by
            have h9 : val 1000000000 (out ++ [1]) = ((a + b : Nat) : Int) := by rw [jaR, h1]; omega
            have h10 := jdu (B := 1000000000) (l := out ++ [1]) (by omega) (jah h2 (jav (by omega))) (by
              rw [jaR, jjj, List.length_singleton, Nat.add_sub_cancel]
              have := jam h2
              omega)
            rw [h10, h9]; rfl
          (conv => whnf)
          refine V.st ?_
          exact Fin.of (by rw [← h8]; exact congrArg _ (jjr (by simp)))
        · rw [decide_eq_false_iff_not] at hc
          have hc1 : c = 0 := by omega
          subst hc1
          have h8 : out = mg 1000000000 (a + b) := by
            have h9 : val 1000000000 out = ((a + b : Nat) : Int) := by omega
            rcases jiM a with h0 | h0
            · have h10 : (xs).length = 0 := by rw [hex.mpr h0]; rfl
              have e3 := hey.mp (jjf.mp (by omega))
              rw [h0, e3, jjf.mp (by omega : out.length = 0)]; rfl
            · have h10 := jdu (B := 1000000000) (l := out) (by omega) h2 (by
                have h11 := hpx h0
                rw [h1, h9, hk]
                have h12 : ((1000000000 ^ ((xs).length - 1) : Nat) : Int) ≤ (a : Int) := by exact_mod_cast h11
                rw [ji6] at h12
                omega)
              rw [h10, h9]; rfl
          (conv => whnf)
          refine V.st ?_
          exact Fin.of (by rw [← h8, jjr (by simp)])
theorem jfZ {out:List Int}{n k:Nat}{d:Int}(h:out.length=k)(hk:k<n):(out++List.replicate (n-k) 0).set k d=(out++[d])++List.replicate (n-(k+1)) 0:=by
 subst h
 have e:n-out.length=(n-(out.length+1))+1:=by omega
 rw[e,List.replicate_succ,List.set_append_right _ _ (jiL _),Nat.sub_self,List.set_cons_zero]
 simp
theorem jiC:type_of% @jiK∧type_of% @jiI:=⟨@jiK,@jiI⟩
theorem minus_m (a b:Nat)(hba:b≤a)(ha:(mg 1000000000 a).length≤100000000):Cl 185 [.ints .u32 (mg 1000000000 a),.ints .u32 (mg 1000000000 b)] (.ints .u32 (mg 1000000000 (a-b))):=by
 have hdx:=mg_dg (B:=1000000000) (by omega) a
 have hdy:=mg_dg (B:=1000000000) (by omega) b
 have hvx:=jaE (B:=1000000000) (by omega) a
 have hvy:=jaE (B:=1000000000) (by omega) b
 have hlen:=jaf (B:=1000000000) (by omega) hba
 generalize mg 1000000000 a=xs at *
 generalize mg 1000000000 b=ys at *
 refine V.en tbOk Tryz.func185 ?_
 refine V.r0 @jiK ?_
 refine jac ((0,[],0):Nat×List Int×Int) (fun s=>s.2.1.length=s.1∧Dg 1000000000 s.2.1∧(0≤s.2.2∧s.2.2≤1)∧val 1000000000 s.2.1-s.2.2*((1000000000:Nat):Int)^s.1=val 1000000000 (xs.take s.1)-val 1000000000 (ys.take s.1)∧s.1≤xs.length) (fun s=>xs.length-s.1)
  (fun s=>[(15,.int .i64 s.1),(6,.int .u32 s.2.2),(5,.osl 12 0 xs.length)]) (fun s=>[(12,.arr .u32 (s.2.1++List.replicate (xs.length-s.1) 0))]) ?_ ?_ ?_
 ·exact V.wk
 ·exact⟨rfl,fun x hx=>by simp at hx,by simp,by simp[val],jiF _⟩
 rintro⟨k,out,c⟩ ⟨h1,h2,h3,h4,h5⟩
 dsimp only at h1 h2 h3 h4 h5 ⊢
 have vx:=jai 1000000000 xs k
 have vy:=jai 1000000000 ys k
 have bx:=jal (by omega) hdx k
 have by':=jal (by omega) hdy k
 have gy:=jcb (xs:=ys) (k:=k)
 generalize hx0:xs.getD k 0=x at *
 generalize hy0:ys.getD k 0=y at *
 refine V.r0 @jiK ?_
 refine V.br (fun hq=>?_) (fun hq=>?_)
 ·rw[decide_eq_true_eq] at hq
  refine V.r0 (V.a2 @jiK hx0) ?_
  refine V.br (fun hy=>?_) (fun hy=>?_)
  ·rw[decide_eq_true_eq] at hy
   refine V.r0 (V.a2 @jiK hy0) ?_
   refine V.br (fun hz=>?_) (fun hz=>?_)
   ·rw[decide_eq_true_eq] at hz
    have hst:=jbY (B:=1000000000) (x:=x) (y:=y) (d:=(x+1000000000-(c+y))) (b':=1) h1 h4 (by omega)
    rw[← vx,← vy] at hst
    have hdg:Dg 1000000000 (out++[(x+1000000000-(c+y))]):=jah h2 (jav (by omega))
    have hps:=jfZ (d:=(x+1000000000-(c+y))) (n:=xs.length) h1 (by omega)
    have hkc:((k:Int)+1)=((k+1:Nat):Int):=by omega
    refine V.r0 (V.a3 jiC hps hkc) ?_
    refine V.r0 (V.a3 jiC hps hkc) ?_
    exact⟨(k+1,out++[(x+1000000000-(c+y))],1),⟨by dsimp only;simp[h1],hdg,by dsimp only;omega,hst,by dsimp only;omega⟩,by dsimp only;omega,V.wk⟩
   ·rw[decide_eq_false_iff_not] at hz
    have hst:=jbY (B:=1000000000) (x:=x) (y:=y) (d:=(x-(c+y))) (b':=0) h1 h4 (by omega)
    rw[← vx,← vy] at hst
    have hdg:Dg 1000000000 (out++[(x-(c+y))]):=jah h2 (jav (by omega))
    have hps:=jfZ (d:=(x-(c+y))) (n:=xs.length) h1 (by omega)
    have hkc:((k:Int)+1)=((k+1:Nat):Int):=by omega
    refine V.r0 (V.a3 jiC hps hkc) ?_
    refine V.r0 (V.a3 jiC hps hkc) ?_
    exact⟨(k+1,out++[(x-(c+y))],0),⟨by dsimp only;simp[h1],hdg,by dsimp only;omega,hst,by dsimp only;omega⟩,by dsimp only;omega,V.wk⟩
  ·rw[decide_eq_false_iff_not] at hy
   have:=gy (by omega)
   refine V.r0 @jiK ?_
   refine V.br (fun hz=>?_) (fun hz=>?_)
   ·rw[decide_eq_true_eq] at hz
    have hst:=jbY (B:=1000000000) (x:=x) (y:=y) (d:=(x+1000000000-c)) (b':=1) h1 h4 (by omega)
    rw[← vx,← vy] at hst
    have hdg:Dg 1000000000 (out++[(x+1000000000-c)]):=jah h2 (jav (by omega))
    have hps:=jfZ (d:=(x+1000000000-c)) (n:=xs.length) h1 (by omega)
    have hkc:((k:Int)+1)=((k+1:Nat):Int):=by omega
    refine V.r0 (V.a3 jiC hps hkc) ?_
    refine V.r0 (V.a3 jiC hps hkc) ?_
    exact⟨(k+1,out++[(x+1000000000-c)],1),⟨by dsimp only;simp[h1],hdg,by dsimp only;omega,hst,by dsimp only;omega⟩,by dsimp only;omega,V.wk⟩
   ·rw[decide_eq_false_iff_not] at hz
    have hst:=jbY (B:=1000000000) (x:=x) (y:=y) (d:=(x-c)) (b':=0) h1 h4 (by omega)
    rw[← vx,← vy] at hst
    have hdg:Dg 1000000000 (out++[(x-c)]):=jah h2 (jav (by omega))
    have hps:=jfZ (d:=(x-c)) (n:=xs.length) h1 (by omega)
    have hkc:((k:Int)+1)=((k+1:Nat):Int):=by omega
    refine V.r0 (V.a3 jiC hps hkc) ?_
    refine V.r0 (V.a3 jiC hps hkc) ?_
    exact⟨(k+1,out++[(x-c)],0),⟨by dsimp only;simp[h1],hdg,by dsimp only;omega,hst,by dsimp only;omega⟩,by dsimp only;omega,V.wk⟩
 ·rw[decide_eq_false_iff_not] at hq
  have hk:k=xs.length:=by omega
  rw[jjr (by omega),jjr (by omega),hvx,hvy] at h4
  have h0:=jam h2
  have h6:=jcd h2
  have hc:c=0:=by
   rw[h1] at h6
   rcases (by omega:c=0∨c=1) with e|e
   ·exact e
   ·subst e;omega
  subst hc
  have htr:=jff out h2 (by omega)
  rw[(by omega:(val 1000000000 out).toNat=a-b)] at htr
  have hrep:out++List.replicate (xs.length-k) 0=out:=by rw[hk,Nat.sub_self];simp
  rw[hrep]
  rw[← jjA (l:=out),h1,hk] at htr
  (conv=>whnf)
  refine V.st ?_
  repeat ((try ((with_reducible refine .ext ?_);(conv=>whnf)));(with_reducible refine jaa (r:=?_) ?_ ?_);rotate_left;(focus (first|exact(htr)));(conv=>whnf);refine V.st ?_)
  exact Fin.of rfl
theorem jeC (x y:Rat):(x.num*y.den + -(y.num*x.den)).sign=(if x<y then -1 else if x=y then 0 else 1:Int):=by
 have h1:x<y↔x.num*y.den<y.num*x.den:=Rat.lt_iff x y
 have h2:x=y↔x.num*y.den=y.num*x.den:=by
  conv=>lhs;rw[← jjc x,← jjc y]
  exact Rat.divInt_eq_divInt_iff (by have:=x.den_pos;omega) (by have:=y.den_pos;omega)
 by_cases a1:x<y
 ·rw[if_pos a1];exact ji9 (by have:=h1.1 a1;omega)
 ·rw[if_neg a1]
  by_cases a2:x=y
  ·rw[if_pos a2,show x.num*y.den + -(y.num*x.den)=0 by have:=h2.1 a2;omega];rfl
  ·rw[if_neg a2]
   refine jja ?_
   have b1:¬ (x.num*y.den<y.num*x.den):=fun h=>a1 (h1.2 h)
   have b2:¬ (x.num*y.den=y.num*x.den):=fun h=>a2 (h2.2 h)
   omega
def ordQ (x y:Rat):Int:=if x<y then -1 else if x=y then 0 else 1
def S9 (k:Nat)(z:Int):Prop:=(mg 1000000000 z.natAbs).length≤k
theorem S9.mono {k l:Nat}{z:Int}(h:S9 k z)(hl:k≤l):S9 l z:=jiS h hl
theorem S9.neg {k:Nat}{z:Int}(h:S9 k z):S9 k (-z):=by unfold S9 at *; rw[Int.natAbs_neg];exact h
theorem S9.le {k:Nat}{y z:Int}(h:S9 k z)(hy:y.natAbs≤z.natAbs):S9 k y:=jiS (jaf (by omega) hy) h
theorem S9.mul {k l:Nat}{y z:Int}(h:S9 k y)(h2:S9 l z):S9 (k+l) (y*z):=by
 unfold S9 at *
 rw[Int.natAbs_mul]
 have:=jbO (B:=1000000000) (by omega) y.natAbs z.natAbs
 omega
theorem S9.add {k:Nat}{y z:Int}(h:S9 k y)(h2:S9 k z):S9 (k+1) (y+z):=by
 unfold S9 at *
 have h3:=jcW (B:=1000000000) (by omega) y.natAbs z.natAbs
 have h4:=jaf (B:=1000000000) (by omega) (Int.natAbs_add_le y z)
 omega
theorem S9.lit {k:Nat}{z:Int}(h:z.natAbs<1000000000^k):S9 k z:=jaw (by omega) h
theorem S9.nat {k:Nat}{n:Nat} : S9 k (n:Int)↔(mg 1000000000 n).length≤k:=by unfold S9;rw[ji1]
theorem sum_c9 (x y:Int)(hx:S9 90000000 x)(hy:S9 90000000 y):Cl 152 [itD x,itD y] (itD (x+y)):=by
 unfold S9 at hx hy
 have hl:=jcW (B:=1000000000) (by omega) x.natAbs y.natAbs
 have hs:=plus_m x.natAbs y.natAbs (by omega) (by omega)
 have ho:=jcl x.natAbs y.natAbs (by omega) (by omega)
 rw[show itD x = .agg [.ints .u32 (mg 1000000000 x.natAbs),.bool (decide (x<0))] from rfl,show itD y = .agg [.ints .u32 (mg 1000000000 y.natAbs),.bool (decide (y<0))] from rfl]
 refine V.en tbOk Tryz.func152 ?_
 (conv=>whnf)
 refine V.st ?_
 refine V.br (fun hq=>?_) (fun hq=>?_)
 ·rw[beq_iff_eq,decide_eq_decide] at hq
  have hm:=ja0 (x.natAbs+y.natAbs) (decide (x<0))
  have e:(if decide (x<0)=true then -((x.natAbs+y.natAbs:Nat):Int) else ((x.natAbs+y.natAbs:Nat):Int))=x+y:=by
   by_cases h:x<0
   ·simp[h];omega
   ·simp[h];omega
  rw[e] at hm
  (conv=>whnf)
  refine V.st ?_
  refine⟨Pq45z,[],V.pok,.go (jad ?_)⟩
  (conv=>whnf)
  refine V.st ?_
  repeat ((try ((with_reducible refine .ext ?_);(conv=>whnf)));(with_reducible refine jaa (r:=?_) ?_ ?_);rotate_left;(focus (first|exact(hs)|exact(hm)));(conv=>whnf);refine V.st ?_)
  exact Fin.of rfl
 ·have hq':¬ (x<0↔y<0):=fun h=>by rw[beq_eq_false_iff_ne] at hq;exact hq (decide_eq_decide.2 h)
  (conv=>whnf)
  refine V.st ?_
  repeat ((try ((with_reducible refine .ext ?_);(conv=>whnf)));(with_reducible refine jaa (r:=?_) ?_ ?_);rotate_left;(focus (first|exact(ho)));(conv=>whnf);refine V.st ?_)
  refine V.br (fun hq2=>?_) (fun hq2=>?_)
  ·rw[decide_eq_true_eq] at hq2
   have hq3:=Int.neg_of_sign_eq_neg_one (a:=((x.natAbs:Int)-y.natAbs)) (by have:=Int.sign_trichotomy ((x.natAbs:Int)-y.natAbs);omega)
   have hd:=minus_m y.natAbs x.natAbs (by omega) (by omega)
   have hm:=ja0 (y.natAbs-x.natAbs) (decide (y<0))
   have e:(if decide (y<0)=true then -((y.natAbs-x.natAbs:Nat):Int) else ((y.natAbs-x.natAbs:Nat):Int))=x+y:=by
    by_cases h:y<0
    ·simp[h];omega
    ·simp[h];omega
   rw[e] at hm
   (conv=>whnf)
   refine V.st ?_
   refine⟨Pq45z,[],V.pok,.go (jad ?_)⟩
   (conv=>whnf)
   refine V.st ?_
   repeat ((try ((with_reducible refine .ext ?_);(conv=>whnf)));(with_reducible refine jaa (r:=?_) ?_ ?_);rotate_left;(focus (first|exact(hd)|exact(hm)));(conv=>whnf);refine V.st ?_)
   exact Fin.of rfl
  ·rw[decide_eq_false_iff_not] at hq2
   have hq3:¬ ((x.natAbs:Int)-y.natAbs)<0:=fun h=>hq2 (by rw[ji9 h];decide)
   have hd:=minus_m x.natAbs y.natAbs (by omega) (by omega)
   have hm:=ja0 (x.natAbs-y.natAbs) (decide (x<0))
   have e:(if decide (x<0)=true then -((x.natAbs-y.natAbs:Nat):Int) else ((x.natAbs-y.natAbs:Nat):Int))=x+y:=by
    by_cases h:x<0
    ·simp[h];omega
    ·simp[h];omega
   rw[e] at hm
   (conv=>whnf)
   refine V.st ?_
   refine⟨Pq45z,[],V.pok,.go (jad ?_)⟩
   (conv=>whnf)
   refine V.st ?_
   repeat ((try ((with_reducible refine .ext ?_);(conv=>whnf)));(with_reducible refine jaa (r:=?_) ?_ ?_);rotate_left;(focus (first|exact(hd)|exact(hm)));(conv=>whnf);refine V.st ?_)
   exact Fin.of rfl
theorem jdm (x:Int)(d:Nat)(hx:S9 90000000 x)(hd:(mg 1000000000 d).length≤90000000):Cl 150 [itD x,.ints .u32 (mg 1000000000 d)] (itD (x*d)):=by
 unfold S9 at hx
 have ht:=jcF x.natAbs d (by omega) (by omega)
 have hm:=ja0 (x.natAbs*d) (decide (x<0))
 have e:(if decide (x<0)=true then -((x.natAbs*d:Nat):Int) else ((x.natAbs*d:Nat):Int))=x*d:=by
  rw[jiW]
  by_cases h:x<0
  ·have e2:(x.natAbs:Int) = -x:=by omega
   rw[e2,decide_eq_true h,if_pos rfl,Int.neg_mul,Int.neg_neg]
  ·have e2:(x.natAbs:Int)=x:=by omega
   rw[e2];simp[h]
 rw[e] at hm
 refine V.en tbOk Tryz.func150 ?_
 (conv=>whnf)
 refine V.st ?_
 refine⟨(V.tk [0,1,2,4,5] (V.e1 3 [5,4] (V.e1 6 [] (V.e1 7 [] .done)))),[],V.pok,.go (jad ?_)⟩
 (conv=>whnf)
 refine V.st ?_
 repeat ((try ((with_reducible refine .ext ?_);(conv=>whnf)));(with_reducible refine jaa (r:=?_) ?_ ?_);rotate_left;(focus (first|exact(ht)|exact(hm)));(conv=>whnf);refine V.st ?_)
 exact Fin.of rfl
theorem jfr (x:Int):Cl 195 [itD x] (itD (-x)):=by
 have hm:=ja0 x.natAbs (!decide (x<0))
 have e:(if (!decide (x<0))=true then -(x.natAbs:Int) else (x.natAbs:Int)) = -x:=by
  by_cases h:x<0
  ·simp[h];omega
  ·simp[h];omega
 rw[e] at hm
 refine V.en tbOk Tryz.func195 ?_
 (conv=>whnf)
 refine V.st ?_
 repeat ((try ((with_reducible refine .ext ?_);(conv=>whnf)));(with_reducible refine jaa (r:=?_) ?_ ?_);rotate_left;(focus (first|exact(hm)));(conv=>whnf);refine V.st ?_)
 exact Fin.of rfl
theorem sign_c (x:Int):Cl 146 [itD x] (.int .i64 x.sign):=by
 have hz:=jdf x.natAbs
 refine V.en tbOk Tryz.func146 ?_
 (conv=>whnf)
 refine V.st ?_
 repeat ((try ((with_reducible refine .ext ?_);(conv=>whnf)));(with_reducible refine jaa (r:=?_) ?_ ?_);rotate_left;(focus (first|exact(hz)));(conv=>whnf);refine V.st ?_)
 refine V.br (fun hq=>?_) (fun hq=>?_)
 ·rw[decide_eq_true_eq] at hq
  (conv=>whnf)
  refine V.st ?_
  exact Fin.of (by rw[show x=0 by omega];rfl)
 ·rw[decide_eq_false_iff_not] at hq
  (conv=>whnf)
  refine V.st ?_
  refine V.br (fun hq2=>?_) (fun hq2=>?_)
  ·rw[decide_eq_true_eq] at hq2
   (conv=>whnf)
   refine V.st ?_
   exact Fin.of (by rw[ji9 hq2])
  ·rw[decide_eq_false_iff_not] at hq2
   (conv=>whnf)
   refine V.st ?_
   exact Fin.of (by rw[jja (by omega)])
theorem jf3 (x y:Rat)(hx:S9 40000000 x.num)(hy:S9 40000000 y.num)(hxd:(mg 1000000000 x.den).length≤40000000)(hyd:(mg 1000000000 y.den).length≤40000000):Cl 165 [rtD x,rtD y] (.int .i64 (ordQ x y)):=by
 have s1:=jdm x.num y.den (hx.mono (by omega)) (by omega)
 have s2:=jdm y.num x.den (hy.mono (by omega)) (by omega)
 have s3:=jfr (y.num*x.den)
 have z1:S9 80000000 (x.num*y.den):=hx.mul (S9.nat.2 hyd)
 have z2:S9 80000000 (y.num*x.den):=hy.mul (S9.nat.2 hxd)
 have s4:=sum_c9 (x.num*y.den) (-(y.num*x.den)) (z1.mono (by omega)) (z2.neg.mono (by omega))
 have s5:=sign_c (x.num*y.den + -(y.num*x.den))
 rw[jeC] at s5
 refine V.en tbOk Tryz.func165 ?_
 (conv=>whnf)
 refine V.st ?_
 refine⟨(V.tk [0,1,2,3,5,6,7,8] (V.e1 4 [8,7,6,5] (V.e1 9 [] (V.e1 10 [] (V.e1 11 [] (V.e1 12 [] (V.tk [13] .done))))))),[],V.pok,.go (jad ?_)⟩
 (conv=>whnf)
 refine V.st ?_
 repeat ((try ((with_reducible refine .ext ?_);(conv=>whnf)));(with_reducible refine jaa (r:=?_) ?_ ?_);rotate_left;(focus (first|exact(s1)|exact(s2)|exact(s3)|exact(s4)|exact(s5)));(conv=>whnf);refine V.st ?_)
 exact Fin.of rfl
theorem floor_neg (x:Int)(d:Nat)(hx:x<0)(hd:0<d):x/(d:Int)=if x.natAbs%d=0 then -((x.natAbs/d:Nat):Int) else -((x.natAbs/d+1:Nat):Int):=by
 have h1:=Nat.div_add_mod x.natAbs d
 have h2:=Nat.mod_lt x.natAbs hd
 have e:x = -(x.natAbs:Int):=by omega
 generalize x.natAbs=n at *
 generalize hq:n/d=q at *
 generalize hr:n%d=r at *
 subst e
 have h3:((d*q+r:Nat):Int)=(n:Int):=by rw[h1]
 rw[Int.natCast_add,jiW] at h3
 split
 ·rename_i h
  subst h
  rw[← h3,Int.natCast_zero,ji5,← Int.mul_neg,Int.mul_ediv_cancel_left _ (by omega)]
 ·rw[Int.natCast_add,Int.natCast_one]
  refine(Int.ediv_eq_iff_of_pos (by omega)).2 ⟨?_,?_⟩
  ·rw[← h3,Int.neg_mul,ji7,jiY (q:Int)];omega
  ·rw[← h3,Int.neg_mul,ji7,jiY (q:Int)];omega
theorem floor_c (x:Int)(d:Nat)(hd:0<d)(hx:S9 80000000 x)(hdl:(mg 1000000000 d).length≤80000000):Cl 154 [itD x,.ints .u32 (mg 1000000000 d)] (itD (x/d)):=by
 unfold S9 at hx
 have h1:=jbc x.natAbs d hd (by omega) (by omega)
 have h2:=jdf (x.natAbs%d)
 have hl2:=jaf (B:=1000000000) (by omega) (ji3 x.natAbs d)
 have h3:=plus_m (x.natAbs/d) 1 (by omega) (by decide)
 have h4:=ja0 (x.natAbs/d+1) (decide (x<0))
 have h5:=ja0 (x.natAbs/d) (decide (x<0))
 by_cases hx0:x<0
 ·rw[floor_neg x d hx0 hd]
  rw[show itD x = .agg [.ints .u32 (mg 1000000000 x.natAbs),.bool (decide (x<0))] from rfl]
  rw[decide_eq_true hx0] at h4 h5 ⊢
  rw[if_pos rfl] at h4 h5
  refine V.en tbOk Tryz.func154 ?_
  (conv=>whnf)
  refine V.st ?_
  repeat ((try ((with_reducible refine .ext ?_);(conv=>whnf)));(with_reducible refine jaa (r:=?_) ?_ ?_);rotate_left;(focus (first|exact(h1)|exact(h2)));(conv=>whnf);refine V.st ?_)
  refine V.br (fun hq=>?_) (fun hq=>?_)
  ·simp only[Bool.true_and,Bool.not_eq_true',decide_eq_false_iff_not] at hq
   rw[if_neg hq]
   (conv=>whnf)
   refine V.st ?_
   repeat ((try ((with_reducible refine .ext ?_);(conv=>whnf)));(with_reducible refine jaa (r:=?_) ?_ ?_);rotate_left;(focus (first|exact(h3)|exact(h4)));(conv=>whnf);refine V.st ?_)
   exact Fin.of rfl
  ·simp only[Bool.true_and,Bool.not_eq_false',decide_eq_true_eq] at hq
   rw[if_pos hq]
   (conv=>whnf)
   refine V.st ?_
   repeat ((try ((with_reducible refine .ext ?_);(conv=>whnf)));(with_reducible refine jaa (r:=?_) ?_ ?_);rotate_left;(focus (first|exact(h5)));(conv=>whnf);refine V.st ?_)
   exact Fin.of rfl
 ·have e:x/(d:Int)=((x.natAbs/d:Nat):Int):=by
   rw[Int.natCast_ediv];congr 1;omega
  rw[e]
  rw[show itD x = .agg [.ints .u32 (mg 1000000000 x.natAbs),.bool (decide (x<0))] from rfl]
  rw[decide_eq_false hx0] at h5 ⊢
  rw[if_neg (by simp)] at h5
  refine V.en tbOk Tryz.func154 ?_
  (conv=>whnf)
  refine V.st ?_
  repeat ((try ((with_reducible refine .ext ?_);(conv=>whnf)));(with_reducible refine jaa (r:=?_) ?_ ?_);rotate_left;(focus (first|exact(h1)|exact(h2)));(conv=>whnf);refine V.st ?_)
  refine V.br (fun hq=>?_) (fun hq=>?_)
  ·simp at hq
  ·(conv=>whnf)
   refine V.st ?_
   repeat ((try ((with_reducible refine .ext ?_);(conv=>whnf)));(with_reducible refine jaa (r:=?_) ?_ ?_);rotate_left;(focus (first|exact(h5)));(conv=>whnf);refine V.st ?_)
   exact Fin.of rfl
def nearZ (q:Rat)(s:Nat):Int:=(q.num*((s*2:Nat):Int)+q.den)/((q.den*2:Nat):Int)
theorem near_r (x:Rat)(s:Nat)(hx:S9 30000000 x.num)(hxd:(mg 1000000000 x.den).length≤30000000)(hs:(mg 1000000000 s).length≤30000000):Cl 113 [rtD x,.ints .u32 (mg 1000000000 s)] (itD (nearZ x s)):=by
 have h2:(mg 1000000000 2).length≤1:=by decide
 have t1:=jcF s 2 (by omega) (by omega)
 have l1:=jbO (B:=1000000000) (by omega) s 2
 have s1:=jdm x.num (s*2) (hx.mono (by omega)) (by omega)
 have s2:=ja0 x.den false
 rw[if_neg (by simp)] at s2
 have z1:S9 60000001 (x.num*((s*2:Nat):Int)):=hx.mul (l:=30000001) (S9.nat.2 (by omega))
 have z2:S9 60000001 (x.den:Int):=S9.nat.2 (by omega)
 have s3:=sum_c9 _ _ (z1.mono (by omega)) (z2.mono (by omega))
 have t2:=jcF x.den 2 (by omega) (by omega)
 have l2:=jbO (B:=1000000000) (by omega) x.den 2
 have s4:=floor_c (x.num*((s*2:Nat):Int)+x.den) (x.den*2) (by have:=x.den_pos;omega) ((z1.add z2).mono (by omega)) (by omega)
 unfold nearZ
 clear z1 z2
 generalize x.num*((s*2:Nat):Int)+x.den=top at *
 refine V.en tbOk Tryz.func113 ?_
 (conv=>whnf)
 refine V.st ?_
 refine⟨(V.tk [0,1,2,3,6,7] (.ev (.cons 4 [7,6,1,0] (.ev (.cons 5 [7,6] (.ev (.cons 8 [] (.ev (.cons 9 [] (V.e1 10 [] (V.e1 11 [] .done)) (.cons 10 [] (V.e1 9 [] (V.e1 11 [] .done)) .nil))) (.cons 10 [7,6] (V.e1 8 [] (V.e1 9 [] (V.e1 11 [] .done))) .nil))) (.cons 10 [7,6,1,0] (V.e1 5 [7,6] (V.e1 8 [] (V.e1 9 [] (V.e1 11 [] .done)))) .nil))) (.cons 10 [7,6,3,2,1,0] (V.e1 4 [7,6,1,0] (V.e1 5 [7,6] (V.e1 8 [] (V.e1 9 [] (V.e1 11 [] .done))))) .nil)))),[],V.pok,?_⟩
 refine jab [(6,.box 6 0),(5,.ints .u32 [2]),(7,.ints .u32 [2])] [(6,.box [.ints .u32 (mg 1000000000 top.natAbs),.bool (decide (top<0))]),(7,.gone)] ?_ ?_
 ·exact V.d4 @jiI t1 s1 s2 s3
 refine V.st ?_
 refine⟨(V.tk [0,1,2,3] (V.e1 4 [0] (V.e1 5 [] (V.e1 6 [] .done)))),[],V.pok,.go (jad ?_)⟩
 (conv=>whnf)
 refine V.st ?_
 repeat ((try ((with_reducible refine .ext ?_);(conv=>whnf)));(with_reducible refine jaa (r:=?_) ?_ ?_);rotate_left;(focus (first|exact(t2)|exact(s4)));(conv=>whnf);refine V.st ?_)
 exact Fin.of rfl
theorem jc0 (n:Int)(d:Nat)(hd:0<d)(h:Nat.Coprime n.natAbs d):(Rat.divInt n d).num=n∧(Rat.divInt n d).den=d:=by
 have h1:Int.gcd (d:Int) n=1:=by rw[Int.gcd_comm];exact h
 rw[Rat.num_divInt,Rat.den_divInt,if_neg (by omega),jja (by omega),ji8,h1]
 simp
theorem je4 {a b c:Nat}(h:Nat.Coprime a b)(hc:c ∣ a):Nat.Coprime c b:=Nat.Coprime.coprime_dvd_left hc h
theorem cop_dvd' {a b c:Nat}(h:Nat.Coprime a b)(hc:c ∣ b):Nat.Coprime a c:=Nat.Coprime.coprime_dvd_right hc h
theorem sum_cop {xn yn:Int}{R L xb:Nat}(hx:Nat.Coprime xn.natAbs xb)(hR:R ∣ xb)(hRL:Nat.Coprime R L):Nat.Coprime (xn*L+yn*R).natAbs R:=by
 have h1:Nat.gcd (xn*L+yn*R).natAbs R ∣ R:=Nat.gcd_dvd_right _ _
 have h2:Nat.gcd (xn*L+yn*R).natAbs R ∣ (xn*L+yn*R).natAbs:=Nat.gcd_dvd_left _ _
 obtain⟨d,hd⟩:∃ d,d=Nat.gcd (xn*L+yn*R).natAbs R:=⟨_,rfl⟩
 rw[← hd] at h1 h2
 have h3:(d:Int) ∣ xn*L+yn*R:=Int.ofNat_dvd_left.2 h2
 have h4:(d:Int) ∣ yn*R:=Int.dvd_trans (Int.ofNat_dvd.2 h1) (Int.dvd_mul_left _ _)
 have h5:(d:Int) ∣ xn*L:=by
  have:=Int.dvd_sub h3 h4
  rwa [Int.add_sub_cancel] at this
 have h6:d ∣ xn.natAbs*L:=by
  have:=Int.ofNat_dvd_left.1 h5
  rwa [Int.natAbs_mul,ji1] at this
 have h7:Nat.Coprime d L:=je4 hRL h1
 have h8:d ∣ xn.natAbs:=Nat.Coprime.dvd_of_dvd_mul_right h7 h6
 have h9:d ∣ Nat.gcd xn.natAbs xb:=Nat.dvd_gcd h8 (Nat.dvd_trans h1 hR)
 rw[hx.gcd_eq_one] at h9
 show Nat.gcd _ _=1
 rw[← hd]
 exact Nat.dvd_one.1 h9
theorem add_parts (x y:Rat) :
  let g:=Nat.gcd x.den y.den;let L:=y.den/g;let R:=x.den/g;let top:=x.num*L+y.num*R;let h:=Nat.gcd top.natAbs g
  (x+y).num=top/h∧(x+y).den=R*(y.den/h):=by
 intro g L R top h
 have hg:0<g:=Nat.gcd_pos_of_pos_left _ x.den_pos
 have ex:x.den=R*g:=(Nat.div_mul_cancel (Nat.gcd_dvd_left _ _)).symm
 have ey:y.den=L*g:=(Nat.div_mul_cancel (Nat.gcd_dvd_right _ _)).symm
 have hRL:Nat.Coprime R L:=Nat.coprime_div_gcd_div_gcd hg
 have c1:Nat.Coprime top.natAbs R:=sum_cop x.reduced (by rw[ex];exact Nat.dvd_mul_right _ _) hRL
 have c2:Nat.Coprime top.natAbs L:=by
  have:=sum_cop (xn:=y.num) (yn:=x.num) (R:=L) (L:=R) y.reduced (by rw[ey];exact Nat.dvd_mul_right _ _) hRL.symm
  rwa [Int.add_comm] at this
 have hh:0<h:=Nat.gcd_pos_of_pos_right _ hg
 have hht:h ∣ top.natAbs:=Nat.gcd_dvd_left _ _
 have hhg:h ∣ g:=Nat.gcd_dvd_right _ _
 have hT:((h:Nat):Int) ∣ top:=Int.ofNat_dvd_left.2 hht
 obtain⟨t,ht⟩:=hT
 obtain⟨q,hq⟩:=hhg
 have hyq:y.den/h=L*q:=by
  rw[ey,hq,jiN h q,← Nat.mul_assoc,Nat.mul_div_cancel _ hh]
 have htn:top.natAbs=h*t.natAbs:=by rw[ht,Int.natAbs_mul,ji1]
 have hcq:Nat.Coprime t.natAbs q:=by
  have h1:Nat.Coprime (top.natAbs/h) (g/h):=Nat.coprime_div_gcd_div_gcd hh
  rwa [htn,hq,Nat.mul_div_cancel_left _ hh,Nat.mul_div_cancel_left _ hh] at h1
 have htd:t.natAbs ∣ top.natAbs:=by rw[htn];exact Nat.dvd_mul_left _ _
 have hcop:Nat.Coprime t.natAbs (R*(y.den/h)):=by
  rw[hyq]
  exact Nat.Coprime.mul_right (je4 c1 htd) (Nat.Coprime.mul_right (je4 c2 htd) hcq)
 have hqp:0<q:=Nat.pos_of_ne_zero fun e=>by rw[e] at hq;omega
 have hLp:0<L:=Nat.pos_of_ne_zero fun e=>by have:=y.den_pos;rw[ey,e] at this;omega
 have hRp:0<R:=Nat.pos_of_ne_zero fun e=>by have:=x.den_pos;rw[ex,e] at this;omega
 have hsum:x+y=Rat.divInt t ((R*(y.den/h):Nat):Int):=by
  conv=>lhs;rw[← jjc x,← jjc y]
  rw[Rat.divInt_add_divInt _ _ (by have:=x.den_pos;omega) (by have:=y.den_pos;omega)]
  have hyp:=y.den_pos
  have hxp:=x.den_pos
  rw[Rat.divInt_eq_divInt_iff (by have:=Nat.mul_pos hxp hyp;rw[← jiW];omega) (by have:0<R*(y.den/h):=by { rw[hyq];exact Nat.mul_pos hRp (Nat.mul_pos hLp hqp) }; omega)]
  rw[hyq,ex,ey,hq]
  have e1:x.num*((L*(h*q):Nat):Int)+y.num*((R*(h*q):Nat):Int)=(h*q:Nat)*top:=by
   show _=((h*q:Nat):Int)*(x.num*(L:Int)+y.num*(R:Int))
   simp only[jiW,jiX]
   congr 1<;>ac_rfl
  rw[e1,ht]
  simp only[jiW]
  ac_rfl
 have hp:0<R*(y.den/h):=by rw[hyq];exact Nat.mul_pos hRp (Nat.mul_pos hLp hqp)
 obtain⟨p1,p2⟩:=jc0 t (R*(y.den/h)) hp hcop
 rw[hsum,p1,p2,ht,Int.mul_ediv_cancel_left _ (by omega)]
 exact⟨rfl,rfl⟩
theorem mul_parts (x y:Rat) :
  let g:=Nat.gcd x.num.natAbs y.den;let h:=Nat.gcd y.num.natAbs x.den
  (x*y).num.natAbs=(x.num.natAbs/g)*(y.num.natAbs/h)∧(x*y).den=(x.den/h)*(y.den/g):=by
 intro g h
 have hg:0<g:=Nat.gcd_pos_of_pos_right _ y.den_pos
 have hh:0<h:=Nat.gcd_pos_of_pos_right _ x.den_pos
 obtain⟨a,ha⟩:g ∣ x.num.natAbs:=Nat.gcd_dvd_left _ _
 obtain⟨b,hb⟩:g ∣ y.den:=Nat.gcd_dvd_right _ _
 obtain⟨c,hc⟩:h ∣ y.num.natAbs:=Nat.gcd_dvd_left _ _
 obtain⟨d,hd⟩:h ∣ x.den:=Nat.gcd_dvd_right _ _
 have k1:x.num.natAbs/g=a:=by rw[ha,Nat.mul_div_cancel_left _ hg]
 have k2:y.den/g=b:=by rw[hb,Nat.mul_div_cancel_left _ hg]
 have k3:y.num.natAbs/h=c:=by rw[hc,Nat.mul_div_cancel_left _ hh]
 have k4:x.den/h=d:=by rw[hd,Nat.mul_div_cancel_left _ hh]
 have c1:Nat.Coprime a b:=by
  have:Nat.Coprime (x.num.natAbs/g) (y.den/g):=Nat.coprime_div_gcd_div_gcd hg
  rwa [k1,k2] at this
 have c2:Nat.Coprime c d:=by
  have:Nat.Coprime (y.num.natAbs/h) (x.den/h):=Nat.coprime_div_gcd_div_gcd hh
  rwa [k3,k4] at this
 have c3:Nat.Coprime a d:=je4 (cop_dvd' x.reduced (by rw[hd];exact Nat.dvd_mul_left _ _)) (by rw[ha];exact Nat.dvd_mul_left _ _)
 have c4:Nat.Coprime c b:=je4 (cop_dvd' y.reduced (by rw[hb];exact Nat.dvd_mul_left _ _)) (by rw[hc];exact Nat.dvd_mul_left _ _)
 have hcop:Nat.Coprime (a*c) (d*b):=Nat.Coprime.mul_right (Nat.Coprime.mul_left c3 c2) (Nat.Coprime.mul_left c1 c4)
 obtain⟨u,hu⟩:((g:Nat):Int) ∣ x.num:=Int.ofNat_dvd_left.2 ⟨a,ha⟩
 obtain⟨v,hv⟩:((h:Nat):Int) ∣ y.num:=Int.ofNat_dvd_left.2 ⟨c,hc⟩
 have hua:u.natAbs=a:=by
  have:=ha;rw[hu,Int.natAbs_mul,ji1] at this
  exact Nat.eq_of_mul_eq_mul_left hg this
 have hvc:v.natAbs=c:=by
  have:=hc;rw[hv,Int.natAbs_mul,ji1] at this
  exact Nat.eq_of_mul_eq_mul_left hh this
 have hbp:0<b:=Nat.pos_of_ne_zero fun e=>by have:=y.den_pos;rw[hb,e] at this;omega
 have hdp:0<d:=Nat.pos_of_ne_zero fun e=>by have:=x.den_pos;rw[hd,e] at this;omega
 have hp:0<d*b:=Nat.mul_pos hdp hbp
 have hprod:x*y=Rat.divInt (u*v) ((d*b:Nat):Int):=by
  conv=>lhs;rw[← jjc x,← jjc y]
  rw[Rat.divInt_mul_divInt]
  have hyp:=y.den_pos
  have hxp:=x.den_pos
  rw[Rat.divInt_eq_divInt_iff (by have:=Nat.mul_pos hxp hyp;rw[← jiW];omega) (by omega),hb,hd]
  conv=>lhs;rw[hu,hv]
  simp only[jiW]
  ac_rfl
 obtain⟨p1,p2⟩:=jc0 (u*v) (d*b) hp (by rw[Int.natAbs_mul,hua,hvc];exact hcop)
 rw[hprod,p1,p2,Int.natAbs_mul,hua,hvc,k1,k2,k3,k4]
 exact⟨rfl,rfl⟩
theorem mul_sign (x y:Rat):decide ((x*y).num<0)=((decide (x.num<0) != decide (y.num<0)) && !decide ((x*y).num=0)):=by
 have hg:0<Nat.gcd (x.num*y.num).natAbs (x.den*y.den):=Nat.gcd_pos_of_pos_right _ (Nat.mul_pos x.den_pos y.den_pos)
 obtain⟨t,ht⟩:((Nat.gcd (x.num*y.num).natAbs (x.den*y.den):Nat):Int) ∣ x.num*y.num:=Int.ofNat_dvd_left.2 (Nat.gcd_dvd_left _ _)
 have key:(x*y).num=t:=by
  rw[Rat.mul_def,Rat.normalize_eq]
  show x.num*y.num/((Nat.gcd (x.num*y.num).natAbs (x.den*y.den):Nat):Int)=t
  conv=>lhs;lhs;rw[ht]
  exact Int.mul_ediv_cancel_left _ (by omega)
 rw[key]
 generalize Nat.gcd (x.num*y.num).natAbs (x.den*y.den)=g at *
 have hs:(t<0↔x.num*y.num<0)∧(t=0↔x.num*y.num=0):=by
  rw[ht]
  constructor
  ·constructor
   ·intro h;exact Int.mul_neg_of_pos_of_neg (by omega) h
   ·intro h
    rcases Int.lt_or_le t 0 with h2|h2
    ·exact h2
    ·have:=jiH (a:=(g:Int)) (by omega) h2;omega
  ·constructor
   ·intro h;rw[h,Int.mul_zero]
   ·intro h;rcases Int.mul_eq_zero.1 h with h2|h2<;>omega
 by_cases h1:x.num<0<;>by_cases h2:y.num<0<;>by_cases h3:t=0
 all_goals
  have h4:=hs.1
  have h5:=hs.2
  simp only[h1,h2,h3,decide_true,decide_false,bne_self_eq_false,Bool.false_and,Bool.not_true,Bool.and_false,Bool.not_false,jiV]
 ·rfl
 ·rw[decide_eq_false_iff_not,h4]
  have:=Int.mul_pos_of_neg_of_neg h1 h2;omega
 ·simp
 ·have h6:x.num*y.num≠0:=fun e=>h3 (h5.2 e)
  have h7:x.num*y.num≤0:=Int.mul_nonpos_of_nonpos_of_nonneg (by omega) (by omega)
  simp only[h4]
  simp;omega
 ·simp
 ·have h6:x.num*y.num≠0:=fun e=>h3 (h5.2 e)
  have h7:x.num*y.num≤0:=Int.mul_nonpos_of_nonneg_of_nonpos (by omega) (by omega)
  simp only[h4]
  simp;omega
 ·rfl
 ·rw[decide_eq_false_iff_not,h4]
  have:=jiH (a:=x.num) (b:=y.num) (by omega) (by omega);omega
def Q9 (k:Nat)(q:Rat):Prop:=S9 k q.num∧(mg 1000000000 q.den).length≤k
theorem Q9.mono {k l:Nat}{q:Rat}(h:Q9 k q)(hl:k≤l):Q9 l q:=⟨h.1.mono hl,jiS h.2 hl⟩
theorem Q9.neg {k:Nat}{q:Rat}(h:Q9 k q):Q9 k (-q):=⟨by rw[Rat.neg_num];exact h.1.neg,by rw[Rat.neg_den];exact h.2⟩
theorem div_sign (t:Int)(h:Nat)(hd:h ∣ t.natAbs):(if decide (t<0)=true then -((t.natAbs/h:Nat):Int) else ((t.natAbs/h:Nat):Int))=t/h:=by
 have e:t=t.sign*(t.natAbs:Int):=(Int.sign_mul_natAbs t).symm
 by_cases hz:t<0
 ·rw[decide_eq_true hz,if_pos rfl]
  have e2:t = -(t.natAbs:Int):=by omega
  conv=>rhs;rw[e2]
  rw[Int.neg_ediv_of_dvd (Int.ofNat_dvd.2 hd),Int.natCast_ediv]
 ·rw[decide_eq_false hz,if_neg (by simp)]
  have e2:t=(t.natAbs:Int):=by omega
  conv=>rhs;rw[e2]
  rw[Int.natCast_ediv]
theorem negated_c (q:Rat):Cl 170 [rtD q] (rtD (-q)):=by
 have h1:=jfr q.num
 have e:rtD (-q) = .agg [.ints .u32 (mg 1000000000 (-q.num).natAbs),.bool (decide (-q.num<0)),.ints .u32 (mg 1000000000 q.den)]:=by unfold rtD;rw[Rat.neg_num,Rat.neg_den]
 rw[e]
 refine V.en tbOk Tryz.func170 ?_
 (conv=>whnf)
 refine V.st ?_
 refine⟨(V.tk [0,1,3,4] (V.e1 2 [4,3] (V.tk [5] (V.e1 6 [] .done)))),[],V.pok,.go (jad ?_)⟩
 (conv=>whnf)
 refine V.st ?_
 repeat ((try ((with_reducible refine .ext ?_);(conv=>whnf)));(with_reducible refine jaa (r:=?_) ?_ ?_);rotate_left;(focus (first|exact(h1)));(conv=>whnf);refine V.st ?_)
 exact Fin.of rfl
theorem add_c (x y:Rat)(hx:Q9 20000000 x)(hy:Q9 20000000 y):Cl 138 [rtD x,rtD y] (rtD (x+y)):=by
 obtain⟨p1,p2⟩:=add_parts x y
 have g1:=gcd_c x.den y.den (by have:=hx.2;omega) (by have:=hy.2;omega)
 have hg:0<Nat.gcd x.den y.den:=Nat.gcd_pos_of_pos_left _ x.den_pos
 have lg:=jaf (B:=1000000000) (by omega) (Nat.gcd_le_left y.den x.den_pos)
 generalize Nat.gcd x.den y.den=g at *
 have hx1:=hx.1
 have hy1:=hy.1
 have hx2:=hx.2
 have hy2:=hy.2
 have d1:=jbc y.den g hg (by omega) (by omega)
 have d2:=jbc x.den g hg (by omega) (by omega)
 have lL:=jaf (B:=1000000000) (by omega) (ji3 y.den g)
 have lR:=jaf (B:=1000000000) (by omega) (ji3 x.den g)
 have s1:=jdm x.num (y.den/g) (hx1.mono (by omega)) (by omega)
 have s2:=jdm y.num (x.den/g) (hy1.mono (by omega)) (by omega)
 have z1:S9 40000000 (x.num*((y.den/g:Nat):Int)):=hx1.mul (l:=20000000) (S9.nat.2 (by omega))
 have z2:S9 40000000 (y.num*((x.den/g:Nat):Int)):=hy1.mul (l:=20000000) (S9.nat.2 (by omega))
 have s3:=sum_c9 _ _ (z1.mono (by omega)) (z2.mono (by omega))
 have z3:=z1.add z2
 generalize x.num*((y.den/g:Nat):Int)+y.num*((x.den/g:Nat):Int)=top at *
 unfold S9 at z3
 have g2:=gcd_c top.natAbs g (by omega) (by omega)
 have hh:0<Nat.gcd top.natAbs g:=Nat.gcd_pos_of_pos_right _ hg
 have lh:=jaf (B:=1000000000) (by omega) (Nat.gcd_le_right top.natAbs hg)
 have hdv:Nat.gcd top.natAbs g ∣ top.natAbs:=Nat.gcd_dvd_left _ _
 generalize Nat.gcd top.natAbs g=h at *
 have d3:=jbc top.natAbs h hh (by omega) (by omega)
 have d4:=jbc y.den h hh (by omega) (by omega)
 have lT:=jaf (B:=1000000000) (by omega) (ji3 y.den h)
 have t1:=jcF (x.den/g) (y.den/h) (by omega) (by omega)
 have m1:=ja0 (top.natAbs/h) (decide (top<0))
 rw[div_sign top h hdv,← p1] at m1
 rw[← p2] at t1
 refine V.en tbOk Tryz.func138 ?_
 (conv=>whnf)
 refine V.st ?_
 repeat ((try ((with_reducible refine .ext ?_);(conv=>whnf)));(with_reducible refine jaa (r:=?_) ?_ ?_);rotate_left;(focus (first|exact(g1)|exact(d1)|exact(d2)));(conv=>whnf);refine V.st ?_)
 refine⟨(V.tk [0,1,2,4,5,6] (.ev (.cons 3 [6,5,4] (.ev (.cons 7 [] (.ev (.cons 8 [] (V.e1 9 [] (V.e1 10 [] .done)) (.cons 9 [] (V.e1 8 [] (V.e1 10 [] .done)) .nil))) (.cons 9 [6,5,4] (V.e1 7 [] (V.e1 8 [] (V.e1 10 [] .done))) .nil))) (.cons 9 [6,5,4,2,1,0] (V.e1 3 [6,5,4] (V.e1 7 [] (V.e1 8 [] (V.e1 10 [] .done)))) .nil)))),[],V.pok,?_⟩
 refine jab [(10,.box 10 0)] [(10,.box [.ints .u32 (mg 1000000000 top.natAbs),.bool (decide (top<0))])] ?_ ?_
 ·exact V.d3 @jiI s1 s2 s3
 (conv=>whnf)
 refine V.st ?_
 repeat ((try ((with_reducible refine .ext ?_);(conv=>whnf)));(with_reducible refine jaa (r:=?_) ?_ ?_);rotate_left;(focus (first|exact(g2)|exact(d3)|exact(d4)|exact(m1)|exact(t1)));(conv=>whnf);refine V.st ?_)
 exact Fin.of rfl
theorem sub_c (x y:Rat)(hx:Q9 20000000 x)(hy:Q9 20000000 y):Cl 137 [rtD x,rtD y] (rtD (x-y)):=by
 have h1:=negated_c y
 have h2:=add_c x (-y) hx hy.neg
 rw[← Rat.sub_eq_add_neg] at h2
 refine V.en tbOk Tryz.func137 ?_
 (conv=>whnf)
 refine V.st ?_
 refine⟨(V.tk [0,1] (V.e1 2 [0] (V.e1 3 [] (V.e1 4 [] .done)))),[],V.pok,.go (jad ?_)⟩
 (conv=>whnf)
 refine V.st ?_
 repeat ((try ((with_reducible refine .ext ?_);(conv=>whnf)));(with_reducible refine jaa (r:=?_) ?_ ?_);rotate_left;(focus (first|exact(h1)|exact(h2)));(conv=>whnf);refine V.st ?_)
 exact Fin.of rfl
theorem mul_num (x y:Rat):(if (decide (x.num<0) != decide (y.num<0))=true then -((x*y).num.natAbs:Int) else ((x*y).num.natAbs:Int))=(x*y).num:=by
 have h:=mul_sign x y
 by_cases h0:(x*y).num=0
 ·rw[h0];simp
 ·rw[decide_eq_false h0,Bool.not_false,jiV] at h
  rw[← h]
  by_cases h1:(x*y).num<0
  ·rw[decide_eq_true h1,if_pos rfl];omega
  ·rw[decide_eq_false h1,if_neg (by simp)];omega
theorem mul_c (x y:Rat)(hx:Q9 20000000 x)(hy:Q9 20000000 y):Cl 131 [rtD x,rtD y] (rtD (x*y)):=by
 obtain⟨p1,p2⟩:=mul_parts x y
 have pn:=mul_num x y
 have hx1:=hx.1
 have hy1:=hy.1
 have hx2:=hx.2
 have hy2:=hy.2
 unfold S9 at hx1 hy1
 have g1:=gcd_c x.num.natAbs y.den (by omega) (by omega)
 have g2:=gcd_c y.num.natAbs x.den (by omega) (by omega)
 have hg:0<Nat.gcd x.num.natAbs y.den:=Nat.gcd_pos_of_pos_right _ y.den_pos
 have hh:0<Nat.gcd y.num.natAbs x.den:=Nat.gcd_pos_of_pos_right _ x.den_pos
 have lg:=jaf (B:=1000000000) (by omega) (Nat.gcd_le_right x.num.natAbs y.den_pos)
 have lh:=jaf (B:=1000000000) (by omega) (Nat.gcd_le_right y.num.natAbs x.den_pos)
 generalize Nat.gcd x.num.natAbs y.den=g at *
 generalize Nat.gcd y.num.natAbs x.den=h at *
 have d1:=jbc x.num.natAbs g hg (by omega) (by omega)
 have d2:=jbc x.den h hh (by omega) (by omega)
 have d3:=jbc y.num.natAbs h hh (by omega) (by omega)
 have d4:=jbc y.den g hg (by omega) (by omega)
 have l1:=jaf (B:=1000000000) (by omega) (ji3 x.num.natAbs g)
 have l2:=jaf (B:=1000000000) (by omega) (ji3 x.den h)
 have l3:=jaf (B:=1000000000) (by omega) (ji3 y.num.natAbs h)
 have l4:=jaf (B:=1000000000) (by omega) (ji3 y.den g)
 have t1:=jcF (x.num.natAbs/g) (y.num.natAbs/h) (by omega) (by omega)
 have t2:=jcF (x.den/h) (y.den/g) (by omega) (by omega)
 rw[← p1] at t1
 rw[← p2] at t2
 have m1:=ja0 (x*y).num.natAbs (decide (x.num<0) != decide (y.num<0))
 rw[pn] at m1
 refine V.en tbOk Tryz.func131 ?_
 (conv=>whnf)
 refine V.st ?_
 repeat ((try ((with_reducible refine .ext ?_);(conv=>whnf)));(with_reducible refine jaa (r:=?_) ?_ ?_);rotate_left;(focus (first|exact(g1)|exact(g2)|exact(d1)|exact(d2)|exact(d3)|exact(d4)));(conv=>whnf);refine V.st ?_)
 refine⟨(V.tk [0,1,3,4,5,6,7,8,9,11,12] (V.e1 2 [12,11,9,8,7,6,5,4,3] (V.e1 10 [12,11] (V.e1 13 [] (V.tk [14] (V.e1 15 [] .done)))))),[],V.pok,.go (jad ?_)⟩
 (conv=>whnf)
 refine V.st ?_
 repeat ((try ((with_reducible refine .ext ?_);(conv=>whnf)));(with_reducible refine jaa (r:=?_) ?_ ?_);rotate_left;(focus (first|exact(t1)|exact(m1)|exact(t2)));(conv=>whnf);refine V.st ?_)
 exact Fin.of rfl
theorem jgM (q:Rat)(hq:q.num≠0):q⁻¹.num=(if decide (q.num<0)=true then -(q.den:Int) else (q.den:Int))∧q⁻¹.den=q.num.natAbs:=by
 have hd:=q.den_pos
 have hc:Nat.Coprime (if decide (q.num<0)=true then -(q.den:Int) else (q.den:Int)).natAbs q.num.natAbs:=by
  have e:(if decide (q.num<0)=true then -(q.den:Int) else (q.den:Int)).natAbs=q.den:=by
   split<;>simp
  rw[e]
  exact q.reduced.symm
 have e:q⁻¹=Rat.divInt (if decide (q.num<0)=true then -(q.den:Int) else (q.den:Int)) (q.num.natAbs:Nat):=by
  rw[Rat.inv_def,Rat.divInt_eq_divInt_iff hq (by omega)]
  by_cases h:q.num<0
  ·rw[decide_eq_true h,if_pos rfl,show (q.num.natAbs:Int) = -q.num by omega,Int.mul_neg,Int.neg_mul]
  ·rw[decide_eq_false h,if_neg (by simp),show (q.num.natAbs:Int)=q.num by omega]
 obtain⟨h1,h2⟩:=jc0 _ q.num.natAbs (by omega) hc
 rw[e]
 exact⟨h1,h2⟩
theorem inverse_c (q:Rat)(hq:q.num≠0):Cl 133 [rtD q] (rtD q⁻¹):=by
 obtain⟨p1,p2⟩:=jgM q hq
 have m1:=ja0 q.den (decide (q.num<0))
 rw[← p1] at m1
 have e:rtD q⁻¹ = .agg [.ints .u32 (mg 1000000000 q⁻¹.num.natAbs),.bool (decide (q⁻¹.num<0)),.ints .u32 (mg 1000000000 q.num.natAbs)]:=by unfold rtD;rw[p2]
 rw[e]
 refine V.en tbOk Tryz.func133 ?_
 (conv=>whnf)
 refine V.st ?_
 refine⟨(V.tk [0,1,2,3,4,6,7,8] (V.e1 5 [8,7,6] (V.tk [9] (V.e1 10 [] .done)))),[],V.pok,.go (jad ?_)⟩
 (conv=>whnf)
 refine V.st ?_
 repeat ((try ((with_reducible refine .ext ?_);(conv=>whnf)));(with_reducible refine jaa (r:=?_) ?_ ?_);rotate_left;(focus (first|exact(m1)));(conv=>whnf);refine V.st ?_)
 exact Fin.of rfl
theorem lesser_c (x y:Rat)(hx:Q9 20000000 x)(hy:Q9 20000000 y):Cl 191 [rtD x,rtD y] (rtD (if y<x then y else x)):=by
 have h1:=jf3 x y (hx.1.mono (by omega)) (hy.1.mono (by omega)) (jiS hx.2 (by omega)) (jiS hy.2 (by omega))
 have e:ordQ x y>0↔y<x:=by
  unfold ordQ
  by_cases a:x<y
  ·rw[if_pos a];exact⟨fun h=>by omega,fun h=>absurd h (Rat.not_lt.2 (Rat.le_of_lt a))⟩
  ·rw[if_neg a]
   by_cases b:x=y
   ·rw[if_pos b,b];exact⟨fun h=>by omega,fun h=>absurd h (Rat.lt_irrefl)⟩
   ·rw[if_neg b];exact⟨fun _=>Rat.lt_of_le_of_ne (Rat.not_lt.1 a) (Ne.symm b),fun _=>by omega⟩
 refine V.en tbOk Tryz.func191 ?_
 (conv=>whnf)
 refine V.st ?_
 repeat ((try ((with_reducible refine .ext ?_);(conv=>whnf)));(with_reducible refine jaa (r:=?_) ?_ ?_);rotate_left;(focus (first|exact(h1)));(conv=>whnf);refine V.st ?_)
 refine V.br (fun hq=>?_) (fun hq=>?_)
 ·rw[decide_eq_true_eq] at hq
  rw[if_pos (e.1 hq)]
  (conv=>whnf)
  refine V.st ?_
  exact Fin.of rfl
 ·rw[decide_eq_false_iff_not] at hq
  rw[if_neg (fun h=>hq (e.2 h))]
  (conv=>whnf)
  refine V.st ?_
  exact Fin.of rfl
theorem greater_c (x y:Rat)(hx:Q9 20000000 x)(hy:Q9 20000000 y):Cl 190 [rtD x,rtD y] (rtD (if x<y then y else x)):=by
 have h1:=jf3 x y (hx.1.mono (by omega)) (hy.1.mono (by omega)) (jiS hx.2 (by omega)) (jiS hy.2 (by omega))
 have e:ordQ x y<0↔x<y:=by
  unfold ordQ
  by_cases a:x<y
  ·rw[if_pos a];exact⟨fun _=>a,fun _=>by omega⟩
  ·rw[if_neg a]
   by_cases b:x=y
   ·rw[if_pos b];exact⟨fun h=>by omega,fun h=>absurd h a⟩
   ·rw[if_neg b];exact⟨fun h=>by omega,fun h=>absurd h a⟩
 refine V.en tbOk Tryz.func190 ?_
 (conv=>whnf)
 refine V.st ?_
 repeat ((try ((with_reducible refine .ext ?_);(conv=>whnf)));(with_reducible refine jaa (r:=?_) ?_ ?_);rotate_left;(focus (first|exact(h1)));(conv=>whnf);refine V.st ?_)
 refine V.br (fun hq=>?_) (fun hq=>?_)
 ·rw[decide_eq_true_eq] at hq
  rw[if_pos (e.1 hq)]
  (conv=>whnf)
  refine V.st ?_
  exact Fin.of rfl
 ·rw[decide_eq_false_iff_not] at hq
  rw[if_neg (fun h=>hq (e.2 h))]
  (conv=>whnf)
  refine V.st ?_
  exact Fin.of rfl
end Go.Proofs.YtgjgpdceghjajaaGreatDoor
end
