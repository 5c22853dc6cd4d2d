/- What functions of the program answer at given values, part 6. Conditions: those that each theorem names. -/
import Derived.Test.YtbnghipgicmpdaaGreatDoorSimplexBandsH5
import Derived.Shelf.Strconv.ParseIntPublic10
import Derived.Lib.BitFns
import Derived.Laws.Bits64b
import Derived.Test.YtbnghipgicmpdaaGreatDoorSimplexBandsH4
set_option linter.unusedSimpArgs false
set_option linter.unusedVariables false
set_option maxHeartbeats 8000000
set_option maxRecDepth 100000
section
namespace Go.Nb
structure Kn (B top v2 vr u2 ur head U V P:Int):Prop where
 hB:2≤B
 hP:1≤P
 ht:1≤top
 hv:V=(top*B+v2)*P+vr
 hu:U=(head*B+u2)*P+ur
 v20:0≤v2
 v2B:v2<B
 u20:0≤u2
 u2B:u2<B
 vr0:0≤vr
 vrP:vr<P
 ur0:0≤ur
 urP:ur<P
 hh:0≤head
 htB:top<B
 lt:U<B*V
section
variable {B top v2 vr u2 ur head U V P : Int}
theorem Kn.vpos (K:Kn B top v2 vr u2 ur head U V P):0<V:=by
 have h1:0≤top*B:=jjB (by have:=K.ht;omega) (by have:=K.hB;omega)
 have h2:1*2≤top*B:=Int.mul_le_mul K.ht K.hB Jo (by have:=K.ht;omega)
 have h3:1*1≤(top*B+v2)*P:=Int.mul_le_mul (by have:=K.v20;omega) K.hP Jo (by have:=K.v20;omega)
 have:=K.hv
 have:=K.vr0
 omega
theorem Kn.ulo (K:Kn B top v2 vr u2 ur head U V P):head*B*P≤U∧U<(head+1)*B*P:=by
 have e:(head*B+u2)*P=head*B*P+u2*P:=jj1 _ _ _
 have e2:(head+1)*B*P=head*B*P+B*P:=by rw[jj1,jj2,jj1]
 have h1:0≤u2*P:=jjB K.u20 (by have:=K.hP;omega)
 have h2:(u2+1)*P≤B*P:=jjM (by have:=K.u2B;omega) (by have:=K.hP;omega)
 rw[jj1,jj2] at h2
 have:=K.hu
 have:=K.ur0
 have:=K.urP
 omega
theorem Kn.vlo (K:Kn B top v2 vr u2 ur head U V P):top*B*P≤V∧V<(top+1)*B*P:=by
 have e:(top*B+v2)*P=top*B*P+v2*P:=jj1 _ _ _
 have e2:(top+1)*B*P=top*B*P+B*P:=by rw[jj1,jj2,jj1]
 have h1:0≤v2*P:=jjB K.v20 (by have:=K.hP;omega)
 have h2:(v2+1)*P≤B*P:=jjM (by have:=K.v2B;omega) (by have:=K.hP;omega)
 rw[jj1,jj2] at h2
 have:=K.hv
 have:=K.vr0
 have:=K.vrP
 omega
theorem Kn.bp (K:Kn B top v2 vr u2 ur head U V P):0<B*P:=Int.mul_pos (by have:=K.hB;omega) (by have:=K.hP;omega)
theorem Kn.qlt (K:Kn B top v2 vr u2 ur head U V P){Q:Int}(h:Q*V≤U):Q<B:=
 Int.lt_of_mul_lt_mul_right (Int.lt_of_le_of_lt h K.lt) (Int.le_of_lt K.vpos)
theorem Kn.init (K:Kn B top v2 vr u2 ur head U V P){Q:Int}(hQ:0≤Q)(h:Q*V≤U):Q≤head/top:=by
 have ht:=K.ht
 refine(Int.le_ediv_iff_mul_le Jo).2 ?_
 rcases Int.lt_or_le head (Q*top) with hc|hc
 ·exfalso
  have h1:(head+1)*(B*P)≤Q*top*(B*P):=jjM Jo (Int.le_of_lt K.bp)
  have h2:Q*(top*B*P)≤Q*V:=jjU K.vlo.1 hQ
  have h3:=K.ulo.2
  have e1:(head+1)*(B*P)=(head+1)*B*P:=(jjT _ _ _).symm
  have e2:Q*top*(B*P)=Q*(top*B*P):=by simp only[jjT]
  omega
 ·exact hc
theorem Kn.step (K:Kn B top v2 vr u2 ur head U V P){Q q r:Int}(hQ:0≤Q)(h:Q*V≤U)(hq:Q≤q)(hr:head=q*top+r)(hc:B≤q∨r*B+u2<q*v2):Q≤q-1:=by
 rcases hc with hc|hc
 ·have:=K.qlt h
  omega
 ·have hq0:0≤q:=Jo
  have h1:head*B+u2+1≤q*(top*B+v2):=by
   rw[hr,jj1,jjR,jjT]
   omega
  have h2:(head*B+u2+1)*P≤q*(top*B+v2)*P:=jjM h1 (by have:=K.hP;omega)
  rw[jj1,jj2] at h2
  have h3:q*((top*B+v2)*P)≤q*V:=jjU (by have:=K.hv;have:=K.vr0;omega) hq0
  rw[← jjT] at h3
  have h4:Q*V<q*V:=by
   have:=K.hu
   have:=K.urP
   omega
  have:=Int.lt_of_mul_lt_mul_right h4 (Int.le_of_lt K.vpos)
  omega
theorem Kn.out1 (K:Kn B top v2 vr u2 ur head U V P){q r:Int}(hq0:0≤q)(hr:head=q*top+r)(h1:q<B)(h2:q*v2≤r*B+u2):(q-1)*V≤U:=by
 have h3:q*(top*B+v2)≤head*B+u2:=by
  rw[hr,jj1,jjR,jjT]
  omega
 have h4:q*(top*B+v2)*P≤(head*B+u2)*P:=jjM h3 (by have:=K.hP;omega)
 have e1:q*V=q*(top*B+v2)*P+q*vr:=by rw[K.hv,jjR,jjT]
 have h5:q*vr≤B*P:=by
  have h6:q*vr≤B*vr:=jjM Jo K.vr0
  have h7:B*vr≤B*P:=jjU (by have:=K.vrP;omega) (by have:=K.hB;omega)
  omega
 have h8:1*(B*P)≤top*(B*P):=jjM K.ht (Int.le_of_lt K.bp)
 have e2:top*(B*P)=top*B*P:=(jjT _ _ _).symm
 have h9:=K.vlo.1
 have:=K.hu
 have:=K.ur0
 rw[Int.sub_mul,jj2]
 omega
theorem Kn.out2 (K:Kn B top v2 vr u2 ur head U V P){q r:Int}(hq0:0≤q)(hr:head=q*top+r)(h1:B≤r):q<B∧(q-1)*V≤U:=by
 have hlo:=K.ulo
 have vlo:=K.vlo
 have hbp:=K.bp
 -- the head is at most top * B + B - 1
 have h2:head<(top+1)*B:=by
  rcases Int.lt_or_le head ((top+1)*B) with h|h
  ·exact h
  ·exfalso
   have h3:(top+1)*B*(B*P)≤head*(B*P):=jjM h (Int.le_of_lt hbp)
   have h4:B*V<B*((top+1)*B*P):=Int.mul_lt_mul_of_pos_left vlo.2 (by have:=K.hB;omega)
   have e1:(top+1)*B*(B*P)=B*((top+1)*B*P):=by ac_rfl
   have e2:head*(B*P)=head*B*P:=(jjT _ _ _).symm
   have:=K.lt
   omega
 rw[jj1,jj2] at h2
 have hqB:q<B:=by
  rcases Int.lt_or_le q B with h|h
  ·exact h
  ·exfalso
   have h3:B*top≤q*top:=jjM h (by have:=K.ht;omega)
   rw[jjS B top] at h3
   omega
 refine⟨hqB,?_⟩
 have h5:q*top≤head-B:=Jo
 have h6:q*top*(B*P)≤(head-B)*(B*P):=jjM h5 (Int.le_of_lt hbp)
 have h7:q*V≤q*((top+1)*B*P):=jjU (Int.le_of_lt vlo.2) hq0
 have h8:q*(B*P)≤B*(B*P):=jjM (Int.le_of_lt hqB) (Int.le_of_lt hbp)
 have e1:q*((top+1)*B*P)=q*top*(B*P)+q*(B*P):=by
  rw[jj1,jj2,jj1,jjR]
  simp only[jjT]
 rw[Int.sub_mul] at h6
 have e2:head*(B*P)=head*B*P:=(jjT _ _ _).symm
 have:=K.vpos
 rw[Int.sub_mul,jj2]
 omega
end
end Go.Nb
end
section
namespace Go.Proofs.YtbnghipgicmpdaaGreatDoor
open Go Go.V Go.Nb
theorem red_a {P W V q c b mid wlo un:Int}(hP:0<P)(hV0:0<V)(hVP:V≤P)(hW:W=wlo+un*P)(hmid:mid-(c+b)*P=wlo-q*V)(hm0:0≤mid)(hq:W/V≤q)(h:c+b≤un):q=W/V∧mid=W%V:=by
 have h1:=jjA W V
 have h2:=jjY W hV0
 have h3:W-q*V=mid+(un-(c+b))*P:=by rw[Int.sub_mul];omega
 have h4:0≤(q-W/V)*V:=jjB Jo Jo
 rw[Int.sub_mul,jjS (W/V)] at h4
 have h5:un-(c+b)=0:=by
  rcases Int.lt_or_le 0 (un-(c+b)) with h6|h6
  ·have h7:1*P≤(un-(c+b))*P:=jjM Jo Jo
   omega
  ·omega
 rw[h5,Int.zero_mul,jjZ] at h3
 have h8:q≤W/V:=(Int.le_ediv_iff_mul_le hV0).2 Jo
 have h9:q=W/V:=Jo
 refine⟨h9,?_⟩
 rw[h9,jjS] at h3
 omega
theorem red_b {P W V q c b mid mid2 over wlo un:Int}(hP:0<P)(hV0:0<V)(hVP:V≤P)(hW:W=wlo+un*P)(hmid:mid-(c+b)*P=wlo-q*V)(hm1:mid<P)(hq1:(q-1)*V≤W)(h:un<c+b)
  (h2:mid2+over*P=mid+V) (h20:0≤mid2) (h21:mid2<P):q-1=W/V∧mid2=W%V:=by
 have h1:=jjA W V
 have h3:=jjY W hV0
 have h30:=jjz W (by omega:V≠0)
 have h4:W-q*V=mid+(un-(c+b))*P:=by rw[Int.sub_mul];omega
 have h5:1*P≤(c+b-un)*P:=jjM Jo Jo
 have h6:(un-(c+b))*P = -((c+b-un)*P):=by rw[← Int.neg_mul];congr 1;omega
 have h7:q-1≤W/V:=(Int.le_ediv_iff_mul_le hV0).2 hq1
 have h8:W/V<q:=(Int.ediv_lt_iff_lt_mul hV0).2 Jo
 have h9:q-1=W/V:=Jo
 refine⟨h9,?_⟩
 have e1:W%V=mid2+(over+un-(c+b))*P:=by
  have e2:W%V=W-(q-1)*V:=by rw[h9,jjS];omega
  rw[e2,Int.sub_mul,jj2]
  have e3:(over+un-(c+b))*P=over*P+(un-(c+b))*P:=by rw[← jj1];congr 1;omega
  rw[e3];omega
 have e4:over+un-(c+b)=0:=by
  rcases Int.lt_trichotomy (over+un-(c+b)) 0 with g|g|g
  ·have:(over+un-(c+b))*P≤(-1)*P:=jjM Jo Jo
   omega
  ·exact g
  ·have:1*P≤(over+un-(c+b))*P:=jjM Jo Jo
   omega
 rw[e4,Int.zero_mul,jjZ] at e1
 exact e1.symm
theorem red_step {B:Nat}{mid ul vl:List Int}{c b u d r c' b' q:Int}{i:Nat}(hi:mid.length=i)(h:val B mid-(c+b)*(B:Int)^i=val B ul-q*val B vl)(hs:r-B*(c'+b')=u-q*d-(c+b)) :
  val B (mid++[r])-(c'+b')*(B:Int)^(i+1)=(val B ul+(B:Int)^i*u)-q*(val B vl+(B:Int)^i*d):=by
 rw[ja3,hi,Int.pow_succ,jjR]
 generalize (B:Int)^i=P at *
 have e1:P*(r-B*(c'+b'))=P*r-(c'+b')*(P*B):=by rw[Int.mul_sub];congr 1;ac_rfl
 have e2:P*(u-q*d-(c+b))=P*u-q*(P*d)-(c+b)*P:=by rw[Int.mul_sub,Int.mul_sub];congr 1;congr 1;ac_rfl;ac_rfl
 rw[hs,e2] at e1
 omega
theorem jgV {u A mid:List Int}{k:Nat}{r:Int}(hk:A.length+mid.length=k)(h:k<u.length):(A++mid++u.drop k).set k r=A++(mid++[r])++u.drop (k+1):=by
 have e:(A++mid).length=k:=by rw[jkd];exact hk
 rw[List.set_append_right _ _ Jo,e,Nat.sub_self,jks h,List.set_cons_zero]
 simp
theorem mid_get {u A mid:List Int}{k:Nat}(hk:A.length+mid.length=k):(A++mid++u.drop k).getD k 0=u.getD k 0:=by
 have e:(A++mid).length=k:=by rw[jkd];exact hk
 rw[jj8,jkp Jo,e,Nat.sub_self,List.getElem?_drop,jj8]
 rfl
theorem mid_drop {u A mid:List Int}{k:Nat}(hk:A.length+mid.length=k):(A++mid++u.drop k).drop k=u.drop k:=by
 have e:(A++mid).length=k:=by rw[jkd];exact hk
 rw[List.drop_append,e,Nat.sub_self,jkq Jo]
 simp
theorem getD_drop {u:List Int}{j i:Nat} : (u.drop j).getD i 0=u.getD (j+i) 0:=by
 rw[jj8,List.getElem?_drop,jj8]
theorem kn_of {B p j:Nat}{u v:List Int}{W V:Int}(hB:2≤B)(hu:Dg B u)(hv:Dg B v)(hlv:v.length=p+2)(hV:val B v=V)(hW:val B (u.drop j)=W)(hz:val B (u.drop (j+(p+2)+1))=0)(htop:1≤v.getD (p+1) 0)(hlt:W<B*V) :
  Kn B (v.getD (p+1) 0) (v.getD p 0) (val B (v.take p)) (u.getD (j+p) 0) (val B ((u.drop j).take p)) (u.getD (j+(p+2)) 0*B+u.getD (j+(p+1)) 0) W V ((B:Int)^p):=by
 have e1:V=(v.getD (p+1) 0*B+v.getD p 0)*(B:Int)^p+val B (v.take p):=by
  rw[← hV]
  conv=>lhs;rw[← jkz (l:=v),hlv,jaj,jaj]
  rw[Int.pow_succ]
  generalize (B:Int)^p=P
  rw[jj1]
  have e:v.getD (p+1) 0*B*P=P*B*v.getD (p+1) 0:=by ac_rfl
  have e':v.getD p 0*P=P*v.getD p 0:=jjS _ _
  omega
 have e2:W=((u.getD (j+(p+2)) 0*B+u.getD (j+(p+1)) 0)*B+u.getD (j+p) 0)*(B:Int)^p+val B ((u.drop j).take p):=by
  have h1:val B (u.drop j)=val B ((u.drop j).take p)+(B:Int)^p*val B (u.drop (j+p)):=by
   rcases Nat.le_total p (u.drop j).length with h|h
   ·rw[jbY B (u.drop j) p h,List.drop_drop]
   ·have hz2:u.drop (j+p)=[]:=List.drop_eq_nil_of_le (by rw[jkt] at h;omega)
    rw[jko h,hz2];simp[val]
  rw[← hW,h1,jbg B u (j+p),jbg B u (j+p+1),jbg B u (j+p+1+1)]
  rw[show j+p+1+1+1=j+(p+2)+1 by omega,hz,show j+p+1+1=j+(p+2) by omega,show j+p+1=j+(p+1) by omega]
  rw[Int.mul_zero,jjZ]
  generalize (B:Int)^p=P
  rw[Int.add_comm,jjS P]
  congr 2
  rw[jjS (B:Int),jjS (B:Int),Int.add_comm,Int.add_comm (u.getD (j+(p+1)) 0)]
 have b1:=jan Jo hv (p+1)
 have b2:=jan Jo hv p
 have b3:=jan Jo hu (j+p)
 have b4:=jan Jo hu (j+(p+1))
 have b5:=jan Jo hu (j+(p+2))
 have l1:=jct hB hv p
 have l2:=jct hB (jbp hu j) p
 have l3:=jao (jbB hv p)
 have l4:=jao (jbB (jbp hu j) p)
 have l5:=jdL hB p
 have l6:0≤u.getD (j+(p+2)) 0*(B:Int):=jjB b5.1 Jo
 exact { hB:=Jo,hP:=Jo,ht:=htop,hv:=e1,hu:=e2,v20:=b2.1,v2B:=b2.2,u20:=b3.1,u2B:=b3.2,vr0:=l3,vrP:=l1,ur0:=l4,urP:=l2,hh:=Jo,htB:=b1.2,lt:=hlt }
theorem div_inv {B p j:Nat}{u q mid:List Int}{Qd W VV M:Int}(hB:2≤B)(hj:j<q.length)(hju:j+(p+2)<u.length)(hmid:mid.length=p+2)(hdu:Dg B u)(hdm:Dg B mid)(h6:val B (u.drop (j+(p+2)+1))=0)
  (hW:val B (u.drop j)=W) (hV0:0<VV) (hm:val B mid=W%VV) (hQ:Qd=W/VV) (h8:M=val B (q.drop (j+1))*(B:Int)^(j+1)*VV+val B u) :
  (u.take j++(mid++[0])++u.drop (j+(p+2)+1)).length=u.length∧Dg B (u.take j++(mid++[0])++u.drop (j+(p+2)+1))∧val B ((u.take j++(mid++[0])++u.drop (j+(p+2)+1)).drop (j+(p+2)))=0 ∧
  val B ((u.take j++(mid++[0])++u.drop (j+(p+2)+1)).drop j)<VV∧M=val B ((q.set j Qd).drop j)*(B:Int)^j*VV+val B (u.take j++(mid++[0])++u.drop (j+(p+2)+1)):=by
 have hA:(u.take j).length=j:=by rw[jke];omega
 have hl:(u.take j++(mid++[0])++u.drop (j+(p+2)+1)).length=u.length:=by
  simp only[jkd,jke,jkt,List.length_singleton,hmid];omega
 have hd:Dg B (u.take j++(mid++[0])++u.drop (j+(p+2)+1)):=jai (jai (jbB hdu _) (jai hdm (jaA Jo))) (jbp hdu _)
 have hz:∀ P:Int,val B (mid++[0]++u.drop (j+(p+2)+1))=val B mid:=fun _=>by
  rw[jbT,h6,Int.mul_zero,jjZ,ja3,Int.mul_zero,jjZ]
 have e1:(u.take j++(mid++[0])++u.drop (j+(p+2)+1)).drop j=mid++[0]++u.drop (j+(p+2)+1):=by
  rw[jkf,List.drop_append,hA,Nat.sub_self,jkq Jo];rfl
 have e2:(u.take j++(mid++[0])++u.drop (j+(p+2)+1)).drop (j+(p+2))=[0]++u.drop (j+(p+2)+1):=by
  rw[← List.drop_drop,e1,jkf,List.drop_append,hmid,Nat.sub_self,jkq Jo];rfl
 have hr:=jjY W hV0
 refine⟨hl,hd,?_,?_,?_⟩
 ·rw[e2,jbT,h6];simp[val]
 ·rw[e1,hz 0,hm];exact hr
 ·have v1:=jbY B u j Jo
  rw[hW] at v1
  have v2:val B (u.take j++(mid++[0])++u.drop (j+(p+2)+1))=val B (u.take j)+(B:Int)^j*(W%VV):=by
   rw[jkf,jbT,hA,hz 0,hm]
  have v3:=jbP (B:=B) (l:=q.set j Qd) (k:=j) (by rw[jkw];exact hj)
  rw[jfu hj,jfy (l:=q) (i:=j) (k:=j+1) Jo] at v3
  rw[h8,v2,v3,v1,hQ,Int.pow_succ]
  have v4:=jjA W VV
  generalize W/VV=Q at *
  generalize W%VV=R at *
  generalize (B:Int)^j=P
  generalize val B (q.drop (j+1))=q1
  rw[← v4,jjR,jj1,jj1]
  have w1:q1*(P*(B:Int))*VV=(B:Int)*q1*P*VV:=by ac_rfl
  have w2:P*(VV*Q)=Q*P*VV:=by ac_rfl
  rw[w1,w2]
  omega
theorem jiz (a b:Nat)(h:a<b)(ha:(mg 1000000000 a).length≤100000000)(hb:(mg 1000000000 b).length≤100000000):Cl 187 [.ints .u32 (mg 1000000000 a),.ints .u32 (mg 1000000000 b)] (.tup [.ints .u32 (mg 1000000000 (a/b)),.ints .u32 (mg 1000000000 (a%b))]):=by
 have hc:=jcq a b ha hb
 rw[jj4 Jo] at hc
 rw[Nat.div_eq_of_lt h,jjL h,jcB]
 refine V.en tbOk Tryz.func187 ?_
 refine V.u1 hc ?_
 exact Fin.tup ⟨Fin.nil _,Fin.of rfl,trivial⟩
theorem divide_one (a b:Nat)(h:b≤a)(hb:0<b)(hb1:b<1000000000)(ha:(mg 1000000000 a).length≤100000000):Cl 187 [.ints .u32 (mg 1000000000 a),.ints .u32 (mg 1000000000 b)] (.tup [.ints .u32 (mg 1000000000 (a/b)),.ints .u32 (mg 1000000000 (a%b))]):=by
 have hc:=jcq a b ha (by have:=jah (B:=1000000000) Jo h;omega)
 have hmb:mg 1000000000 b=[(b:Int)]:=by
  rw[jcn Jo hb,jjL hb1,Nat.div_eq_of_lt hb1];rfl
 have hs0:0≤((a:Int)-b).sign:=Int.sign_nonneg_iff.2 Jo
 generalize ((a:Int)-b).sign=sg at *
 have hsh:=short_c a b ha hb Jo
 have hlt:a%b<b:=jjJ _ hb
 have hfs:=jdt (a%b) Jo
 rw[hmb] at hc ⊢
 refine V.en tbOk Tryz.func187 ?_
 refine V.u1 hc ?_
 refine Cnd.no (by rw[decide_eq_false_iff_not];omega) ?_
 (conv=>whnf)
 refine V.st ?_
 refine Cnd.yes Js ?_
 refine V.u2 hsh hfs ?_
 exact Fin.of rfl
theorem jiU:type_of% @jjF∧type_of% @jjC:=⟨@jjF,@jjC⟩
theorem jiy (a b:Nat)(h:b≤a)(hb1:1000000000≤b)(ha:(mg 1000000000 a).length≤90000000):Cl 187 [.ints .u32 (mg 1000000000 a),.ints .u32 (mg 1000000000 b)] (.tup [.ints .u32 (mg 1000000000 (a/b)),.ints .u32 (mg 1000000000 (a%b))]):=by
 have hlen:=jah (B:=1000000000) Jo h
 have hc:=jcq a b Jo Jo
 have hs0:0≤((a:Int)-b).sign:=Int.sign_nonneg_iff.2 Jo
 generalize ((a:Int)-b).sign=sg at *
 obtain⟨p,hp⟩:∃ p,(mg 1000000000 b).length=p+2:=by
  have:=jah (B:=1000000000) Jo hb1
  have e:mg 1000000000 1000000000=[0,1]:=by rfl
  rw[e] at this
  exact⟨(mg 1000000000 b).length-2,by simp at this;omega⟩
 -- the scale
 have hdb:=mg_dg (B:=1000000000) Jo b
 have hvb:=jaJ (B:=1000000000) Jo b
 have hlb:=jef (B:=1000000000) (n:=b) Jo
 have hlt1:=jaN (B:=1000000000) (n:=a) Jo
 have ht0:=jan Jo hdb (p+1)
 have ht1:(mg 1000000000 b).getD (p+1) 0≠0:=by
  refine hlb _ ?_
  rw[List.getLast?_eq_getElem?,hp,jj8,show p+2-1=p+1 by omega,jkb Jo];rfl
 generalize hts:(mg 1000000000 b).getD (p+1) 0=t at *
 obtain⟨t,rfl⟩:∃ t':Nat,t=t':=⟨t.toNat,Jo⟩
 obtain⟨s,hs⟩:∃ s:Nat,1000000000/((t:Int)+1)=s:=⟨(1000000000/((t:Int)+1)).toNat,by have:=jjy (a:=1000000000) (b:=(t:Int)+1) Jo Jo;omega⟩
 have hs1:1≤s∧s<1000000000∧s*(t+1)≤1000000000:=by
  have e1:s=1000000000/(t+1):=by
   have:((1000000000/(t+1):Nat):Int)=1000000000/((t:Int)+1):=by rw[Int.natCast_ediv];rfl
   omega
  refine⟨?_,?_,?_⟩
  ·rw[e1];exact(Nat.le_div_iff_mul_le Jo).2 Jo
  ·rw[e1];exact Nat.div_lt_of_lt_mul Jo
  ·rw[e1];exact Nat.div_mul_le_self _ _
 have hms:mg 1000000000 s=[(s:Int)]:=by
  rw[jcn Jo Jo,jjL Jo,Nat.div_eq_of_lt Jo];rfl
 have htm1:=jcL b s Jo (by rw[hms];simp)
 have htm2:=jcL a s Jo (by rw[hms];simp)
 rw[hms] at htm1 htm2
 -- the divisor, scaled
 have hbt:b<(t+1)*1000000000^(p+1)∧t*1000000000^(p+1)≤b:=by
  have h1:=jdy (B:=1000000000) Jo hdb (p+1)
  rw[jbg,hts,List.drop_eq_nil_of_le Jo,hvb] at h1
  simp only[val,Int.mul_zero,jjZ] at h1
  have e:((1000000000:Nat):Int)^(p+1)=((1000000000^(p+1):Nat):Int):=by rw[jj0]
  rw[e] at h1
  have e1:((t:Int)+1)=((t+1:Nat):Int):=Jo
  rw[e1,← jjQ,← jjQ] at h1
  omega
 have hPp:0<1000000000^(p+1):=Nat.pow_pos Jo
 have hVlt:b*s<1000000000^(p+2):=by
  have h1:b*s<(t+1)*1000000000^(p+1)*s:=Nat.mul_lt_mul_of_pos_right hbt.1 Jo
  have h2:s*(t+1)*1000000000^(p+1)≤1000000000*1000000000^(p+1):=Nat.mul_le_mul_right _ hs1.2.2
  have e1:(t+1)*1000000000^(p+1)*s=s*(t+1)*1000000000^(p+1):=by ac_rfl
  rw[Nat.pow_succ 1000000000 (p+1),jjK (1000000000^(p+1))]
  omega
 have hVge:s*1000000000^(p+1)≤b*s:=by
  have h1:1*1000000000^(p+1)≤t*1000000000^(p+1):=Nat.mul_le_mul_right _ Jo
  rw[jjK b]
  exact Nat.mul_le_mul_left _ Jo
 have hVl:(mg 1000000000 (b*s)).length=p+2:=by
  have h1:=jax (B:=1000000000) (n:=b*s) (k:=p+2) Jo hVlt
  rcases jjO (mg 1000000000 (b*s)).length (p+2) with h2|h2
  ·have h3:=jaN (B:=1000000000) (n:=b*s) Jo
   have h4:1000000000^(mg 1000000000 (b*s)).length≤1000000000^(p+1):=jjW Jo Jo
   have h5:1*1000000000^(p+1)≤s*1000000000^(p+1):=Nat.mul_le_mul_right _ hs1.1
   omega
  ·omega
 have hdV:=mg_dg (B:=1000000000) Jo (b*s)
 have hvV:=jaJ (B:=1000000000) Jo (b*s)
 have hlV:=jef (B:=1000000000) (n:=b*s) Jo
 have htV:(mg 1000000000 (b*s)).getD (p+1) 0≠0:=by
  refine hlV _ ?_
  rw[List.getLast?_eq_getElem?,hVl,jj8,show p+2-1=p+1 by omega,jkb Jo];rfl
 have hM:(mg 1000000000 (a*s)).length≤(mg 1000000000 a).length+1:=by
  have:=jbV (B:=1000000000) Jo a s
  rw[hms] at this
  simpa using this
 have hdM:=mg_dg (B:=1000000000) Jo (a*s)
 have hvM:=jaJ (B:=1000000000) Jo (a*s)
 have hMlt:a*s<s*1000000000^(mg 1000000000 a).length:=by
  rw[jjK];exact Nat.mul_lt_mul_of_pos_left hlt1 Jo
 generalize hmb:mg 1000000000 b=bs at *
 generalize hma:mg 1000000000 a=xs at *
 generalize hmV:mg 1000000000 (b*s)=vs at *
 generalize hmM:mg 1000000000 (a*s)=ms at *
 have e1:((bs.length:Int)-1).toNat=p+1:=Jo
 obtain⟨N,hN⟩:∃ N,N=xs.length+1:=⟨_,rfl⟩
 obtain⟨L,hL⟩:∃ L,L=xs.length-vs.length:=⟨_,rfl⟩
 obtain⟨L1,hL1⟩:∃ L1,L1=L+1:=⟨_,rfl⟩
 have e2:(xs.length:Int)+1=(N:Int):=Jo
 have e3:(xs.length:Int)-((p+2:Nat):Int)=(L:Int):=Jo
 have e4:(L:Int)+1=(L1:Int):=Jo
 refine V.en tbOk Tryz.func187 ?_
 refine V.u1 hc ?_
 refine Cnd.no (by rw[decide_eq_false_iff_not];omega) ?_
 (conv=>whnf)
 refine V.st ?_
 refine Cnd.no (by rw[decide_eq_false_iff_not];omega) ?_
 (conv=>whnf)
 (try simp only[e1,e2,e3,e4,hts,hs,hVl,jjF])
 repeat ((first|refine V.s1 ?_|((try ((with_reducible refine .ext ?_);(conv=>whnf);(try simp only[e1,e2,e3,e4,hts,hs,hVl,jjF])));(with_reducible refine jaa (r:=?_) ?_ ?_);rotate_left;(focus (first|exact(htm1)|exact(htm2)));(conv=>whnf)));(try simp only[e1,e2,e3,e4,hts,hs,hVl,jjF]))
 have hu0:setAt (List.replicate N 0) 0 (List.take N ms)=ms++List.replicate (N-ms.length) 0:=by
  unfold setAt
  rw[List.take_zero,jkk,jko (l:=ms) Jo,jjC,List.drop_replicate]
 have hu0v:val 1000000000 (ms++List.replicate (N-ms.length) 0)=(a*s:Nat):=by
  rw[jbT,jeW,Int.mul_zero,jjZ,hvM]
 simp only[hu0]
 refine jad ((L1,ms++List.replicate (N-ms.length) 0,List.replicate L1 0):Nat×List Int×List Int) (fun x=>x.1≤L1∧x.2.1.length=N∧Dg 1000000000 x.2.1∧x.2.2.length=L1∧Dg 1000000000 x.2.2∧val 1000000000 (x.2.1.drop (x.1+(p+2)))=0∧val 1000000000 (x.2.1.drop x.1)<(b*s:Nat)∧((a*s:Nat):Int)=val 1000000000 (x.2.2.drop x.1)*((1000000000:Nat):Int)^x.1*(b*s:Nat)+val 1000000000 x.2.1) (fun x=>x.1)
  (fun x=>[(12,Ji ((x.1:Int)-1)),(4,.osl 62 0 L1),(10,.osl 48 0 N)]) (fun x=>[(62,.arr .u32 x.2.2),(48,.arr .u32 x.2.1)]) ?_ ?_ ?_
 ·rw[show ((L1:Int)-1)=(L:Int) by omega]
  exact V.wk
 ·refine⟨jjG _,by simp;omega,jai hdM (jcc Jo _),Js,jcc Jo _,?_,?_,?_⟩
  ·dsimp only
   rw[jkq (by simp;omega)];rfl
  ·dsimp only
   have h1:=jdy (B:=1000000000) Jo (jai hdM (jcc Jo (N-ms.length))) L1
   rw[hu0v] at h1
   generalize val 1000000000 ((ms++List.replicate (N-ms.length) 0).drop L1)=z at *
   have h2:((1000000000:Nat):Int)^L1=((1000000000^L1:Nat):Int):=by rw[jj0]
   have h3:0<1000000000^L1:=Nat.pow_pos Jo
   have h4:a*s<(s*1000000000^(p+1))*1000000000^L1:=by
    rw[Nat.mul_assoc,← Nat.pow_add,show p+1+L1=xs.length by omega];exact hMlt
   have h5:(s*1000000000^(p+1))*1000000000^L1≤(b*s)*1000000000^L1:=Nat.mul_le_mul_right _ hVge
   rw[h2] at h1
   refine Int.lt_of_mul_lt_mul_right (a:=((1000000000^L1:Nat):Int)) ?_ Jo
   rw[← jjQ]
   omega
  ·dsimp only
   rw[jkq Js,hu0v];simp[val]
 rintro⟨k,u,q⟩ ⟨h1,h2,h3,h4,h5,h6,h7,h8⟩
 dsimp only at h1 h2 h3 h4 h5 h6 h7 h8 ⊢
 (conv=>whnf)
 refine V.st ?_
 refine V.br (fun hq=>?_) (fun hq=>?_)
 ·rw[decide_eq_true_eq] at hq
  obtain⟨j,rfl⟩:∃ j,k=j+1:=⟨k-1,Jo⟩
  have f1:(((j+1:Nat):Int)-1)=(j:Int):=Jo
  have f2:(j:Int)+((p+2:Nat):Int)=((j+(p+2):Nat):Int):=Jo
  have f4:((j+(p+2):Nat):Int)+1=((j+(p+3):Nat):Int):=Jo
  have f5:j+(p+3)-j=p+3:=Jo
  have f6:((p+2:Nat):Int)-1=((p+1:Nat):Int):=Jo
  have f7:((p+2:Nat):Int)-2=((p:Nat):Int):=Jo
  -- what is looked at
  obtain⟨W,hW⟩:∃ W,val 1000000000 (u.drop j)=W:=⟨_,rfl⟩
  obtain⟨VV,hVV⟩:∃ VV:Int,((b*s:Nat):Int)=VV:=⟨_,rfl⟩
  rw[hVV] at h7 h8 hvV
  have bv1:=jan Jo hdV (p+1)
  have bu:=jan Jo h3 j
  have hWlt:W<1000000000*VV:=by
   rw[jbg] at hW;omega
  have hkn:=kn_of (B:=1000000000) (p:=p) (j:=j) (u:=u) (v:=vs) (W:=W) (V:=VV) Jo h3 hdV hVl hvV hW (by rw[show j+(p+2)+1=j+1+(p+2) by omega];exact h6) Jo hWlt
  have hVpos:=hkn.vpos
  have hW0:0≤W:=by rw[← hW];exact jao (jbp h3 j)
  have b1:=jan Jo h3 (j+(p+2))
  have b2:=jan Jo h3 (j+(p+1))
  have b3:=jan Jo h3 (j+p)
  have b4:=jan Jo hdV p
  generalize hg1:u.getD (j+(p+2)) 0=un at *
  generalize hg2:u.getD (j+(p+1)) 0=u1 at *
  generalize hg3:u.getD (j+p) 0=u0 at *
  generalize hg4:vs.getD (p+1) 0=vt at *
  generalize hg5:vs.getD p 0=v2 at *
  refine V.r0 (V.a7 jiU f1 f2 f4 f5 f6 f7) ?_
  refine V.il Tryz.func220 ?_
  (conv=>whnf)
  (conv=>whnf)
  (try simp only[jiU,f1,f2,f4,f5,f6,f7,hVl,hg4])
  repeat ((first|refine V.s1 ?_);(try simp only[jiU,f1,f2,f4,f5,f6,f7,hVl,hg4]))
  refine⟨(V.tk [0,1,2,3,4,5,6,7,8,9,10,11,12,13] .done),[],V.pok,.go (jac ?_)⟩
  (conv=>whnf)
  (try simp only[jiU,f1,f2,f4,f5,f6,f7,hVl,hg1,hg2])
  repeat ((first|refine V.s1 ?_);(try simp only[jiU,f1,f2,f4,f5,f6,f7,hVl,hg1,hg2]))
  refine⟨(V.tk [0,1,2,3,4,5,6,7] .done),[],V.pok,.go (jac ?_)⟩
  (conv=>whnf)
  (try simp only[jiU,f1,f2,f4,f5,f6,f7,hVl,hg1,hg2])
  repeat ((first|refine V.s1 ?_);(try simp only[jiU,f1,f2,f4,f5,f6,f7,hVl,hg1,hg2]))
  have hkn':Kn 1000000000 vt v2 (val 1000000000 (vs.take p)) u0 (val 1000000000 ((u.drop j).take p)) (un*1000000000+u1) W VV (((1000000000:Nat):Int)^p):=hkn
  have hQ0:0≤W/VV:=jjy hW0 Jo
  have hQm:W/VV*VV≤W:=Int.ediv_mul_le _ Jo
  have hQi:=hkn'.init hQ0 hQm
  have hhd:0≤un*1000000000+u1∧un*1000000000+u1<1000000000000000000:=Jo
  generalize hHD:un*1000000000+u1=HD at *
  refine jbn (β:=Int×Int) 0 (fun y=>0≤y.1∧y.1<1000000000∧(y.1-1)*VV≤W∧W/VV≤y.1) (fun y=>[(8,.int .u64 y.1),(9,.int .u64 y.2)]) (fun _=>[]) ?_ ?_
  ·refine jad ((HD/vt,HD%vt):Int×Int) (fun y=>HD=y.1*vt+y.2∧(0≤y.2∧y.2<1000000000)∧W/VV≤y.1) (fun y=>y.1.toNat) (fun y=>[(8,.int .u64 y.1),(9,.int .u64 y.2)]) (fun _=>[]) ?_ ?_ ?_
   ·exact V.wk
   ·have hvtp:(0:Int)<vt:=Jo
    refine⟨by dsimp only;have:=jjA HD vt;rw[jjS];omega,⟨jjz _ Jo,?_⟩,hQi⟩
    have:=jjY HD hvtp
    dsimp only;omega
   rintro⟨qq,r⟩ ⟨i1,i2,i3⟩
   dsimp only at i1 i2 i3 ⊢
   have hqv:qq<1000000000→0≤qq*v2∧qq*v2≤999999999*999999999:=fun h=>⟨jjB Jo Jo,Int.mul_le_mul Jo Jo Jo Jo⟩
   refine V.r0 (V.a8 jiU f1 f2 f4 f5 f6 f7 hVl) ?_
   refine⟨(V.tk [0,1,2,3,4,5,6,7,8,9,10,11,12,13,14,15,16,17,18,19,20,21] .done),[],V.pok,.go (jac ?_)⟩
   (conv=>whnf)
   (try simp only[jiU,f1,f2,f4,f5,f6,f7,hVl,hg5,hg3])
   repeat ((first|refine V.s1 ?_);(try simp only[jiU,f1,f2,f4,f5,f6,f7,hVl,hg5,hg3]))
   refine Or.inl (And.intro (fun h _ _=>?_) ?_)
   ·have h9:=hqv (by simpa using h)
    exact⟨by simp only[V.lo];omega,by simp only[V.hi];omega⟩
   (conv=>whnf)
   (try simp only[jiU,f1,f2,f4,f5,f6,f7,hVl,hg5,hg3])
   repeat ((first|refine V.s1 ?_);(try simp only[jiU,f1,f2,f4,f5,f6,f7,hVl,hg5,hg3]))
   refine V.br (fun hq5=>?_) (fun hq5=>?_)
   ·rw[Bool.or_eq_true,decide_eq_true_eq,decide_eq_true_eq] at hq5
    have hst:=hkn'.step hQ0 hQm i3 i1 Jo
    have hqpos:1≤qq:=Jo
    have hrec:HD=(qq-1)*vt+(r+vt):=by rw[Int.sub_mul,jj2];omega
    refine V.r0 (V.a8 jiU f1 f2 f4 f5 f6 f7 hVl) ?_
    refine V.br (fun hq6=>?_) (fun hq6=>?_)
    ·rw[decide_eq_true_eq] at hq6
     have ho:=hkn'.out2 (q:=qq-1) (r:=r+vt) Jo hrec hq6
     refine V.r0 (V.a8 jiU f1 f2 f4 f5 f6 f7 hVl) ?_
     exact⟨(qq-1,r+vt),⟨by dsimp only;omega,ho.1,ho.2,hst⟩,V.wk⟩
    ·rw[decide_eq_false_iff_not] at hq6
     refine V.r0 (V.a8 jiU f1 f2 f4 f5 f6 f7 hVl) ?_
     exact⟨(qq-1,r+vt),⟨hrec,by dsimp only;omega,hst⟩,by dsimp only;omega,V.wk⟩
   ·rw[jjP,decide_eq_false_iff_not,decide_eq_false_iff_not] at hq5
    have ho:=hkn'.out1 (q:=qq) (r:=r) Jo i1 Jo Jo
    refine V.r0 (V.a8 jiU f1 f2 f4 f5 f6 f7 hVl) ?_
    exact⟨(qq,r),⟨by dsimp only;omega,by dsimp only;omega,ho,i3⟩,V.wk⟩
  ·rintro⟨qq,r⟩ ⟨i1,i2,i3,i4⟩
   dsimp only at i1 i2 i3 i4 ⊢
   refine V.r0 (V.a8 jiU f1 f2 f4 f5 f6 f7 hVl) ?_
   have hAl:(u.take j).length=j:=by rw[jke];omega
   have hnl:u.take j++[]++u.drop (j+0)=u:=by rw[List.append_nil,jjD,List.take_append_drop]
   refine jad ((0,[],0,0):Nat×List Int×Int×Int) (fun y=>y.1≤p+2∧y.2.1.length=y.1∧Dg 1000000000 y.2.1∧(0≤y.2.2.1∧y.2.2.1<1000000000)∧(0≤y.2.2.2∧y.2.2.2≤1)∧val 1000000000 y.2.1-(y.2.2.1+y.2.2.2)*((1000000000:Nat):Int)^y.1=val 1000000000 ((u.drop j).take y.1)-qq*val 1000000000 (vs.take y.1)) (fun y=>p+2-y.1)
    (fun y=>[(77,Ji y.1),(10,.int .u64 y.2.2.1),(11,Ji y.2.2.2)]) (fun y=>[(48,.arr .u32 (u.take j++y.2.1++u.drop (j+y.1)))]) ?_ ?_ ?_
   ·rw[hnl]
    exact V.wk
   ·exact⟨jjx _,rfl,fun x hx=>by simp at hx,Js,Js,by simp[val]⟩
   rintro⟨i,mid,c,bw⟩ ⟨g1,g2,g3,g4,g5,g6⟩
   dsimp only at g1 g2 g3 g4 g5 g6 ⊢
   have hvu:=jaj 1000000000 (u.drop j) i
   have hvv:=jaj 1000000000 vs i
   rw[getD_drop] at hvu
   have bd:=jan Jo hdV i
   have bui:=jan Jo h3 (j+i)
   have hcl:(u.take j++mid++u.drop (j+i)).length=N:=by
    rw[jkd,jkd,hAl,g2,jkt];omega
   have hcg:=mid_get (u:=u) (A:=u.take j) (mid:=mid) (k:=j+i) Jo
   refine V.r0 (V.a8 jiU f1 f2 f4 f5 f6 f7 hVl) ?_
   refine V.br (fun hw=>?_) (fun hw=>?_)
   ·rw[decide_eq_true_eq] at hw
    have hms2:=fun r=>jgV (u:=u) (A:=u.take j) (mid:=mid) (k:=j+i) (r:=r) Jo Jo
    generalize hd0:vs.getD i 0=d at *
    generalize hui:u.getD (j+i) 0=ui at *
    have hqd:0≤qq*d∧qq*d≤999999999*999999999:=⟨jjB Jo Jo,Int.mul_le_mul Jo Jo Jo Jo⟩
    have hki:((i:Int)+1)=((i+1:Nat):Int):=Jo
    have hai:j+i+1=j+(i+1):=Jo
    generalize hqd0:qq*d=qd at *
    (conv=>whnf)
    (try simp only[jiU,f1,f2,f4,f5,f6,f7,hVl,hd0,hcg,hki,hqd0])
    repeat ((first|refine V.s1 ?_);(try simp only[jiU,f1,f2,f4,f5,f6,f7,hVl,hd0,hcg,hki,hqd0]))
    refine V.br (fun hneg=>?_) (fun hneg=>?_)
    ·rw[decide_eq_true_eq] at hneg
     have hst:=red_step (B:=1000000000) (q:=qq) (d:=d) (u:=ui) (r:=ui-bw-(c+qd)%1000000000+1000000000) (c':=(c+qd)/1000000000) (b':=1) g2 g6 (by rw[hqd0];have:=jjA (c+qd) 1000000000;omega)
     rw[← hvu,← hvv] at hst
     (conv=>whnf)
     (try simp only[jiU,f1,f2,f4,f5,f6,f7,hVl,hd0,hcg,hki,hms2,hai])
     repeat ((first|refine V.s1 ?_);(try simp only[jiU,f1,f2,f4,f5,f6,f7,hVl,hd0,hcg,hki,hms2,hai]))
     exact⟨(i+1,mid++[ui-bw-(c+qd)%1000000000+1000000000],(c+qd)/1000000000,1),⟨by dsimp only;omega,by simp[g2],jai g3 (jaA Jo),by dsimp only;omega,Js,hst⟩,by dsimp only;omega,V.wk⟩
    ·rw[decide_eq_false_iff_not] at hneg
     have hst:=red_step (B:=1000000000) (q:=qq) (d:=d) (u:=ui) (r:=ui-bw-(c+qd)%1000000000) (c':=(c+qd)/1000000000) (b':=0) g2 g6 (by rw[hqd0];have:=jjA (c+qd) 1000000000;omega)
     rw[← hvu,← hvv] at hst
     (conv=>whnf)
     (try simp only[jiU,f1,f2,f4,f5,f6,f7,hVl,hd0,hcg,hki,hms2,hai])
     repeat ((first|refine V.s1 ?_);(try simp only[jiU,f1,f2,f4,f5,f6,f7,hVl,hd0,hcg,hki,hms2,hai]))
     exact⟨(i+1,mid++[ui-bw-(c+qd)%1000000000],(c+qd)/1000000000,0),⟨by dsimp only;omega,by simp[g2],jai g3 (jaA Jo),by dsimp only;omega,Js,hst⟩,by dsimp only;omega,V.wk⟩
   ·rw[decide_eq_false_iff_not] at hw
    obtain rfl:i=p+2:=Jo
    rw[hg1] at hcg
    (conv=>whnf)
    (try simp only[jiU,f1,f2,f4,f5,f6,f7,hVl,hcg])
    repeat ((first|refine V.s1 ?_);(try simp only[jiU,f1,f2,f4,f5,f6,f7,hVl,hcg]))
    have h6':val 1000000000 (u.drop (j+(p+2)+1))=0:=by rw[show j+(p+2)+1=j+1+(p+2) by omega];exact h6
    have hWs:W=val 1000000000 ((u.drop j).take (p+2))+un*((1000000000:Nat):Int)^(p+2):=by
     have k1:=jbY 1000000000 (u.drop j) (p+2) (by rw[jkt];omega)
     rw[hW,List.drop_drop,jbg 1000000000 u (j+(p+2)),h6',hg1,Int.mul_zero,jjZ,jjS] at k1
     exact k1
    have hvsV:val 1000000000 (vs.take (p+2))=VV:=by rw[← hVl,jkz,hvV]
    rw[hvsV] at g6
    have hPn:(0:Int)<((1000000000:Nat):Int)^(p+2):=jdL Jo _
    have hVP:VV≤((1000000000:Nat):Int)^(p+2):=by
     have k1:((b*s:Nat):Int)<((1000000000^(p+2):Nat):Int):=by exact_mod_cast hVlt
     rw[jj0] at k1
     omega
    have hm0:=jao g3
    have hm1:=jcj g3
    rw[g2] at hm1
    have hsetz:=jgV (u:=u) (A:=u.take j) (mid:=mid) (k:=j+(p+2)) (r:=0) Jo Jo
    refine V.br (fun hc2=>?_) (fun hc2=>?_)
    ·rw[decide_eq_true_eq] at hc2
     have hq1:1≤qq:=by
      rcases Int.lt_or_le qq 1 with k0|k0
      ·obtain rfl:qq=0:=Jo
       exfalso
       rw[Int.zero_mul,Int.sub_zero] at g6
       have k3:0≤val 1000000000 ((u.drop j).take (p+2)):=jao (jbB (jbp h3 j) _)
       rcases Int.lt_or_le 0 (c+bw) with k4|k4
       ·have k5:1*((1000000000:Nat):Int)^(p+2)≤(c+bw)*((1000000000:Nat):Int)^(p+2):=jjM Jo Jo
        omega
       ·omega
      ·exact k0
     have hml:(u.take j++mid++u.drop (j+(p+2))).length=N:=by
      rw[jkd,jkd,hAl,g2,jkt];omega
     obtain⟨w,hw1⟩:∃ w,w=u.take j++mid++u.drop (j+(p+2)):=⟨_,rfl⟩
     have hwd:w.drop (j+(p+2))=u.drop (j+(p+2)):=by rw[hw1];exact mid_drop Jo
     have hwg:∀ i,i<p+2→w.getD (j+i) 0=mid.getD i 0:=fun i hi=>by
      rw[hw1,jkf,jj8,jkp Jo,hAl,Nat.add_sub_cancel_left,jkg Jo,jj8]
     have hnl2:u.take j++[]++w.drop (j+0)=w:=by
      have:u.take j=w.take j:=by rw[hw1,jkf,jkl Jo,List.take_take,Nat.min_self]
      rw[this,List.append_nil,jjD,List.take_append_drop]
     rw[← hw1] at hml
     simp only[← hw1]
     refine V.r0 (V.a8 jiU f1 f2 f4 f5 f6 f7 hVl) ?_
     refine jad ((0,[],0):Nat×List Int×Int) (fun y=>y.1≤p+2∧y.2.1.length=y.1∧Dg 1000000000 y.2.1∧(0≤y.2.2∧y.2.2≤1)∧val 1000000000 y.2.1+y.2.2*((1000000000:Nat):Int)^y.1=val 1000000000 (mid.take y.1)+val 1000000000 (vs.take y.1)) (fun y=>p+2-y.1)
      (fun y=>[(125,Ji y.1),(15,.int .u32 y.2.2)]) (fun y=>[(48,.arr .u32 (u.take j++y.2.1++w.drop (j+y.1)))]) ?_ ?_ ?_
     ·rw[hnl2]
      exact V.wk
     ·exact⟨jjx _,rfl,fun x hx=>by simp at hx,Js,by simp[val]⟩
     rintro⟨i,m2,ov⟩ ⟨k1,k2,k3,k4,k5⟩
     dsimp only at k1 k2 k3 k4 k5 ⊢
     have hvm:=jaj 1000000000 mid i
     have hvv2:=jaj 1000000000 vs i
     have bd:=jan Jo hdV i
     have bmi:=jan Jo g3 i
     have hcg2:=mid_get (u:=w) (A:=u.take j) (mid:=m2) (k:=j+i) Jo
     have hcl2:(u.take j++m2++w.drop (j+i)).length=N:=by
      rw[jkd,jkd,hAl,k2,jkt];omega
     refine V.r0 (V.a8 jiU f1 f2 f4 f5 f6 f7 hVl) ?_
     refine V.br (fun hw2=>?_) (fun hw2=>?_)
     ·rw[decide_eq_true_eq] at hw2
      have hms3:=fun r=>jgV (u:=w) (A:=u.take j) (mid:=m2) (k:=j+i) (r:=r) Jo Jo
      rw[hwg i Jo] at hcg2
      generalize hd0:vs.getD i 0=d at *
      generalize hmi:mid.getD i 0=mi at *
      have hki:((i:Int)+1)=((i+1:Nat):Int):=Jo
      have hai:j+i+1=j+(i+1):=Jo
      (conv=>whnf)
      (try simp only[jiU,f1,f2,f4,f5,f6,f7,hVl,hd0,hcg2,hki])
      repeat ((first|refine V.s1 ?_);(try simp only[jiU,f1,f2,f4,f5,f6,f7,hVl,hd0,hcg2,hki]))
      refine V.br (fun hge=>?_) (fun hge=>?_)
      ·rw[decide_eq_true_eq] at hge
       have hst:=jaF (B:=1000000000) (x:=mi) (y:=d) (d:=mi+d+ov-1000000000) (c':=1) k2 k5 Jo
       rw[← hvm,← hvv2] at hst
       (conv=>whnf)
       (try simp only[jiU,f1,f2,f4,f5,f6,f7,hVl,hki,hms3,hai])
       repeat ((first|refine V.s1 ?_);(try simp only[jiU,f1,f2,f4,f5,f6,f7,hVl,hki,hms3,hai]))
       exact⟨(i+1,m2++[mi+d+ov-1000000000],1),⟨by dsimp only;omega,by simp[k2],jai k3 (jaA Jo),Js,hst⟩,by dsimp only;omega,V.wk⟩
      ·rw[decide_eq_false_iff_not] at hge
       have hst:=jaF (B:=1000000000) (x:=mi) (y:=d) (d:=mi+d+ov) (c':=0) k2 k5 Jo
       rw[← hvm,← hvv2] at hst
       (conv=>whnf)
       (try simp only[jiU,f1,f2,f4,f5,f6,f7,hVl,hki,hms3,hai])
       repeat ((first|refine V.s1 ?_);(try simp only[jiU,f1,f2,f4,f5,f6,f7,hVl,hki,hms3,hai]))
       exact⟨(i+1,m2++[mi+d+ov],0),⟨by dsimp only;omega,by simp[k2],jai k3 (jaA Jo),Js,hst⟩,by dsimp only;omega,V.wk⟩
     ·rw[decide_eq_false_iff_not] at hw2
      obtain rfl:i=p+2:=Jo
      rw[hvsV,← g2,jkz,g2] at k5
      have hn0:=jao k3
      have hn1:=jcj k3
      rw[k2] at hn1
      have hrb:=red_b hPn hVpos hVP hWs g6 hm1 i3 Jo k5 hn0 hn1
      have hinv:=div_inv (B:=1000000000) (p:=p) (j:=j) (u:=u) (q:=q) (mid:=m2) (Qd:=qq-1) (M:=((a*s:Nat):Int)) Jo Jo Jo k2 h3 k3 h6' hW hVpos hrb.2 hrb.1 h8
      have hsetz2:=jgV (u:=u) (A:=u.take j) (mid:=m2) (k:=j+(p+2)) (r:=0) Jo Jo
      (conv=>whnf)
      (try simp only[jiU,f1,f2,f4,f5,f6,f7,hVl,hwd,hsetz2])
      repeat ((first|refine V.s1 ?_);(try simp only[jiU,f1,f2,f4,f5,f6,f7,hVl,hwd,hsetz2]))
      exact⟨(j,u.take j++(m2++[0])++u.drop (j+(p+2)+1),q.set j (qq-1)),⟨by dsimp only;omega,by dsimp only;rw[hinv.1];exact h2,hinv.2.1,by dsimp only;rw[jkw];exact h4,jd2 h5 Jo,hinv.2.2.1,by dsimp only;rw[hVV];exact hinv.2.2.2.1,by dsimp only;rw[hVV];exact hinv.2.2.2.2⟩,by dsimp only;omega,V.wk⟩
    ·rw[decide_eq_false_iff_not] at hc2
     have hra:=red_a hPn hVpos hVP hWs g6 hm0 i4 Jo
     have hinv:=div_inv (B:=1000000000) (p:=p) (j:=j) (u:=u) (q:=q) (mid:=mid) (Qd:=qq) (M:=((a*s:Nat):Int)) Jo Jo Jo g2 h3 g3 h6' hW hVpos hra.2 hra.1 h8
     (conv=>whnf)
     (try simp only[jiU,f1,f2,f4,f5,f6,f7,hVl,hsetz])
     repeat ((first|refine V.s1 ?_);(try simp only[jiU,f1,f2,f4,f5,f6,f7,hVl,hsetz]))
     exact⟨(j,u.take j++(mid++[0])++u.drop (j+(p+2)+1),q.set j qq),⟨by dsimp only;omega,by dsimp only;rw[hinv.1];exact h2,hinv.2.1,by dsimp only;rw[jkw];exact h4,jd2 h5 ⟨i1,i2⟩,hinv.2.2.1,by dsimp only;rw[hVV];exact hinv.2.2.2.1,by dsimp only;rw[hVV];exact hinv.2.2.2.2⟩,by dsimp only;omega,V.wk⟩
 ·rw[decide_eq_false_iff_not] at hq
  obtain rfl:k=0:=Jo
  rw[jku,Int.pow_zero,Int.mul_one] at h8
  rw[jku] at h7
  rw[jjC] at h6
  have hvq:=jao h5
  have hvu:=jao h3
  obtain⟨w,hw⟩:∃ w:Nat,val 1000000000 q=w:=⟨(val 1000000000 q).toNat,Jo⟩
  obtain⟨z,hz⟩:∃ z:Nat,val 1000000000 u=z:=⟨(val 1000000000 u).toNat,Jo⟩
  rw[hw,hz,← jjQ,← Int.natCast_add] at h8
  rw[hz] at h7
  have h8':a*s=w*(b*s)+z:=by exact_mod_cast h8
  have h7':z<b*s:=by exact_mod_cast h7
  have hbs:0<b*s:=Jo
  have hdiv:a/b=w:=by
   have k1:a*s/(b*s)=a/b:=Nat.mul_div_mul_right a b Jo
   rw[← k1,h8',Nat.add_comm,Nat.add_mul_div_right _ _ hbs,Nat.div_eq_of_lt h7',jjC]
  have hmod:z=a%b*s:=by
   have k1:a*s%(b*s)=a%b*s:=Nat.mul_mod_mul_right s a b
   rw[← k1,h8',Nat.add_comm,Nat.add_mul_mod_self_right,jjL h7']
  have hzs:z/s=a%b:=by rw[hmod,Nat.mul_div_cancel _ Jo]
  have hut:val 1000000000 (u.take (p+2))=z:=by
   rw[jbY 1000000000 u (p+2) Jo,h6,Int.mul_zero,jjZ] at hz
   exact hz
  have hzl:=jax (B:=1000000000) (n:=z) (k:=p+2) Jo Jo
  have hc1:=jfW (u.take (p+2)) (jbB h3 _) (by rw[jke];omega)
  rw[hut,jjF] at hc1
  have hc2:=short_c z s Jo Jo Jo
  rw[hzs] at hc2
  have hc3:=jfW q h5 Jo
  rw[hw,jjF,← jkz (l:=q),h4] at hc3
  rw[hdiv]
  refine V.r3 (V.a2 hVl @jjF) hc1 hc2 hc3 ?_
  exact Fin.of rfl
theorem jbl (a b:Nat)(hb0:0<b)(ha:(mg 1000000000 a).length≤90000000)(hb:(mg 1000000000 b).length≤90000000):Cl 187 [.ints .u32 (mg 1000000000 a),.ints .u32 (mg 1000000000 b)] (.tup [.ints .u32 (mg 1000000000 (a/b)),.ints .u32 (mg 1000000000 (a%b))]):=by
 rcases jjO a b with h|h
 ·exact jiz a b h Jo Jo
 ·rcases jjO b 1000000000 with h1|h1
  ·exact divide_one a b h hb0 h1 Jo
  ·exact jiy a b h h1 ha
end Go.Proofs.YtbnghipgicmpdaaGreatDoor
end
section
namespace Go.Proofs.YtbnghipgicmpdaaGreatDoor
open Go Go.V Go.Nb Go.RowKit Go.Proofs
set_option maxHeartbeats 4000000
set_option maxRecDepth 1000000
theorem zero_k (n:Nat)(w:World)(hg:GlW w)(v:Value)(hv:Den Env.dummy (pubOf w) (.ints .u32 (mg 1000000000 n)) v):Calls Tryz.prog 145 #[v] w fun e w'=>e = .returned (.bool (decide (n=0)))∧RowKit.Below w.heap.size w w':=by
 refine(jfK (jdv n) w hg (vs:=[v]) ?_).mono ?_
 ·simp only[DenL];exact⟨_,_,rfl,hv,rfl⟩
 ·rintro e w' ⟨v,h',rfl,hv,hb⟩
  simp only[Den] at hv
  rw[hv]
  exact⟨rfl,hb⟩
def cv:Nat→Int
 | 0 => -1
 | k+1=>k
theorem cv_eq (m:Nat):cv m=(m:Int)-1:=by cases m<;>simp[cv]
theorem digits_w (n:Nat)(hn:0<n)(hl:(mg 1000000000 n).length≤100000000)(w:World)(hg:GlW w)(hlt:GlLt w.heap.size)(v:Value)(hv:Den Env.dummy (pubOf w) (.ints .u32 (mg 1000000000 n)) v) :
  Calls Tryz.prog 169 #[v] w fun e w'=>e = .returned (.string ⟨(dec n).toArray⟩)∧RowKit.Below w.heap.size w w':=by
 have hz:=zero_k n w hg v hv
 have hdx:=mg_dg (B:=1000000000) (by omega) n
 have hvx:=jaJ (B:=1000000000) (by omega) n
 have hlx:=jef (B:=1000000000) (n:=n) (by omega)
 have hnil:=jb9 (B:=1000000000) (n:=n) (by omega)
 generalize mg 1000000000 n=xs at *
 simp only[Den,jaQ] at hv
 obtain⟨a,cap,rfl,hcap,_,_,ha⟩:=hv
 obtain⟨j,hj⟩:∃ j,xs.length=j+1:=⟨xs.length-1,by
  have:xs≠[]:=fun e=>by have:=hnil.1 e;omega
  have:=List.length_pos_iff.2 this
  omega⟩
 obtain⟨ad,rfl⟩:∃ ad,a=some ad:=by
  cases a with
  | none=>obtain⟨h1,_⟩:=ha;rw[h1] at hj;simp at hj
  | some ad=>exact⟨ad,rfl⟩
 obtain⟨blk,off,spot⟩:=ad
 simp only at ha
 obtain⟨rfl,hcell⟩:=ha
 have hne:decide (n=0)=false:=decide_eq_false (by omega)
 rw[hne] at hz
 have hc0:∀ i,i<xs.length→w.cell? ⟨blk,off+i,none⟩=some (.int .u32 (xs.getD i 0)):=fun i hi=>by
  have:=hcell i (xs.getD i 0) (by rw[jj8,jkb hi];rfl)
  exact this
 have hblk:blk<w.heap.size:=by
  have:=hc0 0 (by omega)
  rcases jjO blk w.heap.size with h|h
  ·exact h
  ·simp[World.cell?,Array.getElem?_eq_none h] at this
 clear hcell
 rw[hj] at hz ⊢
 go_enter Tryz.func169,Tryz.ntmps169
 go_wp2_with (go_at_call 145;refine hz.mono ?_)
 rintro e w1 ⟨rfl,hb1⟩
 have hs1:=hb1.size
 have hc1:(w1.alloc (.cells #[.pointer none,.slice none 0 0] 265)).cell? ⟨blk,off+j,none⟩=some (.int .u32 (xs.getD j 0)):=by
  have h1:=hb1.alloc (o := .cells #[.pointer none,.slice none 0 0] 265) (by omega)
  rw[h1.cell (by exact hblk)]
  exact hc0 j (by omega)
 have hI0:=Lib.IsBuilderF.of (Lib.fresh_isBuilder 265 5 w1)
 have hgl1:GlW (w1.alloc (.cells #[.pointer none,.slice none 0 0] 265)):=jhG hg (hb1.alloc (by omega) _) hlt
 have hlt1:GlLt w1.heap.size:=⟨fun g vs h=>by have:=hlt.1 g vs h;omega,fun g h=>by have:=hlt.2 g h;omega⟩
 have bx:=jan (by omega) hdx j
 have hx1:xs.getD j 0≠0:=by
  refine hlx _ ?_
  rw[List.getLast?_eq_getElem?,hj,jj8,show j+1-1=j by omega,jkb (by omega)];rfl
 have hvj:val 1000000000 (xs.drop j)=xs.getD j 0:=by rw[jbg,show xs.drop (j+1)=[] from List.drop_eq_nil_of_le (by omega)];simp[val]
 obtain⟨g,hgx⟩:∃ g:Nat,xs.getD j 0=g:=⟨(xs.getD j 0).toNat,by omega⟩
 rw[hgx] at bx hx1 hvj hc1
 have hput:=put_k w1.heap.size w1.heap.size [] g 0 (w1.alloc (.cells #[.pointer none,.slice none 0 0] 265)) hgl1 hlt1 (by simp) hI0 (by omega) (by omega) (by simp)
 have e0:List.replicate ((0:Int).toNat-(dec g).length) (48:UInt8)=[]:=by simp
 rw[e0,List.append_nil,jkk] at hput
 clear hz hI0
 go_wp2_with (go_at_call 208;refine hput.mono ?_)
 rintro e w2 ⟨rfl,hI2,hb2⟩
 have hbw2:RowKit.Below w.heap.size w w2:=(hb1.alloc (by omega) _).trans (hb2.mono hs1)
 have hs2:w1.heap.size+1≤w2.heap.size:=by have:=hb2.size;simpa using this
 have hd0:dec g=dec (val 1000000000 (xs.drop j)).toNat:=by rw[hvj,jjF]
 rw[hd0] at hI2
 clear hput hd0
 go_wp2
 go_loopw [6] (fun i wr => ∃ m:Nat,m≤j∧i = .int .i64 (cv m)∧Lib.IsBuilderF 265 5 w1.heap.size w1.heap.size (Lib.byteCells (dec (val 1000000000 (xs.drop m)).toNat)) wr∧RowKit.Below w1.heap.size w2 wr) (fun i _=>(intOf i+1).toNat)
 case atStart=>exact⟨j,jjG _,by rw[cv_eq],hI2,Below.refl _ _⟩
 case round=>
  obtain⟨m,hm,rfl,hI,hbr⟩:=hrel
  have hsr:=hbr.size
  have hbw:RowKit.Below w.heap.size w wr:=hbw2.trans (hbr.mono hs1)
  rcases m with _|m
  ·rw[jku,hvx,jjF] at hI
   simp only[cv]
   go_wp2_with (go_at_call 211;refine(Tryz.Builder_String_any_k w1.heap.size w1.heap.size (dec n) _ hI (by omega)).mono ?_)
   intros
   rename_i e W1 h2
   obtain⟨rfl,_,b2,_⟩:=h2
   go_wp2
   go_ret
   exact⟨rfl,hbw.trans (b2.mono hs1)⟩
  ·simp only[cv]
   have bm:=jan (by omega) hdx m
   have hcm:wr.cell? ⟨blk,off+m,none⟩=some (.int .u32 (xs.getD m 0)):=by
    rw[hbw.cell (by exact hblk)];exact hc0 m (by omega)
   obtain⟨y,hy⟩:∃ y:Nat,xs.getD m 0=y:=⟨(xs.getD m 0).toNat,by omega⟩
   have hvm:=jbP (B:=1000000000) (l:=xs) (k:=m) (by omega)
   have hv0:=jao (jbp hdx (m+1))
   have hvp:0<val 1000000000 (xs.drop (m+1)):=by
    have h1:=jbY 1000000000 (xs.drop (m+1)) (j-(m+1)) (by rw[jkt];omega)
    rw[List.drop_drop,show m+1+(j-(m+1))=j by omega,hvj] at h1
    have h2:=jao (jbB (jbp hdx (m+1)) (j-(m+1)))
    have h3:(0:Int)<((1000000000:Nat):Int)^(j-(m+1))*g:=Int.mul_pos (jdL (by omega) _) (by omega)
    omega
   rw[hy] at bm hcm hvm
   obtain⟨u,hu⟩:∃ u:Nat,val 1000000000 (xs.drop (m+1))=u:=⟨(val 1000000000 (xs.drop (m+1))).toNat,by omega⟩
   rw[hu,jjF] at hI
   have hdp:=jiE (a:=u) (by omega) 9 y (by omega)
   have hpd:=jbI 9 y (by omega) (by omega)
   have hnew:(val 1000000000 (xs.drop m)).toNat=u*10^9+y:=by rw[hvm,hu];omega
   rw[hpd.2,← hnew,← jkf] at hdp
   have hdlen:(dec u).length≤1000000000000:=by
    have h1:u<10^(9*(j+1)):=by
     have h2:=jcj (jbp hdx (m+1))
     rw[hu,jkt,hj] at h2
     have h3:(1000000000:Nat)^(j+1-(m+1))≤1000000000^(j+1):=jjW (by omega) (by omega)
     rw[← jj0] at h2
     rw[Nat.pow_mul]
     have h4:u<1000000000^(j+1-(m+1)):=by exact_mod_cast h2
     exact jjN h4 h3
    have:=(jbI (9*(j+1)) u (by omega) h1).1
    omega
   have hput:=put_k w1.heap.size w1.heap.size (dec u) y 9 wr (jhG hg hbw hlt) hlt1 (by omega) hI (by omega) (by omega) hdlen
   rw[show (9:Int).toNat=9 from rfl,← hdp] at hput
   clear hdp hpd hnew hdlen hu hvm hvp hv0
   go_wp2_with (go_at_call 208;refine hput.mono ?_)
   intros
   rename_i e W1 h2
   obtain⟨rfl,hI3,b2⟩:=h2
   go_wp2
   go_roundw
   case rel=>exact⟨m,by omega,by (have h:=cv_eq m;show Value.int .i64 ((m:Int)-1)=Value.int .i64 (cv m);rw[h]),hI3,hbr.trans b2⟩
   case measure=>simp[intOf]
theorem jiA:Cl 169 [.ints .u32 (mg 1000000000 0)] (.str (dec 0)):=by
 have hz:=jdv 0
 refine V.en tbOk Tryz.func169 ?_
 refine V.u1 hz ?_
 exact Fin.of rfl
theorem digits_c (n:Nat)(hl:(mg 1000000000 n).length≤100000000):Cl 169 [.ints .u32 (mg 1000000000 n)] (.str (dec n)):=by
 rcases jjI n with h0|h0
 ·subst h0;exact jiA
 refine ja8 Tryz.func169 rfl rfl rfl fun w hp vs ha hd=>?_
 simp only[DenL] at hd
 obtain⟨v,_,rfl,hv,rfl⟩:=hd
 have hle:hp.Le (pubOf w):=fun b o v h=>ha.cells b o v h
 refine(digits_w n h0 hl w ha.blk (glLt ha.blk) v (Den.mono hle hv)).mono fun e w' ⟨he,hw⟩=>⟨⟨_,he,fun hp=>?_⟩,hw⟩
 ·simp only[Den]
  refine⟨trivial,?_⟩
  have h2:=jaN (B:=1000000000) (n:=n) (by omega)
  generalize (mg 1000000000 n).length=l at *
  have h1:n<10^(9*(l+1)):=by
   rw[Nat.pow_mul]
   exact jjN h2 (jjW (by omega) (by omega))
  have:=(jbI (9*(l+1)) n (by omega) h1).1
  omega
end Go.Proofs.YtbnghipgicmpdaaGreatDoor
end
section
namespace Go.Proofs.YtbnghipgicmpdaaGreatDoor
open Go Go.V Go.Nb
def raD (q:Rat):D := .agg [.bool (decide (q.num<0)),Jj (mg 10000 q.num.natAbs),.bool false,Jj (mg 10000 q.den)]
theorem jih (n d:Int)(hd:d≠0):(if d<0 then -n else n)/((Int.gcd (if d<0 then -n else n) (if d<0 then -d else d):Nat):Int)=(Rat.divInt n d).num:=by
 rw[Rat.num_divInt]
 split
 ·rw[Int.neg_gcd,Int.gcd_neg,Int.gcd_comm,jj4 Jo,Int.neg_mul,jj2]
 ·rw[Int.gcd_comm,jj5 Jo,jj2]
theorem jii (n d:Int)(hd:d≠0):(if d<0 then -d else d)/((Int.gcd (if d<0 then -n else n) (if d<0 then -d else d):Nat):Int)=((Rat.divInt n d).den:Int):=by
 rw[Rat.den_divInt,if_neg hd]
 split
 ·rw[Int.neg_gcd,Int.gcd_neg,Int.gcd_comm,Int.natCast_ediv];congr 1;omega
 ·rw[Int.gcd_comm,Int.natCast_ediv];congr 1;omega
theorem jbh (n:Int)(g:Nat):(n/(g:Int)).natAbs≤n.natAbs:=by
 rcases Int.le_total 0 n with h|h
 ·have h1:=jjy h (by omega:(0:Int)≤g)
  have h2:=Int.ediv_le_self (a:=n) (g:Int) h
  omega
 ·rcases jjI g with e|e
  ·subst e;simp
  ·have h1:n/(g:Int)≤0:=by
    have:=Int.ediv_le_ediv (by omega:(0:Int)<g) h
    simpa using this
   have h2:n≤n/(g:Int):=Int.le_ediv_of_mul_le Jo (by
    have:=Int.mul_le_mul_of_nonpos_left h (by omega:(1:Int)≤g)
    omega)
   omega
theorem jeI (n d:Int)(hn:Sm 80000000 n)(hd:Sm 80000000 d)(hd0:d≠0):Cl 71 [plD n,plD d] (raD (Rat.divInt n d)):=by
 have e1:=jih n d hd0
 have e2:=jii n d hd0
 refine V.en tbOk Tryz.func71 ?_
 (conv=>whnf)
 refine V.st ?_
 refine V.br (fun hq=>?_) (fun hq=>?_)
 ·rw[decide_eq_true_eq] at hq
  simp only[if_pos hq] at e1 e2
  have hN:=hn.neg
  have hD:=hd.neg
  have ht1:=turn_c n (by unfold Sm at hn;omega)
  have ht2:=turn_c d (by unfold Sm at hd;omega)
  (conv=>whnf)
  refine V.st ?_
  refine⟨(V.tk [0,2] (V.e1 1 [2] (V.e1 3 [] (V.e1 4 [] (V.e1 5 [] .done))))),[],V.pok,.go (jac ?_)⟩
  refine V.u2 ht1 ht2 ?_
  have hgp:0<Int.gcd (-n) (-d):=Int.gcd_pos_of_ne_zero_right _ Jo
  have hdv:=jd0 (-n) (-d) hN hD
  have hgD:Sm 80000000 ((Int.gcd (-n) (-d):Nat):Int):=hD.le (by rw[jjV];exact Nat.le_of_dvd Jo (Nat.gcd_dvd_right ((-n)).natAbs ((-d)).natAbs))
  have hp1:=jdM (-n) ((Int.gcd (-n) (-d):Nat):Int) hN hgD Jo
  have hp2:=jdM (-d) ((Int.gcd (-n) (-d):Nat):Int) hD hgD Jo
  rw[e1] at hp1
  rw[e2] at hp2
  refine V.u3 hdv hp1 hp2 ?_
  exact Fin.of (by unfold raD;rw[jjV,decide_eq_false (p:=((Rat.divInt n d).den:Int)<0) Jo])
 ·rw[decide_eq_false_iff_not] at hq
  simp only[if_neg hq] at e1 e2
  have hN:=hn
  have hD:=hd
  have hgp:0<Int.gcd n d:=Int.gcd_pos_of_ne_zero_right _ Jo
  have hdv:=jd0 n d hN hD
  have hgD:Sm 80000000 ((Int.gcd n d:Nat):Int):=hD.le (by rw[jjV];exact Nat.le_of_dvd Jo (Nat.gcd_dvd_right (n).natAbs (d).natAbs))
  have hp1:=jdM n ((Int.gcd n d:Nat):Int) hN hgD Jo
  have hp2:=jdM d ((Int.gcd n d:Nat):Int) hD hgD Jo
  rw[e1] at hp1
  rw[e2] at hp2
  refine V.u3 hdv hp1 hp2 ?_
  exact Fin.of (by unfold raD;rw[jjV,decide_eq_false (p:=((Rat.divInt n d).den:Int)<0) Jo])
theorem quick_c (n d:Int)(hn:InR .i64 n)(hd:InR .i64 d)(hd0:d≠0):Cl 122 [Ji n,Ji d] (raD (Rat.divInt n d)):=by
 have h1:=jc0 n hn
 have h2:=jc0 d hd
 simp only[V.InR,V.lo,V.hi] at hn hd
 have h3:=jeI n d ((Sm.lit (k:=5) Jo).mono Jo) ((Sm.lit (k:=5) Jo).mono Jo) hd0
 refine V.en tbOk Tryz.func122 ?_
 refine V.u3 h1 h2 h3 ?_
 exact Fin.of rfl
def okF (q:Rat):Bool:=decide ((dec q.num.natAbs).length≤600) && decide ((dec q.den).length≤600)
def frR (q:Rat):D := .tup [.agg [.str (cond (okF q) (decZ q.num) []),.str (cond (okF q) (dec q.den) [])],Ji (cond (okF q) 0 6)]
theorem outN_c (n:Nat)(hz:Sm 90000000 n):Cl 127 [.agg [.bool false,Jj (mg 10000 n)]] (.tup [.str (if 600<(dec n).length then [] else dec n),Ji (if 600<(dec n).length then 6 else 0)]):=by
 have h:=out_c n hz
 unfold plD decZ at h
 rw[jjV,decide_eq_false (p:=(n:Int)<0) Jo,if_neg (c:=(n:Int)<0) Jo] at h
 exact h
theorem jfd (q:Rat)(hn:Sm 90000000 q.num)(hd:Sm 90000000 (q.den:Int)):Cl 70 [raD q] (frR q):=by
 have h1:=out_c q.num hn
 have h2:=outN_c q.den hd
 unfold frR okF
 by_cases g1:600<(dec q.num.natAbs).length<;>by_cases g2:600<(dec q.den).length
 all_goals
  simp only[g1,g2,if_true,if_false] at h1 h2
  simp only[← Nat.not_lt,g1,g2,not_true_eq_false,not_false_eq_true,decide_true,decide_false,Bool.and_self,Bool.and_false,jj3,Bool.and_true,cond_true,cond_false]
  refine V.en tbOk Tryz.func70 ?_
  refine V.u2 h1 h2 ?_
  exact Fin.of rfl
theorem of02_c (n d:Int)(hn:InR .i64 n)(hd:InR .i64 d)(hd0:d≠0):Cl 66 [Ji n,Ji d] (frR (Rat.divInt n d)):=by
 have h1:=quick_c n d hn hd hd0
 simp only[V.InR,V.lo,V.hi] at hn hd
 have hnum:Sm 90000000 (Rat.divInt n d).num:=by
  have e1:=jih n d hd0
  have h:=jbh (if d<0 then -n else n) (Int.gcd (if d<0 then -n else n) (if d<0 then -d else d))
  rw[e1] at h
  exact(Sm.lit (k:=5) (by split at h<;>omega)).mono Jo
 have hden:Sm 90000000 ((Rat.divInt n d).den:Int):=by
  have e1:=jii n d hd0
  have h:=jbh (if d<0 then -d else d) (Int.gcd (if d<0 then -n else n) (if d<0 then -d else d))
  rw[e1] at h
  exact(Sm.lit (k:=5) (by split at h<;>omega)).mono Jo
 have h2:=jfd _ hnum hden
 refine V.en tbOk Tryz.func66 ?_
 (conv=>whnf)
 refine V.st ?_
 refine Cnd.no (decide_eq_false hd0) ?_
 refine V.u2 h1 h2 ?_
 exact Fin.of rfl
theorem gcd_c (a b:Nat)(ha:(mg 1000000000 a).length≤90000000)(hb:(mg 1000000000 b).length≤90000000):Cl 161 [.ints .u32 (mg 1000000000 a),.ints .u32 (mg 1000000000 b)] (.ints .u32 (mg 1000000000 (Nat.gcd a b))):=by
 obtain⟨g,hg⟩:∃ g,g=Nat.gcd a b:=⟨_,rfl⟩
 rw[← hg]
 refine V.en tbOk Tryz.func161 ?_
 (conv=>whnf)
 refine V.st ?_
 refine jad ((a,b):Nat×Nat) (fun s=>Nat.gcd s.1 s.2=g∧(mg 1000000000 s.1).length≤90000000∧(mg 1000000000 s.2).length≤90000000) (fun s=>s.2)
  (fun s=>[(0,.ints .u32 (mg 1000000000 s.1)),(1,.ints .u32 (mg 1000000000 s.2))]) (fun _=>[]) ?_ ?_ ?_
 ·exact V.wk
 ·exact⟨hg.symm,ha,hb⟩
 rintro⟨x,y⟩ ⟨h1,h2,h3⟩
 dsimp only at h1 h2 h3 ⊢
 have hz:=jdv y
 refine V.u1 hz ?_
 refine V.br (fun hq=>?_) (fun hq=>?_)
 ·have hy:¬ y=0:=by simpa using hq
  (conv=>whnf)
  refine V.st ?_
  refine V.br (fun hq2=>?_) (fun hq2=>?_)
  ·rw[jjv,decide_eq_true_eq,decide_eq_true_eq] at hq2
   have hx18:x<1000000000000000000:=by
    have:=jaN (B:=1000000000) (n:=x) Jo
    have h5:1000000000^(mg 1000000000 x).length≤1000000000^2:=jjW Jo Jo
    omega
   have hy18:y<1000000000000000000:=by
    have:=jaN (B:=1000000000) (n:=y) Jo
    have h5:1000000000^(mg 1000000000 y).length≤1000000000^2:=jjW Jo Jo
    omega
   have hs1:=small_c x hx18
   have hs2:=small_c y hy18
   refine V.u2 hs1 hs2 ?_
   refine jad ((x,y):Nat×Nat) (fun s=>Nat.gcd s.1 s.2=g∧s.1<1000000000000000000∧s.2<1000000000000000000) (fun s=>s.2) (fun s=>[(5,.int .u64 s.1),(6,.int .u64 s.2)]) (fun _=>[]) ?_ ?_ ?_
   ·exact V.wk
   ·exact⟨h1,hx18,hy18⟩
   rintro⟨p,q⟩ ⟨i1,i2,i3⟩
   dsimp only at i1 i2 i3 ⊢
   (conv=>whnf)
   refine V.st ?_
   refine V.br (fun hq3=>?_) (fun hq3=>?_)
   ·rw[decide_eq_true_eq] at hq3
    have hqp:0<q:=Jo
    have em:(p:Int)%(q:Int)=((p%q:Nat):Int):=by rw[Int.natCast_emod]
    have hlt:=jjJ p hqp
    refine V.r0 em ?_
    refine⟨(V.tk [0,1,2,3] (V.e1 4 [3,2] (V.e1 5 [] .done))),[],V.pok,.go (jac ?_)⟩
    refine V.r0 em ?_
    exact⟨(q,p%q),⟨by dsimp only;rw[Nat.gcd_comm,← Nat.gcd_rec,Nat.gcd_comm];exact i1,i3,by dsimp only;omega⟩,hlt,V.wk⟩
   ·rw[decide_eq_false_iff_not] at hq3
    obtain rfl:q=0:=Jo
    rw[Nat.gcd_zero_right] at i1
    have hf:=jdt p Jo
    refine V.u1 hf ?_
    exact Fin.of (by rw[i1])
  ·have hd:=jbl x y Jo h2 h3
   have hlt:=jjJ x (by omega:y>0)
   have hr:=jah (B:=1000000000) Jo (Nat.le_of_lt hlt)
   refine V.u1 hd ?_
   exact⟨(y,x%y),⟨by dsimp only;rw[Nat.gcd_comm,← Nat.gcd_rec,Nat.gcd_comm];exact h1,h3,by dsimp only;omega⟩,hlt,V.wk⟩
 ·have hy:y=0:=by simpa using hq
  subst hy
  rw[Nat.gcd_zero_right] at h1
  (conv=>whnf)
  refine V.st ?_
  exact Fin.of (by rw[h1])
theorem jiu (z:Int)(hz:(mg 1000000000 z.natAbs).length≤90000000):Cl 119 [itD z] (.str (decZ z)):=by
 have hd:=digits_c z.natAbs Jo
 have hl:(dec z.natAbs).length≤1000000000000:=by
  have h2:=jaN (B:=1000000000) (n:=z.natAbs) Jo
  generalize (mg 1000000000 z.natAbs).length=l at *
  have h1:z.natAbs<10^(9*(l+1)):=by
   rw[Nat.pow_mul]
   exact jjN h2 (jjW Jo Jo)
  have:=(jbI (9*(l+1)) z.natAbs Jo h1).1
  omega
 refine V.en tbOk Tryz.func119 ?_
 (conv=>whnf)
 refine V.st ?_
 refine V.br (fun hq=>?_) (fun hq=>?_)
 ·rw[decide_eq_true_eq] at hq
  refine V.u1 hd ?_
  exact Fin.of (by unfold decZ;rw[if_pos hq];rfl)
 ·rw[decide_eq_false_iff_not] at hq
  refine V.u1 hd ?_
  exact Fin.of (by unfold decZ;rw[if_neg hq])
def rtD (q:Rat):D := .agg [.ints .u32 (mg 1000000000 q.num.natAbs),.bool (decide (q.num<0)),.ints .u32 (mg 1000000000 q.den)]
theorem jd8 (q:Rat)(hn:(mg 1000000000 q.num.natAbs).length≤90000000)(hd:(mg 1000000000 q.den).length≤90000000):Cl 147 [rtD q] (frR q):=by
 have h1:=length_c q.num.natAbs Jo
 have h2:=length_c q.den Jo
 have h3:=jiu q.num hn
 have h4:=digits_c q.den Jo
 unfold frR okF
 refine V.en tbOk Tryz.func147 ?_
 refine V.u2 h1 h2 ?_
 refine V.br (fun hq=>?_) (fun hq=>?_)
 ·rw[Bool.or_eq_true,decide_eq_true_eq,decide_eq_true_eq] at hq
  have e:(decide ((dec q.num.natAbs).length≤600) && decide ((dec q.den).length≤600))=false:=by
   rw[Bool.and_eq_false_iff,decide_eq_false_iff_not,decide_eq_false_iff_not];omega
  rw[e]
  (conv=>whnf)
  refine V.st ?_
  exact Fin.of rfl
 ·rw[jjP,decide_eq_false_iff_not,decide_eq_false_iff_not] at hq
  have e:(decide ((dec q.num.natAbs).length≤600) && decide ((dec q.den).length≤600))=true:=by
   rw[jjv,decide_eq_true_eq,decide_eq_true_eq];omega
  rw[e]
  (conv=>whnf)
  refine V.st ?_
  refine⟨(V.tk [0,1,3,4] (V.e1 2 [4,3] (V.e1 5 [] (V.tk [6] (V.e1 7 [] (V.tk [8] .done)))))),[],V.pok,.go (jac ?_)⟩
  refine V.u2 h3 h4 ?_
  exact Fin.of rfl
theorem jc4 (n:Int)(d:Nat)(hd:0<d):(Rat.divInt n d).num.natAbs=n.natAbs/Nat.gcd n.natAbs d∧decide ((Rat.divInt n d).num<0)=decide (n<0)∧(Rat.divInt n d).den=d/Nat.gcd n.natAbs d:=by
 have hg:Int.gcd (d:Int) n=Nat.gcd n.natAbs d:=by
  rw[Int.gcd_comm];rfl
 have hgp:0<Nat.gcd n.natAbs d:=Nat.gcd_pos_of_pos_right _ hd
 have hdv:((Nat.gcd n.natAbs d:Nat):Int) ∣ n:=Int.ofNat_dvd_left.2 (Nat.gcd_dvd_left _ _)
 rw[Rat.num_divInt,Rat.den_divInt,if_neg Jo,jj5 Jo,jj2,hg,jjV]
 generalize Nat.gcd n.natAbs d=g at *
 obtain⟨k,rfl⟩:=hdv
 have e:(g:Int)*k/g=k:=Int.mul_ediv_cancel_left _ Jo
 rw[e,Int.natAbs_mul,jjV,Nat.mul_div_cancel_left _ hgp]
 refine⟨rfl,?_,rfl⟩
 apply decide_eq_decide.2
 constructor
 ·intro h;exact Int.mul_neg_of_pos_of_neg Jo h
 ·intro h
  rcases Int.lt_or_le k 0 with h2|h2
  ·exact h2
  ·have:=jjB (a:=(g:Int)) Jo h2;omega
theorem reduced_c (n:Int)(d:Nat)(hd0:0<d)(hn:(mg 1000000000 n.natAbs).length≤90000000)(hd:(mg 1000000000 d).length≤90000000):Cl 191 [itD n,.ints .u32 (mg 1000000000 d)] (rtD (Rat.divInt n d)):=by
 obtain⟨p1,p2,p3⟩:=jc4 n d hd0
 have hg:=gcd_c n.natAbs d hn hd
 have hgp:0<Nat.gcd n.natAbs d:=Nat.gcd_pos_of_pos_right _ hd0
 have hgl:=jah (B:=1000000000) Jo (Nat.le_of_dvd hd0 (Nat.gcd_dvd_right n.natAbs d))
 have h1:=jbl n.natAbs (Nat.gcd n.natAbs d) hgp hn Jo
 have h2:=jbl d (Nat.gcd n.natAbs d) hgp hd Jo
 have h3:=ja9 (n.natAbs/Nat.gcd n.natAbs d) (decide (n<0))
 have e:itD (if decide (n<0)=true then -((n.natAbs/Nat.gcd n.natAbs d:Nat):Int) else ((n.natAbs/Nat.gcd n.natAbs d:Nat):Int))=itD (Rat.divInt n d).num:=by
  congr 1
  rw[← p1,← p2]
  by_cases h:(Rat.divInt n d).num<0
  ·rw[decide_eq_true h,if_pos rfl];omega
  ·rw[decide_eq_false h,if_neg Js];omega
 rw[e] at h3
 refine V.en tbOk Tryz.func191 ?_
 refine V.u4 hg h1 h2 h3 ?_
 exact Fin.of (by unfold rtD;rw[p3])
theorem wof_c (n:Int)(h:InR .i64 n):Cl 153 [Ji n] (.str (decZ n)):=by
 have hi:=itoa_c n
 refine V.en tbOk Tryz.func153 ?_
 refine V.u1 hi ?_
 exact Fin.of rfl
theorem jhL (n d:Int)(hd:d≠0):Rat.divInt (if (decide (n<0) != decide (d<0))=true then -(n.natAbs:Int) else (n.natAbs:Int)) (d.natAbs:Nat)=Rat.divInt n d:=by
 rw[Rat.divInt_eq_divInt_iff Jo hd]
 by_cases h1:n<0<;>by_cases h2:d<0
 ·simp only[h1,h2,decide_true,bne_self_eq_false,Bool.false_eq_true,if_false]
  rw[show (n.natAbs:Int) = -n by omega,show (d.natAbs:Int) = -d by omega,Int.neg_mul,Int.mul_neg]
 ·have e:(decide (n<0) != decide (d<0))=true:=by simp[h1,h2]
  rw[if_pos e,show (n.natAbs:Int) = -n by omega,show (d.natAbs:Int)=d by omega,Int.neg_neg]
 ·have e:(decide (n<0) != decide (d<0))=true:=by simp[h1,h2]
  rw[if_pos e,show (n.natAbs:Int)=n by omega,show (d.natAbs:Int) = -d by omega,Int.neg_mul,Int.mul_neg]
 ·have e:¬ (decide (n<0) != decide (d<0))=true:=by simp[h1,h2]
  rw[if_neg e,show (n.natAbs:Int)=n by omega,show (d.natAbs:Int)=d by omega]
theorem jcg {s:List UInt8}(h:okW s=true):s.length≤601∧(wval s).natAbs<10^600:=by
 unfold okW okD at h
 simp only[jjv,Bool.not_eq_true',jjP,decide_eq_false_iff_not,jj7] at h
 obtain⟨⟨h1,h2⟩,h3⟩:=h
 have h4:=je5 h2
 have h5:∀ k,(Go.Lib.trimPrefix s [45]).length≤k→10^(Go.Lib.trimPrefix s [45]).length≤10^k:=fun k hk=>jjW Jo hk
 constructor
 ·unfold Go.Lib.trimPrefix at h1
  split at h1
  ·rw[jkt] at h1;simp at h1;omega
  ·omega
 ·have:(wval s).natAbs=rdv (Go.Lib.trimPrefix s [45]):=by unfold wval;split<;>simp
  rw[this]
  exact jjN h4 (h5 600 Jo)
theorem len9 {n:Nat}(h:n<10^600):(mg 1000000000 n).length≤67:=jax Jo (jjN h (by
 have h1:∀ k,(1000000000:Nat)^k=10^(9*k):=fun k=>by rw[Nat.pow_mul]
 have h2:∀ a b:Nat,a≤b→(10:Nat)^a≤10^b:=fun a b hab=>jjW Jo hab
 obtain⟨m,hm⟩:∃ m,m=9*67:=⟨_,rfl⟩
 rw[h1 67,← hm]
 exact h2 600 m Jo))
theorem make_c (s t:List UInt8)(hs:okW s=true)(ht:okW t=true)(hz:wval t≠0):Cl 152 [.str s,.str t] (frR (Rat.divInt (wval s) (wval t))):=by
 obtain⟨ls,vs⟩:=jcg hs
 obtain⟨lt,vt⟩:=jcg ht
 have c1:=jcr s Jo
 have c2:=jcr t Jo
 rw[hs,if_pos rfl] at c1
 rw[ht,if_pos rfl] at c2
 have n1:=jdc s hs
 have n2:=jdc t ht
 generalize wval s=n at *
 generalize wval t=d at *
 have hz1:=jdv d.natAbs
 have hs1:=ja9 n.natAbs (decide (n<0) != decide (d<0))
 have hnl:=len9 vs
 have hdl:=len9 vt
 have e1:(if (decide (n<0) != decide (d<0))=true then -(n.natAbs:Int) else (n.natAbs:Int)).natAbs=n.natAbs:=by split<;>omega
 have hr:=reduced_c (if (decide (n<0) != decide (d<0))=true then -(n.natAbs:Int) else (n.natAbs:Int)) d.natAbs Jo (by rw[e1];omega) Jo
 obtain⟨p1,p2,p3⟩:=jc4 (if (decide (n<0) != decide (d<0))=true then -(n.natAbs:Int) else (n.natAbs:Int)) d.natAbs Jo
 rw[jhL n d hz] at hr p1 p2 p3
 rw[e1] at p1 p3
 have hw:=jd8 (Rat.divInt n d) (by
  rw[p1]
  have:=jah (B:=1000000000) Jo (jjX n.natAbs (n.natAbs.gcd d.natAbs))
  omega) (by
  rw[p3]
  have:=jah (B:=1000000000) Jo (jjX d.natAbs (n.natAbs.gcd d.natAbs))
  omega)
 refine V.en tbOk Tryz.func152 ?_
 refine V.u5 c1 c2 n1 n2 hz1 ?_
 refine Cnd.no (decide_eq_false Jo) ?_
 (conv=>whnf)
 refine V.st ?_
 refine⟨(V.tk [0,1,2,3,4,5,6,8,9] (V.e1 7 [9,8] (V.e1 10 [] (V.e1 11 [] (V.tk [12,13] (V.e1 14 [] (V.tk [15] .done))))))),[],V.pok,.go (jac ?_)⟩
 refine V.u3 hs1 hr hw ?_
 exact Fin.of rfl
theorem of_c (n d:Int)(hn:InR .i64 n)(hd:InR .i64 d)(hd0:d≠0):Cl 102 [Ji n,Ji d] (frR (Rat.divInt n d)):=by
 have h1:=wof_c n hn
 have h2:=wof_c d hd
 simp only[V.InR,V.lo,V.hi] at hn hd
 have o1:=jcA n (by have:=jfE n.natAbs 19 Jo Jo;omega)
 have o2:=jcA d (by have:=jfE d.natAbs 19 Jo Jo;omega)
 have h3:=make_c (decZ n) (decZ d) o1 o2 (by rw[jbf];exact hd0)
 rw[jbf,jbf] at h3
 refine V.en tbOk Tryz.func102 ?_
 refine V.u3 h1 h2 h3 ?_
 exact Fin.of rfl
end Go.Proofs.YtbnghipgicmpdaaGreatDoor
end
section
namespace Go.Nb
theorem fold_ge:∀ (l:List UInt8) (acc:Nat),acc≤l.foldl (fun v c=>v*10+(c.toNat-48)) acc
 | [],_=>jjG _
 | c::r,acc=>by
  have:=fold_ge r (acc*10+(c.toNat-48))
  simp only[List.foldl_cons]
  omega
theorem jcX:∀ (l:List UInt8) (acc:Nat),(∀ c∈l,isDig c=true)→l.foldl (fun v c=>v*10+(c.toNat-48)) acc≤18446744073709551615 →
  Go.Lib.parseUintM 18446744073709551615 acc l = .ok (l.foldl (fun v c=>v*10+(c.toNat-48)) acc)
 | [],acc,_,_=>rfl
 | c::r,acc,hd,hl=>by
  have h1:=fold_ge r (acc*10+(c.toNat-48))
  have h2:=hd c Js
  unfold isDig at h2
  rw[decide_eq_true_eq] at h2
  simp only[List.foldl_cons] at hl ⊢
  unfold Go.Lib.parseUintM
  rw[if_pos h2,if_neg Jo,if_neg Jo]
  exact jcX r _ (fun c hc=>hd c (by simp[hc])) hl
theorem jfQ (n:Nat)(h:n≤18446744073709551615):Go.Lib.parseUintB 64 (dec n) = .ok n:=by
 unfold Go.Lib.parseUintB
 have hne:dec n≠[]:=by
  by_cases h10:n<10
  ·rw[jbN h10];simp
  ·rw[jcF Jo];simp
 rw[if_neg hne]
 have hv:(dec n).foldl (fun v c=>v*10+(c.toNat-48)) 0=n:=rdv_dec n
 have:=jcX (dec n) 0 (jg8 n) Jo
 rw[hv] at this
 exact this
theorem jgM (z:Int)(h1 : -9223372036854775808≤z)(h2:z≤9223372036854775807):Go.Lib.parseIntB 64 (decZ z) = .ok z:=by
 have hu:=jfQ z.natAbs Jo
 unfold decZ
 by_cases hz:z<0
 ·rw[if_pos hz,Go.Lib.parseIntB_minus,hu]
  unfold Go.Lib.signedC
  simp only
  rw[if_neg Jo]
  congr 1
  omega
 ·rw[if_neg hz]
  have hne:dec z.natAbs≠[]:=by
   by_cases h10:z.natAbs<10
   ·rw[jbN h10];simp
   ·rw[jcF Jo];simp
  have hd:=jg8 z.natAbs
  revert hu hd hne
  generalize dec z.natAbs=l
  intro hu hne hd
  cases l with
  | nil=>exact absurd rfl hne
  | cons c r=>
   have hc:=hd c Js
   unfold isDig at hc
   rw[decide_eq_true_eq] at hc
   rw[Go.Lib.parseIntB_plain 64 c r Jo Jo,hu]
   unfold Go.Lib.signlessC
   simp only
   rw[if_neg Jo]
   congr 1
   omega
theorem decZ_len (z:Int)(h1 : -9223372036854775808≤z)(h2:z≤9223372036854775807):(decZ z).length≤20:=by
 have:=(jbI 19 z.natAbs Jo Jo).1
 unfold decZ
 split
 ·simp only[jkn];omega
 ·omega
end Go.Nb
namespace Go.Proofs.YtbnghipgicmpdaaGreatDoor
open Go Go.V Go.Nb Go.RowKit Go.Proofs
set_option maxHeartbeats 4000000
set_option maxRecDepth 1000000
theorem wcheck_k (z:Int)(h1 : -9223372036854775808≤z)(h2:z≤9223372036854775807)(w:World)(hg:GlW w):Calls Tryz.prog 158 #[.string ⟨(decZ z).toArray⟩] w fun e w'=>e = .returned (.int .i64 0)∧RowKit.Below w.heap.size w w':=by
 have hl:=decZ_len z h1 h2
 have hd:(dec z.natAbs).length≤600:=jjH (jbI 19 z.natAbs Jo Jo).1 Jo
 have hc:=jcr (decZ z) Jo
 rw[if_pos (jcA z hd)] at hc
 refine(jfK hc w hg (vs:=[.string ⟨(decZ z).toArray⟩]) ?_).mono ?_
 ·simp only[DenL,Den];exact⟨_,_,rfl,⟨rfl,Jo⟩,rfl⟩
 ·rintro e w' ⟨v,h',rfl,hv,hb⟩
  simp only[Den] at hv
  rw[hv.1]
  exact⟨rfl,hb⟩
theorem int_w (z:Int)(h1 : -9223372036854775808≤z)(h2:z≤9223372036854775807)(w:World)(hg:GlW w):Calls Tryz.prog 116 #[.string ⟨(decZ z).toArray⟩] w fun e w'=>e = .returned (.tuple #[.int .i64 z,.int .i64 0])∧RowKit.Below w.heap.size w w':=by
 have hl:=decZ_len z h1 h2
 have hc:=wcheck_k z h1 h2 w hg
 have hp:=jgM z h1 h2
 have hsz:(⟨(decZ z).toArray⟩:ByteArray).size≤9223372036854775806:=by simp[ByteArray.size];omega
 have hpi:=fun w=>Tryz.strconv_ParseInt_10_at64_ok ⟨(decZ z).toArray⟩ hsz z (by simpa using hp) w
 go_enter Tryz.func116,Tryz.ntmps116
 go_wp2_with (go_at_call 158;refine hc.mono ?_)
 rintro e w1 ⟨rfl,hb1⟩
 go_wp2_with (go_at_call 163;refine(hpi w1).mono ?_)
 rintro e w2 ⟨rfl,hw⟩
 have hb2:RowKit.Below w.heap.size w w2:=by
  rcases hw with rfl|⟨t,rfl⟩
  ·exact hb1
  ·exact hb1.trans ((Lib.bytesWorld_below w1 _ _).mono hb1.size)
 go_wp2
 go_ret2
 exact⟨rfl,hb2⟩
theorem int_c (z:Int)(h1 : -9223372036854775808≤z)(h2:z≤9223372036854775807):Called Tryz.prog 116 [.str (decZ z)] (.tup [.int .i64 z,.int .i64 0]):=by
 refine ja8 Tryz.func116 rfl rfl rfl fun w hp vs ha hd=>?_
 simp only[DenL,Den] at hd
 obtain⟨v,_,rfl,⟨rfl,_⟩,rfl⟩:=hd
 refine(int_w z h1 h2 w ha.blk).mono fun e w' ⟨he,hw⟩=>⟨⟨_,he,fun hp=>?_⟩,hw⟩
 simp only[Den,DenL]
 exact⟨_,rfl,_,_,rfl,⟨rfl,by simp only[InR,V.lo,V.hi];omega⟩,_,_,rfl,⟨rfl,by constructor<;>decide⟩,rfl⟩
end Go.Proofs.YtbnghipgicmpdaaGreatDoor
end
section
namespace Go.Proofs.YtbnghipgicmpdaaGreatDoor
open Go Go.V Go.Nb
theorem plus_m (a b : Nat) (ha : (mg 1000000000 a).length ≤ 100000000) (hb : (mg 1000000000 b).length ≤ 100000000) : Cl 206 [.ints .u32 (mg 1000000000 a), .ints .u32 (mg 1000000000 b)] (.ints .u32 (mg 1000000000 (a + b))) := by
  have hdx := mg_dg (B := 1000000000) Jo a
  have hdy := mg_dg (B := 1000000000) Jo b
  have hvx := jaJ (B := 1000000000) Jo a
  have hvy := jaJ (B := 1000000000) Jo b
  have hpx := fun h => jcW (B := 1000000000) (n := a) Jo h
  have hpy := fun h => jcW (B := 1000000000) (n := b) Jo h
  have hex := jb9 (B := 1000000000) (n := a) Jo
  have hey := jb9 (B := 1000000000) (n := b) Jo
  generalize mg 1000000000 a = xs at *
  generalize mg 1000000000 b = ys at *
  refine V.en tbOk Tryz.func206 ?_
  (conv => whnf)
  refine V.st ?_
  refine V.br (fun hl => ?_) (fun hl => ?_)
  · rw [decide_eq_true_eq] at hl
    obtain ⟨N, hN⟩ : ∃ N, N = ys.length + 1 := ⟨_, rfl⟩
    have e1 : (ys.length : Int) + 1 = (N : Int) := Jo
    rw [Nat.add_comm a b]
    (conv => whnf)
    (try simp only [e1, jjF])
    repeat ((first | refine V.s1 ?_); (try simp only [e1, jjF]))
    (obtain ⟨hdx, hdy⟩ := And.intro hdy hdx)
    refine jad ((false, 0, [], 0) : Bool × Nat × List Int × Int) (fun s => s.2.2.1.length = s.2.1 ∧ Dg 1000000000 s.2.2.1 ∧ (0 ≤ s.2.2.2 ∧ s.2.2.2 ≤ 1) ∧ val 1000000000 s.2.2.1 + s.2.2.2 * ((1000000000 : Nat) : Int) ^ s.2.1 = val 1000000000 ((ys).take s.2.1) + val 1000000000 ((xs).take s.2.1) ∧ s.2.1 ≤ (ys).length ∧ (s.1 = false → s.2.2.1 = [])) (fun s => (ys).length - s.2.1)
      (fun s => match s.1 with | false => [(22, Ji s.2.1), (6, .int .u32 s.2.2.2), (5, .osl 19 0 0)] | true => [(22, Ji s.2.1), (6, .int .u32 s.2.2.2), (5, .osl 47 0 s.2.2.1.length)]) (fun s => match s.1 with | false => [(19, .arr .u32 [])] | true => [(47, .arr .u32 s.2.2.1), (19, .gone)]) ?_ ?_ ?_
    · exact V.wk
    · exact ⟨rfl, fun x hx => by simp at hx, Js, by simp [val], jjx _, fun _ => rfl⟩
    rintro ⟨_ | _, k, out, c⟩ ⟨h1, h2, h3, h4, h5, h6⟩
    · dsimp only at h1 h2 h3 h4 h5 h6 ⊢
      have h7 := h6 rfl
      clear h6
      subst h7
      have vx := jaj 1000000000 ys k
      have vy := jaj 1000000000 xs k
      have bx := jan Jo hdx k
      have by' := jan Jo hdy k
      have gy := jch (xs := xs) (k := k)
      generalize hx0 : (ys).getD k 0 = x at *
      generalize hy0 : (xs).getD k 0 = y at *
      refine V.r0 @jjF ?_
      refine V.br (fun hq => ?_) (fun hq => ?_)
      · rw [decide_eq_true_eq] at hq
        refine V.r0 (V.a2 @jjF hx0) ?_
        refine V.br (fun hy => ?_) (fun hy => ?_)
        · rw [decide_eq_true_eq] at hy
          refine V.r0 (V.a2 @jjF hy0) ?_
          refine V.br (fun hz => ?_) (fun hz => ?_)
          · rw [decide_eq_true_eq] at hz
            have hst := jaF (B := 1000000000) (x := x) (y := y) (d := (x + c + y - 1000000000)) (c' := 1) h1 h4 Jo
            rw [← vx, ← vy] at hst
            have hdg : Dg 1000000000 (([] : List Int) ++ [(x + c + y - 1000000000)]) := jai h2 (jaA Jo)
            have hl2 : (([] : List Int) ++ [(x + c + y - 1000000000)]).length = k + 1 := by simp [h1]
            have hl3 : (([] : List Int)).length + (List.take 1 (List.drop 0 [(x + c + y - 1000000000)])).length = (([] : List Int) ++ [(x + c + y - 1000000000)]).length := Js
            have hkc : ((k : Int) + 1) = ((k + 1 : Nat) : Int) := Jo
            refine V.r0 (V.a3 hl3 hkc @jjC) ?_
            try refine And.intro (fun _ => ⟨trivial, Jo⟩) ?_
            refine V.r0 (V.a3 hl3 hkc @jjC) ?_
            exact ⟨(true, k + 1, ([] : List Int) ++ [(x + c + y - 1000000000)], 1), ⟨hl2, hdg, by dsimp only; omega, hst, by dsimp only; omega, fun h => by cases h⟩, by dsimp only; omega, V.wk⟩
          · rw [decide_eq_false_iff_not] at hz
            have hst := jaF (B := 1000000000) (x := x) (y := y) (d := (x + c + y)) (c' := 0) h1 h4 Jo
            rw [← vx, ← vy] at hst
            have hdg : Dg 1000000000 (([] : List Int) ++ [(x + c + y)]) := jai h2 (jaA Jo)
            have hl2 : (([] : List Int) ++ [(x + c + y)]).length = k + 1 := by simp [h1]
            have hl3 : (([] : List Int)).length + (List.take 1 (List.drop 0 [(x + c + y)])).length = (([] : List Int) ++ [(x + c + y)]).length := Js
            have hkc : ((k : Int) + 1) = ((k + 1 : Nat) : Int) := Jo
            refine V.r0 (V.a3 hl3 hkc @jjC) ?_
            try refine And.intro (fun _ => ⟨trivial, Jo⟩) ?_
            refine V.r0 (V.a3 hl3 hkc @jjC) ?_
            exact ⟨(true, k + 1, ([] : List Int) ++ [(x + c + y)], 0), ⟨hl2, hdg, by dsimp only; omega, hst, by dsimp only; omega, fun h => by cases h⟩, by dsimp only; omega, V.wk⟩
        · rw [decide_eq_false_iff_not] at hy
          have := gy Jo
          refine V.r0 @jjF ?_
          refine V.br (fun hz => ?_) (fun hz => ?_)
          · rw [decide_eq_true_eq] at hz
            have hst := jaF (B := 1000000000) (x := x) (y := y) (d := (x + c - 1000000000)) (c' := 1) h1 h4 Jo
            rw [← vx, ← vy] at hst
            have hdg : Dg 1000000000 (([] : List Int) ++ [(x + c - 1000000000)]) := jai h2 (jaA Jo)
            have hl2 : (([] : List Int) ++ [(x + c - 1000000000)]).length = k + 1 := by simp [h1]
            have hl3 : (([] : List Int)).length + (List.take 1 (List.drop 0 [(x + c - 1000000000)])).length = (([] : List Int) ++ [(x + c - 1000000000)]).length := Js
            have hkc : ((k : Int) + 1) = ((k + 1 : Nat) : Int) := Jo
            refine V.r0 (V.a3 hl3 hkc @jjC) ?_
            try refine And.intro (fun _ => ⟨trivial, Jo⟩) ?_
            refine V.r0 (V.a3 hl3 hkc @jjC) ?_
            exact ⟨(true, k + 1, ([] : List Int) ++ [(x + c - 1000000000)], 1), ⟨hl2, hdg, by dsimp only; omega, hst, by dsimp only; omega, fun h => by cases h⟩, by dsimp only; omega, V.wk⟩
          · rw [decide_eq_false_iff_not] at hz
            have hst := jaF (B := 1000000000) (x := x) (y := y) (d := (x + c)) (c' := 0) h1 h4 Jo
            rw [← vx, ← vy] at hst
            have hdg : Dg 1000000000 (([] : List Int) ++ [(x + c)]) := jai h2 (jaA Jo)
            have hl2 : (([] : List Int) ++ [(x + c)]).length = k + 1 := by simp [h1]
            have hl3 : (([] : List Int)).length + (List.take 1 (List.drop 0 [(x + c)])).length = (([] : List Int) ++ [(x + c)]).length := Js
            have hkc : ((k : Int) + 1) = ((k + 1 : Nat) : Int) := Jo
            refine V.r0 (V.a3 hl3 hkc @jjC) ?_
            try refine And.intro (fun _ => ⟨trivial, Jo⟩) ?_
            refine V.r0 (V.a3 hl3 hkc @jjC) ?_
            exact ⟨(true, k + 1, ([] : List Int) ++ [(x + c)], 0), ⟨hl2, hdg, by dsimp only; omega, hst, by dsimp only; omega, fun h => by cases h⟩, by dsimp only; omega, V.wk⟩
      · rw [decide_eq_false_iff_not] at hq
        have h7 : k = 0 := by simpa using h1.symm
        have h8 : (ys).length = 0 := Jo
        have e2 := hey.mp (jj9.mp h8)
        have e3 := hex.mp (jj9.mp Jo)
        have e4 : c = 0 := by
          rw [jko Jo, jko Jo, hvy, hvx, e2, e3, h7] at h4
          simpa [val] using h4
        subst e4 h7
        rw [e2, e3]
        (conv => whnf)
        refine V.st ?_
        exact Fin.of rfl
    · clear h6
      dsimp only at h1 h2 h3 h4 h5 ⊢
      have vx := jaj 1000000000 ys k
      have vy := jaj 1000000000 xs k
      have bx := jan Jo hdx k
      have by' := jan Jo hdy k
      have gy := jch (xs := xs) (k := k)
      generalize hx0 : (ys).getD k 0 = x at *
      generalize hy0 : (xs).getD k 0 = y at *
      refine V.r0 @jjF ?_
      refine V.br (fun hq => ?_) (fun hq => ?_)
      · rw [decide_eq_true_eq] at hq
        refine V.r0 (V.a2 @jjF hx0) ?_
        refine V.br (fun hy => ?_) (fun hy => ?_)
        · rw [decide_eq_true_eq] at hy
          refine V.r0 (V.a2 @jjF hy0) ?_
          refine V.br (fun hz => ?_) (fun hz => ?_)
          · rw [decide_eq_true_eq] at hz
            have hst := jaF (B := 1000000000) (x := x) (y := y) (d := (x + c + y - 1000000000)) (c' := 1) h1 h4 Jo
            rw [← vx, ← vy] at hst
            have hdg : Dg 1000000000 (out ++ [(x + c + y - 1000000000)]) := jai h2 (jaA Jo)
            have hl2 : (out ++ [(x + c + y - 1000000000)]).length = k + 1 := by simp [h1]
            have hl3 : (out).length + (List.take 1 (List.drop 0 [(x + c + y - 1000000000)])).length = (out ++ [(x + c + y - 1000000000)]).length := Js
            have hkc : ((k : Int) + 1) = ((k + 1 : Nat) : Int) := Jo
            refine V.r0 (V.a3 hl3 hkc @jjC) ?_
            try refine And.intro (fun _ => ⟨trivial, Jo⟩) ?_
            refine V.r0 (V.a3 hl3 hkc @jjC) ?_
            exact ⟨(true, k + 1, out ++ [(x + c + y - 1000000000)], 1), ⟨hl2, hdg, by dsimp only; omega, hst, by dsimp only; omega, fun h => by cases h⟩, by dsimp only; omega, V.wk⟩
          · rw [decide_eq_false_iff_not] at hz
            have hst := jaF (B := 1000000000) (x := x) (y := y) (d := (x + c + y)) (c' := 0) h1 h4 Jo
            rw [← vx, ← vy] at hst
            have hdg : Dg 1000000000 (out ++ [(x + c + y)]) := jai h2 (jaA Jo)
            have hl2 : (out ++ [(x + c + y)]).length = k + 1 := by simp [h1]
            have hl3 : (out).length + (List.take 1 (List.drop 0 [(x + c + y)])).length = (out ++ [(x + c + y)]).length := Js
            have hkc : ((k : Int) + 1) = ((k + 1 : Nat) : Int) := Jo
            refine V.r0 (V.a3 hl3 hkc @jjC) ?_
            try refine And.intro (fun _ => ⟨trivial, Jo⟩) ?_
            refine V.r0 (V.a3 hl3 hkc @jjC) ?_
            exact ⟨(true, k + 1, out ++ [(x + c + y)], 0), ⟨hl2, hdg, by dsimp only; omega, hst, by dsimp only; omega, fun h => by cases h⟩, by dsimp only; omega, V.wk⟩
        · rw [decide_eq_false_iff_not] at hy
          have := gy Jo
          refine V.r0 @jjF ?_
          refine V.br (fun hz => ?_) (fun hz => ?_)
          · rw [decide_eq_true_eq] at hz
            have hst := jaF (B := 1000000000) (x := x) (y := y) (d := (x + c - 1000000000)) (c' := 1) h1 h4 Jo
            rw [← vx, ← vy] at hst
            have hdg : Dg 1000000000 (out ++ [(x + c - 1000000000)]) := jai h2 (jaA Jo)
            have hl2 : (out ++ [(x + c - 1000000000)]).length = k + 1 := by simp [h1]
            have hl3 : (out).length + (List.take 1 (List.drop 0 [(x + c - 1000000000)])).length = (out ++ [(x + c - 1000000000)]).length := Js
            have hkc : ((k : Int) + 1) = ((k + 1 : Nat) : Int) := Jo
            refine V.r0 (V.a3 hl3 hkc @jjC) ?_
            try refine And.intro (fun _ => ⟨trivial, Jo⟩) ?_
            refine V.r0 (V.a3 hl3 hkc @jjC) ?_
            exact ⟨(true, k + 1, out ++ [(x + c - 1000000000)], 1), ⟨hl2, hdg, by dsimp only; omega, hst, by dsimp only; omega, fun h => by cases h⟩, by dsimp only; omega, V.wk⟩
          · rw [decide_eq_false_iff_not] at hz
            have hst := jaF (B := 1000000000) (x := x) (y := y) (d := (x + c)) (c' := 0) h1 h4 Jo
            rw [← vx, ← vy] at hst
            have hdg : Dg 1000000000 (out ++ [(x + c)]) := jai h2 (jaA Jo)
            have hl2 : (out ++ [(x + c)]).length = k + 1 := by simp [h1]
            have hl3 : (out).length + (List.take 1 (List.drop 0 [(x + c)])).length = (out ++ [(x + c)]).length := Js
            have hkc : ((k : Int) + 1) = ((k + 1 : Nat) : Int) := Jo
            refine V.r0 (V.a3 hl3 hkc @jjC) ?_
            try refine And.intro (fun _ => ⟨trivial, Jo⟩) ?_
            refine V.r0 (V.a3 hl3 hkc @jjC) ?_
            exact ⟨(true, k + 1, out ++ [(x + c)], 0), ⟨hl2, hdg, by dsimp only; omega, hst, by dsimp only; omega, fun h => by cases h⟩, by dsimp only; omega, V.wk⟩
      · rw [decide_eq_false_iff_not] at hq
        have hk : k = (ys).length := Jo
        rw [jko Jo, jko Jo, hvy, hvx] at h4
        (conv => whnf)
        refine V.st ?_
        refine V.br (fun hc => ?_) (fun hc => ?_)
        · rw [decide_eq_true_eq] at hc
          have hc1 : c = 1 := Jo
          subst hc1
          have h8 : out ++ [1] = mg 1000000000 (b + a) := by
            have h9 : val 1000000000 (out ++ [1]) = ((b + a : Nat) : Int) := by rw [ja3, h1]; omega
            have h10 := jdQ (B := 1000000000) (l := out ++ [1]) Jo (jai h2 (jaA Jo)) (by
              rw [ja3, jkd, List.length_singleton, Nat.add_sub_cancel]
              have := jao h2
              omega)
            rw [h10, h9]; rfl
          (conv => whnf)
          refine V.st ?_
          exact Fin.of (by rw [← h8]; exact congrArg _ (jko Js))
        · rw [decide_eq_false_iff_not] at hc
          have hc1 : c = 0 := Jo
          subst hc1
          have h8 : out = mg 1000000000 (b + a) := by
            have h9 : val 1000000000 out = ((b + a : Nat) : Int) := Jo
            rcases jjI b with h0 | h0
            · have h10 : (ys).length = 0 := by rw [hey.mpr h0]; rfl
              have e3 := hex.mp (jj9.mp Jo)
              rw [h0, e3, jj9.mp (by omega : out.length = 0)]; rfl
            · have h10 := jdQ (B := 1000000000) (l := out) Jo h2 (by
                have h11 := hpy h0
                rw [h1, h9, hk]
                have h12 : ((1000000000 ^ ((ys).length - 1) : Nat) : Int) ≤ (b : Int) := by exact_mod_cast h11
                rw [jj0] at h12
                omega)
              rw [h10, h9]; rfl
          (conv => whnf)
          refine V.st ?_
          exact Fin.of (by rw [← h8, jko Js])
  · rw [decide_eq_false_iff_not] at hl
    obtain ⟨N, hN⟩ : ∃ N, N = xs.length + 1 := ⟨_, rfl⟩
    have e1 : (xs.length : Int) + 1 = (N : Int) := Jo
    (conv => whnf)
    (try simp only [e1, jjF])
    repeat ((first | refine V.s1 ?_); (try simp only [e1, jjF]))
    refine jad ((false, 0, [], 0) : Bool × Nat × List Int × Int) (fun s => s.2.2.1.length = s.2.1 ∧ Dg 1000000000 s.2.2.1 ∧ (0 ≤ s.2.2.2 ∧ s.2.2.2 ≤ 1) ∧ val 1000000000 s.2.2.1 + s.2.2.2 * ((1000000000 : Nat) : Int) ^ s.2.1 = val 1000000000 ((xs).take s.2.1) + val 1000000000 ((ys).take s.2.1) ∧ s.2.1 ≤ (xs).length ∧ (s.1 = false → s.2.2.1 = [])) (fun s => (xs).length - s.2.1)
      (fun s => match s.1 with | false => [(22, Ji s.2.1), (6, .int .u32 s.2.2.2), (5, .osl 19 0 0)] | true => [(22, Ji s.2.1), (6, .int .u32 s.2.2.2), (5, .osl 47 0 s.2.2.1.length)]) (fun s => match s.1 with | false => [(19, .arr .u32 [])] | true => [(47, .arr .u32 s.2.2.1), (19, .gone)]) ?_ ?_ ?_
    · exact V.wk
    · exact ⟨rfl, fun x hx => by simp at hx, Js, by simp [val], jjx _, fun _ => rfl⟩
    rintro ⟨_ | _, k, out, c⟩ ⟨h1, h2, h3, h4, h5, h6⟩
    · dsimp only at h1 h2 h3 h4 h5 h6 ⊢
      have h7 := h6 rfl
      clear h6
      subst h7
      have vx := jaj 1000000000 xs k
      have vy := jaj 1000000000 ys k
      have bx := jan Jo hdx k
      have by' := jan Jo hdy k
      have gy := jch (xs := ys) (k := k)
      generalize hx0 : (xs).getD k 0 = x at *
      generalize hy0 : (ys).getD k 0 = y at *
      refine V.r0 @jjF ?_
      refine V.br (fun hq => ?_) (fun hq => ?_)
      · rw [decide_eq_true_eq] at hq
        refine V.r0 (V.a2 @jjF hx0) ?_
        refine V.br (fun hy => ?_) (fun hy => ?_)
        · rw [decide_eq_true_eq] at hy
          refine V.r0 (V.a2 @jjF hy0) ?_
          refine V.br (fun hz => ?_) (fun hz => ?_)
          · rw [decide_eq_true_eq] at hz
            have hst := jaF (B := 1000000000) (x := x) (y := y) (d := (x + c + y - 1000000000)) (c' := 1) h1 h4 Jo
            rw [← vx, ← vy] at hst
            have hdg : Dg 1000000000 (([] : List Int) ++ [(x + c + y - 1000000000)]) := jai h2 (jaA Jo)
            have hl2 : (([] : List Int) ++ [(x + c + y - 1000000000)]).length = k + 1 := by simp [h1]
            have hl3 : (([] : List Int)).length + (List.take 1 (List.drop 0 [(x + c + y - 1000000000)])).length = (([] : List Int) ++ [(x + c + y - 1000000000)]).length := Js
            have hkc : ((k : Int) + 1) = ((k + 1 : Nat) : Int) := Jo
            refine V.r0 (V.a3 hl3 hkc @jjC) ?_
            try refine And.intro (fun _ => ⟨trivial, Jo⟩) ?_
            refine V.r0 (V.a3 hl3 hkc @jjC) ?_
            exact ⟨(true, k + 1, ([] : List Int) ++ [(x + c + y - 1000000000)], 1), ⟨hl2, hdg, by dsimp only; omega, hst, by dsimp only; omega, fun h => by cases h⟩, by dsimp only; omega, V.wk⟩
          · rw [decide_eq_false_iff_not] at hz
            have hst := jaF (B := 1000000000) (x := x) (y := y) (d := (x + c + y)) (c' := 0) h1 h4 Jo
            rw [← vx, ← vy] at hst
            have hdg : Dg 1000000000 (([] : List Int) ++ [(x + c + y)]) := jai h2 (jaA Jo)
            have hl2 : (([] : List Int) ++ [(x + c + y)]).length = k + 1 := by simp [h1]
            have hl3 : (([] : List Int)).length + (List.take 1 (List.drop 0 [(x + c + y)])).length = (([] : List Int) ++ [(x + c + y)]).length := Js
            have hkc : ((k : Int) + 1) = ((k + 1 : Nat) : Int) := Jo
            refine V.r0 (V.a3 hl3 hkc @jjC) ?_
            try refine And.intro (fun _ => ⟨trivial, Jo⟩) ?_
            refine V.r0 (V.a3 hl3 hkc @jjC) ?_
            exact ⟨(true, k + 1, ([] : List Int) ++ [(x + c + y)], 0), ⟨hl2, hdg, by dsimp only; omega, hst, by dsimp only; omega, fun h => by cases h⟩, by dsimp only; omega, V.wk⟩
        · rw [decide_eq_false_iff_not] at hy
          have := gy Jo
          refine V.r0 @jjF ?_
          refine V.br (fun hz => ?_) (fun hz => ?_)
          · rw [decide_eq_true_eq] at hz
            have hst := jaF (B := 1000000000) (x := x) (y := y) (d := (x + c - 1000000000)) (c' := 1) h1 h4 Jo
            rw [← vx, ← vy] at hst
            have hdg : Dg 1000000000 (([] : List Int) ++ [(x + c - 1000000000)]) := jai h2 (jaA Jo)
            have hl2 : (([] : List Int) ++ [(x + c - 1000000000)]).length = k + 1 := by simp [h1]
            have hl3 : (([] : List Int)).length + (List.take 1 (List.drop 0 [(x + c - 1000000000)])).length = (([] : List Int) ++ [(x + c - 1000000000)]).length := Js
            have hkc : ((k : Int) + 1) = ((k + 1 : Nat) : Int) := Jo
            refine V.r0 (V.a3 hl3 hkc @jjC) ?_
            try refine And.intro (fun _ => ⟨trivial, Jo⟩) ?_
            refine V.r0 (V.a3 hl3 hkc @jjC) ?_
            exact ⟨(true, k + 1, ([] : List Int) ++ [(x + c - 1000000000)], 1), ⟨hl2, hdg, by dsimp only; omega, hst, by dsimp only; omega, fun h => by cases h⟩, by dsimp only; omega, V.wk⟩
          · rw [decide_eq_false_iff_not] at hz
            have hst := jaF (B := 1000000000) (x := x) (y := y) (d := (x + c)) (c' := 0) h1 h4 Jo
            rw [← vx, ← vy] at hst
            have hdg : Dg 1000000000 (([] : List Int) ++ [(x + c)]) := jai h2 (jaA Jo)
            have hl2 : (([] : List Int) ++ [(x + c)]).length = k + 1 := by simp [h1]
            have hl3 : (([] : List Int)).length + (List.take 1 (List.drop 0 [(x + c)])).length = (([] : List Int) ++ [(x + c)]).length := Js
            have hkc : ((k : Int) + 1) = ((k + 1 : Nat) : Int) := Jo
            refine V.r0 (V.a3 hl3 hkc @jjC) ?_
            try refine And.intro (fun _ => ⟨trivial, Jo⟩) ?_
            refine V.r0 (V.a3 hl3 hkc @jjC) ?_
            exact ⟨(true, k + 1, ([] : List Int) ++ [(x + c)], 0), ⟨hl2, hdg, by dsimp only; omega, hst, by dsimp only; omega, fun h => by cases h⟩, by dsimp only; omega, V.wk⟩
      · rw [decide_eq_false_iff_not] at hq
        have h7 : k = 0 := by simpa using h1.symm
        have h8 : (xs).length = 0 := Jo
        have e2 := hex.mp (jj9.mp h8)
        have e3 := hey.mp (jj9.mp Jo)
        have e4 : c = 0 := by
          rw [jko Jo, jko Jo, hvx, hvy, e2, e3, h7] at h4
          simpa [val] using h4
        subst e4 h7
        rw [e2, e3]
        (conv => whnf)
        refine V.st ?_
        exact Fin.of rfl
    · clear h6
      dsimp only at h1 h2 h3 h4 h5 ⊢
      have vx := jaj 1000000000 xs k
      have vy := jaj 1000000000 ys k
      have bx := jan Jo hdx k
      have by' := jan Jo hdy k
      have gy := jch (xs := ys) (k := k)
      generalize hx0 : (xs).getD k 0 = x at *
      generalize hy0 : (ys).getD k 0 = y at *
      refine V.r0 @jjF ?_
      refine V.br (fun hq => ?_) (fun hq => ?_)
      · rw [decide_eq_true_eq] at hq
        refine V.r0 (V.a2 @jjF hx0) ?_
        refine V.br (fun hy => ?_) (fun hy => ?_)
        · rw [decide_eq_true_eq] at hy
          refine V.r0 (V.a2 @jjF hy0) ?_
          refine V.br (fun hz => ?_) (fun hz => ?_)
          · rw [decide_eq_true_eq] at hz
            have hst := jaF (B := 1000000000) (x := x) (y := y) (d := (x + c + y - 1000000000)) (c' := 1) h1 h4 Jo
            rw [← vx, ← vy] at hst
            have hdg : Dg 1000000000 (out ++ [(x + c + y - 1000000000)]) := jai h2 (jaA Jo)
            have hl2 : (out ++ [(x + c + y - 1000000000)]).length = k + 1 := by simp [h1]
            have hl3 : (out).length + (List.take 1 (List.drop 0 [(x + c + y - 1000000000)])).length = (out ++ [(x + c + y - 1000000000)]).length := Js
            have hkc : ((k : Int) + 1) = ((k + 1 : Nat) : Int) := Jo
            refine V.r0 (V.a3 hl3 hkc @jjC) ?_
            try refine And.intro (fun _ => ⟨trivial, Jo⟩) ?_
            refine V.r0 (V.a3 hl3 hkc @jjC) ?_
            exact ⟨(true, k + 1, out ++ [(x + c + y - 1000000000)], 1), ⟨hl2, hdg, by dsimp only; omega, hst, by dsimp only; omega, fun h => by cases h⟩, by dsimp only; omega, V.wk⟩
          · rw [decide_eq_false_iff_not] at hz
            have hst := jaF (B := 1000000000) (x := x) (y := y) (d := (x + c + y)) (c' := 0) h1 h4 Jo
            rw [← vx, ← vy] at hst
            have hdg : Dg 1000000000 (out ++ [(x + c + y)]) := jai h2 (jaA Jo)
            have hl2 : (out ++ [(x + c + y)]).length = k + 1 := by simp [h1]
            have hl3 : (out).length + (List.take 1 (List.drop 0 [(x + c + y)])).length = (out ++ [(x + c + y)]).length := Js
            have hkc : ((k : Int) + 1) = ((k + 1 : Nat) : Int) := Jo
            refine V.r0 (V.a3 hl3 hkc @jjC) ?_
            try refine And.intro (fun _ => ⟨trivial, Jo⟩) ?_
            refine V.r0 (V.a3 hl3 hkc @jjC) ?_
            exact ⟨(true, k + 1, out ++ [(x + c + y)], 0), ⟨hl2, hdg, by dsimp only; omega, hst, by dsimp only; omega, fun h => by cases h⟩, by dsimp only; omega, V.wk⟩
        · rw [decide_eq_false_iff_not] at hy
          have := gy Jo
          refine V.r0 @jjF ?_
          refine V.br (fun hz => ?_) (fun hz => ?_)
          · rw [decide_eq_true_eq] at hz
            have hst := jaF (B := 1000000000) (x := x) (y := y) (d := (x + c - 1000000000)) (c' := 1) h1 h4 Jo
            rw [← vx, ← vy] at hst
            have hdg : Dg 1000000000 (out ++ [(x + c - 1000000000)]) := jai h2 (jaA Jo)
            have hl2 : (out ++ [(x + c - 1000000000)]).length = k + 1 := by simp [h1]
            have hl3 : (out).length + (List.take 1 (List.drop 0 [(x + c - 1000000000)])).length = (out ++ [(x + c - 1000000000)]).length := Js
            have hkc : ((k : Int) + 1) = ((k + 1 : Nat) : Int) := Jo
            refine V.r0 (V.a3 hl3 hkc @jjC) ?_
            try refine And.intro (fun _ => ⟨trivial, Jo⟩) ?_
            refine V.r0 (V.a3 hl3 hkc @jjC) ?_
            exact ⟨(true, k + 1, out ++ [(x + c - 1000000000)], 1), ⟨hl2, hdg, by dsimp only; omega, hst, by dsimp only; omega, fun h => by cases h⟩, by dsimp only; omega, V.wk⟩
          · rw [decide_eq_false_iff_not] at hz
            have hst := jaF (B := 1000000000) (x := x) (y := y) (d := (x + c)) (c' := 0) h1 h4 Jo
            rw [← vx, ← vy] at hst
            have hdg : Dg 1000000000 (out ++ [(x + c)]) := jai h2 (jaA Jo)
            have hl2 : (out ++ [(x + c)]).length = k + 1 := by simp [h1]
            have hl3 : (out).length + (List.take 1 (List.drop 0 [(x + c)])).length = (out ++ [(x + c)]).length := Js
            have hkc : ((k : Int) + 1) = ((k + 1 : Nat) : Int) := Jo
            refine V.r0 (V.a3 hl3 hkc @jjC) ?_
            try refine And.intro (fun _ => ⟨trivial, Jo⟩) ?_
            refine V.r0 (V.a3 hl3 hkc @jjC) ?_
            exact ⟨(true, k + 1, out ++ [(x + c)], 0), ⟨hl2, hdg, by dsimp only; omega, hst, by dsimp only; omega, fun h => by cases h⟩, by dsimp only; omega, V.wk⟩
      · rw [decide_eq_false_iff_not] at hq
        have hk : k = (xs).length := Jo
        rw [jko Jo, jko Jo, hvx, hvy] at h4
        (conv => whnf)
        refine V.st ?_
        refine V.br (fun hc => ?_) (fun hc => ?_)
        · rw [decide_eq_true_eq] at hc
          have hc1 : c = 1 := Jo
          subst hc1
          have h8 : out ++ [1] = mg 1000000000 (a + b) := by
            have h9 : val 1000000000 (out ++ [1]) = ((a + b : Nat) : Int) := by rw [ja3, h1]; omega
            have h10 := jdQ (B := 1000000000) (l := out ++ [1]) Jo (jai h2 (jaA Jo)) (by
              rw [ja3, jkd, List.length_singleton, Nat.add_sub_cancel]
              have := jao h2
              omega)
            rw [h10, h9]; rfl
          (conv => whnf)
          refine V.st ?_
          exact Fin.of (by rw [← h8]; exact congrArg _ (jko Js))
        · rw [decide_eq_false_iff_not] at hc
          have hc1 : c = 0 := Jo
          subst hc1
          have h8 : out = mg 1000000000 (a + b) := by
            have h9 : val 1000000000 out = ((a + b : Nat) : Int) := Jo
            rcases jjI a with h0 | h0
            · have h10 : (xs).length = 0 := by rw [hex.mpr h0]; rfl
              have e3 := hey.mp (jj9.mp Jo)
              rw [h0, e3, jj9.mp (by omega : out.length = 0)]; rfl
            · have h10 := jdQ (B := 1000000000) (l := out) Jo h2 (by
                have h11 := hpx h0
                rw [h1, h9, hk]
                have h12 : ((1000000000 ^ ((xs).length - 1) : Nat) : Int) ≤ (a : Int) := by exact_mod_cast h11
                rw [jj0] at h12
                omega)
              rw [h10, h9]; rfl
          (conv => whnf)
          refine V.st ?_
          exact Fin.of (by rw [← h8, jko Js])
theorem jgN {out:List Int}{n k:Nat}{d:Int}(h:out.length=k)(hk:k<n):(out++List.replicate (n-k) 0).set k d=(out++[d])++List.replicate (n-(k+1)) 0:=by
 subst h
 have e:n-out.length=(n-(out.length+1))+1:=Jo
 rw[e,List.replicate_succ,List.set_append_right _ _ (jjG _),Nat.sub_self,List.set_cons_zero]
 simp
theorem jjt:type_of% @jjF∧type_of% @jjC:=⟨@jjF,@jjC⟩
theorem minus_m (a b:Nat)(hba:b≤a)(ha:(mg 1000000000 a).length≤100000000):Cl 207 [.ints .u32 (mg 1000000000 a),.ints .u32 (mg 1000000000 b)] (.ints .u32 (mg 1000000000 (a-b))):=by
 have hdx:=mg_dg (B:=1000000000) Jo a
 have hdy:=mg_dg (B:=1000000000) Jo b
 have hvx:=jaJ (B:=1000000000) Jo a
 have hvy:=jaJ (B:=1000000000) Jo b
 have hlen:=jah (B:=1000000000) Jo hba
 generalize mg 1000000000 a=xs at *
 generalize mg 1000000000 b=ys at *
 refine V.en tbOk Tryz.func207 ?_
 refine V.r0 @jjF ?_
 refine jad ((0,[],0):Nat×List Int×Int) (fun s=>s.2.1.length=s.1∧Dg 1000000000 s.2.1∧(0≤s.2.2∧s.2.2≤1)∧val 1000000000 s.2.1-s.2.2*((1000000000:Nat):Int)^s.1=val 1000000000 (xs.take s.1)-val 1000000000 (ys.take s.1)∧s.1≤xs.length) (fun s=>xs.length-s.1)
  (fun s=>[(15,Ji s.1),(6,.int .u32 s.2.2),(5,.osl 12 0 xs.length)]) (fun s=>[(12,.arr .u32 (s.2.1++List.replicate (xs.length-s.1) 0))]) ?_ ?_ ?_
 ·exact V.wk
 ·exact⟨rfl,fun x hx=>by simp at hx,Js,by simp[val],jjx _⟩
 rintro⟨k,out,c⟩ ⟨h1,h2,h3,h4,h5⟩
 dsimp only at h1 h2 h3 h4 h5 ⊢
 have vx:=jaj 1000000000 xs k
 have vy:=jaj 1000000000 ys k
 have bx:=jan Jo hdx k
 have by':=jan Jo hdy k
 have gy:=jch (xs:=ys) (k:=k)
 generalize hx0:xs.getD k 0=x at *
 generalize hy0:ys.getD k 0=y at *
 refine V.r0 @jjF ?_
 refine V.br (fun hq=>?_) (fun hq=>?_)
 ·rw[decide_eq_true_eq] at hq
  refine V.r0 (V.a2 @jjF hx0) ?_
  refine V.br (fun hy=>?_) (fun hy=>?_)
  ·rw[decide_eq_true_eq] at hy
   refine V.r0 (V.a2 @jjF hy0) ?_
   refine V.br (fun hz=>?_) (fun hz=>?_)
   ·rw[decide_eq_true_eq] at hz
    have hst:=jb4 (B:=1000000000) (x:=x) (y:=y) (d:=(x+1000000000-(c+y))) (b':=1) h1 h4 Jo
    rw[← vx,← vy] at hst
    have hdg:Dg 1000000000 (out++[(x+1000000000-(c+y))]):=jai h2 (jaA Jo)
    have hps:=jgN (d:=(x+1000000000-(c+y))) (n:=xs.length) h1 Jo
    have hkc:((k:Int)+1)=((k+1:Nat):Int):=Jo
    refine V.r0 (V.a3 jjt hps hkc) ?_
    refine V.r0 (V.a3 jjt hps hkc) ?_
    exact⟨(k+1,out++[(x+1000000000-(c+y))],1),⟨by dsimp only;simp[h1],hdg,by dsimp only;omega,hst,by dsimp only;omega⟩,by dsimp only;omega,V.wk⟩
   ·rw[decide_eq_false_iff_not] at hz
    have hst:=jb4 (B:=1000000000) (x:=x) (y:=y) (d:=(x-(c+y))) (b':=0) h1 h4 Jo
    rw[← vx,← vy] at hst
    have hdg:Dg 1000000000 (out++[(x-(c+y))]):=jai h2 (jaA Jo)
    have hps:=jgN (d:=(x-(c+y))) (n:=xs.length) h1 Jo
    have hkc:((k:Int)+1)=((k+1:Nat):Int):=Jo
    refine V.r0 (V.a3 jjt hps hkc) ?_
    refine V.r0 (V.a3 jjt hps hkc) ?_
    exact⟨(k+1,out++[(x-(c+y))],0),⟨by dsimp only;simp[h1],hdg,by dsimp only;omega,hst,by dsimp only;omega⟩,by dsimp only;omega,V.wk⟩
  ·rw[decide_eq_false_iff_not] at hy
   have:=gy Jo
   refine V.r0 @jjF ?_
   refine V.br (fun hz=>?_) (fun hz=>?_)
   ·rw[decide_eq_true_eq] at hz
    have hst:=jb4 (B:=1000000000) (x:=x) (y:=y) (d:=(x+1000000000-c)) (b':=1) h1 h4 Jo
    rw[← vx,← vy] at hst
    have hdg:Dg 1000000000 (out++[(x+1000000000-c)]):=jai h2 (jaA Jo)
    have hps:=jgN (d:=(x+1000000000-c)) (n:=xs.length) h1 Jo
    have hkc:((k:Int)+1)=((k+1:Nat):Int):=Jo
    refine V.r0 (V.a3 jjt hps hkc) ?_
    refine V.r0 (V.a3 jjt hps hkc) ?_
    exact⟨(k+1,out++[(x+1000000000-c)],1),⟨by dsimp only;simp[h1],hdg,by dsimp only;omega,hst,by dsimp only;omega⟩,by dsimp only;omega,V.wk⟩
   ·rw[decide_eq_false_iff_not] at hz
    have hst:=jb4 (B:=1000000000) (x:=x) (y:=y) (d:=(x-c)) (b':=0) h1 h4 Jo
    rw[← vx,← vy] at hst
    have hdg:Dg 1000000000 (out++[(x-c)]):=jai h2 (jaA Jo)
    have hps:=jgN (d:=(x-c)) (n:=xs.length) h1 Jo
    have hkc:((k:Int)+1)=((k+1:Nat):Int):=Jo
    refine V.r0 (V.a3 jjt hps hkc) ?_
    refine V.r0 (V.a3 jjt hps hkc) ?_
    exact⟨(k+1,out++[(x-c)],0),⟨by dsimp only;simp[h1],hdg,by dsimp only;omega,hst,by dsimp only;omega⟩,by dsimp only;omega,V.wk⟩
 ·rw[decide_eq_false_iff_not] at hq
  have hk:k=xs.length:=Jo
  rw[jko Jo,jko Jo,hvx,hvy] at h4
  have h0:=jao h2
  have h6:=jcj h2
  have hc:c=0:=by
   rw[h1] at h6
   rcases (by omega:c=0∨c=1) with e|e
   ·exact e
   ·subst e;omega
  subst hc
  have htr:=jfW out h2 Jo
  rw[(by omega:(val 1000000000 out).toNat=a-b)] at htr
  have hrep:out++List.replicate (xs.length-k) 0=out:=by rw[hk,Nat.sub_self];simp
  rw[hrep]
  rw[← jkz (l:=out),h1,hk] at htr
  refine V.u1 htr ?_
  exact Fin.of rfl
theorem jfe (x y:Rat):(x.num*y.den + -(y.num*x.den)).sign=(if x<y then -1 else if x=y then 0 else 1:Int):=by
 have h1:x<y↔x.num*y.den<y.num*x.den:=Rat.lt_iff x y
 have h2:x=y↔x.num*y.den=y.num*x.den:=by
  conv=>lhs;rw[← jj6 x,← jj6 y]
  exact Rat.divInt_eq_divInt_iff (by have:=x.den_pos;omega) (by have:=y.den_pos;omega)
 by_cases a1:x<y
 ·rw[if_pos a1];exact jj4 (by have:=h1.1 a1;omega)
 ·rw[if_neg a1]
  by_cases a2:x=y
  ·rw[if_pos a2,show x.num*y.den + -(y.num*x.den)=0 by have:=h2.1 a2;omega];rfl
  ·rw[if_neg a2]
   refine jj5 ?_
   have b1:¬ (x.num*y.den<y.num*x.den):=fun h=>a1 (h1.2 h)
   have b2:¬ (x.num*y.den=y.num*x.den):=fun h=>a2 (h2.2 h)
   omega
def ordQ (x y:Rat):Int:=if x<y then -1 else if x=y then 0 else 1
def S9 (k:Nat)(z:Int):Prop:=(mg 1000000000 z.natAbs).length≤k
theorem S9.mono {k l:Nat}{z:Int}(h:S9 k z)(hl:k≤l):S9 l z:=jjH h hl
theorem S9.neg {k:Nat}{z:Int}(h:S9 k z):S9 k (-z):=by unfold S9 at *; rw[Int.natAbs_neg];exact h
theorem S9.le {k:Nat}{y z:Int}(h:S9 k z)(hy:y.natAbs≤z.natAbs):S9 k y:=jjH (jah Jo hy) h
theorem S9.mul {k l:Nat}{y z:Int}(h:S9 k y)(h2:S9 l z):S9 (k+l) (y*z):=by
 unfold S9 at *
 rw[Int.natAbs_mul]
 have:=jbV (B:=1000000000) Jo y.natAbs z.natAbs
 omega
theorem S9.add {k:Nat}{y z:Int}(h:S9 k y)(h2:S9 k z):S9 (k+1) (y+z):=by
 unfold S9 at *
 have h3:=jde (B:=1000000000) Jo y.natAbs z.natAbs
 have h4:=jah (B:=1000000000) Jo (Int.natAbs_add_le y z)
 omega
theorem S9.lit {k:Nat}{z:Int}(h:z.natAbs<1000000000^k):S9 k z:=jax Jo h
theorem S9.nat {k:Nat}{n:Nat} : S9 k (n:Int)↔(mg 1000000000 n).length≤k:=by unfold S9;rw[jjV]
theorem sum_c9 (x y:Int)(hx:S9 90000000 x)(hy:S9 90000000 y):Cl 166 [itD x,itD y] (itD (x+y)):=by
 unfold S9 at hx hy
 have hl:=jde (B:=1000000000) Jo x.natAbs y.natAbs
 have hs:=plus_m x.natAbs y.natAbs Jo Jo
 have ho:=jcq x.natAbs y.natAbs Jo Jo
 rw[show itD x = .agg [.ints .u32 (mg 1000000000 x.natAbs),.bool (decide (x<0))] from rfl,show itD y = .agg [.ints .u32 (mg 1000000000 y.natAbs),.bool (decide (y<0))] from rfl]
 refine V.en tbOk Tryz.func166 ?_
 (conv=>whnf)
 refine V.st ?_
 refine V.br (fun hq=>?_) (fun hq=>?_)
 ·rw[beq_iff_eq,decide_eq_decide] at hq
  have hm:=ja9 (x.natAbs+y.natAbs) (decide (x<0))
  have e:(if decide (x<0)=true then -((x.natAbs+y.natAbs:Nat):Int) else ((x.natAbs+y.natAbs:Nat):Int))=x+y:=by
   by_cases h:x<0
   ·simp[h];omega
   ·simp[h];omega
  rw[e] at hm
  (conv=>whnf)
  refine V.st ?_
  refine⟨Pq53z,[],V.pok,.go (jac ?_)⟩
  refine V.u2 hs hm ?_
  exact Fin.of rfl
 ·have hq':¬ (x<0↔y<0):=fun h=>by rw[beq_eq_false_iff_ne] at hq;exact hq (decide_eq_decide.2 h)
  refine V.u1 ho ?_
  refine V.br (fun hq2=>?_) (fun hq2=>?_)
  ·rw[decide_eq_true_eq] at hq2
   have hq3:=Int.neg_of_sign_eq_neg_one (a:=((x.natAbs:Int)-y.natAbs)) (by have:=Int.sign_trichotomy ((x.natAbs:Int)-y.natAbs);omega)
   have hd:=minus_m y.natAbs x.natAbs Jo Jo
   have hm:=ja9 (y.natAbs-x.natAbs) (decide (y<0))
   have e:(if decide (y<0)=true then -((y.natAbs-x.natAbs:Nat):Int) else ((y.natAbs-x.natAbs:Nat):Int))=x+y:=by
    by_cases h:y<0
    ·simp[h];omega
    ·simp[h];omega
   rw[e] at hm
   (conv=>whnf)
   refine V.st ?_
   refine⟨Pq53z,[],V.pok,.go (jac ?_)⟩
   refine V.u2 hd hm ?_
   exact Fin.of rfl
  ·rw[decide_eq_false_iff_not] at hq2
   have hq3:¬ ((x.natAbs:Int)-y.natAbs)<0:=fun h=>hq2 (by rw[jj4 h];decide)
   have hd:=minus_m x.natAbs y.natAbs Jo Jo
   have hm:=ja9 (x.natAbs-y.natAbs) (decide (x<0))
   have e:(if decide (x<0)=true then -((x.natAbs-y.natAbs:Nat):Int) else ((x.natAbs-y.natAbs:Nat):Int))=x+y:=by
    by_cases h:x<0
    ·simp[h];omega
    ·simp[h];omega
   rw[e] at hm
   (conv=>whnf)
   refine V.st ?_
   refine⟨Pq53z,[],V.pok,.go (jac ?_)⟩
   refine V.u2 hd hm ?_
   exact Fin.of rfl
theorem jdD (x:Int)(d:Nat)(hx:S9 90000000 x)(hd:(mg 1000000000 d).length≤90000000):Cl 164 [itD x,.ints .u32 (mg 1000000000 d)] (itD (x*d)):=by
 unfold S9 at hx
 have ht:=jcL x.natAbs d Jo Jo
 have hm:=ja9 (x.natAbs*d) (decide (x<0))
 have e:(if decide (x<0)=true then -((x.natAbs*d:Nat):Int) else ((x.natAbs*d:Nat):Int))=x*d:=by
  rw[jjQ]
  by_cases h:x<0
  ·have e2:(x.natAbs:Int) = -x:=Jo
   rw[e2,decide_eq_true h,if_pos rfl,Int.neg_mul,Int.neg_neg]
  ·have e2:(x.natAbs:Int)=x:=Jo
   rw[e2];simp[h]
 rw[e] at hm
 refine V.en tbOk Tryz.func164 ?_
 (conv=>whnf)
 refine V.st ?_
 refine⟨(V.tk [0,1,2,4,5] (V.e1 3 [5,4] (V.e1 6 [] (V.e1 7 [] .done)))),[],V.pok,.go (jac ?_)⟩
 refine V.u2 ht hm ?_
 exact Fin.of rfl
theorem jf8 (x:Int):Cl 218 [itD x] (itD (-x)):=by
 have hm:=ja9 x.natAbs (!decide (x<0))
 have e:(if (!decide (x<0))=true then -(x.natAbs:Int) else (x.natAbs:Int)) = -x:=by
  by_cases h:x<0
  ·simp[h];omega
  ·simp[h];omega
 rw[e] at hm
 refine V.en tbOk Tryz.func218 ?_
 refine V.u1 hm ?_
 exact Fin.of rfl
theorem sign_c (x:Int):Cl 160 [itD x] (Ji x.sign):=by
 have hz:=jdv x.natAbs
 refine V.en tbOk Tryz.func160 ?_
 refine V.u1 hz ?_
 refine V.br (fun hq=>?_) (fun hq=>?_)
 ·rw[decide_eq_true_eq] at hq
  (conv=>whnf)
  refine V.st ?_
  exact Fin.of (by rw[show x=0 by omega];rfl)
 ·rw[decide_eq_false_iff_not] at hq
  (conv=>whnf)
  refine V.st ?_
  refine V.br (fun hq2=>?_) (fun hq2=>?_)
  ·rw[decide_eq_true_eq] at hq2
   (conv=>whnf)
   refine V.st ?_
   exact Fin.of (by rw[jj4 hq2])
  ·rw[decide_eq_false_iff_not] at hq2
   (conv=>whnf)
   refine V.st ?_
   exact Fin.of (by rw[jj5 Jo])
theorem jgQ (x y:Rat)(hx:S9 40000000 x.num)(hy:S9 40000000 y.num)(hxd:(mg 1000000000 x.den).length≤40000000)(hyd:(mg 1000000000 y.den).length≤40000000):Cl 184 [rtD x,rtD y] (Ji (ordQ x y)):=by
 have s1:=jdD x.num y.den (hx.mono Jo) Jo
 have s2:=jdD y.num x.den (hy.mono Jo) Jo
 have s3:=jf8 (y.num*x.den)
 have z1:S9 80000000 (x.num*y.den):=hx.mul (S9.nat.2 hyd)
 have z2:S9 80000000 (y.num*x.den):=hy.mul (S9.nat.2 hxd)
 have s4:=sum_c9 (x.num*y.den) (-(y.num*x.den)) (z1.mono Jo) (z2.neg.mono Jo)
 have s5:=sign_c (x.num*y.den + -(y.num*x.den))
 rw[jfe] at s5
 refine V.en tbOk Tryz.func184 ?_
 (conv=>whnf)
 refine V.st ?_
 refine⟨(V.tk [0,1,2,3,5,6,7,8] (V.e1 4 [8,7,6,5] (V.e1 9 [] (V.e1 10 [] (V.e1 11 [] (V.e1 12 [] (V.tk [13] .done))))))),[],V.pok,.go (jac ?_)⟩
 refine V.u5 s1 s2 s3 s4 s5 ?_
 exact Fin.of rfl
theorem floor_neg (x:Int)(d:Nat)(hx:x<0)(hd:0<d):x/(d:Int)=if x.natAbs%d=0 then -((x.natAbs/d:Nat):Int) else -((x.natAbs/d+1:Nat):Int):=by
 have h1:=Nat.div_add_mod x.natAbs d
 have h2:=jjJ x.natAbs hd
 have e:x = -(x.natAbs:Int):=Jo
 generalize x.natAbs=n at *
 generalize hq:n/d=q at *
 generalize hr:n%d=r at *
 subst e
 have h3:((d*q+r:Nat):Int)=(n:Int):=by rw[h1]
 rw[Int.natCast_add,jjQ] at h3
 split
 ·rename_i h
  subst h
  rw[← h3,Int.natCast_zero,jjZ,← Int.mul_neg,Int.mul_ediv_cancel_left _ Jo]
 ·rw[Int.natCast_add,Int.natCast_one]
  refine(Int.ediv_eq_iff_of_pos Jo).2 ⟨?_,?_⟩
  ·rw[← h3,Int.neg_mul,jj1,jjS (q:Int)];omega
  ·rw[← h3,Int.neg_mul,jj1,jjS (q:Int)];omega
theorem floor_c (x:Int)(d:Nat)(hd:0<d)(hx:S9 80000000 x)(hdl:(mg 1000000000 d).length≤80000000):Cl 168 [itD x,.ints .u32 (mg 1000000000 d)] (itD (x/d)):=by
 unfold S9 at hx
 have h1:=jbl x.natAbs d hd Jo Jo
 have h2:=jdv (x.natAbs%d)
 have hl2:=jah (B:=1000000000) Jo (jjX x.natAbs d)
 have h3:=plus_m (x.natAbs/d) 1 Jo Jd
 have h4:=ja9 (x.natAbs/d+1) (decide (x<0))
 have h5:=ja9 (x.natAbs/d) (decide (x<0))
 by_cases hx0:x<0
 ·rw[floor_neg x d hx0 hd]
  rw[show itD x = .agg [.ints .u32 (mg 1000000000 x.natAbs),.bool (decide (x<0))] from rfl]
  rw[decide_eq_true hx0] at h4 h5 ⊢
  rw[if_pos rfl] at h4 h5
  refine V.en tbOk Tryz.func168 ?_
  refine V.u2 h1 h2 ?_
  refine V.br (fun hq=>?_) (fun hq=>?_)
  ·simp only[Bool.true_and,Bool.not_eq_true',decide_eq_false_iff_not] at hq
   rw[if_neg hq]
   refine V.u2 h3 h4 ?_
   exact Fin.of rfl
  ·simp only[Bool.true_and,Bool.not_eq_false',decide_eq_true_eq] at hq
   rw[if_pos hq]
   refine V.u1 h5 ?_
   exact Fin.of rfl
 ·have e:x/(d:Int)=((x.natAbs/d:Nat):Int):=by
   rw[Int.natCast_ediv];congr 1;omega
  rw[e]
  rw[show itD x = .agg [.ints .u32 (mg 1000000000 x.natAbs),.bool (decide (x<0))] from rfl]
  rw[decide_eq_false hx0] at h5 ⊢
  rw[if_neg Js] at h5
  refine V.en tbOk Tryz.func168 ?_
  refine V.u2 h1 h2 ?_
  refine V.br (fun hq=>?_) (fun hq=>?_)
  ·simp at hq
  ·(conv=>whnf)
   refine V.u1 h5 ?_
   exact Fin.of rfl
def nearZ (q:Rat)(s:Nat):Int:=(q.num*((s*2:Nat):Int)+q.den)/((q.den*2:Nat):Int)
theorem near_r (x:Rat)(s:Nat)(hx:S9 30000000 x.num)(hxd:(mg 1000000000 x.den).length≤30000000)(hs:(mg 1000000000 s).length≤30000000):Cl 117 [rtD x,.ints .u32 (mg 1000000000 s)] (itD (nearZ x s)):=by
 have h2:(mg 1000000000 2).length≤1:=Jd
 have t1:=jcL s 2 Jo Jo
 have l1:=jbV (B:=1000000000) Jo s 2
 have s1:=jdD x.num (s*2) (hx.mono Jo) Jo
 have s2:=ja9 x.den false
 rw[if_neg Js] at s2
 have z1:S9 60000001 (x.num*((s*2:Nat):Int)):=hx.mul (l:=30000001) (S9.nat.2 Jo)
 have z2:S9 60000001 (x.den:Int):=S9.nat.2 Jo
 have s3:=sum_c9 _ _ (z1.mono Jo) (z2.mono Jo)
 have t2:=jcL x.den 2 Jo Jo
 have l2:=jbV (B:=1000000000) Jo x.den 2
 have s4:=floor_c (x.num*((s*2:Nat):Int)+x.den) (x.den*2) (by have:=x.den_pos;omega) ((z1.add z2).mono Jo) Jo
 unfold nearZ
 clear z1 z2
 generalize x.num*((s*2:Nat):Int)+x.den=top at *
 refine V.en tbOk Tryz.func117 ?_
 (conv=>whnf)
 refine V.st ?_
 refine⟨(V.tk [0,1,2,3,6,7] (.ev (.cons 4 [7,6,1,0] (.ev (.cons 5 [7,6] (.ev (.cons 8 [] (.ev (.cons 9 [] (V.e1 10 [] (V.e1 11 [] .done)) (.cons 10 [] (V.e1 9 [] (V.e1 11 [] .done)) .nil))) (.cons 10 [7,6] (V.e1 8 [] (V.e1 9 [] (V.e1 11 [] .done))) .nil))) (.cons 10 [7,6,1,0] (V.e1 5 [7,6] (V.e1 8 [] (V.e1 9 [] (V.e1 11 [] .done)))) .nil))) (.cons 10 [7,6,3,2,1,0] (V.e1 4 [7,6,1,0] (V.e1 5 [7,6] (V.e1 8 [] (V.e1 9 [] (V.e1 11 [] .done))))) .nil)))),[],V.pok,?_⟩
 refine jab [(6,.box 6 0),(5,.ints .u32 [2]),(7,.ints .u32 [2])] [(6,.box [.ints .u32 (mg 1000000000 top.natAbs),.bool (decide (top<0))]),(7,.gone)] ?_ ?_
 ·exact V.d4 @jjC t1 s1 s2 s3
 refine V.st ?_
 refine⟨(V.tk [0,1,2,3] (V.e1 4 [0] (V.e1 5 [] (V.e1 6 [] .done)))),[],V.pok,.go (jac ?_)⟩
 refine V.u2 t2 s4 ?_
 exact Fin.of rfl
theorem jdh (n:Int)(d:Nat)(hd:0<d)(h:Nat.Coprime n.natAbs d):(Rat.divInt n d).num=n∧(Rat.divInt n d).den=d:=by
 have h1:Int.gcd (d:Int) n=1:=by rw[Int.gcd_comm];exact h
 rw[Rat.num_divInt,Rat.den_divInt,if_neg Jo,jj5 Jo,jj2,h1]
 simp
theorem jfI {a b c:Nat}(h:Nat.Coprime a b)(hc:c ∣ a):Nat.Coprime c b:=Nat.Coprime.coprime_dvd_left hc h
theorem cop_dvd' {a b c:Nat}(h:Nat.Coprime a b)(hc:c ∣ b):Nat.Coprime a c:=Nat.Coprime.coprime_dvd_right hc h
theorem sum_cop {xn yn:Int}{R L xb:Nat}(hx:Nat.Coprime xn.natAbs xb)(hR:R ∣ xb)(hRL:Nat.Coprime R L):Nat.Coprime (xn*L+yn*R).natAbs R:=by
 have h1:Nat.gcd (xn*L+yn*R).natAbs R ∣ R:=Nat.gcd_dvd_right _ _
 have h2:Nat.gcd (xn*L+yn*R).natAbs R ∣ (xn*L+yn*R).natAbs:=Nat.gcd_dvd_left _ _
 obtain⟨d,hd⟩:∃ d,d=Nat.gcd (xn*L+yn*R).natAbs R:=⟨_,rfl⟩
 rw[← hd] at h1 h2
 have h3:(d:Int) ∣ xn*L+yn*R:=Int.ofNat_dvd_left.2 h2
 have h4:(d:Int) ∣ yn*R:=Int.dvd_trans (Int.ofNat_dvd.2 h1) (Int.dvd_mul_left _ _)
 have h5:(d:Int) ∣ xn*L:=by
  have:=Int.dvd_sub h3 h4
  rwa [Int.add_sub_cancel] at this
 have h6:d ∣ xn.natAbs*L:=by
  have:=Int.ofNat_dvd_left.1 h5
  rwa [Int.natAbs_mul,jjV] at this
 have h7:Nat.Coprime d L:=jfI hRL h1
 have h8:d ∣ xn.natAbs:=Nat.Coprime.dvd_of_dvd_mul_right h7 h6
 have h9:d ∣ Nat.gcd xn.natAbs xb:=Nat.dvd_gcd h8 (Nat.dvd_trans h1 hR)
 rw[hx.gcd_eq_one] at h9
 show Nat.gcd _ _=1
 rw[← hd]
 exact Nat.dvd_one.1 h9
theorem add_parts (x y:Rat) :
  let g:=Nat.gcd x.den y.den;let L:=y.den/g;let R:=x.den/g;let top:=x.num*L+y.num*R;let h:=Nat.gcd top.natAbs g
  (x+y).num=top/h∧(x+y).den=R*(y.den/h):=by
 intro g L R top h
 have hg:0<g:=Nat.gcd_pos_of_pos_left _ x.den_pos
 have ex:x.den=R*g:=(Nat.div_mul_cancel (Nat.gcd_dvd_left _ _)).symm
 have ey:y.den=L*g:=(Nat.div_mul_cancel (Nat.gcd_dvd_right _ _)).symm
 have hRL:Nat.Coprime R L:=Nat.coprime_div_gcd_div_gcd hg
 have c1:Nat.Coprime top.natAbs R:=sum_cop x.reduced (by rw[ex];exact Nat.dvd_mul_right _ _) hRL
 have c2:Nat.Coprime top.natAbs L:=by
  have:=sum_cop (xn:=y.num) (yn:=x.num) (R:=L) (L:=R) y.reduced (by rw[ey];exact Nat.dvd_mul_right _ _) hRL.symm
  rwa [Int.add_comm] at this
 have hh:0<h:=Nat.gcd_pos_of_pos_right _ hg
 have hht:h ∣ top.natAbs:=Nat.gcd_dvd_left _ _
 have hhg:h ∣ g:=Nat.gcd_dvd_right _ _
 have hT:((h:Nat):Int) ∣ top:=Int.ofNat_dvd_left.2 hht
 obtain⟨t,ht⟩:=hT
 obtain⟨q,hq⟩:=hhg
 have hyq:y.den/h=L*q:=by
  rw[ey,hq,jjK h q,← Nat.mul_assoc,Nat.mul_div_cancel _ hh]
 have htn:top.natAbs=h*t.natAbs:=by rw[ht,Int.natAbs_mul,jjV]
 have hcq:Nat.Coprime t.natAbs q:=by
  have h1:Nat.Coprime (top.natAbs/h) (g/h):=Nat.coprime_div_gcd_div_gcd hh
  rwa [htn,hq,Nat.mul_div_cancel_left _ hh,Nat.mul_div_cancel_left _ hh] at h1
 have htd:t.natAbs ∣ top.natAbs:=by rw[htn];exact Nat.dvd_mul_left _ _
 have hcop:Nat.Coprime t.natAbs (R*(y.den/h)):=by
  rw[hyq]
  exact Nat.Coprime.mul_right (jfI c1 htd) (Nat.Coprime.mul_right (jfI c2 htd) hcq)
 have hqp:0<q:=Nat.pos_of_ne_zero fun e=>by rw[e] at hq;omega
 have hLp:0<L:=Nat.pos_of_ne_zero fun e=>by have:=y.den_pos;rw[ey,e] at this;omega
 have hRp:0<R:=Nat.pos_of_ne_zero fun e=>by have:=x.den_pos;rw[ex,e] at this;omega
 have hsum:x+y=Rat.divInt t ((R*(y.den/h):Nat):Int):=by
  conv=>lhs;rw[← jj6 x,← jj6 y]
  rw[Rat.divInt_add_divInt _ _ (by have:=x.den_pos;omega) (by have:=y.den_pos;omega)]
  have hyp:=y.den_pos
  have hxp:=x.den_pos
  rw[Rat.divInt_eq_divInt_iff (by have:=Nat.mul_pos hxp hyp;rw[← jjQ];omega) (by have:0<R*(y.den/h):=by { rw[hyq];exact Nat.mul_pos hRp (Nat.mul_pos hLp hqp) }; omega)]
  rw[hyq,ex,ey,hq]
  have e1:x.num*((L*(h*q):Nat):Int)+y.num*((R*(h*q):Nat):Int)=(h*q:Nat)*top:=by
   show _=((h*q:Nat):Int)*(x.num*(L:Int)+y.num*(R:Int))
   simp only[jjQ,jjR]
   congr 1<;>ac_rfl
  rw[e1,ht]
  simp only[jjQ]
  ac_rfl
 have hp:0<R*(y.den/h):=by rw[hyq];exact Nat.mul_pos hRp (Nat.mul_pos hLp hqp)
 obtain⟨p1,p2⟩:=jdh t (R*(y.den/h)) hp hcop
 rw[hsum,p1,p2,ht,Int.mul_ediv_cancel_left _ Jo]
 exact⟨rfl,rfl⟩
theorem mul_parts (x y:Rat) :
  let g:=Nat.gcd x.num.natAbs y.den;let h:=Nat.gcd y.num.natAbs x.den
  (x*y).num.natAbs=(x.num.natAbs/g)*(y.num.natAbs/h)∧(x*y).den=(x.den/h)*(y.den/g):=by
 intro g h
 have hg:0<g:=Nat.gcd_pos_of_pos_right _ y.den_pos
 have hh:0<h:=Nat.gcd_pos_of_pos_right _ x.den_pos
 obtain⟨a,ha⟩:g ∣ x.num.natAbs:=Nat.gcd_dvd_left _ _
 obtain⟨b,hb⟩:g ∣ y.den:=Nat.gcd_dvd_right _ _
 obtain⟨c,hc⟩:h ∣ y.num.natAbs:=Nat.gcd_dvd_left _ _
 obtain⟨d,hd⟩:h ∣ x.den:=Nat.gcd_dvd_right _ _
 have k1:x.num.natAbs/g=a:=by rw[ha,Nat.mul_div_cancel_left _ hg]
 have k2:y.den/g=b:=by rw[hb,Nat.mul_div_cancel_left _ hg]
 have k3:y.num.natAbs/h=c:=by rw[hc,Nat.mul_div_cancel_left _ hh]
 have k4:x.den/h=d:=by rw[hd,Nat.mul_div_cancel_left _ hh]
 have c1:Nat.Coprime a b:=by
  have:Nat.Coprime (x.num.natAbs/g) (y.den/g):=Nat.coprime_div_gcd_div_gcd hg
  rwa [k1,k2] at this
 have c2:Nat.Coprime c d:=by
  have:Nat.Coprime (y.num.natAbs/h) (x.den/h):=Nat.coprime_div_gcd_div_gcd hh
  rwa [k3,k4] at this
 have c3:Nat.Coprime a d:=jfI (cop_dvd' x.reduced (by rw[hd];exact Nat.dvd_mul_left _ _)) (by rw[ha];exact Nat.dvd_mul_left _ _)
 have c4:Nat.Coprime c b:=jfI (cop_dvd' y.reduced (by rw[hb];exact Nat.dvd_mul_left _ _)) (by rw[hc];exact Nat.dvd_mul_left _ _)
 have hcop:Nat.Coprime (a*c) (d*b):=Nat.Coprime.mul_right (Nat.Coprime.mul_left c3 c2) (Nat.Coprime.mul_left c1 c4)
 obtain⟨u,hu⟩:((g:Nat):Int) ∣ x.num:=Int.ofNat_dvd_left.2 ⟨a,ha⟩
 obtain⟨v,hv⟩:((h:Nat):Int) ∣ y.num:=Int.ofNat_dvd_left.2 ⟨c,hc⟩
 have hua:u.natAbs=a:=by
  have:=ha;rw[hu,Int.natAbs_mul,jjV] at this
  exact Nat.eq_of_mul_eq_mul_left hg this
 have hvc:v.natAbs=c:=by
  have:=hc;rw[hv,Int.natAbs_mul,jjV] at this
  exact Nat.eq_of_mul_eq_mul_left hh this
 have hbp:0<b:=Nat.pos_of_ne_zero fun e=>by have:=y.den_pos;rw[hb,e] at this;omega
 have hdp:0<d:=Nat.pos_of_ne_zero fun e=>by have:=x.den_pos;rw[hd,e] at this;omega
 have hp:0<d*b:=Nat.mul_pos hdp hbp
 have hprod:x*y=Rat.divInt (u*v) ((d*b:Nat):Int):=by
  conv=>lhs;rw[← jj6 x,← jj6 y]
  rw[Rat.divInt_mul_divInt]
  have hyp:=y.den_pos
  have hxp:=x.den_pos
  rw[Rat.divInt_eq_divInt_iff (by have:=Nat.mul_pos hxp hyp;rw[← jjQ];omega) Jo,hb,hd]
  conv=>lhs;rw[hu,hv]
  simp only[jjQ]
  ac_rfl
 obtain⟨p1,p2⟩:=jdh (u*v) (d*b) hp (by rw[Int.natAbs_mul,hua,hvc];exact hcop)
 rw[hprod,p1,p2,Int.natAbs_mul,hua,hvc,k1,k2,k3,k4]
 exact⟨rfl,rfl⟩
theorem mul_sign (x y:Rat):decide ((x*y).num<0)=((decide (x.num<0) != decide (y.num<0)) && !decide ((x*y).num=0)):=by
 have hg:0<Nat.gcd (x.num*y.num).natAbs (x.den*y.den):=Nat.gcd_pos_of_pos_right _ (Nat.mul_pos x.den_pos y.den_pos)
 obtain⟨t,ht⟩:((Nat.gcd (x.num*y.num).natAbs (x.den*y.den):Nat):Int) ∣ x.num*y.num:=Int.ofNat_dvd_left.2 (Nat.gcd_dvd_left _ _)
 have key:(x*y).num=t:=by
  rw[Rat.mul_def,Rat.normalize_eq]
  show x.num*y.num/((Nat.gcd (x.num*y.num).natAbs (x.den*y.den):Nat):Int)=t
  conv=>lhs;lhs;rw[ht]
  exact Int.mul_ediv_cancel_left _ Jo
 rw[key]
 generalize Nat.gcd (x.num*y.num).natAbs (x.den*y.den)=g at *
 have hs:(t<0↔x.num*y.num<0)∧(t=0↔x.num*y.num=0):=by
  rw[ht]
  constructor
  ·constructor
   ·intro h;exact Int.mul_neg_of_pos_of_neg Jo h
   ·intro h
    rcases Int.lt_or_le t 0 with h2|h2
    ·exact h2
    ·have:=jjB (a:=(g:Int)) Jo h2;omega
  ·constructor
   ·intro h;rw[h,Int.mul_zero]
   ·intro h;rcases Int.mul_eq_zero.1 h with h2|h2<;>omega
 by_cases h1:x.num<0<;>by_cases h2:y.num<0<;>by_cases h3:t=0
 all_goals
  have h4:=hs.1
  have h5:=hs.2
  simp only[h1,h2,h3,decide_true,decide_false,bne_self_eq_false,jj3,Bool.not_true,Bool.and_false,Bool.not_false,Bool.and_true]
 ·rfl
 ·rw[decide_eq_false_iff_not,h4]
  have:=Int.mul_pos_of_neg_of_neg h1 h2;omega
 ·simp
 ·have h6:x.num*y.num≠0:=fun e=>h3 (h5.2 e)
  have h7:x.num*y.num≤0:=Int.mul_nonpos_of_nonpos_of_nonneg Jo Jo
  simp only[h4]
  simp;omega
 ·simp
 ·have h6:x.num*y.num≠0:=fun e=>h3 (h5.2 e)
  have h7:x.num*y.num≤0:=Int.mul_nonpos_of_nonneg_of_nonpos Jo Jo
  simp only[h4]
  simp;omega
 ·rfl
 ·rw[decide_eq_false_iff_not,h4]
  have:=jjB (a:=x.num) (b:=y.num) Jo Jo;omega
def Q9 (k:Nat)(q:Rat):Prop:=S9 k q.num∧(mg 1000000000 q.den).length≤k
theorem Q9.mono {k l:Nat}{q:Rat}(h:Q9 k q)(hl:k≤l):Q9 l q:=⟨h.1.mono hl,jjH h.2 hl⟩
theorem Q9.neg {k:Nat}{q:Rat}(h:Q9 k q):Q9 k (-q):=⟨by rw[Rat.neg_num];exact h.1.neg,by rw[Rat.neg_den];exact h.2⟩
theorem div_sign (t:Int)(h:Nat)(hd:h ∣ t.natAbs):(if decide (t<0)=true then -((t.natAbs/h:Nat):Int) else ((t.natAbs/h:Nat):Int))=t/h:=by
 have e:t=t.sign*(t.natAbs:Int):=(Int.sign_mul_natAbs t).symm
 by_cases hz:t<0
 ·rw[decide_eq_true hz,if_pos rfl]
  have e2:t = -(t.natAbs:Int):=Jo
  conv=>rhs;rw[e2]
  rw[Int.neg_ediv_of_dvd (Int.ofNat_dvd.2 hd),Int.natCast_ediv]
 ·rw[decide_eq_false hz,if_neg Js]
  have e2:t=(t.natAbs:Int):=Jo
  conv=>rhs;rw[e2]
  rw[Int.natCast_ediv]
theorem negated_c (q:Rat):Cl 193 [rtD q] (rtD (-q)):=by
 have h1:=jf8 q.num
 have e:rtD (-q) = .agg [.ints .u32 (mg 1000000000 (-q.num).natAbs),.bool (decide (-q.num<0)),.ints .u32 (mg 1000000000 q.den)]:=by unfold rtD;rw[Rat.neg_num,Rat.neg_den]
 rw[e]
 refine V.en tbOk Tryz.func193 ?_
 (conv=>whnf)
 refine V.st ?_
 refine⟨(V.tk [0,1,3,4] (V.e1 2 [4,3] (V.tk [5] (V.e1 6 [] .done)))),[],V.pok,.go (jac ?_)⟩
 refine V.u1 h1 ?_
 exact Fin.of rfl
theorem add_c (x y:Rat)(hx:Q9 20000000 x)(hy:Q9 20000000 y):Cl 155 [rtD x,rtD y] (rtD (x+y)):=by
 obtain⟨p1,p2⟩:=add_parts x y
 have g1:=gcd_c x.den y.den (by have:=hx.2;omega) (by have:=hy.2;omega)
 have hg:0<Nat.gcd x.den y.den:=Nat.gcd_pos_of_pos_left _ x.den_pos
 have lg:=jah (B:=1000000000) Jo (Nat.gcd_le_left y.den x.den_pos)
 generalize Nat.gcd x.den y.den=g at *
 have hx1:=hx.1
 have hy1:=hy.1
 have hx2:=hx.2
 have hy2:=hy.2
 have d1:=jbl y.den g hg Jo Jo
 have d2:=jbl x.den g hg Jo Jo
 have lL:=jah (B:=1000000000) Jo (jjX y.den g)
 have lR:=jah (B:=1000000000) Jo (jjX x.den g)
 have s1:=jdD x.num (y.den/g) (hx1.mono Jo) Jo
 have s2:=jdD y.num (x.den/g) (hy1.mono Jo) Jo
 have z1:S9 40000000 (x.num*((y.den/g:Nat):Int)):=hx1.mul (l:=20000000) (S9.nat.2 Jo)
 have z2:S9 40000000 (y.num*((x.den/g:Nat):Int)):=hy1.mul (l:=20000000) (S9.nat.2 Jo)
 have s3:=sum_c9 _ _ (z1.mono Jo) (z2.mono Jo)
 have z3:=z1.add z2
 generalize x.num*((y.den/g:Nat):Int)+y.num*((x.den/g:Nat):Int)=top at *
 unfold S9 at z3
 have g2:=gcd_c top.natAbs g Jo Jo
 have hh:0<Nat.gcd top.natAbs g:=Nat.gcd_pos_of_pos_right _ hg
 have lh:=jah (B:=1000000000) Jo (Nat.gcd_le_right top.natAbs hg)
 have hdv:Nat.gcd top.natAbs g ∣ top.natAbs:=Nat.gcd_dvd_left _ _
 generalize Nat.gcd top.natAbs g=h at *
 have d3:=jbl top.natAbs h hh Jo Jo
 have d4:=jbl y.den h hh Jo Jo
 have lT:=jah (B:=1000000000) Jo (jjX y.den h)
 have t1:=jcL (x.den/g) (y.den/h) Jo Jo
 have m1:=ja9 (top.natAbs/h) (decide (top<0))
 rw[div_sign top h hdv,← p1] at m1
 rw[← p2] at t1
 refine V.en tbOk Tryz.func155 ?_
 refine V.u3 g1 d1 d2 ?_
 refine⟨(V.tk [0,1,2,4,5,6] (.ev (.cons 3 [6,5,4] (.ev (.cons 7 [] (.ev (.cons 8 [] (V.e1 9 [] (V.e1 10 [] .done)) (.cons 9 [] (V.e1 8 [] (V.e1 10 [] .done)) .nil))) (.cons 9 [6,5,4] (V.e1 7 [] (V.e1 8 [] (V.e1 10 [] .done))) .nil))) (.cons 9 [6,5,4,2,1,0] (V.e1 3 [6,5,4] (V.e1 7 [] (V.e1 8 [] (V.e1 10 [] .done)))) .nil)))),[],V.pok,?_⟩
 refine jab [(10,.box 10 0)] [(10,.box [.ints .u32 (mg 1000000000 top.natAbs),.bool (decide (top<0))])] ?_ ?_
 ·exact V.d3 @jjC s1 s2 s3
 refine V.u5 g2 d3 d4 m1 t1 ?_
 exact Fin.of rfl
theorem sub_c (x y:Rat)(hx:Q9 20000000 x)(hy:Q9 20000000 y):Cl 154 [rtD x,rtD y] (rtD (x-y)):=by
 have h1:=negated_c y
 have h2:=add_c x (-y) hx hy.neg
 rw[← Rat.sub_eq_add_neg] at h2
 refine V.en tbOk Tryz.func154 ?_
 (conv=>whnf)
 refine V.st ?_
 refine⟨Pq73z,[],V.pok,.go (jac ?_)⟩
 refine V.u2 h1 h2 ?_
 exact Fin.of rfl
theorem mul_num (x y:Rat):(if (decide (x.num<0) != decide (y.num<0))=true then -((x*y).num.natAbs:Int) else ((x*y).num.natAbs:Int))=(x*y).num:=by
 have h:=mul_sign x y
 by_cases h0:(x*y).num=0
 ·rw[h0];simp
 ·rw[decide_eq_false h0,Bool.not_false,Bool.and_true] at h
  rw[← h]
  by_cases h1:(x*y).num<0
  ·rw[decide_eq_true h1,if_pos rfl];omega
  ·rw[decide_eq_false h1,if_neg Js];omega
theorem mul_c (x y:Rat)(hx:Q9 20000000 x)(hy:Q9 20000000 y):Cl 144 [rtD x,rtD y] (rtD (x*y)):=by
 obtain⟨p1,p2⟩:=mul_parts x y
 have pn:=mul_num x y
 have hx1:=hx.1
 have hy1:=hy.1
 have hx2:=hx.2
 have hy2:=hy.2
 unfold S9 at hx1 hy1
 have g1:=gcd_c x.num.natAbs y.den Jo Jo
 have g2:=gcd_c y.num.natAbs x.den Jo Jo
 have hg:0<Nat.gcd x.num.natAbs y.den:=Nat.gcd_pos_of_pos_right _ y.den_pos
 have hh:0<Nat.gcd y.num.natAbs x.den:=Nat.gcd_pos_of_pos_right _ x.den_pos
 have lg:=jah (B:=1000000000) Jo (Nat.gcd_le_right x.num.natAbs y.den_pos)
 have lh:=jah (B:=1000000000) Jo (Nat.gcd_le_right y.num.natAbs x.den_pos)
 generalize Nat.gcd x.num.natAbs y.den=g at *
 generalize Nat.gcd y.num.natAbs x.den=h at *
 have d1:=jbl x.num.natAbs g hg Jo Jo
 have d2:=jbl x.den h hh Jo Jo
 have d3:=jbl y.num.natAbs h hh Jo Jo
 have d4:=jbl y.den g hg Jo Jo
 have l1:=jah (B:=1000000000) Jo (jjX x.num.natAbs g)
 have l2:=jah (B:=1000000000) Jo (jjX x.den h)
 have l3:=jah (B:=1000000000) Jo (jjX y.num.natAbs h)
 have l4:=jah (B:=1000000000) Jo (jjX y.den g)
 have t1:=jcL (x.num.natAbs/g) (y.num.natAbs/h) Jo Jo
 have t2:=jcL (x.den/h) (y.den/g) Jo Jo
 rw[← p1] at t1
 rw[← p2] at t2
 have m1:=ja9 (x*y).num.natAbs (decide (x.num<0) != decide (y.num<0))
 rw[pn] at m1
 refine V.en tbOk Tryz.func144 ?_
 refine V.u6 g1 g2 d1 d2 d3 d4 ?_
 refine⟨(V.tk [0,1,3,4,5,6,7,8,9,11,12] (V.e1 2 [12,11,9,8,7,6,5,4,3] (V.e1 10 [12,11] (V.e1 13 [] (V.tk [14] (V.e1 15 [] .done)))))),[],V.pok,.go (jac ?_)⟩
 refine V.u3 t1 m1 t2 ?_
 exact Fin.of rfl
theorem jhC (q:Rat)(hq:q.num≠0):q⁻¹.num=(if decide (q.num<0)=true then -(q.den:Int) else (q.den:Int))∧q⁻¹.den=q.num.natAbs:=by
 have hd:=q.den_pos
 have hc:Nat.Coprime (if decide (q.num<0)=true then -(q.den:Int) else (q.den:Int)).natAbs q.num.natAbs:=by
  have e:(if decide (q.num<0)=true then -(q.den:Int) else (q.den:Int)).natAbs=q.den:=by
   split<;>simp
  rw[e]
  exact q.reduced.symm
 have e:q⁻¹=Rat.divInt (if decide (q.num<0)=true then -(q.den:Int) else (q.den:Int)) (q.num.natAbs:Nat):=by
  rw[Rat.inv_def,Rat.divInt_eq_divInt_iff hq Jo]
  by_cases h:q.num<0
  ·rw[decide_eq_true h,if_pos rfl,show (q.num.natAbs:Int) = -q.num by omega,Int.mul_neg,Int.neg_mul]
  ·rw[decide_eq_false h,if_neg Js,show (q.num.natAbs:Int)=q.num by omega]
 obtain⟨h1,h2⟩:=jdh _ q.num.natAbs Jo hc
 rw[e]
 exact⟨h1,h2⟩
theorem inverse_c (q:Rat)(hq:q.num≠0):Cl 146 [rtD q] (rtD q⁻¹):=by
 obtain⟨p1,p2⟩:=jhC q hq
 have m1:=ja9 q.den (decide (q.num<0))
 rw[← p1] at m1
 have e:rtD q⁻¹ = .agg [.ints .u32 (mg 1000000000 q⁻¹.num.natAbs),.bool (decide (q⁻¹.num<0)),.ints .u32 (mg 1000000000 q.num.natAbs)]:=by unfold rtD;rw[p2]
 rw[e]
 refine V.en tbOk Tryz.func146 ?_
 (conv=>whnf)
 refine V.st ?_
 refine⟨(V.tk [0,1,2,3,4,6,7,8] (V.e1 5 [8,7,6] (V.tk [9] (V.e1 10 [] .done)))),[],V.pok,.go (jac ?_)⟩
 refine V.u1 m1 ?_
 exact Fin.of rfl
theorem lesser_c (x y:Rat)(hx:Q9 20000000 x)(hy:Q9 20000000 y):Cl 214 [rtD x,rtD y] (rtD (if y<x then y else x)):=by
 have h1:=jgQ x y (hx.1.mono Jo) (hy.1.mono Jo) (jjH hx.2 Jo) (jjH hy.2 Jo)
 have e:ordQ x y>0↔y<x:=by
  unfold ordQ
  by_cases a:x<y
  ·rw[if_pos a];exact⟨fun h=>Jo,fun h=>absurd h (Rat.not_lt.2 (Rat.le_of_lt a))⟩
  ·rw[if_neg a]
   by_cases b:x=y
   ·rw[if_pos b,b];exact⟨fun h=>Jo,fun h=>absurd h (Rat.lt_irrefl)⟩
   ·rw[if_neg b];exact⟨fun _=>Rat.lt_of_le_of_ne (Rat.not_lt.1 a) (Ne.symm b),fun _=>Jo⟩
 refine V.en tbOk Tryz.func214 ?_
 refine V.u1 h1 ?_
 refine V.br (fun hq=>?_) (fun hq=>?_)
 ·rw[decide_eq_true_eq] at hq
  rw[if_pos (e.1 hq)]
  (conv=>whnf)
  refine V.st ?_
  exact Fin.of rfl
 ·rw[decide_eq_false_iff_not] at hq
  rw[if_neg (fun h=>hq (e.2 h))]
  (conv=>whnf)
  refine V.st ?_
  exact Fin.of rfl
theorem greater_c (x y:Rat)(hx:Q9 20000000 x)(hy:Q9 20000000 y):Cl 213 [rtD x,rtD y] (rtD (if x<y then y else x)):=by
 have h1:=jgQ x y (hx.1.mono Jo) (hy.1.mono Jo) (jjH hx.2 Jo) (jjH hy.2 Jo)
 have e:ordQ x y<0↔x<y:=by
  unfold ordQ
  by_cases a:x<y
  ·rw[if_pos a];exact⟨fun _=>a,fun _=>Jo⟩
  ·rw[if_neg a]
   by_cases b:x=y
   ·rw[if_pos b];exact⟨fun h=>Jo,fun h=>absurd h a⟩
   ·rw[if_neg b];exact⟨fun h=>Jo,fun h=>absurd h a⟩
 refine V.en tbOk Tryz.func213 ?_
 refine V.u1 h1 ?_
 refine V.br (fun hq=>?_) (fun hq=>?_)
 ·rw[decide_eq_true_eq] at hq
  rw[if_pos (e.1 hq)]
  (conv=>whnf)
  refine V.st ?_
  exact Fin.of rfl
 ·rw[decide_eq_false_iff_not] at hq
  rw[if_neg (fun h=>hq (e.2 h))]
  (conv=>whnf)
  refine V.st ?_
  exact Fin.of rfl
theorem off {p:Go.Program}{f:Nat}{ys:List D}{c:Bool}(hc:c=false):c=true→Called p f ys (Ji 0):=fun h=>by rw[hc] at h;cases h
def okP (s t:List UInt8):Bool:=okW s && okW t && decide (0<wval t) && decide (Nat.gcd (wval s).natAbs (wval t).natAbs=1)
def qv (s t:List UInt8):Rat:=Rat.divInt (wval s) (wval t)
theorem jer {s t:List UInt8}(h:okP s t=true):okW s=true∧okW t=true∧0<wval t∧Nat.gcd (wval s).natAbs (wval t).natAbs=1:=by
 unfold okP at h
 simp only[jjv,decide_eq_true_eq] at h
 exact⟨h.1.1.1,h.1.1.2,h.1.2,h.2⟩
theorem jc9 {s t:List UInt8}(h:okP s t=true):(qv s t).num=wval s∧(qv s t).den=(wval t).natAbs:=by
 obtain⟨h1,h2,h3,h4⟩:=jer h
 have e:qv s t=Rat.divInt (wval s) ((wval t).natAbs:Nat):=by unfold qv;congr 1;omega
 rw[e]
 exact jdh _ _ Jo h4
theorem jgI {s t:List UInt8}(h:okP s t=true):Q9 67 (qv s t):=by
 obtain⟨h1,h2,h3,h4⟩:=jer h
 obtain⟨p1,p2⟩:=jc9 h
 exact⟨by rw[p1];exact len9 (jcg h1).2,by rw[p2];exact len9 (jcg h2).2⟩
theorem rtD_qv {s t:List UInt8}(h:okP s t=true):rtD (qv s t) = .agg [.ints .u32 (mg 1000000000 (wval s).natAbs),.bool (decide (wval s<0)),.ints .u32 (mg 1000000000 (wval t).natAbs)]:=by
 obtain⟨p1,p2⟩:=jc9 h
 unfold rtD
 rw[p1,p2]
theorem jbG (s t:List UInt8)(h:okP s t=true):Cl 115 [.agg [.str s,.str t]] (.tup [rtD (qv s t),.bool true]):=by
 obtain⟨h1,h2,h3,h4⟩:=jer h
 have l1:=jcg h1
 have l2:=jcg h2
 have k1:=len9 l1.2
 have k2:=len9 l2.2
 have c1:=jcr s Jo
 have c2:=jcr t Jo
 rw[h1,if_pos rfl] at c1
 rw[h2,if_pos rfl] at c2
 have n1:=jdc s h1
 have n2:=jdc t h2
 have s1:=sign_c (wval t)
 rw[jj5 h3] at s1
 have g1:=gcd_c (wval s).natAbs (wval t).natAbs Jo Jo
 rw[h4] at g1
 have o1:=jcq 1 1 Jd Jd
 rw[rtD_qv h]
 refine V.en tbOk Tryz.func115 ?_
 refine V.u2 c1 c2 ?_
 refine⟨Pq66z,[],V.pok,?_⟩
 refine jab [(4,.box 4 0),(5,.box 5 0)] [(4,.box [.ints .u32 (mg 1000000000 (wval s).natAbs),.bool (decide (wval s<0))]),(5,.box [.ints .u32 (mg 1000000000 (wval t).natAbs),.bool (decide (wval t<0))])] ?_ ?_
 ·exact V.d2 @jjC n1 n2
 refine V.u3 s1 g1 o1 ?_
 exact Fin.of rfl
theorem read_no (s t:List UInt8)(h:okP s t=false)(hs:s.length≤281474976710656)(ht:t.length≤281474976710656):Cl 115 [.agg [.str s,.str t]] (.tup [.agg [.any,.any,.any],.bool false]):=by
 have c1:=jcr s hs
 have c2:=jcr t ht
 by_cases h1:okW s=true
 ·rw[h1,if_pos rfl] at c1
  by_cases h2:okW t=true
  ·rw[h2,if_pos rfl] at c2
   have l1:=jcg h1
   have l2:=jcg h2
   have k1:=len9 l1.2
   have k2:=len9 l2.2
   have n1:=jdc s h1
   have n2:=jdc t h2
   have s1:=sign_c (wval t)
   have g1:=gcd_c (wval s).natAbs (wval t).natAbs Jo Jo
   have gl:(mg 1000000000 (Nat.gcd (wval s).natAbs (wval t).natAbs)).length≤67:=by
    rcases jjI (wval t).natAbs with e|e
    ·rw[e,Nat.gcd_zero_right];exact k1
    ·exact jjH (jah Jo (Nat.gcd_le_right _ e)) k2
   have o1:=jcq (Nat.gcd (wval s).natAbs (wval t).natAbs) 1 Jo Jd
   unfold okP at h
   rw[h1,h2,Bool.true_and,Bool.true_and] at h
   by_cases hp:0<wval t
   ·rw[decide_eq_true hp,Bool.true_and,decide_eq_false_iff_not] at h
    rw[jj5 hp] at s1
    refine V.en tbOk Tryz.func115 ?_
    refine V.u2 c1 c2 ?_
    refine⟨Pq66z,[],V.pok,?_⟩
    refine jab [(4,.box 4 0),(5,.box 5 0)] [(4,.box [.ints .u32 (mg 1000000000 (wval s).natAbs),.bool (decide (wval s<0))]),(5,.box [.ints .u32 (mg 1000000000 (wval t).natAbs),.bool (decide (wval t<0))])] ?_ ?_
    ·exact V.d2 @jjC n1 n2
    refine V.u3 s1 g1 o1 ?_
    refine V.br (fun hq=>?_) (fun hq=>?_)
    ·(conv=>whnf)
     refine V.st ?_
     exact Fin.tup ⟨Fin.agg ⟨Fin.any' _,Fin.any' _,Fin.any' _,trivial⟩,Fin.of rfl,trivial⟩
    ·exfalso
     simp only[jjP,decide_eq_false_iff_not,Decidable.not_not] at hq
     apply h
     have h9:=Int.sign_eq_zero_iff_zero.1 hq.2
     omega
   ·have hs1:(wval t).sign=0∨(wval t).sign = -1:=by
     rcases (by omega:wval t=0∨wval t<0) with e|e
     ·rw[e];exact .inl rfl
     ·exact .inr (jj4 e)
    rcases hs1 with e|e
    all_goals
     rw[e] at s1
     refine V.en tbOk Tryz.func115 ?_
     refine V.u2 c1 c2 ?_
     refine⟨Pq66z,[],V.pok,?_⟩
     refine jab [(4,.box 4 0),(5,.box 5 0)] [(4,.box [.ints .u32 (mg 1000000000 (wval s).natAbs),.bool (decide (wval s<0))]),(5,.box [.ints .u32 (mg 1000000000 (wval t).natAbs),.bool (decide (wval t<0))])] ?_ ?_
     ·exact V.d2 @jjC n1 n2
     refine V.u3 s1 g1 o1 ?_
     refine⟨Ji 0,off rfl,?_⟩
     (conv=>whnf)
     refine V.st ?_
     exact Fin.tup ⟨Fin.agg ⟨Fin.any' _,Fin.any' _,Fin.any' _,trivial⟩,Fin.of rfl,trivial⟩
  ·rw[if_neg h2] at c2
   refine V.en tbOk Tryz.func115 ?_
   refine V.u2 c1 c2 ?_
   exact Fin.tup ⟨Fin.agg ⟨Fin.any' _,Fin.any' _,Fin.any' _,trivial⟩,Fin.of rfl,trivial⟩
 ·rw[if_neg h1] at c1
  refine V.en tbOk Tryz.func115 ?_
  refine V.u2 c1 c2 ?_
  refine V.br (fun hq=>?_) (fun hq=>?_)
  ·(conv=>whnf)
   refine V.st ?_
   exact Fin.tup ⟨Fin.agg ⟨Fin.any' _,Fin.any' _,Fin.any' _,trivial⟩,Fin.of rfl,trivial⟩
  ·simp at hq
theorem fcheck_c (s t:List UInt8)(hs:s.length≤281474976710656)(ht:t.length≤281474976710656):Cl 72 [.agg [.str s,.str t]] (Ji (if okP s t then 0 else 20)):=by
 by_cases h:okP s t=true
 ·have r1:=jbG s t h
  rw[h,if_pos rfl]
  refine V.en tbOk Tryz.func72 ?_
  refine V.u1 r1 ?_
  exact Fin.of rfl
 ·have r1:=read_no s t (by simpa using h) hs ht
  rw[if_neg h]
  refine V.en tbOk Tryz.func72 ?_
  refine V.u1 r1 ?_
  exact Fin.of rfl
theorem qsize {s t:List UInt8}(h:okP s t=true):Q9 20000000 (qv s t):=(jgI h).mono Jo
theorem qordS {s t:List UInt8}(h:okP s t=true):S9 40000000 (qv s t).num∧(mg 1000000000 (qv s t).den).length≤40000000:=⟨(jgI h).1.mono Jo,jjH (jgI h).2 Jo⟩
theorem fcmp_ok (s t u v:List UInt8)(h:okP s t=true)(g:okP u v=true):Cl 135 [.agg [.str s,.str t],.agg [.str u,.str v]] (.tup [Ji (ordQ (qv s t) (qv u v)),Ji 0]):=by
 have r1:=jbG s t h
 have r2:=jbG u v g
 have o:=jgQ (qv s t) (qv u v) (qordS h).1 (qordS g).1 (qordS h).2 (qordS g).2
 have ap:Cl 183 [.agg [.str s,.str t],.agg [.str u,.str v],.fn 184 [] []] (.tup [Ji (ordQ (qv s t) (qv u v)),Ji 0]):=by
  refine V.en tbOk Tryz.func183 ?_
  refine V.u3 r1 r2 o ?_
  exact Fin.of rfl
 refine V.en tbOk Tryz.func135 ?_
 refine V.u1 ap ?_
 exact Fin.of rfl
def vb (lo hi:Int):Bool:=decide (-1000000000000000000≤lo) && decide (lo≤hi) && decide (hi≤1000000000000000000)
def bD (r:Int×Int×Int):D := .tup [.agg [Ji r.1,Ji r.2.1],Ji r.2.2]
def mk (lo hi:Int):Int×Int×Int:=if vb lo hi=true then (lo,hi,0) else (0,0,6)
theorem jbC {lo hi:Int} : vb lo hi=true ↔ -1000000000000000000≤lo∧lo≤hi∧hi≤1000000000000000000:=by
 unfold vb;simp only[jjv,decide_eq_true_eq,and_assoc]
theorem jcK (lo hi:Int):Cl 100 [Ji lo,Ji hi] (.bool (vb lo hi)):=by
 refine V.en tbOk Tryz.func100 ?_
 (conv=>whnf)
 refine V.st ?_
 exact Fin.of rfl
theorem made_b (lo hi:Int):Cl 101 [Ji lo,Ji hi] (bD (mk lo hi)):=by
 have h:=jcK lo hi
 unfold mk
 generalize vb lo hi=v at *
 refine V.en tbOk Tryz.func101 ?_
 refine V.u1 h ?_
 refine V.br (fun hq=>?_) (fun hq=>?_)
 ·simp only[Bool.not_eq_true'] at hq
  subst hq
  (conv=>whnf)
  refine V.st ?_
  exact Fin.of rfl
 ·simp only[Bool.not_eq_false'] at hq
  subst hq
  (conv=>whnf)
  refine V.st ?_
  exact Fin.of rfl
theorem ckb3_ok (g:Nat)(p q m n0:Int)(x y e:Int)(n:Nat)(f:Nat→List D)(a c:Nat→Int)(hf:∀ j,j<n→f j=[Ji (a j),Ji (c j)])(hn:n<1000)
  (hv:∀ j,j<n→vb (a j) (c j)=true) (hg:Cl g [.ref [Ji m],.ref [Ji n0],.ref [Ji p,Ji q]] (bD (x,y,e))) :
  Cl 98 [.fn g [] [.ref [Ji m],.ref [Ji n0],.ref [Ji p,Ji q]],.slf 2 n f] (bD (x,y,e)):=by
 refine V.en tbOk Tryz.func98 ?_
 (conv=>whnf)
 refine V.st ?_
 refine jad (0:Nat) (fun k=>k≤n) (fun k=>n-k) (fun k=>[(11,Ji k)]) (fun _=>[]) ?_ ?_ ?_
 ·exact V.wk
 ·exact jjx _
 intro k hk
 have hkc:((k:Int)+1)=((k+1:Nat):Int):=Jo
 have hfk:=hf k
 have hvk:=hv k
 have hvc:=jcK (a k) (c k)
 (conv=>whnf)
 refine V.st ?_
 refine V.br (fun hq=>?_) (fun hq=>?_)
 ·rw[decide_eq_true_eq] at hq
  rw[hvk Jo] at hvc
  (conv=>whnf)
  (try simp only[jjF,hfk Jo,hkc])
  repeat ((first|refine V.s1 ?_);(try simp only[jjF,hfk Jo,hkc]))
  (conv=>whnf)
  refine And.intro (fun _=>⟨Jo,Jo⟩) ?_
  refine V.r1 hkc hvc ?_
  exact⟨k+1,Jo,Jo,V.wk⟩
 ·rw[decide_eq_false_iff_not] at hq
  refine V.u1 hg ?_
  exact Fin.of rfl
theorem ckb3_no (g:Nat)(p q m n0:Int)(x y e:Int)(n:Nat)(f:Nat→List D)(a c:Nat→Int)(hf:∀ j,j<n→f j=[Ji (a j),Ji (c j)])(hn:n<1000)
  (hv:∃ j,j<n∧vb (a j) (c j)=false) :
  Cl 98 [.fn g [] [.ref [Ji m],.ref [Ji n0],.ref [Ji p,Ji q]],.slf 2 n f] (bD (0,0,30)):=by
 refine V.en tbOk Tryz.func98 ?_
 (conv=>whnf)
 refine V.st ?_
 refine jad (0:Nat) (fun k=>k≤n ∧ ∀ j,j<k→vb (a j) (c j)=true) (fun k=>n-k) (fun k=>[(11,Ji k)]) (fun _=>[]) ?_ ?_ ?_
 ·exact V.wk
 ·exact⟨jjx _,fun j hj=>Jo⟩
 intro k hk
 have hkc:((k:Int)+1)=((k+1:Nat):Int):=Jo
 have hfk:=hf k
 have hvc:=jcK (a k) (c k)
 (conv=>whnf)
 refine V.st ?_
 refine V.br (fun hq=>?_) (fun hq=>?_)
 ·rw[decide_eq_true_eq] at hq
  generalize hvv:vb (a k) (c k)=v at *
  (conv=>whnf)
  (try simp only[jjF,hfk Jo,hkc])
  repeat ((first|refine V.s1 ?_);(try simp only[jjF,hfk Jo,hkc]))
  (conv=>whnf)
  refine And.intro (fun _=>⟨Jo,Jo⟩) ?_
  refine V.r1 hkc hvc ?_
  refine V.br (fun hz=>?_) (fun hz=>?_)
  ·refine V.r0 hkc ?_
   exact Fin.of rfl
  ·simp only[Bool.not_eq_false'] at hz
   refine V.r0 hkc ?_
   exact⟨k+1,⟨Jo,fun j hj=>by
    rcases jjO j k with h|h
    ·exact hk.2 j h
    ·rw[show j=k by omega,hvv,hz]⟩,Jo,V.wk⟩
 ·rw[decide_eq_false_iff_not] at hq
  obtain⟨j,hj,hv⟩:=hv
  rw[hk.2 j Jo] at hv
  cases hv
theorem ckb4_ok (g:Nat)(p q p2 q2 m:Int)(x y e:Int)(n:Nat)(f:Nat→List D)(a c:Nat→Int)(hf:∀ j,j<n→f j=[Ji (a j),Ji (c j)])(hn:n<1000)
  (hv:∀ j,j<n→vb (a j) (c j)=true) (hg:Cl g [.ref [Ji p,Ji q],.ref [Ji p2,Ji q2],.ref [Ji m]] (bD (x,y,e))) :
  Cl 98 [.fn g [] [.ref [Ji p,Ji q],.ref [Ji p2,Ji q2],.ref [Ji m]],.slf 2 n f] (bD (x,y,e)):=by
 refine V.en tbOk Tryz.func98 ?_
 (conv=>whnf)
 refine V.st ?_
 refine jad (0:Nat) (fun k=>k≤n) (fun k=>n-k) (fun k=>[(11,Ji k)]) (fun _=>[]) ?_ ?_ ?_
 ·exact V.wk
 ·exact jjx _
 intro k hk
 have hkc:((k:Int)+1)=((k+1:Nat):Int):=Jo
 have hfk:=hf k
 have hvk:=hv k
 have hvc:=jcK (a k) (c k)
 (conv=>whnf)
 refine V.st ?_
 refine V.br (fun hq=>?_) (fun hq=>?_)
 ·rw[decide_eq_true_eq] at hq
  rw[hvk Jo] at hvc
  (conv=>whnf)
  (try simp only[jjF,hfk Jo,hkc])
  repeat ((first|refine V.s1 ?_);(try simp only[jjF,hfk Jo,hkc]))
  (conv=>whnf)
  refine And.intro (fun _=>⟨Jo,Jo⟩) ?_
  refine V.r1 hkc hvc ?_
  exact⟨k+1,Jo,Jo,V.wk⟩
 ·rw[decide_eq_false_iff_not] at hq
  refine V.u1 hg ?_
  exact Fin.of rfl
theorem ckb4_no (g:Nat)(p q p2 q2 m:Int)(x y e:Int)(n:Nat)(f:Nat→List D)(a c:Nat→Int)(hf:∀ j,j<n→f j=[Ji (a j),Ji (c j)])(hn:n<1000)
  (hv:∃ j,j<n∧vb (a j) (c j)=false) :
  Cl 98 [.fn g [] [.ref [Ji p,Ji q],.ref [Ji p2,Ji q2],.ref [Ji m]],.slf 2 n f] (bD (0,0,30)):=by
 refine V.en tbOk Tryz.func98 ?_
 (conv=>whnf)
 refine V.st ?_
 refine jad (0:Nat) (fun k=>k≤n ∧ ∀ j,j<k→vb (a j) (c j)=true) (fun k=>n-k) (fun k=>[(11,Ji k)]) (fun _=>[]) ?_ ?_ ?_
 ·exact V.wk
 ·exact⟨jjx _,fun j hj=>Jo⟩
 intro k hk
 have hkc:((k:Int)+1)=((k+1:Nat):Int):=Jo
 have hfk:=hf k
 have hvc:=jcK (a k) (c k)
 (conv=>whnf)
 refine V.st ?_
 refine V.br (fun hq=>?_) (fun hq=>?_)
 ·rw[decide_eq_true_eq] at hq
  generalize hvv:vb (a k) (c k)=v at *
  (conv=>whnf)
  (try simp only[jjF,hfk Jo,hkc])
  repeat ((first|refine V.s1 ?_);(try simp only[jjF,hfk Jo,hkc]))
  (conv=>whnf)
  refine And.intro (fun _=>⟨Jo,Jo⟩) ?_
  refine V.r1 hkc hvc ?_
  refine V.br (fun hz=>?_) (fun hz=>?_)
  ·refine V.r0 hkc ?_
   exact Fin.of rfl
  ·simp only[Bool.not_eq_false'] at hz
   refine V.r0 hkc ?_
   exact⟨k+1,⟨Jo,fun j hj=>by
    rcases jjO j k with h|h
    ·exact hk.2 j h
    ·rw[show j=k by omega,hvv,hz]⟩,Jo,V.wk⟩
 ·rw[decide_eq_false_iff_not] at hq
  obtain⟨j,hj,hv⟩:=hv
  rw[hk.2 j Jo] at hv
  cases hv
def bA (p q:Int):D := .agg [Ji p,Ji q]
def l1 (p q:Int):Nat→List D:=fun j=>List.take 2 (List.drop (0+j*2) [Ji p,Ji q])
def l2 (p q p2 q2:Int):Nat→List D:=fun j=>List.take 2 (List.drop (0+j*2) [Ji p,Ji q,Ji p2,Ji q2])
theorem l1_c (p q:Int):∀ j,j<1→l1 p q j=[Ji ((fun _=>p) j),Ji ((fun _=>q) j)]:=fun j hj=>by
 have h0:j=0:=Jo
 subst h0;rfl
def sel_o (x y:Int):Nat→Int:=fun j=>if j=0 then x else y
theorem l2_c (p q p2 q2:Int):∀ j,j<2→l2 p q p2 q2 j=[Ji (sel_o p p2 j),Ji (sel_o q q2 j)]:=fun j hj=>by
 rcases (by omega:j=0∨j=1) with e|e
 ·subst e;rfl
 ·subst e;rfl
theorem sel_ok {p q p2 q2:Int}(h:vb p q=true)(h2:vb p2 q2=true):∀ j,j<2→vb (sel_o p p2 j) (sel_o q q2 j)=true:=fun j hj=>by
 rcases (by omega:j=0∨j=1) with e|e
 ·subst e;exact h
 ·subst e;exact h2
theorem sel_no {p q p2 q2:Int}(h:¬ (vb p q=true∧vb p2 q2=true)):∃ j,j<2∧vb (sel_o p p2 j) (sel_o q q2 j)=false:=by
 by_cases h1:vb p q=true
 ·have h3:¬ vb p2 q2=true:=fun h2=>h ⟨h1,h2⟩
  exact⟨1,Jo,Bool.eq_false_iff.2 h3⟩
 ·exact⟨0,Jo,Bool.eq_false_iff.2 h1⟩
theorem one_no {p q:Int}(h:¬ vb p q=true):∃ j,j<1∧vb ((fun _=>p) j) ((fun _=>q) j)=false:=⟨0,Jo,Bool.eq_false_iff.2 h⟩
def mx:List Int→Int
 | []=>0
 | x::xs=>xs.foldl max x
theorem jfZ {op:Int→Int→Int}{x:Int}{xs:List Int}{k:Nat}(h:k<xs.length):(xs.take (k+1)).foldl op x=op ((xs.take k).foldl op x) (xs.getD k 0):=by
 rw[jky,List.foldl_append,jj8,jkb h]
 rfl
theorem jju:type_of% @List.getD_cons_succ.{0} ∧ type_of% @jkn := ⟨@List.getD_cons_succ.{0},@jkn⟩
theorem minS_c (x:Int)(xs:List Int)(hl:xs.length<1000):Cl 222 [Jj (x::xs)] (Ji (xs.foldl min x)):=by
 refine V.en tbOk Tryz.func222 ?_
 (conv=>whnf)
 refine V.st ?_
 refine V.br (fun h0=>?_) (fun h0=>?_)
 ·rw[decide_eq_true_eq,jkn] at h0
  omega
 ·refine V.r0 @jkn ?_
  refine jad (0:Nat) (fun k=>k≤xs.length) (fun k=>xs.length-k) (fun k=>[(4,Ji ((k+1:Nat):Int)),(3,Ji ((xs.take k).foldl min x))]) (fun _=>[]) ?_ ?_ ?_
  ·exact V.wk
  ·exact jjx _
  intro k hk
  have hkc:(((k+1:Nat):Int)+1)=((k+1+1:Nat):Int):=Jo
  have hi:((k+1:Nat):Int).toNat=k+1:=Jo
  (conv=>whnf)
  (try simp only[jju,hkc,hi])
  repeat ((first|refine V.s1 ?_);(try simp only[jju,hkc,hi]))
  refine V.br (fun hq=>?_) (fun hq=>?_)
  ·rw[decide_eq_true_eq] at hq
   have ht:=jfZ (op:=min) (x:=x) (xs:=xs) (k:=k) Jo
   (conv=>whnf)
   (try simp only[jju,hkc,hi])
   repeat ((first|refine V.s1 ?_);(try simp only[jju,hkc,hi]))
   refine⟨k+1,Jo,Jo,?_⟩
   rw[ht]
   exact V.wk
  ·rw[decide_eq_false_iff_not] at hq
   have hk2:k=xs.length:=Jo
   refine V.r0 (V.a2 hk2 @jkz) ?_
   exact Fin.of rfl
theorem maxS_c (x:Int)(xs:List Int)(hl:xs.length<1000):Cl 223 [Jj (x::xs)] (Ji (xs.foldl max x)):=by
 refine V.en tbOk Tryz.func223 ?_
 (conv=>whnf)
 refine V.st ?_
 refine V.br (fun h0=>?_) (fun h0=>?_)
 ·rw[decide_eq_true_eq,jkn] at h0
  omega
 ·refine V.r0 @jkn ?_
  refine jad (0:Nat) (fun k=>k≤xs.length) (fun k=>xs.length-k) (fun k=>[(4,Ji ((k+1:Nat):Int)),(3,Ji ((xs.take k).foldl max x))]) (fun _=>[]) ?_ ?_ ?_
  ·exact V.wk
  ·exact jjx _
  intro k hk
  have hkc:(((k+1:Nat):Int)+1)=((k+1+1:Nat):Int):=Jo
  have hi:((k+1:Nat):Int).toNat=k+1:=Jo
  (conv=>whnf)
  (try simp only[jju,hkc,hi])
  repeat ((first|refine V.s1 ?_);(try simp only[jju,hkc,hi]))
  refine V.br (fun hq=>?_) (fun hq=>?_)
  ·rw[decide_eq_true_eq] at hq
   have ht:=jfZ (op:=max) (x:=x) (xs:=xs) (k:=k) Jo
   (conv=>whnf)
   (try simp only[jju,hkc,hi])
   repeat ((first|refine V.s1 ?_);(try simp only[jju,hkc,hi]))
   refine⟨k+1,Jo,Jo,?_⟩
   rw[ht]
   exact V.wk
  ·rw[decide_eq_false_iff_not] at hq
   have hk2:k=xs.length:=Jo
   refine V.r0 (V.a2 hk2 @jkz) ?_
   exact Fin.of rfl
theorem least_c (x:Int)(xs:List Int)(hl:xs.length<1000):Cl 195 [Jj (x::xs)] (Ji (xs.foldl min x)):=by
 have h:=minS_c x xs hl
 refine V.en tbOk Tryz.func195 ?_
 refine V.u1 h ?_
 exact Fin.of rfl
theorem greatest_c (x:Int)(xs:List Int)(hl:xs.length<1000):Cl 196 [Jj (x::xs)] (Ji (xs.foldl max x)):=by
 have h:=maxS_c x xs hl
 refine V.en tbOk Tryz.func196 ?_
 refine V.u1 h ?_
 exact Fin.of rfl
theorem of_b (p q:Int):Cl 109 [Ji p,Ji q] (bD (if vb p q=true then (p,q,0) else (0,0,30))):=by
 have h:=jcK p q
 generalize vb p q=v at *
 refine V.en tbOk Tryz.func109 ?_
 refine V.u1 h ?_
 refine V.br (fun hq=>?_) (fun hq=>?_)
 ·simp at hq
  subst hq
  (conv=>whnf)
  refine V.st ?_
  exact Fin.of rfl
 ·simp at hq
  subst hq
  (conv=>whnf)
  refine V.st ?_
  exact Fin.of rfl
theorem near_f (s t:List UInt8)(sc:Nat)(h:okP s t=true)(h1:1≤sc)(h2:sc≤1000000000000)(hz : -9223372036854775808≤nearZ (qv s t) sc∧nearZ (qv s t) sc≤9223372036854775807) :
  Cl 61 [.agg [.str s,.str t],Ji sc] (.tup [Ji (nearZ (qv s t) sc),Ji 0]):=by
 have r1:=jbG s t h
 have q1:=jgI h
 have f1:=jdt sc Jo
 have lsc:(mg 1000000000 sc).length≤2:=jax Jo Jo
 have n1:=near_r (qv s t) sc (q1.1.mono Jo) (jjH q1.2 Jo) Jo
 clear q1
 generalize nearZ (qv s t) sc=z at *
 have lz:(mg 1000000000 z.natAbs).length≤3:=jax Jo Jo
 have x1:=jiu z Jo
 have i1:=int_c z hz.1 hz.2
 clear lz lsc
 unfold rtD at *
 refine V.en tbOk Tryz.func61 ?_
 refine V.u1 r1 ?_
 refine V.br (fun g1=>?_) (fun g1=>?_)
 ·simp at g1
  omega
 ·(conv=>whnf)
  refine V.st ?_
  refine⟨(V.tk [0,1,2] (V.e1 3 [0] (V.e1 4 [] (V.e1 5 [] (V.e1 6 [] (V.tk [7,8,9,10,11] .done)))))),[],V.pok,.go (jac ?_)⟩
  refine V.u4 f1 n1 x1 i1 ?_
  exact Fin.of rfl
theorem okP_dec_o {q:Rat}(h:okF q=true):okP (decZ q.num) (dec q.den)=true∧qv (decZ q.num) (dec q.den)=q:=by
 unfold okF at h
 simp only[jjv,decide_eq_true_eq] at h
 have hdz:dec q.den=decZ (q.den:Int):=by unfold decZ;rw[if_neg Jo,jjV]
 have w1:wval (decZ q.num)=q.num:=jbf _
 have w2:wval (dec q.den)=(q.den:Int):=by rw[hdz];exact jbf _
 have o1:=jcA q.num h.1
 have o2:okW (dec q.den)=true:=by rw[hdz];exact jcA _ (by rw[jjV];exact h.2)
 have hp:=q.den_pos
 constructor
 ·unfold okP
  rw[o1,o2,w1,w2]
  simp only[jjv,decide_eq_true_eq,Bool.true_and,jjV]
  exact⟨Jo,q.reduced⟩
 ·unfold qv
  rw[w1,w2]
  exact jj6 q
theorem okF_small {q:Rat}(h1:q.num.natAbs<10^20)(h2:q.den<10^20):okF q=true:=by
 unfold okF
 simp only[jjv,decide_eq_true_eq]
 exact⟨jjH (jbI 20 _ Jo h1).1 Jo,jjH (jbI 20 _ Jo h2).1 Jo⟩
theorem divInt_le (n:Int)(d:Nat)(hd:0<d):(Rat.divInt n d).num.natAbs≤n.natAbs∧(Rat.divInt n d).den≤d:=by
 obtain⟨h1,_,h3⟩:=jc4 n d hd
 rw[h1,h3]
 exact⟨jjX _ _,jjX _ _⟩
theorem okF_unit (n:Int)(h : -9223372036854775808≤n∧n≤9223372036854775807):okF (Rat.divInt n 1000000000000)=true:=by
 have:=divInt_le n 1000000000000 Jo
 have e:Rat.divInt n 1000000000000=Rat.divInt n ((1000000000000:Nat):Int):=rfl
 rw[e]
 refine okF_small ?_ ?_
 ·exact Nat.lt_of_le_of_lt this.1 Jo
 ·exact Nat.lt_of_le_of_lt this.2 Jo
def unit (n:Int):Rat:=Rat.divInt n 1000000000000
theorem of_unit (n:Int)(h : -9223372036854775808≤n∧n≤9223372036854775807):Cl 102 [Ji n,Ji 1000000000000] (.tup [.agg [.str (decZ (unit n).num),.str (dec (unit n).den)],Ji 0]):=by
 have h1:=of_c n 1000000000000 (by simp only[InR,V.lo,V.hi];omega) (by constructor<;>decide) Jd
 have h2:=okF_unit n h
 unfold frR at h1
 rw[h2] at h1
 exact h1
def jcI (x:Rat):Int×Int×Int:=if vb (nearZ x 1000000000000) (nearZ x 1000000000000)=true then mk (nearZ x 1000000000000+min (ordQ x (unit (nearZ x 1000000000000))) 0) (nearZ x 1000000000000+max (ordQ x (unit (nearZ x 1000000000000))) 0) else (0,0,6)
theorem ordQ_r (x y:Rat) : -1≤ordQ x y∧ordQ x y≤1:=by
 unfold ordQ;split
 ·omega
 ·split<;>omega
theorem around_b (s t:List UInt8)(h:okP s t=true)(hz : -9223372036854775808≤nearZ (qv s t) 1000000000000∧nearZ (qv s t) 1000000000000≤9223372036854775807) :
  Cl 107 [.agg [.str s,.str t]] (bD (jcI (qv s t))):=by
 have n1:=near_f s t 1000000000000 h Jo Jo hz
 unfold jcI
 generalize nearZ (qv s t) 1000000000000=n at *
 have o1:=of_unit n hz
 obtain⟨p1,p2⟩:=okP_dec_o (okF_unit n hz)
 have c1:=fcmp_ok s t (decZ (unit n).num) (dec (unit n).den) h p1
 rw[show qv (decZ (unit n).num) (dec (unit n).den)=unit n from p2] at c1
 have hr:=ordQ_r (qv s t) (unit n)
 generalize ordQ (qv s t) (unit n)=o at *
 generalize decZ (unit n).num=u at *
 generalize dec (unit n).den=v at *
 clear p1 p2 h
 have v1:=jcK n n
 have m1:=made_b (n+min o 0) (n+max o 0)
 by_cases hv:vb n n=true
 ·rw[if_pos hv]
  rw[hv] at v1
  have hb:=jbC.1 hv
  generalize mk (n+min o 0) (n+max o 0)=r at *
  refine V.en tbOk Tryz.func107 ?_
  refine V.u5 n1 o1 c1 v1 m1 ?_
  exact Fin.of rfl
 ·rw[if_neg hv]
  rw[Bool.eq_false_iff.2 hv] at v1
  refine V.en tbOk Tryz.func107 ?_
  refine V.u4 n1 o1 c1 v1 ?_
  exact Fin.of rfl
def flo (z d:Int):Int:=if 0<d then z/d else -z / -d
def cei (z d:Int):Int := -flo (-z) d
def lw (a b c d:Int):Nat→List Int
 | 0=>[0,0,0,0]
 | 1=>[a,0,0,0]
 | 2=>[a,b,0,0]
 | 3=>[a,b,c,0]
 | _=>[a,b,c,d]
end Go.Proofs.YtbnghipgicmpdaaGreatDoor
end
section
namespace Go.Nb
structure Tr (B top v2 head u2:Int):Prop where
 hB:2≤B
 t1:1≤top
 tB:top<B
 v0:0≤v2
 vB:v2<B
 u0:0≤u2
 uB:u2<B
 h0:0≤head
 lt:head*B+u2<B*(top*B+v2)
section
variable {B top v2 head u2 : Int}
theorem Tr.kn (T:Tr B top v2 head u2):Kn B top v2 0 u2 0 head (head*B+u2) (top*B+v2) 1:=
 { hB:=T.hB,hP:=Jo,ht:=T.t1,hv:=Jo,hu:=Jo,v20:=T.v0,v2B:=T.vB,u20:=T.u0,u2B:=T.uB,vr0:=Jo,vrP:=Jo,ur0:=Jo,urP:=Jo,hh:=T.h0,htB:=T.tB,lt:=T.lt }
theorem Tr.vpos (T:Tr B top v2 head u2):0<top*B+v2:=T.kn.vpos
theorem Tr.qnn (T:Tr B top v2 head u2):0≤(head*B+u2)/(top*B+v2):=by
 have h1:0≤head*B:=jjB T.h0 (by have:=T.hB;omega)
 exact jjy (by have:=T.u0;omega) (by have:=T.vpos;omega)
theorem Tr.qmul (T:Tr B top v2 head u2):(head*B+u2)/(top*B+v2)*(top*B+v2)≤head*B+u2:=Int.ediv_mul_le _ (by have:=T.vpos;omega)
theorem Tr.init (T:Tr B top v2 head u2):(head*B+u2)/(top*B+v2)≤head/top:=T.kn.init T.qnn T.qmul
theorem Tr.step (T:Tr B top v2 head u2){q r:Int}(hq:(head*B+u2)/(top*B+v2)≤q)(hr:head=q*top+r)(hc:B≤q∨r*B+u2<q*v2) :
  (head*B+u2)/(top*B+v2)≤q-1∧head=(q-1)*top+(r+top):=
 ⟨T.kn.step T.qnn T.qmul hq hr hc,by rw[Int.sub_mul,jj2];omega⟩
theorem Tr.fin (T:Tr B top v2 head u2){q:Int}(hq:(head*B+u2)/(top*B+v2)≤q)(h:q*(top*B+v2)≤head*B+u2):q=(head*B+u2)/(top*B+v2):=by
 have:=(Int.le_ediv_iff_mul_le T.vpos).2 h
 omega
theorem Tr.lt' (T:Tr B top v2 head u2):(head*B+u2)/(top*B+v2)<B:=T.kn.qlt T.qmul
end
structure Tq (B top v2 head u2 Q:Int):Prop where
 T:Tr B top v2 head u2
 e:(head*B+u2)/(top*B+v2)=Q
section
variable {B top v2 head u2 Q : Int}
theorem Tq.init (T:Tq B top v2 head u2 Q):Q≤head/top:=by rw[← T.e];exact T.T.init
theorem Tq.step (T:Tq B top v2 head u2 Q){q r:Int}(hq:Q≤q)(hr:head=q*top+r)(hc:B≤q∨r*B+u2<q*v2):Q≤q-1∧head=(q-1)*top+(r+top):=by
 rw[← T.e] at hq ⊢; exact T.T.step hq hr hc
theorem Tq.lt (T:Tq B top v2 head u2 Q):Q<B:=by rw[← T.e];exact T.T.lt'
end
end Go.Nb
end
