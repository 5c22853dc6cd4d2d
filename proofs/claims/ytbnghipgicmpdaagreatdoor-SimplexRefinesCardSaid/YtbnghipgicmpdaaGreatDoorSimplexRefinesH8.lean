/- What functions of the program answer at given values, part 8. Conditions: those that each theorem names. -/
import Derived.Test.YtbnghipgicmpdaaGreatDoorSimplexRefinesH7
import Derived.Test.YtbnghipgicmpdaaGreatDoorSimplexRefinesH6
import Derived.Lib.BitFns
import Derived.Laws.Bits64b
import Derived.Test.YtbnghipgicmpdaaGreatDoorSimplexRefinesH5
import Derived.Lib.LaidTab
import Derived.Stop.LaidErr
import Derived.LaidMore
import Derived.Test.YtbnghipgicmpdaaGreatDoorSimplexRefinesH4
set_option linter.unusedSimpArgs false
set_option linter.unusedVariables false
set_option maxHeartbeats 8000000
set_option maxRecDepth 100000
section
namespace Go.Proofs.YtbnghipgicmpdaaGreatDoor
open Go Go.V Go.Nb
def S9 (k:Nat)(z:Int):Prop:=(mg 1000000000 z.natAbs).length≤k
theorem S9.mono {k l:Nat}{z:Int}(h:S9 k z)(hl:k≤l):S9 l z:=jjd h hl
theorem S9.neg {k:Nat}{z:Int}(h:S9 k z):S9 k (-z):=by unfold S9 at *; rw[Int.natAbs_neg];exact h
theorem S9.le {k:Nat}{y z:Int}(h:S9 k z)(hy:y.natAbs≤z.natAbs):S9 k y:=jjd (jah (by omega) hy) h
theorem S9.mul {k l:Nat}{y z:Int}(h:S9 k y)(h2:S9 l z):S9 (k+l) (y*z):=by
 unfold S9 at *
 rw[Int.natAbs_mul]
 have:=jbR (B:=1000000000) (by omega) y.natAbs z.natAbs
 omega
theorem S9.add {k:Nat}{y z:Int}(h:S9 k y)(h2:S9 k z):S9 (k+1) (y+z):=by
 unfold S9 at *
 have h3:=jdb (B:=1000000000) (by omega) y.natAbs z.natAbs
 have h4:=jah (B:=1000000000) (by omega) (Int.natAbs_add_le y z)
 omega
theorem S9.lit {k:Nat}{z:Int}(h:z.natAbs<1000000000^k):S9 k z:=jax (by omega) h
theorem S9.nat {k:Nat}{n:Nat} : S9 k (n:Int)↔(mg 1000000000 n).length≤k:=by unfold S9;rw[jjr]
theorem sum_c9 (x y:Int)(hx:S9 90000000 x)(hy:S9 90000000 y):Cl 166 [itD x,itD y] (itD (x+y)):=by
 unfold S9 at hx hy
 have hl:=jdb (B:=1000000000) (by omega) x.natAbs y.natAbs
 have hs:=plus_m x.natAbs y.natAbs (by omega) (by omega)
 have ho:=jco x.natAbs y.natAbs (by omega) (by omega)
 rw[show itD x = .agg [.ints .u32 (mg 1000000000 x.natAbs),.bool (decide (x<0))] from rfl,show itD y = .agg [.ints .u32 (mg 1000000000 y.natAbs),.bool (decide (y<0))] from rfl]
 refine V.en tbOk Tryz.func166 ?_
 (conv=>whnf)
 refine V.st ?_
 refine V.br (fun hq=>?_) (fun hq=>?_)
 ·rw[beq_iff_eq,decide_eq_decide] at hq
  have hm:=ja6 (x.natAbs+y.natAbs) (decide (x<0))
  have e:(if decide (x<0)=true then -((x.natAbs+y.natAbs:Nat):Int) else ((x.natAbs+y.natAbs:Nat):Int))=x+y:=by
   by_cases h:x<0
   ·simp[h];omega
   ·simp[h];omega
  rw[e] at hm
  (conv=>whnf)
  refine V.st ?_
  refine⟨Pq49z,[],V.pok,.go (jac ?_)⟩
  refine V.u2 hs hm ?_
  exact Fin.of rfl
 ·have hq':¬ (x<0↔y<0):=fun h=>by rw[beq_eq_false_iff_ne] at hq;exact hq (decide_eq_decide.2 h)
  refine V.u1 ho ?_
  refine V.br (fun hq2=>?_) (fun hq2=>?_)
  ·rw[decide_eq_true_eq] at hq2
   have hq3:=Int.neg_of_sign_eq_neg_one (a:=((x.natAbs:Int)-y.natAbs)) (by have:=Int.sign_trichotomy ((x.natAbs:Int)-y.natAbs);omega)
   have hd:=minus_m y.natAbs x.natAbs (by omega) (by omega)
   have hm:=ja6 (y.natAbs-x.natAbs) (decide (y<0))
   have e:(if decide (y<0)=true then -((y.natAbs-x.natAbs:Nat):Int) else ((y.natAbs-x.natAbs:Nat):Int))=x+y:=by
    by_cases h:y<0
    ·simp[h];omega
    ·simp[h];omega
   rw[e] at hm
   (conv=>whnf)
   refine V.st ?_
   refine⟨Pq49z,[],V.pok,.go (jac ?_)⟩
   refine V.u2 hd hm ?_
   exact Fin.of rfl
  ·rw[decide_eq_false_iff_not] at hq2
   have hq3:¬ ((x.natAbs:Int)-y.natAbs)<0:=fun h=>hq2 (by rw[jjz h];decide)
   have hd:=minus_m x.natAbs y.natAbs (by omega) (by omega)
   have hm:=ja6 (x.natAbs-y.natAbs) (decide (x<0))
   have e:(if decide (x<0)=true then -((x.natAbs-y.natAbs:Nat):Int) else ((x.natAbs-y.natAbs:Nat):Int))=x+y:=by
    by_cases h:x<0
    ·simp[h];omega
    ·simp[h];omega
   rw[e] at hm
   (conv=>whnf)
   refine V.st ?_
   refine⟨Pq49z,[],V.pok,.go (jac ?_)⟩
   refine V.u2 hd hm ?_
   exact Fin.of rfl
theorem jdz (x:Int)(d:Nat)(hx:S9 90000000 x)(hd:(mg 1000000000 d).length≤90000000):Cl 164 [itD x,.ints .u32 (mg 1000000000 d)] (itD (x*d)):=by
 unfold S9 at hx
 have ht:=jcJ x.natAbs d (by omega) (by omega)
 have hm:=ja6 (x.natAbs*d) (decide (x<0))
 have e:(if decide (x<0)=true then -((x.natAbs*d:Nat):Int) else ((x.natAbs*d:Nat):Int))=x*d:=by
  rw[jjm]
  by_cases h:x<0
  ·have e2:(x.natAbs:Int) = -x:=by omega
   rw[e2,decide_eq_true h,if_pos rfl,Int.neg_mul,Int.neg_neg]
  ·have e2:(x.natAbs:Int)=x:=by omega
   rw[e2];simp[h]
 rw[e] at hm
 refine V.en tbOk Tryz.func164 ?_
 (conv=>whnf)
 refine V.st ?_
 refine⟨(V.tk [0,1,2,4,5] (V.e1 3 [5,4] (V.e1 6 [] (V.e1 7 [] .done)))),[],V.pok,.go (jac ?_)⟩
 refine V.u2 ht hm ?_
 exact Fin.of rfl
theorem jf0 (x:Int):Cl 218 [itD x] (itD (-x)):=by
 have hm:=ja6 x.natAbs (!decide (x<0))
 have e:(if (!decide (x<0))=true then -(x.natAbs:Int) else (x.natAbs:Int)) = -x:=by
  by_cases h:x<0
  ·simp[h];omega
  ·simp[h];omega
 rw[e] at hm
 refine V.en tbOk Tryz.func218 ?_
 refine V.u1 hm ?_
 exact Fin.of rfl
theorem sign_c (x:Int):Cl 160 [itD x] (.int .i64 x.sign):=by
 have hz:=jdt x.natAbs
 refine V.en tbOk Tryz.func160 ?_
 refine V.u1 hz ?_
 refine V.br (fun hq=>?_) (fun hq=>?_)
 ·rw[decide_eq_true_eq] at hq
  (conv=>whnf)
  refine V.st ?_
  exact Fin.of (by rw[show x=0 by omega];rfl)
 ·rw[decide_eq_false_iff_not] at hq
  (conv=>whnf)
  refine V.st ?_
  refine V.br (fun hq2=>?_) (fun hq2=>?_)
  ·rw[decide_eq_true_eq] at hq2
   (conv=>whnf)
   refine V.st ?_
   exact Fin.of (by rw[jjz hq2])
  ·rw[decide_eq_false_iff_not] at hq2
   (conv=>whnf)
   refine V.st ?_
   exact Fin.of (by rw[jjA (by omega)])
theorem jgC (x y:Rat)(hx:S9 40000000 x.num)(hy:S9 40000000 y.num)(hxd:(mg 1000000000 x.den).length≤40000000)(hyd:(mg 1000000000 y.den).length≤40000000):Cl 184 [rtD x,rtD y] (.int .i64 (ordQ x y)):=by
 have s1:=jdz x.num y.den (hx.mono (by omega)) (by omega)
 have s2:=jdz y.num x.den (hy.mono (by omega)) (by omega)
 have s3:=jf0 (y.num*x.den)
 have z1:S9 80000000 (x.num*y.den):=hx.mul (S9.nat.2 hyd)
 have z2:S9 80000000 (y.num*x.den):=hy.mul (S9.nat.2 hxd)
 have s4:=sum_c9 (x.num*y.den) (-(y.num*x.den)) (z1.mono (by omega)) (z2.neg.mono (by omega))
 have s5:=sign_c (x.num*y.den + -(y.num*x.den))
 rw[je5] at s5
 refine V.en tbOk Tryz.func184 ?_
 (conv=>whnf)
 refine V.st ?_
 refine⟨(V.tk [0,1,2,3,5,6,7,8] (V.e1 4 [8,7,6,5] (V.e1 9 [] (V.e1 10 [] (V.e1 11 [] (V.e1 12 [] (V.tk [13] .done))))))),[],V.pok,.go (jac ?_)⟩
 refine V.u5 s1 s2 s3 s4 s5 ?_
 exact Fin.of rfl
theorem floor_neg (x:Int)(d:Nat)(hx:x<0)(hd:0<d):x/(d:Int)=if x.natAbs%d=0 then -((x.natAbs/d:Nat):Int) else -((x.natAbs/d+1:Nat):Int):=by
 have h1:=Nat.div_add_mod x.natAbs d
 have h2:=jjf x.natAbs hd
 have e:x = -(x.natAbs:Int):=by omega
 generalize x.natAbs=n at *
 generalize hq:n/d=q at *
 generalize hr:n%d=r at *
 subst e
 have h3:((d*q+r:Nat):Int)=(n:Int):=by rw[h1]
 rw[Int.natCast_add,jjm] at h3
 split
 ·rename_i h
  subst h
  rw[← h3,Int.natCast_zero,jjv,← Int.mul_neg,Int.mul_ediv_cancel_left _ (by omega)]
 ·rw[Int.natCast_add,Int.natCast_one]
  refine(Int.ediv_eq_iff_of_pos (by omega)).2 ⟨?_,?_⟩
  ·rw[← h3,Int.neg_mul,jjx,jjo (q:Int)];omega
  ·rw[← h3,Int.neg_mul,jjx,jjo (q:Int)];omega
theorem floor_c (x:Int)(d:Nat)(hd:0<d)(hx:S9 80000000 x)(hdl:(mg 1000000000 d).length≤80000000):Cl 168 [itD x,.ints .u32 (mg 1000000000 d)] (itD (x/d)):=by
 unfold S9 at hx
 have h1:=jbg x.natAbs d hd (by omega) (by omega)
 have h2:=jdt (x.natAbs%d)
 have hl2:=jah (B:=1000000000) (by omega) (jjt x.natAbs d)
 have h3:=plus_m (x.natAbs/d) 1 (by omega) (by decide)
 have h4:=ja6 (x.natAbs/d+1) (decide (x<0))
 have h5:=ja6 (x.natAbs/d) (decide (x<0))
 by_cases hx0:x<0
 ·rw[floor_neg x d hx0 hd]
  rw[show itD x = .agg [.ints .u32 (mg 1000000000 x.natAbs),.bool (decide (x<0))] from rfl]
  rw[decide_eq_true hx0] at h4 h5 ⊢
  rw[if_pos rfl] at h4 h5
  refine V.en tbOk Tryz.func168 ?_
  refine V.u2 h1 h2 ?_
  refine V.br (fun hq=>?_) (fun hq=>?_)
  ·simp only[Bool.true_and,Bool.not_eq_true',decide_eq_false_iff_not] at hq
   rw[if_neg hq]
   refine V.u2 h3 h4 ?_
   exact Fin.of rfl
  ·simp only[Bool.true_and,Bool.not_eq_false',decide_eq_true_eq] at hq
   rw[if_pos hq]
   refine V.u1 h5 ?_
   exact Fin.of rfl
 ·have e:x/(d:Int)=((x.natAbs/d:Nat):Int):=by
   rw[Int.natCast_ediv];congr 1;omega
  rw[e]
  rw[show itD x = .agg [.ints .u32 (mg 1000000000 x.natAbs),.bool (decide (x<0))] from rfl]
  rw[decide_eq_false hx0] at h5 ⊢
  rw[if_neg (by simp)] at h5
  refine V.en tbOk Tryz.func168 ?_
  refine V.u2 h1 h2 ?_
  refine V.br (fun hq=>?_) (fun hq=>?_)
  ·simp at hq
  ·(conv=>whnf)
   refine V.u1 h5 ?_
   exact Fin.of rfl
def nearZ (q:Rat)(s:Nat):Int:=(q.num*((s*2:Nat):Int)+q.den)/((q.den*2:Nat):Int)
theorem near_r (x:Rat)(s:Nat)(hx:S9 30000000 x.num)(hxd:(mg 1000000000 x.den).length≤30000000)(hs:(mg 1000000000 s).length≤30000000):Cl 117 [rtD x,.ints .u32 (mg 1000000000 s)] (itD (nearZ x s)):=by
 have h2:(mg 1000000000 2).length≤1:=by decide
 have t1:=jcJ s 2 (by omega) (by omega)
 have l1:=jbR (B:=1000000000) (by omega) s 2
 have s1:=jdz x.num (s*2) (hx.mono (by omega)) (by omega)
 have s2:=ja6 x.den false
 rw[if_neg (by simp)] at s2
 have z1:S9 60000001 (x.num*((s*2:Nat):Int)):=hx.mul (l:=30000001) (S9.nat.2 (by omega))
 have z2:S9 60000001 (x.den:Int):=S9.nat.2 (by omega)
 have s3:=sum_c9 _ _ (z1.mono (by omega)) (z2.mono (by omega))
 have t2:=jcJ x.den 2 (by omega) (by omega)
 have l2:=jbR (B:=1000000000) (by omega) x.den 2
 have s4:=floor_c (x.num*((s*2:Nat):Int)+x.den) (x.den*2) (by have:=x.den_pos;omega) ((z1.add z2).mono (by omega)) (by omega)
 unfold nearZ
 clear z1 z2
 generalize x.num*((s*2:Nat):Int)+x.den=top at *
 refine V.en tbOk Tryz.func117 ?_
 (conv=>whnf)
 refine V.st ?_
 refine⟨(V.tk [0,1,2,3,6,7] (.ev (.cons 4 [7,6,1,0] (.ev (.cons 5 [7,6] (.ev (.cons 8 [] (.ev (.cons 9 [] (V.e1 10 [] (V.e1 11 [] .done)) (.cons 10 [] (V.e1 9 [] (V.e1 11 [] .done)) .nil))) (.cons 10 [7,6] (V.e1 8 [] (V.e1 9 [] (V.e1 11 [] .done))) .nil))) (.cons 10 [7,6,1,0] (V.e1 5 [7,6] (V.e1 8 [] (V.e1 9 [] (V.e1 11 [] .done)))) .nil))) (.cons 10 [7,6,3,2,1,0] (V.e1 4 [7,6,1,0] (V.e1 5 [7,6] (V.e1 8 [] (V.e1 9 [] (V.e1 11 [] .done))))) .nil)))),[],V.pok,?_⟩
 refine jab [(6,.box 6 0),(5,.ints .u32 [2]),(7,.ints .u32 [2])] [(6,.box [.ints .u32 (mg 1000000000 top.natAbs),.bool (decide (top<0))]),(7,.gone)] ?_ ?_
 ·exact V.d4 @ji8 t1 s1 s2 s3
 refine V.st ?_
 refine⟨(V.tk [0,1,2,3] (V.e1 4 [0] (V.e1 5 [] (V.e1 6 [] .done)))),[],V.pok,.go (jac ?_)⟩
 refine V.u2 t2 s4 ?_
 exact Fin.of rfl
theorem jdf (n:Int)(d:Nat)(hd:0<d)(h:Nat.Coprime n.natAbs d):(Rat.divInt n d).num=n∧(Rat.divInt n d).den=d:=by
 have h1:Int.gcd (d:Int) n=1:=by rw[Int.gcd_comm];exact h
 rw[Rat.num_divInt,Rat.den_divInt,if_neg (by omega),jjA (by omega),jjy,h1]
 simp
theorem jfz {a b c:Nat}(h:Nat.Coprime a b)(hc:c ∣ a):Nat.Coprime c b:=Nat.Coprime.coprime_dvd_left hc h
theorem cop_dvd' {a b c:Nat}(h:Nat.Coprime a b)(hc:c ∣ b):Nat.Coprime a c:=Nat.Coprime.coprime_dvd_right hc h
theorem sum_cop {xn yn:Int}{R L xb:Nat}(hx:Nat.Coprime xn.natAbs xb)(hR:R ∣ xb)(hRL:Nat.Coprime R L):Nat.Coprime (xn*L+yn*R).natAbs R:=by
 have h1:Nat.gcd (xn*L+yn*R).natAbs R ∣ R:=Nat.gcd_dvd_right _ _
 have h2:Nat.gcd (xn*L+yn*R).natAbs R ∣ (xn*L+yn*R).natAbs:=Nat.gcd_dvd_left _ _
 obtain⟨d,hd⟩:∃ d,d=Nat.gcd (xn*L+yn*R).natAbs R:=⟨_,rfl⟩
 rw[← hd] at h1 h2
 have h3:(d:Int) ∣ xn*L+yn*R:=Int.ofNat_dvd_left.2 h2
 have h4:(d:Int) ∣ yn*R:=Int.dvd_trans (Int.ofNat_dvd.2 h1) (Int.dvd_mul_left _ _)
 have h5:(d:Int) ∣ xn*L:=by
  have:=Int.dvd_sub h3 h4
  rwa [Int.add_sub_cancel] at this
 have h6:d ∣ xn.natAbs*L:=by
  have:=Int.ofNat_dvd_left.1 h5
  rwa [Int.natAbs_mul,jjr] at this
 have h7:Nat.Coprime d L:=jfz hRL h1
 have h8:d ∣ xn.natAbs:=Nat.Coprime.dvd_of_dvd_mul_right h7 h6
 have h9:d ∣ Nat.gcd xn.natAbs xb:=Nat.dvd_gcd h8 (Nat.dvd_trans h1 hR)
 rw[hx.gcd_eq_one] at h9
 show Nat.gcd _ _=1
 rw[← hd]
 exact Nat.dvd_one.1 h9
theorem add_parts (x y:Rat) :
  let g:=Nat.gcd x.den y.den;let L:=y.den/g;let R:=x.den/g;let top:=x.num*L+y.num*R;let h:=Nat.gcd top.natAbs g
  (x+y).num=top/h∧(x+y).den=R*(y.den/h):=by
 intro g L R top h
 have hg:0<g:=Nat.gcd_pos_of_pos_left _ x.den_pos
 have ex:x.den=R*g:=(Nat.div_mul_cancel (Nat.gcd_dvd_left _ _)).symm
 have ey:y.den=L*g:=(Nat.div_mul_cancel (Nat.gcd_dvd_right _ _)).symm
 have hRL:Nat.Coprime R L:=Nat.coprime_div_gcd_div_gcd hg
 have c1:Nat.Coprime top.natAbs R:=sum_cop x.reduced (by rw[ex];exact Nat.dvd_mul_right _ _) hRL
 have c2:Nat.Coprime top.natAbs L:=by
  have:=sum_cop (xn:=y.num) (yn:=x.num) (R:=L) (L:=R) y.reduced (by rw[ey];exact Nat.dvd_mul_right _ _) hRL.symm
  rwa [Int.add_comm] at this
 have hh:0<h:=Nat.gcd_pos_of_pos_right _ hg
 have hht:h ∣ top.natAbs:=Nat.gcd_dvd_left _ _
 have hhg:h ∣ g:=Nat.gcd_dvd_right _ _
 have hT:((h:Nat):Int) ∣ top:=Int.ofNat_dvd_left.2 hht
 obtain⟨t,ht⟩:=hT
 obtain⟨q,hq⟩:=hhg
 have hyq:y.den/h=L*q:=by
  rw[ey,hq,jjg h q,← Nat.mul_assoc,Nat.mul_div_cancel _ hh]
 have htn:top.natAbs=h*t.natAbs:=by rw[ht,Int.natAbs_mul,jjr]
 have hcq:Nat.Coprime t.natAbs q:=by
  have h1:Nat.Coprime (top.natAbs/h) (g/h):=Nat.coprime_div_gcd_div_gcd hh
  rwa [htn,hq,Nat.mul_div_cancel_left _ hh,Nat.mul_div_cancel_left _ hh] at h1
 have htd:t.natAbs ∣ top.natAbs:=by rw[htn];exact Nat.dvd_mul_left _ _
 have hcop:Nat.Coprime t.natAbs (R*(y.den/h)):=by
  rw[hyq]
  exact Nat.Coprime.mul_right (jfz c1 htd) (Nat.Coprime.mul_right (jfz c2 htd) hcq)
 have hqp:0<q:=Nat.pos_of_ne_zero fun e=>by rw[e] at hq;omega
 have hLp:0<L:=Nat.pos_of_ne_zero fun e=>by have:=y.den_pos;rw[ey,e] at this;omega
 have hRp:0<R:=Nat.pos_of_ne_zero fun e=>by have:=x.den_pos;rw[ex,e] at this;omega
 have hsum:x+y=Rat.divInt t ((R*(y.den/h):Nat):Int):=by
  conv=>lhs;rw[← jjC x,← jjC y]
  rw[Rat.divInt_add_divInt _ _ (by have:=x.den_pos;omega) (by have:=y.den_pos;omega)]
  have hyp:=y.den_pos
  have hxp:=x.den_pos
  rw[Rat.divInt_eq_divInt_iff (by have:=Nat.mul_pos hxp hyp;rw[← jjm];omega) (by have:0<R*(y.den/h):=by { rw[hyq];exact Nat.mul_pos hRp (Nat.mul_pos hLp hqp) }; omega)]
  rw[hyq,ex,ey,hq]
  have e1:x.num*((L*(h*q):Nat):Int)+y.num*((R*(h*q):Nat):Int)=(h*q:Nat)*top:=by
   show _=((h*q:Nat):Int)*(x.num*(L:Int)+y.num*(R:Int))
   simp only[jjm,jjn]
   congr 1<;>ac_rfl
  rw[e1,ht]
  simp only[jjm]
  ac_rfl
 have hp:0<R*(y.den/h):=by rw[hyq];exact Nat.mul_pos hRp (Nat.mul_pos hLp hqp)
 obtain⟨p1,p2⟩:=jdf t (R*(y.den/h)) hp hcop
 rw[hsum,p1,p2,ht,Int.mul_ediv_cancel_left _ (by omega)]
 exact⟨rfl,rfl⟩
theorem mul_parts (x y:Rat) :
  let g:=Nat.gcd x.num.natAbs y.den;let h:=Nat.gcd y.num.natAbs x.den
  (x*y).num.natAbs=(x.num.natAbs/g)*(y.num.natAbs/h)∧(x*y).den=(x.den/h)*(y.den/g):=by
 intro g h
 have hg:0<g:=Nat.gcd_pos_of_pos_right _ y.den_pos
 have hh:0<h:=Nat.gcd_pos_of_pos_right _ x.den_pos
 obtain⟨a,ha⟩:g ∣ x.num.natAbs:=Nat.gcd_dvd_left _ _
 obtain⟨b,hb⟩:g ∣ y.den:=Nat.gcd_dvd_right _ _
 obtain⟨c,hc⟩:h ∣ y.num.natAbs:=Nat.gcd_dvd_left _ _
 obtain⟨d,hd⟩:h ∣ x.den:=Nat.gcd_dvd_right _ _
 have k1:x.num.natAbs/g=a:=by rw[ha,Nat.mul_div_cancel_left _ hg]
 have k2:y.den/g=b:=by rw[hb,Nat.mul_div_cancel_left _ hg]
 have k3:y.num.natAbs/h=c:=by rw[hc,Nat.mul_div_cancel_left _ hh]
 have k4:x.den/h=d:=by rw[hd,Nat.mul_div_cancel_left _ hh]
 have c1:Nat.Coprime a b:=by
  have:Nat.Coprime (x.num.natAbs/g) (y.den/g):=Nat.coprime_div_gcd_div_gcd hg
  rwa [k1,k2] at this
 have c2:Nat.Coprime c d:=by
  have:Nat.Coprime (y.num.natAbs/h) (x.den/h):=Nat.coprime_div_gcd_div_gcd hh
  rwa [k3,k4] at this
 have c3:Nat.Coprime a d:=jfz (cop_dvd' x.reduced (by rw[hd];exact Nat.dvd_mul_left _ _)) (by rw[ha];exact Nat.dvd_mul_left _ _)
 have c4:Nat.Coprime c b:=jfz (cop_dvd' y.reduced (by rw[hb];exact Nat.dvd_mul_left _ _)) (by rw[hc];exact Nat.dvd_mul_left _ _)
 have hcop:Nat.Coprime (a*c) (d*b):=Nat.Coprime.mul_right (Nat.Coprime.mul_left c3 c2) (Nat.Coprime.mul_left c1 c4)
 obtain⟨u,hu⟩:((g:Nat):Int) ∣ x.num:=Int.ofNat_dvd_left.2 ⟨a,ha⟩
 obtain⟨v,hv⟩:((h:Nat):Int) ∣ y.num:=Int.ofNat_dvd_left.2 ⟨c,hc⟩
 have hua:u.natAbs=a:=by
  have:=ha;rw[hu,Int.natAbs_mul,jjr] at this
  exact Nat.eq_of_mul_eq_mul_left hg this
 have hvc:v.natAbs=c:=by
  have:=hc;rw[hv,Int.natAbs_mul,jjr] at this
  exact Nat.eq_of_mul_eq_mul_left hh this
 have hbp:0<b:=Nat.pos_of_ne_zero fun e=>by have:=y.den_pos;rw[hb,e] at this;omega
 have hdp:0<d:=Nat.pos_of_ne_zero fun e=>by have:=x.den_pos;rw[hd,e] at this;omega
 have hp:0<d*b:=Nat.mul_pos hdp hbp
 have hprod:x*y=Rat.divInt (u*v) ((d*b:Nat):Int):=by
  conv=>lhs;rw[← jjC x,← jjC y]
  rw[Rat.divInt_mul_divInt]
  have hyp:=y.den_pos
  have hxp:=x.den_pos
  rw[Rat.divInt_eq_divInt_iff (by have:=Nat.mul_pos hxp hyp;rw[← jjm];omega) (by omega),hb,hd]
  conv=>lhs;rw[hu,hv]
  simp only[jjm]
  ac_rfl
 obtain⟨p1,p2⟩:=jdf (u*v) (d*b) hp (by rw[Int.natAbs_mul,hua,hvc];exact hcop)
 rw[hprod,p1,p2,Int.natAbs_mul,hua,hvc,k1,k2,k3,k4]
 exact⟨rfl,rfl⟩
theorem mul_sign (x y:Rat):decide ((x*y).num<0)=((decide (x.num<0) != decide (y.num<0)) && !decide ((x*y).num=0)):=by
 have hg:0<Nat.gcd (x.num*y.num).natAbs (x.den*y.den):=Nat.gcd_pos_of_pos_right _ (Nat.mul_pos x.den_pos y.den_pos)
 obtain⟨t,ht⟩:((Nat.gcd (x.num*y.num).natAbs (x.den*y.den):Nat):Int) ∣ x.num*y.num:=Int.ofNat_dvd_left.2 (Nat.gcd_dvd_left _ _)
 have key:(x*y).num=t:=by
  rw[Rat.mul_def,Rat.normalize_eq]
  show x.num*y.num/((Nat.gcd (x.num*y.num).natAbs (x.den*y.den):Nat):Int)=t
  conv=>lhs;lhs;rw[ht]
  exact Int.mul_ediv_cancel_left _ (by omega)
 rw[key]
 generalize Nat.gcd (x.num*y.num).natAbs (x.den*y.den)=g at *
 have hs:(t<0↔x.num*y.num<0)∧(t=0↔x.num*y.num=0):=by
  rw[ht]
  constructor
  ·constructor
   ·intro h;exact Int.mul_neg_of_pos_of_neg (by omega) h
   ·intro h
    rcases Int.lt_or_le t 0 with h2|h2
    ·exact h2
    ·have:=ji6 (a:=(g:Int)) (by omega) h2;omega
  ·constructor
   ·intro h;rw[h,Int.mul_zero]
   ·intro h;rcases Int.mul_eq_zero.1 h with h2|h2<;>omega
 by_cases h1:x.num<0<;>by_cases h2:y.num<0<;>by_cases h3:t=0
 all_goals
  have h4:=hs.1
  have h5:=hs.2
  simp only[h1,h2,h3,decide_true,decide_false,bne_self_eq_false,Bool.false_and,Bool.not_true,Bool.and_false,Bool.not_false,Bool.and_true]
 ·rfl
 ·rw[decide_eq_false_iff_not,h4]
  have:=Int.mul_pos_of_neg_of_neg h1 h2;omega
 ·simp
 ·have h6:x.num*y.num≠0:=fun e=>h3 (h5.2 e)
  have h7:x.num*y.num≤0:=Int.mul_nonpos_of_nonpos_of_nonneg (by omega) (by omega)
  simp only[h4]
  simp;omega
 ·simp
 ·have h6:x.num*y.num≠0:=fun e=>h3 (h5.2 e)
  have h7:x.num*y.num≤0:=Int.mul_nonpos_of_nonneg_of_nonpos (by omega) (by omega)
  simp only[h4]
  simp;omega
 ·rfl
 ·rw[decide_eq_false_iff_not,h4]
  have:=ji6 (a:=x.num) (b:=y.num) (by omega) (by omega);omega
def Q9 (k:Nat)(q:Rat):Prop:=S9 k q.num∧(mg 1000000000 q.den).length≤k
theorem Q9.mono {k l:Nat}{q:Rat}(h:Q9 k q)(hl:k≤l):Q9 l q:=⟨h.1.mono hl,jjd h.2 hl⟩
theorem Q9.neg {k:Nat}{q:Rat}(h:Q9 k q):Q9 k (-q):=⟨by rw[Rat.neg_num];exact h.1.neg,by rw[Rat.neg_den];exact h.2⟩
theorem div_sign (t:Int)(h:Nat)(hd:h ∣ t.natAbs):(if decide (t<0)=true then -((t.natAbs/h:Nat):Int) else ((t.natAbs/h:Nat):Int))=t/h:=by
 have e:t=t.sign*(t.natAbs:Int):=(Int.sign_mul_natAbs t).symm
 by_cases hz:t<0
 ·rw[decide_eq_true hz,if_pos rfl]
  have e2:t = -(t.natAbs:Int):=by omega
  conv=>rhs;rw[e2]
  rw[Int.neg_ediv_of_dvd (Int.ofNat_dvd.2 hd),Int.natCast_ediv]
 ·rw[decide_eq_false hz,if_neg (by simp)]
  have e2:t=(t.natAbs:Int):=by omega
  conv=>rhs;rw[e2]
  rw[Int.natCast_ediv]
theorem negated_c (q:Rat):Cl 193 [rtD q] (rtD (-q)):=by
 have h1:=jf0 q.num
 have e:rtD (-q) = .agg [.ints .u32 (mg 1000000000 (-q.num).natAbs),.bool (decide (-q.num<0)),.ints .u32 (mg 1000000000 q.den)]:=by unfold rtD;rw[Rat.neg_num,Rat.neg_den]
 rw[e]
 refine V.en tbOk Tryz.func193 ?_
 (conv=>whnf)
 refine V.st ?_
 refine⟨(V.tk [0,1,3,4] (V.e1 2 [4,3] (V.tk [5] (V.e1 6 [] .done)))),[],V.pok,.go (jac ?_)⟩
 refine V.u1 h1 ?_
 exact Fin.of rfl
theorem add_c (x y:Rat)(hx:Q9 20000000 x)(hy:Q9 20000000 y):Cl 155 [rtD x,rtD y] (rtD (x+y)):=by
 obtain⟨p1,p2⟩:=add_parts x y
 have g1:=gcd_c x.den y.den (by have:=hx.2;omega) (by have:=hy.2;omega)
 have hg:0<Nat.gcd x.den y.den:=Nat.gcd_pos_of_pos_left _ x.den_pos
 have lg:=jah (B:=1000000000) (by omega) (Nat.gcd_le_left y.den x.den_pos)
 generalize Nat.gcd x.den y.den=g at *
 have hx1:=hx.1
 have hy1:=hy.1
 have hx2:=hx.2
 have hy2:=hy.2
 have d1:=jbg y.den g hg (by omega) (by omega)
 have d2:=jbg x.den g hg (by omega) (by omega)
 have lL:=jah (B:=1000000000) (by omega) (jjt y.den g)
 have lR:=jah (B:=1000000000) (by omega) (jjt x.den g)
 have s1:=jdz x.num (y.den/g) (hx1.mono (by omega)) (by omega)
 have s2:=jdz y.num (x.den/g) (hy1.mono (by omega)) (by omega)
 have z1:S9 40000000 (x.num*((y.den/g:Nat):Int)):=hx1.mul (l:=20000000) (S9.nat.2 (by omega))
 have z2:S9 40000000 (y.num*((x.den/g:Nat):Int)):=hy1.mul (l:=20000000) (S9.nat.2 (by omega))
 have s3:=sum_c9 _ _ (z1.mono (by omega)) (z2.mono (by omega))
 have z3:=z1.add z2
 generalize x.num*((y.den/g:Nat):Int)+y.num*((x.den/g:Nat):Int)=top at *
 unfold S9 at z3
 have g2:=gcd_c top.natAbs g (by omega) (by omega)
 have hh:0<Nat.gcd top.natAbs g:=Nat.gcd_pos_of_pos_right _ hg
 have lh:=jah (B:=1000000000) (by omega) (Nat.gcd_le_right top.natAbs hg)
 have hdv:Nat.gcd top.natAbs g ∣ top.natAbs:=Nat.gcd_dvd_left _ _
 generalize Nat.gcd top.natAbs g=h at *
 have d3:=jbg top.natAbs h hh (by omega) (by omega)
 have d4:=jbg y.den h hh (by omega) (by omega)
 have lT:=jah (B:=1000000000) (by omega) (jjt y.den h)
 have t1:=jcJ (x.den/g) (y.den/h) (by omega) (by omega)
 have m1:=ja6 (top.natAbs/h) (decide (top<0))
 rw[div_sign top h hdv,← p1] at m1
 rw[← p2] at t1
 refine V.en tbOk Tryz.func155 ?_
 refine V.u3 g1 d1 d2 ?_
 refine⟨(V.tk [0,1,2,4,5,6] (.ev (.cons 3 [6,5,4] (.ev (.cons 7 [] (.ev (.cons 8 [] (V.e1 9 [] (V.e1 10 [] .done)) (.cons 9 [] (V.e1 8 [] (V.e1 10 [] .done)) .nil))) (.cons 9 [6,5,4] (V.e1 7 [] (V.e1 8 [] (V.e1 10 [] .done))) .nil))) (.cons 9 [6,5,4,2,1,0] (V.e1 3 [6,5,4] (V.e1 7 [] (V.e1 8 [] (V.e1 10 [] .done)))) .nil)))),[],V.pok,?_⟩
 refine jab [(10,.box 10 0)] [(10,.box [.ints .u32 (mg 1000000000 top.natAbs),.bool (decide (top<0))])] ?_ ?_
 ·exact V.d3 @ji8 s1 s2 s3
 refine V.u5 g2 d3 d4 m1 t1 ?_
 exact Fin.of rfl
theorem sub_c (x y:Rat)(hx:Q9 20000000 x)(hy:Q9 20000000 y):Cl 154 [rtD x,rtD y] (rtD (x-y)):=by
 have h1:=negated_c y
 have h2:=add_c x (-y) hx hy.neg
 rw[← Rat.sub_eq_add_neg] at h2
 refine V.en tbOk Tryz.func154 ?_
 (conv=>whnf)
 refine V.st ?_
 refine⟨Pq69z,[],V.pok,.go (jac ?_)⟩
 refine V.u2 h1 h2 ?_
 exact Fin.of rfl
theorem mul_num (x y:Rat):(if (decide (x.num<0) != decide (y.num<0))=true then -((x*y).num.natAbs:Int) else ((x*y).num.natAbs:Int))=(x*y).num:=by
 have h:=mul_sign x y
 by_cases h0:(x*y).num=0
 ·rw[h0];simp
 ·rw[decide_eq_false h0,Bool.not_false,Bool.and_true] at h
  rw[← h]
  by_cases h1:(x*y).num<0
  ·rw[decide_eq_true h1,if_pos rfl];omega
  ·rw[decide_eq_false h1,if_neg (by simp)];omega
theorem mul_c (x y:Rat)(hx:Q9 20000000 x)(hy:Q9 20000000 y):Cl 144 [rtD x,rtD y] (rtD (x*y)):=by
 obtain⟨p1,p2⟩:=mul_parts x y
 have pn:=mul_num x y
 have hx1:=hx.1
 have hy1:=hy.1
 have hx2:=hx.2
 have hy2:=hy.2
 unfold S9 at hx1 hy1
 have g1:=gcd_c x.num.natAbs y.den (by omega) (by omega)
 have g2:=gcd_c y.num.natAbs x.den (by omega) (by omega)
 have hg:0<Nat.gcd x.num.natAbs y.den:=Nat.gcd_pos_of_pos_right _ y.den_pos
 have hh:0<Nat.gcd y.num.natAbs x.den:=Nat.gcd_pos_of_pos_right _ x.den_pos
 have lg:=jah (B:=1000000000) (by omega) (Nat.gcd_le_right x.num.natAbs y.den_pos)
 have lh:=jah (B:=1000000000) (by omega) (Nat.gcd_le_right y.num.natAbs x.den_pos)
 generalize Nat.gcd x.num.natAbs y.den=g at *
 generalize Nat.gcd y.num.natAbs x.den=h at *
 have d1:=jbg x.num.natAbs g hg (by omega) (by omega)
 have d2:=jbg x.den h hh (by omega) (by omega)
 have d3:=jbg y.num.natAbs h hh (by omega) (by omega)
 have d4:=jbg y.den g hg (by omega) (by omega)
 have l1:=jah (B:=1000000000) (by omega) (jjt x.num.natAbs g)
 have l2:=jah (B:=1000000000) (by omega) (jjt x.den h)
 have l3:=jah (B:=1000000000) (by omega) (jjt y.num.natAbs h)
 have l4:=jah (B:=1000000000) (by omega) (jjt y.den g)
 have t1:=jcJ (x.num.natAbs/g) (y.num.natAbs/h) (by omega) (by omega)
 have t2:=jcJ (x.den/h) (y.den/g) (by omega) (by omega)
 rw[← p1] at t1
 rw[← p2] at t2
 have m1:=ja6 (x*y).num.natAbs (decide (x.num<0) != decide (y.num<0))
 rw[pn] at m1
 refine V.en tbOk Tryz.func144 ?_
 refine V.u6 g1 g2 d1 d2 d3 d4 ?_
 refine⟨(V.tk [0,1,3,4,5,6,7,8,9,11,12] (V.e1 2 [12,11,9,8,7,6,5,4,3] (V.e1 10 [12,11] (V.e1 13 [] (V.tk [14] (V.e1 15 [] .done)))))),[],V.pok,.go (jac ?_)⟩
 refine V.u3 t1 m1 t2 ?_
 exact Fin.of rfl
theorem jhc (q:Rat)(hq:q.num≠0):q⁻¹.num=(if decide (q.num<0)=true then -(q.den:Int) else (q.den:Int))∧q⁻¹.den=q.num.natAbs:=by
 have hd:=q.den_pos
 have hc:Nat.Coprime (if decide (q.num<0)=true then -(q.den:Int) else (q.den:Int)).natAbs q.num.natAbs:=by
  have e:(if decide (q.num<0)=true then -(q.den:Int) else (q.den:Int)).natAbs=q.den:=by
   split<;>simp
  rw[e]
  exact q.reduced.symm
 have e:q⁻¹=Rat.divInt (if decide (q.num<0)=true then -(q.den:Int) else (q.den:Int)) (q.num.natAbs:Nat):=by
  rw[Rat.inv_def,Rat.divInt_eq_divInt_iff hq (by omega)]
  by_cases h:q.num<0
  ·rw[decide_eq_true h,if_pos rfl,show (q.num.natAbs:Int) = -q.num by omega,Int.mul_neg,Int.neg_mul]
  ·rw[decide_eq_false h,if_neg (by simp),show (q.num.natAbs:Int)=q.num by omega]
 obtain⟨h1,h2⟩:=jdf _ q.num.natAbs (by omega) hc
 rw[e]
 exact⟨h1,h2⟩
theorem inverse_c (q:Rat)(hq:q.num≠0):Cl 146 [rtD q] (rtD q⁻¹):=by
 obtain⟨p1,p2⟩:=jhc q hq
 have m1:=ja6 q.den (decide (q.num<0))
 rw[← p1] at m1
 have e:rtD q⁻¹ = .agg [.ints .u32 (mg 1000000000 q⁻¹.num.natAbs),.bool (decide (q⁻¹.num<0)),.ints .u32 (mg 1000000000 q.num.natAbs)]:=by unfold rtD;rw[p2]
 rw[e]
 refine V.en tbOk Tryz.func146 ?_
 (conv=>whnf)
 refine V.st ?_
 refine⟨(V.tk [0,1,2,3,4,6,7,8] (V.e1 5 [8,7,6] (V.tk [9] (V.e1 10 [] .done)))),[],V.pok,.go (jac ?_)⟩
 refine V.u1 m1 ?_
 exact Fin.of rfl
theorem lesser_c (x y:Rat)(hx:Q9 20000000 x)(hy:Q9 20000000 y):Cl 214 [rtD x,rtD y] (rtD (if y<x then y else x)):=by
 have h1:=jgC x y (hx.1.mono (by omega)) (hy.1.mono (by omega)) (jjd hx.2 (by omega)) (jjd hy.2 (by omega))
 have e:ordQ x y>0↔y<x:=by
  unfold ordQ
  by_cases a:x<y
  ·rw[if_pos a];exact⟨fun h=>by omega,fun h=>absurd h (Rat.not_lt.2 (Rat.le_of_lt a))⟩
  ·rw[if_neg a]
   by_cases b:x=y
   ·rw[if_pos b,b];exact⟨fun h=>by omega,fun h=>absurd h (Rat.lt_irrefl)⟩
   ·rw[if_neg b];exact⟨fun _=>Rat.lt_of_le_of_ne (Rat.not_lt.1 a) (Ne.symm b),fun _=>by omega⟩
 refine V.en tbOk Tryz.func214 ?_
 refine V.u1 h1 ?_
 refine V.br (fun hq=>?_) (fun hq=>?_)
 ·rw[decide_eq_true_eq] at hq
  rw[if_pos (e.1 hq)]
  (conv=>whnf)
  refine V.st ?_
  exact Fin.of rfl
 ·rw[decide_eq_false_iff_not] at hq
  rw[if_neg (fun h=>hq (e.2 h))]
  (conv=>whnf)
  refine V.st ?_
  exact Fin.of rfl
theorem greater_c (x y:Rat)(hx:Q9 20000000 x)(hy:Q9 20000000 y):Cl 213 [rtD x,rtD y] (rtD (if x<y then y else x)):=by
 have h1:=jgC x y (hx.1.mono (by omega)) (hy.1.mono (by omega)) (jjd hx.2 (by omega)) (jjd hy.2 (by omega))
 have e:ordQ x y<0↔x<y:=by
  unfold ordQ
  by_cases a:x<y
  ·rw[if_pos a];exact⟨fun _=>a,fun _=>by omega⟩
  ·rw[if_neg a]
   by_cases b:x=y
   ·rw[if_pos b];exact⟨fun h=>by omega,fun h=>absurd h a⟩
   ·rw[if_neg b];exact⟨fun h=>by omega,fun h=>absurd h a⟩
 refine V.en tbOk Tryz.func213 ?_
 refine V.u1 h1 ?_
 refine V.br (fun hq=>?_) (fun hq=>?_)
 ·rw[decide_eq_true_eq] at hq
  rw[if_pos (e.1 hq)]
  (conv=>whnf)
  refine V.st ?_
  exact Fin.of rfl
 ·rw[decide_eq_false_iff_not] at hq
  rw[if_neg (fun h=>hq (e.2 h))]
  (conv=>whnf)
  refine V.st ?_
  exact Fin.of rfl
theorem off {p:Go.Program}{f:Nat}{ys:List D}{c:Bool}(hc:c=false):c=true→Called p f ys (.int .i64 0):=fun h=>by rw[hc] at h;cases h
def okP (s t:List UInt8):Bool:=okW s && okW t && decide (0<wval t) && decide (Nat.gcd (wval s).natAbs (wval t).natAbs=1)
def qv (s t:List UInt8):Rat:=Rat.divInt (wval s) (wval t)
theorem jf1 {s t:List UInt8}(h:okP s t=true):okW s=true∧okW t=true∧0<wval t∧Nat.gcd (wval s).natAbs (wval t).natAbs=1:=by
 unfold okP at h
 simp only[ji0,decide_eq_true_eq] at h
 exact⟨h.1.1.1,h.1.1.2,h.1.2,h.2⟩
theorem jeC {s t:List UInt8}(h:okP s t=true):(qv s t).num=wval s∧(qv s t).den=(wval t).natAbs:=by
 obtain⟨h1,h2,h3,h4⟩:=jf1 h
 have e:qv s t=Rat.divInt (wval s) ((wval t).natAbs:Nat):=by unfold qv;congr 1;omega
 rw[e]
 exact jdf _ _ (by omega) h4
theorem jgw {s t:List UInt8}(h:okP s t=true):Q9 67 (qv s t):=by
 obtain⟨h1,h2,h3,h4⟩:=jf1 h
 obtain⟨p1,p2⟩:=jeC h
 exact⟨by rw[p1];exact len9 (jce h1).2,by rw[p2];exact len9 (jce h2).2⟩
theorem rtD_qv {s t:List UInt8}(h:okP s t=true):rtD (qv s t) = .agg [.ints .u32 (mg 1000000000 (wval s).natAbs),.bool (decide (wval s<0)),.ints .u32 (mg 1000000000 (wval t).natAbs)]:=by
 obtain⟨p1,p2⟩:=jeC h
 unfold rtD
 rw[p1,p2]
theorem jby (s t:List UInt8)(h:okP s t=true):Cl 115 [.agg [.str s,.str t]] (.tup [rtD (qv s t),.bool true]):=by
 obtain⟨h1,h2,h3,h4⟩:=jf1 h
 have l1:=jce h1
 have l2:=jce h2
 have k1:=len9 l1.2
 have k2:=len9 l2.2
 have c1:=jcp s (by omega)
 have c2:=jcp t (by omega)
 rw[h1,if_pos rfl] at c1
 rw[h2,if_pos rfl] at c2
 have n1:=jc8 s h1
 have n2:=jc8 t h2
 have s1:=sign_c (wval t)
 rw[jjA h3] at s1
 have g1:=gcd_c (wval s).natAbs (wval t).natAbs (by omega) (by omega)
 rw[h4] at g1
 have o1:=jco 1 1 (by decide) (by decide)
 rw[rtD_qv h]
 refine V.en tbOk Tryz.func115 ?_
 refine V.u2 c1 c2 ?_
 refine⟨Pq62z,[],V.pok,?_⟩
 refine jab [(4,.box 4 0),(5,.box 5 0)] [(4,.box [.ints .u32 (mg 1000000000 (wval s).natAbs),.bool (decide (wval s<0))]),(5,.box [.ints .u32 (mg 1000000000 (wval t).natAbs),.bool (decide (wval t<0))])] ?_ ?_
 ·exact V.d2 @ji8 n1 n2
 refine V.u3 s1 g1 o1 ?_
 exact Fin.of rfl
theorem read_no (s t:List UInt8)(h:okP s t=false)(hs:s.length≤281474976710656)(ht:t.length≤281474976710656):Cl 115 [.agg [.str s,.str t]] (.tup [.agg [.any,.any,.any],.bool false]):=by
 have c1:=jcp s hs
 have c2:=jcp t ht
 by_cases h1:okW s=true
 ·rw[h1,if_pos rfl] at c1
  by_cases h2:okW t=true
  ·rw[h2,if_pos rfl] at c2
   have l1:=jce h1
   have l2:=jce h2
   have k1:=len9 l1.2
   have k2:=len9 l2.2
   have n1:=jc8 s h1
   have n2:=jc8 t h2
   have s1:=sign_c (wval t)
   have g1:=gcd_c (wval s).natAbs (wval t).natAbs (by omega) (by omega)
   have gl:(mg 1000000000 (Nat.gcd (wval s).natAbs (wval t).natAbs)).length≤67:=by
    rcases jje (wval t).natAbs with e|e
    ·rw[e,Nat.gcd_zero_right];exact k1
    ·exact jjd (jah (by omega) (Nat.gcd_le_right _ e)) k2
   have o1:=jco (Nat.gcd (wval s).natAbs (wval t).natAbs) 1 (by omega) (by decide)
   unfold okP at h
   rw[h1,h2,Bool.true_and,Bool.true_and] at h
   by_cases hp:0<wval t
   ·rw[decide_eq_true hp,Bool.true_and,decide_eq_false_iff_not] at h
    rw[jjA hp] at s1
    refine V.en tbOk Tryz.func115 ?_
    refine V.u2 c1 c2 ?_
    refine⟨Pq62z,[],V.pok,?_⟩
    refine jab [(4,.box 4 0),(5,.box 5 0)] [(4,.box [.ints .u32 (mg 1000000000 (wval s).natAbs),.bool (decide (wval s<0))]),(5,.box [.ints .u32 (mg 1000000000 (wval t).natAbs),.bool (decide (wval t<0))])] ?_ ?_
    ·exact V.d2 @ji8 n1 n2
    refine V.u3 s1 g1 o1 ?_
    refine V.br (fun hq=>?_) (fun hq=>?_)
    ·(conv=>whnf)
     refine V.st ?_
     exact Fin.tup ⟨Fin.agg ⟨Fin.any' _,Fin.any' _,Fin.any' _,trivial⟩,Fin.of rfl,trivial⟩
    ·exfalso
     simp only[jjl,decide_eq_false_iff_not,Decidable.not_not] at hq
     apply h
     have h9:=Int.sign_eq_zero_iff_zero.1 hq.2
     omega
   ·have hs1:(wval t).sign=0∨(wval t).sign = -1:=by
     rcases (by omega:wval t=0∨wval t<0) with e|e
     ·rw[e];exact .inl rfl
     ·exact .inr (jjz e)
    rcases hs1 with e|e
    all_goals
     rw[e] at s1
     refine V.en tbOk Tryz.func115 ?_
     refine V.u2 c1 c2 ?_
     refine⟨Pq62z,[],V.pok,?_⟩
     refine jab [(4,.box 4 0),(5,.box 5 0)] [(4,.box [.ints .u32 (mg 1000000000 (wval s).natAbs),.bool (decide (wval s<0))]),(5,.box [.ints .u32 (mg 1000000000 (wval t).natAbs),.bool (decide (wval t<0))])] ?_ ?_
     ·exact V.d2 @ji8 n1 n2
     refine V.u3 s1 g1 o1 ?_
     refine⟨.int .i64 0,off rfl,?_⟩
     (conv=>whnf)
     refine V.st ?_
     exact Fin.tup ⟨Fin.agg ⟨Fin.any' _,Fin.any' _,Fin.any' _,trivial⟩,Fin.of rfl,trivial⟩
  ·rw[if_neg h2] at c2
   refine V.en tbOk Tryz.func115 ?_
   refine V.u2 c1 c2 ?_
   exact Fin.tup ⟨Fin.agg ⟨Fin.any' _,Fin.any' _,Fin.any' _,trivial⟩,Fin.of rfl,trivial⟩
 ·rw[if_neg h1] at c1
  refine V.en tbOk Tryz.func115 ?_
  refine V.u2 c1 c2 ?_
  refine V.br (fun hq=>?_) (fun hq=>?_)
  ·(conv=>whnf)
   refine V.st ?_
   exact Fin.tup ⟨Fin.agg ⟨Fin.any' _,Fin.any' _,Fin.any' _,trivial⟩,Fin.of rfl,trivial⟩
  ·simp at hq
theorem fcheck_c (s t:List UInt8)(hs:s.length≤281474976710656)(ht:t.length≤281474976710656):Cl 72 [.agg [.str s,.str t]] (.int .i64 (if okP s t then 0 else 20)):=by
 by_cases h:okP s t=true
 ·have r1:=jby s t h
  rw[h,if_pos rfl]
  refine V.en tbOk Tryz.func72 ?_
  refine V.u1 r1 ?_
  exact Fin.of rfl
 ·have r1:=read_no s t (by simpa using h) hs ht
  rw[if_neg h]
  refine V.en tbOk Tryz.func72 ?_
  refine V.u1 r1 ?_
  exact Fin.of rfl
theorem qsize {s t:List UInt8}(h:okP s t=true):Q9 20000000 (qv s t):=(jgw h).mono (by omega)
theorem qordS {s t:List UInt8}(h:okP s t=true):S9 40000000 (qv s t).num∧(mg 1000000000 (qv s t).den).length≤40000000:=⟨(jgw h).1.mono (by omega),jjd (jgw h).2 (by omega)⟩
theorem fcmp_ok (s t u v:List UInt8)(h:okP s t=true)(g:okP u v=true):Cl 135 [.agg [.str s,.str t],.agg [.str u,.str v]] (.tup [.int .i64 (ordQ (qv s t) (qv u v)),.int .i64 0]):=by
 have r1:=jby s t h
 have r2:=jby u v g
 have o:=jgC (qv s t) (qv u v) (qordS h).1 (qordS g).1 (qordS h).2 (qordS g).2
 have ap:Cl 183 [.agg [.str s,.str t],.agg [.str u,.str v],.fn 184 [] []] (.tup [.int .i64 (ordQ (qv s t) (qv u v)),.int .i64 0]):=by
  refine V.en tbOk Tryz.func183 ?_
  refine V.u3 r1 r2 o ?_
  exact Fin.of rfl
 refine V.en tbOk Tryz.func135 ?_
 refine V.u1 ap ?_
 exact Fin.of rfl
def vb (lo hi:Int):Bool:=decide (-1000000000000000000≤lo) && decide (lo≤hi) && decide (hi≤1000000000000000000)
def bD (r:Int×Int×Int):D := .tup [.agg [.int .i64 r.1,.int .i64 r.2.1],.int .i64 r.2.2]
def mk (lo hi:Int):Int×Int×Int:=if vb lo hi=true then (lo,hi,0) else (0,0,6)
theorem jbH {lo hi:Int} : vb lo hi=true ↔ -1000000000000000000≤lo∧lo≤hi∧hi≤1000000000000000000:=by
 unfold vb;simp only[ji0,decide_eq_true_eq,and_assoc]
theorem jcI (lo hi:Int):Cl 100 [.int .i64 lo,.int .i64 hi] (.bool (vb lo hi)):=by
 refine V.en tbOk Tryz.func100 ?_
 (conv=>whnf)
 refine V.st ?_
 exact Fin.of rfl
theorem made_b (lo hi:Int):Cl 101 [.int .i64 lo,.int .i64 hi] (bD (mk lo hi)):=by
 have h:=jcI lo hi
 unfold mk
 generalize vb lo hi=v at *
 refine V.en tbOk Tryz.func101 ?_
 refine V.u1 h ?_
 refine V.br (fun hq=>?_) (fun hq=>?_)
 ·simp only[Bool.not_eq_true'] at hq
  subst hq
  (conv=>whnf)
  refine V.st ?_
  exact Fin.of rfl
 ·simp only[Bool.not_eq_false'] at hq
  subst hq
  (conv=>whnf)
  refine V.st ?_
  exact Fin.of rfl
theorem ckb3_ok (g:Nat)(p q m n0:Int)(x y e:Int)(n:Nat)(f:Nat→List D)(a c:Nat→Int)(hf:∀ j,j<n→f j=[.int .i64 (a j),.int .i64 (c j)])(hn:n<1000)
  (hv:∀ j,j<n→vb (a j) (c j)=true) (hg:Cl g [.ref [.int .i64 m],.ref [.int .i64 n0],.ref [.int .i64 p,.int .i64 q]] (bD (x,y,e))) :
  Cl 98 [.fn g [] [.ref [.int .i64 m],.ref [.int .i64 n0],.ref [.int .i64 p,.int .i64 q]],.slf 2 n f] (bD (x,y,e)):=by
 refine V.en tbOk Tryz.func98 ?_
 (conv=>whnf)
 refine V.st ?_
 refine jad (0:Nat) (fun k=>k≤n) (fun k=>n-k) (fun k=>[(11,.int .i64 k)]) (fun _=>[]) ?_ ?_ ?_
 ·exact V.wk
 ·exact ji2 _
 intro k hk
 have hkc:((k:Int)+1)=((k+1:Nat):Int):=by omega
 have hfk:=hf k
 have hvk:=hv k
 have hvc:=jcI (a k) (c k)
 (conv=>whnf)
 refine V.st ?_
 refine V.br (fun hq=>?_) (fun hq=>?_)
 ·rw[decide_eq_true_eq] at hq
  rw[hvk (by omega)] at hvc
  (conv=>whnf)
  (try simp only[jjb,hfk (by omega),hkc])
  repeat ((first|refine V.s1 ?_);(try simp only[jjb,hfk (by omega),hkc]))
  (conv=>whnf)
  refine And.intro (fun _=>⟨by omega,by omega⟩) ?_
  refine V.r1 hkc hvc ?_
  exact⟨k+1,by omega,by omega,V.wk⟩
 ·rw[decide_eq_false_iff_not] at hq
  refine V.u1 hg ?_
  exact Fin.of rfl
theorem ckb3_no (g:Nat)(p q m n0:Int)(x y e:Int)(n:Nat)(f:Nat→List D)(a c:Nat→Int)(hf:∀ j,j<n→f j=[.int .i64 (a j),.int .i64 (c j)])(hn:n<1000)
  (hv:∃ j,j<n∧vb (a j) (c j)=false) :
  Cl 98 [.fn g [] [.ref [.int .i64 m],.ref [.int .i64 n0],.ref [.int .i64 p,.int .i64 q]],.slf 2 n f] (bD (0,0,30)):=by
 refine V.en tbOk Tryz.func98 ?_
 (conv=>whnf)
 refine V.st ?_
 refine jad (0:Nat) (fun k=>k≤n ∧ ∀ j,j<k→vb (a j) (c j)=true) (fun k=>n-k) (fun k=>[(11,.int .i64 k)]) (fun _=>[]) ?_ ?_ ?_
 ·exact V.wk
 ·exact⟨ji2 _,fun j hj=>by omega⟩
 intro k hk
 have hkc:((k:Int)+1)=((k+1:Nat):Int):=by omega
 have hfk:=hf k
 have hvc:=jcI (a k) (c k)
 (conv=>whnf)
 refine V.st ?_
 refine V.br (fun hq=>?_) (fun hq=>?_)
 ·rw[decide_eq_true_eq] at hq
  generalize hvv:vb (a k) (c k)=v at *
  (conv=>whnf)
  (try simp only[jjb,hfk (by omega),hkc])
  repeat ((first|refine V.s1 ?_);(try simp only[jjb,hfk (by omega),hkc]))
  (conv=>whnf)
  refine And.intro (fun _=>⟨by omega,by omega⟩) ?_
  refine V.r1 hkc hvc ?_
  refine V.br (fun hz=>?_) (fun hz=>?_)
  ·refine V.r0 hkc ?_
   exact Fin.of rfl
  ·simp only[Bool.not_eq_false'] at hz
   refine V.r0 hkc ?_
   exact⟨k+1,⟨by omega,fun j hj=>by
    rcases jjk j k with h|h
    ·exact hk.2 j h
    ·rw[show j=k by omega,hvv,hz]⟩,by omega,V.wk⟩
 ·rw[decide_eq_false_iff_not] at hq
  obtain⟨j,hj,hv⟩:=hv
  rw[hk.2 j (by omega)] at hv
  cases hv
theorem ckb4_ok (g:Nat)(p q p2 q2 m:Int)(x y e:Int)(n:Nat)(f:Nat→List D)(a c:Nat→Int)(hf:∀ j,j<n→f j=[.int .i64 (a j),.int .i64 (c j)])(hn:n<1000)
  (hv:∀ j,j<n→vb (a j) (c j)=true) (hg:Cl g [.ref [.int .i64 p,.int .i64 q],.ref [.int .i64 p2,.int .i64 q2],.ref [.int .i64 m]] (bD (x,y,e))) :
  Cl 98 [.fn g [] [.ref [.int .i64 p,.int .i64 q],.ref [.int .i64 p2,.int .i64 q2],.ref [.int .i64 m]],.slf 2 n f] (bD (x,y,e)):=by
 refine V.en tbOk Tryz.func98 ?_
 (conv=>whnf)
 refine V.st ?_
 refine jad (0:Nat) (fun k=>k≤n) (fun k=>n-k) (fun k=>[(11,.int .i64 k)]) (fun _=>[]) ?_ ?_ ?_
 ·exact V.wk
 ·exact ji2 _
 intro k hk
 have hkc:((k:Int)+1)=((k+1:Nat):Int):=by omega
 have hfk:=hf k
 have hvk:=hv k
 have hvc:=jcI (a k) (c k)
 (conv=>whnf)
 refine V.st ?_
 refine V.br (fun hq=>?_) (fun hq=>?_)
 ·rw[decide_eq_true_eq] at hq
  rw[hvk (by omega)] at hvc
  (conv=>whnf)
  (try simp only[jjb,hfk (by omega),hkc])
  repeat ((first|refine V.s1 ?_);(try simp only[jjb,hfk (by omega),hkc]))
  (conv=>whnf)
  refine And.intro (fun _=>⟨by omega,by omega⟩) ?_
  refine V.r1 hkc hvc ?_
  exact⟨k+1,by omega,by omega,V.wk⟩
 ·rw[decide_eq_false_iff_not] at hq
  refine V.u1 hg ?_
  exact Fin.of rfl
theorem ckb4_no (g:Nat)(p q p2 q2 m:Int)(x y e:Int)(n:Nat)(f:Nat→List D)(a c:Nat→Int)(hf:∀ j,j<n→f j=[.int .i64 (a j),.int .i64 (c j)])(hn:n<1000)
  (hv:∃ j,j<n∧vb (a j) (c j)=false) :
  Cl 98 [.fn g [] [.ref [.int .i64 p,.int .i64 q],.ref [.int .i64 p2,.int .i64 q2],.ref [.int .i64 m]],.slf 2 n f] (bD (0,0,30)):=by
 refine V.en tbOk Tryz.func98 ?_
 (conv=>whnf)
 refine V.st ?_
 refine jad (0:Nat) (fun k=>k≤n ∧ ∀ j,j<k→vb (a j) (c j)=true) (fun k=>n-k) (fun k=>[(11,.int .i64 k)]) (fun _=>[]) ?_ ?_ ?_
 ·exact V.wk
 ·exact⟨ji2 _,fun j hj=>by omega⟩
 intro k hk
 have hkc:((k:Int)+1)=((k+1:Nat):Int):=by omega
 have hfk:=hf k
 have hvc:=jcI (a k) (c k)
 (conv=>whnf)
 refine V.st ?_
 refine V.br (fun hq=>?_) (fun hq=>?_)
 ·rw[decide_eq_true_eq] at hq
  generalize hvv:vb (a k) (c k)=v at *
  (conv=>whnf)
  (try simp only[jjb,hfk (by omega),hkc])
  repeat ((first|refine V.s1 ?_);(try simp only[jjb,hfk (by omega),hkc]))
  (conv=>whnf)
  refine And.intro (fun _=>⟨by omega,by omega⟩) ?_
  refine V.r1 hkc hvc ?_
  refine V.br (fun hz=>?_) (fun hz=>?_)
  ·refine V.r0 hkc ?_
   exact Fin.of rfl
  ·simp only[Bool.not_eq_false'] at hz
   refine V.r0 hkc ?_
   exact⟨k+1,⟨by omega,fun j hj=>by
    rcases jjk j k with h|h
    ·exact hk.2 j h
    ·rw[show j=k by omega,hvv,hz]⟩,by omega,V.wk⟩
 ·rw[decide_eq_false_iff_not] at hq
  obtain⟨j,hj,hv⟩:=hv
  rw[hk.2 j (by omega)] at hv
  cases hv
def bA (p q:Int):D := .agg [.int .i64 p,.int .i64 q]
def l1 (p q:Int):Nat→List D:=fun j=>List.take 2 (List.drop (0+j*2) [.int .i64 p,.int .i64 q])
def l2 (p q p2 q2:Int):Nat→List D:=fun j=>List.take 2 (List.drop (0+j*2) [.int .i64 p,.int .i64 q,.int .i64 p2,.int .i64 q2])
theorem l1_c (p q:Int):∀ j,j<1→l1 p q j=[.int .i64 ((fun _=>p) j),.int .i64 ((fun _=>q) j)]:=fun j hj=>by
 have h0:j=0:=by omega
 subst h0;rfl
def sel_o (x y:Int):Nat→Int:=fun j=>if j=0 then x else y
theorem l2_c (p q p2 q2:Int):∀ j,j<2→l2 p q p2 q2 j=[.int .i64 (sel_o p p2 j),.int .i64 (sel_o q q2 j)]:=fun j hj=>by
 rcases (by omega:j=0∨j=1) with e|e
 ·subst e;rfl
 ·subst e;rfl
theorem sel_ok {p q p2 q2:Int}(h:vb p q=true)(h2:vb p2 q2=true):∀ j,j<2→vb (sel_o p p2 j) (sel_o q q2 j)=true:=fun j hj=>by
 rcases (by omega:j=0∨j=1) with e|e
 ·subst e;exact h
 ·subst e;exact h2
theorem sel_no {p q p2 q2:Int}(h:¬ (vb p q=true∧vb p2 q2=true)):∃ j,j<2∧vb (sel_o p p2 j) (sel_o q q2 j)=false:=by
 by_cases h1:vb p q=true
 ·have h3:¬ vb p2 q2=true:=fun h2=>h ⟨h1,h2⟩
  exact⟨1,by omega,Bool.eq_false_iff.2 h3⟩
 ·exact⟨0,by omega,Bool.eq_false_iff.2 h1⟩
theorem one_no {p q:Int}(h:¬ vb p q=true):∃ j,j<1∧vb ((fun _=>p) j) ((fun _=>q) j)=false:=⟨0,by omega,Bool.eq_false_iff.2 h⟩
def mx:List Int→Int
 | []=>0
 | x::xs=>xs.foldl max x
theorem jfR {op:Int→Int→Int}{x:Int}{xs:List Int}{k:Nat}(h:k<xs.length):(xs.take (k+1)).foldl op x=op ((xs.take k).foldl op x) (xs.getD k 0):=by
 rw[jj5,List.foldl_append,jjF,jjI h]
 rfl
theorem jiZ:type_of% @List.getD_cons_succ.{0} ∧ type_of% @jjV := ⟨@List.getD_cons_succ.{0},@jjV⟩
theorem minS_c (x:Int)(xs:List Int)(hl:xs.length<1000):Cl 222 [.ints .i64 (x::xs)] (.int .i64 (xs.foldl min x)):=by
 refine V.en tbOk Tryz.func222 ?_
 (conv=>whnf)
 refine V.st ?_
 refine V.br (fun h0=>?_) (fun h0=>?_)
 ·rw[decide_eq_true_eq,jjV] at h0
  omega
 ·refine V.r0 @jjV ?_
  refine jad (0:Nat) (fun k=>k≤xs.length) (fun k=>xs.length-k) (fun k=>[(4,.int .i64 ((k+1:Nat):Int)),(3,.int .i64 ((xs.take k).foldl min x))]) (fun _=>[]) ?_ ?_ ?_
  ·exact V.wk
  ·exact ji2 _
  intro k hk
  have hkc:(((k+1:Nat):Int)+1)=((k+1+1:Nat):Int):=by omega
  have hi:((k+1:Nat):Int).toNat=k+1:=by omega
  (conv=>whnf)
  (try simp only[jiZ,hkc,hi])
  repeat ((first|refine V.s1 ?_);(try simp only[jiZ,hkc,hi]))
  refine V.br (fun hq=>?_) (fun hq=>?_)
  ·rw[decide_eq_true_eq] at hq
   have ht:=jfR (op:=min) (x:=x) (xs:=xs) (k:=k) (by omega)
   (conv=>whnf)
   (try simp only[jiZ,hkc,hi])
   repeat ((first|refine V.s1 ?_);(try simp only[jiZ,hkc,hi]))
   refine⟨k+1,by omega,by omega,?_⟩
   rw[ht]
   exact V.wk
  ·rw[decide_eq_false_iff_not] at hq
   have hk2:k=xs.length:=by omega
   refine V.r0 (V.a2 hk2 @jj6) ?_
   exact Fin.of rfl
theorem maxS_c (x:Int)(xs:List Int)(hl:xs.length<1000):Cl 223 [.ints .i64 (x::xs)] (.int .i64 (xs.foldl max x)):=by
 refine V.en tbOk Tryz.func223 ?_
 (conv=>whnf)
 refine V.st ?_
 refine V.br (fun h0=>?_) (fun h0=>?_)
 ·rw[decide_eq_true_eq,jjV] at h0
  omega
 ·refine V.r0 @jjV ?_
  refine jad (0:Nat) (fun k=>k≤xs.length) (fun k=>xs.length-k) (fun k=>[(4,.int .i64 ((k+1:Nat):Int)),(3,.int .i64 ((xs.take k).foldl max x))]) (fun _=>[]) ?_ ?_ ?_
  ·exact V.wk
  ·exact ji2 _
  intro k hk
  have hkc:(((k+1:Nat):Int)+1)=((k+1+1:Nat):Int):=by omega
  have hi:((k+1:Nat):Int).toNat=k+1:=by omega
  (conv=>whnf)
  (try simp only[jiZ,hkc,hi])
  repeat ((first|refine V.s1 ?_);(try simp only[jiZ,hkc,hi]))
  refine V.br (fun hq=>?_) (fun hq=>?_)
  ·rw[decide_eq_true_eq] at hq
   have ht:=jfR (op:=max) (x:=x) (xs:=xs) (k:=k) (by omega)
   (conv=>whnf)
   (try simp only[jiZ,hkc,hi])
   repeat ((first|refine V.s1 ?_);(try simp only[jiZ,hkc,hi]))
   refine⟨k+1,by omega,by omega,?_⟩
   rw[ht]
   exact V.wk
  ·rw[decide_eq_false_iff_not] at hq
   have hk2:k=xs.length:=by omega
   refine V.r0 (V.a2 hk2 @jj6) ?_
   exact Fin.of rfl
theorem least_c (x:Int)(xs:List Int)(hl:xs.length<1000):Cl 195 [.ints .i64 (x::xs)] (.int .i64 (xs.foldl min x)):=by
 have h:=minS_c x xs hl
 refine V.en tbOk Tryz.func195 ?_
 refine V.u1 h ?_
 exact Fin.of rfl
theorem greatest_c (x:Int)(xs:List Int)(hl:xs.length<1000):Cl 196 [.ints .i64 (x::xs)] (.int .i64 (xs.foldl max x)):=by
 have h:=maxS_c x xs hl
 refine V.en tbOk Tryz.func196 ?_
 refine V.u1 h ?_
 exact Fin.of rfl
theorem of_b (p q:Int):Cl 109 [.int .i64 p,.int .i64 q] (bD (if vb p q=true then (p,q,0) else (0,0,30))):=by
 have h:=jcI p q
 generalize vb p q=v at *
 refine V.en tbOk Tryz.func109 ?_
 refine V.u1 h ?_
 refine V.br (fun hq=>?_) (fun hq=>?_)
 ·simp at hq
  subst hq
  (conv=>whnf)
  refine V.st ?_
  exact Fin.of rfl
 ·simp at hq
  subst hq
  (conv=>whnf)
  refine V.st ?_
  exact Fin.of rfl
theorem near_f (s t:List UInt8)(sc:Nat)(h:okP s t=true)(h1:1≤sc)(h2:sc≤1000000000000)(hz : -9223372036854775808≤nearZ (qv s t) sc∧nearZ (qv s t) sc≤9223372036854775807) :
  Cl 61 [.agg [.str s,.str t],.int .i64 sc] (.tup [.int .i64 (nearZ (qv s t) sc),.int .i64 0]):=by
 have r1:=jby s t h
 have q1:=jgw h
 have f1:=jdq sc (by omega)
 have lsc:(mg 1000000000 sc).length≤2:=jax (by omega) (by omega)
 have n1:=near_r (qv s t) sc (q1.1.mono (by omega)) (jjd q1.2 (by omega)) (by omega)
 clear q1
 generalize nearZ (qv s t) sc=z at *
 have lz:(mg 1000000000 z.natAbs).length≤3:=jax (by omega) (by omega)
 have x1:=jh2 z (by omega)
 have i1:=int_c z hz.1 hz.2
 clear lz lsc
 unfold rtD at *
 refine V.en tbOk Tryz.func61 ?_
 refine V.u1 r1 ?_
 refine V.br (fun g1=>?_) (fun g1=>?_)
 ·simp at g1
  omega
 ·(conv=>whnf)
  refine V.st ?_
  refine⟨(V.tk [0,1,2] (V.e1 3 [0] (V.e1 4 [] (V.e1 5 [] (V.e1 6 [] (V.tk [7,8,9,10,11] .done)))))),[],V.pok,.go (jac ?_)⟩
  refine V.u4 f1 n1 x1 i1 ?_
  exact Fin.of rfl
theorem okP_dec_o {q:Rat}(h:okF q=true):okP (decZ q.num) (dec q.den)=true∧qv (decZ q.num) (dec q.den)=q:=by
 unfold okF at h
 simp only[ji0,decide_eq_true_eq] at h
 have hdz:dec q.den=decZ (q.den:Int):=by unfold decZ;rw[if_neg (by omega),jjr]
 have w1:wval (decZ q.num)=q.num:=jbp _
 have w2:wval (dec q.den)=(q.den:Int):=by rw[hdz];exact jbp _
 have o1:=jcw q.num h.1
 have o2:okW (dec q.den)=true:=by rw[hdz];exact jcw _ (by rw[jjr];exact h.2)
 have hp:=q.den_pos
 constructor
 ·unfold okP
  rw[o1,o2,w1,w2]
  simp only[ji0,decide_eq_true_eq,Bool.true_and,jjr]
  exact⟨by omega,q.reduced⟩
 ·unfold qv
  rw[w1,w2]
  exact jjC q
theorem okF_small {q:Rat}(h1:q.num.natAbs<10^20)(h2:q.den<10^20):okF q=true:=by
 unfold okF
 simp only[ji0,decide_eq_true_eq]
 exact⟨jjd (jbz 20 _ (by omega) h1).1 (by omega),jjd (jbz 20 _ (by omega) h2).1 (by omega)⟩
theorem divInt_le (n:Int)(d:Nat)(hd:0<d):(Rat.divInt n d).num.natAbs≤n.natAbs∧(Rat.divInt n d).den≤d:=by
 obtain⟨h1,_,h3⟩:=jc2 n d hd
 rw[h1,h3]
 exact⟨jjt _ _,jjt _ _⟩
theorem okF_unit (n:Int)(h : -9223372036854775808≤n∧n≤9223372036854775807):okF (Rat.divInt n 1000000000000)=true:=by
 have:=divInt_le n 1000000000000 (by omega)
 have e:Rat.divInt n 1000000000000=Rat.divInt n ((1000000000000:Nat):Int):=rfl
 rw[e]
 refine okF_small ?_ ?_
 ·exact Nat.lt_of_le_of_lt this.1 (by omega)
 ·exact Nat.lt_of_le_of_lt this.2 (by omega)
def unit (n:Int):Rat:=Rat.divInt n 1000000000000
theorem of_unit (n:Int)(h : -9223372036854775808≤n∧n≤9223372036854775807):Cl 102 [.int .i64 n,.int .i64 1000000000000] (.tup [.agg [.str (decZ (unit n).num),.str (dec (unit n).den)],.int .i64 0]):=by
 have h1:=of_c n 1000000000000 (by simp only[InR,V.lo,V.hi];omega) (by constructor<;>decide) (by decide)
 have h2:=okF_unit n h
 unfold frR at h1
 rw[h2] at h1
 exact h1
def jds (x:Rat):Int×Int×Int:=if vb (nearZ x 1000000000000) (nearZ x 1000000000000)=true then mk (nearZ x 1000000000000+min (ordQ x (unit (nearZ x 1000000000000))) 0) (nearZ x 1000000000000+max (ordQ x (unit (nearZ x 1000000000000))) 0) else (0,0,6)
theorem ordQ_r (x y:Rat) : -1≤ordQ x y∧ordQ x y≤1:=by
 unfold ordQ;split
 ·omega
 ·split<;>omega
theorem around_b (s t:List UInt8)(h:okP s t=true)(hz : -9223372036854775808≤nearZ (qv s t) 1000000000000∧nearZ (qv s t) 1000000000000≤9223372036854775807) :
  Cl 107 [.agg [.str s,.str t]] (bD (jds (qv s t))):=by
 have n1:=near_f s t 1000000000000 h (by omega) (by omega) hz
 unfold jds
 generalize nearZ (qv s t) 1000000000000=n at *
 have o1:=of_unit n hz
 obtain⟨p1,p2⟩:=okP_dec_o (okF_unit n hz)
 have c1:=fcmp_ok s t (decZ (unit n).num) (dec (unit n).den) h p1
 rw[show qv (decZ (unit n).num) (dec (unit n).den)=unit n from p2] at c1
 have hr:=ordQ_r (qv s t) (unit n)
 generalize ordQ (qv s t) (unit n)=o at *
 generalize decZ (unit n).num=u at *
 generalize dec (unit n).den=v at *
 clear p1 p2 h
 have v1:=jcI n n
 have m1:=made_b (n+min o 0) (n+max o 0)
 by_cases hv:vb n n=true
 ·rw[if_pos hv]
  rw[hv] at v1
  have hb:=jbH.1 hv
  generalize mk (n+min o 0) (n+max o 0)=r at *
  refine V.en tbOk Tryz.func107 ?_
  refine V.u5 n1 o1 c1 v1 m1 ?_
  exact Fin.of rfl
 ·rw[if_neg hv]
  rw[Bool.eq_false_iff.2 hv] at v1
  refine V.en tbOk Tryz.func107 ?_
  refine V.u4 n1 o1 c1 v1 ?_
  exact Fin.of rfl
def lw (a b c d:Int):Nat→List Int
 | 0=>[0,0,0,0]
 | 1=>[a,0,0,0]
 | 2=>[a,b,0,0]
 | 3=>[a,b,c,0]
 | _=>[a,b,c,d]
end Go.Proofs.YtbnghipgicmpdaaGreatDoor
end
section
namespace Go.Nb
structure Tr (B top v2 head u2:Int):Prop where
 hB:2≤B
 t1:1≤top
 tB:top<B
 v0:0≤v2
 vB:v2<B
 u0:0≤u2
 uB:u2<B
 h0:0≤head
 lt:head*B+u2<B*(top*B+v2)
section
variable {B top v2 head u2 : Int}
theorem Tr.kn (T:Tr B top v2 head u2):Kn B top v2 0 u2 0 head (head*B+u2) (top*B+v2) 1:=
 { hB:=T.hB,hP:=by omega,ht:=T.t1,hv:=by omega,hu:=by omega,v20:=T.v0,v2B:=T.vB,u20:=T.u0,u2B:=T.uB,vr0:=by omega,vrP:=by omega,ur0:=by omega,urP:=by omega,hh:=T.h0,htB:=T.tB,lt:=T.lt }
theorem Tr.vpos (T:Tr B top v2 head u2):0<top*B+v2:=T.kn.vpos
theorem Tr.qnn (T:Tr B top v2 head u2):0≤(head*B+u2)/(top*B+v2):=by
 have h1:0≤head*B:=ji6 T.h0 (by have:=T.hB;omega)
 exact ji3 (by have:=T.u0;omega) (by have:=T.vpos;omega)
theorem Tr.qmul (T:Tr B top v2 head u2):(head*B+u2)/(top*B+v2)*(top*B+v2)≤head*B+u2:=Int.ediv_mul_le _ (by have:=T.vpos;omega)
theorem Tr.init (T:Tr B top v2 head u2):(head*B+u2)/(top*B+v2)≤head/top:=T.kn.init T.qnn T.qmul
theorem Tr.step (T:Tr B top v2 head u2){q r:Int}(hq:(head*B+u2)/(top*B+v2)≤q)(hr:head=q*top+r)(hc:B≤q∨r*B+u2<q*v2) :
  (head*B+u2)/(top*B+v2)≤q-1∧head=(q-1)*top+(r+top):=
 ⟨T.kn.step T.qnn T.qmul hq hr hc,by rw[Int.sub_mul,jjy];omega⟩
theorem Tr.fin (T:Tr B top v2 head u2){q:Int}(hq:(head*B+u2)/(top*B+v2)≤q)(h:q*(top*B+v2)≤head*B+u2):q=(head*B+u2)/(top*B+v2):=by
 have:=(Int.le_ediv_iff_mul_le T.vpos).2 h
 omega
theorem Tr.lt' (T:Tr B top v2 head u2):(head*B+u2)/(top*B+v2)<B:=T.kn.qlt T.qmul
end
structure Tq (B top v2 head u2 Q:Int):Prop where
 T:Tr B top v2 head u2
 e:(head*B+u2)/(top*B+v2)=Q
section
variable {B top v2 head u2 Q : Int}
theorem Tq.init (T:Tq B top v2 head u2 Q):Q≤head/top:=by rw[← T.e];exact T.T.init
theorem Tq.step (T:Tq B top v2 head u2 Q){q r:Int}(hq:Q≤q)(hr:head=q*top+r)(hc:B≤q∨r*B+u2<q*v2):Q≤q-1∧head=(q-1)*top+(r+top):=by
 rw[← T.e] at hq ⊢; exact T.T.step hq hr hc
theorem Tq.lt (T:Tq B top v2 head u2 Q):Q<B:=by rw[← T.e];exact T.T.lt'
end
end Go.Nb
end
section
namespace Go.Proofs.YtbnghipgicmpdaaGreatDoor
open Go Go.V Go.Nb
theorem clamp_b (p q lo hi:Int):Cl 50 [bA p q,.int .i64 lo,.int .i64 hi] (bD (if vb p q=true then (if vb lo hi=true then mk (min (max p lo) hi) (min (max q lo) hi) else (0,0,2)) else (0,0,30))):=by
 by_cases hv:vb p q=true
 ·rw[if_pos hv]
  have hc:Cl 99 [.ref [.int .i64 lo],.ref [.int .i64 hi],.ref [.int .i64 p,.int .i64 q]] (bD (if vb lo hi=true then mk (min (max p lo) hi) (min (max q lo) hi) else (0,0,2))):=by
   have hvl:=jcI lo hi
   have hm:=made_b (min (max p lo) hi) (min (max q lo) hi)
   generalize vb lo hi=v at *
   generalize mk (min (max p lo) hi) (min (max q lo) hi)=r at *
   refine V.en tbOk Tryz.func99 ?_
   refine V.u1 hvl ?_
   refine V.br (fun hq=>?_) (fun hq=>?_)
   ·simp at hq
    subst hq
    (conv=>whnf)
    refine V.st ?_
    exact Fin.of rfl
   ·simp at hq
    subst hq
    refine V.u1 hm ?_
    exact Fin.of rfl
  generalize (if vb lo hi=true then mk (min (max p lo) hi) (min (max q lo) hi) else (0,0,2))=r at *
  have hk:=ckb3_ok 99 p q lo hi r.1 r.2.1 r.2.2 1 (l1 p q) (fun _=>p) (fun _=>q) (l1_c p q) (by omega) (fun _ _=>hv) hc
  refine V.en tbOk Tryz.func50 ?_
  refine V.u1 hk ?_
  exact Fin.of rfl
 ·rw[if_neg hv]
  have hk:=ckb3_no 99 p q lo hi 0 0 0 1 (l1 p q) (fun _=>p) (fun _=>q) (l1_c p q) (by omega) (one_no hv)
  refine V.en tbOk Tryz.func50 ?_
  refine V.u1 hk ?_
  exact Fin.of rfl
theorem hull_b (p q p2 q2:Int):Cl 108 [bA p q,bA p2 q2] (bD (if vb p q=true∧vb p2 q2=true then (if p=p2∧q=q2 then (p,q,0) else if max q q2<min p p2 then (0,0,4) else (min p p2,max q q2,0)) else (0,0,30))):=by
 have ch:Cl 156 [.int .i64 2,bA p q,bA p2 q2] (bD (if vb p q=true∧vb p2 q2=true then (if p=p2∧q=q2 then (p,q,0) else if max q q2<min p p2 then (0,0,4) else (min p p2,max q q2,0)) else (0,0,30))):=by
  by_cases hv:vb p q=true∧vb p2 q2=true
  ·rw[if_pos hv]
   have hc:Cl 194 [.ref [.int .i64 p,.int .i64 q],.ref [.int .i64 p2,.int .i64 q2],.ref [.int .i64 2]] (bD (if p=p2∧q=q2 then (p,q,0) else if max q q2<min p p2 then (0,0,4) else (min p p2,max q q2,0))):=by
    have k1:=least_c p [p2] (by simp)
    have k2:=greatest_c q [q2] (by simp)
    rw[show [p2].foldl min p=min p p2 from rfl] at k1
    rw[show [q2].foldl max q=max q q2 from rfl] at k2
    generalize min p p2=lo at *
    generalize max q q2=hi at *
    refine V.en tbOk Tryz.func194 ?_
    (conv=>whnf)
    refine V.st ?_
    refine V.br (fun h1=>?_) (fun h1=>?_)
    ·simp only[Bool.and_true,ji0,decide_eq_true_eq] at h1
     rw[if_pos h1]
     (conv=>whnf)
     refine V.st ?_
     exact Fin.of rfl
    ·rw[if_neg (fun h=>by simp only[Bool.and_true,Bool.and_eq_false_iff,decide_eq_false_iff_not] at h1;omega)]
     (conv=>whnf)
     refine V.st ?_
     refine⟨(V.tk [0,1,2,3,4,5,8,9,10,11,12,13] (.ev (.cons 6 [13,12,11,10,9,8,1,0] (.ev (.cons 7 [13,12,11,10,9,8] (V.e1 14 [9,8] (V.e1 15 [] (V.tk [16,17] .done))) (.cons 14 [9,8,1,0] (V.e1 7 [9,8] (V.e1 15 [] (V.tk [16,17] .done))) .nil))) (.cons 14 [9,8,5,4,3,2,1,0] (V.e1 6 [9,8,1,0] (V.e1 7 [9,8] (V.e1 15 [] (V.tk [16,17] .done)))) .nil)))),[],V.pok,?_⟩
     refine jab [(7,.int .i64 lo),(8,.int .i64 hi)] [] ?_ ?_
     ·exact V.d2 @ji8 k1 k2
     (conv=>whnf)
     refine V.st ?_
     refine V.br (fun h2=>?_) (fun h2=>?_)
     ·rw[decide_eq_true_eq] at h2
      rw[if_pos h2]
      (conv=>whnf)
      refine V.st ?_
      exact Fin.of rfl
     ·rw[decide_eq_false_iff_not] at h2
      rw[if_neg h2]
      (conv=>whnf)
      refine V.st ?_
      exact Fin.of rfl
   generalize (if p=p2∧q=q2 then (p,q,(0:Int)) else if max q q2<min p p2 then (0,0,4) else (min p p2,max q q2,0))=r at *
   have hk:=ckb4_ok 194 p q p2 q2 2 r.1 r.2.1 r.2.2 2 (l2 p q p2 q2) (sel_o p p2) (sel_o q q2) (l2_c p q p2 q2) (by omega) (sel_ok hv.1 hv.2) hc
   refine V.en tbOk Tryz.func156 ?_
   refine V.u1 hk ?_
   exact Fin.of rfl
  ·rw[if_neg hv]
   have hk:=ckb4_no 194 p q p2 q2 2 0 0 0 2 (l2 p q p2 q2) (sel_o p p2) (sel_o q q2) (l2_c p q p2 q2) (by omega) (sel_no hv)
   refine V.en tbOk Tryz.func156 ?_
   refine V.u1 hk ?_
   exact Fin.of rfl
 generalize (if vb p q=true∧vb p2 q2=true then (if p=p2∧q=q2 then (p,q,(0:Int)) else if max q q2<min p p2 then (0,0,4) else (min p p2,max q q2,0)) else (0,0,30))=r at *
 refine V.en tbOk Tryz.func108 ?_
 refine V.u1 ch ?_
 exact Fin.of rfl
theorem mk_ok {p q:Int}(h : -1000000000000000000≤p∧p≤q∧q≤1000000000000000000):mk p q=(p,q,0):=by
 unfold mk;rw[if_pos (jbH.2 h)]
end Go.Proofs.YtbnghipgicmpdaaGreatDoor
end
section
namespace Go.Proofs.YtbnghipgicmpdaaGreatDoor
open Go Go.V Go.Nb Go.RowKit
theorem okWide_arr {P:Program}{w:World}{r:Reach}{base:Nat}{t n e:Nat}{v:Value}(ht:P.underlying t=some (.array n e))(h:Value.okWide P w r base t v):∃ cs,v = .agg cs∧cs.size=P.cellsOf t:=by
 simp only[Value.okWide,ht] at h
 obtain⟨cs,h1,h2,_⟩:=h
 exact⟨cs,h1,h2⟩
theorem okWide_one {P : Program} {w : World} {r : Reach} {base : Nat} {t : TypeId} {v : Value} (ht : (match P.underlying t with | some (.struct _) => false | some (.array _ _) => false | _ => true) = true) (h : Value.okWide P w r base t v) : v.cells.toList = [v] := by
  unfold Value.okWide at h
  split at h
  · rename_i e
    rw [e] at ht
    cases ht
  · rename_i e
    rw [e] at ht
    cases ht
  · cases v <;> first | rfl | skip
    exfalso
    unfold Cell.okWide at h
    split at h
    all_goals first
      | (rename_i h1; simp at h1; done)
      | skip
    unfold Cell.ok at h
    split at h <;> simp_all
theorem glW_of_tab {w:World}(h:Lib.TabIs Tryz.prog w "internal/strconv.uint64pow10" .u64 Lib.pow10Tab){tp:TypeId}{p:Value}(h2:w.var? Tryz.prog "strconv.ErrRange" = some #[.iface tp p]):GlW w:=by
 refine⟨?_,?_⟩
 rotate_left
 ·intro g hg
  simp only[glbE,jjH,List.not_mem_nil,or_false] at hg
  subst hg
  unfold World.var? at h2
  have hn:Tryz.prog.globalNamed "strconv.ErrRange" = some 1:=by kernel_rfl
  rw[hn] at h2
  simp only[Option.bind_some] at h2
  split at h2
  ·rename_i cs T f he
   cases h2
   exact⟨tp,p,T,f,he⟩
  ·cases h2
 intro g vs hg
 simp only[glb,jjH,List.not_mem_nil,or_false,Prod.mk.injEq] at hg
 obtain⟨rfl,rfl⟩:=hg
 refine⟨by simp,?_⟩
 unfold Lib.TabIs World.var? at h
 have hg:Tryz.prog.globalNamed "internal/strconv.uint64pow10" = some 2:=by kernel_rfl
 rw[hg] at h
 simp only[Option.bind_some] at h
 split at h
 ·rename_i cs T f he
  cases h
  exact⟨T,f,he⟩
 ·cases h
theorem jfg {w:World}{k:IntKind} : ∀ {n:Nat} {vs:List Value},leavesOk w (List.replicate n (Lf.int k)) vs → ∃ xs:List Int,xs.length=n∧vs=xs.map (Value.int k) ∧ ∀ x∈xs,InR k x
 | 0,vs,h=>⟨[],rfl,h,fun x hx=>by cases hx⟩
 | n+1,vs,h=>by
  rw[List.replicate_succ] at h
  obtain⟨v,r,rfl,⟨x,rfl,hx⟩,h2⟩:=h
  obtain⟨xs,h3,h4,h5⟩:=jfg h2
  subst h4
  refine⟨x::xs,by simp[h3],rfl,fun y hy=>?_⟩
  rcases jjH.1 hy with e|e
  ·rw[e];exact hx
  ·exact h5 y e
def gdraftL:List Lf:=[.ints .u8,.int .u8,.ints .u16,.bool]
theorem gdraft_den {w:World}{cs:Array Value}(h:leavesOk w gdraftL cs.toList):∃ ds o vals sm,Den Env.dummy (pubOf w) (.agg [.ints .u8 ds,.int .u8 o,.ints .u16 vals,.bool sm]) (.agg cs) ∧
  (∀ v∈ds,0≤v∧v≤255)∧ds.length≤281474976710656∧(0≤o∧o≤255)∧(∀ v∈vals,0≤v∧v≤65535)∧vals.length≤281474976710656:=by
 obtain⟨v0,r0,e0,⟨ds,h0⟩,v1,r1,e1,⟨o,h1,h1'⟩,v2,r2,e2,⟨vals,h2⟩,v3,r3,e3,⟨sm,h3⟩,e4⟩:=h
 subst e4 e3 e2 e1
 obtain rfl:cs = #[v0,v1,v2,v3]:=by cases cs;simp_all
 subst h1 h3
 have g0:=h0
 have g2:=h2
 obtain⟨a0,c0,x0,_,y0,z0,_⟩:=g0
 obtain⟨a2,c2,x2,_,y2,z2,_⟩:=g2
 refine⟨ds,o,vals,sm,⟨[v0,.int .u8 o,v2,.bool sm],rfl,⟨v0,_,rfl,h0,_,_,rfl,⟨rfl,h1'⟩,_,_,rfl,h2,_,_,rfl,rfl,rfl⟩,?_⟩,?_,y0,?_,?_,y2⟩
 ·subst x0 x2
  intro v hv
  simp only[jjH,List.not_mem_nil,or_false] at hv
  rcases hv with rfl|rfl|rfl|rfl<;>rfl
 ·intro v hv
  simpa [InR,V.lo,V.hi] using z0 v hv
 ·simpa [InR,V.lo,V.hi] using h1'
 ·intro v hv
  simpa [InR,V.lo,V.hi] using z2 v hv
def s4 {α:Type}(a b c d:α):Nat→α
 | 0=>a
 | 1=>b
 | 2=>c
 | _=>d
def u8L:List Lf:=[.int .u8]
theorem u8_den {w:World}{v:Value}(h:leavesOk w u8L [v]):∃ n,Den Env.dummy (pubOf w) (.int .u8 n) v∧(0≤n∧n≤255):=by
 obtain⟨v0,r0,e0,⟨n,h0,h0'⟩,e1⟩:=h
 subst e1
 simp only[List.cons.injEq,and_true] at e0
 subst e0 h0
 exact⟨n,⟨rfl,h0'⟩,by simpa [InR,V.lo,V.hi] using h0'⟩
end Go.Proofs.YtbnghipgicmpdaaGreatDoor
end
section
namespace Go.Proofs.YtbnghipgicmpdaaGreatDoor
open Go Go.V Go.Nb
def Fq (n:Nat)(q:Rat):Prop:=q.num.natAbs<10^n∧q.den<10^n
theorem Fq.mono {m n:Nat}{q:Rat}(h:Fq m q)(hl:m≤n):Fq n q:=
 ⟨jjj h.1 (jjs (by decide) hl),jjj h.2 (jjs (by decide) hl)⟩
theorem Fq.ok {n:Nat}{q:Rat}(h:Fq n q)(h0:0<n)(h6:n≤600):okF q=true:=by
 unfold okF
 simp only[ji0,decide_eq_true_eq]
 exact⟨jjd (jbz n _ h0 h.1).1 h6,jjd (jbz n _ h0 h.2).1 h6⟩
theorem jfM (n:Int)(d:Nat)(hd:0<d):(Rat.divInt n d).num.natAbs≤n.natAbs∧(Rat.divInt n d).den≤d:=by
 rw[Rat.num_divInt,Rat.den_divInt,if_neg (by omega),jjA (by omega),jjy]
 refine⟨?_,?_⟩
 ·rw[Int.natAbs_ediv_of_dvd (by exact Int.gcd_dvd_right ..)]
  exact jjt _ _
 ·rw[jjr]
  exact jjt _ _
theorem jbd {n:Nat}{x:Int}{d:Nat}(hd:0<d)(h1:x.natAbs<10^n)(h2:d<10^n):Fq n (Rat.divInt x d):=
 ⟨Nat.lt_of_le_of_lt (jfM x d hd).1 h1,Nat.lt_of_le_of_lt (jfM x d hd).2 h2⟩
theorem jeQ {a b x y:Nat}(h1:x<10^a)(h2:y<10^b):x*y<10^(a+b):=by
 rw[Nat.pow_add]
 rcases jje y with e|e
 ·rw[e,Nat.mul_zero]
  exact Nat.mul_pos (Nat.pow_pos (by decide)) (Nat.pow_pos (by decide))
 ·exact jjj (Nat.mul_lt_mul_of_pos_right h1 e) (Nat.mul_le_mul_left _ (Nat.le_of_lt h2))
theorem Fq.add {a b:Nat}{p q:Rat}(h:Fq a p)(g:Fq b q):Fq (a+b+1) (p+q):=by
 have hp:=p.den_pos
 have hq:=q.den_pos
 have e:p+q=Rat.divInt (p.num*q.den+q.num*p.den) ((p.den*q.den:Nat):Int):=by
  conv=>lhs;rw[← jjC p,← jjC q]
  rw[Rat.divInt_add_divInt _ _ (by omega) (by omega),jjm]
 rw[e]
 have m1:=jeQ h.1 g.2
 have m2:=jeQ g.1 h.2
 have m3:=jeQ h.2 g.2
 rw[Nat.add_comm b a] at m2
 have e10:10^(a+b+1)=10*10^(a+b):=by rw[Nat.pow_succ,jjg]
 refine jbd (Nat.mul_pos hp hq) ?_ ?_
 ·have t:=Int.natAbs_add_le (p.num*q.den) (q.num*p.den)
  rw[Int.natAbs_mul,Int.natAbs_mul,jjr,jjr] at t
  omega
 ·omega
theorem Fq.neg {a:Nat}{p:Rat}(h:Fq a p):Fq a (-p):=⟨by rw[Rat.neg_num,Int.natAbs_neg];exact h.1,by rw[Rat.neg_den];exact h.2⟩
theorem Fq.sub {a b:Nat}{p q:Rat}(h:Fq a p)(g:Fq b q):Fq (a+b+1) (p-q):=by
 rw[Rat.sub_eq_add_neg]
 exact h.add g.neg
theorem Fq.mul {a b:Nat}{p q:Rat}(h:Fq a p)(g:Fq b q):Fq (a+b) (p*q):=by
 have e:p*q=Rat.divInt (p.num*q.num) ((p.den*q.den:Nat):Int):=by
  conv=>lhs;rw[← jjC p,← jjC q]
  rw[Rat.divInt_mul_divInt,jjm]
 rw[e]
 refine jbd (Nat.mul_pos p.den_pos q.den_pos) ?_ (jeQ h.2 g.2)
 rw[Int.natAbs_mul]
 exact jeQ h.1 g.1
theorem Fq.inv {a:Nat}{p:Rat}(h:Fq a p)(h0:p.num≠0):Fq a p⁻¹:=by
 rw[Rat.inv_def]
 rcases Int.lt_or_gt_of_ne h0 with hn|hn
 ·have e:Rat.divInt (p.den:Int) p.num=Rat.divInt (-(p.den:Int)) ((p.num.natAbs:Nat):Int):=by
   rw[Rat.divInt_eq_divInt_iff h0 (by omega)]
   have:((p.num.natAbs:Nat):Int) = -p.num:=by omega
   rw[this]
   grind
  rw[e]
  exact jbd (by omega) (by rw[Int.natAbs_neg,jjr];exact h.2) h.1
 ·have e:p.num=((p.num.natAbs:Nat):Int):=by omega
  rw[e]
  exact jbd (by omega) (by rw[jjr];exact h.2) h.1
theorem Fq.div {a b:Nat}{p q:Rat}(h:Fq a p)(g:Fq b q)(h0:q.num≠0):Fq (a+b) (p/q):=by
 rw[Rat.div_def]
 exact h.mul (g.inv h0)
theorem fadd_ok (s t u v:List UInt8)(h:okP s t=true)(g:okP u v=true)(hn:(mg 1000000000 (qv s t+qv u v).num.natAbs).length≤90000000)(hd:(mg 1000000000 (qv s t+qv u v).den).length≤90000000):Cl 105 [.agg [.str s,.str t],.agg [.str u,.str v]] (frR (qv s t+qv u v)):=by
 have r1:=jby s t h
 have r2:=jby u v g
 have o:=add_c (qv s t) (qv u v) (qsize h) (qsize g)
 have w:=jd7 (qv s t+qv u v) hn hd
 generalize qv s t+qv u v=q at *
 have ap:Cl 143 [.agg [.str s,.str t],.agg [.str u,.str v],.fn 155 [] []] (.tup [rtD q,.int .i64 0]):=by
  refine V.en tbOk Tryz.func143 ?_
  refine V.u3 r1 r2 o ?_
  exact Fin.of rfl
 have rs:Cl 142 [rtD q,.int .i64 0] (frR q):=by
  refine V.en tbOk Tryz.func142 ?_
  refine V.u1 w ?_
  exact Fin.of rfl
 refine V.en tbOk Tryz.func105 ?_
 refine V.u2 ap rs ?_
 exact Fin.of rfl
theorem fsub_ok (s t u v:List UInt8)(h:okP s t=true)(g:okP u v=true)(hn:(mg 1000000000 (qv s t-qv u v).num.natAbs).length≤90000000)(hd:(mg 1000000000 (qv s t-qv u v).den).length≤90000000):Cl 104 [.agg [.str s,.str t],.agg [.str u,.str v]] (frR (qv s t-qv u v)):=by
 have r1:=jby s t h
 have r2:=jby u v g
 have o:=sub_c (qv s t) (qv u v) (qsize h) (qsize g)
 have w:=jd7 (qv s t-qv u v) hn hd
 generalize qv s t-qv u v=q at *
 have ap:Cl 143 [.agg [.str s,.str t],.agg [.str u,.str v],.fn 154 [] []] (.tup [rtD q,.int .i64 0]):=by
  refine V.en tbOk Tryz.func143 ?_
  refine V.u3 r1 r2 o ?_
  exact Fin.of rfl
 have rs:Cl 142 [rtD q,.int .i64 0] (frR q):=by
  refine V.en tbOk Tryz.func142 ?_
  refine V.u1 w ?_
  exact Fin.of rfl
 refine V.en tbOk Tryz.func104 ?_
 refine V.u2 ap rs ?_
 exact Fin.of rfl
theorem fmul_ok (s t u v:List UInt8)(h:okP s t=true)(g:okP u v=true)(hn:(mg 1000000000 (qv s t*qv u v).num.natAbs).length≤90000000)(hd:(mg 1000000000 (qv s t*qv u v).den).length≤90000000):Cl 87 [.agg [.str s,.str t],.agg [.str u,.str v]] (frR (qv s t*qv u v)):=by
 have r1:=jby s t h
 have r2:=jby u v g
 have o:=mul_c (qv s t) (qv u v) (qsize h) (qsize g)
 have w:=jd7 (qv s t*qv u v) hn hd
 generalize qv s t*qv u v=q at *
 have ap:Cl 143 [.agg [.str s,.str t],.agg [.str u,.str v],.fn 144 [] []] (.tup [rtD q,.int .i64 0]):=by
  refine V.en tbOk Tryz.func143 ?_
  refine V.u3 r1 r2 o ?_
  exact Fin.of rfl
 have rs:Cl 142 [rtD q,.int .i64 0] (frR q):=by
  refine V.en tbOk Tryz.func142 ?_
  refine V.u1 w ?_
  exact Fin.of rfl
 refine V.en tbOk Tryz.func87 ?_
 refine V.u2 ap rs ?_
 exact Fin.of rfl
theorem Q9.inv {k:Nat}{q:Rat}(h:Q9 k q)(h0:q.num≠0):Q9 k q⁻¹:=by
 obtain⟨p1,p2⟩:=jhc q h0
 constructor
 ·rw[p1]
  unfold S9
  have e:(if decide (q.num<0)=true then -(q.den:Int) else (q.den:Int)).natAbs=q.den:=by
   split<;>simp
  rw[e]
  exact h.2
 ·rw[p2];exact h.1
theorem fdiv_ok (s t u v:List UInt8)(h:okP s t=true)(g:okP u v=true)(h0:(qv u v).num≠0)(hn:(mg 1000000000 (qv s t/qv u v).num.natAbs).length≤90000000)(hd:(mg 1000000000 (qv s t/qv u v).den).length≤90000000):Cl 90 [.agg [.str s,.str t],.agg [.str u,.str v]] (frR (qv s t/qv u v)):=by
 have r1:=jby s t h
 have r2:=jby u v g
 have z1:=jdt (qv u v).num.natAbs
 rw[decide_eq_false (show ¬ (qv u v).num.natAbs=0 by omega)] at z1
 have i1:=inverse_c (qv u v) h0
 have o:=mul_c (qv s t) (qv u v)⁻¹ (qsize h) ((qsize g).inv h0)
 have w:=jd7 (qv s t/qv u v) hn hd
 rw[Rat.div_def] at w ⊢
 unfold frR at *
 generalize qv s t*(qv u v)⁻¹=q at *
 generalize (qv u v)⁻¹=y at *
 refine V.en tbOk Tryz.func90 ?_
 refine V.u3 r1 r2 z1 ?_
 refine⟨(V.tk [0,1] (V.e1 2 [0] (V.e1 3 [] (V.e1 4 [] (V.tk [5,6] (V.e1 7 [] (V.tk [8] .done))))))),[],V.pok,.go (jac ?_)⟩
 refine V.u3 i1 o w ?_
 exact Fin.of rfl
def frT (x:Rat):D := .agg [.str (decZ x.num),.str (dec x.den)]
theorem jaD {q:Rat}(h:okF q=true):okP (decZ q.num) (dec q.den)=true∧qv (decZ q.num) (dec q.den)=q:=by
 unfold okF at h
 simp only[ji0,decide_eq_true_eq] at h
 have hdz:dec q.den=decZ (q.den:Int):=by unfold decZ;rw[if_neg (by omega),jjr]
 have w1:wval (decZ q.num)=q.num:=jbp _
 have w2:wval (dec q.den)=(q.den:Int):=by rw[hdz];exact jbp _
 have o1:=jcw q.num h.1
 have o2:okW (dec q.den)=true:=by rw[hdz];exact jcw _ (by rw[jjr];exact h.2)
 have hp:=q.den_pos
 constructor
 ·unfold okP
  rw[o1,o2,w1,w2]
  simp only[ji0,decide_eq_true_eq,Bool.true_and,jjr]
  exact⟨by omega,q.reduced⟩
 ·unfold qv
  rw[w1,w2]
  exact jjC q
theorem jc1 {q:Rat}(h:okF q=true):frR q = .tup [frT q,.int .i64 0]:=by
 unfold frR
 rw[h]
 rfl
theorem mg_fq {n:Nat}{q:Rat}(h:Fq n q)(h6:n≤600):(mg 1000000000 q.num.natAbs).length≤90000000∧(mg 1000000000 q.den).length≤90000000:=
 ⟨jjd (len9 (h.mono h6).1) (by omega),jjd (len9 (h.mono h6).2) (by omega)⟩
theorem zadd {a b:Nat}{p q:Rat}(h:Fq a p)(g:Fq b q)(ha:0<a)(hb:0<b)(hab:a+b+1≤600):Cl 105 [frT p,frT q] (.tup [frT (p+q),.int .i64 0]):=by
 obtain⟨o1,e1⟩:=jaD (h.ok ha (by omega))
 obtain⟨o2,e2⟩:=jaD (g.ok hb (by omega))
 have hs:=h.add g
 have hm:=mg_fq hs (by omega)
 have c:=fadd_ok _ _ _ _ o1 o2 (by rw[e1,e2];exact hm.1) (by rw[e1,e2];exact hm.2)
 rw[e1,e2,jc1 (hs.ok (by omega) (by omega))] at c
 exact c
theorem zsub {a b:Nat}{p q:Rat}(h:Fq a p)(g:Fq b q)(ha:0<a)(hb:0<b)(hab:a+b+1≤600):Cl 104 [frT p,frT q] (.tup [frT (p-q),.int .i64 0]):=by
 obtain⟨o1,e1⟩:=jaD (h.ok ha (by omega))
 obtain⟨o2,e2⟩:=jaD (g.ok hb (by omega))
 have hs:=h.sub g
 have hm:=mg_fq hs (by omega)
 have c:=fsub_ok _ _ _ _ o1 o2 (by rw[e1,e2];exact hm.1) (by rw[e1,e2];exact hm.2)
 rw[e1,e2,jc1 (hs.ok (by omega) (by omega))] at c
 exact c
theorem zmul {a b:Nat}{p q:Rat}(h:Fq a p)(g:Fq b q)(ha:0<a)(hb:0<b)(hab:a+b+1≤600):Cl 87 [frT p,frT q] (.tup [frT (p*q),.int .i64 0]):=by
 obtain⟨o1,e1⟩:=jaD (h.ok ha (by omega))
 obtain⟨o2,e2⟩:=jaD (g.ok hb (by omega))
 have hs:=h.mul g
 have hm:=mg_fq hs (by omega)
 have c:=fmul_ok _ _ _ _ o1 o2 (by rw[e1,e2];exact hm.1) (by rw[e1,e2];exact hm.2)
 rw[e1,e2,jc1 (hs.ok (by omega) (by omega))] at c
 exact c
theorem zdiv {a b:Nat}{p q:Rat}(h:Fq a p)(g:Fq b q)(h0:q.num≠0)(ha:0<a)(hb:0<b)(hab:a+b+1≤600):Cl 90 [frT p,frT q] (.tup [frT (p/q),.int .i64 0]):=by
 obtain⟨o1,e1⟩:=jaD (h.ok ha (by omega))
 obtain⟨o2,e2⟩:=jaD (g.ok hb (by omega))
 have hs:=h.div g h0
 have hm:=mg_fq hs (by omega)
 have c:=fdiv_ok _ _ _ _ o1 o2 (by rw[e2];exact h0) (by rw[e1,e2];exact hm.1) (by rw[e1,e2];exact hm.2)
 rw[e1,e2,jc1 (hs.ok (by omega) (by omega))] at c
 exact c
theorem zcmp {a b:Nat}{p q:Rat}(h:Fq a p)(g:Fq b q)(ha:0<a∧a≤600)(hb:0<b∧b≤600):Cl 135 [frT p,frT q] (.tup [.int .i64 (ordQ p q),.int .i64 0]):=by
 obtain⟨o1,e1⟩:=jaD (h.ok ha.1 ha.2)
 obtain⟨o2,e2⟩:=jaD (g.ok hb.1 hb.2)
 have c:=fcmp_ok _ _ _ _ o1 o2
 rw[e1,e2] at c
 exact c
abbrev Tx:=List UInt8×List UInt8
def okX (x:Tx):Bool:=okP x.1 x.2
def qX (x:Tx):Rat:=qv x.1 x.2
def BdX (n:Nat)(x:Tx):Prop:=(x.1.length≤281474976710656∧x.2.length≤281474976710656)∧(okX x=true→Fq n (qX x))
theorem BdX.mono {m n:Nat}{x:Tx}(h:BdX m x)(hl:m≤n):BdX n x:=⟨h.1,fun g=>(h.2 g).mono hl⟩
structure Sg (s d:List UInt8)(j:Nat)(neg:Bool):Prop where
 hj:j=if neg then 1 else 0
 hl:s.length=d.length+j
 hg:∀ i,s.getD (i+j) 0=d.getD i 0
 h0:(0<s.length∧s.getD 0 0=45)↔neg=true
theorem sg_of (s:List UInt8):∃ d j neg,Sg s d j neg∧okW s=okD d neg∧wval s=if neg then -(rdv d:Int) else rdv d:=by
 cases s with
 | nil=>exact⟨[],0,false,⟨rfl,rfl,fun i=>rfl,by simp⟩,rfl,rfl⟩
 | cons c r=>
  by_cases hc:c=45
  ·subst hc
   have h1:Go.Lib.hasPrefix (45::r) [45]=true:=by simp[Go.Lib.hasPrefix]
   have h2:Go.Lib.trimPrefix (45::r) [45]=r:=by unfold Go.Lib.trimPrefix;rw[h1];rfl
   refine⟨r,1,true,⟨rfl,by simp,fun i=>by simp,by simp⟩,?_,?_⟩
   ·unfold okW;rw[h1,h2]
   ·unfold wval;rw[h1,h2]
  ·have h1:Go.Lib.hasPrefix (c::r) [45]=false:=by
    show List.isPrefixOf [45] (c::r)=false
    simp only[List.isPrefixOf,Bool.and_true,beq_eq_false_iff_ne]
    exact Ne.symm hc
   have h2:Go.Lib.trimPrefix (c::r) [45]=c::r:=by unfold Go.Lib.trimPrefix;rw[h1];rfl
   refine⟨c::r,0,false,⟨rfl,by simp,fun i=>by simp,by simp[hc]⟩,?_,?_⟩
   ·unfold okW;rw[h1,h2]
   ·unfold wval;rw[h1,h2]
theorem u8_eq (c:UInt8)(n:Nat)(hn:n<256):decide (((c.toNat:Nat):Int)=n)=decide (c=UInt8.ofNat n):=decide_eq_decide.2 ⟨fun h=>UInt8.toNat_inj.1 (by rw[UInt8.toNat_ofNat_of_lt' (by simpa using hn)];omega),fun h=>by rw[h,UInt8.toNat_ofNat_of_lt' (by simpa using hn)]⟩
theorem right01_g (s d:List UInt8)(j:Nat)(neg:Bool)(S:Sg s d j neg)(hs:s.length≤281474976710656):Cl 136 [.str s] (.bool (okD d neg)):=by
 obtain⟨hj,hl,hg,h0⟩:=S
 have hJ:j≤1:=by rw[hj];split<;>omega
 have e0:(0:Int).toNat=0:=rfl
 have q45:decide (((s.getD 0 0).toNat:Int)=45)=decide (s.getD 0 0=45):=u8_eq _ 45 (by omega)
 have qn:(decide ((s.length:Int)>0) && decide (s.getD 0 0=45))=neg:=by
  rw[Bool.eq_iff_iff,← h0,ji0,decide_eq_true_eq,decide_eq_true_eq]
  exact and_congr_left' (by omega)
 refine V.en tbOk Tryz.func136 ?_
 refine V.r0 (V.a3 e0 q45 qn) ?_
 refine ja2 [(3,.int .i64 j)] [] (CondB.mk (fun hq=>?_) (fun hq=>?_)) ?_
 ·subst hq
  rw[if_pos rfl] at hj
  subst hj
  (conv=>whnf)
  refine V.st ?_
  exact V.wk
 ·subst hq
  rw[if_neg (by simp)] at hj
  subst hj
  (conv=>whnf)
  refine V.st ?_
  exact V.wk
 have hsl:(s.length:Int)-j=d.length:=by omega
 clear q45 qn h0
 refine V.r0 hsl ?_
 refine V.br (fun hq=>?_) (fun hq=>?_)
 ·simp only[Bool.or_eq_true,decide_eq_true_eq] at hq
  have hf:okD d neg=false:=by
   unfold okD
   rcases hq with h|h
   ·rw[decide_eq_true (show d.length=0 by omega)];rfl
   ·rw[decide_eq_true (show 600<d.length by omega),Bool.or_true];rfl
  rw[hf]
  (conv=>whnf)
  refine V.st ?_
  exact Fin.of rfl
 ·simp only[jjl,decide_eq_false_iff_not] at hq
  (conv=>whnf)
  refine V.st ?_
  refine jad (0:Nat) (fun k=>k≤d.length ∧ ∀ i,i<k→isDig (d.getD i 0)=true) (fun k=>d.length-k) (fun k=>[(5,.int .i64 ((k+j:Nat):Int))]) (fun _=>[]) ?_ ?_ ?_
  ·rw[ji8]
   exact V.wk
  ·exact⟨ji2 _,fun i hi=>by omega⟩
  intro k hk
  have hkc:(((k+j:Nat):Int)+1)=((k+1+j:Nat):Int):=by omega
  have hkt:((k+j:Nat):Int).toNat=k+j:=by omega
  (conv=>whnf)
  refine V.st ?_
  refine V.br (fun hq2=>?_) (fun hq2=>?_)
  ·rw[decide_eq_true_eq] at hq2
   have hdl:=dig_lo (d.getD k 0)
   have hgk:=hg k
   generalize hc:d.getD k 0=c at *
   refine V.r0 (V.a3 hkt hgk hkc) ?_
   refine V.br (fun hq3=>?_) (fun hq3=>?_)
   ·rw[Bool.or_eq_true,decide_eq_true_eq,decide_eq_true_eq] at hq3
    have hf:okD d neg=false:=by
     have h1:d.all isDig=false:=by
      rw[List.all_eq_false]
      refine⟨c,?_,fun h=>by have:=hdl.1 h;omega⟩
      rw[← hc,jjF,jjI (by omega)]
      exact jjJ _
     unfold okD
     rw[h1,Bool.and_false,Bool.false_and]
    rw[hf]
    (conv=>whnf)
    refine V.st ?_
    exact Fin.of rfl
   ·rw[jjl,decide_eq_false_iff_not,decide_eq_false_iff_not] at hq3
    refine V.r0 hkc ?_
    refine⟨k+1,⟨by omega,fun i hi=>?_⟩,by omega,V.wk⟩
    rcases jjk i k with h|h
    ·exact hk.2 i h
    ·obtain rfl:i=k:=by omega
     rw[hc];exact hdl.2 (by omega)
  ·rw[decide_eq_false_iff_not] at hq2
   obtain rfl:k=d.length:=by omega
   have hall:∀ c∈d,isDig c=true:=fun c hc=>by
    obtain⟨i,hi,e⟩:=List.getElem_of_mem hc
    have:=hk.2 i hi
    rw[jjF,jjI hi] at this
    rw[← e];exact this
   have hok:okD d neg = !(decide (d.getD 0 0=48) && (neg || decide (1<d.length))):=by
    unfold okD
    rw[jjE.2 hall,decide_eq_false (show ¬ d.length=0 by omega),decide_eq_false (show ¬ 600<d.length by omega)]
    rfl
   have hu:decide ((((d.getD 0 0).toNat:Nat):Int)=48)=decide (d.getD 0 0=48):=u8_eq _ 48 (by omega)
   have hg0:=hg 0
   rw[ji8] at hg0
   have hll:decide ((s.length:Int)=1) = !(neg || decide (1<d.length)):=by
    by_cases hn:neg=true
    ·subst hn
     rw[if_pos rfl] at hj
     rw[decide_eq_false (by omega)]
     rfl
    ·rw[if_neg hn] at hj
     rw[Bool.eq_false_iff.2 hn,Bool.false_or]
     by_cases h1:1<d.length
     ·rw[decide_eq_true h1,decide_eq_false (by omega)];rfl
     ·rw[decide_eq_false h1,decide_eq_true (by omega)];rfl
   have hu2:decide ((((d.getD 0 0).toNat:Nat):Int)≠48) = !decide (d.getD 0 0=48):=by rw[← hu,decide_not]
   have hne:(!decide (d.getD 0 0=48) || !(neg || decide (1<d.length)))=okD d neg:=by rw[hok,Bool.not_and]
   refine V.r0 (V.a5 @jjb hg0 hu2 hll hne) ?_
   exact Fin.of rfl
theorem rdv_chunk (d:List UInt8)(hd:∀ c∈d,isDig c=true)(m:Nat)(hm:m≤d.length):rdv (d.take m)/10000=rdv (d.take (m-4))∧rdv (d.take m)%10000=rdv ((d.take m).drop (m-4)):=by
 have e:d.take m=d.take (m-4)++(d.take m).drop (m-4):=by
  conv=>lhs;rw[← List.take_append_drop (m-4) (d.take m),List.take_take,Nat.min_eq_left (by omega)]
 have hb:=jfU (s:=(d.take m).drop (m-4)) (fun c hc=>hd c (jjR (jjQ hc)))
 have hl:((d.take m).drop (m-4)).length=m-(m-4):=by rw[jj0,jjM];omega
 rw[hl] at hb
 have ev:rdv (d.take m)=rdv (d.take (m-4))*10^(m-(m-4))+rdv ((d.take m).drop (m-4)):=by
  conv=>lhs;rw[e]
  rw[jbm,hl]
 rw[ev]
 generalize rdv ((d.take m).drop (m-4))=y at *
 rcases (by omega:m<4∨4≤m) with h|h
 ·have h0:m-4=0:=by omega
  have h10:10^(m-(m-4))≤10000:=by
   rw[h0]
   rcases (by omega:m=0∨m=1∨m=2∨m=3) with e|e|e|e<;>subst e<;>decide
  rw[h0,List.take_zero,show rdv []=0 from rfl,Nat.zero_mul]
  omega
 ·rw[show m-(m-4)=4 by omega,show (10:Nat)^4=10000 from rfl] at *
  omega
theorem rdv_next (d:List UInt8)(lo k:Nat)(h1:lo≤k)(h2:k<d.length):rdv ((d.take (k+1)).drop lo)=rdv ((d.take k).drop lo)*10+((d.getD k 0).toNat-48):=by
 have e:(d.take (k+1)).drop lo=(d.take k).drop lo++[d.getD k 0]:=by
  rw[jj5,jjI h2,jjU (by rw[jjM];omega),jjF,jjI h2]
  rfl
 rw[e,jbm,jeb]
 rfl
theorem in01_g (s d:List UInt8)(j:Nat)(neg:Bool)(S:Sg s d j neg)(hd:∀ c∈d,isDig c=true)(hdl:d.length≤600)(hs0:0<s.length) :
  Cl 67 [.str s] (plD (if neg then -(rdv d:Int) else rdv d)):=by
 obtain⟨hj,hl,hg,h0⟩:=S
 have hJ:j≤1:=by rw[hj];split<;>omega
 have e0:(0:Int).toNat=0:=rfl
 have q45:decide (((s.getD 0 0).toNat:Int)=45)=neg:=by
  rw[show (45:Int)=((45:Nat):Int) from rfl,u8_eq _ 45 (by omega),Bool.eq_iff_iff,← h0,decide_eq_true_eq]
  exact⟨fun h=>⟨hs0,h⟩,fun h=>h.2⟩
 refine V.en tbOk Tryz.func67 ?_
 refine V.r0 (V.a2 e0 q45) ?_
 refine ja2 [(3,.int .i64 j)] [] (CondB.mk (fun hq=>?_) (fun hq=>?_)) ?_
 ·subst hq
  rw[if_pos rfl] at hj
  subst hj
  (conv=>whnf)
  refine V.st ?_
  exact V.wk
 ·subst hq
  rw[if_neg (by simp)] at hj
  subst hj
  (conv=>whnf)
  refine V.st ?_
  exact V.wk
 (conv=>whnf)
 refine V.st ?_
 refine Lp.ghostSlot 38 4 .i64 (by decide) ?_
 (conv=>whnf)
 refine jad (((s.length:Int),d.length,[]):Int×Nat×List Int) (fun st=>st.2.1≤d.length∧(st.1=(st.2.1+j:Nat)∨(st.2.1=0∧st.1<j∧(j:Int)-4≤st.1))∧val 10000 st.2.2+((10000:Nat):Int)^st.2.2.length*((rdv (d.take st.2.1):Nat):Int)=((rdv d:Nat):Int)∧Dg 10000 st.2.2∧st.2.2.length+(st.2.1+3)/4≤151) (fun st=>st.2.1) (fun st=>[(5,.int .i64 st.1),(4,.osl 38 0 st.2.2.length)]) (fun st=>[(38,.arr .i64 st.2.2)]) ?_ ?_ ?_
 ·exact V.wk
 ·exact⟨jjc _,.inl (by dsimp only;omega),by simp[val],fun x hx=>by simp at hx,by dsimp only [List.length_nil];omega⟩
 rintro⟨e,m,out⟩ ⟨h1,h2,h3,h4,h5⟩
 dsimp only at h1 h2 h3 h4 h5 ⊢
 (conv=>whnf)
 refine V.st ?_
 refine V.br (fun hq=>?_) (fun hq=>?_)
 ·rw[decide_eq_true_eq] at hq
  have he:e=((m+j:Nat):Int):=by omega
  have hm0:0<m:=by omega
  subst he
  obtain⟨lo,hlo⟩:∃ lo,lo=m-4:=⟨_,rfl⟩
  have hmx:max (((m+j:Nat):Int)-4) (j:Int)=((lo+j:Nat):Int):=by omega
  have hch:=rdv_chunk d hd m h1
  rw[← hlo] at hch
  have hst:=jeL (B:=10000) (by omega) h3
  rw[hch.1,hch.2] at hst
  have hbd:∀ i,lo+i≤m→rdv ((d.take (lo+i)).drop lo)<10000:=fun i hi=>by
   have hl1:((d.take (lo+i)).drop lo).length≤4:=by rw[jj0,jjM];omega
   have:=jfU (s:=(d.take (lo+i)).drop lo) (fun c hc=>hd c (jjR (jjQ hc)))
   have h2:(10:Nat)^((d.take (lo+i)).drop lo).length≤10^4:=jjs (by omega) hl1
   omega
  have hnx:∀ i,lo+i<m→rdv ((d.take (lo+(i+1))).drop lo)=rdv ((d.take (lo+i)).drop lo)*10+((d.getD (lo+i) 0).toNat-48):=fun i hi=>by
   rw[← Nat.add_assoc]
   exact rdv_next d lo (lo+i) (by omega) (by omega)
  have hx0:rdv ((d.take (lo+0)).drop lo)=0:=by
   have hnil:(d.take lo).drop lo=[]:=List.drop_eq_nil_of_le (by rw[jjM];omega)
   rw[ji9,hnil];rfl
  refine V.r0 hmx ?_
  refine jad (0:Nat) (fun i=>lo+i≤m) (fun i=>m-(lo+i)) (fun i=>[(7,.int .i64 ((lo+i+j:Nat):Int)),(6,.int .i64 ((rdv ((d.take (lo+i)).drop lo):Nat):Int))]) (fun _=>[]) ?_ ?_ ?_
  ·rw[hx0]
   exact V.wk
  ·show lo+0≤m
   omega
  intro i hi
  have hi2:=hbd i hi
  (conv=>whnf)
  refine V.st ?_
  refine V.br (fun hq2=>?_) (fun hq2=>?_)
  ·rw[decide_eq_true_eq] at hq2
   have hn2:=hnx i (by omega)
   have hgi:=hg (lo+i)
   have hdc:isDig (d.getD (lo+i) 0)=true:=hd _ (by rw[jjF,jjI (by omega)];exact jjJ _)
   have hdl2:=(dig_lo _).1 hdc
   have hi3:=hbd (i+1) (by omega)
   generalize d.getD (lo+i) 0=c at *
   have hkt:((lo+i+j:Nat):Int).toNat=lo+i+j:=by omega
   have hkc:(((lo+i+j:Nat):Int)+1)=((lo+(i+1)+j:Nat):Int):=by omega
   have hsum:((rdv ((d.take (lo+i)).drop lo):Nat):Int)*10+((c.toNat:Int)-48)=((rdv ((d.take (lo+(i+1))).drop lo):Nat):Int):=by
    rw[hn2];omega
   refine V.r0 (V.a4 hkt hgi hkc hsum) ?_
   exact⟨i+1,by omega,by omega,V.wk⟩
  ·rw[decide_eq_false_iff_not] at hq2
   have hmi:lo+i=m:=by omega
   rw[hmi]
   have hl2:(out++[((rdv ((d.take m).drop lo):Nat):Int)]).length=out.length+1:=by simp
   have hl3:out.length+(List.take 1 (List.drop 0 [((rdv ((d.take m).drop lo):Nat):Int)])).length=(out++[((rdv ((d.take m).drop lo):Nat):Int)]).length:=by simp
   have hdg:Dg 10000 (out++[((rdv ((d.take m).drop lo):Nat):Int)]):=jai h4 (jay ⟨by omega,by have:=hbd i hi;rw[hmi] at this;omega⟩)
   refine V.r0 hl3 ?_
   try refine And.intro (fun _=>⟨trivial,by omega⟩) ?_
   refine V.r0 hl3 ?_
   exact⟨(((m+j:Nat):Int)-4,lo,out++[((rdv ((d.take m).drop lo):Nat):Int)]),⟨by dsimp only;omega,by dsimp only;omega,hst,hdg,by dsimp only;omega⟩,by dsimp only;omega,V.wk⟩
 ·rw[decide_eq_false_iff_not] at hq
  have hm0:m=0:=by omega
  subst hm0
  have hv:val 10000 out=((rdv d:Nat):Int):=by
   rw[List.take_zero,show rdv []=0 from rfl] at h3
   simpa using h3
  have hmd:=jfd neg out h4 (by omega)
  rw[hv] at hmd
  have e1:decide ((j:Int)=1)=neg:=by
   cases neg with
   | true=>rw[if_pos rfl] at hj;rw[hj];rfl
   | false=>rw[if_neg (by simp)] at hj;rw[hj];rfl
  (conv=>whnf)
  (try simp only[e1,jj6])
  repeat ((first|refine V.s1 ?_|((try ((with_reducible refine .ext ?_);(conv=>whnf);(try simp only[e1,jj6])));(with_reducible refine jaa (r:=?_) ?_ ?_);rotate_left;(focus (first|exact(hmd)));(conv=>whnf)));(try simp only[e1,jj6]))
  exact Fin.of rfl
theorem jbq (x y:Int)(hx:Sm 40000000 x)(hy:Sm 40000000 y):Cl 125 [plD x,plD y] (plD (x*y)):=by
 unfold Sm at hx hy
 have hl:=jbR (B:=10000) (by omega) x.natAbs y.natAbs
 have hp:=je2 (mg 10000 x.natAbs) (mg 10000 y.natAbs) (by omega) (by omega) (mg_dg (by omega) _) (fun j=>by
  have:=jam (B:=10000) (by omega) (mg_dg (B:=10000) (by omega) y.natAbs) j
  omega)
 rw[jaH (by omega),jaH (by omega),← jjm,jjb] at hp
 have hm:=jeg (!(decide (x<0) == decide (y<0))) (x.natAbs*y.natAbs) (by omega)
 have e:(if (!(decide (x<0) == decide (y<0)))=true then -((x.natAbs*y.natAbs:Nat):Int) else ((x.natAbs*y.natAbs:Nat):Int))=x*y:=by
  rw[jjm]
  by_cases h:x<0
  ·have e1:(x.natAbs:Int) = -x:=by omega
   by_cases h2:y<0
   ·have e2:(y.natAbs:Int) = -y:=by omega
    rw[e1,e2];simp[h,h2,Int.neg_mul_neg]
   ·have e2:(y.natAbs:Int)=y:=by omega
    rw[e1,e2];simp[h,h2,Int.neg_mul]
  ·have e1:(x.natAbs:Int)=x:=by omega
   by_cases h2:y<0
   ·have e2:(y.natAbs:Int) = -y:=by omega
    rw[e1,e2];simp[h,h2,Int.mul_neg]
   ·have e2:(y.natAbs:Int)=y:=by omega
    rw[e1,e2];simp[h,h2]
 rw[e] at hm
 rw[show plD x = .agg [.bool (decide (x<0)),.ints .i64 (mg 10000 x.natAbs)] from rfl,show plD y = .agg [.bool (decide (y<0)),.ints .i64 (mg 10000 y.natAbs)] from rfl]
 refine V.en tbOk Tryz.func125 ?_
 (conv=>whnf)
 refine V.st ?_
 refine⟨(V.tk [0,1,2,3,4,5,6,7,8] (V.e1 9 [4,3,2,1,0] (V.e1 10 [] (V.e1 11 [] .done)))),[],V.pok,.go (jac ?_)⟩
 refine V.u2 hp hm ?_
 exact Fin.of rfl
theorem je6 (x y:Int)(hx:Sm 80000000 x)(hy:Sm 80000000 y):Cl 170 [plD x,plD y] (.int .i64 (x-y).sign):=by
 have hm:=minus_c x y (hx.mono (by omega)) (hy.mono (by omega))
 have hn:=jcl (B:=10000) (n:=(x-y).natAbs) (by omega)
 have hz:Sm 80000001 (x-y):=by rw[Int.sub_eq_add_neg];exact hx.add hy.neg
 unfold Sm at hz
 rw[show plD (x-y) = .agg [.bool (decide (x-y<0)),.ints .i64 (mg 10000 (x-y).natAbs)] from rfl] at hm
 generalize x-y=z at *
 generalize mg 10000 z.natAbs=xs at *
 refine V.en tbOk Tryz.func170 ?_
 refine V.u1 hm ?_
 refine V.br (fun hq=>?_) (fun hq=>?_)
 ·rw[decide_eq_true_eq] at hq
  (conv=>whnf)
  refine V.st ?_
  exact Fin.of (by rw[jjz hq])
 ·rw[decide_eq_false_iff_not] at hq
  (conv=>whnf)
  refine V.st ?_
  refine V.br (fun hq2=>?_) (fun hq2=>?_)
  ·rw[decide_eq_true_eq] at hq2
   have h0:z≠0:=fun e=>by
    have:=hn.2 (by rw[e];rfl)
    rw[this] at hq2;simp at hq2
   (conv=>whnf)
   refine V.st ?_
   exact Fin.of (by rw[jjA (by omega)])
  ·rw[decide_eq_false_iff_not] at hq2
   have h0:=hn.1 (jjG.1 (by omega))
   (conv=>whnf)
   refine V.st ?_
   exact Fin.of (by rw[show z=0 by omega];rfl)
theorem off1 {p:Go.Program}{f:Nat}{ys:List D}{c:Bool}(hc:c=false):c=true→Called p f ys (.int .i64 0):=fun h=>by rw[hc] at h;cases h
theorem sign_lt {a b:Int} : (a-b).sign<0↔a<b:=by
 rcases Int.lt_trichotomy a b with h|h|h
 ·rw[jjz (by omega)];exact⟨fun _=>h,fun _=>by omega⟩
 ·rw[h,Int.sub_self];exact⟨fun e=>by simp at e,fun e=>by omega⟩
 ·rw[jjA (by omega)];exact⟨fun e=>by omega,fun e=>by omega⟩
theorem sign_gt {a b:Int} : (a-b).sign>0↔a>b:=by
 rcases Int.lt_trichotomy a b with h|h|h
 ·rw[jjz (by omega)];exact⟨fun e=>by omega,fun e=>by omega⟩
 ·rw[h,Int.sub_self];exact⟨fun e=>by simp at e,fun e=>by omega⟩
 ·rw[jjA (by omega)];exact⟨fun _=>h,fun _=>by omega⟩
theorem integral_c (z:Int)(hz:Sm 80000000 z):Cl 120 [plD z] (.tup [.int .i64 (if -9223372036854775808≤z∧z≤9223372036854775807 then z else 0),.int .i64 (if -9223372036854775808≤z∧z≤9223372036854775807 then 0 else 6)]):=by
 have i1:=jcY (-9223372036854775808) (by constructor<;>decide)
 have i2:=jcY 9223372036854775807 (by constructor<;>decide)
 have y1:Sm 5 (-9223372036854775808):=Sm.lit (by decide)
 have y2:Sm 5 9223372036854775807:=Sm.lit (by decide)
 have o1:=je6 z (-9223372036854775808) hz (y1.mono (by omega))
 have o2:=je6 z 9223372036854775807 hz (y2.mono (by omega))
 have t1:=sign_lt (a:=z) (b := -9223372036854775808)
 have t2:=sign_gt (a:=z) (b:=9223372036854775807)
 generalize (z - -9223372036854775808).sign=s1 at *
 generalize (z-9223372036854775807).sign=s2 at *
 have hdx:=mg_dg (B:=10000) (by omega) z.natAbs
 have hvx:=jaH (B:=10000) (by omega) z.natAbs
 unfold Sm at hz
 have hlen:z.natAbs<10000^5→(mg 10000 z.natAbs).length≤5:=fun h=>jax (by omega) h
 rw[show plD z = .agg [.bool (decide (z<0)),.ints .i64 (mg 10000 z.natAbs)] from rfl] at *
 generalize mg 10000 z.natAbs=xs at *
 refine V.en tbOk Tryz.func120 ?_
 (conv=>whnf)
 refine V.st ?_
 refine⟨(V.tk [0] (V.e1 1 [0] (V.e1 2 [] (V.tk [3,4,5] (V.e1 6 [5] (V.e1 7 [] (V.tk [8,9] .done))))))),[],V.pok,.go (jac ?_)⟩
 by_cases h1:s1<0
 ·have hd:decide (s1<0)=true:=decide_eq_true h1
  have hn:¬ (-9223372036854775808≤z∧z≤9223372036854775807):=by omega
  rw[if_neg hn,if_neg hn]
  (conv=>whnf)
  (try simp only[hd])
  repeat ((first|refine V.s1 ?_|((try ((with_reducible refine .ext ?_);(conv=>whnf);(try simp only[hd])));(with_reducible refine jaa (r:=?_) ?_ ?_);rotate_left;(focus (first|exact(i1)|exact(o1)|exact(i2)|exact(o2)|exact(off1 rfl)));(conv=>whnf)));(try simp only[hd]))
  refine And.intro (fun _ h=>by cases h) ?_
  refine V.r0 hd ?_
  refine V.br (fun hq=>?_) (fun hq=>?_)
  ·(conv=>whnf)
   refine V.st ?_
   exact Fin.of rfl
  ·simp at hq
 ·have hd:decide (s1<0)=false:=decide_eq_false h1
  (conv=>whnf)
  (try simp only[hd])
  repeat ((first|refine V.s1 ?_|((try ((with_reducible refine .ext ?_);(conv=>whnf);(try simp only[hd])));(with_reducible refine jaa (r:=?_) ?_ ?_);rotate_left;(focus (first|exact(i1)|exact(o1)|exact(i2)|exact(o2)));(conv=>whnf)));(try simp only[hd]))
  refine V.br (fun hq=>?_) (fun hq=>?_)
  ·simp only[Bool.false_or,decide_eq_true_eq] at hq
   have hn:¬ (-9223372036854775808≤z∧z≤9223372036854775807):=by omega
   rw[if_neg hn,if_neg hn]
   (conv=>whnf)
   refine V.st ?_
   exact Fin.of rfl
  ·simp only[Bool.false_or,decide_eq_false_iff_not] at hq
   have hn : -9223372036854775808≤z∧z≤9223372036854775807:=by omega
   rw[if_pos hn,if_pos hn]
   have hl5:=hlen (by omega)
   (conv=>whnf)
   refine V.st ?_
   refine jad (xs.length:Nat) (fun k=>k≤xs.length) (fun k=>k) (fun k=>[(5,.int .i64 ((k:Int)-1)),(4,.int .i64 (0-val 10000 (xs.drop k)))]) (fun _=>[]) ?_ ?_ ?_
   ·rw[List.drop_length]
    exact V.wk
   ·exact jjc _
   intro k hk
   (conv=>whnf)
   refine V.st ?_
   refine V.br (fun hq2=>?_) (fun hq2=>?_)
   ·rw[decide_eq_true_eq] at hq2
    obtain⟨j,rfl⟩:∃ j,k=j+1:=⟨k-1,by omega⟩
    have hd2:=jbI (B:=10000) (l:=xs) (k:=j) (by omega)
    have bx:=jam (by omega) hdx j
    have h0:=jao (jbk hdx (j+1))
    have he:=(jdw (B:=10000) (by omega) hdx j).1
    have hp1:(1:Int)≤((10000:Nat):Int)^j:=by have:=jdJ (B:=10000) (by omega) j;omega
    have hle:val 10000 (xs.drop j)≤val 10000 xs:=by
     have:=jjq hp1 (jao (jbk hdx j))
     omega
    have e2:(((j+1:Nat):Int)-1)=(j:Int):=by omega
    generalize hx0:xs.getD j 0=x at *
    have e3:(0-val 10000 (xs.drop (j+1)))*10000-x=0-val 10000 (xs.drop j):=by omega
    refine V.r0 (V.a4 e2 @jjb hx0 e3) ?_
    exact⟨j,by omega,by omega,V.wk⟩
   ·rw[decide_eq_false_iff_not] at hq2
    obtain rfl:k=0:=by omega
    rw[jj1,hvx]
    (conv=>whnf)
    refine V.st ?_
    refine V.br (fun hz0=>?_) (fun hz0=>?_)
    ·rw[decide_eq_true_eq] at hz0
     (conv=>whnf)
     refine V.st ?_
     exact Fin.of (by rw[show 0-(z.natAbs:Int)=z by omega])
    ·rw[decide_eq_false_iff_not] at hz0
     (conv=>whnf)
     refine V.st ?_
     exact Fin.of (by rw[show 0-(0-(z.natAbs:Int))=z by omega])
def Q4 (k:Nat)(q:Rat):Prop:=Sm k q.num∧Sm k (q.den:Int)
theorem Q4.mono {k l:Nat}{q:Rat}(h:Q4 k q)(hl:k≤l):Q4 l q:=⟨h.1.mono hl,h.2.mono hl⟩
theorem Q4.neg {k:Nat}{q:Rat}(h:Q4 k q):Q4 k (-q):=⟨by rw[Rat.neg_num];exact h.1.neg,by rw[Rat.neg_den];exact h.2⟩
theorem Q4.of {k:Nat}{n d:Int}(hn:Sm k n)(hd:Sm k d)(hd0:d≠0):Q4 k (Rat.divInt n d):=by
 have h1:=jhP n d hd0
 have h2:=jhQ n d hd0
 have h3:=jbD (if d<0 then -n else n) (Int.gcd (if d<0 then -n else n) (if d<0 then -d else d))
 have h4:=jbD (if d<0 then -d else d) (Int.gcd (if d<0 then -n else n) (if d<0 then -d else d))
 rw[h1] at h3
 rw[h2] at h4
 have e1:(if d<0 then -n else n).natAbs=n.natAbs:=by split<;>simp
 have e2:(if d<0 then -d else d).natAbs=d.natAbs:=by split<;>simp
 exact⟨hn.le (by omega),hd.le (by omega)⟩
theorem plN (n:Nat):plD (n:Int) = .agg [.bool false,.ints .i64 (mg 10000 n)]:=by
 unfold plD
 rw[decide_eq_false (by omega),jjr]
theorem jf3 (x y:Rat):x*y=Rat.divInt (x.num*y.num) ((x.den:Int)*(y.den:Int)):=by
 conv=>lhs;rw[← jjC x,← jjC y]
 rw[Rat.divInt_mul_divInt]
theorem jcH (x:Rat):(x.den:Int)≠0:=by have:=x.den_pos;omega
theorem jgV (x y:Rat)(hx:Q4 40000000 x)(hy:Q4 40000000 y):Cl 76 [raD x,raD y] (raD (x*y)):=by
 have h1:=jbq x.num y.num hx.1 hy.1
 have h2:=jbq x.den y.den hx.2 hy.2
 have h3:=jeH (x.num*y.num) ((x.den:Int)*(y.den:Int)) (hx.1.mul hy.1) (hx.2.mul hy.2) (Int.mul_ne_zero (jcH x) (jcH y))
 rw[← jf3] at h3
 rw[plN,plN] at h2
 refine V.en tbOk Tryz.func76 ?_
 (conv=>whnf)
 refine V.st ?_
 refine⟨Pq46z,[],V.pok,.go (jac ?_)⟩
 refine V.u3 h1 h2 h3 ?_
 exact Fin.of rfl
theorem jdP (x y:Rat)(hx:Q4 40000000 x)(hy:Q4 40000000 y):Cl 138 [raD x,raD y] (.int .i64 (ordQ x y)):=by
 have h1:=jbq x.num y.den hx.1 hy.2
 have h2:=jbq y.num x.den hy.1 hx.2
 have h3:=je6 (x.num*y.den) (y.num*x.den) (hx.1.mul hy.2) (hy.1.mul hx.2)
 rw[Int.sub_eq_add_neg,je5] at h3
 rw[plN] at h1 h2
 refine V.en tbOk Tryz.func138 ?_
 (conv=>whnf)
 refine V.st ?_
 refine⟨(V.tk [0,1,2,3,5,6,7,8] (V.e1 4 [8,7,6,5] (V.e1 9 [] (V.e1 10 [] (V.tk [11] .done))))),[],V.pok,.go (jac ?_)⟩
 refine V.u3 h1 h2 h3 ?_
 exact Fin.of rfl
theorem down_c (x:Rat)(hx:Q4 80000000 x):Cl 171 [raD x] (plD (x.num/(x.den:Int))):=by
 have h1:=jdK x.num x.den hx.1 hx.2 (jcH x)
 rw[plN] at h1
 refine V.en tbOk Tryz.func171 ?_
 refine V.u1 h1 ?_
 exact Fin.of rfl
theorem turn02_c (x:Rat)(hx:Q4 80000000 x):Cl 139 [raD x] (raD (-x)):=by
 have h1:=turn_c x.num (by have:=hx.1;unfold Sm at this;omega)
 have e:raD (-x) = .agg [.bool (decide (-x.num<0)),.ints .i64 (mg 10000 (-x.num).natAbs),.bool false,.ints .i64 (mg 10000 x.den)]:=by unfold raD;rw[Rat.neg_num,Rat.neg_den]
 rw[e]
 refine V.en tbOk Tryz.func139 ?_
 (conv=>whnf)
 refine V.st ?_
 refine⟨(V.tk [0,1,3,4] (V.e1 2 [4,3] (V.tk [5] (V.e1 6 [] .done)))),[],V.pok,.go (jac ?_)⟩
 refine V.u1 h1 ?_
 exact Fin.of rfl
theorem Q4.mul {k l:Nat}{x y:Rat}(h:Q4 k x)(g:Q4 l y):Q4 (k+l) (x*y):=by
 rw[jf3]
 exact Q4.of (h.1.mul g.1) (h.2.mul g.2) (Int.mul_ne_zero (jcH x) (jcH y))
theorem jfF (x y:Rat):x+y=Rat.divInt (x.num*y.den+y.num*x.den) ((x.den:Int)*(y.den:Int)):=by
 conv=>lhs;rw[← jjC x,← jjC y]
 rw[Rat.divInt_add_divInt _ _ (jcH x) (jcH y)]
theorem jgz (x y:Rat)(hx:Q4 30000000 x)(hy:Q4 30000000 y):Cl 92 [raD x,raD y] (raD (x+y)):=by
 have h1:=jbq x.num y.den (hx.1.mono (by omega)) (hy.2.mono (by omega))
 have h2:=jbq y.num x.den (hy.1.mono (by omega)) (hx.2.mono (by omega))
 have z1:Sm 60000000 (x.num*(y.den:Int)):=hx.1.mul hy.2
 have z2:Sm 60000000 (y.num*(x.den:Int)):=hy.1.mul hx.2
 have z3:Sm 60000000 ((x.den:Int)*(y.den:Int)):=hx.2.mul hy.2
 have h3:=plus_c _ _ (z1.mono (by omega)) (z2.mono (by omega))
 have h4:=jbq x.den y.den (hx.2.mono (by omega)) (hy.2.mono (by omega))
 have h5:=jeH (x.num*y.den+y.num*x.den) ((x.den:Int)*(y.den:Int)) ((z1.add z2).mono (by omega)) (z3.mono (by omega)) (Int.mul_ne_zero (jcH x) (jcH y))
 rw[← jfF] at h5
 rw[plN] at h1 h2
 rw[plN,plN] at h4
 generalize x.num*y.den+y.num*x.den=S at *
 clear z1 z2 z3
 refine V.en tbOk Tryz.func92 ?_
 (conv=>whnf)
 refine V.st ?_
 refine⟨(V.tk [0,1,2,3,5,6,7,8] (.ev (.cons 4 [8,7,6,5] (.ev (.cons 9 [] (.ev (.cons 10 [] (V.e1 11 [] (V.e1 12 [] .done)) (.cons 11 [] (V.e1 10 [] (V.e1 12 [] .done)) .nil))) (.cons 11 [8,7,6,5] (V.e1 9 [] (V.e1 10 [] (V.e1 12 [] .done))) .nil))) (.cons 11 [8,7,6,5,3,2,1,0] (V.e1 4 [8,7,6,5] (V.e1 9 [] (V.e1 10 [] (V.e1 12 [] .done)))) .nil)))),[],V.pok,?_⟩
 refine jab [(5,.box 5 0)] [(5,.box [.bool (decide (S<0)),.ints .i64 (mg 10000 S.natAbs)])] ?_ ?_
 ·exact V.d3 @ji8 h1 h2 h3
 (conv=>whnf)
 refine V.st ?_
 refine⟨(V.tk [0,1,2,3,4] (V.e1 5 [0] (V.e1 6 [] (V.e1 7 [] .done)))),[],V.pok,.go (jac ?_)⟩
 refine V.u2 h4 h5 ?_
 exact Fin.of rfl
theorem over_eq (x y:Rat)(hy:y≠0):x/y=Rat.divInt (x.num*y.den) ((x.den:Int)*y.num):=by
 rw[Rat.div_def]
 conv=>lhs;rw[← jjC x,← jjC y,Rat.inv_divInt,Rat.divInt_mul_divInt]
theorem minus02_c (x y:Rat)(hx:Q4 30000000 x)(hy:Q4 30000000 y):Cl 81 [raD x,raD y] (raD (x-y)):=by
 have h1:=turn02_c y (hy.mono (by omega))
 have h2:=jgz x (-y) hx hy.neg
 rw[show x + -y=x-y from (Rat.sub_eq_add_neg x y).symm] at h2
 unfold raD at *
 refine V.en tbOk Tryz.func81 ?_
 (conv=>whnf)
 refine V.st ?_
 refine⟨Pq69z,[],V.pok,.go (jac ?_)⟩
 refine V.u2 h1 h2 ?_
 exact Fin.of rfl
theorem over02_c (x y:Rat)(hx:Q4 40000000 x)(hy:Q4 40000000 y)(h0:y.num≠0):Cl 93 [raD x,raD y] (raD (x/y)):=by
 have h1:=jbq x.num y.den hx.1 hy.2
 have h2:=jbq x.den y.num hx.2 hy.1
 have h3:=jeH (x.num*y.den) ((x.den:Int)*y.num) (hx.1.mul hy.2) (hx.2.mul hy.1) (Int.mul_ne_zero (jcH x) h0)
 rw[← over_eq x y (fun e=>h0 (by rw[e];rfl))] at h3
 rw[plN] at h1 h2
 refine V.en tbOk Tryz.func93 ?_
 (conv=>whnf)
 refine V.st ?_
 refine⟨Pq46z,[],V.pok,.go (jac ?_)⟩
 refine V.u3 h1 h2 h3 ?_
 exact Fin.of rfl
theorem jg1 (s:List UInt8)(hs:s.length≤281474976710656):Cl 136 [.str s] (.bool (okW s)):=by
 obtain⟨d,j,neg,S,e1,_⟩:=sg_of s
 rw[e1]
 exact right01_g s d j neg S hs
theorem in01_c (s:List UInt8)(h:okW s=true):Cl 67 [.str s] (plD (wval s)):=by
 obtain⟨d,j,neg,S,e1,e2⟩:=sg_of s
 rw[e2]
 rw[e1] at h
 unfold okD at h
 simp only[ji0,Bool.not_eq_true',jjl,decide_eq_false_iff_not,jjE] at h
 exact in01_g s d j neg S h.1.2 (by omega) (by have:=S.hl;omega)
theorem jd9 {s:List UInt8}(h:okW s=true):Sm 151 (wval s):=by
 obtain⟨d,j,neg,S,e1,e2⟩:=sg_of s
 rw[e1] at h
 unfold okD at h
 simp only[ji0,Bool.not_eq_true',jjl,decide_eq_false_iff_not,jjE] at h
 have hlt:=jfU (s:=d) h.1.2
 have h2:∀ k,d.length≤4*k→rdv d<10000^k:=fun k hk=>by
  refine jjj hlt ?_
  rw[show (10000:Nat)=10^4 from rfl,← Nat.pow_mul]
  exact jjs (by omega) hk
 have e:(wval s).natAbs=rdv d:=by
  rw[e2];split<;>omega
 unfold Sm
 rw[e]
 exact jax (by omega) (h2 151 (by omega))
theorem jaW (s t : List UInt8) (hs : s.length ≤ 281474976710656) (ht : t.length ≤ 281474976710656) : Cl 75 [.agg [.str s, .str t]] (.bool (okP s t)) := by
  have r1 := jg1 s hs
  have r2 := jg1 t ht
  by_cases h1 : okW s = true
  · rw [h1] at r1
    by_cases h2 : okW t = true
    · rw [h2] at r2
      have i1 := in01_c s h1
      have i2 := in01_c t h2
      have g1 := jfr (wval s) (wval t) ((jd9 h1).mono (by omega)) ((jd9 h2).mono (by omega))
      have hz := jcl (B := 10000) (n := (wval t).natAbs) (by omega)
      have gl : Sm 151 (Int.gcd (wval s) (wval t) : Int) := by
        by_cases h0 : wval t = 0
        · rw [h0, Int.gcd_zero_right]
          exact (jd9 h1).le (by omega)
        · exact (jd9 h2).le (by
            rw [jjr]
            exact Nat.le_of_dvd (by omega) (Int.ofNat_dvd_left.1 (Int.gcd_dvd_right _ _)))
      have x1 := text_c _ (gl.mono (by omega))
      have hp : okP s t = (decide (0 < wval t) && decide (decZ (Int.gcd (wval s) (wval t) : Int) = [49])) := by
        unfold okP
        rw [h1, h2, Bool.true_and, Bool.true_and]
        congr 1
        refine decide_eq_decide.2 ⟨fun h => ?_, fun h => ?_⟩
        · rw [show Int.gcd (wval s) (wval t) = 1 from h]; decide
        · have := jbp (Int.gcd (wval s) (wval t) : Int)
          rw [h] at this
          have e49 : wval [49] = 1 := by decide
          rw [e49] at this
          show Int.gcd (wval s) (wval t) = 1
          omega
      rw [hp]
      clear hp gl
      generalize wval s = x at *
      generalize wval t = y at *
      generalize (Int.gcd x y : Int) = g at *
      generalize decZ g = gt at *
      have hy : (decide (y < 0) || decide ((((mg 10000 y.natAbs).length : Nat) : Int) = 0)) = !decide (0 < y) := by
        rw [Bool.eq_iff_iff]
        simp only [Bool.or_eq_true, decide_eq_true_eq, Bool.not_eq_true', decide_eq_false_iff_not]
        constructor
        · rintro (h | h)
          · omega
          · have : mg 10000 y.natAbs = [] := jjG.1 (by omega)
            have := hz.1 this
            omega
        · intro h
          by_cases h0 : y < 0
          · exact .inl h0
          · right
            have : mg 10000 y.natAbs = [] := hz.2 (by omega)
            rw [this]; rfl
      unfold plD at *
      refine V.en tbOk Tryz.func75 ?_
      refine V.u2 r1 r2 ?_
      refine ⟨Pq62z, [], V.pok, ?_⟩
      refine jab [(3, .box 3 0), (4, .box 4 0)] [(3, .box [.bool (decide (x < 0)), .ints .i64 (mg 10000 x.natAbs)]), (4, .box [.bool (decide (y < 0)), .ints .i64 (mg 10000 y.natAbs)])] ?_ ?_
      · exact V.d2 @ji8 i1 i2
      refine V.r0 hy ?_
      refine V.br (fun hq => ?_) (fun hq => ?_)
      · simp only [Bool.not_eq_true', decide_eq_false_iff_not] at hq
        rw [decide_eq_false hq, Bool.false_and]
        (conv => whnf)
        refine V.st ?_
        exact Fin.of rfl
      · simp only [Bool.not_eq_false', decide_eq_true_eq] at hq
        rw [decide_eq_true hq, Bool.true_and]
        refine V.u2 g1 x1 ?_
        exact Fin.of rfl
    · rw [Bool.eq_false_iff.2 h2] at r2
      have hp : okP s t = false := by unfold okP; rw [Bool.eq_false_iff.2 h2, Bool.and_false, Bool.false_and, Bool.false_and]
      rw [hp]
      refine V.en tbOk Tryz.func75 ?_
      refine V.u2 r1 r2 ?_
      exact Fin.of rfl
  · rw [Bool.eq_false_iff.2 h1] at r1
    have hp : okP s t = false := by unfold okP; rw [Bool.eq_false_iff.2 h1, Bool.false_and, Bool.false_and, Bool.false_and]
    rw [hp]
    refine V.en tbOk Tryz.func75 ?_
    refine V.u2 r1 r2 ?_
    refine V.br (fun hq => ?_) (fun hq => ?_)
    · (conv => whnf)
      refine V.st ?_
      exact Fin.of rfl
    · simp at hq
theorem q4_qv {s t:List UInt8}(h:okP s t=true):Q4 151 (qv s t):=by
 obtain⟨h1,h2,h3,h4⟩:=jf1 h
 obtain⟨p1,p2⟩:=jeC h
 exact⟨by rw[p1];exact jd9 h1,by rw[p2];exact(jd9 h2).le (by omega)⟩
theorem jcZ (s t:List UInt8)(h:okP s t=true):Cl 77 [.agg [.str s,.str t]] (raD (qv s t)):=by
 obtain⟨h1,h2,h3,h4⟩:=jf1 h
 obtain⟨p1,p2⟩:=jeC h
 have i1:=in01_c s h1
 have i2:=in01_c t h2
 unfold raD
 rw[p1,p2]
 unfold plD at i1 i2
 rw[decide_eq_false (show ¬ wval t<0 by omega)] at i2
 refine V.en tbOk Tryz.func77 ?_
 (conv=>whnf)
 refine V.st ?_
 refine⟨(V.tk [0,1,3,4] (V.e1 2 [4,3] (V.e1 5 [] (V.tk [6] (V.e1 7 [] .done))))),[],V.pok,.go (jac ?_)⟩
 refine V.u2 i1 i2 ?_
 exact Fin.of rfl
theorem rcheck_c (s t:List UInt8)(hs:s.length≤281474976710656)(ht:t.length≤281474976710656):Cl 36 [.agg [.str s,.str t]] (.int .i64 (if okP s t then 0 else 20)):=by
 have r1:=jaW s t hs ht
 by_cases h:okP s t=true
 ·rw[h] at r1 ⊢
  rw[if_pos rfl]
  refine V.en tbOk Tryz.func36 ?_
  refine V.u1 r1 ?_
  exact Fin.of rfl
 ·rw[if_neg h]
  rw[Bool.eq_false_iff.2 h] at r1
  refine V.en tbOk Tryz.func36 ?_
  refine V.u1 r1 ?_
  exact Fin.of rfl
theorem jaI {s t:List UInt8}(h:okP s t=true):s.length≤281474976710656∧t.length≤281474976710656:=by
 obtain⟨h1,h2,_,_⟩:=jf1 h
 have l1:=(jce h1).1
 have l2:=(jce h2).1
 omega
theorem pow_4 (k:Nat):(10000:Nat)^k=10^(4*k):=by rw[show (10000:Nat)=10^4 from rfl,← Nat.pow_mul]
theorem sm_nat {x:Nat}{k:Nat}(hk:k≤90000000)(h:x<10^(4*k)):(mg 10000 x).length≤90000000:=
 jjd (jax (k:=k) (by omega) (by rw[pow_4];exact h)) hk
theorem sm_fq {n:Nat}{q:Rat}(h:Fq n q)(h6:n≤600):Sm 90000000 q.num∧Sm 90000000 (q.den:Int):=by
 have h2:=h.mono (n:=4*150) (by omega)
 obtain⟨k,hk⟩:∃ k,150=k:=⟨_,rfl⟩
 rw[hk] at h2
 exact⟨sm_nat (by omega) h2.1,by unfold Sm;rw[jjr];exact sm_nat (by omega) h2.2⟩
theorem radd (s t u v:List UInt8)(h:okP s t=true)(g:okP u v=true)(hn:Sm 90000000 (qv s t+qv u v).num)(hd:Sm 90000000 ((qv s t+qv u v).den:Int)):Cl 45 [.agg [.str s,.str t],.agg [.str u,.str v]] (frR (qv s t+qv u v)):=by
 have r1:=jaW s t (jaI h).1 (jaI h).2
 have r2:=jaW u v (jaI g).1 (jaI g).2
 rw[h] at r1
 rw[g] at r2
 have i1:=jcZ s t h
 have i2:=jcZ u v g
 have o:=jgz (qv s t) (qv u v) ((q4_qv h).mono (by omega)) ((q4_qv g).mono (by omega))
 have w:=je4 (qv s t+qv u v) hn hd
 generalize qv s t+qv u v=q at *
 generalize qv s t=q1 at *
 generalize qv u v=q2 at *
 unfold frR at w ⊢
 refine V.en tbOk Tryz.func45 ?_
 refine V.u2 r1 r2 ?_
 refine⟨Pq75z,[],V.pok,.go (jac ?_)⟩
 refine V.u4 i1 i2 o w ?_
 exact Fin.of rfl
theorem rsub (s t u v:List UInt8)(h:okP s t=true)(g:okP u v=true)(hn:Sm 90000000 (qv s t-qv u v).num)(hd:Sm 90000000 ((qv s t-qv u v).den:Int)):Cl 41 [.agg [.str s,.str t],.agg [.str u,.str v]] (frR (qv s t-qv u v)):=by
 have r1:=jaW s t (jaI h).1 (jaI h).2
 have r2:=jaW u v (jaI g).1 (jaI g).2
 rw[h] at r1
 rw[g] at r2
 have i1:=jcZ s t h
 have i2:=jcZ u v g
 have o:=minus02_c (qv s t) (qv u v) ((q4_qv h).mono (by omega)) ((q4_qv g).mono (by omega))
 have w:=je4 (qv s t-qv u v) hn hd
 generalize qv s t-qv u v=q at *
 generalize qv s t=q1 at *
 generalize qv u v=q2 at *
 unfold frR at w ⊢
 refine V.en tbOk Tryz.func41 ?_
 refine V.u2 r1 r2 ?_
 refine⟨Pq75z,[],V.pok,.go (jac ?_)⟩
 refine V.u4 i1 i2 o w ?_
 exact Fin.of rfl
theorem rmul (s t u v:List UInt8)(h:okP s t=true)(g:okP u v=true)(hn:Sm 90000000 (qv s t*qv u v).num)(hd:Sm 90000000 ((qv s t*qv u v).den:Int)):Cl 37 [.agg [.str s,.str t],.agg [.str u,.str v]] (frR (qv s t*qv u v)):=by
 have r1:=jaW s t (jaI h).1 (jaI h).2
 have r2:=jaW u v (jaI g).1 (jaI g).2
 rw[h] at r1
 rw[g] at r2
 have i1:=jcZ s t h
 have i2:=jcZ u v g
 have o:=jgV (qv s t) (qv u v) ((q4_qv h).mono (by omega)) ((q4_qv g).mono (by omega))
 have w:=je4 (qv s t*qv u v) hn hd
 generalize qv s t*qv u v=q at *
 generalize qv s t=q1 at *
 generalize qv u v=q2 at *
 unfold frR at w ⊢
 refine V.en tbOk Tryz.func37 ?_
 refine V.u2 r1 r2 ?_
 refine⟨Pq75z,[],V.pok,.go (jac ?_)⟩
 refine V.u4 i1 i2 o w ?_
 exact Fin.of rfl
theorem zradd {a b:Nat}{p q:Rat}(h:Fq a p)(g:Fq b q)(ha:0<a)(hb:0<b)(hab:a+b+1≤600):Cl 45 [frT p,frT q] (.tup [frT (p+q),.int .i64 0]):=by
 obtain⟨o1,e1⟩:=jaD (h.ok ha (by omega))
 obtain⟨o2,e2⟩:=jaD (g.ok hb (by omega))
 have hs:=h.add g
 have hm:=sm_fq hs (by omega)
 have c:=radd _ _ _ _ o1 o2 (by rw[e1,e2];exact hm.1) (by rw[e1,e2];exact hm.2)
 rw[e1,e2,jc1 (hs.ok (by omega) (by omega))] at c
 exact c
theorem zrsub {a b:Nat}{p q:Rat}(h:Fq a p)(g:Fq b q)(ha:0<a)(hb:0<b)(hab:a+b+1≤600):Cl 41 [frT p,frT q] (.tup [frT (p-q),.int .i64 0]):=by
 obtain⟨o1,e1⟩:=jaD (h.ok ha (by omega))
 obtain⟨o2,e2⟩:=jaD (g.ok hb (by omega))
 have hs:=h.sub g
 have hm:=sm_fq hs (by omega)
 have c:=rsub _ _ _ _ o1 o2 (by rw[e1,e2];exact hm.1) (by rw[e1,e2];exact hm.2)
 rw[e1,e2,jc1 (hs.ok (by omega) (by omega))] at c
 exact c
theorem zrmul {a b:Nat}{p q:Rat}(h:Fq a p)(g:Fq b q)(ha:0<a)(hb:0<b)(hab:a+b+1≤600):Cl 37 [frT p,frT q] (.tup [frT (p*q),.int .i64 0]):=by
 obtain⟨o1,e1⟩:=jaD (h.ok ha (by omega))
 obtain⟨o2,e2⟩:=jaD (g.ok hb (by omega))
 have hs:=h.mul g
 have hm:=sm_fq hs (by omega)
 have c:=rmul _ _ _ _ o1 o2 (by rw[e1,e2];exact hm.1) (by rw[e1,e2];exact hm.2)
 rw[e1,e2,jc1 (hs.ok (by omega) (by omega))] at c
 exact c
theorem decZ_zero (z:Int):decide (decZ z=[48])=decide (z=0):=by
 refine decide_eq_decide.2 ⟨fun h=>?_,fun h=>by rw[h];rfl⟩
 have:=jbp z
 rw[h] at this
 exact this.symm
theorem rdiv_t {p q:Rat}(hp:okF p=true)(hq:okF q=true)(h0:q.num≠0)(hn:Sm 90000000 (p/q).num)(hd:Sm 90000000 ((p/q).den:Int)):Cl 46 [frT p,frT q] (frR (p/q)):=by
 obtain⟨h,e1⟩:=jaD hp
 obtain⟨g,e2⟩:=jaD hq
 have r1:=jaW _ _ (jaI h).1 (jaI h).2
 have r2:=jaW _ _ (jaI g).1 (jaI g).2
 rw[h] at r1
 rw[g] at r2
 have i1:=jcZ _ _ h
 have i2:=jcZ _ _ g
 rw[e1] at i1
 rw[e2] at i2
 have q1:=q4_qv h
 have q2:=q4_qv g
 rw[e1] at q1
 rw[e2] at q2
 have o:=over02_c p q (q1.mono (by omega)) (q2.mono (by omega)) h0
 have w:=je4 (p/q) hn hd
 have hz:decide (decZ q.num=[48])=false:=by rw[decZ_zero];exact decide_eq_false h0
 generalize p/q=r at *
 unfold frR at w ⊢
 unfold frT
 generalize decZ q.num=sq at *
 refine V.en tbOk Tryz.func46 ?_
 refine V.u2 r1 r2 ?_
 refine V.br (fun hq0=>?_) (fun hq0=>?_)
 ·exfalso
  simp at hq0
  rw[hq0] at hz
  simp at hz
 (conv=>whnf)
 refine V.st ?_
 refine⟨Pq75z,[],V.pok,.go (jac ?_)⟩
 refine V.u4 i1 i2 o w ?_
 exact Fin.of rfl
theorem zrdiv {a b:Nat}{p q:Rat}(h:Fq a p)(g:Fq b q)(h0:q.num≠0)(ha:0<a)(hb:0<b)(hab:a+b+1≤600):Cl 46 [frT p,frT q] (.tup [frT (p/q),.int .i64 0]):=by
 have hs:=h.div g h0
 have hm:=sm_fq hs (by omega)
 have c:=rdiv_t (h.ok ha (by omega)) (g.ok hb (by omega)) h0 hm.1 hm.2
 rw[jc1 (hs.ok (by omega) (by omega))] at c
 exact c
theorem y_one:Fq 1 1:=⟨by decide,by decide⟩
theorem y_small {n m:Int}(hn : -9223372036854775807≤n∧n≤9223372036854775807)(hm:1≤m∧m≤9223372036854775807):Fq 20 (Rat.divInt n m):=by
 obtain⟨d,rfl⟩:∃ d:Nat,m=d:=⟨m.toNat,by omega⟩
 exact jbd (by omega) (by omega) (by omega)
theorem y_of {n m:Int}(hn : -9223372036854775807≤n∧n≤9223372036854775807)(hm:1≤m∧m≤9223372036854775807):Cl 102 [.int .i64 n,.int .i64 m] (.tup [frT (Rat.divInt n m),.int .i64 0]):=by
 rw[← jc1 ((y_small hn hm).ok (by omega) (by omega))]
 exact of_c n m (by simp[InR,V.lo,V.hi];omega) (by simp[InR,V.lo,V.hi];omega) (by omega)
theorem y_rof {n m:Int}(hn : -9223372036854775807≤n∧n≤9223372036854775807)(hm:1≤m∧m≤9223372036854775807):Cl 66 [.int .i64 n,.int .i64 m] (.tup [frT (Rat.divInt n m),.int .i64 0]):=by
 rw[← jc1 ((y_small hn hm).ok (by omega) (by omega))]
 exact of02_c n m (by simp[InR,V.lo,V.hi];omega) (by simp[InR,V.lo,V.hi];omega) (by omega)
def sm (f:Nat→Rat):Nat→Rat
 | 0=>0
 | k+1=>sm f k+f k
theorem jbL {f g:Nat→Rat} : ∀ {k:Nat},(∀ i,i<k→f i=g i)→sm f k=sm g k
 | 0,_=>rfl
 | k+1,h=>by
  simp only[sm]
  rw[jbL (k:=k) fun i hi=>h i (by omega),h k (by omega)]
theorem sm_add (f g:Nat→Rat):∀ k,sm (fun i=>f i+g i) k=sm f k+sm g k
 | 0=>by simp only[sm];grind
 | k+1=>by
  simp only[sm]
  rw[sm_add f g k]
  grind
theorem sm_mul (c:Rat)(f:Nat→Rat):∀ k,sm (fun i=>c*f i) k=c*sm f k
 | 0=>by simp only[sm];grind
 | k+1=>by
  simp only[sm]
  rw[sm_mul c f k]
  grind
theorem jez (c:Rat):∀ k:Nat,sm (fun _=>c) k=((k:Int):Rat)*c
 | 0=>by simp[sm]
 | k+1=>by
  simp only[sm]
  rw[jez c k,Int.natCast_add,Rat.intCast_add]
  grind
theorem sm_ind (R:Nat):∀ k,R≤k→sm (fun t=>if t<R then 1 else 0) k=((R:Int):Rat)
 | 0,h=>by
  have:R=0:=by omega
  subst this
  simp[sm]
 | k+1,h=>by
  simp only[sm]
  by_cases e:R=k+1
  ·subst e
   rw[if_pos (by omega),jbL (g:=fun _=>1) fun i hi=>if_pos (by omega),jez,Int.natCast_add,Rat.intCast_add]
   grind
  ·rw[if_neg (by omega),sm_ind R k (by omega)]
   grind
theorem sm_le {f g:Nat→Rat} : ∀ {k:Nat},(∀ i,i<k→f i≤g i)→sm f k≤sm g k
 | 0,_=>Rat.le_refl
 | k+1,h=>by
  simp only[sm]
  have h1:=sm_le (k:=k) fun i hi=>h i (by omega)
  have h2:=h k (by omega)
  grind
theorem lvl {N b R t:Int}(hN:0<N)(h0:0≤R)(h1:R≤N)(t0:0≤t)(t1:t<N):(b*N+R-1-t)/N+1=b+(if t<R then 1 else 0):=by
 by_cases h:t<R
 ·rw[if_pos h,show b*N+R-1-t=(R-1-t)+N*b by rw[jjo];omega,Int.add_mul_ediv_left _ _ (by omega),Int.ediv_eq_zero_of_lt (by omega) (by omega)]
  omega
 ·rw[if_neg h,show b*N+R-1-t=(R-1-t+N)+N*(b-1) by rw[Int.mul_sub,Int.mul_one,jjo];omega,Int.add_mul_ediv_left _ _ (by omega),Int.ediv_eq_zero_of_lt (by omega) (by omega)]
  omega
def lvF (v:Int→Int→Int→Rat)(N:Nat)(P Q R:Int):Rat:=sm (fun t=>v ((P-1-t)/N+1) ((Q-1-t)/N+1) ((R-1-t)/N+1)) N
theorem jej {N A B C:Nat}(hA:A≤N)(hB:B≤A)(hC:C≤B)(v0 v1 v2 v3:Rat) :
  sm (fun t=>if t<C then v3 else if t<B then v2 else if t<A then v1 else v0) N=(((N:Int):Rat)-((A:Int):Rat))*v0+(((A:Int):Rat)-((B:Int):Rat))*v1+(((B:Int):Rat)-((C:Int):Rat))*v2+((C:Int):Rat)*v3:=by
 have e:∀ t,(if t<C then v3 else if t<B then v2 else if t<A then v1 else v0)=v0+((v1-v0)*(if t<A then 1 else 0)+((v2-v1)*(if t<B then 1 else 0)+(v3-v2)*(if t<C then 1 else 0))):=fun t=>by
  by_cases h1:t<C
  ·rw[if_pos h1,if_pos h1,if_pos (show t<B by omega),if_pos (show t<A by omega)];grind
  ·rw[if_neg h1,if_neg h1]
   by_cases h2:t<B
   ·rw[if_pos h2,if_pos h2,if_pos (show t<A by omega)];grind
   ·rw[if_neg h2,if_neg h2]
    by_cases h3:t<A
    ·rw[if_pos h3,if_pos h3];grind
    ·rw[if_neg h3,if_neg h3];grind
 rw[jbL fun t _=>e t,sm_add,sm_add,sm_add,jez,sm_mul,sm_mul,sm_mul,sm_ind A N hA,sm_ind B N (by omega),sm_ind C N (by omega)]
 grind
def ord3 (r0 r1 r2:Rat):List Int:=
 if r0<r1 then (if r0<r2 then (if r1<r2 then [2,1,0] else [1,2,0]) else [1,0,2])
 else (if r1<r2 then (if r0<r2 then [2,0,1] else [0,2,1]) else [0,1,2])
def ord2 (r0 r1:Rat):List Int:=if r0<r1 then [1,0] else [0,1]
def sel (r0 r1 r2:Rat)(i:Int):Rat:=if i=0 then r0 else if i=1 then r1 else r2
def bmp (b:Int×Int×Int)(i:Int):Int×Int×Int:=if i=0 then (b.1+1,b.2.1,b.2.2) else if i=1 then (b.1,b.2.1+1,b.2.2) else (b.1,b.2.1,b.2.2+1)
def vat (v:Int→Int→Int→Rat)(b:Int×Int×Int):Rat:=v b.1 b.2.1 b.2.2
def evO (v:Int→Int→Int→Rat)(b:Int×Int×Int)(r0 r1 r2:Rat)(i j k:Int):Rat:=
 (1-sel r0 r1 r2 i)*vat v b+(sel r0 r1 r2 i-sel r0 r1 r2 j)*vat v (bmp b i)+(sel r0 r1 r2 j-sel r0 r1 r2 k)*vat v (bmp (bmp b i) j)+sel r0 r1 r2 k*vat v (bmp (bmp (bmp b i) j) k)
def evL (v:Int→Int→Int→Rat)(b:Int×Int×Int)(r0 r1 r2:Rat)(o:List Int):Rat:=evO v b r0 r1 r2 (o.getD 0 0) (o.getD 1 0) (o.getD 2 0)
theorem lvlN {N R t:Nat}{b:Int}(hN:0<N)(h1:R≤N)(t1:t<N):(b*N+R-1-t)/N+1=b+(if t<R then 1 else 0):=by
 have h:=lvl (N:=N) (b:=b) (R:=R) (t:=t) (by omega) (by omega) (by omega) (by omega) (by omega)
 rw[h]
 by_cases g:t<R
 ·rw[if_pos g,if_pos (by omega)]
 ·rw[if_neg g,if_neg (by omega)]
theorem jd0 {N:Nat}(h:0<N):((N:Int):Rat)≠0:=by
 intro e
 have:(N:Int)=0:=by exact_mod_cast e
 omega
theorem ev_210 {N A0 A1 A2:Nat}{b0 b1 b2:Int}(hN:0<N)(hA:A2≤N)(hB:A1≤A2)(hC:A0≤A1)(v:Int→Int→Int→Rat) :
  ((N:Int):Rat)*evO v (b0,b1,b2) (((A0:Int):Rat)/((N:Int):Rat)) (((A1:Int):Rat)/((N:Int):Rat)) (((A2:Int):Rat)/((N:Int):Rat)) 2 1 0=lvF v N (b0*N+A0) (b1*N+A1) (b2*N+A2):=by
 have hz:=jd0 hN
 have key:=jej hA hB hC (v b0 b1 b2) (v b0 b1 (b2+1)) (v b0 (b1+1) (b2+1)) (v (b0+1) (b1+1) (b2+1))
 unfold lvF
 rw[jbL (g:=fun t=>if t<A0 then v (b0+1) (b1+1) (b2+1) else if t<A1 then v b0 (b1+1) (b2+1) else if t<A2 then v b0 b1 (b2+1) else v b0 b1 b2) fun t ht=>by
  rw[lvlN hN (show A0≤N by omega) ht,lvlN hN (show A1≤N by omega) ht,lvlN hN (show A2≤N by omega) ht]
  by_cases h1:t<A0
  ·rw[if_pos h1,if_pos h1,if_pos (show t<A2 by omega),if_pos (show t<A1 by omega)]
  ·by_cases h2:t<A1
   ·rw[if_neg h1,if_neg h1,if_pos h2,if_pos h2,if_pos (show t<A2 by omega)]
    simp only[jjv]
   ·by_cases h3:t<A2
    ·rw[if_neg h1,if_neg h1,if_neg h2,if_neg h2,if_pos h3,if_pos h3]
     simp only[jjv]
    ·rw[if_neg h1,if_neg h1,if_neg h2,if_neg h2,if_neg h3,if_neg h3]
     simp only[jjv],key]
 simp only[evO,sel,bmp,vat]
 simp
 generalize v b0 b1 b2=w0
 generalize v b0 b1 (b2+1)=w1
 generalize v b0 (b1+1) (b2+1)=w2
 generalize v (b0+1) (b1+1) (b2+1)=w3
 grind
theorem ev_120 {N A0 A1 A2:Nat}{b0 b1 b2:Int}(hN:0<N)(hA:A1≤N)(hB:A2≤A1)(hC:A0≤A2)(v:Int→Int→Int→Rat) :
  ((N:Int):Rat)*evO v (b0,b1,b2) (((A0:Int):Rat)/((N:Int):Rat)) (((A1:Int):Rat)/((N:Int):Rat)) (((A2:Int):Rat)/((N:Int):Rat)) 1 2 0=lvF v N (b0*N+A0) (b1*N+A1) (b2*N+A2):=by
 have hz:=jd0 hN
 have key:=jej hA hB hC (v b0 b1 b2) (v b0 (b1+1) b2) (v b0 (b1+1) (b2+1)) (v (b0+1) (b1+1) (b2+1))
 unfold lvF
 rw[jbL (g:=fun t=>if t<A0 then v (b0+1) (b1+1) (b2+1) else if t<A2 then v b0 (b1+1) (b2+1) else if t<A1 then v b0 (b1+1) b2 else v b0 b1 b2) fun t ht=>by
  rw[lvlN hN (show A0≤N by omega) ht,lvlN hN (show A1≤N by omega) ht,lvlN hN (show A2≤N by omega) ht]
  by_cases h1:t<A0
  ·rw[if_pos h1,if_pos h1,if_pos (show t<A1 by omega),if_pos (show t<A2 by omega)]
  ·by_cases h2:t<A2
   ·rw[if_neg h1,if_neg h1,if_pos h2,if_pos h2,if_pos (show t<A1 by omega)]
    simp only[jjv]
   ·by_cases h3:t<A1
    ·rw[if_neg h1,if_neg h1,if_neg h2,if_neg h2,if_pos h3,if_pos h3]
     simp only[jjv]
    ·rw[if_neg h1,if_neg h1,if_neg h2,if_neg h2,if_neg h3,if_neg h3]
     simp only[jjv],key]
 simp only[evO,sel,bmp,vat]
 simp
 generalize v b0 b1 b2=w0
 generalize v b0 (b1+1) b2=w1
 generalize v b0 (b1+1) (b2+1)=w2
 generalize v (b0+1) (b1+1) (b2+1)=w3
 grind
theorem ev_102 {N A0 A1 A2:Nat}{b0 b1 b2:Int}(hN:0<N)(hA:A1≤N)(hB:A0≤A1)(hC:A2≤A0)(v:Int→Int→Int→Rat) :
  ((N:Int):Rat)*evO v (b0,b1,b2) (((A0:Int):Rat)/((N:Int):Rat)) (((A1:Int):Rat)/((N:Int):Rat)) (((A2:Int):Rat)/((N:Int):Rat)) 1 0 2=lvF v N (b0*N+A0) (b1*N+A1) (b2*N+A2):=by
 have hz:=jd0 hN
 have key:=jej hA hB hC (v b0 b1 b2) (v b0 (b1+1) b2) (v (b0+1) (b1+1) b2) (v (b0+1) (b1+1) (b2+1))
 unfold lvF
 rw[jbL (g:=fun t=>if t<A2 then v (b0+1) (b1+1) (b2+1) else if t<A0 then v (b0+1) (b1+1) b2 else if t<A1 then v b0 (b1+1) b2 else v b0 b1 b2) fun t ht=>by
  rw[lvlN hN (show A0≤N by omega) ht,lvlN hN (show A1≤N by omega) ht,lvlN hN (show A2≤N by omega) ht]
  by_cases h1:t<A2
  ·rw[if_pos h1,if_pos h1,if_pos (show t<A1 by omega),if_pos (show t<A0 by omega)]
  ·by_cases h2:t<A0
   ·rw[if_neg h1,if_neg h1,if_pos h2,if_pos h2,if_pos (show t<A1 by omega)]
    simp only[jjv]
   ·by_cases h3:t<A1
    ·rw[if_neg h1,if_neg h1,if_neg h2,if_neg h2,if_pos h3,if_pos h3]
     simp only[jjv]
    ·rw[if_neg h1,if_neg h1,if_neg h2,if_neg h2,if_neg h3,if_neg h3]
     simp only[jjv],key]
 simp only[evO,sel,bmp,vat]
 simp
 generalize v b0 b1 b2=w0
 generalize v b0 (b1+1) b2=w1
 generalize v (b0+1) (b1+1) b2=w2
 generalize v (b0+1) (b1+1) (b2+1)=w3
 grind
theorem ev_201 {N A0 A1 A2:Nat}{b0 b1 b2:Int}(hN:0<N)(hA:A2≤N)(hB:A0≤A2)(hC:A1≤A0)(v:Int→Int→Int→Rat) :
  ((N:Int):Rat)*evO v (b0,b1,b2) (((A0:Int):Rat)/((N:Int):Rat)) (((A1:Int):Rat)/((N:Int):Rat)) (((A2:Int):Rat)/((N:Int):Rat)) 2 0 1=lvF v N (b0*N+A0) (b1*N+A1) (b2*N+A2):=by
 have hz:=jd0 hN
 have key:=jej hA hB hC (v b0 b1 b2) (v b0 b1 (b2+1)) (v (b0+1) b1 (b2+1)) (v (b0+1) (b1+1) (b2+1))
 unfold lvF
 rw[jbL (g:=fun t=>if t<A1 then v (b0+1) (b1+1) (b2+1) else if t<A0 then v (b0+1) b1 (b2+1) else if t<A2 then v b0 b1 (b2+1) else v b0 b1 b2) fun t ht=>by
  rw[lvlN hN (show A0≤N by omega) ht,lvlN hN (show A1≤N by omega) ht,lvlN hN (show A2≤N by omega) ht]
  by_cases h1:t<A1
  ·rw[if_pos h1,if_pos h1,if_pos (show t<A2 by omega),if_pos (show t<A0 by omega)]
  ·by_cases h2:t<A0
   ·rw[if_neg h1,if_neg h1,if_pos h2,if_pos h2,if_pos (show t<A2 by omega)]
    simp only[jjv]
   ·by_cases h3:t<A2
    ·rw[if_neg h1,if_neg h1,if_neg h2,if_neg h2,if_pos h3,if_pos h3]
     simp only[jjv]
    ·rw[if_neg h1,if_neg h1,if_neg h2,if_neg h2,if_neg h3,if_neg h3]
     simp only[jjv],key]
 simp only[evO,sel,bmp,vat]
 simp
 generalize v b0 b1 b2=w0
 generalize v b0 b1 (b2+1)=w1
 generalize v (b0+1) b1 (b2+1)=w2
 generalize v (b0+1) (b1+1) (b2+1)=w3
 grind
theorem ev_021 {N A0 A1 A2:Nat}{b0 b1 b2:Int}(hN:0<N)(hA:A0≤N)(hB:A2≤A0)(hC:A1≤A2)(v:Int→Int→Int→Rat) :
  ((N:Int):Rat)*evO v (b0,b1,b2) (((A0:Int):Rat)/((N:Int):Rat)) (((A1:Int):Rat)/((N:Int):Rat)) (((A2:Int):Rat)/((N:Int):Rat)) 0 2 1=lvF v N (b0*N+A0) (b1*N+A1) (b2*N+A2):=by
 have hz:=jd0 hN
 have key:=jej hA hB hC (v b0 b1 b2) (v (b0+1) b1 b2) (v (b0+1) b1 (b2+1)) (v (b0+1) (b1+1) (b2+1))
 unfold lvF
 rw[jbL (g:=fun t=>if t<A1 then v (b0+1) (b1+1) (b2+1) else if t<A2 then v (b0+1) b1 (b2+1) else if t<A0 then v (b0+1) b1 b2 else v b0 b1 b2) fun t ht=>by
  rw[lvlN hN (show A0≤N by omega) ht,lvlN hN (show A1≤N by omega) ht,lvlN hN (show A2≤N by omega) ht]
  by_cases h1:t<A1
  ·rw[if_pos h1,if_pos h1,if_pos (show t<A0 by omega),if_pos (show t<A2 by omega)]
  ·by_cases h2:t<A2
   ·rw[if_neg h1,if_neg h1,if_pos h2,if_pos h2,if_pos (show t<A0 by omega)]
    simp only[jjv]
   ·by_cases h3:t<A0
    ·rw[if_neg h1,if_neg h1,if_neg h2,if_neg h2,if_pos h3,if_pos h3]
     simp only[jjv]
    ·rw[if_neg h1,if_neg h1,if_neg h2,if_neg h2,if_neg h3,if_neg h3]
     simp only[jjv],key]
 simp only[evO,sel,bmp,vat]
 simp
 generalize v b0 b1 b2=w0
 generalize v (b0+1) b1 b2=w1
 generalize v (b0+1) b1 (b2+1)=w2
 generalize v (b0+1) (b1+1) (b2+1)=w3
 grind
theorem ev_012 {N A0 A1 A2:Nat}{b0 b1 b2:Int}(hN:0<N)(hA:A0≤N)(hB:A1≤A0)(hC:A2≤A1)(v:Int→Int→Int→Rat) :
  ((N:Int):Rat)*evO v (b0,b1,b2) (((A0:Int):Rat)/((N:Int):Rat)) (((A1:Int):Rat)/((N:Int):Rat)) (((A2:Int):Rat)/((N:Int):Rat)) 0 1 2=lvF v N (b0*N+A0) (b1*N+A1) (b2*N+A2):=by
 have hz:=jd0 hN
 have key:=jej hA hB hC (v b0 b1 b2) (v (b0+1) b1 b2) (v (b0+1) (b1+1) b2) (v (b0+1) (b1+1) (b2+1))
 unfold lvF
 rw[jbL (g:=fun t=>if t<A2 then v (b0+1) (b1+1) (b2+1) else if t<A1 then v (b0+1) (b1+1) b2 else if t<A0 then v (b0+1) b1 b2 else v b0 b1 b2) fun t ht=>by
  rw[lvlN hN (show A0≤N by omega) ht,lvlN hN (show A1≤N by omega) ht,lvlN hN (show A2≤N by omega) ht]
  by_cases h1:t<A2
  ·rw[if_pos h1,if_pos h1,if_pos (show t<A0 by omega),if_pos (show t<A1 by omega)]
  ·by_cases h2:t<A1
   ·rw[if_neg h1,if_neg h1,if_pos h2,if_pos h2,if_pos (show t<A0 by omega)]
    simp only[jjv]
   ·by_cases h3:t<A0
    ·rw[if_neg h1,if_neg h1,if_neg h2,if_neg h2,if_pos h3,if_pos h3]
     simp only[jjv]
    ·rw[if_neg h1,if_neg h1,if_neg h2,if_neg h2,if_neg h3,if_neg h3]
     simp only[jjv],key]
 simp only[evO,sel,bmp,vat]
 simp
 generalize v b0 b1 b2=w0
 generalize v (b0+1) b1 b2=w1
 generalize v (b0+1) (b1+1) b2=w2
 generalize v (b0+1) (b1+1) (b2+1)=w3
 grind
theorem rlt {N A B:Nat}(hN:0<N):(((A:Int):Rat)/((N:Int):Rat)<((B:Int):Rat)/((N:Int):Rat))↔A<B:=by
 have h1:(0:Rat)<((N:Int):Rat):=by exact_mod_cast (show (0:Int)<N by omega)
 rw[Rat.div_lt_iff h1,Rat.div_mul_cancel (jd0 hN)]
 constructor
 ·intro h
  have:(A:Int)<B:=by exact_mod_cast h
  omega
 ·intro h
  exact_mod_cast (show (A:Int)<B by omega)
theorem ev_main {N A0 A1 A2:Nat}{b0 b1 b2:Int}(hN:0<N)(h0:A0≤N)(h1:A1≤N)(h2:A2≤N)(v:Int→Int→Int→Rat) :
  ((N:Int):Rat)*evL v (b0,b1,b2) (((A0:Int):Rat)/((N:Int):Rat)) (((A1:Int):Rat)/((N:Int):Rat)) (((A2:Int):Rat)/((N:Int):Rat)) (ord3 (((A0:Int):Rat)/((N:Int):Rat)) (((A1:Int):Rat)/((N:Int):Rat)) (((A2:Int):Rat)/((N:Int):Rat)))=lvF v N (b0*N+A0) (b1*N+A1) (b2*N+A2):=by
 unfold ord3
 simp only[rlt hN]
 by_cases c1:A0<A1
 ·rw[if_pos c1]
  by_cases c2:A0<A2
  ·rw[if_pos c2]
   by_cases c3:A1<A2
   ·rw[if_pos c3]
    exact ev_210 hN h2 (by omega) (by omega) v
   ·rw[if_neg c3]
    exact ev_120 hN h1 (by omega) (by omega) v
  ·rw[if_neg c2]
   exact ev_102 hN h1 (by omega) (by omega) v
 ·rw[if_neg c1]
  by_cases c3:A1<A2
  ·rw[if_pos c3]
   by_cases c2:A0<A2
   ·rw[if_pos c2]
    exact ev_201 hN h2 (by omega) (by omega) v
   ·rw[if_neg c2]
    exact ev_021 hN h0 (by omega) (by omega) v
  ·rw[if_neg c3]
   exact ev_012 hN h0 (by omega) (by omega) v
theorem split_N {N:Nat}(hN:0<N)(P:Int):∃ (b:Int) (A:Nat),A<N∧P=b*N+A:=by
 have h1:=ji4 P (show (N:Int)≠0 by omega)
 have h2:=jju P (show (0:Int)<N by omega)
 have h3:=Int.mul_ediv_add_emod P N
 refine⟨P/N,(P%N).toNat,by omega,?_⟩
 rw[jja h1,jjo]
 omega
theorem lv_le {N:Nat}{v w:Int→Int→Int→Rat}{P Q R:Int}(h:∀ i j k:Int,(∃ t:Nat,t<N∧i=(P-1-t)/N+1∧j=(Q-1-t)/N+1∧k=(R-1-t)/N+1)→v i j k≤w i j k):lvF v N P Q R≤lvF w N P Q R:=
 sm_le fun t ht=>h _ _ _ ⟨t,ht,rfl,rfl,rfl⟩
theorem lv_const (c:Rat)(N:Nat)(P Q R:Int):lvF (fun _ _ _=>c) N P Q R=((N:Int):Rat)*c:=jez c N
theorem lvl_in {N t:Nat}{P m:Int}(hN:0<N)(ht:t<N)(h0:0≤P)(h1:P≤m*N):0≤(P-1-t)/N+1∧(P-1-t)/N+1≤m:=by
 have hN':(0:Int)<N:=by omega
 constructor
 ·have : -1≤(P-1-t)/N:=(Int.le_ediv_iff_mul_le hN').2 (by omega)
  omega
 ·have:(P-1-t)/N<m:=(Int.ediv_lt_iff_lt_mul hN').2 (by omega)
  omega
theorem at_N {N:Nat}{p:Rat}{P s:Int}(hN:0<N)(hP:(P:Rat)=((N:Int):Rat)*p)(h0:0≤P)(h1:P≤(s-1)*N)(hs:2≤s) :
  ∃ A:Nat,A≤N∧P=(min p.floor (s-2))*N+A∧p-((min p.floor (s-2):Int):Rat)=((A:Int):Rat)/((N:Int):Rat)∧0≤min p.floor (s-2):=by
 obtain⟨b,B,hB,e⟩:=split_N hN P
 have hz:=jd0 hN
 have hNp:(0:Rat)<((N:Int):Rat):=by exact_mod_cast (show (0:Int)<N by omega)
 have hp:p=(P:Rat)/((N:Int):Rat):=by
  rw[hP]
  grind
 have hf:p.floor=b:=by
  have l1:(b:Rat)≤p:=by
   rw[← Rat.not_lt,hp,Rat.div_lt_iff hNp,Rat.not_lt]
   rw[e,Rat.intCast_add,jjD]
   have:(0:Rat)≤((B:Int):Rat):=by exact_mod_cast (show (0:Int)≤B by omega)
   grind
  have l2:p<((b+1:Int):Rat):=by
   rw[hp,Rat.div_lt_iff hNp,e,Rat.intCast_add,jjD,Rat.intCast_add]
   have:((B:Int):Rat)<((N:Int):Rat):=by exact_mod_cast (show (B:Int)<N by omega)
   grind
  have g1:=Rat.le_floor_iff.2 l1
  have g2:=Rat.floor_lt_iff.2 l2
  omega
 have b0:0≤b:=by
  rcases Int.lt_or_le b 0 with h|h
  ·exfalso
   have:b*N ≤ -1*N:=jji (by omega) (by omega)
   omega
  ·exact h
 rw[hf]
 by_cases hm:b≤s-2
 ·rw[show min b (s-2)=b by omega]
  refine⟨B,by omega,e,?_,b0⟩
  rw[hp,e,Rat.intCast_add,jjD]
  grind
 ·have hb:b=s-1:=by
   have:(s-1)*(N:Int)≤b*N:=jji (by omega) (by omega)
   rcases Int.lt_or_le (s-1) b with h|h
   ·exfalso
    have:(s-1+1)*(N:Int)≤b*N:=jji (by omega) (by omega)
    rw[jjx,jjy] at this
    omega
   ·omega
  have hB0:B=0:=by
   rw[hb] at e
   omega
  rw[show min b (s-2)=s-2 by omega]
  refine⟨N,by omega,?_,?_,by omega⟩
  ·rw[e,hb,hB0,show s-1=(s-2)+1 by omega,jjx,jjy]
   omega
  ·rw[hp,e,hb,hB0,show s-1=(s-2)+1 by omega,Rat.intCast_add,jjD,Rat.intCast_add]
   grind
end Go.Proofs.YtbnghipgicmpdaaGreatDoor
end
