/- What functions of the program answer at given values, part 10. Conditions: those that each theorem names. -/
import Derived.Test.YtpkdedncgclblaaGreatDoorProgramRunsH9
import Derived.Test.YtpkdedncgclblaaGreatDoorProgramRunsH7
import Derived.Test.YtpkdedncgclblaaGreatDoorProgramRunsH6
set_option linter.unusedSimpArgs false
set_option linter.unusedVariables false
set_option maxHeartbeats 8000000
set_option maxRecDepth 100000
section
namespace Go.Proofs.YtpkdedncgclblaaGreatDoor
open Go Go.V Go.Nb
def S9 (k:Nat)(z:Int):Prop:=(mg 1000000000 z.natAbs).length≤k
theorem S9.mono {k l:Nat}{z:Int}(h:S9 k z)(hl:k≤l):S9 l z:=jiC h hl
theorem S9.neg {k:Nat}{z:Int}(h:S9 k z):S9 k (-z):=by unfold S9 at *; rw[Int.natAbs_neg];exact h
theorem S9.le {k:Nat}{y z:Int}(h:S9 k z)(hy:y.natAbs≤z.natAbs):S9 k y:=jiC (jae (by omega) hy) h
theorem S9.mul {k l:Nat}{y z:Int}(h:S9 k y)(h2:S9 l z):S9 (k+l) (y*z):=by
 unfold S9 at *
 rw[Int.natAbs_mul]
 have:=jbX (B:=1000000000) (by omega) y.natAbs z.natAbs
 omega
theorem S9.add {k:Nat}{y z:Int}(h:S9 k y)(h2:S9 k z):S9 (k+1) (y+z):=by
 unfold S9 at *
 have h3:=jc3 (B:=1000000000) (by omega) y.natAbs z.natAbs
 have h4:=jae (B:=1000000000) (by omega) (Int.natAbs_add_le y z)
 omega
theorem S9.lit {k:Nat}{z:Int}(h:z.natAbs<1000000000^k):S9 k z:=jap (by omega) h
theorem S9.nat {k:Nat}{n:Nat} : S9 k (n:Int)↔(mg 1000000000 n).length≤k:=by unfold S9;rw[jiQ]
theorem sum_c9 (x y:Int)(hx:S9 90000000 x)(hy:S9 90000000 y):Cl 219 [itD x,itD y] (itD (x+y)):=by
 unfold S9 at hx hy
 have hl:=jc3 (B:=1000000000) (by omega) x.natAbs y.natAbs
 have hs:=plus_m x.natAbs y.natAbs (by omega) (by omega)
 have ho:=jcw x.natAbs y.natAbs (by omega) (by omega)
 rw[show itD x = .agg [.ints .u32 (mg 1000000000 x.natAbs),.bool (decide (x<0))] from rfl,show itD y = .agg [.ints .u32 (mg 1000000000 y.natAbs),.bool (decide (y<0))] from rfl]
 refine V.en tbOk Tryz.func219 ?_
 (conv=>whnf)
 refine V.st ?_
 refine V.br (fun hq=>?_) (fun hq=>?_)
 ·rw[beq_iff_eq,decide_eq_decide] at hq
  have hm:=ja2 (x.natAbs+y.natAbs) (decide (x<0))
  have e:(if decide (x<0)=true then -((x.natAbs+y.natAbs:Nat):Int) else ((x.natAbs+y.natAbs:Nat):Int))=x+y:=by
   by_cases h:x<0
   ·simp[h];omega
   ·simp[h];omega
  rw[e] at hm
  (conv=>whnf)
  refine V.st ?_
  refine⟨Pq33z,[],V.pok,.go (jab ?_)⟩
  (conv=>whnf)
  refine V.st ?_
  repeat ((try ((with_reducible refine .ext ?_);(conv=>whnf)));(with_reducible refine jaa (r:=?_) ?_ ?_);rotate_left;(focus (first|exact(hs)|exact(hm)));(conv=>whnf);refine V.st ?_)
  exact Fin.of rfl
 ·have hq':¬ (x<0↔y<0):=fun h=>by rw[beq_eq_false_iff_ne] at hq;exact hq (decide_eq_decide.2 h)
  (conv=>whnf)
  refine V.st ?_
  repeat ((try ((with_reducible refine .ext ?_);(conv=>whnf)));(with_reducible refine jaa (r:=?_) ?_ ?_);rotate_left;(focus (first|exact(ho)));(conv=>whnf);refine V.st ?_)
  refine V.br (fun hq2=>?_) (fun hq2=>?_)
  ·rw[decide_eq_true_eq] at hq2
   have hq3:=Int.neg_of_sign_eq_neg_one (a:=((x.natAbs:Int)-y.natAbs)) (by have:=Int.sign_trichotomy ((x.natAbs:Int)-y.natAbs);omega)
   have hd:=minus_m y.natAbs x.natAbs (by omega) (by omega)
   have hm:=ja2 (y.natAbs-x.natAbs) (decide (y<0))
   have e:(if decide (y<0)=true then -((y.natAbs-x.natAbs:Nat):Int) else ((y.natAbs-x.natAbs:Nat):Int))=x+y:=by
    by_cases h:y<0
    ·simp[h];omega
    ·simp[h];omega
   rw[e] at hm
   (conv=>whnf)
   refine V.st ?_
   refine⟨Pq33z,[],V.pok,.go (jab ?_)⟩
   (conv=>whnf)
   refine V.st ?_
   repeat ((try ((with_reducible refine .ext ?_);(conv=>whnf)));(with_reducible refine jaa (r:=?_) ?_ ?_);rotate_left;(focus (first|exact(hd)|exact(hm)));(conv=>whnf);refine V.st ?_)
   exact Fin.of rfl
  ·rw[decide_eq_false_iff_not] at hq2
   have hq3:¬ ((x.natAbs:Int)-y.natAbs)<0:=fun h=>hq2 (by rw[jiX h];decide)
   have hd:=minus_m x.natAbs y.natAbs (by omega) (by omega)
   have hm:=ja2 (x.natAbs-y.natAbs) (decide (x<0))
   have e:(if decide (x<0)=true then -((x.natAbs-y.natAbs:Nat):Int) else ((x.natAbs-y.natAbs:Nat):Int))=x+y:=by
    by_cases h:x<0
    ·simp[h];omega
    ·simp[h];omega
   rw[e] at hm
   (conv=>whnf)
   refine V.st ?_
   refine⟨Pq33z,[],V.pok,.go (jab ?_)⟩
   (conv=>whnf)
   refine V.st ?_
   repeat ((try ((with_reducible refine .ext ?_);(conv=>whnf)));(with_reducible refine jaa (r:=?_) ?_ ?_);rotate_left;(focus (first|exact(hd)|exact(hm)));(conv=>whnf);refine V.st ?_)
   exact Fin.of rfl
theorem jds (x:Int)(d:Nat)(hx:S9 90000000 x)(hd:(mg 1000000000 d).length≤90000000):Cl 218 [itD x,.ints .u32 (mg 1000000000 d)] (itD (x*d)):=by
 unfold S9 at hx
 have ht:=jcO x.natAbs d (by omega) (by omega)
 have hm:=ja2 (x.natAbs*d) (decide (x<0))
 have e:(if decide (x<0)=true then -((x.natAbs*d:Nat):Int) else ((x.natAbs*d:Nat):Int))=x*d:=by
  rw[jiL]
  by_cases h:x<0
  ·have e2:(x.natAbs:Int) = -x:=by omega
   rw[e2,decide_eq_true h,if_pos rfl,Int.neg_mul,Int.neg_neg]
  ·have e2:(x.natAbs:Int)=x:=by omega
   rw[e2];simp[h]
 rw[e] at hm
 refine V.en tbOk Tryz.func218 ?_
 (conv=>whnf)
 refine V.st ?_
 refine⟨(V.tk [0,1,2,4,5] (V.e1 3 [5,4] (V.e1 6 [] (V.e1 7 [] .done)))),[],V.pok,.go (jab ?_)⟩
 (conv=>whnf)
 refine V.st ?_
 repeat ((try ((with_reducible refine .ext ?_);(conv=>whnf)));(with_reducible refine jaa (r:=?_) ?_ ?_);rotate_left;(focus (first|exact(ht)|exact(hm)));(conv=>whnf);refine V.st ?_)
 exact Fin.of rfl
theorem jfJ (x:Int):Cl 221 [itD x] (itD (-x)):=by
 have hm:=ja2 x.natAbs (!decide (x<0))
 have e:(if (!decide (x<0))=true then -(x.natAbs:Int) else (x.natAbs:Int)) = -x:=by
  by_cases h:x<0
  ·simp[h];omega
  ·simp[h];omega
 rw[e] at hm
 refine V.en tbOk Tryz.func221 ?_
 (conv=>whnf)
 refine V.st ?_
 repeat ((try ((with_reducible refine .ext ?_);(conv=>whnf)));(with_reducible refine jaa (r:=?_) ?_ ?_);rotate_left;(focus (first|exact(hm)));(conv=>whnf);refine V.st ?_)
 exact Fin.of rfl
theorem sign_c (x:Int):Cl 158 [itD x] (.int .i64 x.sign):=by
 have hz:=jd7 x.natAbs
 refine V.en tbOk Tryz.func158 ?_
 (conv=>whnf)
 refine V.st ?_
 repeat ((try ((with_reducible refine .ext ?_);(conv=>whnf)));(with_reducible refine jaa (r:=?_) ?_ ?_);rotate_left;(focus (first|exact(hz)));(conv=>whnf);refine V.st ?_)
 refine V.br (fun hq=>?_) (fun hq=>?_)
 ·rw[decide_eq_true_eq] at hq
  (conv=>whnf)
  refine V.st ?_
  exact Fin.of (by rw[show x=0 by omega];rfl)
 ·rw[decide_eq_false_iff_not] at hq
  (conv=>whnf)
  refine V.st ?_
  refine V.br (fun hq2=>?_) (fun hq2=>?_)
  ·rw[decide_eq_true_eq] at hq2
   (conv=>whnf)
   refine V.st ?_
   exact Fin.of (by rw[jiX hq2])
  ·rw[decide_eq_false_iff_not] at hq2
   (conv=>whnf)
   refine V.st ?_
   exact Fin.of (by rw[jiY (by omega)])
theorem jgg (x y:Rat)(hx:S9 40000000 x.num)(hy:S9 40000000 y.num)(hxd:(mg 1000000000 x.den).length≤40000000)(hyd:(mg 1000000000 y.den).length≤40000000):Cl 175 [rtD x,rtD y] (.int .i64 (ordQ x y)):=by
 have s1:=jds x.num y.den (hx.mono (by omega)) (by omega)
 have s2:=jds y.num x.den (hy.mono (by omega)) (by omega)
 have s3:=jfJ (y.num*x.den)
 have z1:S9 80000000 (x.num*y.den):=hx.mul (S9.nat.2 hyd)
 have z2:S9 80000000 (y.num*x.den):=hy.mul (S9.nat.2 hxd)
 have s4:=sum_c9 (x.num*y.den) (-(y.num*x.den)) (z1.mono (by omega)) (z2.neg.mono (by omega))
 have s5:=sign_c (x.num*y.den + -(y.num*x.den))
 rw[jeN] at s5
 refine V.en tbOk Tryz.func175 ?_
 (conv=>whnf)
 refine V.st ?_
 refine⟨(V.tk [0,1,2,3,5,6,7,8] (V.e1 4 [8,7,6,5] (V.e1 9 [] (V.e1 10 [] (V.e1 11 [] (V.e1 12 [] (V.tk [13] .done))))))),[],V.pok,.go (jab ?_)⟩
 (conv=>whnf)
 refine V.st ?_
 repeat ((try ((with_reducible refine .ext ?_);(conv=>whnf)));(with_reducible refine jaa (r:=?_) ?_ ?_);rotate_left;(focus (first|exact(s1)|exact(s2)|exact(s3)|exact(s4)|exact(s5)));(conv=>whnf);refine V.st ?_)
 exact Fin.of rfl
theorem floor_neg (x:Int)(d:Nat)(hx:x<0)(hd:0<d):x/(d:Int)=if x.natAbs%d=0 then -((x.natAbs/d:Nat):Int) else -((x.natAbs/d+1:Nat):Int):=by
 have h1:=Nat.div_add_mod x.natAbs d
 have h2:=jiF x.natAbs hd
 have e:x = -(x.natAbs:Int):=by omega
 generalize x.natAbs=n at *
 generalize hq:n/d=q at *
 generalize hr:n%d=r at *
 subst e
 have h3:((d*q+r:Nat):Int)=(n:Int):=by rw[h1]
 rw[Int.natCast_add,jiL] at h3
 split
 ·rename_i h
  subst h
  rw[← h3,Int.natCast_zero,Int.add_zero,← Int.mul_neg,Int.mul_ediv_cancel_left _ (by omega)]
 ·rw[Int.natCast_add,Int.natCast_one]
  refine(Int.ediv_eq_iff_of_pos (by omega)).2 ⟨?_,?_⟩
  ·rw[← h3,Int.neg_mul,jiV,jiN (q:Int)];omega
  ·rw[← h3,Int.neg_mul,jiV,jiN (q:Int)];omega
theorem floor_c (x:Int)(d:Nat)(hd:0<d)(hx:S9 80000000 x)(hdl:(mg 1000000000 d).length≤80000000):Cl 251 [itD x,.ints .u32 (mg 1000000000 d)] (itD (x/d)):=by
 unfold S9 at hx
 have h1:=jbe x.natAbs d hd (by omega) (by omega)
 have h2:=jd7 (x.natAbs%d)
 have hl2:=jae (B:=1000000000) (by omega) (jiS x.natAbs d)
 have h3:=plus_m (x.natAbs/d) 1 (by omega) (by decide)
 have h4:=ja2 (x.natAbs/d+1) (decide (x<0))
 have h5:=ja2 (x.natAbs/d) (decide (x<0))
 by_cases hx0:x<0
 ·rw[floor_neg x d hx0 hd]
  rw[show itD x = .agg [.ints .u32 (mg 1000000000 x.natAbs),.bool (decide (x<0))] from rfl]
  rw[decide_eq_true hx0] at h4 h5 ⊢
  rw[if_pos rfl] at h4 h5
  refine V.en tbOk Tryz.func251 ?_
  (conv=>whnf)
  refine V.st ?_
  repeat ((try ((with_reducible refine .ext ?_);(conv=>whnf)));(with_reducible refine jaa (r:=?_) ?_ ?_);rotate_left;(focus (first|exact(h1)|exact(h2)));(conv=>whnf);refine V.st ?_)
  refine V.br (fun hq=>?_) (fun hq=>?_)
  ·simp only[Bool.true_and,Bool.not_eq_true',decide_eq_false_iff_not] at hq
   rw[if_neg hq]
   (conv=>whnf)
   refine V.st ?_
   repeat ((try ((with_reducible refine .ext ?_);(conv=>whnf)));(with_reducible refine jaa (r:=?_) ?_ ?_);rotate_left;(focus (first|exact(h3)|exact(h4)));(conv=>whnf);refine V.st ?_)
   exact Fin.of rfl
  ·simp only[Bool.true_and,Bool.not_eq_false',decide_eq_true_eq] at hq
   rw[if_pos hq]
   (conv=>whnf)
   refine V.st ?_
   repeat ((try ((with_reducible refine .ext ?_);(conv=>whnf)));(with_reducible refine jaa (r:=?_) ?_ ?_);rotate_left;(focus (first|exact(h5)));(conv=>whnf);refine V.st ?_)
   exact Fin.of rfl
 ·have e:x/(d:Int)=((x.natAbs/d:Nat):Int):=by
   rw[Int.natCast_ediv];congr 1;omega
  rw[e]
  rw[show itD x = .agg [.ints .u32 (mg 1000000000 x.natAbs),.bool (decide (x<0))] from rfl]
  rw[decide_eq_false hx0] at h5 ⊢
  rw[if_neg (by simp)] at h5
  refine V.en tbOk Tryz.func251 ?_
  (conv=>whnf)
  refine V.st ?_
  repeat ((try ((with_reducible refine .ext ?_);(conv=>whnf)));(with_reducible refine jaa (r:=?_) ?_ ?_);rotate_left;(focus (first|exact(h1)|exact(h2)));(conv=>whnf);refine V.st ?_)
  refine V.br (fun hq=>?_) (fun hq=>?_)
  ·simp at hq
  ·(conv=>whnf)
   refine V.st ?_
   repeat ((try ((with_reducible refine .ext ?_);(conv=>whnf)));(with_reducible refine jaa (r:=?_) ?_ ?_);rotate_left;(focus (first|exact(h5)));(conv=>whnf);refine V.st ?_)
   exact Fin.of rfl
def nearZ (q:Rat)(s:Nat):Int:=(q.num*((s*2:Nat):Int)+q.den)/((q.den*2:Nat):Int)
theorem near_r (x:Rat)(s:Nat)(hx:S9 30000000 x.num)(hxd:(mg 1000000000 x.den).length≤30000000)(hs:(mg 1000000000 s).length≤30000000):Cl 226 [rtD x,.ints .u32 (mg 1000000000 s)] (itD (nearZ x s)):=by
 have h2:(mg 1000000000 2).length≤1:=by decide
 have t1:=jcO s 2 (by omega) (by omega)
 have l1:=jbX (B:=1000000000) (by omega) s 2
 have s1:=jds x.num (s*2) (hx.mono (by omega)) (by omega)
 have s2:=ja2 x.den false
 rw[if_neg (by simp)] at s2
 have z1:S9 60000001 (x.num*((s*2:Nat):Int)):=hx.mul (l:=30000001) (S9.nat.2 (by omega))
 have z2:S9 60000001 (x.den:Int):=S9.nat.2 (by omega)
 have s3:=sum_c9 _ _ (z1.mono (by omega)) (z2.mono (by omega))
 have t2:=jcO x.den 2 (by omega) (by omega)
 have l2:=jbX (B:=1000000000) (by omega) x.den 2
 have s4:=floor_c (x.num*((s*2:Nat):Int)+x.den) (x.den*2) (by have:=x.den_pos;omega) ((z1.add z2).mono (by omega)) (by omega)
 unfold nearZ
 clear z1 z2
 generalize x.num*((s*2:Nat):Int)+x.den=top at *
 refine V.en tbOk Tryz.func226 ?_
 (conv=>whnf)
 refine V.st ?_
 refine⟨(V.tk [0,1,2,3,6,7] (.ev (.cons 4 [7,6,1,0] (.ev (.cons 5 [7,6] (.ev (.cons 8 [] (.ev (.cons 9 [] (V.e1 10 [] (V.e1 11 [] .done)) (.cons 10 [] (V.e1 9 [] (V.e1 11 [] .done)) .nil))) (.cons 10 [7,6] (V.e1 8 [] (V.e1 9 [] (V.e1 11 [] .done))) .nil))) (.cons 10 [7,6,1,0] (V.e1 5 [7,6] (V.e1 8 [] (V.e1 9 [] (V.e1 11 [] .done)))) .nil))) (.cons 10 [7,6,3,2,1,0] (V.e1 4 [7,6,1,0] (V.e1 5 [7,6] (V.e1 8 [] (V.e1 9 [] (V.e1 11 [] .done))))) .nil)))),[],V.pok,?_⟩
 refine jas [(6,.box 6 0),(5,.ints .u32 [2]),(7,.ints .u32 [2])] [(6,.box [.ints .u32 (mg 1000000000 top.natAbs),.bool (decide (top<0))]),(7,.gone)] ?_ ?_
 ·exact V.d4 @jiy t1 s1 s2 s3
 refine V.st ?_
 refine⟨(V.tk [0,1,2,3] (V.e1 4 [0] (V.e1 5 [] (V.e1 6 [] .done)))),[],V.pok,.go (jab ?_)⟩
 (conv=>whnf)
 refine V.st ?_
 repeat ((try ((with_reducible refine .ext ?_);(conv=>whnf)));(with_reducible refine jaa (r:=?_) ?_ ?_);rotate_left;(focus (first|exact(t2)|exact(s4)));(conv=>whnf);refine V.st ?_)
 exact Fin.of rfl
theorem jd4 (n:Int)(d:Nat)(hd:0<d)(h:Nat.Coprime n.natAbs d):(Rat.divInt n d).num=n∧(Rat.divInt n d).den=d:=by
 have h1:Int.gcd (d:Int) n=1:=by rw[Int.gcd_comm];exact h
 rw[Rat.num_divInt,Rat.den_divInt,if_neg (by omega),jiY (by omega),Int.one_mul,h1]
 simp
theorem jfh {a b c:Nat}(h:Nat.Coprime a b)(hc:c ∣ a):Nat.Coprime c b:=Nat.Coprime.coprime_dvd_left hc h
theorem cop_dvd' {a b c:Nat}(h:Nat.Coprime a b)(hc:c ∣ b):Nat.Coprime a c:=Nat.Coprime.coprime_dvd_right hc h
theorem sum_cop {xn yn:Int}{R L xb:Nat}(hx:Nat.Coprime xn.natAbs xb)(hR:R ∣ xb)(hRL:Nat.Coprime R L):Nat.Coprime (xn*L+yn*R).natAbs R:=by
 have h1:Nat.gcd (xn*L+yn*R).natAbs R ∣ R:=Nat.gcd_dvd_right _ _
 have h2:Nat.gcd (xn*L+yn*R).natAbs R ∣ (xn*L+yn*R).natAbs:=Nat.gcd_dvd_left _ _
 obtain⟨d,hd⟩:∃ d,d=Nat.gcd (xn*L+yn*R).natAbs R:=⟨_,rfl⟩
 rw[← hd] at h1 h2
 have h3:(d:Int) ∣ xn*L+yn*R:=Int.ofNat_dvd_left.2 h2
 have h4:(d:Int) ∣ yn*R:=Int.dvd_trans (Int.ofNat_dvd.2 h1) (Int.dvd_mul_left _ _)
 have h5:(d:Int) ∣ xn*L:=by
  have:=Int.dvd_sub h3 h4
  rwa [Int.add_sub_cancel] at this
 have h6:d ∣ xn.natAbs*L:=by
  have:=Int.ofNat_dvd_left.1 h5
  rwa [Int.natAbs_mul,jiQ] at this
 have h7:Nat.Coprime d L:=jfh hRL h1
 have h8:d ∣ xn.natAbs:=Nat.Coprime.dvd_of_dvd_mul_right h7 h6
 have h9:d ∣ Nat.gcd xn.natAbs xb:=Nat.dvd_gcd h8 (Nat.dvd_trans h1 hR)
 rw[hx.gcd_eq_one] at h9
 show Nat.gcd _ _=1
 rw[← hd]
 exact Nat.dvd_one.1 h9
theorem add_parts (x y:Rat) :
  let g:=Nat.gcd x.den y.den;let L:=y.den/g;let R:=x.den/g;let top:=x.num*L+y.num*R;let h:=Nat.gcd top.natAbs g
  (x+y).num=top/h∧(x+y).den=R*(y.den/h):=by
 intro g L R top h
 have hg:0<g:=Nat.gcd_pos_of_pos_left _ x.den_pos
 have ex:x.den=R*g:=(Nat.div_mul_cancel (Nat.gcd_dvd_left _ _)).symm
 have ey:y.den=L*g:=(Nat.div_mul_cancel (Nat.gcd_dvd_right _ _)).symm
 have hRL:Nat.Coprime R L:=Nat.coprime_div_gcd_div_gcd hg
 have c1:Nat.Coprime top.natAbs R:=sum_cop x.reduced (by rw[ex];exact Nat.dvd_mul_right _ _) hRL
 have c2:Nat.Coprime top.natAbs L:=by
  have:=sum_cop (xn:=y.num) (yn:=x.num) (R:=L) (L:=R) y.reduced (by rw[ey];exact Nat.dvd_mul_right _ _) hRL.symm
  rwa [Int.add_comm] at this
 have hh:0<h:=Nat.gcd_pos_of_pos_right _ hg
 have hht:h ∣ top.natAbs:=Nat.gcd_dvd_left _ _
 have hhg:h ∣ g:=Nat.gcd_dvd_right _ _
 have hT:((h:Nat):Int) ∣ top:=Int.ofNat_dvd_left.2 hht
 obtain⟨t,ht⟩:=hT
 obtain⟨q,hq⟩:=hhg
 have hyq:y.den/h=L*q:=by
  rw[ey,hq,Nat.mul_comm h q,← Nat.mul_assoc,Nat.mul_div_cancel _ hh]
 have htn:top.natAbs=h*t.natAbs:=by rw[ht,Int.natAbs_mul,jiQ]
 have hcq:Nat.Coprime t.natAbs q:=by
  have h1:Nat.Coprime (top.natAbs/h) (g/h):=Nat.coprime_div_gcd_div_gcd hh
  rwa [htn,hq,Nat.mul_div_cancel_left _ hh,Nat.mul_div_cancel_left _ hh] at h1
 have htd:t.natAbs ∣ top.natAbs:=by rw[htn];exact Nat.dvd_mul_left _ _
 have hcop:Nat.Coprime t.natAbs (R*(y.den/h)):=by
  rw[hyq]
  exact Nat.Coprime.mul_right (jfh c1 htd) (Nat.Coprime.mul_right (jfh c2 htd) hcq)
 have hqp:0<q:=Nat.pos_of_ne_zero fun e=>by rw[e] at hq;omega
 have hLp:0<L:=Nat.pos_of_ne_zero fun e=>by have:=y.den_pos;rw[ey,e] at this;omega
 have hRp:0<R:=Nat.pos_of_ne_zero fun e=>by have:=x.den_pos;rw[ex,e] at this;omega
 have hsum:x+y=Rat.divInt t ((R*(y.den/h):Nat):Int):=by
  conv=>lhs;rw[← jiZ x,← jiZ y]
  rw[Rat.divInt_add_divInt _ _ (by have:=x.den_pos;omega) (by have:=y.den_pos;omega)]
  have hyp:=y.den_pos
  have hxp:=x.den_pos
  rw[Rat.divInt_eq_divInt_iff (by have:=Nat.mul_pos hxp hyp;rw[← jiL];omega) (by have:0<R*(y.den/h):=by { rw[hyq];exact Nat.mul_pos hRp (Nat.mul_pos hLp hqp) }; omega)]
  rw[hyq,ex,ey,hq]
  have e1:x.num*((L*(h*q):Nat):Int)+y.num*((R*(h*q):Nat):Int)=(h*q:Nat)*top:=by
   show _=((h*q:Nat):Int)*(x.num*(L:Int)+y.num*(R:Int))
   simp only[jiL,jiM]
   congr 1<;>ac_rfl
  rw[e1,ht]
  simp only[jiL]
  ac_rfl
 have hp:0<R*(y.den/h):=by rw[hyq];exact Nat.mul_pos hRp (Nat.mul_pos hLp hqp)
 obtain⟨p1,p2⟩:=jd4 t (R*(y.den/h)) hp hcop
 rw[hsum,p1,p2,ht,Int.mul_ediv_cancel_left _ (by omega)]
 exact⟨rfl,rfl⟩
theorem mul_parts (x y:Rat) :
  let g:=Nat.gcd x.num.natAbs y.den;let h:=Nat.gcd y.num.natAbs x.den
  (x*y).num.natAbs=(x.num.natAbs/g)*(y.num.natAbs/h)∧(x*y).den=(x.den/h)*(y.den/g):=by
 intro g h
 have hg:0<g:=Nat.gcd_pos_of_pos_right _ y.den_pos
 have hh:0<h:=Nat.gcd_pos_of_pos_right _ x.den_pos
 obtain⟨a,ha⟩:g ∣ x.num.natAbs:=Nat.gcd_dvd_left _ _
 obtain⟨b,hb⟩:g ∣ y.den:=Nat.gcd_dvd_right _ _
 obtain⟨c,hc⟩:h ∣ y.num.natAbs:=Nat.gcd_dvd_left _ _
 obtain⟨d,hd⟩:h ∣ x.den:=Nat.gcd_dvd_right _ _
 have k1:x.num.natAbs/g=a:=by rw[ha,Nat.mul_div_cancel_left _ hg]
 have k2:y.den/g=b:=by rw[hb,Nat.mul_div_cancel_left _ hg]
 have k3:y.num.natAbs/h=c:=by rw[hc,Nat.mul_div_cancel_left _ hh]
 have k4:x.den/h=d:=by rw[hd,Nat.mul_div_cancel_left _ hh]
 have c1:Nat.Coprime a b:=by
  have:Nat.Coprime (x.num.natAbs/g) (y.den/g):=Nat.coprime_div_gcd_div_gcd hg
  rwa [k1,k2] at this
 have c2:Nat.Coprime c d:=by
  have:Nat.Coprime (y.num.natAbs/h) (x.den/h):=Nat.coprime_div_gcd_div_gcd hh
  rwa [k3,k4] at this
 have c3:Nat.Coprime a d:=jfh (cop_dvd' x.reduced (by rw[hd];exact Nat.dvd_mul_left _ _)) (by rw[ha];exact Nat.dvd_mul_left _ _)
 have c4:Nat.Coprime c b:=jfh (cop_dvd' y.reduced (by rw[hb];exact Nat.dvd_mul_left _ _)) (by rw[hc];exact Nat.dvd_mul_left _ _)
 have hcop:Nat.Coprime (a*c) (d*b):=Nat.Coprime.mul_right (Nat.Coprime.mul_left c3 c2) (Nat.Coprime.mul_left c1 c4)
 obtain⟨u,hu⟩:((g:Nat):Int) ∣ x.num:=Int.ofNat_dvd_left.2 ⟨a,ha⟩
 obtain⟨v,hv⟩:((h:Nat):Int) ∣ y.num:=Int.ofNat_dvd_left.2 ⟨c,hc⟩
 have hua:u.natAbs=a:=by
  have:=ha;rw[hu,Int.natAbs_mul,jiQ] at this
  exact Nat.eq_of_mul_eq_mul_left hg this
 have hvc:v.natAbs=c:=by
  have:=hc;rw[hv,Int.natAbs_mul,jiQ] at this
  exact Nat.eq_of_mul_eq_mul_left hh this
 have hbp:0<b:=Nat.pos_of_ne_zero fun e=>by have:=y.den_pos;rw[hb,e] at this;omega
 have hdp:0<d:=Nat.pos_of_ne_zero fun e=>by have:=x.den_pos;rw[hd,e] at this;omega
 have hp:0<d*b:=Nat.mul_pos hdp hbp
 have hprod:x*y=Rat.divInt (u*v) ((d*b:Nat):Int):=by
  conv=>lhs;rw[← jiZ x,← jiZ y]
  rw[Rat.divInt_mul_divInt]
  have hyp:=y.den_pos
  have hxp:=x.den_pos
  rw[Rat.divInt_eq_divInt_iff (by have:=Nat.mul_pos hxp hyp;rw[← jiL];omega) (by omega),hb,hd]
  conv=>lhs;rw[hu,hv]
  simp only[jiL]
  ac_rfl
 obtain⟨p1,p2⟩:=jd4 (u*v) (d*b) hp (by rw[Int.natAbs_mul,hua,hvc];exact hcop)
 rw[hprod,p1,p2,Int.natAbs_mul,hua,hvc,k1,k2,k3,k4]
 exact⟨rfl,rfl⟩
theorem mul_sign (x y:Rat):decide ((x*y).num<0)=((decide (x.num<0) != decide (y.num<0)) && !decide ((x*y).num=0)):=by
 have hg:0<Nat.gcd (x.num*y.num).natAbs (x.den*y.den):=Nat.gcd_pos_of_pos_right _ (Nat.mul_pos x.den_pos y.den_pos)
 obtain⟨t,ht⟩:((Nat.gcd (x.num*y.num).natAbs (x.den*y.den):Nat):Int) ∣ x.num*y.num:=Int.ofNat_dvd_left.2 (Nat.gcd_dvd_left _ _)
 have key:(x*y).num=t:=by
  rw[Rat.mul_def,Rat.normalize_eq]
  show x.num*y.num/((Nat.gcd (x.num*y.num).natAbs (x.den*y.den):Nat):Int)=t
  conv=>lhs;lhs;rw[ht]
  exact Int.mul_ediv_cancel_left _ (by omega)
 rw[key]
 generalize Nat.gcd (x.num*y.num).natAbs (x.den*y.den)=g at *
 have hs:(t<0↔x.num*y.num<0)∧(t=0↔x.num*y.num=0):=by
  rw[ht]
  constructor
  ·constructor
   ·intro h;exact Int.mul_neg_of_pos_of_neg (by omega) h
   ·intro h
    rcases Int.lt_or_le t 0 with h2|h2
    ·exact h2
    ·have:=jiw (a:=(g:Int)) (by omega) h2;omega
  ·constructor
   ·intro h;rw[h,Int.mul_zero]
   ·intro h;rcases Int.mul_eq_zero.1 h with h2|h2<;>omega
 by_cases h1:x.num<0<;>by_cases h2:y.num<0<;>by_cases h3:t=0
 all_goals
  have h4:=hs.1
  have h5:=hs.2
  simp only[h1,h2,h3,decide_true,decide_false,bne_self_eq_false,Bool.false_and,Bool.not_true,Bool.and_false,Bool.not_false,Bool.and_true]
 ·rfl
 ·rw[decide_eq_false_iff_not,h4]
  have:=Int.mul_pos_of_neg_of_neg h1 h2;omega
 ·simp
 ·have h6:x.num*y.num≠0:=fun e=>h3 (h5.2 e)
  have h7:x.num*y.num≤0:=Int.mul_nonpos_of_nonpos_of_nonneg (by omega) (by omega)
  simp only[h4]
  simp;omega
 ·simp
 ·have h6:x.num*y.num≠0:=fun e=>h3 (h5.2 e)
  have h7:x.num*y.num≤0:=Int.mul_nonpos_of_nonneg_of_nonpos (by omega) (by omega)
  simp only[h4]
  simp;omega
 ·rfl
 ·rw[decide_eq_false_iff_not,h4]
  have:=jiw (a:=x.num) (b:=y.num) (by omega) (by omega);omega
def Q9 (k:Nat)(q:Rat):Prop:=S9 k q.num∧(mg 1000000000 q.den).length≤k
theorem Q9.mono {k l:Nat}{q:Rat}(h:Q9 k q)(hl:k≤l):Q9 l q:=⟨h.1.mono hl,jiC h.2 hl⟩
theorem Q9.neg {k:Nat}{q:Rat}(h:Q9 k q):Q9 k (-q):=⟨by rw[Rat.neg_num];exact h.1.neg,by rw[Rat.neg_den];exact h.2⟩
theorem div_sign (t:Int)(h:Nat)(hd:h ∣ t.natAbs):(if decide (t<0)=true then -((t.natAbs/h:Nat):Int) else ((t.natAbs/h:Nat):Int))=t/h:=by
 have e:t=t.sign*(t.natAbs:Int):=(Int.sign_mul_natAbs t).symm
 by_cases hz:t<0
 ·rw[decide_eq_true hz,if_pos rfl]
  have e2:t = -(t.natAbs:Int):=by omega
  conv=>rhs;rw[e2]
  rw[Int.neg_ediv_of_dvd (Int.ofNat_dvd.2 hd),Int.natCast_ediv]
 ·rw[decide_eq_false hz,if_neg (by simp)]
  have e2:t=(t.natAbs:Int):=by omega
  conv=>rhs;rw[e2]
  rw[Int.natCast_ediv]
theorem jgY (q:Rat):Cl 172 [rtD q] (rtD (-q)):=by
 have h1:=jfJ q.num
 have e:rtD (-q) = .agg [.ints .u32 (mg 1000000000 (-q.num).natAbs),.bool (decide (-q.num<0)),.ints .u32 (mg 1000000000 q.den)]:=by unfold rtD;rw[Rat.neg_num,Rat.neg_den]
 rw[e]
 refine V.en tbOk Tryz.func172 ?_
 (conv=>whnf)
 refine V.st ?_
 refine⟨(V.tk [0,1,3,4] (V.e1 2 [4,3] (V.tk [5] (V.e1 6 [] .done)))),[],V.pok,.go (jab ?_)⟩
 (conv=>whnf)
 refine V.st ?_
 repeat ((try ((with_reducible refine .ext ?_);(conv=>whnf)));(with_reducible refine jaa (r:=?_) ?_ ?_);rotate_left;(focus (first|exact(h1)));(conv=>whnf);refine V.st ?_)
 exact Fin.of rfl
theorem add_c (x y:Rat)(hx:Q9 20000000 x)(hy:Q9 20000000 y):Cl 166 [rtD x,rtD y] (rtD (x+y)):=by
 obtain⟨p1,p2⟩:=add_parts x y
 have g1:=gcd_c x.den y.den (by have:=hx.2;omega) (by have:=hy.2;omega)
 have hg:0<Nat.gcd x.den y.den:=Nat.gcd_pos_of_pos_left _ x.den_pos
 have lg:=jae (B:=1000000000) (by omega) (Nat.gcd_le_left y.den x.den_pos)
 generalize Nat.gcd x.den y.den=g at *
 have hx1:=hx.1
 have hy1:=hy.1
 have hx2:=hx.2
 have hy2:=hy.2
 have d1:=jbe y.den g hg (by omega) (by omega)
 have d2:=jbe x.den g hg (by omega) (by omega)
 have lL:=jae (B:=1000000000) (by omega) (jiS y.den g)
 have lR:=jae (B:=1000000000) (by omega) (jiS x.den g)
 have s1:=jds x.num (y.den/g) (hx1.mono (by omega)) (by omega)
 have s2:=jds y.num (x.den/g) (hy1.mono (by omega)) (by omega)
 have z1:S9 40000000 (x.num*((y.den/g:Nat):Int)):=hx1.mul (l:=20000000) (S9.nat.2 (by omega))
 have z2:S9 40000000 (y.num*((x.den/g:Nat):Int)):=hy1.mul (l:=20000000) (S9.nat.2 (by omega))
 have s3:=sum_c9 _ _ (z1.mono (by omega)) (z2.mono (by omega))
 have z3:=z1.add z2
 generalize x.num*((y.den/g:Nat):Int)+y.num*((x.den/g:Nat):Int)=top at *
 unfold S9 at z3
 have g2:=gcd_c top.natAbs g (by omega) (by omega)
 have hh:0<Nat.gcd top.natAbs g:=Nat.gcd_pos_of_pos_right _ hg
 have lh:=jae (B:=1000000000) (by omega) (Nat.gcd_le_right top.natAbs hg)
 have hdv:Nat.gcd top.natAbs g ∣ top.natAbs:=Nat.gcd_dvd_left _ _
 generalize Nat.gcd top.natAbs g=h at *
 have d3:=jbe top.natAbs h hh (by omega) (by omega)
 have d4:=jbe y.den h hh (by omega) (by omega)
 have lT:=jae (B:=1000000000) (by omega) (jiS y.den h)
 have t1:=jcO (x.den/g) (y.den/h) (by omega) (by omega)
 have m1:=ja2 (top.natAbs/h) (decide (top<0))
 rw[div_sign top h hdv,← p1] at m1
 rw[← p2] at t1
 refine V.en tbOk Tryz.func166 ?_
 (conv=>whnf)
 refine V.st ?_
 repeat ((try ((with_reducible refine .ext ?_);(conv=>whnf)));(with_reducible refine jaa (r:=?_) ?_ ?_);rotate_left;(focus (first|exact(g1)|exact(d1)|exact(d2)));(conv=>whnf);refine V.st ?_)
 refine⟨(V.tk [0,1,2,4,5,6] (.ev (.cons 3 [6,5,4] (.ev (.cons 7 [] (.ev (.cons 8 [] (V.e1 9 [] (V.e1 10 [] .done)) (.cons 9 [] (V.e1 8 [] (V.e1 10 [] .done)) .nil))) (.cons 9 [6,5,4] (V.e1 7 [] (V.e1 8 [] (V.e1 10 [] .done))) .nil))) (.cons 9 [6,5,4,2,1,0] (V.e1 3 [6,5,4] (V.e1 7 [] (V.e1 8 [] (V.e1 10 [] .done)))) .nil)))),[],V.pok,?_⟩
 refine jas [(10,.box 10 0)] [(10,.box [.ints .u32 (mg 1000000000 top.natAbs),.bool (decide (top<0))])] ?_ ?_
 ·exact V.d3 @jiy s1 s2 s3
 (conv=>whnf)
 refine V.st ?_
 repeat ((try ((with_reducible refine .ext ?_);(conv=>whnf)));(with_reducible refine jaa (r:=?_) ?_ ?_);rotate_left;(focus (first|exact(g2)|exact(d3)|exact(d4)|exact(m1)|exact(t1)));(conv=>whnf);refine V.st ?_)
 exact Fin.of rfl
theorem sub_c (x y:Rat)(hx:Q9 20000000 x)(hy:Q9 20000000 y):Cl 167 [rtD x,rtD y] (rtD (x-y)):=by
 have h1:=jgY y
 have h2:=add_c x (-y) hx hy.neg
 rw[← Rat.sub_eq_add_neg] at h2
 refine V.en tbOk Tryz.func167 ?_
 (conv=>whnf)
 refine V.st ?_
 refine⟨Pq49z,[],V.pok,.go (jab ?_)⟩
 (conv=>whnf)
 refine V.st ?_
 repeat ((try ((with_reducible refine .ext ?_);(conv=>whnf)));(with_reducible refine jaa (r:=?_) ?_ ?_);rotate_left;(focus (first|exact(h1)|exact(h2)));(conv=>whnf);refine V.st ?_)
 exact Fin.of rfl
theorem mul_num (x y:Rat):(if (decide (x.num<0) != decide (y.num<0))=true then -((x*y).num.natAbs:Int) else ((x*y).num.natAbs:Int))=(x*y).num:=by
 have h:=mul_sign x y
 by_cases h0:(x*y).num=0
 ·rw[h0];simp
 ·rw[decide_eq_false h0,Bool.not_false,Bool.and_true] at h
  rw[← h]
  by_cases h1:(x*y).num<0
  ·rw[decide_eq_true h1,if_pos rfl];omega
  ·rw[decide_eq_false h1,if_neg (by simp)];omega
theorem mul_c (x y:Rat)(hx:Q9 20000000 x)(hy:Q9 20000000 y):Cl 168 [rtD x,rtD y] (rtD (x*y)):=by
 obtain⟨p1,p2⟩:=mul_parts x y
 have pn:=mul_num x y
 have hx1:=hx.1
 have hy1:=hy.1
 have hx2:=hx.2
 have hy2:=hy.2
 unfold S9 at hx1 hy1
 have g1:=gcd_c x.num.natAbs y.den (by omega) (by omega)
 have g2:=gcd_c y.num.natAbs x.den (by omega) (by omega)
 have hg:0<Nat.gcd x.num.natAbs y.den:=Nat.gcd_pos_of_pos_right _ y.den_pos
 have hh:0<Nat.gcd y.num.natAbs x.den:=Nat.gcd_pos_of_pos_right _ x.den_pos
 have lg:=jae (B:=1000000000) (by omega) (Nat.gcd_le_right x.num.natAbs y.den_pos)
 have lh:=jae (B:=1000000000) (by omega) (Nat.gcd_le_right y.num.natAbs x.den_pos)
 generalize Nat.gcd x.num.natAbs y.den=g at *
 generalize Nat.gcd y.num.natAbs x.den=h at *
 have d1:=jbe x.num.natAbs g hg (by omega) (by omega)
 have d2:=jbe x.den h hh (by omega) (by omega)
 have d3:=jbe y.num.natAbs h hh (by omega) (by omega)
 have d4:=jbe y.den g hg (by omega) (by omega)
 have l1:=jae (B:=1000000000) (by omega) (jiS x.num.natAbs g)
 have l2:=jae (B:=1000000000) (by omega) (jiS x.den h)
 have l3:=jae (B:=1000000000) (by omega) (jiS y.num.natAbs h)
 have l4:=jae (B:=1000000000) (by omega) (jiS y.den g)
 have t1:=jcO (x.num.natAbs/g) (y.num.natAbs/h) (by omega) (by omega)
 have t2:=jcO (x.den/h) (y.den/g) (by omega) (by omega)
 rw[← p1] at t1
 rw[← p2] at t2
 have m1:=ja2 (x*y).num.natAbs (decide (x.num<0) != decide (y.num<0))
 rw[pn] at m1
 refine V.en tbOk Tryz.func168 ?_
 (conv=>whnf)
 refine V.st ?_
 repeat ((try ((with_reducible refine .ext ?_);(conv=>whnf)));(with_reducible refine jaa (r:=?_) ?_ ?_);rotate_left;(focus (first|exact(g1)|exact(g2)|exact(d1)|exact(d2)|exact(d3)|exact(d4)));(conv=>whnf);refine V.st ?_)
 refine⟨(V.tk [0,1,3,4,5,6,7,8,9,11,12] (V.e1 2 [12,11,9,8,7,6,5,4,3] (V.e1 10 [12,11] (V.e1 13 [] (V.tk [14] (V.e1 15 [] .done)))))),[],V.pok,.go (jab ?_)⟩
 (conv=>whnf)
 refine V.st ?_
 repeat ((try ((with_reducible refine .ext ?_);(conv=>whnf)));(with_reducible refine jaa (r:=?_) ?_ ?_);rotate_left;(focus (first|exact(t1)|exact(m1)|exact(t2)));(conv=>whnf);refine V.st ?_)
 exact Fin.of rfl
theorem lesser_c (x y:Rat)(hx:Q9 20000000 x)(hy:Q9 20000000 y):Cl 169 [rtD x,rtD y] (rtD (if y<x then y else x)):=by
 have h1:=jgg x y (hx.1.mono (by omega)) (hy.1.mono (by omega)) (jiC hx.2 (by omega)) (jiC hy.2 (by omega))
 have e:ordQ x y>0↔y<x:=by
  unfold ordQ
  by_cases a:x<y
  ·rw[if_pos a];exact⟨fun h=>by omega,fun h=>absurd h (Rat.not_lt.2 (Rat.le_of_lt a))⟩
  ·rw[if_neg a]
   by_cases b:x=y
   ·rw[if_pos b,b];exact⟨fun h=>by omega,fun h=>absurd h (Rat.lt_irrefl)⟩
   ·rw[if_neg b];exact⟨fun _=>Rat.lt_of_le_of_ne (Rat.not_lt.1 a) (Ne.symm b),fun _=>by omega⟩
 refine V.en tbOk Tryz.func169 ?_
 (conv=>whnf)
 refine V.st ?_
 repeat ((try ((with_reducible refine .ext ?_);(conv=>whnf)));(with_reducible refine jaa (r:=?_) ?_ ?_);rotate_left;(focus (first|exact(h1)));(conv=>whnf);refine V.st ?_)
 refine V.br (fun hq=>?_) (fun hq=>?_)
 ·rw[decide_eq_true_eq] at hq
  rw[if_pos (e.1 hq)]
  (conv=>whnf)
  refine V.st ?_
  exact Fin.of rfl
 ·rw[decide_eq_false_iff_not] at hq
  rw[if_neg (fun h=>hq (e.2 h))]
  (conv=>whnf)
  refine V.st ?_
  exact Fin.of rfl
theorem jg5 (x y:Rat)(hx:Q9 20000000 x)(hy:Q9 20000000 y):Cl 170 [rtD x,rtD y] (rtD (if x<y then y else x)):=by
 have h1:=jgg x y (hx.1.mono (by omega)) (hy.1.mono (by omega)) (jiC hx.2 (by omega)) (jiC hy.2 (by omega))
 have e:ordQ x y<0↔x<y:=by
  unfold ordQ
  by_cases a:x<y
  ·rw[if_pos a];exact⟨fun _=>a,fun _=>by omega⟩
  ·rw[if_neg a]
   by_cases b:x=y
   ·rw[if_pos b];exact⟨fun h=>by omega,fun h=>absurd h a⟩
   ·rw[if_neg b];exact⟨fun h=>by omega,fun h=>absurd h a⟩
 refine V.en tbOk Tryz.func170 ?_
 (conv=>whnf)
 refine V.st ?_
 repeat ((try ((with_reducible refine .ext ?_);(conv=>whnf)));(with_reducible refine jaa (r:=?_) ?_ ?_);rotate_left;(focus (first|exact(h1)));(conv=>whnf);refine V.st ?_)
 refine V.br (fun hq=>?_) (fun hq=>?_)
 ·rw[decide_eq_true_eq] at hq
  rw[if_pos (e.1 hq)]
  (conv=>whnf)
  refine V.st ?_
  exact Fin.of rfl
 ·rw[decide_eq_false_iff_not] at hq
  rw[if_neg (fun h=>hq (e.2 h))]
  (conv=>whnf)
  refine V.st ?_
  exact Fin.of rfl
theorem off {p:Go.Program}{f:Nat}{ys:List D}{c:Bool}(hc:c=false):c=true→Called p f ys (.int .i64 0):=fun h=>by rw[hc] at h;cases h
def okP (s t:List UInt8):Bool:=okW s && okW t && decide (0<wval t) && decide (Nat.gcd (wval s).natAbs (wval t).natAbs=1)
def qv (s t:List UInt8):Rat:=Rat.divInt (wval s) (wval t)
theorem jeQ {s t:List UInt8}(h:okP s t=true):okW s=true∧okW t=true∧0<wval t∧Nat.gcd (wval s).natAbs (wval t).natAbs=1:=by
 unfold okP at h
 simp only[jir,decide_eq_true_eq] at h
 exact⟨h.1.1.1,h.1.1.2,h.1.2,h.2⟩
theorem jdw {s t:List UInt8}(h:okP s t=true):(qv s t).num=wval s∧(qv s t).den=(wval t).natAbs:=by
 obtain⟨h1,h2,h3,h4⟩:=jeQ h
 have e:qv s t=Rat.divInt (wval s) ((wval t).natAbs:Nat):=by unfold qv;congr 1;omega
 rw[e]
 exact jd4 _ _ (by omega) h4
theorem jf7 {s t:List UInt8}(h:okP s t=true):Q9 67 (qv s t):=by
 obtain⟨h1,h2,h3,h4⟩:=jeQ h
 obtain⟨p1,p2⟩:=jdw h
 exact⟨by rw[p1];exact len9 (jcj h1).2,by rw[p2];exact len9 (jcj h2).2⟩
theorem rtD_qv {s t:List UInt8}(h:okP s t=true):rtD (qv s t) = .agg [.ints .u32 (mg 1000000000 (wval s).natAbs),.bool (decide (wval s<0)),.ints .u32 (mg 1000000000 (wval t).natAbs)]:=by
 obtain⟨p1,p2⟩:=jdw h
 unfold rtD
 rw[p1,p2]
theorem jdR (s t:List UInt8)(h:okP s t=true):Cl 75 [.agg [.str s,.str t]] (.tup [rtD (qv s t),.bool true]):=by
 obtain⟨h1,h2,h3,h4⟩:=jeQ h
 have l1:=jcj h1
 have l2:=jcj h2
 have k1:=len9 l1.2
 have k2:=len9 l2.2
 have c1:=jcx s (by omega)
 have c2:=jcx t (by omega)
 rw[h1,if_pos rfl] at c1
 rw[h2,if_pos rfl] at c2
 have n1:=jc2 s h1
 have n2:=jc2 t h2
 have s1:=sign_c (wval t)
 rw[jiY h3] at s1
 have g1:=gcd_c (wval s).natAbs (wval t).natAbs (by omega) (by omega)
 rw[h4] at g1
 have o1:=jcw 1 1 (by decide) (by decide)
 rw[rtD_qv h]
 refine V.en tbOk Tryz.func75 ?_
 (conv=>whnf)
 refine V.st ?_
 repeat ((try ((with_reducible refine .ext ?_);(conv=>whnf)));(with_reducible refine jaa (r:=?_) ?_ ?_);rotate_left;(focus (first|exact(c1)|exact(c2)));(conv=>whnf);refine V.st ?_)
 refine⟨Pq44z,[],V.pok,?_⟩
 refine jas [(4,.box 4 0),(5,.box 5 0)] [(4,.box [.ints .u32 (mg 1000000000 (wval s).natAbs),.bool (decide (wval s<0))]),(5,.box [.ints .u32 (mg 1000000000 (wval t).natAbs),.bool (decide (wval t<0))])] ?_ ?_
 ·exact V.d2 @jiy n1 n2
 (conv=>whnf)
 refine V.st ?_
 repeat ((try ((with_reducible refine .ext ?_);(conv=>whnf)));(with_reducible refine jaa (r:=?_) ?_ ?_);rotate_left;(focus (first|exact(s1)|exact(g1)|exact(o1)));(conv=>whnf);refine V.st ?_)
 exact Fin.of rfl
theorem read_no (s t:List UInt8)(h:okP s t=false)(hs:s.length≤281474976710656)(ht:t.length≤281474976710656):Cl 75 [.agg [.str s,.str t]] (.tup [.agg [.any,.any,.any],.bool false]):=by
 have c1:=jcx s hs
 have c2:=jcx t ht
 by_cases h1:okW s=true
 ·rw[h1,if_pos rfl] at c1
  by_cases h2:okW t=true
  ·rw[h2,if_pos rfl] at c2
   have l1:=jcj h1
   have l2:=jcj h2
   have k1:=len9 l1.2
   have k2:=len9 l2.2
   have n1:=jc2 s h1
   have n2:=jc2 t h2
   have s1:=sign_c (wval t)
   have g1:=gcd_c (wval s).natAbs (wval t).natAbs (by omega) (by omega)
   have gl:(mg 1000000000 (Nat.gcd (wval s).natAbs (wval t).natAbs)).length≤67:=by
    rcases jiE (wval t).natAbs with e|e
    ·rw[e,Nat.gcd_zero_right];exact k1
    ·exact jiC (jae (by omega) (Nat.gcd_le_right _ e)) k2
   have o1:=jcw (Nat.gcd (wval s).natAbs (wval t).natAbs) 1 (by omega) (by decide)
   unfold okP at h
   rw[h1,h2,Bool.true_and,Bool.true_and] at h
   by_cases hp:0<wval t
   ·rw[decide_eq_true hp,Bool.true_and,decide_eq_false_iff_not] at h
    rw[jiY hp] at s1
    refine V.en tbOk Tryz.func75 ?_
    (conv=>whnf)
    refine V.st ?_
    repeat ((try ((with_reducible refine .ext ?_);(conv=>whnf)));(with_reducible refine jaa (r:=?_) ?_ ?_);rotate_left;(focus (first|exact(c1)|exact(c2)));(conv=>whnf);refine V.st ?_)
    refine⟨Pq44z,[],V.pok,?_⟩
    refine jas [(4,.box 4 0),(5,.box 5 0)] [(4,.box [.ints .u32 (mg 1000000000 (wval s).natAbs),.bool (decide (wval s<0))]),(5,.box [.ints .u32 (mg 1000000000 (wval t).natAbs),.bool (decide (wval t<0))])] ?_ ?_
    ·exact V.d2 @jiy n1 n2
    (conv=>whnf)
    refine V.st ?_
    repeat ((try ((with_reducible refine .ext ?_);(conv=>whnf)));(with_reducible refine jaa (r:=?_) ?_ ?_);rotate_left;(focus (first|exact(s1)|exact(g1)|exact(o1)));(conv=>whnf);refine V.st ?_)
    refine V.br (fun hq=>?_) (fun hq=>?_)
    ·(conv=>whnf)
     refine V.st ?_
     exact Fin.tup ⟨Fin.agg ⟨Fin.any' _,Fin.any' _,Fin.any' _,trivial⟩,Fin.of rfl,trivial⟩
    ·exfalso
     simp only[jiK,decide_eq_false_iff_not,Decidable.not_not] at hq
     apply h
     have h9:=Int.sign_eq_zero_iff_zero.1 hq.2
     omega
   ·have hs1:(wval t).sign=0∨(wval t).sign = -1:=by
     rcases (by omega:wval t=0∨wval t<0) with e|e
     ·rw[e];exact .inl rfl
     ·exact .inr (jiX e)
    rcases hs1 with e|e
    all_goals
     rw[e] at s1
     refine V.en tbOk Tryz.func75 ?_
     (conv=>whnf)
     refine V.st ?_
     repeat ((try ((with_reducible refine .ext ?_);(conv=>whnf)));(with_reducible refine jaa (r:=?_) ?_ ?_);rotate_left;(focus (first|exact(c1)|exact(c2)));(conv=>whnf);refine V.st ?_)
     refine⟨Pq44z,[],V.pok,?_⟩
     refine jas [(4,.box 4 0),(5,.box 5 0)] [(4,.box [.ints .u32 (mg 1000000000 (wval s).natAbs),.bool (decide (wval s<0))]),(5,.box [.ints .u32 (mg 1000000000 (wval t).natAbs),.bool (decide (wval t<0))])] ?_ ?_
     ·exact V.d2 @jiy n1 n2
     (conv=>whnf)
     refine V.st ?_
     repeat ((try ((with_reducible refine .ext ?_);(conv=>whnf)));(with_reducible refine jaa (r:=?_) ?_ ?_);rotate_left;(focus (first|exact(s1)|exact(g1)|exact(o1)));(conv=>whnf);refine V.st ?_)
     refine⟨.int .i64 0,off rfl,?_⟩
     (conv=>whnf)
     refine V.st ?_
     exact Fin.tup ⟨Fin.agg ⟨Fin.any' _,Fin.any' _,Fin.any' _,trivial⟩,Fin.of rfl,trivial⟩
  ·rw[if_neg h2] at c2
   refine V.en tbOk Tryz.func75 ?_
   (conv=>whnf)
   refine V.st ?_
   repeat ((try ((with_reducible refine .ext ?_);(conv=>whnf)));(with_reducible refine jaa (r:=?_) ?_ ?_);rotate_left;(focus (first|exact(c1)|exact(c2)));(conv=>whnf);refine V.st ?_)
   exact Fin.tup ⟨Fin.agg ⟨Fin.any' _,Fin.any' _,Fin.any' _,trivial⟩,Fin.of rfl,trivial⟩
 ·rw[if_neg h1] at c1
  refine V.en tbOk Tryz.func75 ?_
  (conv=>whnf)
  refine V.st ?_
  repeat ((try ((with_reducible refine .ext ?_);(conv=>whnf)));(with_reducible refine jaa (r:=?_) ?_ ?_);rotate_left;(focus (first|exact(c1)|exact(c2)));(conv=>whnf);refine V.st ?_)
  refine V.br (fun hq=>?_) (fun hq=>?_)
  ·(conv=>whnf)
   refine V.st ?_
   exact Fin.tup ⟨Fin.agg ⟨Fin.any' _,Fin.any' _,Fin.any' _,trivial⟩,Fin.of rfl,trivial⟩
  ·simp at hq
theorem jgu (s t:List UInt8)(hs:s.length≤281474976710656)(ht:t.length≤281474976710656):Cl 47 [.agg [.str s,.str t]] (.int .i64 (if okP s t then 0 else 20)):=by
 by_cases h:okP s t=true
 ·have r1:=jdR s t h
  rw[h,if_pos rfl]
  refine V.en tbOk Tryz.func47 ?_
  (conv=>whnf)
  refine V.st ?_
  repeat ((try ((with_reducible refine .ext ?_);(conv=>whnf)));(with_reducible refine jaa (r:=?_) ?_ ?_);rotate_left;(focus (first|exact(r1)));(conv=>whnf);refine V.st ?_)
  exact Fin.of rfl
 ·have r1:=read_no s t (by simpa using h) hs ht
  rw[if_neg h]
  refine V.en tbOk Tryz.func47 ?_
  (conv=>whnf)
  refine V.st ?_
  repeat ((try ((with_reducible refine .ext ?_);(conv=>whnf)));(with_reducible refine jaa (r:=?_) ?_ ?_);rotate_left;(focus (first|exact(r1)));(conv=>whnf);refine V.st ?_)
  exact Fin.of rfl
theorem qsize {s t:List UInt8}(h:okP s t=true):Q9 20000000 (qv s t):=(jf7 h).mono (by omega)
theorem qordS {s t:List UInt8}(h:okP s t=true):S9 40000000 (qv s t).num∧(mg 1000000000 (qv s t).den).length≤40000000:=⟨(jf7 h).1.mono (by omega),jiC (jf7 h).2 (by omega)⟩
theorem fcmp_ok (s t u v:List UInt8)(h:okP s t=true)(g:okP u v=true):Cl 179 [.agg [.str s,.str t],.agg [.str u,.str v]] (.tup [.int .i64 (ordQ (qv s t) (qv u v)),.int .i64 0]):=by
 have r1:=jdR s t h
 have r2:=jdR u v g
 have o:=jgg (qv s t) (qv u v) (qordS h).1 (qordS g).1 (qordS h).2 (qordS g).2
 have ap:Cl 227 [.agg [.str s,.str t],.agg [.str u,.str v],.fn 175 [] []] (.tup [.int .i64 (ordQ (qv s t) (qv u v)),.int .i64 0]):=by
  refine V.en tbOk Tryz.func227 ?_
  (conv=>whnf)
  refine V.st ?_
  repeat ((try ((with_reducible refine .ext ?_);(conv=>whnf)));(with_reducible refine jaa (r:=?_) ?_ ?_);rotate_left;(focus (first|exact(r1)|exact(r2)|exact(o)));(conv=>whnf);refine V.st ?_)
  exact Fin.of rfl
 refine V.en tbOk Tryz.func179 ?_
 (conv=>whnf)
 refine V.st ?_
 repeat ((try ((with_reducible refine .ext ?_);(conv=>whnf)));(with_reducible refine jaa (r:=?_) ?_ ?_);rotate_left;(focus (first|exact(ap)));(conv=>whnf);refine V.st ?_)
 exact Fin.of rfl
def vb (lo hi:Int):Bool:=decide (-1000000000000000000≤lo) && decide (lo≤hi) && decide (hi≤1000000000000000000)
def bD (r:Int×Int×Int):D := .tup [.agg [.int .i64 r.1,.int .i64 r.2.1],.int .i64 r.2.2]
def mk (lo hi:Int):Int×Int×Int:=if vb lo hi=true then (lo,hi,0) else (0,0,6)
theorem jaz {lo hi:Int} : vb lo hi=true ↔ -1000000000000000000≤lo∧lo≤hi∧hi≤1000000000000000000:=by
 unfold vb;simp only[jir,decide_eq_true_eq,and_assoc]
theorem jbL (lo hi:Int):Cl 96 [.int .i64 lo,.int .i64 hi] (.bool (vb lo hi)):=by
 refine V.en tbOk Tryz.func96 ?_
 (conv=>whnf)
 refine V.st ?_
 exact Fin.of rfl
theorem jeR (lo hi:Int):Cl 180 [.int .i64 lo,.int .i64 hi] (bD (mk lo hi)):=by
 have h:=jbL lo hi
 unfold mk
 generalize vb lo hi=v at *
 refine V.en tbOk Tryz.func180 ?_
 (conv=>whnf)
 refine V.st ?_
 repeat ((try ((with_reducible refine .ext ?_);(conv=>whnf)));(with_reducible refine jaa (r:=?_) ?_ ?_);rotate_left;(focus (first|exact(h)));(conv=>whnf);refine V.st ?_)
 refine V.br (fun hq=>?_) (fun hq=>?_)
 ·simp only[Bool.not_eq_true'] at hq
  subst hq
  (conv=>whnf)
  refine V.st ?_
  exact Fin.of rfl
 ·simp only[Bool.not_eq_false'] at hq
  subst hq
  (conv=>whnf)
  refine V.st ?_
  exact Fin.of rfl
theorem ckb1_ok (g:Nat)(p q:Int)(x y e:Int)(n:Nat)(f:Nat→List D)(a c:Nat→Int)(hf:∀ j,j<n→f j=[.int .i64 (a j),.int .i64 (c j)])(hn:n<1000)
  (hv:∀ j,j<n→vb (a j) (c j)=true) (hg:Cl g [.ref [.int .i64 p,.int .i64 q]] (bD (x,y,e))) :
  Cl 182 [.fn g [] [.ref [.int .i64 p,.int .i64 q]],.slf 2 n f] (bD (x,y,e)):=by
 refine V.en tbOk Tryz.func182 ?_
 (conv=>whnf)
 refine V.st ?_
 refine jaf (0:Nat) (fun k=>k≤n) (fun k=>n-k) (fun k=>[(11,.int .i64 k)]) (fun _=>[]) ?_ ?_ ?_
 ·exact V.wk
 ·exact jit _
 intro k hk
 have hkc:((k:Int)+1)=((k+1:Nat):Int):=by omega
 have hfk:=hf k
 have hvk:=hv k
 have hvc:=jbL (a k) (c k)
 (conv=>whnf)
 refine V.st ?_
 refine V.br (fun hq=>?_) (fun hq=>?_)
 ·rw[decide_eq_true_eq] at hq
  rw[hvk (by omega)] at hvc
  (conv=>whnf)
  (try simp only[jiA,hfk (by omega),hkc])
  repeat ((first|refine V.s1 ?_);(try simp only[jiA,hfk (by omega),hkc]))
  (conv=>whnf)
  refine And.intro (fun _=>⟨by omega,by omega⟩) ?_
  refine V.r1 hkc hvc ?_
  exact⟨k+1,by omega,by omega,V.wk⟩
 ·rw[decide_eq_false_iff_not] at hq
  (conv=>whnf)
  refine V.st ?_
  repeat ((try ((with_reducible refine .ext ?_);(conv=>whnf)));(with_reducible refine jaa (r:=?_) ?_ ?_);rotate_left;(focus (first|exact(hg)));(conv=>whnf);refine V.st ?_)
  exact Fin.of rfl
theorem ckb1_no (g:Nat)(p q:Int)(x y e:Int)(n:Nat)(f:Nat→List D)(a c:Nat→Int)(hf:∀ j,j<n→f j=[.int .i64 (a j),.int .i64 (c j)])(hn:n<1000)
  (hv:∃ j,j<n∧vb (a j) (c j)=false) :
  Cl 182 [.fn g [] [.ref [.int .i64 p,.int .i64 q]],.slf 2 n f] (bD (0,0,30)):=by
 refine V.en tbOk Tryz.func182 ?_
 (conv=>whnf)
 refine V.st ?_
 refine jaf (0:Nat) (fun k=>k≤n ∧ ∀ j,j<k→vb (a j) (c j)=true) (fun k=>n-k) (fun k=>[(11,.int .i64 k)]) (fun _=>[]) ?_ ?_ ?_
 ·exact V.wk
 ·exact⟨jit _,fun j hj=>by omega⟩
 intro k hk
 have hkc:((k:Int)+1)=((k+1:Nat):Int):=by omega
 have hfk:=hf k
 have hvc:=jbL (a k) (c k)
 (conv=>whnf)
 refine V.st ?_
 refine V.br (fun hq=>?_) (fun hq=>?_)
 ·rw[decide_eq_true_eq] at hq
  generalize hvv:vb (a k) (c k)=v at *
  (conv=>whnf)
  (try simp only[jiA,hfk (by omega),hkc])
  repeat ((first|refine V.s1 ?_);(try simp only[jiA,hfk (by omega),hkc]))
  (conv=>whnf)
  refine And.intro (fun _=>⟨by omega,by omega⟩) ?_
  refine V.r1 hkc hvc ?_
  refine V.br (fun hz=>?_) (fun hz=>?_)
  ·refine V.r0 hkc ?_
   exact Fin.of rfl
  ·simp only[Bool.not_eq_false'] at hz
   refine V.r0 hkc ?_
   exact⟨k+1,⟨by omega,fun j hj=>by
    rcases jiI j k with h|h
    ·exact hk.2 j h
    ·rw[show j=k by omega,hvv,hz]⟩,by omega,V.wk⟩
 ·rw[decide_eq_false_iff_not] at hq
  obtain⟨j,hj,hv⟩:=hv
  rw[hk.2 j (by omega)] at hv
  cases hv
theorem jh5 (g:Nat)(p q p2 q2:Int)(x y e:Int)(n:Nat)(f:Nat→List D)(a c:Nat→Int)(hf:∀ j,j<n→f j=[.int .i64 (a j),.int .i64 (c j)])(hn:n<1000)
  (hv:∀ j,j<n→vb (a j) (c j)=true) (hg:Cl g [.ref [.int .i64 p,.int .i64 q],.ref [.int .i64 p2,.int .i64 q2]] (bD (x,y,e))) :
  Cl 182 [.fn g [] [.ref [.int .i64 p,.int .i64 q],.ref [.int .i64 p2,.int .i64 q2]],.slf 2 n f] (bD (x,y,e)):=by
 refine V.en tbOk Tryz.func182 ?_
 (conv=>whnf)
 refine V.st ?_
 refine jaf (0:Nat) (fun k=>k≤n) (fun k=>n-k) (fun k=>[(11,.int .i64 k)]) (fun _=>[]) ?_ ?_ ?_
 ·exact V.wk
 ·exact jit _
 intro k hk
 have hkc:((k:Int)+1)=((k+1:Nat):Int):=by omega
 have hfk:=hf k
 have hvk:=hv k
 have hvc:=jbL (a k) (c k)
 (conv=>whnf)
 refine V.st ?_
 refine V.br (fun hq=>?_) (fun hq=>?_)
 ·rw[decide_eq_true_eq] at hq
  rw[hvk (by omega)] at hvc
  (conv=>whnf)
  (try simp only[jiA,hfk (by omega),hkc])
  repeat ((first|refine V.s1 ?_);(try simp only[jiA,hfk (by omega),hkc]))
  (conv=>whnf)
  refine And.intro (fun _=>⟨by omega,by omega⟩) ?_
  refine V.r1 hkc hvc ?_
  exact⟨k+1,by omega,by omega,V.wk⟩
 ·rw[decide_eq_false_iff_not] at hq
  (conv=>whnf)
  refine V.st ?_
  repeat ((try ((with_reducible refine .ext ?_);(conv=>whnf)));(with_reducible refine jaa (r:=?_) ?_ ?_);rotate_left;(focus (first|exact(hg)));(conv=>whnf);refine V.st ?_)
  exact Fin.of rfl
theorem jh6 (g:Nat)(p q p2 q2:Int)(x y e:Int)(n:Nat)(f:Nat→List D)(a c:Nat→Int)(hf:∀ j,j<n→f j=[.int .i64 (a j),.int .i64 (c j)])(hn:n<1000)
  (hv:∃ j,j<n∧vb (a j) (c j)=false) :
  Cl 182 [.fn g [] [.ref [.int .i64 p,.int .i64 q],.ref [.int .i64 p2,.int .i64 q2]],.slf 2 n f] (bD (0,0,30)):=by
 refine V.en tbOk Tryz.func182 ?_
 (conv=>whnf)
 refine V.st ?_
 refine jaf (0:Nat) (fun k=>k≤n ∧ ∀ j,j<k→vb (a j) (c j)=true) (fun k=>n-k) (fun k=>[(11,.int .i64 k)]) (fun _=>[]) ?_ ?_ ?_
 ·exact V.wk
 ·exact⟨jit _,fun j hj=>by omega⟩
 intro k hk
 have hkc:((k:Int)+1)=((k+1:Nat):Int):=by omega
 have hfk:=hf k
 have hvc:=jbL (a k) (c k)
 (conv=>whnf)
 refine V.st ?_
 refine V.br (fun hq=>?_) (fun hq=>?_)
 ·rw[decide_eq_true_eq] at hq
  generalize hvv:vb (a k) (c k)=v at *
  (conv=>whnf)
  (try simp only[jiA,hfk (by omega),hkc])
  repeat ((first|refine V.s1 ?_);(try simp only[jiA,hfk (by omega),hkc]))
  (conv=>whnf)
  refine And.intro (fun _=>⟨by omega,by omega⟩) ?_
  refine V.r1 hkc hvc ?_
  refine V.br (fun hz=>?_) (fun hz=>?_)
  ·refine V.r0 hkc ?_
   exact Fin.of rfl
  ·simp only[Bool.not_eq_false'] at hz
   refine V.r0 hkc ?_
   exact⟨k+1,⟨by omega,fun j hj=>by
    rcases jiI j k with h|h
    ·exact hk.2 j h
    ·rw[show j=k by omega,hvv,hz]⟩,by omega,V.wk⟩
 ·rw[decide_eq_false_iff_not] at hq
  obtain⟨j,hj,hv⟩:=hv
  rw[hk.2 j (by omega)] at hv
  cases hv
theorem ckb3_ok (g:Nat)(p q m n0:Int)(x y e:Int)(n:Nat)(f:Nat→List D)(a c:Nat→Int)(hf:∀ j,j<n→f j=[.int .i64 (a j),.int .i64 (c j)])(hn:n<1000)
  (hv:∀ j,j<n→vb (a j) (c j)=true) (hg:Cl g [.ref [.int .i64 m],.ref [.int .i64 n0],.ref [.int .i64 p,.int .i64 q]] (bD (x,y,e))) :
  Cl 182 [.fn g [] [.ref [.int .i64 m],.ref [.int .i64 n0],.ref [.int .i64 p,.int .i64 q]],.slf 2 n f] (bD (x,y,e)):=by
 refine V.en tbOk Tryz.func182 ?_
 (conv=>whnf)
 refine V.st ?_
 refine jaf (0:Nat) (fun k=>k≤n) (fun k=>n-k) (fun k=>[(11,.int .i64 k)]) (fun _=>[]) ?_ ?_ ?_
 ·exact V.wk
 ·exact jit _
 intro k hk
 have hkc:((k:Int)+1)=((k+1:Nat):Int):=by omega
 have hfk:=hf k
 have hvk:=hv k
 have hvc:=jbL (a k) (c k)
 (conv=>whnf)
 refine V.st ?_
 refine V.br (fun hq=>?_) (fun hq=>?_)
 ·rw[decide_eq_true_eq] at hq
  rw[hvk (by omega)] at hvc
  (conv=>whnf)
  (try simp only[jiA,hfk (by omega),hkc])
  repeat ((first|refine V.s1 ?_);(try simp only[jiA,hfk (by omega),hkc]))
  (conv=>whnf)
  refine And.intro (fun _=>⟨by omega,by omega⟩) ?_
  refine V.r1 hkc hvc ?_
  exact⟨k+1,by omega,by omega,V.wk⟩
 ·rw[decide_eq_false_iff_not] at hq
  (conv=>whnf)
  refine V.st ?_
  repeat ((try ((with_reducible refine .ext ?_);(conv=>whnf)));(with_reducible refine jaa (r:=?_) ?_ ?_);rotate_left;(focus (first|exact(hg)));(conv=>whnf);refine V.st ?_)
  exact Fin.of rfl
theorem ckb3_no (g:Nat)(p q m n0:Int)(x y e:Int)(n:Nat)(f:Nat→List D)(a c:Nat→Int)(hf:∀ j,j<n→f j=[.int .i64 (a j),.int .i64 (c j)])(hn:n<1000)
  (hv:∃ j,j<n∧vb (a j) (c j)=false) :
  Cl 182 [.fn g [] [.ref [.int .i64 m],.ref [.int .i64 n0],.ref [.int .i64 p,.int .i64 q]],.slf 2 n f] (bD (0,0,30)):=by
 refine V.en tbOk Tryz.func182 ?_
 (conv=>whnf)
 refine V.st ?_
 refine jaf (0:Nat) (fun k=>k≤n ∧ ∀ j,j<k→vb (a j) (c j)=true) (fun k=>n-k) (fun k=>[(11,.int .i64 k)]) (fun _=>[]) ?_ ?_ ?_
 ·exact V.wk
 ·exact⟨jit _,fun j hj=>by omega⟩
 intro k hk
 have hkc:((k:Int)+1)=((k+1:Nat):Int):=by omega
 have hfk:=hf k
 have hvc:=jbL (a k) (c k)
 (conv=>whnf)
 refine V.st ?_
 refine V.br (fun hq=>?_) (fun hq=>?_)
 ·rw[decide_eq_true_eq] at hq
  generalize hvv:vb (a k) (c k)=v at *
  (conv=>whnf)
  (try simp only[jiA,hfk (by omega),hkc])
  repeat ((first|refine V.s1 ?_);(try simp only[jiA,hfk (by omega),hkc]))
  (conv=>whnf)
  refine And.intro (fun _=>⟨by omega,by omega⟩) ?_
  refine V.r1 hkc hvc ?_
  refine V.br (fun hz=>?_) (fun hz=>?_)
  ·refine V.r0 hkc ?_
   exact Fin.of rfl
  ·simp only[Bool.not_eq_false'] at hz
   refine V.r0 hkc ?_
   exact⟨k+1,⟨by omega,fun j hj=>by
    rcases jiI j k with h|h
    ·exact hk.2 j h
    ·rw[show j=k by omega,hvv,hz]⟩,by omega,V.wk⟩
 ·rw[decide_eq_false_iff_not] at hq
  obtain⟨j,hj,hv⟩:=hv
  rw[hk.2 j (by omega)] at hv
  cases hv
theorem jh3 (g:Nat)(p q p2 q2 m:Int)(x y e:Int)(n:Nat)(f:Nat→List D)(a c:Nat→Int)(hf:∀ j,j<n→f j=[.int .i64 (a j),.int .i64 (c j)])(hn:n<1000)
  (hv:∀ j,j<n→vb (a j) (c j)=true) (hg:Cl g [.ref [.int .i64 p,.int .i64 q],.ref [.int .i64 p2,.int .i64 q2],.ref [.int .i64 m]] (bD (x,y,e))) :
  Cl 182 [.fn g [] [.ref [.int .i64 p,.int .i64 q],.ref [.int .i64 p2,.int .i64 q2],.ref [.int .i64 m]],.slf 2 n f] (bD (x,y,e)):=by
 refine V.en tbOk Tryz.func182 ?_
 (conv=>whnf)
 refine V.st ?_
 refine jaf (0:Nat) (fun k=>k≤n) (fun k=>n-k) (fun k=>[(11,.int .i64 k)]) (fun _=>[]) ?_ ?_ ?_
 ·exact V.wk
 ·exact jit _
 intro k hk
 have hkc:((k:Int)+1)=((k+1:Nat):Int):=by omega
 have hfk:=hf k
 have hvk:=hv k
 have hvc:=jbL (a k) (c k)
 (conv=>whnf)
 refine V.st ?_
 refine V.br (fun hq=>?_) (fun hq=>?_)
 ·rw[decide_eq_true_eq] at hq
  rw[hvk (by omega)] at hvc
  (conv=>whnf)
  (try simp only[jiA,hfk (by omega),hkc])
  repeat ((first|refine V.s1 ?_);(try simp only[jiA,hfk (by omega),hkc]))
  (conv=>whnf)
  refine And.intro (fun _=>⟨by omega,by omega⟩) ?_
  refine V.r1 hkc hvc ?_
  exact⟨k+1,by omega,by omega,V.wk⟩
 ·rw[decide_eq_false_iff_not] at hq
  (conv=>whnf)
  refine V.st ?_
  repeat ((try ((with_reducible refine .ext ?_);(conv=>whnf)));(with_reducible refine jaa (r:=?_) ?_ ?_);rotate_left;(focus (first|exact(hg)));(conv=>whnf);refine V.st ?_)
  exact Fin.of rfl
theorem jh4 (g:Nat)(p q p2 q2 m:Int)(x y e:Int)(n:Nat)(f:Nat→List D)(a c:Nat→Int)(hf:∀ j,j<n→f j=[.int .i64 (a j),.int .i64 (c j)])(hn:n<1000)
  (hv:∃ j,j<n∧vb (a j) (c j)=false) :
  Cl 182 [.fn g [] [.ref [.int .i64 p,.int .i64 q],.ref [.int .i64 p2,.int .i64 q2],.ref [.int .i64 m]],.slf 2 n f] (bD (0,0,30)):=by
 refine V.en tbOk Tryz.func182 ?_
 (conv=>whnf)
 refine V.st ?_
 refine jaf (0:Nat) (fun k=>k≤n ∧ ∀ j,j<k→vb (a j) (c j)=true) (fun k=>n-k) (fun k=>[(11,.int .i64 k)]) (fun _=>[]) ?_ ?_ ?_
 ·exact V.wk
 ·exact⟨jit _,fun j hj=>by omega⟩
 intro k hk
 have hkc:((k:Int)+1)=((k+1:Nat):Int):=by omega
 have hfk:=hf k
 have hvc:=jbL (a k) (c k)
 (conv=>whnf)
 refine V.st ?_
 refine V.br (fun hq=>?_) (fun hq=>?_)
 ·rw[decide_eq_true_eq] at hq
  generalize hvv:vb (a k) (c k)=v at *
  (conv=>whnf)
  (try simp only[jiA,hfk (by omega),hkc])
  repeat ((first|refine V.s1 ?_);(try simp only[jiA,hfk (by omega),hkc]))
  (conv=>whnf)
  refine And.intro (fun _=>⟨by omega,by omega⟩) ?_
  refine V.r1 hkc hvc ?_
  refine V.br (fun hz=>?_) (fun hz=>?_)
  ·refine V.r0 hkc ?_
   exact Fin.of rfl
  ·simp only[Bool.not_eq_false'] at hz
   refine V.r0 hkc ?_
   exact⟨k+1,⟨by omega,fun j hj=>by
    rcases jiI j k with h|h
    ·exact hk.2 j h
    ·rw[show j=k by omega,hvv,hz]⟩,by omega,V.wk⟩
 ·rw[decide_eq_false_iff_not] at hq
  obtain⟨j,hj,hv⟩:=hv
  rw[hk.2 j (by omega)] at hv
  cases hv
def bA (p q:Int):D := .agg [.int .i64 p,.int .i64 q]
def l1 (p q:Int):Nat→List D:=fun j=>List.take 2 (List.drop (0+j*2) [.int .i64 p,.int .i64 q])
def l2 (p q p2 q2:Int):Nat→List D:=fun j=>List.take 2 (List.drop (0+j*2) [.int .i64 p,.int .i64 q,.int .i64 p2,.int .i64 q2])
theorem l1_c (p q:Int):∀ j,j<1→l1 p q j=[.int .i64 ((fun _=>p) j),.int .i64 ((fun _=>q) j)]:=fun j hj=>by
 have h0:j=0:=by omega
 subst h0;rfl
def sel_o (x y:Int):Nat→Int:=fun j=>if j=0 then x else y
theorem l2_c (p q p2 q2:Int):∀ j,j<2→l2 p q p2 q2 j=[.int .i64 (sel_o p p2 j),.int .i64 (sel_o q q2 j)]:=fun j hj=>by
 rcases (by omega:j=0∨j=1) with e|e
 ·subst e;rfl
 ·subst e;rfl
theorem jfA {p q p2 q2:Int}(h:vb p q=true)(h2:vb p2 q2=true):∀ j,j<2→vb (sel_o p p2 j) (sel_o q q2 j)=true:=fun j hj=>by
 rcases (by omega:j=0∨j=1) with e|e
 ·subst e;exact h
 ·subst e;exact h2
theorem jfB {p q p2 q2:Int}(h:¬ (vb p q=true∧vb p2 q2=true)):∃ j,j<2∧vb (sel_o p p2 j) (sel_o q q2 j)=false:=by
 by_cases h1:vb p q=true
 ·have h3:¬ vb p2 q2=true:=fun h2=>h ⟨h1,h2⟩
  exact⟨1,by omega,Bool.eq_false_iff.2 h3⟩
 ·exact⟨0,by omega,Bool.eq_false_iff.2 h1⟩
theorem one_no {p q:Int}(h:¬ vb p q=true):∃ j,j<1∧vb ((fun _=>p) j) ((fun _=>q) j)=false:=⟨0,by omega,Bool.eq_false_iff.2 h⟩
theorem neg_b (p q:Int):Cl 106 [bA p q] (bD (if vb p q=true then mk (0-q) (0-p) else (0,0,30))):=by
 by_cases hv:vb p q=true
 ·rw[if_pos hv]
  have hb:=jaz.1 hv
  have hc:Cl 191 [.ref [.int .i64 p,.int .i64 q]] (bD (mk (0-q) (0-p))):=by
   have hm:=jeR (0-q) (0-p)
   generalize mk (0-q) (0-p)=r at *
   refine V.en tbOk Tryz.func191 ?_
   (conv=>whnf)
   refine V.st ?_
   repeat ((try ((with_reducible refine .ext ?_);(conv=>whnf)));(with_reducible refine jaa (r:=?_) ?_ ?_);rotate_left;(focus (first|exact(hm)));(conv=>whnf);refine V.st ?_)
   exact Fin.of rfl
  have hk:=ckb1_ok 191 p q (mk (0-q) (0-p)).1 (mk (0-q) (0-p)).2.1 (mk (0-q) (0-p)).2.2 1 (l1 p q) (fun _=>p) (fun _=>q) (l1_c p q) (by omega) (fun _ _=>hv) hc
  generalize mk (0-q) (0-p)=r at *
  refine V.en tbOk Tryz.func106 ?_
  (conv=>whnf)
  refine V.st ?_
  repeat ((try ((with_reducible refine .ext ?_);(conv=>whnf)));(with_reducible refine jaa (r:=?_) ?_ ?_);rotate_left;(focus (first|exact(hk)));(conv=>whnf);refine V.st ?_)
  exact Fin.of rfl
 ·rw[if_neg hv]
  have hk:=ckb1_no 191 p q 0 0 0 1 (l1 p q) (fun _=>p) (fun _=>q) (l1_c p q) (by omega) (one_no hv)
  refine V.en tbOk Tryz.func106 ?_
  (conv=>whnf)
  refine V.st ?_
  repeat ((try ((with_reducible refine .ext ?_);(conv=>whnf)));(with_reducible refine jaa (r:=?_) ?_ ?_);rotate_left;(focus (first|exact(hk)));(conv=>whnf);refine V.st ?_)
  exact Fin.of rfl
theorem add_b (p q p2 q2:Int):Cl 100 [bA p q,bA p2 q2] (bD (if vb p q=true∧vb p2 q2=true then mk (p+p2) (q+q2) else (0,0,30))):=by
 by_cases hv:vb p q=true∧vb p2 q2=true
 ·rw[if_pos hv]
  have hb:=jaz.1 hv.1
  have hb2:=jaz.1 hv.2
  have hc:Cl 183 [.ref [.int .i64 p,.int .i64 q],.ref [.int .i64 p2,.int .i64 q2]] (bD (mk (p+p2) (q+q2))):=by
   have hm:=jeR (p+p2) (q+q2)
   generalize mk (p+p2) (q+q2)=r at *
   refine V.en tbOk Tryz.func183 ?_
   (conv=>whnf)
   refine V.st ?_
   repeat ((try ((with_reducible refine .ext ?_);(conv=>whnf)));(with_reducible refine jaa (r:=?_) ?_ ?_);rotate_left;(focus (first|exact(hm)));(conv=>whnf);refine V.st ?_)
   exact Fin.of rfl
  have hk:=jh5 183 p q p2 q2 (mk (p+p2) (q+q2)).1 (mk (p+p2) (q+q2)).2.1 (mk (p+p2) (q+q2)).2.2 2 (l2 p q p2 q2) (sel_o p p2) (sel_o q q2) (l2_c p q p2 q2) (by omega) (jfA hv.1 hv.2) hc
  generalize mk (p+p2) (q+q2)=r at *
  refine V.en tbOk Tryz.func100 ?_
  (conv=>whnf)
  refine V.st ?_
  repeat ((try ((with_reducible refine .ext ?_);(conv=>whnf)));(with_reducible refine jaa (r:=?_) ?_ ?_);rotate_left;(focus (first|exact(hk)));(conv=>whnf);refine V.st ?_)
  exact Fin.of rfl
 ·rw[if_neg hv]
  have hk:=jh6 183 p q p2 q2 0 0 0 2 (l2 p q p2 q2) (sel_o p p2) (sel_o q q2) (l2_c p q p2 q2) (by omega) (jfB hv)
  refine V.en tbOk Tryz.func100 ?_
  (conv=>whnf)
  refine V.st ?_
  repeat ((try ((with_reducible refine .ext ?_);(conv=>whnf)));(with_reducible refine jaa (r:=?_) ?_ ?_);rotate_left;(focus (first|exact(hk)));(conv=>whnf);refine V.st ?_)
  exact Fin.of rfl
theorem sub_b (p q p2 q2:Int):Cl 101 [bA p q,bA p2 q2] (bD (if vb p q=true∧vb p2 q2=true then mk (p-q2) (q-p2) else (0,0,30))):=by
 by_cases hv:vb p q=true∧vb p2 q2=true
 ·rw[if_pos hv]
  have hb:=jaz.1 hv.1
  have hb2:=jaz.1 hv.2
  have hc:Cl 184 [.ref [.int .i64 p,.int .i64 q],.ref [.int .i64 p2,.int .i64 q2]] (bD (mk (p-q2) (q-p2))):=by
   have hm:=jeR (p-q2) (q-p2)
   generalize mk (p-q2) (q-p2)=r at *
   refine V.en tbOk Tryz.func184 ?_
   (conv=>whnf)
   refine V.st ?_
   repeat ((try ((with_reducible refine .ext ?_);(conv=>whnf)));(with_reducible refine jaa (r:=?_) ?_ ?_);rotate_left;(focus (first|exact(hm)));(conv=>whnf);refine V.st ?_)
   exact Fin.of rfl
  have hk:=jh5 184 p q p2 q2 (mk (p-q2) (q-p2)).1 (mk (p-q2) (q-p2)).2.1 (mk (p-q2) (q-p2)).2.2 2 (l2 p q p2 q2) (sel_o p p2) (sel_o q q2) (l2_c p q p2 q2) (by omega) (jfA hv.1 hv.2) hc
  generalize mk (p-q2) (q-p2)=r at *
  refine V.en tbOk Tryz.func101 ?_
  (conv=>whnf)
  refine V.st ?_
  repeat ((try ((with_reducible refine .ext ?_);(conv=>whnf)));(with_reducible refine jaa (r:=?_) ?_ ?_);rotate_left;(focus (first|exact(hk)));(conv=>whnf);refine V.st ?_)
  exact Fin.of rfl
 ·rw[if_neg hv]
  have hk:=jh6 184 p q p2 q2 0 0 0 2 (l2 p q p2 q2) (sel_o p p2) (sel_o q q2) (l2_c p q p2 q2) (by omega) (jfB hv)
  refine V.en tbOk Tryz.func101 ?_
  (conv=>whnf)
  refine V.st ?_
  repeat ((try ((with_reducible refine .ext ?_);(conv=>whnf)));(with_reducible refine jaa (r:=?_) ?_ ?_);rotate_left;(focus (first|exact(hk)));(conv=>whnf);refine V.st ?_)
  exact Fin.of rfl
def mx:List Int→Int
 | []=>0
 | x::xs=>xs.foldl max x
theorem jfy {op:Int→Int→Int}{x:Int}{xs:List Int}{k:Nat}(h:k<xs.length):(xs.take (k+1)).foldl op x=op ((xs.take k).foldl op x) (xs.getD k 0):=by
 rw[List.take_add_one,List.foldl_append,ji3,ji6 h]
 rfl
theorem jio:type_of% @List.getD_cons_succ.{0} ∧ type_of% @jji := ⟨@List.getD_cons_succ.{0},@jji⟩
theorem minS_c (x:Int)(xs:List Int)(hl:xs.length<1000):Cl 252 [.ints .i64 (x::xs)] (.int .i64 (xs.foldl min x)):=by
 refine V.en tbOk Tryz.func252 ?_
 (conv=>whnf)
 refine V.st ?_
 refine V.br (fun h0=>?_) (fun h0=>?_)
 ·rw[decide_eq_true_eq,jji] at h0
  omega
 ·refine V.r0 @jji ?_
  refine jaf (0:Nat) (fun k=>k≤xs.length) (fun k=>xs.length-k) (fun k=>[(4,.int .i64 ((k+1:Nat):Int)),(3,.int .i64 ((xs.take k).foldl min x))]) (fun _=>[]) ?_ ?_ ?_
  ·exact V.wk
  ·exact jit _
  intro k hk
  have hkc:(((k+1:Nat):Int)+1)=((k+1+1:Nat):Int):=by omega
  have hi:((k+1:Nat):Int).toNat=k+1:=by omega
  (conv=>whnf)
  (try simp only[jio,hkc,hi])
  repeat ((first|refine V.s1 ?_);(try simp only[jio,hkc,hi]))
  refine V.br (fun hq=>?_) (fun hq=>?_)
  ·rw[decide_eq_true_eq] at hq
   have ht:=jfy (op:=min) (x:=x) (xs:=xs) (k:=k) (by omega)
   (conv=>whnf)
   (try simp only[jio,hkc,hi])
   repeat ((first|refine V.s1 ?_);(try simp only[jio,hkc,hi]))
   refine⟨k+1,by omega,by omega,?_⟩
   rw[ht]
   exact V.wk
  ·rw[decide_eq_false_iff_not] at hq
   have hk2:k=xs.length:=by omega
   refine V.r0 (V.a2 hk2 @jjs) ?_
   exact Fin.of rfl
theorem maxS_c (x:Int)(xs:List Int)(hl:xs.length<1000):Cl 232 [.ints .i64 (x::xs)] (.int .i64 (xs.foldl max x)):=by
 refine V.en tbOk Tryz.func232 ?_
 (conv=>whnf)
 refine V.st ?_
 refine V.br (fun h0=>?_) (fun h0=>?_)
 ·rw[decide_eq_true_eq,jji] at h0
  omega
 ·refine V.r0 @jji ?_
  refine jaf (0:Nat) (fun k=>k≤xs.length) (fun k=>xs.length-k) (fun k=>[(4,.int .i64 ((k+1:Nat):Int)),(3,.int .i64 ((xs.take k).foldl max x))]) (fun _=>[]) ?_ ?_ ?_
  ·exact V.wk
  ·exact jit _
  intro k hk
  have hkc:(((k+1:Nat):Int)+1)=((k+1+1:Nat):Int):=by omega
  have hi:((k+1:Nat):Int).toNat=k+1:=by omega
  (conv=>whnf)
  (try simp only[jio,hkc,hi])
  repeat ((first|refine V.s1 ?_);(try simp only[jio,hkc,hi]))
  refine V.br (fun hq=>?_) (fun hq=>?_)
  ·rw[decide_eq_true_eq] at hq
   have ht:=jfy (op:=max) (x:=x) (xs:=xs) (k:=k) (by omega)
   (conv=>whnf)
   (try simp only[jio,hkc,hi])
   repeat ((first|refine V.s1 ?_);(try simp only[jio,hkc,hi]))
   refine⟨k+1,by omega,by omega,?_⟩
   rw[ht]
   exact V.wk
  ·rw[decide_eq_false_iff_not] at hq
   have hk2:k=xs.length:=by omega
   refine V.r0 (V.a2 hk2 @jjs) ?_
   exact Fin.of rfl
theorem jgn (x:Int)(xs:List Int)(hl:xs.length<1000):Cl 228 [.ints .i64 (x::xs)] (.int .i64 (xs.foldl min x)):=by
 have h:=minS_c x xs hl
 refine V.en tbOk Tryz.func228 ?_
 (conv=>whnf)
 refine V.st ?_
 repeat ((try ((with_reducible refine .ext ?_);(conv=>whnf)));(with_reducible refine jaa (r:=?_) ?_ ?_);rotate_left;(focus (first|exact(h)));(conv=>whnf);refine V.st ?_)
 exact Fin.of rfl
theorem jbZ (x:Int)(xs:List Int)(hl:xs.length<1000):Cl 193 [.ints .i64 (x::xs)] (.int .i64 (xs.foldl max x)):=by
 have h:=maxS_c x xs hl
 refine V.en tbOk Tryz.func193 ?_
 (conv=>whnf)
 refine V.st ?_
 repeat ((try ((with_reducible refine .ext ?_);(conv=>whnf)));(with_reducible refine jaa (r:=?_) ?_ ?_);rotate_left;(focus (first|exact(h)));(conv=>whnf);refine V.st ?_)
 exact Fin.of rfl
theorem check_b (p q:Int):Cl 50 [bA p q] (.int .i64 (if vb p q=true then 0 else 30)):=by
 have h:=jbL p q
 generalize vb p q=v at *
 refine V.en tbOk Tryz.func50 ?_
 (conv=>whnf)
 refine V.st ?_
 repeat ((try ((with_reducible refine .ext ?_);(conv=>whnf)));(with_reducible refine jaa (r:=?_) ?_ ?_);rotate_left;(focus (first|exact(h)));(conv=>whnf);refine V.st ?_)
 refine V.br (fun hq=>?_) (fun hq=>?_)
 ·simp at hq
  subst hq
  (conv=>whnf)
  refine V.st ?_
  exact Fin.of rfl
 ·simp at hq
  subst hq
  (conv=>whnf)
  refine V.st ?_
  exact Fin.of rfl
theorem abs_b (p q:Int):Cl 107 [bA p q] (bD (if vb p q=true then mk (max (max p (0-q)) 0) (max (0-p) q) else (0,0,30))):=by
 by_cases hv:vb p q=true
 ·rw[if_pos hv]
  have hb:=jaz.1 hv
  have hc:Cl 192 [.ref [.int .i64 p,.int .i64 q]] (bD (mk (max (max p (0-q)) 0) (max (0-p) q))):=by
   have g1:=jbZ p [0-q,0] (by simp)
   have g2:=jbZ (0-p) [q] (by simp)
   have hm:=jeR (max (max p (0-q)) 0) (max (0-p) q)
   rw[show [0-q,0].foldl max p=max (max p (0-q)) 0 from rfl] at g1
   rw[show [q].foldl max (0-p)=max (0-p) q from rfl] at g2
   generalize max (max p (0-q)) 0=a at *
   generalize max (0-p) q=c at *
   generalize mk a c=r at *
   refine V.en tbOk Tryz.func192 ?_
   (conv=>whnf)
   refine V.st ?_
   refine⟨(V.tk [0,1,2,3,4,7,8,9,10,11] (.ev (.cons 5 [11,10,9,8,7] (.ev (.cons 6 [11,10,9,8,7] (V.e1 12 [] (V.e1 13 [] (V.e1 14 [] (V.tk [15,16] (V.e1 17 [] (V.tk [18] .done)))))) (.cons 12 [] (V.e1 6 [] (V.e1 13 [] (V.e1 14 [] (V.tk [15,16] (V.e1 17 [] (V.tk [18] .done)))))) .nil))) (.cons 12 [4,3,2,1,0] (V.e1 5 [] (V.e1 6 [] (V.e1 13 [] (V.e1 14 [] (V.tk [15,16] (V.e1 17 [] (V.tk [18] .done))))))) .nil)))),[],V.pok,?_⟩
   refine jas [(2,.int .i64 r.2.2)] [(1,.box [.int .i64 r.1,.int .i64 r.2.1])] ?_ ?_
   ·exact V.d3 @jiy g1 g2 hm
   (conv=>whnf)
   refine V.st ?_
   exact Fin.of rfl
  have hk:=ckb1_ok 192 p q (mk (max (max p (0-q)) 0) (max (0-p) q)).1 (mk (max (max p (0-q)) 0) (max (0-p) q)).2.1 (mk (max (max p (0-q)) 0) (max (0-p) q)).2.2 1 (l1 p q) (fun _=>p) (fun _=>q) (l1_c p q) (by omega) (fun _ _=>hv) hc
  generalize mk (max (max p (0-q)) 0) (max (0-p) q)=r at *
  refine V.en tbOk Tryz.func107 ?_
  (conv=>whnf)
  refine V.st ?_
  repeat ((try ((with_reducible refine .ext ?_);(conv=>whnf)));(with_reducible refine jaa (r:=?_) ?_ ?_);rotate_left;(focus (first|exact(hk)));(conv=>whnf);refine V.st ?_)
  exact Fin.of rfl
 ·rw[if_neg hv]
  have hk:=ckb1_no 192 p q 0 0 0 1 (l1 p q) (fun _=>p) (fun _=>q) (l1_c p q) (by omega) (one_no hv)
  refine V.en tbOk Tryz.func107 ?_
  (conv=>whnf)
  refine V.st ?_
  repeat ((try ((with_reducible refine .ext ?_);(conv=>whnf)));(with_reducible refine jaa (r:=?_) ?_ ?_);rotate_left;(focus (first|exact(hk)));(conv=>whnf);refine V.st ?_)
  exact Fin.of rfl
theorem near_f (s t:List UInt8)(sc:Nat)(h:okP s t=true)(h1:1≤sc)(h2:sc≤1000000000000)(hz : -9223372036854775808≤nearZ (qv s t) sc∧nearZ (qv s t) sc≤9223372036854775807) :
  Cl 178 [.agg [.str s,.str t],.int .i64 sc] (.tup [.int .i64 (nearZ (qv s t) sc),.int .i64 0]):=by
 have r1:=jdR s t h
 have q1:=jf7 h
 have f1:=jdi sc (by omega)
 have lsc:(mg 1000000000 sc).length≤2:=jap (by omega) (by omega)
 have n1:=near_r (qv s t) sc (q1.1.mono (by omega)) (jiC q1.2 (by omega)) (by omega)
 clear q1
 generalize nearZ (qv s t) sc=z at *
 have lz:(mg 1000000000 z.natAbs).length≤3:=jap (by omega) (by omega)
 have x1:=ftext_c z (by omega)
 have i1:=int_c z hz.1 hz.2
 clear lz lsc
 unfold rtD at *
 refine V.en tbOk Tryz.func178 ?_
 (conv=>whnf)
 refine V.st ?_
 repeat ((try ((with_reducible refine .ext ?_);(conv=>whnf)));(with_reducible refine jaa (r:=?_) ?_ ?_);rotate_left;(focus (first|exact(r1)));(conv=>whnf);refine V.st ?_)
 refine V.br (fun g1=>?_) (fun g1=>?_)
 ·simp at g1
  omega
 ·(conv=>whnf)
  refine V.st ?_
  refine⟨(V.tk [0,1,2] (V.e1 3 [0] (V.e1 4 [] (V.e1 5 [] (V.e1 6 [] (V.tk [7,8,9,10,11] .done)))))),[],V.pok,.go (jab ?_)⟩
  (conv=>whnf)
  refine V.st ?_
  repeat ((try ((with_reducible refine .ext ?_);(conv=>whnf)));(with_reducible refine jaa (r:=?_) ?_ ?_);rotate_left;(focus (first|exact(f1)|exact(n1)|exact(x1)|exact(i1)));(conv=>whnf);refine V.st ?_)
  exact Fin.of rfl
theorem okP_dec_o {q:Rat}(h:okF q=true):okP (decZ q.num) (dec q.den)=true∧qv (decZ q.num) (dec q.den)=q:=by
 unfold okF at h
 simp only[jir,decide_eq_true_eq] at h
 have hdz:dec q.den=decZ (q.den:Int):=by unfold decZ;rw[if_neg (by omega),jiQ]
 have w1:wval (decZ q.num)=q.num:=jbk _
 have w2:wval (dec q.den)=(q.den:Int):=by rw[hdz];exact jbk _
 have o1:=jbS q.num h.1
 have o2:okW (dec q.den)=true:=by rw[hdz];exact jbS _ (by rw[jiQ];exact h.2)
 have hp:=q.den_pos
 constructor
 ·unfold okP
  rw[o1,o2,w1,w2]
  simp only[jir,decide_eq_true_eq,Bool.true_and,jiQ]
  exact⟨by omega,q.reduced⟩
 ·unfold qv
  rw[w1,w2]
  exact jiZ q
theorem okF_small {q:Rat}(h1:q.num.natAbs<10^20)(h2:q.den<10^20):okF q=true:=by
 unfold okF
 simp only[jir,decide_eq_true_eq]
 exact⟨jiC (ja0 20 _ (by omega) h1).1 (by omega),jiC (ja0 20 _ (by omega) h2).1 (by omega)⟩
theorem je9 (n:Int)(d:Nat)(hd:0<d):(Rat.divInt n d).num.natAbs≤n.natAbs∧(Rat.divInt n d).den≤d:=by
 obtain⟨h1,_,h3⟩:=jcX n d hd
 rw[h1,h3]
 exact⟨jiS _ _,jiS _ _⟩
theorem okF_unit (n:Int)(h : -9223372036854775808≤n∧n≤9223372036854775807):okF (Rat.divInt n 1000000000000)=true:=by
 have:=je9 n 1000000000000 (by omega)
 have e:Rat.divInt n 1000000000000=Rat.divInt n ((1000000000000:Nat):Int):=rfl
 rw[e]
 refine okF_small ?_ ?_
 ·exact Nat.lt_of_le_of_lt this.1 (by omega)
 ·exact Nat.lt_of_le_of_lt this.2 (by omega)
def unit (n:Int):Rat:=Rat.divInt n 1000000000000
theorem of_unit (n:Int)(h : -9223372036854775808≤n∧n≤9223372036854775807):Cl 77 [.int .i64 n,.int .i64 1000000000000] (.tup [.agg [.str (decZ (unit n).num),.str (dec (unit n).den)],.int .i64 0]):=by
 have h1:=of_c n 1000000000000 (by simp only[InR,V.lo,V.hi];omega) (by constructor<;>decide) (by decide)
 have h2:=okF_unit n h
 unfold frR at h1
 rw[h2] at h1
 exact h1
def jgB (x:Rat):Int×Int×Int:=if vb (nearZ x 1000000000000) (nearZ x 1000000000000)=true then mk (nearZ x 1000000000000+min (ordQ x (unit (nearZ x 1000000000000))) 0) (nearZ x 1000000000000+max (ordQ x (unit (nearZ x 1000000000000))) 0) else (0,0,6)
theorem ordQ_r (x y:Rat) : -1≤ordQ x y∧ordQ x y≤1:=by
 unfold ordQ;split
 ·omega
 ·split<;>omega
theorem around_b (s t:List UInt8)(h:okP s t=true)(hz : -9223372036854775808≤nearZ (qv s t) 1000000000000∧nearZ (qv s t) 1000000000000≤9223372036854775807) :
  Cl 98 [.agg [.str s,.str t]] (bD (jgB (qv s t))):=by
 have n1:=near_f s t 1000000000000 h (by omega) (by omega) hz
 unfold jgB
 generalize nearZ (qv s t) 1000000000000=n at *
 have o1:=of_unit n hz
 obtain⟨p1,p2⟩:=okP_dec_o (okF_unit n hz)
 have c1:=fcmp_ok s t (decZ (unit n).num) (dec (unit n).den) h p1
 rw[show qv (decZ (unit n).num) (dec (unit n).den)=unit n from p2] at c1
 have hr:=ordQ_r (qv s t) (unit n)
 generalize ordQ (qv s t) (unit n)=o at *
 generalize decZ (unit n).num=u at *
 generalize dec (unit n).den=v at *
 clear p1 p2 h
 have v1:=jbL n n
 have m1:=jeR (n+min o 0) (n+max o 0)
 by_cases hv:vb n n=true
 ·rw[if_pos hv]
  rw[hv] at v1
  have hb:=jaz.1 hv
  generalize mk (n+min o 0) (n+max o 0)=r at *
  refine V.en tbOk Tryz.func98 ?_
  (conv=>whnf)
  refine V.st ?_
  repeat ((try ((with_reducible refine .ext ?_);(conv=>whnf)));(with_reducible refine jaa (r:=?_) ?_ ?_);rotate_left;(focus (first|exact(n1)|exact(o1)|exact(c1)|exact(v1)|exact(m1)));(conv=>whnf);refine V.st ?_)
  exact Fin.of rfl
 ·rw[if_neg hv]
  rw[Bool.eq_false_iff.2 hv] at v1
  refine V.en tbOk Tryz.func98 ?_
  (conv=>whnf)
  refine V.st ?_
  repeat ((try ((with_reducible refine .ext ?_);(conv=>whnf)));(with_reducible refine jaa (r:=?_) ?_ ?_);rotate_left;(focus (first|exact(n1)|exact(o1)|exact(c1)|exact(v1)));(conv=>whnf);refine V.st ?_)
  exact Fin.of rfl
theorem size_c (x:Int)(h : -9223372036854775808<x):Cl 229 [.int .i64 x] (.int .u64 (x.natAbs:Int)):=by
 refine V.en tbOk Tryz.func229 ?_
 (conv=>whnf)
 refine V.st ?_
 refine V.br (fun hq=>?_) (fun hq=>?_)
 ·rw[decide_eq_true_eq] at hq
  have e:((x.natAbs:Nat):Int)=0-x:=by omega
  rw[e]
  (conv=>whnf)
  refine V.st ?_
  exact Fin.of rfl
 ·rw[decide_eq_false_iff_not] at hq
  have e:((x.natAbs:Nat):Int)=x:=by omega
  rw[e]
  (conv=>whnf)
  refine V.st ?_
  exact Fin.of rfl
theorem mul64_c (x y:Nat)(hx:x<18446744073709551616)(hy:y<18446744073709551616):Cl 125 [.int .u64 x,.int .u64 y] (.tup [.int .u64 (x*y/18446744073709551616:Nat),.int .u64 (x*y%18446744073709551616:Nat)]):=by
 refine jaL Tryz.func125 rfl rfl rfl fun w hp vs ha hd=>?_
 simp only[DenL,Den] at hd
 obtain⟨v,_,rfl,⟨rfl,h1⟩,v2,_,rfl,⟨rfl,h2⟩,rfl⟩:=hd
 refine(Tryz.bits_Mul64 x y hx hy w).mono fun e w' ⟨he,hw⟩=>⟨⟨_,he,fun hp=>?_⟩,?_⟩
 ·simp only[Den,DenL]
  have k1:x*y/18446744073709551616<18446744073709551616:=by
   refine Nat.div_lt_of_lt_mul ?_
   exact Nat.mul_lt_mul'' hx hy
  have k2:=jiF (x*y) (by omega:18446744073709551616>0)
  generalize x*y/18446744073709551616=a at *
  generalize x*y%18446744073709551616=c at *
  exact⟨_,rfl,_,_,rfl,⟨rfl,by constructor<;>simp only[V.lo,V.hi]<;>omega⟩,_,_,rfl,⟨rfl,by constructor<;>simp only[V.lo,V.hi]<;>omega⟩,rfl⟩
 ·rw[hw];exact RowKit.Below.refl _ _
def DivOk:Prop := ∀ hi lo y:Nat,hi<y→lo<18446744073709551616→y<18446744073709551616→Cl 230 [.int .u64 hi,.int .u64 lo,.int .u64 y] (.tup [.int .u64 ((hi*18446744073709551616+lo)/y:Nat),.int .u64 ((hi*18446744073709551616+lo)%y:Nat)])
def qneg (x y d:Int):Bool := !((!(decide (x<0) == decide (y<0))) == decide (d<0))
def qabs (x y d:Int)(up:Bool):Nat:=x.natAbs*y.natAbs/d.natAbs+(if 0<x.natAbs*y.natAbs%d.natAbs∧(up != qneg x y d)=true then 1 else 0)
def qok (x y d:Int)(up:Bool):Bool:=decide (qabs x y d up≤1000000000000000000)
def qval (x y d:Int)(up:Bool):Int:=if qok x y d up=true then (if qneg x y d=true then -(qabs x y d up:Int) else (qabs x y d up:Int)) else 0
theorem quotient_c (D64:DivOk)(x y d:Int)(up:Bool)(hx : -9223372036854775808<x∧x≤9223372036854775807)(hy : -9223372036854775808<y∧y≤9223372036854775807)(hd : -9223372036854775808<d∧d≤9223372036854775807)(hd0:d≠0) :
  Cl 188 [.int .i64 x,.int .i64 y,.int .i64 d,.bool up] (.tup [.int .i64 (qval x y d up),.bool (qok x y d up)]):=by
 have s1:=size_c x hx.1
 have s2:=size_c y hy.1
 have s3:=size_c d hd.1
 have m:=mul64_c x.natAbs y.natAbs (by omega) (by omega)
 unfold qval qok
 generalize hn:x.natAbs*y.natAbs=n at *
 refine V.en tbOk Tryz.func188 ?_
 (conv=>whnf)
 refine V.st ?_
 repeat ((try ((with_reducible refine .ext ?_);(conv=>whnf)));(with_reducible refine jaa (r:=?_) ?_ ?_);rotate_left;(focus (first|exact(s1)|exact(s2)|exact(m)|exact(s3)));(conv=>whnf);refine V.st ?_)
 have hdp:0<d.natAbs:=by omega
 refine V.br (fun h1=>?_) (fun h1=>?_)
 ·rw[decide_eq_true_eq] at h1
  have h2:n/d.natAbs≥18446744073709551616:=by
   refine(Nat.le_div_iff_mul_le hdp).2 ?_
   have h3:=Nat.div_mul_le_self n 18446744073709551616
   have h4:d.natAbs*18446744073709551616≤n/18446744073709551616*18446744073709551616:=jiD _ (by omega)
   omega
  have hq:¬ qabs x y d up≤1000000000000000000:=by unfold qabs;rw[hn];omega
  rw[decide_eq_false hq,if_neg (by simp)]
  (conv=>whnf)
  refine V.st ?_
  exact Fin.of rfl
 ·rw[decide_eq_false_iff_not] at h1
  have k:=D64 (n/18446744073709551616) (n%18446744073709551616) d.natAbs (by omega) (jiF _ (by omega)) (by omega)
  rw[show n/18446744073709551616*18446744073709551616+n%18446744073709551616=n by omega] at k
  have hqa:qabs x y d up=n/d.natAbs+(if 0<n%d.natAbs∧(up != qneg x y d)=true then 1 else 0):=by unfold qabs;rw[hn]
  have hneg:(!((!(decide (x<0) == decide (y<0))) == decide (d<0)))=qneg x y d:=rfl
  rw[hqa]
  have hrm:=jiF n hdp
  generalize n/d.natAbs=q at *
  generalize n%d.natAbs=r at *
  generalize qneg x y d=neg at *
  refine V.r2 hneg k s3 ?_
  refine V.br (fun h2=>?_) (fun h2=>?_)
  ·rw[decide_eq_true_eq] at h2
   have hq:¬ q+(if 0<r∧(up != neg)=true then 1 else 0)≤1000000000000000000:=by omega
   rw[decide_eq_false hq,if_neg (by simp)]
   refine V.r0 hneg ?_
   exact Fin.of rfl
  ·rw[decide_eq_false_iff_not] at h2
   refine V.r0 hneg ?_
   refine V.br (fun h3=>?_) (fun h3=>?_)
   ·simp only[jir,decide_eq_true_eq] at h3
    have hc:0<r∧(up != neg)=true:=⟨by omega,h3.2⟩
    rw[if_pos hc]
    obtain⟨z,hz⟩:∃ z:Nat,q+1=z:=⟨_,rfl⟩
    have e1:(q:Int)+1=(z:Int):=by omega
    rw[hz]
    (conv=>whnf)
    (try simp only[hneg,e1])
    repeat ((first|refine V.s1 ?_);(try simp only[hneg,e1]))
    refine V.br (fun h4=>?_) (fun h4=>?_)
    ·rw[decide_eq_true_eq] at h4
     rw[decide_eq_false (p:=z≤1000000000000000000) (by omega),if_neg (show ¬ (false=true) by simp)]
     (conv=>whnf)
     (try simp only[hneg,e1])
     repeat ((first|refine V.s1 ?_);(try simp only[hneg,e1]))
     exact Fin.of rfl
    ·rw[decide_eq_false_iff_not] at h4
     rw[decide_eq_true (p:=z≤1000000000000000000) (by omega),if_pos (show true=true from rfl)]
     cases neg
     ·rw[if_neg (by simp)]
      (conv=>whnf)
      (try simp only[hneg,e1])
      repeat ((first|refine V.s1 ?_);(try simp only[hneg,e1]))
      exact Fin.of rfl
     ·rw[if_pos rfl]
      (conv=>whnf)
      (try simp only[hneg,e1])
      repeat ((first|refine V.s1 ?_);(try simp only[hneg,e1]))
      exact Fin.of (by rw[Int.zero_sub])
   ·have hc:¬ (0<r∧(up != neg)=true):=fun h=>by
     rw[decide_eq_true (show (r:Int)>0 by omega),Bool.true_and] at h3
     have:=h.2
     unfold bne at this
     rw[h3] at this;cases this
    rw[if_neg hc,jiz]
    refine V.r0 hneg ?_
    refine V.br (fun h4=>?_) (fun h4=>?_)
    ·rw[decide_eq_true_eq] at h4
     rw[decide_eq_false (p:=q≤1000000000000000000) (by omega),if_neg (show ¬ (false=true) by simp)]
     refine V.r0 hneg ?_
     exact Fin.of rfl
    ·rw[decide_eq_false_iff_not] at h4
     rw[decide_eq_true (p:=q≤1000000000000000000) (by omega),if_pos (show true=true from rfl)]
     have e2:((q:Nat):Int)=(q:Int):=by omega
     rw[e2]
     cases neg
     ·rw[if_neg (by simp)]
      refine V.r0 hneg ?_
      exact Fin.of rfl
     ·rw[if_pos rfl]
      refine V.r0 hneg ?_
      exact Fin.of (by rw[Int.zero_sub])
def flo (z d:Int):Int:=if 0<d then z/d else -z / -d
def cei (z d:Int):Int := -flo (-z) d
theorem nat_cei (n m:Nat)(hm:0<m) : -(-(n:Int)/(m:Int))=((n/m+(if 0<n%m then 1 else 0):Nat):Int):=by
 have h1:=Nat.div_add_mod n m
 have h2:=jiF n hm
 generalize n/m=a at *
 generalize n%m=b at *
 have h3:(n:Int)=(m:Int)*a+b:=by exact_mod_cast h1.symm
 rw[h3]
 by_cases hb:0<b
 ·rw[if_pos hb]
  have e : -((m:Int)*a+b)=(m:Int)*(-(a:Int)-1)+((m:Int)-b):=by rw[Int.mul_sub,Int.mul_neg];omega
  rw[e,Int.mul_add_ediv_left _ _ (by omega),Int.ediv_eq_zero_of_lt (by omega) (by omega)]
  omega
 ·rw[if_neg hb]
  have hb0:b=0:=by omega
  subst hb0
  have e : -((m:Int)*a+((0:Nat):Int))=(m:Int)*(-(a:Int)):=by rw[Int.mul_neg];omega
  rw[e,Int.mul_ediv_cancel_left _ (by omega)]
  omega
theorem sign_z (x y d : Int) (hd : d ≠ 0) : (if 0 < d then x * y else -(x * y)) = (if qneg x y d = true then -((x.natAbs * y.natAbs : Nat) : Int) else ((x.natAbs * y.natAbs : Nat) : Int)) := by
  have key : ∀ a b : Nat, ((a * b : Nat) : Int) = (a : Int) * b := fun a b => jiL a b
  rw [key]
  have ex : (x < 0 ∧ (x.natAbs : Int) = -x) ∨ (0 ≤ x ∧ (x.natAbs : Int) = x) := by omega
  have ey : (y < 0 ∧ (y.natAbs : Int) = -y) ∨ (0 ≤ y ∧ (y.natAbs : Int) = y) := by omega
  have ed : d < 0 ∨ 0 < d := by omega
  unfold qneg
  rcases ex with ⟨h1, e1⟩ | ⟨h1, e1⟩ <;> rcases ey with ⟨h2, e2⟩ | ⟨h2, e2⟩ <;> rcases ed with h3 | h3 <;> rw [e1, e2] <;>
    simp [h1, h2, h3, Int.not_lt.2, Int.le_of_lt, Int.neg_mul, Int.mul_neg]
theorem flo_abs (x y d:Int)(hd:d≠0):flo (x*y) d=if qneg x y d=true then -(qabs x y d false:Int) else (qabs x y d false:Int):=by
 have h:=sign_z x y d hd
 have hm:0<d.natAbs:=by omega
 have e:flo (x*y) d=(if 0<d then x*y else -(x*y))/(d.natAbs:Int):=by
  unfold flo
  by_cases hp:0<d
  ·rw[if_pos hp,if_pos hp,show (d.natAbs:Int)=d by omega]
  ·rw[if_neg hp,if_neg hp,show (d.natAbs:Int) = -d by omega]
 rw[e,h]
 unfold qabs
 cases hq:qneg x y d
 ·rw[if_neg (by simp),if_neg (by simp)]
  rw[if_neg (by simp)]
  omega
 ·rw[if_pos rfl,if_pos rfl]
  have:=nat_cei (x.natAbs*y.natAbs) d.natAbs hm
  by_cases hr:0<x.natAbs*y.natAbs%d.natAbs
  ·rw[if_pos hr] at this
   rw[if_pos ⟨hr,rfl⟩]
   omega
  ·rw[if_neg hr] at this
   rw[if_neg (fun h=>hr h.1)]
   omega
theorem cei_abs (x y d:Int)(hd:d≠0):cei (x*y) d=if qneg x y d=true then -(qabs x y d true:Int) else (qabs x y d true:Int):=by
 have h:=sign_z x y d hd
 have hm:0<d.natAbs:=by omega
 have e:flo (-(x*y)) d = -(if 0<d then x*y else -(x*y))/(d.natAbs:Int):=by
  unfold flo
  by_cases hp:0<d
  ·rw[if_pos hp,if_pos hp,show (d.natAbs:Int)=d by omega]
  ·rw[if_neg hp,if_neg hp,show (d.natAbs:Int) = -d by omega]
 unfold cei
 rw[e,h]
 unfold qabs
 cases hq:qneg x y d
 ·rw[if_neg (by simp),if_neg (by simp)]
  have:=nat_cei (x.natAbs*y.natAbs) d.natAbs hm
  by_cases hr:0<x.natAbs*y.natAbs%d.natAbs
  ·rw[if_pos hr] at this
   rw[if_pos ⟨hr,rfl⟩]
   omega
  ·rw[if_neg hr] at this
   rw[if_neg (fun h=>hr h.1)]
   omega
 ·rw[if_pos rfl,if_pos rfl,Int.neg_neg]
  rw[if_neg (by simp)]
  omega
theorem jf8 (x y d:Int)(hd:d≠0):qok x y d false=true ↔ -1000000000000000000≤flo (x*y) d∧flo (x*y) d≤1000000000000000000:=by
 rw[flo_abs x y d hd]
 unfold qok
 rw[decide_eq_true_eq]
 split<;>omega
theorem jf9 (x y d:Int)(hd:d≠0):qok x y d true=true ↔ -1000000000000000000≤cei (x*y) d∧cei (x*y) d≤1000000000000000000:=by
 rw[cei_abs x y d hd]
 unfold qok
 rw[decide_eq_true_eq]
 split<;>omega
theorem jel (x y d:Int)(hd:d≠0)(h:qok x y d false=true):qval x y d false=flo (x*y) d:=by
 rw[flo_abs x y d hd];unfold qval;rw[if_pos h]
theorem jem (x y d:Int)(hd:d≠0)(h:qok x y d true=true):qval x y d true=cei (x*y) d:=by
 rw[cei_abs x y d hd];unfold qval;rw[if_pos h]
theorem jc5 (z d:Int)(hd:d≠0):flo z d≤cei z d:=by
 have key:∀ (a m:Int),0<m→a/m ≤ -(-a/m):=fun a m hm=>by
  have h1:=Int.ediv_mul_le a (b:=m) (by omega)
  have h2:=Int.ediv_mul_le (-a) (b:=m) (by omega)
  have h3:(a/m + -a/m)*m≤0:=by rw[jiV];omega
  have h4:a/m + -a/m≤0:=by
   rcases Int.lt_or_le 0 (a/m + -a/m) with h|h
   ·have:=Int.mul_pos h hm;omega
   ·exact h
  omega
 unfold cei flo
 by_cases hp:0<d
 ·rw[if_pos hp,if_pos hp];exact key _ _ hp
 ·rw[if_neg hp,if_neg hp];exact key _ _ (by omega)
def mn4 (a b c d:Int):Int:=min (min (min a b) c) d
def mx4 (a b c d:Int):Int:=max (max (max a b) c) d
theorem fits4 {o:Bool}{a b c d a' b' c' d' ea eb ec ed ea' eb' ec' ed':Int}
  (h1:a≤a') (h2:b≤b') (h3:c≤c') (h4:d≤d')
  (ho:o=true↔((-1000000000000000000≤a∧a≤1000000000000000000)∧(-1000000000000000000≤a'∧a'≤1000000000000000000))∧((-1000000000000000000≤b∧b≤1000000000000000000)∧(-1000000000000000000≤b'∧b'≤1000000000000000000))∧((-1000000000000000000≤c∧c≤1000000000000000000)∧(-1000000000000000000≤c'∧c'≤1000000000000000000))∧((-1000000000000000000≤d∧d≤1000000000000000000)∧(-1000000000000000000≤d'∧d'≤1000000000000000000)))
  (he:o=true→ea=a∧eb=b∧ec=c∧ed=d∧ea'=a'∧eb'=b'∧ec'=c'∧ed'=d') :
  (if o=true then mk (mn4 ea eb ec ed) (mx4 ea' eb' ec' ed') else (0,0,6))=mk (mn4 a b c d) (mx4 a' b' c' d'):=by
 by_cases hb:o=true
 ·obtain⟨rfl,rfl,rfl,rfl,rfl,rfl,rfl,rfl⟩:=he hb
  rw[if_pos hb]
 ·rw[if_neg hb]
  have hn:¬ vb (mn4 a b c d) (mx4 a' b' c' d')=true:=fun h=>by
   have h:=jaz.1 h
   unfold mn4 mx4 at h
   refine hb (ho.2 ?_)
   omega
  unfold mk
  rw[if_neg hn]
end Go.Proofs.YtpkdedncgclblaaGreatDoor
end
