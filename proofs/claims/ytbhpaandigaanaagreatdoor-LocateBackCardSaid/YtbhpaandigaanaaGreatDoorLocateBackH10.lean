/- What functions of the program answer at given values, part 10. Conditions: those that each theorem names. -/
import Derived.Test.YtbhpaandigaanaaGreatDoorLocateBackH8
import Derived.Test.YtbhpaandigaanaaGreatDoorLocateBackH9
import Derived.Test.YtbhpaandigaanaaGreatDoorLocateBackH7
import Derived.Test.YtbhpaandigaanaaGreatDoorLocateBackH6
set_option linter.unusedSimpArgs false
set_option linter.unusedVariables false
set_option maxHeartbeats 8000000
set_option maxRecDepth 100000
section
namespace Go.Proofs.YtbhpaandigaanaaGreatDoor
open Go Go.V Go.Nb
def raD (q:Rat):D := .agg [.bool (decide (q.num<0)),.ints .i64 (mg 10000 q.num.natAbs),.bool false,.ints .i64 (mg 10000 q.den)]
theorem jgh (n d:Int)(hd:d≠0):(if d<0 then -n else n)/((Int.gcd (if d<0 then -n else n) (if d<0 then -d else d):Nat):Int)=(Rat.divInt n d).num:=by
 rw[Rat.num_divInt]
 split
 ·rw[Int.neg_gcd,Int.gcd_neg,Int.gcd_comm,jhB (by omega),Int.neg_mul,jhz]
 ·rw[Int.gcd_comm,jhC (by omega),jhz]
theorem jgi (n d:Int)(hd:d≠0):(if d<0 then -d else d)/((Int.gcd (if d<0 then -n else n) (if d<0 then -d else d):Nat):Int)=((Rat.divInt n d).den:Int):=by
 rw[Rat.den_divInt,if_neg hd]
 split
 ·rw[Int.neg_gcd,Int.gcd_neg,Int.gcd_comm,Int.natCast_ediv];congr 1;omega
 ·rw[Int.gcd_comm,Int.natCast_ediv];congr 1;omega
theorem jbg (n:Int)(g:Nat):(n/(g:Int)).natAbs≤n.natAbs:=by
 rcases Int.le_total 0 n with h|h
 ·have h1:=Int.ediv_nonneg h (by omega:(0:Int)≤g)
  have h2:=Int.ediv_le_self (a:=n) (g:Int) h
  omega
 ·rcases jhe g with e|e
  ·subst e;simp
  ·have h1:n/(g:Int)≤0:=by
    have:=Int.ediv_le_ediv (by omega:(0:Int)<g) h
    simpa using this
   have h2:n≤n/(g:Int):=Int.le_ediv_of_mul_le (by omega) (by
    have:=Int.mul_le_mul_of_nonpos_left h (by omega:(1:Int)≤g)
    omega)
   omega
theorem lowest_c (n d:Int)(hn:Sm 80000000 n)(hd:Sm 80000000 d)(hd0:d≠0):Cl 80 [plD n,plD d] (raD (Rat.divInt n d)):=by
 have e1:=jgh n d hd0
 have e2:=jgi n d hd0
 refine V.en tbOk Tryz.func80 ?_
 (conv=>whnf)
 refine V.st ?_
 refine V.br (fun hq=>?_) (fun hq=>?_)
 ·rw[decide_eq_true_eq] at hq
  simp only[if_pos hq] at e1 e2
  have hN:=hn.neg
  have hD:=hd.neg
  have ht1:=turn_c n (by unfold Sm at hn;omega)
  have ht2:=turn_c d (by unfold Sm at hd;omega)
  (conv=>whnf)
  refine V.st ?_
  refine⟨(V.tk [0,2] (V.e1 1 [2] (V.e1 3 [] (V.e1 4 [] (V.e1 5 [] .done))))),[],V.pok,.go (jab ?_)⟩
  (conv=>whnf)
  refine V.st ?_
  repeat ((try ((with_reducible refine .ext ?_);(conv=>whnf)));(with_reducible refine jaa (r:=?_) ?_ ?_);rotate_left;(focus (first|exact(ht1)|exact(ht2)));(conv=>whnf);refine V.st ?_)
  have hgp:0<Int.gcd (-n) (-d):=Int.gcd_pos_of_ne_zero_right _ (by omega)
  have hdv:=jec (-n) (-d) hN hD
  have hgD:Sm 80000000 ((Int.gcd (-n) (-d):Nat):Int):=hD.le (by rw[jhA];exact Nat.le_of_dvd (by omega) (Nat.gcd_dvd_right ((-n)).natAbs ((-d)).natAbs))
  have hp1:=jdz (-n) ((Int.gcd (-n) (-d):Nat):Int) hN hgD (by omega)
  have hp2:=jdz (-d) ((Int.gcd (-n) (-d):Nat):Int) hD hgD (by omega)
  rw[e1] at hp1
  rw[e2] at hp2
  (conv=>whnf)
  refine V.st ?_
  repeat ((try ((with_reducible refine .ext ?_);(conv=>whnf)));(with_reducible refine jaa (r:=?_) ?_ ?_);rotate_left;(focus (first|exact(hdv)|exact(hp1)|exact(hp2)));(conv=>whnf);refine V.st ?_)
  exact Fin.of (by unfold raD;rw[jhA,decide_eq_false (p:=((Rat.divInt n d).den:Int)<0) (by omega)])
 ·rw[decide_eq_false_iff_not] at hq
  simp only[if_neg hq] at e1 e2
  have hN:=hn
  have hD:=hd
  have hgp:0<Int.gcd n d:=Int.gcd_pos_of_ne_zero_right _ (by omega)
  have hdv:=jec n d hN hD
  have hgD:Sm 80000000 ((Int.gcd n d:Nat):Int):=hD.le (by rw[jhA];exact Nat.le_of_dvd (by omega) (Nat.gcd_dvd_right (n).natAbs (d).natAbs))
  have hp1:=jdz n ((Int.gcd n d:Nat):Int) hN hgD (by omega)
  have hp2:=jdz d ((Int.gcd n d:Nat):Int) hD hgD (by omega)
  rw[e1] at hp1
  rw[e2] at hp2
  (conv=>whnf)
  refine V.st ?_
  repeat ((try ((with_reducible refine .ext ?_);(conv=>whnf)));(with_reducible refine jaa (r:=?_) ?_ ?_);rotate_left;(focus (first|exact(hdv)|exact(hp1)|exact(hp2)));(conv=>whnf);refine V.st ?_)
  exact Fin.of (by unfold raD;rw[jhA,decide_eq_false (p:=((Rat.divInt n d).den:Int)<0) (by omega)])
theorem quick_c (n d:Int)(hn:InR .i64 n)(hd:InR .i64 d)(hd0:d≠0):Cl 52 [.int .i64 n,.int .i64 d] (raD (Rat.divInt n d)):=by
 have h1:=jd1 n hn
 have h2:=jd1 d hd
 simp only[V.InR,V.lo,V.hi] at hn hd
 have h3:=lowest_c n d ((Sm.lit (k:=5) (by omega)).mono (by omega)) ((Sm.lit (k:=5) (by omega)).mono (by omega)) hd0
 refine V.en tbOk Tryz.func52 ?_
 (conv=>whnf)
 refine V.st ?_
 repeat ((try ((with_reducible refine .ext ?_);(conv=>whnf)));(with_reducible refine jaa (r:=?_) ?_ ?_);rotate_left;(focus (first|exact(h1)|exact(h2)|exact(h3)));(conv=>whnf);refine V.st ?_)
 exact Fin.of rfl
def okF (q:Rat):Bool:=decide ((dec q.num.natAbs).length≤600) && decide ((dec q.den).length≤600)
def frR (q:Rat):D := .tup [.agg [.str (cond (okF q) (decZ q.num) []),.str (cond (okF q) (dec q.den) [])],.int .i64 (cond (okF q) 0 6)]
theorem outN_c (n:Nat)(hz:Sm 90000000 n):Cl 79 [.agg [.bool false,.ints .i64 (mg 10000 n)]] (.tup [.str (if 600<(dec n).length then [] else dec n),.int .i64 (if 600<(dec n).length then 6 else 0)]):=by
 have h:=out_c n hz
 unfold plD decZ at h
 rw[jhA,decide_eq_false (p:=(n:Int)<0) (by omega),if_neg (c:=(n:Int)<0) (by omega)] at h
 exact h
theorem out02_c (q:Rat)(hn:Sm 90000000 q.num)(hd:Sm 90000000 (q.den:Int)):Cl 51 [raD q] (frR q):=by
 have h1:=out_c q.num hn
 have h2:=outN_c q.den hd
 unfold frR okF
 by_cases g1:600<(dec q.num.natAbs).length<;>by_cases g2:600<(dec q.den).length
 all_goals
  simp only[g1,g2,if_true,if_false] at h1 h2
  simp only[← Nat.not_lt,g1,g2,not_true_eq_false,not_false_eq_true,decide_true,decide_false,Bool.and_self,Bool.and_false,Bool.false_and,Bool.and_true,cond_true,cond_false]
  refine V.en tbOk Tryz.func51 ?_
  (conv=>whnf)
  refine V.st ?_
  repeat ((try ((with_reducible refine .ext ?_);(conv=>whnf)));(with_reducible refine jaa (r:=?_) ?_ ?_);rotate_left;(focus (first|exact(h1)|exact(h2)));(conv=>whnf);refine V.st ?_)
  exact Fin.of rfl
theorem of02_c (n d:Int)(hn:InR .i64 n)(hd:InR .i64 d)(hd0:d≠0):Cl 25 [.int .i64 n,.int .i64 d] (frR (Rat.divInt n d)):=by
 have h1:=quick_c n d hn hd hd0
 simp only[V.InR,V.lo,V.hi] at hn hd
 have hnum:Sm 90000000 (Rat.divInt n d).num:=by
  have e1:=jgh n d hd0
  have h:=jbg (if d<0 then -n else n) (Int.gcd (if d<0 then -n else n) (if d<0 then -d else d))
  rw[e1] at h
  exact(Sm.lit (k:=5) (by split at h<;>omega)).mono (by omega)
 have hden:Sm 90000000 ((Rat.divInt n d).den:Int):=by
  have e1:=jgi n d hd0
  have h:=jbg (if d<0 then -d else d) (Int.gcd (if d<0 then -n else n) (if d<0 then -d else d))
  rw[e1] at h
  exact(Sm.lit (k:=5) (by split at h<;>omega)).mono (by omega)
 have h2:=out02_c _ hnum hden
 refine V.en tbOk Tryz.func25 ?_
 (conv=>whnf)
 refine V.st ?_
 refine Cnd.no (decide_eq_false hd0) ?_
 (conv=>whnf)
 refine V.st ?_
 repeat ((try ((with_reducible refine .ext ?_);(conv=>whnf)));(with_reducible refine jaa (r:=?_) ?_ ?_);rotate_left;(focus (first|exact(h1)|exact(h2)));(conv=>whnf);refine V.st ?_)
 exact Fin.of rfl
theorem gcd_c (a b:Nat)(ha:(mg 1000000000 a).length≤90000000)(hb:(mg 1000000000 b).length≤90000000):Cl 88 [.ints .u32 (mg 1000000000 a),.ints .u32 (mg 1000000000 b)] (.ints .u32 (mg 1000000000 (Nat.gcd a b))):=by
 obtain⟨g,hg⟩:∃ g,g=Nat.gcd a b:=⟨_,rfl⟩
 rw[← hg]
 refine V.en tbOk Tryz.func88 ?_
 (conv=>whnf)
 refine V.st ?_
 refine jae ((a,b):Nat×Nat) (fun s=>Nat.gcd s.1 s.2=g∧(mg 1000000000 s.1).length≤90000000∧(mg 1000000000 s.2).length≤90000000) (fun s=>s.2)
  (fun s=>[(0,.ints .u32 (mg 1000000000 s.1)),(1,.ints .u32 (mg 1000000000 s.2))]) (fun _=>[]) ?_ ?_ ?_
 ·exact V.wk
 ·exact⟨hg.symm,ha,hb⟩
 rintro⟨x,y⟩ ⟨h1,h2,h3⟩
 dsimp only at h1 h2 h3 ⊢
 have hz:=jcG y
 (conv=>whnf)
 refine V.st ?_
 repeat ((try ((with_reducible refine .ext ?_);(conv=>whnf)));(with_reducible refine jaa (r:=?_) ?_ ?_);rotate_left;(focus (first|exact(hz)));(conv=>whnf);refine V.st ?_)
 refine V.br (fun hq=>?_) (fun hq=>?_)
 ·have hy:¬ y=0:=by simpa using hq
  (conv=>whnf)
  refine V.st ?_
  refine V.br (fun hq2=>?_) (fun hq2=>?_)
  ·rw[jg0,decide_eq_true_eq,decide_eq_true_eq] at hq2
   have hx18:x<1000000000000000000:=by
    have:=jaA (B:=1000000000) (n:=x) (by omega)
    have h5:1000000000^(mg 1000000000 x).length≤1000000000^2:=jht (by omega) (by omega)
    omega
   have hy18:y<1000000000000000000:=by
    have:=jaA (B:=1000000000) (n:=y) (by omega)
    have h5:1000000000^(mg 1000000000 y).length≤1000000000^2:=jht (by omega) (by omega)
    omega
   have hs1:=small_c x hx18
   have hs2:=small_c y hy18
   (conv=>whnf)
   refine V.st ?_
   repeat ((try ((with_reducible refine .ext ?_);(conv=>whnf)));(with_reducible refine jaa (r:=?_) ?_ ?_);rotate_left;(focus (first|exact(hs1)|exact(hs2)));(conv=>whnf);refine V.st ?_)
   refine jae ((x,y):Nat×Nat) (fun s=>Nat.gcd s.1 s.2=g∧s.1<1000000000000000000∧s.2<1000000000000000000) (fun s=>s.2) (fun s=>[(5,.int .u64 s.1),(6,.int .u64 s.2)]) (fun _=>[]) ?_ ?_ ?_
   ·exact V.wk
   ·exact⟨h1,hx18,hy18⟩
   rintro⟨p,q⟩ ⟨i1,i2,i3⟩
   dsimp only at i1 i2 i3 ⊢
   (conv=>whnf)
   refine V.st ?_
   refine V.br (fun hq3=>?_) (fun hq3=>?_)
   ·rw[decide_eq_true_eq] at hq3
    have hqp:0<q:=by omega
    have em:(p:Int)%(q:Int)=((p%q:Nat):Int):=by rw[Int.natCast_emod]
    have hlt:=Nat.mod_lt p hqp
    refine V.r0 em ?_
    refine⟨(V.tk [0,1,2,3] (V.e1 4 [3,2] (V.e1 5 [] .done))),[],V.pok,.go (jab ?_)⟩
    refine V.r0 em ?_
    exact⟨(q,p%q),⟨by dsimp only;rw[Nat.gcd_comm,← Nat.gcd_rec,Nat.gcd_comm];exact i1,i3,by dsimp only;omega⟩,hlt,V.wk⟩
   ·rw[decide_eq_false_iff_not] at hq3
    obtain rfl:q=0:=by omega
    rw[Nat.gcd_zero_right] at i1
    have hf:=jd4 p (by omega)
    (conv=>whnf)
    refine V.st ?_
    repeat ((try ((with_reducible refine .ext ?_);(conv=>whnf)));(with_reducible refine jaa (r:=?_) ?_ ?_);rotate_left;(focus (first|exact(hf)));(conv=>whnf);refine V.st ?_)
    exact Fin.of (by rw[i1])
  ·have hd:=jaZ x y (by omega) h2 h3
   have hlt:=Nat.mod_lt x (by omega:y>0)
   have hr:=jaf (B:=1000000000) (by omega) (Nat.le_of_lt hlt)
   (conv=>whnf)
   refine V.st ?_
   repeat ((try ((with_reducible refine .ext ?_);(conv=>whnf)));(with_reducible refine jaa (r:=?_) ?_ ?_);rotate_left;(focus (first|exact(hd)));(conv=>whnf);refine V.st ?_)
   exact⟨(y,x%y),⟨by dsimp only;rw[Nat.gcd_comm,← Nat.gcd_rec,Nat.gcd_comm];exact h1,h3,by dsimp only;omega⟩,hlt,V.wk⟩
 ·have hy:y=0:=by simpa using hq
  subst hy
  rw[Nat.gcd_zero_right] at h1
  (conv=>whnf)
  refine V.st ?_
  exact Fin.of (by rw[h1])
theorem ftext_c (z:Int)(hz:(mg 1000000000 z.natAbs).length≤90000000):Cl 103 [itD z] (.str (decZ z)):=by
 have hd:=digits_c z.natAbs (by omega)
 have hl:(dec z.natAbs).length≤1000000000000:=by
  have h2:=jaA (B:=1000000000) (n:=z.natAbs) (by omega)
  generalize (mg 1000000000 z.natAbs).length=l at *
  have h1:z.natAbs<10^(9*(l+1)):=by
   rw[Nat.pow_mul]
   exact jhh h2 (jht (by omega) (by omega))
  have:=(jbv (9*(l+1)) z.natAbs (by omega) h1).1
  omega
 refine V.en tbOk Tryz.func103 ?_
 (conv=>whnf)
 refine V.st ?_
 refine V.br (fun hq=>?_) (fun hq=>?_)
 ·rw[decide_eq_true_eq] at hq
  (conv=>whnf)
  refine V.st ?_
  repeat ((try ((with_reducible refine .ext ?_);(conv=>whnf)));(with_reducible refine jaa (r:=?_) ?_ ?_);rotate_left;(focus (first|exact(hd)));(conv=>whnf);refine V.st ?_)
  exact Fin.of (by unfold decZ;rw[if_pos hq];rfl)
 ·rw[decide_eq_false_iff_not] at hq
  (conv=>whnf)
  refine V.st ?_
  repeat ((try ((with_reducible refine .ext ?_);(conv=>whnf)));(with_reducible refine jaa (r:=?_) ?_ ?_);rotate_left;(focus (first|exact(hd)));(conv=>whnf);refine V.st ?_)
  exact Fin.of (by unfold decZ;rw[if_neg hq])
def rtD (q:Rat):D := .agg [.ints .u32 (mg 1000000000 q.num.natAbs),.bool (decide (q.num<0)),.ints .u32 (mg 1000000000 q.den)]
theorem jc3 (q:Rat)(hn:(mg 1000000000 q.num.natAbs).length≤90000000)(hd:(mg 1000000000 q.den).length≤90000000):Cl 73 [rtD q] (frR q):=by
 have h1:=length_c q.num.natAbs (by omega)
 have h2:=length_c q.den (by omega)
 have h3:=ftext_c q.num hn
 have h4:=digits_c q.den (by omega)
 unfold frR okF
 refine V.en tbOk Tryz.func73 ?_
 (conv=>whnf)
 refine V.st ?_
 repeat ((try ((with_reducible refine .ext ?_);(conv=>whnf)));(with_reducible refine jaa (r:=?_) ?_ ?_);rotate_left;(focus (first|exact(h1)|exact(h2)));(conv=>whnf);refine V.st ?_)
 refine V.br (fun hq=>?_) (fun hq=>?_)
 ·rw[Bool.or_eq_true,decide_eq_true_eq,decide_eq_true_eq] at hq
  have e:(decide ((dec q.num.natAbs).length≤600) && decide ((dec q.den).length≤600))=false:=by
   rw[Bool.and_eq_false_iff,decide_eq_false_iff_not,decide_eq_false_iff_not];omega
  rw[e]
  (conv=>whnf)
  refine V.st ?_
  exact Fin.of rfl
 ·rw[jhk,decide_eq_false_iff_not,decide_eq_false_iff_not] at hq
  have e:(decide ((dec q.num.natAbs).length≤600) && decide ((dec q.den).length≤600))=true:=by
   rw[jg0,decide_eq_true_eq,decide_eq_true_eq];omega
  rw[e]
  (conv=>whnf)
  refine V.st ?_
  refine⟨(V.tk [0,1,3,4] (V.e1 2 [4,3] (V.e1 5 [] (V.tk [6] (V.e1 7 [] (V.tk [8] .done)))))),[],V.pok,.go (jab ?_)⟩
  (conv=>whnf)
  refine V.st ?_
  repeat ((try ((with_reducible refine .ext ?_);(conv=>whnf)));(with_reducible refine jaa (r:=?_) ?_ ?_);rotate_left;(focus (first|exact(h3)|exact(h4)));(conv=>whnf);refine V.st ?_)
  exact Fin.of rfl
theorem jdp (n:Int)(d:Nat)(hd:0<d):(Rat.divInt n d).num.natAbs=n.natAbs/Nat.gcd n.natAbs d∧decide ((Rat.divInt n d).num<0)=decide (n<0)∧(Rat.divInt n d).den=d/Nat.gcd n.natAbs d:=by
 have hg:Int.gcd (d:Int) n=Nat.gcd n.natAbs d:=by
  rw[Int.gcd_comm];rfl
 have hgp:0<Nat.gcd n.natAbs d:=Nat.gcd_pos_of_pos_right _ hd
 have hdv:((Nat.gcd n.natAbs d:Nat):Int) ∣ n:=Int.ofNat_dvd_left.2 (Nat.gcd_dvd_left _ _)
 rw[Rat.num_divInt,Rat.den_divInt,if_neg (by omega),jhC (by omega),jhz,hg,jhA]
 generalize Nat.gcd n.natAbs d=g at *
 obtain⟨k,rfl⟩:=hdv
 have e:(g:Int)*k/g=k:=Int.mul_ediv_cancel_left _ (by omega)
 rw[e,Int.natAbs_mul,jhA,Nat.mul_div_cancel_left _ hgp]
 refine⟨rfl,?_,rfl⟩
 apply decide_eq_decide.2
 constructor
 ·intro h;exact Int.mul_neg_of_pos_of_neg (by omega) h
 ·intro h
  rcases Int.lt_or_le k 0 with h2|h2
  ·exact h2
  ·have:=jg4 (a:=(g:Int)) (by omega) h2;omega
theorem reduced_c (n:Int)(d:Nat)(hd0:0<d)(hn:(mg 1000000000 n.natAbs).length≤90000000)(hd:(mg 1000000000 d).length≤90000000):Cl 84 [itD n,.ints .u32 (mg 1000000000 d)] (rtD (Rat.divInt n d)):=by
 obtain⟨p1,p2,p3⟩:=jdp n d hd0
 have hg:=gcd_c n.natAbs d hn hd
 have hgp:0<Nat.gcd n.natAbs d:=Nat.gcd_pos_of_pos_right _ hd0
 have hgl:=jaf (B:=1000000000) (by omega) (Nat.le_of_dvd hd0 (Nat.gcd_dvd_right n.natAbs d))
 have h1:=jaZ n.natAbs (Nat.gcd n.natAbs d) hgp hn (by omega)
 have h2:=jaZ d (Nat.gcd n.natAbs d) hgp hd (by omega)
 have h3:=jaX (n.natAbs/Nat.gcd n.natAbs d) (decide (n<0))
 have e:itD (if decide (n<0)=true then -((n.natAbs/Nat.gcd n.natAbs d:Nat):Int) else ((n.natAbs/Nat.gcd n.natAbs d:Nat):Int))=itD (Rat.divInt n d).num:=by
  congr 1
  rw[← p1,← p2]
  by_cases h:(Rat.divInt n d).num<0
  ·rw[decide_eq_true h,if_pos rfl];omega
  ·rw[decide_eq_false h,if_neg (by simp)];omega
 rw[e] at h3
 refine V.en tbOk Tryz.func84 ?_
 (conv=>whnf)
 refine V.st ?_
 repeat ((try ((with_reducible refine .ext ?_);(conv=>whnf)));(with_reducible refine jaa (r:=?_) ?_ ?_);rotate_left;(focus (first|exact(hg)|exact(h1)|exact(h2)|exact(h3)));(conv=>whnf);refine V.st ?_)
 exact Fin.of (by unfold rtD;rw[p3])
theorem wof_c (n:Int)(h:InR .i64 n):Cl 56 [.int .i64 n] (.str (decZ n)):=by
 have hi:=itoa_c n
 refine V.en tbOk Tryz.func56 ?_
 (conv=>whnf)
 refine V.st ?_
 repeat ((try ((with_reducible refine .ext ?_);(conv=>whnf)));(with_reducible refine jaa (r:=?_) ?_ ?_);rotate_left;(focus (first|exact(hi)));(conv=>whnf);refine V.st ?_)
 exact Fin.of rfl
theorem jfN (n d:Int)(hd:d≠0):Rat.divInt (if (decide (n<0) != decide (d<0))=true then -(n.natAbs:Int) else (n.natAbs:Int)) (d.natAbs:Nat)=Rat.divInt n d:=by
 rw[Rat.divInt_eq_divInt_iff (by omega) hd]
 by_cases h1:n<0<;>by_cases h2:d<0
 ·simp only[h1,h2,decide_true,bne_self_eq_false,Bool.false_eq_true,if_false]
  rw[show (n.natAbs:Int) = -n by omega,show (d.natAbs:Int) = -d by omega,Int.neg_mul,Int.mul_neg]
 ·have e:(decide (n<0) != decide (d<0))=true:=by simp[h1,h2]
  rw[if_pos e,show (n.natAbs:Int) = -n by omega,show (d.natAbs:Int)=d by omega,Int.neg_neg]
 ·have e:(decide (n<0) != decide (d<0))=true:=by simp[h1,h2]
  rw[if_pos e,show (n.natAbs:Int)=n by omega,show (d.natAbs:Int) = -d by omega,Int.neg_mul,Int.mul_neg]
 ·have e:¬ (decide (n<0) != decide (d<0))=true:=by simp[h1,h2]
  rw[if_neg e,show (n.natAbs:Int)=n by omega,show (d.natAbs:Int)=d by omega]
theorem jbI {s:List UInt8}(h:okW s=true):s.length≤601∧(wval s).natAbs<10^600:=by
 unfold okW okD at h
 simp only[jg0,Bool.not_eq_true',jhk,decide_eq_false_iff_not,jhE] at h
 obtain⟨⟨h1,h2⟩,h3⟩:=h
 have h4:=jeB h2
 have h5:∀ k,(Go.Lib.trimPrefix s [45]).length≤k→10^(Go.Lib.trimPrefix s [45]).length≤10^k:=fun k hk=>jht (by omega) hk
 constructor
 ·unfold Go.Lib.trimPrefix at h1
  split at h1
  ·rw[jhV] at h1;simp at h1;omega
  ·omega
 ·have:(wval s).natAbs=rdv (Go.Lib.trimPrefix s [45]):=by unfold wval;split<;>simp
  rw[this]
  exact jhh h4 (h5 600 (by omega))
theorem len9 {n:Nat}(h:n<10^600):(mg 1000000000 n).length≤67:=jau (by omega) (jhh h (by
 have h1:∀ k,(1000000000:Nat)^k=10^(9*k):=fun k=>by rw[Nat.pow_mul]
 have h2:∀ a b:Nat,a≤b→(10:Nat)^a≤10^b:=fun a b hab=>jht (by omega) hab
 obtain⟨m,hm⟩:∃ m,m=9*67:=⟨_,rfl⟩
 rw[h1 67,← hm]
 exact h2 600 m (by omega)))
theorem make_c (s t:List UInt8)(hs:okW s=true)(ht:okW t=true)(hz:wval t≠0):Cl 55 [.str s,.str t] (frR (Rat.divInt (wval s) (wval t))):=by
 obtain⟨ls,vs⟩:=jbI hs
 obtain⟨lt,vt⟩:=jbI ht
 have c1:=jcm s (by omega)
 have c2:=jcm t (by omega)
 rw[hs,if_pos rfl] at c1
 rw[ht,if_pos rfl] at c2
 have n1:=jco s hs
 have n2:=jco t ht
 generalize wval s=n at *
 generalize wval t=d at *
 have hz1:=jcG d.natAbs
 have hs1:=jaX n.natAbs (decide (n<0) != decide (d<0))
 have hnl:=len9 vs
 have hdl:=len9 vt
 have e1:(if (decide (n<0) != decide (d<0))=true then -(n.natAbs:Int) else (n.natAbs:Int)).natAbs=n.natAbs:=by split<;>omega
 have hr:=reduced_c (if (decide (n<0) != decide (d<0))=true then -(n.natAbs:Int) else (n.natAbs:Int)) d.natAbs (by omega) (by rw[e1];omega) (by omega)
 obtain⟨p1,p2,p3⟩:=jdp (if (decide (n<0) != decide (d<0))=true then -(n.natAbs:Int) else (n.natAbs:Int)) d.natAbs (by omega)
 rw[jfN n d hz] at hr p1 p2 p3
 rw[e1] at p1 p3
 have hw:=jc3 (Rat.divInt n d) (by
  rw[p1]
  have:=jaf (B:=1000000000) (by omega) (jhu n.natAbs (n.natAbs.gcd d.natAbs))
  omega) (by
  rw[p3]
  have:=jaf (B:=1000000000) (by omega) (jhu d.natAbs (n.natAbs.gcd d.natAbs))
  omega)
 refine V.en tbOk Tryz.func55 ?_
 (conv=>whnf)
 refine V.st ?_
 repeat ((try ((with_reducible refine .ext ?_);(conv=>whnf)));(with_reducible refine jaa (r:=?_) ?_ ?_);rotate_left;(focus (first|exact(c1)|exact(c2)|exact(n1)|exact(n2)|exact(hz1)));(conv=>whnf);refine V.st ?_)
 refine Cnd.no (decide_eq_false (by omega)) ?_
 (conv=>whnf)
 refine V.st ?_
 refine⟨(V.tk [0,1,2,3,4,5,6,8,9] (V.e1 7 [9,8] (V.e1 10 [] (V.e1 11 [] (V.tk [12,13] (V.e1 14 [] (V.tk [15] .done))))))),[],V.pok,.go (jab ?_)⟩
 (conv=>whnf)
 refine V.st ?_
 repeat ((try ((with_reducible refine .ext ?_);(conv=>whnf)));(with_reducible refine jaa (r:=?_) ?_ ?_);rotate_left;(focus (first|exact(hs1)|exact(hr)|exact(hw)));(conv=>whnf);refine V.st ?_)
 exact Fin.of rfl
theorem of_c (n d:Int)(hn:InR .i64 n)(hd:InR .i64 d)(hd0:d≠0):Cl 33 [.int .i64 n,.int .i64 d] (frR (Rat.divInt n d)):=by
 have h1:=wof_c n hn
 have h2:=wof_c d hd
 simp only[V.InR,V.lo,V.hi] at hn hd
 have o1:=jdA n (by have:=jeg n.natAbs 19 (by omega) (by omega);omega)
 have o2:=jdA d (by have:=jeg d.natAbs 19 (by omega) (by omega);omega)
 have h3:=make_c (decZ n) (decZ d) o1 o2 (by rw[jbK];exact hd0)
 rw[jbK,jbK] at h3
 refine V.en tbOk Tryz.func33 ?_
 (conv=>whnf)
 refine V.st ?_
 repeat ((try ((with_reducible refine .ext ?_);(conv=>whnf)));(with_reducible refine jaa (r:=?_) ?_ ?_);rotate_left;(focus (first|exact(h1)|exact(h2)|exact(h3)));(conv=>whnf);refine V.st ?_)
 exact Fin.of rfl
theorem divIntLe (n:Int)(d:Nat)(hd:0<d):(Rat.divInt n d).num.natAbs≤n.natAbs∧(Rat.divInt n d).den≤d:=by
 rw[Rat.num_divInt,Rat.den_divInt,if_neg (by omega),jhC (by omega),jhz]
 refine⟨?_,?_⟩
 ·rw[Int.natAbs_ediv_of_dvd (by exact Int.gcd_dvd_right ..)]
  exact jhu _ _
 ·rw[jhA]
  exact jhu _ _
theorem okFs {q:Rat}(h1:q.num.natAbs<10^20)(h2:q.den<10^20):okF q=true:=by
 unfold okF
 simp only[jg0,decide_eq_true_eq]
 exact⟨jhc (jbv 20 _ (by omega) h1).1 (by omega),jhc (jbv 20 _ (by omega) h2).1 (by omega)⟩
theorem okFi (n m:Int)(hn : -9223372036854775807≤n∧n≤9223372036854775807)(hm:1≤m∧m≤9223372036854775807):okF (Rat.divInt n m)=true:=by
 obtain⟨d,rfl⟩:∃ d:Nat,m=d:=⟨m.toNat,by omega⟩
 have:=divIntLe n d (by omega)
 refine okFs ?_ ?_
 ·exact Nat.lt_of_le_of_lt this.1 (by omega)
 ·exact Nat.lt_of_le_of_lt this.2 (by omega)
def frC (q:Rat):List D:=[.str (decZ q.num),.str (dec q.den)]
theorem frI (n m:Int)(hn : -9223372036854775807≤n∧n≤9223372036854775807)(hm:1≤m∧m≤9223372036854775807):frR (Rat.divInt n m) = .tup [.agg (frC (Rat.divInt n m)),.int .i64 0]:=by
 unfold frR
 rw[okFi n m hn hm]
 rfl
theorem ofI (n m:Int)(hn : -9223372036854775807≤n∧n≤9223372036854775807)(hm:1≤m∧m≤9223372036854775807):Cl 33 [.int .i64 n,.int .i64 m] (.tup [.agg (frC (Rat.divInt n m)),.int .i64 0]):=by
 rw[← frI n m hn hm]
 exact of_c n m (by simp[InR,V.lo,V.hi];omega) (by simp[InR,V.lo,V.hi];omega) (by omega)
theorem rofI (n m:Int)(hn : -9223372036854775807≤n∧n≤9223372036854775807)(hm:1≤m∧m≤9223372036854775807):Cl 25 [.int .i64 n,.int .i64 m] (.tup [.agg (frC (Rat.divInt n m)),.int .i64 0]):=by
 rw[← frI n m hn hm]
 exact of02_c n m (by simp[InR,V.lo,V.hi];omega) (by simp[InR,V.lo,V.hi];omega) (by omega)
theorem ofE {n m:Int}{q:Rat}(h:Rat.divInt n m=q)(hn : -9223372036854775807≤n∧n≤9223372036854775807)(hm:1≤m∧m≤9223372036854775807):Cl 33 [.int .i64 n,.int .i64 m] (.tup [.agg (frC q),.int .i64 0]):=h▸ofI n m hn hm
def rs3 (o:Nat)(a b e:Int):V3:=match o with
 | 0=>(e+b+a,e+b,e)
 | 1=>(e+b+a,e,e+b)
 | 2=>(e+b,e+b+a,e)
 | 3=>(e,e+b+a,e+b)
 | 4=>(e+b,e,e+b+a)
 | _=>(e,e+b,e+b+a)
def frq (x:Nat)(r d:Int)(s:Nat):Rat:=Rat.divInt ((x:Int)*d+r) (d*((s:Int)-1))
def frF (q0 q1 q2:Rat):Nat→List D:=fun j=>((frC q0++frC q1++frC q2).drop (j*2)).take 2
def resF (x:N3)(o:Nat)(a b e d:Int)(s0 s1 s2:Nat):Nat→List D:=frF (frq x.1 (rs3 o a b e).1 d s0) (frq x.2.1 (rs3 o a b e).2.1 d s1) (frq x.2.2 (rs3 o a b e).2.2 d s2)
def stRe (a b e:Int):Nat→Int
 | 0=>0
 | 1=>e
 | 2=>e+b
 | _=>e+b+a
def zC:List D:=[.str [],.str []]
def stI0 (q0 q1 q2:Rat):Nat→List D
 | 0=>zC++zC++zC
 | 1=>zC++zC++frC q2
 | 2=>zC++frC q1++frC q2
 | _=>frC q0++frC q1++frC q2
def stI1 (q0 q1 q2:Rat):Nat→List D
 | 0=>zC++zC++zC
 | 1=>zC++frC q1++zC
 | 2=>zC++frC q1++frC q2
 | _=>frC q0++frC q1++frC q2
def stI2 (q0 q1 q2:Rat):Nat→List D
 | 0=>zC++zC++zC
 | 1=>zC++zC++frC q2
 | 2=>frC q0++zC++frC q2
 | _=>frC q0++frC q1++frC q2
def stI3 (q0 q1 q2:Rat):Nat→List D
 | 0=>zC++zC++zC
 | 1=>frC q0++zC++zC
 | 2=>frC q0++zC++frC q2
 | _=>frC q0++frC q1++frC q2
def stI4 (q0 q1 q2:Rat):Nat→List D
 | 0=>zC++zC++zC
 | 1=>zC++frC q1++zC
 | 2=>frC q0++frC q1++zC
 | _=>frC q0++frC q1++frC q2
def stI5 (q0 q1 q2:Rat):Nat→List D
 | 0=>zC++zC++zC
 | 1=>frC q0++zC++zC
 | 2=>frC q0++frC q1++zC
 | _=>frC q0++frC q1++frC q2
theorem n10:(1:Int)-1=0:=rfl
theorem n21:(2:Int)-1=1:=rfl
theorem n20:(2:Int)-0=2:=rfl
theorem m21:(2:Int)-2=0:=rfl
theorem jdB {x s:Nat}{d:Int}(hx:x+1<s)(hs:s≤9)(hd:0<d∧d≤1688772552032250):(0≤(x:Int)*d∧(x:Int)*d≤13510180416258000)∧(1≤d*((s:Int)-1)∧d*((s:Int)-1)≤13510180416258000):=by
 refine⟨⟨jg4 (by omega) (by omega),?_⟩,?_,?_⟩
 ·exact Int.le_trans (Int.mul_le_mul (show (x:Int)≤8 by omega) hd.2 (by omega) (by omega)) (by omega)
 ·have:=Int.mul_le_mul (show (1:Int)≤d by omega) (show (1:Int)≤(s:Int)-1 by omega) (by omega) (by omega)
  omega
 ·exact Int.le_trans (Int.mul_le_mul hd.2 (show (s:Int)-1≤8 by omega) (by omega) (by omega)) (by omega)
theorem jgE:type_of% @Int.zero_add∧type_of% @jg8∧type_of% @g3_0∧type_of% @g3_1∧type_of% @g3_2∧type_of% @i3_0∧type_of% @i3_1∧type_of% @i3_2∧type_of% @k0∧type_of% @k1∧type_of% @k2∧type_of% @n10∧type_of% @n20∧type_of% @n21∧type_of% @s3_0∧type_of% @s3_1∧type_of% @s3_2∧type_of% @tn0∧type_of% @tn1∧type_of% @tn2∧type_of% @tn3:=⟨@Int.zero_add,@jg8,@g3_0,@g3_1,@g3_2,@i3_0,@i3_1,@i3_2,@k0,@k1,@k2,@n10,@n20,@n21,@s3_0,@s3_1,@s3_2,@tn0,@tn1,@tn2,@tn3⟩
theorem inputs_0 {s0 s1 s2:Nat}(x:N3){o:Nat}(ho:o<6)(c:Nat→V3)(hx:x.1+1<s0∧x.2.1+1<s1∧x.2.2+1<s2)(hs:s0≤9∧s1≤9∧s2≤9){a b e d:Int}(ha:0≤a)(hb:0≤b)(he:0≤e)(hsm:a+b+e≤d)(hd:0<d∧d≤1688772552032250) :
  Cl 19 [tetD x (ordA o) c,.ints .i64 (sz3 s0 s1 s2),.iarr .i64 [a,b,e],.int .i64 d] (.tup [.slf 2 3 (resF x o a b e d s0 s1 s2),.int .i64 0]):=by
 have z0:=sz3_0 s0 s1 s2
 have z1:=sz3_1 s0 s1 s2
 have z2:=sz3_2 s0 s1 s2
 have zl:=jeV s0 s1 s2
 have y0:(sz3 s0 s1 s2).getD 0 0=s0:=rfl
 have y1:(sz3 s0 s1 s2).getD 1 0=s1:=rfl
 have y2:(sz3 s0 s1 s2).getD 2 0=s2:=rfl
 generalize sz3 s0 s1 s2=sz at *
 have m0:=jdB hx.1 hs.1 hd
 have m1:=jdB hx.2.1 hs.2.1 hd
 have m2:=jdB hx.2.2 hs.2.2 hd
 unfold tetD tetL resF
 obtain⟨q0,eq0⟩:∃ q,frq x.1 (rs3 o a b e).1 d s0=q:=⟨_,rfl⟩
 obtain⟨q1,eq1⟩:∃ q,frq x.2.1 (rs3 o a b e).2.1 d s1=q:=⟨_,rfl⟩
 obtain⟨q2,eq2⟩:∃ q,frq x.2.2 (rs3 o a b e).2.2 d s2=q:=⟨_,rfl⟩
 rw[eq0,eq1,eq2]
 simp only[v3L,jhD,jhR,List.map_cons,List.map_nil,n3L]
 obtain⟨x0,x1,x2⟩:=x
 dsimp only at hx m0 m1 m2 eq0 eq1 eq2
 have h6:o=0∨o=1∨o=2∨o=3∨o=4∨o=5:=by omega
 rcases h6 with h6|h6|h6|h6|h6|h6
 all_goals subst h6
 ·simp only[n3L,ordA,rs3,k0,k1,k2]
  unfold frq at eq0 eq1 eq2
  simp only[rs3] at eq0 eq1 eq2
  have o0:=ofE eq0 (by omega) (by omega)
  have o1:=ofE eq1 (by omega) (by omega)
  have o2:=ofE eq2 (by omega) (by omega)
  clear eq0 eq1 eq2
  unfold frC at o0 o1 o2
  refine V.en tbOk Tryz.func19 ?_
  refine V.r0 @jg8 ?_
  refine jae (0) (fun k=>k≤3) (fun k=>3-k) (fun k=>[(12,.int .i64 (2-(k:Int))),(11,.int .i64 (stRe a b e k))]) (fun k=>[(16,.box (stI0 q0 q1 q2 k))]) ?_ ?_ ?_
  exact V.wk
  exact jg2 _
  intro k hk
  refine V.r0 @jg8 ?_
  refine V.br (fun hq=>?_) (fun hq=>?_)
  ·have hk3:k=0∨k=1∨k=2:=by
    simp at hq
    omega
   rcases hk3 with e1|e1|e1
   ·subst e1
    simp only[k0,n20,n21,m21,stRe,stI0,zC,frC,jhD,jhR]
    refine V.r0 (V.a7 jgE z0 z1 z2 y0 y1 y2) ?_
    refine⟨Pq4z,[],V.pok,?_⟩
    refine jad [(15,.int .i64 0),(14,.box 14 0)] [(14,.box (frC q2))] ?_ ?_
    ·exact V.d3 (V.a7 jgE z0 z1 z2 y0 y1 y2) o0 o1 o2
    (conv=>whnf)
    (try simp only[jgE,z0,z1,z2,y0,y1,y2,frC])
    repeat ((first|refine V.s1 ?_);(try simp only[jgE,z0,z1,z2,y0,y1,y2,frC]))
    exact⟨1,by omega,by omega,V.wk⟩
   ·subst e1
    simp only[k1,n20,n21,m21,stRe,stI0,zC,frC,jhD,jhR]
    refine V.r0 (V.a7 jgE z0 z1 z2 y0 y1 y2) ?_
    refine⟨Pq4z,[],V.pok,?_⟩
    refine jad [(15,.int .i64 0),(14,.box 14 0)] [(14,.box (frC q1))] ?_ ?_
    ·exact V.d3 (V.a7 jgE z0 z1 z2 y0 y1 y2) o0 o1 o2
    (conv=>whnf)
    (try simp only[jgE,z0,z1,z2,y0,y1,y2,frC])
    repeat ((first|refine V.s1 ?_);(try simp only[jgE,z0,z1,z2,y0,y1,y2,frC]))
    exact⟨2,by omega,by omega,V.wk⟩
   ·subst e1
    simp only[k2,n20,n21,m21,stRe,stI0,zC,frC,jhD,jhR]
    refine V.r0 (V.a7 jgE z0 z1 z2 y0 y1 y2) ?_
    refine⟨Pq4z,[],V.pok,?_⟩
    refine jad [(15,.int .i64 0),(14,.box 14 0)] [(14,.box (frC q0))] ?_ ?_
    ·exact V.d3 (V.a7 jgE z0 z1 z2 y0 y1 y2) o0 o1 o2
    (conv=>whnf)
    (try simp only[jgE,z0,z1,z2,y0,y1,y2,frC])
    repeat ((first|refine V.s1 ?_);(try simp only[jgE,z0,z1,z2,y0,y1,y2,frC]))
    exact⟨3,by omega,by omega,V.wk⟩
  ·have hk3:k=3:=by
    simp at hq
    omega
   subst hk3
   simp only[stI0,frC,jhD,jhR]
   refine V.r0 @jg8 ?_
   exact Fin.of rfl
 ·simp only[n3L,ordA,rs3,k0,k1,k2]
  unfold frq at eq0 eq1 eq2
  simp only[rs3] at eq0 eq1 eq2
  have o0:=ofE eq0 (by omega) (by omega)
  have o1:=ofE eq1 (by omega) (by omega)
  have o2:=ofE eq2 (by omega) (by omega)
  clear eq0 eq1 eq2
  unfold frC at o0 o1 o2
  refine V.en tbOk Tryz.func19 ?_
  refine V.r0 @jg8 ?_
  refine jae (0) (fun k=>k≤3) (fun k=>3-k) (fun k=>[(12,.int .i64 (2-(k:Int))),(11,.int .i64 (stRe a b e k))]) (fun k=>[(16,.box (stI1 q0 q1 q2 k))]) ?_ ?_ ?_
  exact V.wk
  exact jg2 _
  intro k hk
  refine V.r0 @jg8 ?_
  refine V.br (fun hq=>?_) (fun hq=>?_)
  ·have hk3:k=0∨k=1∨k=2:=by
    simp at hq
    omega
   rcases hk3 with e1|e1|e1
   ·subst e1
    simp only[k0,n20,n21,m21,stRe,stI1,zC,frC,jhD,jhR]
    refine V.r0 (V.a7 jgE z0 z1 z2 y0 y1 y2) ?_
    refine⟨Pq4z,[],V.pok,?_⟩
    refine jad [(15,.int .i64 0),(14,.box 14 0)] [(14,.box (frC q1))] ?_ ?_
    ·exact V.d3 (V.a7 jgE z0 z1 z2 y0 y1 y2) o0 o1 o2
    (conv=>whnf)
    (try simp only[jgE,z0,z1,z2,y0,y1,y2,frC])
    repeat ((first|refine V.s1 ?_);(try simp only[jgE,z0,z1,z2,y0,y1,y2,frC]))
    exact⟨1,by omega,by omega,V.wk⟩
   ·subst e1
    simp only[k1,n20,n21,m21,stRe,stI1,zC,frC,jhD,jhR]
    refine V.r0 (V.a7 jgE z0 z1 z2 y0 y1 y2) ?_
    refine⟨Pq4z,[],V.pok,?_⟩
    refine jad [(15,.int .i64 0),(14,.box 14 0)] [(14,.box (frC q2))] ?_ ?_
    ·exact V.d3 (V.a7 jgE z0 z1 z2 y0 y1 y2) o0 o1 o2
    (conv=>whnf)
    (try simp only[jgE,z0,z1,z2,y0,y1,y2,frC])
    repeat ((first|refine V.s1 ?_);(try simp only[jgE,z0,z1,z2,y0,y1,y2,frC]))
    exact⟨2,by omega,by omega,V.wk⟩
   ·subst e1
    simp only[k2,n20,n21,m21,stRe,stI1,zC,frC,jhD,jhR]
    refine V.r0 (V.a7 jgE z0 z1 z2 y0 y1 y2) ?_
    refine⟨Pq4z,[],V.pok,?_⟩
    refine jad [(15,.int .i64 0),(14,.box 14 0)] [(14,.box (frC q0))] ?_ ?_
    ·exact V.d3 (V.a7 jgE z0 z1 z2 y0 y1 y2) o0 o1 o2
    (conv=>whnf)
    (try simp only[jgE,z0,z1,z2,y0,y1,y2,frC])
    repeat ((first|refine V.s1 ?_);(try simp only[jgE,z0,z1,z2,y0,y1,y2,frC]))
    exact⟨3,by omega,by omega,V.wk⟩
  ·have hk3:k=3:=by
    simp at hq
    omega
   subst hk3
   simp only[stI1,frC,jhD,jhR]
   refine V.r0 @jg8 ?_
   exact Fin.of rfl
 ·simp only[n3L,ordA,rs3,k0,k1,k2]
  unfold frq at eq0 eq1 eq2
  simp only[rs3] at eq0 eq1 eq2
  have o0:=ofE eq0 (by omega) (by omega)
  have o1:=ofE eq1 (by omega) (by omega)
  have o2:=ofE eq2 (by omega) (by omega)
  clear eq0 eq1 eq2
  unfold frC at o0 o1 o2
  refine V.en tbOk Tryz.func19 ?_
  refine V.r0 @jg8 ?_
  refine jae (0) (fun k=>k≤3) (fun k=>3-k) (fun k=>[(12,.int .i64 (2-(k:Int))),(11,.int .i64 (stRe a b e k))]) (fun k=>[(16,.box (stI2 q0 q1 q2 k))]) ?_ ?_ ?_
  exact V.wk
  exact jg2 _
  intro k hk
  refine V.r0 @jg8 ?_
  refine V.br (fun hq=>?_) (fun hq=>?_)
  ·have hk3:k=0∨k=1∨k=2:=by
    simp at hq
    omega
   rcases hk3 with e1|e1|e1
   ·subst e1
    simp only[k0,n20,n21,m21,stRe,stI2,zC,frC,jhD,jhR]
    refine V.r0 (V.a7 jgE z0 z1 z2 y0 y1 y2) ?_
    refine⟨Pq4z,[],V.pok,?_⟩
    refine jad [(15,.int .i64 0),(14,.box 14 0)] [(14,.box (frC q2))] ?_ ?_
    ·exact V.d3 (V.a7 jgE z0 z1 z2 y0 y1 y2) o0 o1 o2
    (conv=>whnf)
    (try simp only[jgE,z0,z1,z2,y0,y1,y2,frC])
    repeat ((first|refine V.s1 ?_);(try simp only[jgE,z0,z1,z2,y0,y1,y2,frC]))
    exact⟨1,by omega,by omega,V.wk⟩
   ·subst e1
    simp only[k1,n20,n21,m21,stRe,stI2,zC,frC,jhD,jhR]
    refine V.r0 (V.a7 jgE z0 z1 z2 y0 y1 y2) ?_
    refine⟨Pq4z,[],V.pok,?_⟩
    refine jad [(15,.int .i64 0),(14,.box 14 0)] [(14,.box (frC q0))] ?_ ?_
    ·exact V.d3 (V.a7 jgE z0 z1 z2 y0 y1 y2) o0 o1 o2
    (conv=>whnf)
    (try simp only[jgE,z0,z1,z2,y0,y1,y2,frC])
    repeat ((first|refine V.s1 ?_);(try simp only[jgE,z0,z1,z2,y0,y1,y2,frC]))
    exact⟨2,by omega,by omega,V.wk⟩
   ·subst e1
    simp only[k2,n20,n21,m21,stRe,stI2,zC,frC,jhD,jhR]
    refine V.r0 (V.a7 jgE z0 z1 z2 y0 y1 y2) ?_
    refine⟨Pq4z,[],V.pok,?_⟩
    refine jad [(15,.int .i64 0),(14,.box 14 0)] [(14,.box (frC q1))] ?_ ?_
    ·exact V.d3 (V.a7 jgE z0 z1 z2 y0 y1 y2) o0 o1 o2
    (conv=>whnf)
    (try simp only[jgE,z0,z1,z2,y0,y1,y2,frC])
    repeat ((first|refine V.s1 ?_);(try simp only[jgE,z0,z1,z2,y0,y1,y2,frC]))
    exact⟨3,by omega,by omega,V.wk⟩
  ·have hk3:k=3:=by
    simp at hq
    omega
   subst hk3
   simp only[stI2,frC,jhD,jhR]
   refine V.r0 @jg8 ?_
   exact Fin.of rfl
 ·simp only[n3L,ordA,rs3,k0,k1,k2]
  unfold frq at eq0 eq1 eq2
  simp only[rs3] at eq0 eq1 eq2
  have o0:=ofE eq0 (by omega) (by omega)
  have o1:=ofE eq1 (by omega) (by omega)
  have o2:=ofE eq2 (by omega) (by omega)
  clear eq0 eq1 eq2
  unfold frC at o0 o1 o2
  refine V.en tbOk Tryz.func19 ?_
  refine V.r0 @jg8 ?_
  refine jae (0) (fun k=>k≤3) (fun k=>3-k) (fun k=>[(12,.int .i64 (2-(k:Int))),(11,.int .i64 (stRe a b e k))]) (fun k=>[(16,.box (stI3 q0 q1 q2 k))]) ?_ ?_ ?_
  exact V.wk
  exact jg2 _
  intro k hk
  refine V.r0 @jg8 ?_
  refine V.br (fun hq=>?_) (fun hq=>?_)
  ·have hk3:k=0∨k=1∨k=2:=by
    simp at hq
    omega
   rcases hk3 with e1|e1|e1
   ·subst e1
    simp only[k0,n20,n21,m21,stRe,stI3,zC,frC,jhD,jhR]
    refine V.r0 (V.a7 jgE z0 z1 z2 y0 y1 y2) ?_
    refine⟨Pq4z,[],V.pok,?_⟩
    refine jad [(15,.int .i64 0),(14,.box 14 0)] [(14,.box (frC q0))] ?_ ?_
    ·exact V.d3 (V.a7 jgE z0 z1 z2 y0 y1 y2) o0 o1 o2
    (conv=>whnf)
    (try simp only[jgE,z0,z1,z2,y0,y1,y2,frC])
    repeat ((first|refine V.s1 ?_);(try simp only[jgE,z0,z1,z2,y0,y1,y2,frC]))
    exact⟨1,by omega,by omega,V.wk⟩
   ·subst e1
    simp only[k1,n20,n21,m21,stRe,stI3,zC,frC,jhD,jhR]
    refine V.r0 (V.a7 jgE z0 z1 z2 y0 y1 y2) ?_
    refine⟨Pq4z,[],V.pok,?_⟩
    refine jad [(15,.int .i64 0),(14,.box 14 0)] [(14,.box (frC q2))] ?_ ?_
    ·exact V.d3 (V.a7 jgE z0 z1 z2 y0 y1 y2) o0 o1 o2
    (conv=>whnf)
    (try simp only[jgE,z0,z1,z2,y0,y1,y2,frC])
    repeat ((first|refine V.s1 ?_);(try simp only[jgE,z0,z1,z2,y0,y1,y2,frC]))
    exact⟨2,by omega,by omega,V.wk⟩
   ·subst e1
    simp only[k2,n20,n21,m21,stRe,stI3,zC,frC,jhD,jhR]
    refine V.r0 (V.a7 jgE z0 z1 z2 y0 y1 y2) ?_
    refine⟨Pq4z,[],V.pok,?_⟩
    refine jad [(15,.int .i64 0),(14,.box 14 0)] [(14,.box (frC q1))] ?_ ?_
    ·exact V.d3 (V.a7 jgE z0 z1 z2 y0 y1 y2) o0 o1 o2
    (conv=>whnf)
    (try simp only[jgE,z0,z1,z2,y0,y1,y2,frC])
    repeat ((first|refine V.s1 ?_);(try simp only[jgE,z0,z1,z2,y0,y1,y2,frC]))
    exact⟨3,by omega,by omega,V.wk⟩
  ·have hk3:k=3:=by
    simp at hq
    omega
   subst hk3
   simp only[stI3,frC,jhD,jhR]
   refine V.r0 @jg8 ?_
   exact Fin.of rfl
 ·simp only[n3L,ordA,rs3,k0,k1,k2]
  unfold frq at eq0 eq1 eq2
  simp only[rs3] at eq0 eq1 eq2
  have o0:=ofE eq0 (by omega) (by omega)
  have o1:=ofE eq1 (by omega) (by omega)
  have o2:=ofE eq2 (by omega) (by omega)
  clear eq0 eq1 eq2
  unfold frC at o0 o1 o2
  refine V.en tbOk Tryz.func19 ?_
  refine V.r0 @jg8 ?_
  refine jae (0) (fun k=>k≤3) (fun k=>3-k) (fun k=>[(12,.int .i64 (2-(k:Int))),(11,.int .i64 (stRe a b e k))]) (fun k=>[(16,.box (stI4 q0 q1 q2 k))]) ?_ ?_ ?_
  exact V.wk
  exact jg2 _
  intro k hk
  refine V.r0 @jg8 ?_
  refine V.br (fun hq=>?_) (fun hq=>?_)
  ·have hk3:k=0∨k=1∨k=2:=by
    simp at hq
    omega
   rcases hk3 with e1|e1|e1
   ·subst e1
    simp only[k0,n20,n21,m21,stRe,stI4,zC,frC,jhD,jhR]
    refine V.r0 (V.a7 jgE z0 z1 z2 y0 y1 y2) ?_
    refine⟨Pq4z,[],V.pok,?_⟩
    refine jad [(15,.int .i64 0),(14,.box 14 0)] [(14,.box (frC q1))] ?_ ?_
    ·exact V.d3 (V.a7 jgE z0 z1 z2 y0 y1 y2) o0 o1 o2
    (conv=>whnf)
    (try simp only[jgE,z0,z1,z2,y0,y1,y2,frC])
    repeat ((first|refine V.s1 ?_);(try simp only[jgE,z0,z1,z2,y0,y1,y2,frC]))
    exact⟨1,by omega,by omega,V.wk⟩
   ·subst e1
    simp only[k1,n20,n21,m21,stRe,stI4,zC,frC,jhD,jhR]
    refine V.r0 (V.a7 jgE z0 z1 z2 y0 y1 y2) ?_
    refine⟨Pq4z,[],V.pok,?_⟩
    refine jad [(15,.int .i64 0),(14,.box 14 0)] [(14,.box (frC q0))] ?_ ?_
    ·exact V.d3 (V.a7 jgE z0 z1 z2 y0 y1 y2) o0 o1 o2
    (conv=>whnf)
    (try simp only[jgE,z0,z1,z2,y0,y1,y2,frC])
    repeat ((first|refine V.s1 ?_);(try simp only[jgE,z0,z1,z2,y0,y1,y2,frC]))
    exact⟨2,by omega,by omega,V.wk⟩
   ·subst e1
    simp only[k2,n20,n21,m21,stRe,stI4,zC,frC,jhD,jhR]
    refine V.r0 (V.a7 jgE z0 z1 z2 y0 y1 y2) ?_
    refine⟨Pq4z,[],V.pok,?_⟩
    refine jad [(15,.int .i64 0),(14,.box 14 0)] [(14,.box (frC q2))] ?_ ?_
    ·exact V.d3 (V.a7 jgE z0 z1 z2 y0 y1 y2) o0 o1 o2
    (conv=>whnf)
    (try simp only[jgE,z0,z1,z2,y0,y1,y2,frC])
    repeat ((first|refine V.s1 ?_);(try simp only[jgE,z0,z1,z2,y0,y1,y2,frC]))
    exact⟨3,by omega,by omega,V.wk⟩
  ·have hk3:k=3:=by
    simp at hq
    omega
   subst hk3
   simp only[stI4,frC,jhD,jhR]
   refine V.r0 @jg8 ?_
   exact Fin.of rfl
 ·simp only[n3L,ordA,rs3,k0,k1,k2]
  unfold frq at eq0 eq1 eq2
  simp only[rs3] at eq0 eq1 eq2
  have o0:=ofE eq0 (by omega) (by omega)
  have o1:=ofE eq1 (by omega) (by omega)
  have o2:=ofE eq2 (by omega) (by omega)
  clear eq0 eq1 eq2
  unfold frC at o0 o1 o2
  refine V.en tbOk Tryz.func19 ?_
  refine V.r0 @jg8 ?_
  refine jae (0) (fun k=>k≤3) (fun k=>3-k) (fun k=>[(12,.int .i64 (2-(k:Int))),(11,.int .i64 (stRe a b e k))]) (fun k=>[(16,.box (stI5 q0 q1 q2 k))]) ?_ ?_ ?_
  exact V.wk
  exact jg2 _
  intro k hk
  refine V.r0 @jg8 ?_
  refine V.br (fun hq=>?_) (fun hq=>?_)
  ·have hk3:k=0∨k=1∨k=2:=by
    simp at hq
    omega
   rcases hk3 with e1|e1|e1
   ·subst e1
    simp only[k0,n20,n21,m21,stRe,stI5,zC,frC,jhD,jhR]
    refine V.r0 (V.a7 jgE z0 z1 z2 y0 y1 y2) ?_
    refine⟨Pq4z,[],V.pok,?_⟩
    refine jad [(15,.int .i64 0),(14,.box 14 0)] [(14,.box (frC q0))] ?_ ?_
    ·exact V.d3 (V.a7 jgE z0 z1 z2 y0 y1 y2) o0 o1 o2
    (conv=>whnf)
    (try simp only[jgE,z0,z1,z2,y0,y1,y2,frC])
    repeat ((first|refine V.s1 ?_);(try simp only[jgE,z0,z1,z2,y0,y1,y2,frC]))
    exact⟨1,by omega,by omega,V.wk⟩
   ·subst e1
    simp only[k1,n20,n21,m21,stRe,stI5,zC,frC,jhD,jhR]
    refine V.r0 (V.a7 jgE z0 z1 z2 y0 y1 y2) ?_
    refine⟨Pq4z,[],V.pok,?_⟩
    refine jad [(15,.int .i64 0),(14,.box 14 0)] [(14,.box (frC q1))] ?_ ?_
    ·exact V.d3 (V.a7 jgE z0 z1 z2 y0 y1 y2) o0 o1 o2
    (conv=>whnf)
    (try simp only[jgE,z0,z1,z2,y0,y1,y2,frC])
    repeat ((first|refine V.s1 ?_);(try simp only[jgE,z0,z1,z2,y0,y1,y2,frC]))
    exact⟨2,by omega,by omega,V.wk⟩
   ·subst e1
    simp only[k2,n20,n21,m21,stRe,stI5,zC,frC,jhD,jhR]
    refine V.r0 (V.a7 jgE z0 z1 z2 y0 y1 y2) ?_
    refine⟨Pq4z,[],V.pok,?_⟩
    refine jad [(15,.int .i64 0),(14,.box 14 0)] [(14,.box (frC q2))] ?_ ?_
    ·exact V.d3 (V.a7 jgE z0 z1 z2 y0 y1 y2) o0 o1 o2
    (conv=>whnf)
    (try simp only[jgE,z0,z1,z2,y0,y1,y2,frC])
    repeat ((first|refine V.s1 ?_);(try simp only[jgE,z0,z1,z2,y0,y1,y2,frC]))
    exact⟨3,by omega,by omega,V.wk⟩
  ·have hk3:k=3:=by
    simp at hq
    omega
   subst hk3
   simp only[stI5,frC,jhD,jhR]
   refine V.r0 @jg8 ?_
   exact Fin.of rfl
theorem chk_ok {size:List Int}{out:Int}{data ts:List Int}(h:chk size out data ts=0):∃ (s0 s1 s2:Nat) (t:V3),size=sz3 s0 s1 s2∧out=3∧ts=v3L t∧Cu s0 s1 s2 data∧Vl t:=by
 unfold chk at h
 split at h
 ·rename_i hg
  split at h
  ·rename_i h3
   split at h
   ·rename_i hT
    obtain⟨e1,rfl,e3⟩:=h3
    match size,e1,ts,e3 with
    | [a,b,c],_,[x,y,z],_=>
     have hT':=(okT3 x y z).1 hT
     unfold jaw at hg
     simp only[jg0,decide_eq_true_eq,jhE,jhH,List.not_mem_nil,or_false,forall_eq_or_imp,forall_eq] at hg
     obtain⟨⟨⟨_,⟨ha,hb,hc⟩⟩,hl⟩,hd⟩:=hg
     refine⟨a.toNat,b.toNat,c.toNat,(x,y,z),?_,rfl,rfl,⟨by omega,by omega,by omega,?_,hd⟩,hT'⟩
     ·unfold sz3
      rw[Int.toNat_of_nonneg (by omega),Int.toNat_of_nonneg (by omega),Int.toNat_of_nonneg (by omega)]
     ·have h1:prod [a,b,c]=((a.toNat*b.toNat*c.toNat:Nat):Int):=by
       simp only[prod,List.foldl_cons,List.foldl_nil,jhz,jho]
       rw[Int.toNat_of_nonneg (by omega),Int.toNat_of_nonneg (by omega),Int.toNat_of_nonneg (by omega)]
      rw[h1] at hl
      omega
   ·cases h
  ·cases h
 ·cases h
def locR (size:List Int)(out:Int)(data ts:List Int):D:=
 if chk size out data ts=0 then
  match fndN data (size.getD 0 0).toNat (size.getD 1 0).toNat (size.getD 2 0).toNat (ts.getD 0 0,ts.getD 1 0,ts.getD 2 0) with
  | none => .tup [.nil,.int .i64 0,.int .i64 4]
  | some n=>match hldN data (size.getD 1 0).toNat (size.getD 2 0).toNat n (ts.getD 0 0,ts.getD 1 0,ts.getD 2 0) with
   | none => .tup [.nil,.int .i64 0,.int .i64 4]
   | some r => .tup [.slf 2 3 (resF (cellN (size.getD 1 0).toNat (size.getD 2 0).toNat n) (n%6) r.1 r.2.1 r.2.2.1 r.2.2.2 (size.getD 0 0).toNat (size.getD 1 0).toNat (size.getD 2 0).toNat),.int .i64 n,.int .i64 0]
 else .tup [.nil,.int .i64 0,.int .i64 (chk size out data ts)]
def hdsR (size:List Int)(out:Int)(data ts:List Int):D:=
 if chk size out data ts=0 then .tup [.int .i64 (cntN data (size.getD 1 0).toNat (size.getD 2 0).toNat (6*jaW (size.getD 0 0).toNat (size.getD 1 0).toNat (size.getD 2 0).toNat) (ts.getD 0 0,ts.getD 1 0,ts.getD 2 0)),.int .i64 0]
 else .tup [.int .i64 0,.int .i64 (chk size out data ts)]
theorem chk_r (size:List Int)(out:Int)(data ts:List Int):chk size out data ts=0∨chk size out data ts=2∨chk size out data ts=100:=by
 unfold chk
 split
 ·split
  ·split
   ·exact .inl rfl
   ·exact .inr (.inl rfl)
  ·exact .inr (.inl rfl)
 ·exact .inr (.inr rfl)
theorem jgj {size:List Int}{out:Int}{data ts:List Int}(h:¬ chk size out data ts=0):locR size out data ts = .tup [.nil,.int .i64 0,.int .i64 (chk size out data ts)]:=by
 unfold locR
 rw[if_neg h]
theorem hdsR_no {size:List Int}{out:Int}{data ts:List Int}(h:¬ chk size out data ts=0):hdsR size out data ts = .tup [.int .i64 0,.int .i64 (chk size out data ts)]:=by
 unfold hdsR
 rw[if_neg h]
theorem jdX {s0 s1 s2:Nat}{data:List Int}{t:V3}(h:chk (sz3 s0 s1 s2) 3 data (v3L t)=0)(hf:fndN data s0 s1 s2 t=none):locR (sz3 s0 s1 s2) 3 data (v3L t) = .tup [.nil,.int .i64 0,.int .i64 4]:=by
 unfold locR
 rw[if_pos h]
 have e:fndN data ((sz3 s0 s1 s2).getD 0 0).toNat ((sz3 s0 s1 s2).getD 1 0).toNat ((sz3 s0 s1 s2).getD 2 0).toNat ((v3L t).getD 0 0,(v3L t).getD 1 0,(v3L t).getD 2 0)=fndN data s0 s1 s2 t:=rfl
 rw[e,hf]
theorem jdW {s0 s1 s2 n:Nat}{data:List Int}{t:V3}{a b e d:Int}(h:chk (sz3 s0 s1 s2) 3 data (v3L t)=0)(hf:fndN data s0 s1 s2 t=some n)(hr:hldN data s1 s2 n t=some (a,b,e,d)) :
  locR (sz3 s0 s1 s2) 3 data (v3L t) = .tup [.slf 2 3 (resF (cellN s1 s2 n) (n%6) a b e d s0 s1 s2),.int .i64 n,.int .i64 0]:=by
 unfold locR
 rw[if_pos h]
 have e1:fndN data ((sz3 s0 s1 s2).getD 0 0).toNat ((sz3 s0 s1 s2).getD 1 0).toNat ((sz3 s0 s1 s2).getD 2 0).toNat ((v3L t).getD 0 0,(v3L t).getD 1 0,(v3L t).getD 2 0)=fndN data s0 s1 s2 t:=rfl
 rw[e1,hf]
 have e2:hldN data ((sz3 s0 s1 s2).getD 1 0).toNat ((sz3 s0 s1 s2).getD 2 0).toNat n ((v3L t).getD 0 0,(v3L t).getD 1 0,(v3L t).getD 2 0)=hldN data s1 s2 n t:=rfl
 dsimp only
 rw[e2,hr]
 rfl
theorem jgm {s0 s1 s2:Nat}{data:List Int}{t:V3}(h:chk (sz3 s0 s1 s2) 3 data (v3L t)=0):hdsR (sz3 s0 s1 s2) 3 data (v3L t) = .tup [.int .i64 (cntN data s1 s2 (6*jaW s0 s1 s2) t),.int .i64 0]:=by
 unfold hdsR
 rw[if_pos h]
 rfl
theorem cells_le {s0 s1 s2:Nat}{data:List Int}(C:Cu s0 s1 s2 data):6*jaW s0 s1 s2≤3072:=by
 have h0:=C.h0
 have h1:=C.h1
 have h2:=C.h2
 have:jaW s0 s1 s2≤8*8*8:=by
  unfold jaW
  exact jhj (jhj (show s0-1≤8 by omega) (show s1-1≤8 by omega)) (show s2-1≤8 by omega)
 omega
theorem plus_m (a b : Nat) (ha : (mg 1000000000 a).length ≤ 100000000) (hb : (mg 1000000000 b).length ≤ 100000000) : Cl 145 [.ints .u32 (mg 1000000000 a), .ints .u32 (mg 1000000000 b)] (.ints .u32 (mg 1000000000 (a + b))) := by
  have hdx := mg_dg (B := 1000000000) (by omega) a
  have hdy := mg_dg (B := 1000000000) (by omega) b
  have hvx := jax (B := 1000000000) (by omega) a
  have hvy := jax (B := 1000000000) (by omega) b
  have hpx := fun h => jce (B := 1000000000) (n := a) (by omega) h
  have hpy := fun h => jce (B := 1000000000) (n := b) (by omega) h
  have hex := jbR (B := 1000000000) (n := a) (by omega)
  have hey := jbR (B := 1000000000) (n := b) (by omega)
  generalize mg 1000000000 a = xs at *
  generalize mg 1000000000 b = ys at *
  refine V.en tbOk Tryz.func145 ?_
  (conv => whnf)
  refine V.st ?_
  refine V.br (fun hl => ?_) (fun hl => ?_)
  · rw [decide_eq_true_eq] at hl
    obtain ⟨N, hN⟩ : ∃ N, N = ys.length + 1 := ⟨_, rfl⟩
    have e1 : (ys.length : Int) + 1 = (N : Int) := by omega
    rw [Nat.add_comm a b]
    (conv => whnf)
    (try simp only [e1, jha])
    repeat ((first | refine V.s1 ?_); (try simp only [e1, jha]))
    (obtain ⟨hdx, hdy⟩ := And.intro hdy hdx)
    refine jae ((false, 0, [], 0) : Bool × Nat × List Int × Int) (fun s => s.2.2.1.length = s.2.1 ∧ Dg 1000000000 s.2.2.1 ∧ (0 ≤ s.2.2.2 ∧ s.2.2.2 ≤ 1) ∧ val 1000000000 s.2.2.1 + s.2.2.2 * ((1000000000 : Nat) : Int) ^ s.2.1 = val 1000000000 ((ys).take s.2.1) + val 1000000000 ((xs).take s.2.1) ∧ s.2.1 ≤ (ys).length ∧ (s.1 = false → s.2.2.1 = [])) (fun s => (ys).length - s.2.1)
      (fun s => match s.1 with | false => [(22, .int .i64 s.2.1), (6, .int .u32 s.2.2.2), (5, .osl 19 0 0)] | true => [(22, .int .i64 s.2.1), (6, .int .u32 s.2.2.2), (5, .osl 47 0 s.2.2.1.length)]) (fun s => match s.1 with | false => [(19, .arr .u32 [])] | true => [(47, .arr .u32 s.2.2.1), (19, .gone)]) ?_ ?_ ?_
    · exact V.wk
    · exact ⟨rfl, fun x hx => by simp at hx, by simp, by simp [val], jg2 _, fun _ => rfl⟩
    rintro ⟨_ | _, k, out, c⟩ ⟨h1, h2, h3, h4, h5, h6⟩
    · dsimp only at h1 h2 h3 h4 h5 h6 ⊢
      have h7 := h6 rfl
      clear h6
      subst h7
      have vx := jah 1000000000 ys k
      have vy := jah 1000000000 xs k
      have bx := jak (by omega) hdx k
      have by' := jak (by omega) hdy k
      have gy := jbJ (xs := xs) (k := k)
      generalize hx0 : (ys).getD k 0 = x at *
      generalize hy0 : (xs).getD k 0 = y at *
      refine V.r0 @jha ?_
      refine V.br (fun hq => ?_) (fun hq => ?_)
      · rw [decide_eq_true_eq] at hq
        refine V.r0 (V.a2 @jha hx0) ?_
        refine V.br (fun hy => ?_) (fun hy => ?_)
        · rw [decide_eq_true_eq] at hy
          refine V.r0 (V.a2 @jha hy0) ?_
          refine V.br (fun hz => ?_) (fun hz => ?_)
          · rw [decide_eq_true_eq] at hz
            have hst := jas (B := 1000000000) (x := x) (y := y) (d := (x + c + y - 1000000000)) (c' := 1) h1 h4 (by omega)
            rw [← vx, ← vy] at hst
            have hdg : Dg 1000000000 (([] : List Int) ++ [(x + c + y - 1000000000)]) := jag h2 (jap (by omega))
            have hl2 : (([] : List Int) ++ [(x + c + y - 1000000000)]).length = k + 1 := by simp [h1]
            have hl3 : (([] : List Int)).length + (List.take 1 (List.drop 0 [(x + c + y - 1000000000)])).length = (([] : List Int) ++ [(x + c + y - 1000000000)]).length := by simp
            have hkc : ((k : Int) + 1) = ((k + 1 : Nat) : Int) := by omega
            refine V.r0 (V.a3 hl3 hkc @jg8) ?_
            try refine And.intro (fun _ => ⟨trivial, by omega⟩) ?_
            refine V.r0 (V.a3 hl3 hkc @jg8) ?_
            exact ⟨(true, k + 1, ([] : List Int) ++ [(x + c + y - 1000000000)], 1), ⟨hl2, hdg, by dsimp only; omega, hst, by dsimp only; omega, fun h => by cases h⟩, by dsimp only; omega, V.wk⟩
          · rw [decide_eq_false_iff_not] at hz
            have hst := jas (B := 1000000000) (x := x) (y := y) (d := (x + c + y)) (c' := 0) h1 h4 (by omega)
            rw [← vx, ← vy] at hst
            have hdg : Dg 1000000000 (([] : List Int) ++ [(x + c + y)]) := jag h2 (jap (by omega))
            have hl2 : (([] : List Int) ++ [(x + c + y)]).length = k + 1 := by simp [h1]
            have hl3 : (([] : List Int)).length + (List.take 1 (List.drop 0 [(x + c + y)])).length = (([] : List Int) ++ [(x + c + y)]).length := by simp
            have hkc : ((k : Int) + 1) = ((k + 1 : Nat) : Int) := by omega
            refine V.r0 (V.a3 hl3 hkc @jg8) ?_
            try refine And.intro (fun _ => ⟨trivial, by omega⟩) ?_
            refine V.r0 (V.a3 hl3 hkc @jg8) ?_
            exact ⟨(true, k + 1, ([] : List Int) ++ [(x + c + y)], 0), ⟨hl2, hdg, by dsimp only; omega, hst, by dsimp only; omega, fun h => by cases h⟩, by dsimp only; omega, V.wk⟩
        · rw [decide_eq_false_iff_not] at hy
          have := gy (by omega)
          refine V.r0 @jha ?_
          refine V.br (fun hz => ?_) (fun hz => ?_)
          · rw [decide_eq_true_eq] at hz
            have hst := jas (B := 1000000000) (x := x) (y := y) (d := (x + c - 1000000000)) (c' := 1) h1 h4 (by omega)
            rw [← vx, ← vy] at hst
            have hdg : Dg 1000000000 (([] : List Int) ++ [(x + c - 1000000000)]) := jag h2 (jap (by omega))
            have hl2 : (([] : List Int) ++ [(x + c - 1000000000)]).length = k + 1 := by simp [h1]
            have hl3 : (([] : List Int)).length + (List.take 1 (List.drop 0 [(x + c - 1000000000)])).length = (([] : List Int) ++ [(x + c - 1000000000)]).length := by simp
            have hkc : ((k : Int) + 1) = ((k + 1 : Nat) : Int) := by omega
            refine V.r0 (V.a3 hl3 hkc @jg8) ?_
            try refine And.intro (fun _ => ⟨trivial, by omega⟩) ?_
            refine V.r0 (V.a3 hl3 hkc @jg8) ?_
            exact ⟨(true, k + 1, ([] : List Int) ++ [(x + c - 1000000000)], 1), ⟨hl2, hdg, by dsimp only; omega, hst, by dsimp only; omega, fun h => by cases h⟩, by dsimp only; omega, V.wk⟩
          · rw [decide_eq_false_iff_not] at hz
            have hst := jas (B := 1000000000) (x := x) (y := y) (d := (x + c)) (c' := 0) h1 h4 (by omega)
            rw [← vx, ← vy] at hst
            have hdg : Dg 1000000000 (([] : List Int) ++ [(x + c)]) := jag h2 (jap (by omega))
            have hl2 : (([] : List Int) ++ [(x + c)]).length = k + 1 := by simp [h1]
            have hl3 : (([] : List Int)).length + (List.take 1 (List.drop 0 [(x + c)])).length = (([] : List Int) ++ [(x + c)]).length := by simp
            have hkc : ((k : Int) + 1) = ((k + 1 : Nat) : Int) := by omega
            refine V.r0 (V.a3 hl3 hkc @jg8) ?_
            try refine And.intro (fun _ => ⟨trivial, by omega⟩) ?_
            refine V.r0 (V.a3 hl3 hkc @jg8) ?_
            exact ⟨(true, k + 1, ([] : List Int) ++ [(x + c)], 0), ⟨hl2, hdg, by dsimp only; omega, hst, by dsimp only; omega, fun h => by cases h⟩, by dsimp only; omega, V.wk⟩
      · rw [decide_eq_false_iff_not] at hq
        have h7 : k = 0 := by simpa using h1.symm
        have h8 : (ys).length = 0 := by omega
        have e2 := hey.mp (jhG.mp h8)
        have e3 := hex.mp (jhG.mp (by omega))
        have e4 : c = 0 := by
          rw [jhT (by omega), jhT (by omega), hvy, hvx, e2, e3, h7] at h4
          simpa [val] using h4
        subst e4 h7
        rw [e2, e3]
        (conv => whnf)
        refine V.st ?_
        exact Fin.of rfl
    · clear h6
      dsimp only at h1 h2 h3 h4 h5 ⊢
      have vx := jah 1000000000 ys k
      have vy := jah 1000000000 xs k
      have bx := jak (by omega) hdx k
      have by' := jak (by omega) hdy k
      have gy := jbJ (xs := xs) (k := k)
      generalize hx0 : (ys).getD k 0 = x at *
      generalize hy0 : (xs).getD k 0 = y at *
      refine V.r0 @jha ?_
      refine V.br (fun hq => ?_) (fun hq => ?_)
      · rw [decide_eq_true_eq] at hq
        refine V.r0 (V.a2 @jha hx0) ?_
        refine V.br (fun hy => ?_) (fun hy => ?_)
        · rw [decide_eq_true_eq] at hy
          refine V.r0 (V.a2 @jha hy0) ?_
          refine V.br (fun hz => ?_) (fun hz => ?_)
          · rw [decide_eq_true_eq] at hz
            have hst := jas (B := 1000000000) (x := x) (y := y) (d := (x + c + y - 1000000000)) (c' := 1) h1 h4 (by omega)
            rw [← vx, ← vy] at hst
            have hdg : Dg 1000000000 (out ++ [(x + c + y - 1000000000)]) := jag h2 (jap (by omega))
            have hl2 : (out ++ [(x + c + y - 1000000000)]).length = k + 1 := by simp [h1]
            have hl3 : (out).length + (List.take 1 (List.drop 0 [(x + c + y - 1000000000)])).length = (out ++ [(x + c + y - 1000000000)]).length := by simp
            have hkc : ((k : Int) + 1) = ((k + 1 : Nat) : Int) := by omega
            refine V.r0 (V.a3 hl3 hkc @jg8) ?_
            try refine And.intro (fun _ => ⟨trivial, by omega⟩) ?_
            refine V.r0 (V.a3 hl3 hkc @jg8) ?_
            exact ⟨(true, k + 1, out ++ [(x + c + y - 1000000000)], 1), ⟨hl2, hdg, by dsimp only; omega, hst, by dsimp only; omega, fun h => by cases h⟩, by dsimp only; omega, V.wk⟩
          · rw [decide_eq_false_iff_not] at hz
            have hst := jas (B := 1000000000) (x := x) (y := y) (d := (x + c + y)) (c' := 0) h1 h4 (by omega)
            rw [← vx, ← vy] at hst
            have hdg : Dg 1000000000 (out ++ [(x + c + y)]) := jag h2 (jap (by omega))
            have hl2 : (out ++ [(x + c + y)]).length = k + 1 := by simp [h1]
            have hl3 : (out).length + (List.take 1 (List.drop 0 [(x + c + y)])).length = (out ++ [(x + c + y)]).length := by simp
            have hkc : ((k : Int) + 1) = ((k + 1 : Nat) : Int) := by omega
            refine V.r0 (V.a3 hl3 hkc @jg8) ?_
            try refine And.intro (fun _ => ⟨trivial, by omega⟩) ?_
            refine V.r0 (V.a3 hl3 hkc @jg8) ?_
            exact ⟨(true, k + 1, out ++ [(x + c + y)], 0), ⟨hl2, hdg, by dsimp only; omega, hst, by dsimp only; omega, fun h => by cases h⟩, by dsimp only; omega, V.wk⟩
        · rw [decide_eq_false_iff_not] at hy
          have := gy (by omega)
          refine V.r0 @jha ?_
          refine V.br (fun hz => ?_) (fun hz => ?_)
          · rw [decide_eq_true_eq] at hz
            have hst := jas (B := 1000000000) (x := x) (y := y) (d := (x + c - 1000000000)) (c' := 1) h1 h4 (by omega)
            rw [← vx, ← vy] at hst
            have hdg : Dg 1000000000 (out ++ [(x + c - 1000000000)]) := jag h2 (jap (by omega))
            have hl2 : (out ++ [(x + c - 1000000000)]).length = k + 1 := by simp [h1]
            have hl3 : (out).length + (List.take 1 (List.drop 0 [(x + c - 1000000000)])).length = (out ++ [(x + c - 1000000000)]).length := by simp
            have hkc : ((k : Int) + 1) = ((k + 1 : Nat) : Int) := by omega
            refine V.r0 (V.a3 hl3 hkc @jg8) ?_
            try refine And.intro (fun _ => ⟨trivial, by omega⟩) ?_
            refine V.r0 (V.a3 hl3 hkc @jg8) ?_
            exact ⟨(true, k + 1, out ++ [(x + c - 1000000000)], 1), ⟨hl2, hdg, by dsimp only; omega, hst, by dsimp only; omega, fun h => by cases h⟩, by dsimp only; omega, V.wk⟩
          · rw [decide_eq_false_iff_not] at hz
            have hst := jas (B := 1000000000) (x := x) (y := y) (d := (x + c)) (c' := 0) h1 h4 (by omega)
            rw [← vx, ← vy] at hst
            have hdg : Dg 1000000000 (out ++ [(x + c)]) := jag h2 (jap (by omega))
            have hl2 : (out ++ [(x + c)]).length = k + 1 := by simp [h1]
            have hl3 : (out).length + (List.take 1 (List.drop 0 [(x + c)])).length = (out ++ [(x + c)]).length := by simp
            have hkc : ((k : Int) + 1) = ((k + 1 : Nat) : Int) := by omega
            refine V.r0 (V.a3 hl3 hkc @jg8) ?_
            try refine And.intro (fun _ => ⟨trivial, by omega⟩) ?_
            refine V.r0 (V.a3 hl3 hkc @jg8) ?_
            exact ⟨(true, k + 1, out ++ [(x + c)], 0), ⟨hl2, hdg, by dsimp only; omega, hst, by dsimp only; omega, fun h => by cases h⟩, by dsimp only; omega, V.wk⟩
      · rw [decide_eq_false_iff_not] at hq
        have hk : k = (ys).length := by omega
        rw [jhT (by omega), jhT (by omega), hvy, hvx] at h4
        (conv => whnf)
        refine V.st ?_
        refine V.br (fun hc => ?_) (fun hc => ?_)
        · rw [decide_eq_true_eq] at hc
          have hc1 : c = 1 := by omega
          subst hc1
          have h8 : out ++ [1] = mg 1000000000 (b + a) := by
            have h9 : val 1000000000 (out ++ [1]) = ((b + a : Nat) : Int) := by rw [jaN, h1]; omega
            have h10 := jcQ (B := 1000000000) (l := out ++ [1]) (by omega) (jag h2 (jap (by omega))) (by
              rw [jaN, jhK, List.length_singleton, Nat.add_sub_cancel]
              have := jal h2
              omega)
            rw [h10, h9]; rfl
          (conv => whnf)
          refine V.st ?_
          exact Fin.of (by rw [← h8]; exact congrArg _ (jhT (by simp)))
        · rw [decide_eq_false_iff_not] at hc
          have hc1 : c = 0 := by omega
          subst hc1
          have h8 : out = mg 1000000000 (b + a) := by
            have h9 : val 1000000000 out = ((b + a : Nat) : Int) := by omega
            rcases jhe b with h0 | h0
            · have h10 : (ys).length = 0 := by rw [hey.mpr h0]; rfl
              have e3 := hex.mp (jhG.mp (by omega))
              rw [h0, e3, jhG.mp (by omega : out.length = 0)]; rfl
            · have h10 := jcQ (B := 1000000000) (l := out) (by omega) h2 (by
                have h11 := hpy h0
                rw [h1, h9, hk]
                have h12 : ((1000000000 ^ ((ys).length - 1) : Nat) : Int) ≤ (b : Int) := by exact_mod_cast h11
                rw [jhx] at h12
                omega)
              rw [h10, h9]; rfl
          (conv => whnf)
          refine V.st ?_
          exact Fin.of (by rw [← h8, jhT (by simp)])
  · rw [decide_eq_false_iff_not] at hl
    obtain ⟨N, hN⟩ : ∃ N, N = xs.length + 1 := ⟨_, rfl⟩
    have e1 : (xs.length : Int) + 1 = (N : Int) := by omega
    (conv => whnf)
    (try simp only [e1, jha])
    repeat ((first | refine V.s1 ?_); (try simp only [e1, jha]))
    refine jae ((false, 0, [], 0) : Bool × Nat × List Int × Int) (fun s => s.2.2.1.length = s.2.1 ∧ Dg 1000000000 s.2.2.1 ∧ (0 ≤ s.2.2.2 ∧ s.2.2.2 ≤ 1) ∧ val 1000000000 s.2.2.1 + s.2.2.2 * ((1000000000 : Nat) : Int) ^ s.2.1 = val 1000000000 ((xs).take s.2.1) + val 1000000000 ((ys).take s.2.1) ∧ s.2.1 ≤ (xs).length ∧ (s.1 = false → s.2.2.1 = [])) (fun s => (xs).length - s.2.1)
      (fun s => match s.1 with | false => [(22, .int .i64 s.2.1), (6, .int .u32 s.2.2.2), (5, .osl 19 0 0)] | true => [(22, .int .i64 s.2.1), (6, .int .u32 s.2.2.2), (5, .osl 47 0 s.2.2.1.length)]) (fun s => match s.1 with | false => [(19, .arr .u32 [])] | true => [(47, .arr .u32 s.2.2.1), (19, .gone)]) ?_ ?_ ?_
    · exact V.wk
    · exact ⟨rfl, fun x hx => by simp at hx, by simp, by simp [val], jg2 _, fun _ => rfl⟩
    rintro ⟨_ | _, k, out, c⟩ ⟨h1, h2, h3, h4, h5, h6⟩
    · dsimp only at h1 h2 h3 h4 h5 h6 ⊢
      have h7 := h6 rfl
      clear h6
      subst h7
      have vx := jah 1000000000 xs k
      have vy := jah 1000000000 ys k
      have bx := jak (by omega) hdx k
      have by' := jak (by omega) hdy k
      have gy := jbJ (xs := ys) (k := k)
      generalize hx0 : (xs).getD k 0 = x at *
      generalize hy0 : (ys).getD k 0 = y at *
      refine V.r0 @jha ?_
      refine V.br (fun hq => ?_) (fun hq => ?_)
      · rw [decide_eq_true_eq] at hq
        refine V.r0 (V.a2 @jha hx0) ?_
        refine V.br (fun hy => ?_) (fun hy => ?_)
        · rw [decide_eq_true_eq] at hy
          refine V.r0 (V.a2 @jha hy0) ?_
          refine V.br (fun hz => ?_) (fun hz => ?_)
          · rw [decide_eq_true_eq] at hz
            have hst := jas (B := 1000000000) (x := x) (y := y) (d := (x + c + y - 1000000000)) (c' := 1) h1 h4 (by omega)
            rw [← vx, ← vy] at hst
            have hdg : Dg 1000000000 (([] : List Int) ++ [(x + c + y - 1000000000)]) := jag h2 (jap (by omega))
            have hl2 : (([] : List Int) ++ [(x + c + y - 1000000000)]).length = k + 1 := by simp [h1]
            have hl3 : (([] : List Int)).length + (List.take 1 (List.drop 0 [(x + c + y - 1000000000)])).length = (([] : List Int) ++ [(x + c + y - 1000000000)]).length := by simp
            have hkc : ((k : Int) + 1) = ((k + 1 : Nat) : Int) := by omega
            refine V.r0 (V.a3 hl3 hkc @jg8) ?_
            try refine And.intro (fun _ => ⟨trivial, by omega⟩) ?_
            refine V.r0 (V.a3 hl3 hkc @jg8) ?_
            exact ⟨(true, k + 1, ([] : List Int) ++ [(x + c + y - 1000000000)], 1), ⟨hl2, hdg, by dsimp only; omega, hst, by dsimp only; omega, fun h => by cases h⟩, by dsimp only; omega, V.wk⟩
          · rw [decide_eq_false_iff_not] at hz
            have hst := jas (B := 1000000000) (x := x) (y := y) (d := (x + c + y)) (c' := 0) h1 h4 (by omega)
            rw [← vx, ← vy] at hst
            have hdg : Dg 1000000000 (([] : List Int) ++ [(x + c + y)]) := jag h2 (jap (by omega))
            have hl2 : (([] : List Int) ++ [(x + c + y)]).length = k + 1 := by simp [h1]
            have hl3 : (([] : List Int)).length + (List.take 1 (List.drop 0 [(x + c + y)])).length = (([] : List Int) ++ [(x + c + y)]).length := by simp
            have hkc : ((k : Int) + 1) = ((k + 1 : Nat) : Int) := by omega
            refine V.r0 (V.a3 hl3 hkc @jg8) ?_
            try refine And.intro (fun _ => ⟨trivial, by omega⟩) ?_
            refine V.r0 (V.a3 hl3 hkc @jg8) ?_
            exact ⟨(true, k + 1, ([] : List Int) ++ [(x + c + y)], 0), ⟨hl2, hdg, by dsimp only; omega, hst, by dsimp only; omega, fun h => by cases h⟩, by dsimp only; omega, V.wk⟩
        · rw [decide_eq_false_iff_not] at hy
          have := gy (by omega)
          refine V.r0 @jha ?_
          refine V.br (fun hz => ?_) (fun hz => ?_)
          · rw [decide_eq_true_eq] at hz
            have hst := jas (B := 1000000000) (x := x) (y := y) (d := (x + c - 1000000000)) (c' := 1) h1 h4 (by omega)
            rw [← vx, ← vy] at hst
            have hdg : Dg 1000000000 (([] : List Int) ++ [(x + c - 1000000000)]) := jag h2 (jap (by omega))
            have hl2 : (([] : List Int) ++ [(x + c - 1000000000)]).length = k + 1 := by simp [h1]
            have hl3 : (([] : List Int)).length + (List.take 1 (List.drop 0 [(x + c - 1000000000)])).length = (([] : List Int) ++ [(x + c - 1000000000)]).length := by simp
            have hkc : ((k : Int) + 1) = ((k + 1 : Nat) : Int) := by omega
            refine V.r0 (V.a3 hl3 hkc @jg8) ?_
            try refine And.intro (fun _ => ⟨trivial, by omega⟩) ?_
            refine V.r0 (V.a3 hl3 hkc @jg8) ?_
            exact ⟨(true, k + 1, ([] : List Int) ++ [(x + c - 1000000000)], 1), ⟨hl2, hdg, by dsimp only; omega, hst, by dsimp only; omega, fun h => by cases h⟩, by dsimp only; omega, V.wk⟩
          · rw [decide_eq_false_iff_not] at hz
            have hst := jas (B := 1000000000) (x := x) (y := y) (d := (x + c)) (c' := 0) h1 h4 (by omega)
            rw [← vx, ← vy] at hst
            have hdg : Dg 1000000000 (([] : List Int) ++ [(x + c)]) := jag h2 (jap (by omega))
            have hl2 : (([] : List Int) ++ [(x + c)]).length = k + 1 := by simp [h1]
            have hl3 : (([] : List Int)).length + (List.take 1 (List.drop 0 [(x + c)])).length = (([] : List Int) ++ [(x + c)]).length := by simp
            have hkc : ((k : Int) + 1) = ((k + 1 : Nat) : Int) := by omega
            refine V.r0 (V.a3 hl3 hkc @jg8) ?_
            try refine And.intro (fun _ => ⟨trivial, by omega⟩) ?_
            refine V.r0 (V.a3 hl3 hkc @jg8) ?_
            exact ⟨(true, k + 1, ([] : List Int) ++ [(x + c)], 0), ⟨hl2, hdg, by dsimp only; omega, hst, by dsimp only; omega, fun h => by cases h⟩, by dsimp only; omega, V.wk⟩
      · rw [decide_eq_false_iff_not] at hq
        have h7 : k = 0 := by simpa using h1.symm
        have h8 : (xs).length = 0 := by omega
        have e2 := hex.mp (jhG.mp h8)
        have e3 := hey.mp (jhG.mp (by omega))
        have e4 : c = 0 := by
          rw [jhT (by omega), jhT (by omega), hvx, hvy, e2, e3, h7] at h4
          simpa [val] using h4
        subst e4 h7
        rw [e2, e3]
        (conv => whnf)
        refine V.st ?_
        exact Fin.of rfl
    · clear h6
      dsimp only at h1 h2 h3 h4 h5 ⊢
      have vx := jah 1000000000 xs k
      have vy := jah 1000000000 ys k
      have bx := jak (by omega) hdx k
      have by' := jak (by omega) hdy k
      have gy := jbJ (xs := ys) (k := k)
      generalize hx0 : (xs).getD k 0 = x at *
      generalize hy0 : (ys).getD k 0 = y at *
      refine V.r0 @jha ?_
      refine V.br (fun hq => ?_) (fun hq => ?_)
      · rw [decide_eq_true_eq] at hq
        refine V.r0 (V.a2 @jha hx0) ?_
        refine V.br (fun hy => ?_) (fun hy => ?_)
        · rw [decide_eq_true_eq] at hy
          refine V.r0 (V.a2 @jha hy0) ?_
          refine V.br (fun hz => ?_) (fun hz => ?_)
          · rw [decide_eq_true_eq] at hz
            have hst := jas (B := 1000000000) (x := x) (y := y) (d := (x + c + y - 1000000000)) (c' := 1) h1 h4 (by omega)
            rw [← vx, ← vy] at hst
            have hdg : Dg 1000000000 (out ++ [(x + c + y - 1000000000)]) := jag h2 (jap (by omega))
            have hl2 : (out ++ [(x + c + y - 1000000000)]).length = k + 1 := by simp [h1]
            have hl3 : (out).length + (List.take 1 (List.drop 0 [(x + c + y - 1000000000)])).length = (out ++ [(x + c + y - 1000000000)]).length := by simp
            have hkc : ((k : Int) + 1) = ((k + 1 : Nat) : Int) := by omega
            refine V.r0 (V.a3 hl3 hkc @jg8) ?_
            try refine And.intro (fun _ => ⟨trivial, by omega⟩) ?_
            refine V.r0 (V.a3 hl3 hkc @jg8) ?_
            exact ⟨(true, k + 1, out ++ [(x + c + y - 1000000000)], 1), ⟨hl2, hdg, by dsimp only; omega, hst, by dsimp only; omega, fun h => by cases h⟩, by dsimp only; omega, V.wk⟩
          · rw [decide_eq_false_iff_not] at hz
            have hst := jas (B := 1000000000) (x := x) (y := y) (d := (x + c + y)) (c' := 0) h1 h4 (by omega)
            rw [← vx, ← vy] at hst
            have hdg : Dg 1000000000 (out ++ [(x + c + y)]) := jag h2 (jap (by omega))
            have hl2 : (out ++ [(x + c + y)]).length = k + 1 := by simp [h1]
            have hl3 : (out).length + (List.take 1 (List.drop 0 [(x + c + y)])).length = (out ++ [(x + c + y)]).length := by simp
            have hkc : ((k : Int) + 1) = ((k + 1 : Nat) : Int) := by omega
            refine V.r0 (V.a3 hl3 hkc @jg8) ?_
            try refine And.intro (fun _ => ⟨trivial, by omega⟩) ?_
            refine V.r0 (V.a3 hl3 hkc @jg8) ?_
            exact ⟨(true, k + 1, out ++ [(x + c + y)], 0), ⟨hl2, hdg, by dsimp only; omega, hst, by dsimp only; omega, fun h => by cases h⟩, by dsimp only; omega, V.wk⟩
        · rw [decide_eq_false_iff_not] at hy
          have := gy (by omega)
          refine V.r0 @jha ?_
          refine V.br (fun hz => ?_) (fun hz => ?_)
          · rw [decide_eq_true_eq] at hz
            have hst := jas (B := 1000000000) (x := x) (y := y) (d := (x + c - 1000000000)) (c' := 1) h1 h4 (by omega)
            rw [← vx, ← vy] at hst
            have hdg : Dg 1000000000 (out ++ [(x + c - 1000000000)]) := jag h2 (jap (by omega))
            have hl2 : (out ++ [(x + c - 1000000000)]).length = k + 1 := by simp [h1]
            have hl3 : (out).length + (List.take 1 (List.drop 0 [(x + c - 1000000000)])).length = (out ++ [(x + c - 1000000000)]).length := by simp
            have hkc : ((k : Int) + 1) = ((k + 1 : Nat) : Int) := by omega
            refine V.r0 (V.a3 hl3 hkc @jg8) ?_
            try refine And.intro (fun _ => ⟨trivial, by omega⟩) ?_
            refine V.r0 (V.a3 hl3 hkc @jg8) ?_
            exact ⟨(true, k + 1, out ++ [(x + c - 1000000000)], 1), ⟨hl2, hdg, by dsimp only; omega, hst, by dsimp only; omega, fun h => by cases h⟩, by dsimp only; omega, V.wk⟩
          · rw [decide_eq_false_iff_not] at hz
            have hst := jas (B := 1000000000) (x := x) (y := y) (d := (x + c)) (c' := 0) h1 h4 (by omega)
            rw [← vx, ← vy] at hst
            have hdg : Dg 1000000000 (out ++ [(x + c)]) := jag h2 (jap (by omega))
            have hl2 : (out ++ [(x + c)]).length = k + 1 := by simp [h1]
            have hl3 : (out).length + (List.take 1 (List.drop 0 [(x + c)])).length = (out ++ [(x + c)]).length := by simp
            have hkc : ((k : Int) + 1) = ((k + 1 : Nat) : Int) := by omega
            refine V.r0 (V.a3 hl3 hkc @jg8) ?_
            try refine And.intro (fun _ => ⟨trivial, by omega⟩) ?_
            refine V.r0 (V.a3 hl3 hkc @jg8) ?_
            exact ⟨(true, k + 1, out ++ [(x + c)], 0), ⟨hl2, hdg, by dsimp only; omega, hst, by dsimp only; omega, fun h => by cases h⟩, by dsimp only; omega, V.wk⟩
      · rw [decide_eq_false_iff_not] at hq
        have hk : k = (xs).length := by omega
        rw [jhT (by omega), jhT (by omega), hvx, hvy] at h4
        (conv => whnf)
        refine V.st ?_
        refine V.br (fun hc => ?_) (fun hc => ?_)
        · rw [decide_eq_true_eq] at hc
          have hc1 : c = 1 := by omega
          subst hc1
          have h8 : out ++ [1] = mg 1000000000 (a + b) := by
            have h9 : val 1000000000 (out ++ [1]) = ((a + b : Nat) : Int) := by rw [jaN, h1]; omega
            have h10 := jcQ (B := 1000000000) (l := out ++ [1]) (by omega) (jag h2 (jap (by omega))) (by
              rw [jaN, jhK, List.length_singleton, Nat.add_sub_cancel]
              have := jal h2
              omega)
            rw [h10, h9]; rfl
          (conv => whnf)
          refine V.st ?_
          exact Fin.of (by rw [← h8]; exact congrArg _ (jhT (by simp)))
        · rw [decide_eq_false_iff_not] at hc
          have hc1 : c = 0 := by omega
          subst hc1
          have h8 : out = mg 1000000000 (a + b) := by
            have h9 : val 1000000000 out = ((a + b : Nat) : Int) := by omega
            rcases jhe a with h0 | h0
            · have h10 : (xs).length = 0 := by rw [hex.mpr h0]; rfl
              have e3 := hey.mp (jhG.mp (by omega))
              rw [h0, e3, jhG.mp (by omega : out.length = 0)]; rfl
            · have h10 := jcQ (B := 1000000000) (l := out) (by omega) h2 (by
                have h11 := hpx h0
                rw [h1, h9, hk]
                have h12 : ((1000000000 ^ ((xs).length - 1) : Nat) : Int) ≤ (a : Int) := by exact_mod_cast h11
                rw [jhx] at h12
                omega)
              rw [h10, h9]; rfl
          (conv => whnf)
          refine V.st ?_
          exact Fin.of (by rw [← h8, jhT (by simp)])
theorem je6 {out:List Int}{n k:Nat}{d:Int}(h:out.length=k)(hk:k<n):(out++List.replicate (n-k) 0).set k d=(out++[d])++List.replicate (n-(k+1)) 0:=by
 subst h
 have e:n-out.length=(n-(out.length+1))+1:=by omega
 rw[e,List.replicate_succ,List.set_append_right _ _ (jhb _),jhq,List.set_cons_zero]
 simp
theorem jgZ:type_of% @jha∧type_of% @jg8:=⟨@jha,@jg8⟩
theorem minus_m (a b:Nat)(hba:b≤a)(ha:(mg 1000000000 a).length≤100000000):Cl 152 [.ints .u32 (mg 1000000000 a),.ints .u32 (mg 1000000000 b)] (.ints .u32 (mg 1000000000 (a-b))):=by
 have hdx:=mg_dg (B:=1000000000) (by omega) a
 have hdy:=mg_dg (B:=1000000000) (by omega) b
 have hvx:=jax (B:=1000000000) (by omega) a
 have hvy:=jax (B:=1000000000) (by omega) b
 have hlen:=jaf (B:=1000000000) (by omega) hba
 generalize mg 1000000000 a=xs at *
 generalize mg 1000000000 b=ys at *
 refine V.en tbOk Tryz.func152 ?_
 refine V.r0 @jha ?_
 refine jae ((0,[],0):Nat×List Int×Int) (fun s=>s.2.1.length=s.1∧Dg 1000000000 s.2.1∧(0≤s.2.2∧s.2.2≤1)∧val 1000000000 s.2.1-s.2.2*((1000000000:Nat):Int)^s.1=val 1000000000 (xs.take s.1)-val 1000000000 (ys.take s.1)∧s.1≤xs.length) (fun s=>xs.length-s.1)
  (fun s=>[(15,.int .i64 s.1),(6,.int .u32 s.2.2),(5,.osl 12 0 xs.length)]) (fun s=>[(12,.arr .u32 (s.2.1++List.replicate (xs.length-s.1) 0))]) ?_ ?_ ?_
 ·exact V.wk
 ·exact⟨rfl,fun x hx=>by simp at hx,by simp,by simp[val],jg2 _⟩
 rintro⟨k,out,c⟩ ⟨h1,h2,h3,h4,h5⟩
 dsimp only at h1 h2 h3 h4 h5 ⊢
 have vx:=jah 1000000000 xs k
 have vy:=jah 1000000000 ys k
 have bx:=jak (by omega) hdx k
 have by':=jak (by omega) hdy k
 have gy:=jbJ (xs:=ys) (k:=k)
 generalize hx0:xs.getD k 0=x at *
 generalize hy0:ys.getD k 0=y at *
 refine V.r0 @jha ?_
 refine V.br (fun hq=>?_) (fun hq=>?_)
 ·rw[decide_eq_true_eq] at hq
  refine V.r0 (V.a2 @jha hx0) ?_
  refine V.br (fun hy=>?_) (fun hy=>?_)
  ·rw[decide_eq_true_eq] at hy
   refine V.r0 (V.a2 @jha hy0) ?_
   refine V.br (fun hz=>?_) (fun hz=>?_)
   ·rw[decide_eq_true_eq] at hz
    have hst:=jbB (B:=1000000000) (x:=x) (y:=y) (d:=(x+1000000000-(c+y))) (b':=1) h1 h4 (by omega)
    rw[← vx,← vy] at hst
    have hdg:Dg 1000000000 (out++[(x+1000000000-(c+y))]):=jag h2 (jap (by omega))
    have hps:=je6 (d:=(x+1000000000-(c+y))) (n:=xs.length) h1 (by omega)
    have hkc:((k:Int)+1)=((k+1:Nat):Int):=by omega
    refine V.r0 (V.a3 jgZ hps hkc) ?_
    refine V.r0 (V.a3 jgZ hps hkc) ?_
    exact⟨(k+1,out++[(x+1000000000-(c+y))],1),⟨by dsimp only;simp[h1],hdg,by dsimp only;omega,hst,by dsimp only;omega⟩,by dsimp only;omega,V.wk⟩
   ·rw[decide_eq_false_iff_not] at hz
    have hst:=jbB (B:=1000000000) (x:=x) (y:=y) (d:=(x-(c+y))) (b':=0) h1 h4 (by omega)
    rw[← vx,← vy] at hst
    have hdg:Dg 1000000000 (out++[(x-(c+y))]):=jag h2 (jap (by omega))
    have hps:=je6 (d:=(x-(c+y))) (n:=xs.length) h1 (by omega)
    have hkc:((k:Int)+1)=((k+1:Nat):Int):=by omega
    refine V.r0 (V.a3 jgZ hps hkc) ?_
    refine V.r0 (V.a3 jgZ hps hkc) ?_
    exact⟨(k+1,out++[(x-(c+y))],0),⟨by dsimp only;simp[h1],hdg,by dsimp only;omega,hst,by dsimp only;omega⟩,by dsimp only;omega,V.wk⟩
  ·rw[decide_eq_false_iff_not] at hy
   have:=gy (by omega)
   refine V.r0 @jha ?_
   refine V.br (fun hz=>?_) (fun hz=>?_)
   ·rw[decide_eq_true_eq] at hz
    have hst:=jbB (B:=1000000000) (x:=x) (y:=y) (d:=(x+1000000000-c)) (b':=1) h1 h4 (by omega)
    rw[← vx,← vy] at hst
    have hdg:Dg 1000000000 (out++[(x+1000000000-c)]):=jag h2 (jap (by omega))
    have hps:=je6 (d:=(x+1000000000-c)) (n:=xs.length) h1 (by omega)
    have hkc:((k:Int)+1)=((k+1:Nat):Int):=by omega
    refine V.r0 (V.a3 jgZ hps hkc) ?_
    refine V.r0 (V.a3 jgZ hps hkc) ?_
    exact⟨(k+1,out++[(x+1000000000-c)],1),⟨by dsimp only;simp[h1],hdg,by dsimp only;omega,hst,by dsimp only;omega⟩,by dsimp only;omega,V.wk⟩
   ·rw[decide_eq_false_iff_not] at hz
    have hst:=jbB (B:=1000000000) (x:=x) (y:=y) (d:=(x-c)) (b':=0) h1 h4 (by omega)
    rw[← vx,← vy] at hst
    have hdg:Dg 1000000000 (out++[(x-c)]):=jag h2 (jap (by omega))
    have hps:=je6 (d:=(x-c)) (n:=xs.length) h1 (by omega)
    have hkc:((k:Int)+1)=((k+1:Nat):Int):=by omega
    refine V.r0 (V.a3 jgZ hps hkc) ?_
    refine V.r0 (V.a3 jgZ hps hkc) ?_
    exact⟨(k+1,out++[(x-c)],0),⟨by dsimp only;simp[h1],hdg,by dsimp only;omega,hst,by dsimp only;omega⟩,by dsimp only;omega,V.wk⟩
 ·rw[decide_eq_false_iff_not] at hq
  have hk:k=xs.length:=by omega
  rw[jhT (by omega),jhT (by omega),hvx,hvy] at h4
  have h0:=jal h2
  have h6:=jbL h2
  have hc:c=0:=by
   rw[h1] at h6
   rcases (by omega:c=0∨c=1) with e|e
   ·exact e
   ·subst e;omega
  subst hc
  have htr:=jeu out h2 (by omega)
  rw[(by omega:(val 1000000000 out).toNat=a-b)] at htr
  have hrep:out++List.replicate (xs.length-k) 0=out:=by rw[hk,jhq];simp
  rw[hrep]
  rw[← jhZ (l:=out),h1,hk] at htr
  (conv=>whnf)
  refine V.st ?_
  repeat ((try ((with_reducible refine .ext ?_);(conv=>whnf)));(with_reducible refine jaa (r:=?_) ?_ ?_);rotate_left;(focus (first|exact(htr)));(conv=>whnf);refine V.st ?_)
  exact Fin.of rfl
theorem jdP (x y:Rat):(x.num*y.den + -(y.num*x.den)).sign=(if x<y then -1 else if x=y then 0 else 1:Int):=by
 have h1:x<y↔x.num*y.den<y.num*x.den:=Rat.lt_iff x y
 have h2:x=y↔x.num*y.den=y.num*x.den:=by
  conv=>lhs;rw[← Rat.num_divInt_den x,← Rat.num_divInt_den y]
  exact Rat.divInt_eq_divInt_iff (by have:=x.den_pos;omega) (by have:=y.den_pos;omega)
 by_cases a1:x<y
 ·rw[if_pos a1];exact jhB (by have:=h1.1 a1;omega)
 ·rw[if_neg a1]
  by_cases a2:x=y
  ·rw[if_pos a2,show x.num*y.den + -(y.num*x.den)=0 by have:=h2.1 a2;omega];rfl
  ·rw[if_neg a2]
   refine jhC ?_
   have b1:¬ (x.num*y.den<y.num*x.den):=fun h=>a1 (h1.2 h)
   have b2:¬ (x.num*y.den=y.num*x.den):=fun h=>a2 (h2.2 h)
   omega
def ordQ (x y:Rat):Int:=if x<y then -1 else if x=y then 0 else 1
def S9 (k:Nat)(z:Int):Prop:=(mg 1000000000 z.natAbs).length≤k
theorem S9.mono {k l:Nat}{z:Int}(h:S9 k z)(hl:k≤l):S9 l z:=jhc h hl
theorem S9.neg {k:Nat}{z:Int}(h:S9 k z):S9 k (-z):=by unfold S9 at *; rw[Int.natAbs_neg];exact h
theorem S9.le {k:Nat}{y z:Int}(h:S9 k z)(hy:y.natAbs≤z.natAbs):S9 k y:=jhc (jaf (by omega) hy) h
theorem S9.mul {k l:Nat}{y z:Int}(h:S9 k y)(h2:S9 l z):S9 (k+l) (y*z):=by
 unfold S9 at *
 rw[Int.natAbs_mul]
 have:=jcp (B:=1000000000) (by omega) y.natAbs z.natAbs
 omega
theorem S9.add {k:Nat}{y z:Int}(h:S9 k y)(h2:S9 k z):S9 (k+1) (y+z):=by
 unfold S9 at *
 have h3:=jcq (B:=1000000000) (by omega) y.natAbs z.natAbs
 have h4:=jaf (B:=1000000000) (by omega) (Int.natAbs_add_le y z)
 omega
theorem S9.lit {k:Nat}{z:Int}(h:z.natAbs<1000000000^k):S9 k z:=jau (by omega) h
theorem S9.nat {k:Nat}{n:Nat} : S9 k (n:Int)↔(mg 1000000000 n).length≤k:=by unfold S9;rw[jhA]
theorem sum_c9 (x y:Int)(hx:S9 90000000 x)(hy:S9 90000000 y):Cl 128 [itD x,itD y] (itD (x+y)):=by
 unfold S9 at hx hy
 have hl:=jcq (B:=1000000000) (by omega) x.natAbs y.natAbs
 have hs:=plus_m x.natAbs y.natAbs (by omega) (by omega)
 have ho:=jbW x.natAbs y.natAbs (by omega) (by omega)
 rw[show itD x = .agg [.ints .u32 (mg 1000000000 x.natAbs),.bool (decide (x<0))] from rfl,show itD y = .agg [.ints .u32 (mg 1000000000 y.natAbs),.bool (decide (y<0))] from rfl]
 refine V.en tbOk Tryz.func128 ?_
 (conv=>whnf)
 refine V.st ?_
 refine V.br (fun hq=>?_) (fun hq=>?_)
 ·rw[beq_iff_eq,decide_eq_decide] at hq
  have hm:=jaX (x.natAbs+y.natAbs) (decide (x<0))
  have e:(if decide (x<0)=true then -((x.natAbs+y.natAbs:Nat):Int) else ((x.natAbs+y.natAbs:Nat):Int))=x+y:=by
   by_cases h:x<0
   ·simp[h];omega
   ·simp[h];omega
  rw[e] at hm
  (conv=>whnf)
  refine V.st ?_
  refine⟨Pq35z,[],V.pok,.go (jab ?_)⟩
  (conv=>whnf)
  refine V.st ?_
  repeat ((try ((with_reducible refine .ext ?_);(conv=>whnf)));(with_reducible refine jaa (r:=?_) ?_ ?_);rotate_left;(focus (first|exact(hs)|exact(hm)));(conv=>whnf);refine V.st ?_)
  exact Fin.of rfl
 ·have hq':¬ (x<0↔y<0):=fun h=>by rw[beq_eq_false_iff_ne] at hq;exact hq (decide_eq_decide.2 h)
  (conv=>whnf)
  refine V.st ?_
  repeat ((try ((with_reducible refine .ext ?_);(conv=>whnf)));(with_reducible refine jaa (r:=?_) ?_ ?_);rotate_left;(focus (first|exact(ho)));(conv=>whnf);refine V.st ?_)
  refine V.br (fun hq2=>?_) (fun hq2=>?_)
  ·rw[decide_eq_true_eq] at hq2
   have hq3:=Int.neg_of_sign_eq_neg_one (a:=((x.natAbs:Int)-y.natAbs)) (by have:=Int.sign_trichotomy ((x.natAbs:Int)-y.natAbs);omega)
   have hd:=minus_m y.natAbs x.natAbs (by omega) (by omega)
   have hm:=jaX (y.natAbs-x.natAbs) (decide (y<0))
   have e:(if decide (y<0)=true then -((y.natAbs-x.natAbs:Nat):Int) else ((y.natAbs-x.natAbs:Nat):Int))=x+y:=by
    by_cases h:y<0
    ·simp[h];omega
    ·simp[h];omega
   rw[e] at hm
   (conv=>whnf)
   refine V.st ?_
   refine⟨Pq35z,[],V.pok,.go (jab ?_)⟩
   (conv=>whnf)
   refine V.st ?_
   repeat ((try ((with_reducible refine .ext ?_);(conv=>whnf)));(with_reducible refine jaa (r:=?_) ?_ ?_);rotate_left;(focus (first|exact(hd)|exact(hm)));(conv=>whnf);refine V.st ?_)
   exact Fin.of rfl
  ·rw[decide_eq_false_iff_not] at hq2
   have hq3:¬ ((x.natAbs:Int)-y.natAbs)<0:=fun h=>hq2 (by rw[jhB h];decide)
   have hd:=minus_m x.natAbs y.natAbs (by omega) (by omega)
   have hm:=jaX (x.natAbs-y.natAbs) (decide (x<0))
   have e:(if decide (x<0)=true then -((x.natAbs-y.natAbs:Nat):Int) else ((x.natAbs-y.natAbs:Nat):Int))=x+y:=by
    by_cases h:x<0
    ·simp[h];omega
    ·simp[h];omega
   rw[e] at hm
   (conv=>whnf)
   refine V.st ?_
   refine⟨Pq35z,[],V.pok,.go (jab ?_)⟩
   (conv=>whnf)
   refine V.st ?_
   repeat ((try ((with_reducible refine .ext ?_);(conv=>whnf)));(with_reducible refine jaa (r:=?_) ?_ ?_);rotate_left;(focus (first|exact(hd)|exact(hm)));(conv=>whnf);refine V.st ?_)
   exact Fin.of rfl
theorem jdv (x:Int)(d:Nat)(hx:S9 90000000 x)(hd:(mg 1000000000 d).length≤90000000):Cl 127 [itD x,.ints .u32 (mg 1000000000 d)] (itD (x*d)):=by
 unfold S9 at hx
 have ht:=jc4 x.natAbs d (by omega) (by omega)
 have hm:=jaX (x.natAbs*d) (decide (x<0))
 have e:(if decide (x<0)=true then -((x.natAbs*d:Nat):Int) else ((x.natAbs*d:Nat):Int))=x*d:=by
  rw[jho]
  by_cases h:x<0
  ·have e2:(x.natAbs:Int) = -x:=by omega
   rw[e2,decide_eq_true h,if_pos rfl,Int.neg_mul,Int.neg_neg]
  ·have e2:(x.natAbs:Int)=x:=by omega
   rw[e2];simp[h]
 rw[e] at hm
 refine V.en tbOk Tryz.func127 ?_
 (conv=>whnf)
 refine V.st ?_
 refine⟨(V.tk [0,1,2,4,5] (V.e1 3 [5,4] (V.e1 6 [] (V.e1 7 [] .done)))),[],V.pok,.go (jab ?_)⟩
 (conv=>whnf)
 refine V.st ?_
 repeat ((try ((with_reducible refine .ext ?_);(conv=>whnf)));(with_reducible refine jaa (r:=?_) ?_ ?_);rotate_left;(focus (first|exact(ht)|exact(hm)));(conv=>whnf);refine V.st ?_)
 exact Fin.of rfl
theorem jeF (x:Int):Cl 129 [itD x] (itD (-x)):=by
 have hm:=jaX x.natAbs (!decide (x<0))
 have e:(if (!decide (x<0))=true then -(x.natAbs:Int) else (x.natAbs:Int)) = -x:=by
  by_cases h:x<0
  ·simp[h];omega
  ·simp[h];omega
 rw[e] at hm
 refine V.en tbOk Tryz.func129 ?_
 (conv=>whnf)
 refine V.st ?_
 repeat ((try ((with_reducible refine .ext ?_);(conv=>whnf)));(with_reducible refine jaa (r:=?_) ?_ ?_);rotate_left;(focus (first|exact(hm)));(conv=>whnf);refine V.st ?_)
 exact Fin.of rfl
theorem sign_c (x:Int):Cl 87 [itD x] (.int .i64 x.sign):=by
 have hz:=jcG x.natAbs
 refine V.en tbOk Tryz.func87 ?_
 (conv=>whnf)
 refine V.st ?_
 repeat ((try ((with_reducible refine .ext ?_);(conv=>whnf)));(with_reducible refine jaa (r:=?_) ?_ ?_);rotate_left;(focus (first|exact(hz)));(conv=>whnf);refine V.st ?_)
 refine V.br (fun hq=>?_) (fun hq=>?_)
 ·rw[decide_eq_true_eq] at hq
  (conv=>whnf)
  refine V.st ?_
  exact Fin.of (by rw[show x=0 by omega];rfl)
 ·rw[decide_eq_false_iff_not] at hq
  (conv=>whnf)
  refine V.st ?_
  refine V.br (fun hq2=>?_) (fun hq2=>?_)
  ·rw[decide_eq_true_eq] at hq2
   (conv=>whnf)
   refine V.st ?_
   exact Fin.of (by rw[jhB hq2])
  ·rw[decide_eq_false_iff_not] at hq2
   (conv=>whnf)
   refine V.st ?_
   exact Fin.of (by rw[jhC (by omega)])
theorem je8 (x y:Rat)(hx:S9 40000000 x.num)(hy:S9 40000000 y.num)(hxd:(mg 1000000000 x.den).length≤40000000)(hyd:(mg 1000000000 y.den).length≤40000000):Cl 95 [rtD x,rtD y] (.int .i64 (ordQ x y)):=by
 have s1:=jdv x.num y.den (hx.mono (by omega)) (by omega)
 have s2:=jdv y.num x.den (hy.mono (by omega)) (by omega)
 have s3:=jeF (y.num*x.den)
 have z1:S9 80000000 (x.num*y.den):=hx.mul (S9.nat.2 hyd)
 have z2:S9 80000000 (y.num*x.den):=hy.mul (S9.nat.2 hxd)
 have s4:=sum_c9 (x.num*y.den) (-(y.num*x.den)) (z1.mono (by omega)) (z2.neg.mono (by omega))
 have s5:=sign_c (x.num*y.den + -(y.num*x.den))
 rw[jdP] at s5
 refine V.en tbOk Tryz.func95 ?_
 (conv=>whnf)
 refine V.st ?_
 refine⟨(V.tk [0,1,2,3,5,6,7,8] (V.e1 4 [8,7,6,5] (V.e1 9 [] (V.e1 10 [] (V.e1 11 [] (V.e1 12 [] (V.tk [13] .done))))))),[],V.pok,.go (jab ?_)⟩
 (conv=>whnf)
 refine V.st ?_
 repeat ((try ((with_reducible refine .ext ?_);(conv=>whnf)));(with_reducible refine jaa (r:=?_) ?_ ?_);rotate_left;(focus (first|exact(s1)|exact(s2)|exact(s3)|exact(s4)|exact(s5)));(conv=>whnf);refine V.st ?_)
 exact Fin.of rfl
theorem floor_neg (x:Int)(d:Nat)(hx:x<0)(hd:0<d):x/(d:Int)=if x.natAbs%d=0 then -((x.natAbs/d:Nat):Int) else -((x.natAbs/d+1:Nat):Int):=by
 have h1:=Nat.div_add_mod x.natAbs d
 have h2:=Nat.mod_lt x.natAbs hd
 have e:x = -(x.natAbs:Int):=by omega
 generalize x.natAbs=n at *
 generalize hq:n/d=q at *
 generalize hr:n%d=r at *
 subst e
 have h3:((d*q+r:Nat):Int)=(n:Int):=by rw[h1]
 rw[Int.natCast_add,jho] at h3
 split
 ·rename_i h
  subst h
  rw[← h3,Int.natCast_zero,jhw,← Int.mul_neg,Int.mul_ediv_cancel_left _ (by omega)]
 ·rw[Int.natCast_add,Int.natCast_one]
  refine(Int.ediv_eq_iff_of_pos (by omega)).2 ⟨?_,?_⟩
  ·rw[← h3,Int.neg_mul,jhy,jhm (q:Int)];omega
  ·rw[← h3,Int.neg_mul,jhy,jhm (q:Int)];omega
theorem floor_c (x:Int)(d:Nat)(hd:0<d)(hx:S9 80000000 x)(hdl:(mg 1000000000 d).length≤80000000):Cl 122 [itD x,.ints .u32 (mg 1000000000 d)] (itD (x/d)):=by
 unfold S9 at hx
 have h1:=jaZ x.natAbs d hd (by omega) (by omega)
 have h2:=jcG (x.natAbs%d)
 have hl2:=jaf (B:=1000000000) (by omega) (jhu x.natAbs d)
 have h3:=plus_m (x.natAbs/d) 1 (by omega) (by decide)
 have h4:=jaX (x.natAbs/d+1) (decide (x<0))
 have h5:=jaX (x.natAbs/d) (decide (x<0))
 by_cases hx0:x<0
 ·rw[floor_neg x d hx0 hd]
  rw[show itD x = .agg [.ints .u32 (mg 1000000000 x.natAbs),.bool (decide (x<0))] from rfl]
  rw[decide_eq_true hx0] at h4 h5 ⊢
  rw[if_pos rfl] at h4 h5
  refine V.en tbOk Tryz.func122 ?_
  (conv=>whnf)
  refine V.st ?_
  repeat ((try ((with_reducible refine .ext ?_);(conv=>whnf)));(with_reducible refine jaa (r:=?_) ?_ ?_);rotate_left;(focus (first|exact(h1)|exact(h2)));(conv=>whnf);refine V.st ?_)
  refine V.br (fun hq=>?_) (fun hq=>?_)
  ·simp only[Bool.true_and,Bool.not_eq_true',decide_eq_false_iff_not] at hq
   rw[if_neg hq]
   (conv=>whnf)
   refine V.st ?_
   repeat ((try ((with_reducible refine .ext ?_);(conv=>whnf)));(with_reducible refine jaa (r:=?_) ?_ ?_);rotate_left;(focus (first|exact(h3)|exact(h4)));(conv=>whnf);refine V.st ?_)
   exact Fin.of rfl
  ·simp only[Bool.true_and,Bool.not_eq_false',decide_eq_true_eq] at hq
   rw[if_pos hq]
   (conv=>whnf)
   refine V.st ?_
   repeat ((try ((with_reducible refine .ext ?_);(conv=>whnf)));(with_reducible refine jaa (r:=?_) ?_ ?_);rotate_left;(focus (first|exact(h5)));(conv=>whnf);refine V.st ?_)
   exact Fin.of rfl
 ·have e:x/(d:Int)=((x.natAbs/d:Nat):Int):=by
   rw[Int.natCast_ediv];congr 1;omega
  rw[e]
  rw[show itD x = .agg [.ints .u32 (mg 1000000000 x.natAbs),.bool (decide (x<0))] from rfl]
  rw[decide_eq_false hx0] at h5 ⊢
  rw[if_neg (by simp)] at h5
  refine V.en tbOk Tryz.func122 ?_
  (conv=>whnf)
  refine V.st ?_
  repeat ((try ((with_reducible refine .ext ?_);(conv=>whnf)));(with_reducible refine jaa (r:=?_) ?_ ?_);rotate_left;(focus (first|exact(h1)|exact(h2)));(conv=>whnf);refine V.st ?_)
  refine V.br (fun hq=>?_) (fun hq=>?_)
  ·simp at hq
  ·(conv=>whnf)
   refine V.st ?_
   repeat ((try ((with_reducible refine .ext ?_);(conv=>whnf)));(with_reducible refine jaa (r:=?_) ?_ ?_);rotate_left;(focus (first|exact(h5)));(conv=>whnf);refine V.st ?_)
   exact Fin.of rfl
theorem jcs (n:Int)(d:Nat)(hd:0<d)(h:Nat.Coprime n.natAbs d):(Rat.divInt n d).num=n∧(Rat.divInt n d).den=d:=by
 have h1:Int.gcd (d:Int) n=1:=by rw[Int.gcd_comm];exact h
 rw[Rat.num_divInt,Rat.den_divInt,if_neg (by omega),jhC (by omega),jhz,h1]
 simp
theorem jek {a b c:Nat}(h:Nat.Coprime a b)(hc:c ∣ a):Nat.Coprime c b:=Nat.Coprime.coprime_dvd_left hc h
theorem cop_dvd' {a b c:Nat}(h:Nat.Coprime a b)(hc:c ∣ b):Nat.Coprime a c:=Nat.Coprime.coprime_dvd_right hc h
theorem sum_cop {xn yn:Int}{R L xb:Nat}(hx:Nat.Coprime xn.natAbs xb)(hR:R ∣ xb)(hRL:Nat.Coprime R L):Nat.Coprime (xn*L+yn*R).natAbs R:=by
 have h1:Nat.gcd (xn*L+yn*R).natAbs R ∣ R:=Nat.gcd_dvd_right _ _
 have h2:Nat.gcd (xn*L+yn*R).natAbs R ∣ (xn*L+yn*R).natAbs:=Nat.gcd_dvd_left _ _
 obtain⟨d,hd⟩:∃ d,d=Nat.gcd (xn*L+yn*R).natAbs R:=⟨_,rfl⟩
 rw[← hd] at h1 h2
 have h3:(d:Int) ∣ xn*L+yn*R:=Int.ofNat_dvd_left.2 h2
 have h4:(d:Int) ∣ yn*R:=Int.dvd_trans (Int.ofNat_dvd.2 h1) (Int.dvd_mul_left _ _)
 have h5:(d:Int) ∣ xn*L:=by
  have:=Int.dvd_sub h3 h4
  rwa [Int.add_sub_cancel] at this
 have h6:d ∣ xn.natAbs*L:=by
  have:=Int.ofNat_dvd_left.1 h5
  rwa [Int.natAbs_mul,jhA] at this
 have h7:Nat.Coprime d L:=jek hRL h1
 have h8:d ∣ xn.natAbs:=Nat.Coprime.dvd_of_dvd_mul_right h7 h6
 have h9:d ∣ Nat.gcd xn.natAbs xb:=Nat.dvd_gcd h8 (Nat.dvd_trans h1 hR)
 rw[hx.gcd_eq_one] at h9
 show Nat.gcd _ _=1
 rw[← hd]
 exact Nat.dvd_one.1 h9
theorem add_parts (x y:Rat) :
  let g:=Nat.gcd x.den y.den;let L:=y.den/g;let R:=x.den/g;let top:=x.num*L+y.num*R;let h:=Nat.gcd top.natAbs g
  (x+y).num=top/h∧(x+y).den=R*(y.den/h):=by
 intro g L R top h
 have hg:0<g:=Nat.gcd_pos_of_pos_left _ x.den_pos
 have ex:x.den=R*g:=(Nat.div_mul_cancel (Nat.gcd_dvd_left _ _)).symm
 have ey:y.den=L*g:=(Nat.div_mul_cancel (Nat.gcd_dvd_right _ _)).symm
 have hRL:Nat.Coprime R L:=Nat.coprime_div_gcd_div_gcd hg
 have c1:Nat.Coprime top.natAbs R:=sum_cop x.reduced (by rw[ex];exact Nat.dvd_mul_right _ _) hRL
 have c2:Nat.Coprime top.natAbs L:=by
  have:=sum_cop (xn:=y.num) (yn:=x.num) (R:=L) (L:=R) y.reduced (by rw[ey];exact Nat.dvd_mul_right _ _) hRL.symm
  rwa [Int.add_comm] at this
 have hh:0<h:=Nat.gcd_pos_of_pos_right _ hg
 have hht:h ∣ top.natAbs:=Nat.gcd_dvd_left _ _
 have hhg:h ∣ g:=Nat.gcd_dvd_right _ _
 have hT:((h:Nat):Int) ∣ top:=Int.ofNat_dvd_left.2 hht
 obtain⟨t,ht⟩:=hT
 obtain⟨q,hq⟩:=hhg
 have hyq:y.den/h=L*q:=by
  rw[ey,hq,jhf h q,← Nat.mul_assoc,Nat.mul_div_cancel _ hh]
 have htn:top.natAbs=h*t.natAbs:=by rw[ht,Int.natAbs_mul,jhA]
 have hcq:Nat.Coprime t.natAbs q:=by
  have h1:Nat.Coprime (top.natAbs/h) (g/h):=Nat.coprime_div_gcd_div_gcd hh
  rwa [htn,hq,Nat.mul_div_cancel_left _ hh,Nat.mul_div_cancel_left _ hh] at h1
 have htd:t.natAbs ∣ top.natAbs:=by rw[htn];exact Nat.dvd_mul_left _ _
 have hcop:Nat.Coprime t.natAbs (R*(y.den/h)):=by
  rw[hyq]
  exact Nat.Coprime.mul_right (jek c1 htd) (Nat.Coprime.mul_right (jek c2 htd) hcq)
 have hqp:0<q:=Nat.pos_of_ne_zero fun e=>by rw[e] at hq;omega
 have hLp:0<L:=Nat.pos_of_ne_zero fun e=>by have:=y.den_pos;rw[ey,e] at this;omega
 have hRp:0<R:=Nat.pos_of_ne_zero fun e=>by have:=x.den_pos;rw[ex,e] at this;omega
 have hsum:x+y=Rat.divInt t ((R*(y.den/h):Nat):Int):=by
  conv=>lhs;rw[← Rat.num_divInt_den x,← Rat.num_divInt_den y]
  rw[Rat.divInt_add_divInt _ _ (by have:=x.den_pos;omega) (by have:=y.den_pos;omega)]
  have hyp:=y.den_pos
  have hxp:=x.den_pos
  rw[Rat.divInt_eq_divInt_iff (by have:=Nat.mul_pos hxp hyp;rw[← jho];omega) (by have:0<R*(y.den/h):=by { rw[hyq];exact Nat.mul_pos hRp (Nat.mul_pos hLp hqp) }; omega)]
  rw[hyq,ex,ey,hq]
  have e1:x.num*((L*(h*q):Nat):Int)+y.num*((R*(h*q):Nat):Int)=(h*q:Nat)*top:=by
   show _=((h*q:Nat):Int)*(x.num*(L:Int)+y.num*(R:Int))
   simp only[jho,jhs]
   congr 1<;>ac_rfl
  rw[e1,ht]
  simp only[jho]
  ac_rfl
 have hp:0<R*(y.den/h):=by rw[hyq];exact Nat.mul_pos hRp (Nat.mul_pos hLp hqp)
 obtain⟨p1,p2⟩:=jcs t (R*(y.den/h)) hp hcop
 rw[hsum,p1,p2,ht,Int.mul_ediv_cancel_left _ (by omega)]
 exact⟨rfl,rfl⟩
theorem mul_parts (x y:Rat) :
  let g:=Nat.gcd x.num.natAbs y.den;let h:=Nat.gcd y.num.natAbs x.den
  (x*y).num.natAbs=(x.num.natAbs/g)*(y.num.natAbs/h)∧(x*y).den=(x.den/h)*(y.den/g):=by
 intro g h
 have hg:0<g:=Nat.gcd_pos_of_pos_right _ y.den_pos
 have hh:0<h:=Nat.gcd_pos_of_pos_right _ x.den_pos
 obtain⟨a,ha⟩:g ∣ x.num.natAbs:=Nat.gcd_dvd_left _ _
 obtain⟨b,hb⟩:g ∣ y.den:=Nat.gcd_dvd_right _ _
 obtain⟨c,hc⟩:h ∣ y.num.natAbs:=Nat.gcd_dvd_left _ _
 obtain⟨d,hd⟩:h ∣ x.den:=Nat.gcd_dvd_right _ _
 have k1:x.num.natAbs/g=a:=by rw[ha,Nat.mul_div_cancel_left _ hg]
 have k2:y.den/g=b:=by rw[hb,Nat.mul_div_cancel_left _ hg]
 have k3:y.num.natAbs/h=c:=by rw[hc,Nat.mul_div_cancel_left _ hh]
 have k4:x.den/h=d:=by rw[hd,Nat.mul_div_cancel_left _ hh]
 have c1:Nat.Coprime a b:=by
  have:Nat.Coprime (x.num.natAbs/g) (y.den/g):=Nat.coprime_div_gcd_div_gcd hg
  rwa [k1,k2] at this
 have c2:Nat.Coprime c d:=by
  have:Nat.Coprime (y.num.natAbs/h) (x.den/h):=Nat.coprime_div_gcd_div_gcd hh
  rwa [k3,k4] at this
 have c3:Nat.Coprime a d:=jek (cop_dvd' x.reduced (by rw[hd];exact Nat.dvd_mul_left _ _)) (by rw[ha];exact Nat.dvd_mul_left _ _)
 have c4:Nat.Coprime c b:=jek (cop_dvd' y.reduced (by rw[hb];exact Nat.dvd_mul_left _ _)) (by rw[hc];exact Nat.dvd_mul_left _ _)
 have hcop:Nat.Coprime (a*c) (d*b):=Nat.Coprime.mul_right (Nat.Coprime.mul_left c3 c2) (Nat.Coprime.mul_left c1 c4)
 obtain⟨u,hu⟩:((g:Nat):Int) ∣ x.num:=Int.ofNat_dvd_left.2 ⟨a,ha⟩
 obtain⟨v,hv⟩:((h:Nat):Int) ∣ y.num:=Int.ofNat_dvd_left.2 ⟨c,hc⟩
 have hua:u.natAbs=a:=by
  have:=ha;rw[hu,Int.natAbs_mul,jhA] at this
  exact Nat.eq_of_mul_eq_mul_left hg this
 have hvc:v.natAbs=c:=by
  have:=hc;rw[hv,Int.natAbs_mul,jhA] at this
  exact Nat.eq_of_mul_eq_mul_left hh this
 have hbp:0<b:=Nat.pos_of_ne_zero fun e=>by have:=y.den_pos;rw[hb,e] at this;omega
 have hdp:0<d:=Nat.pos_of_ne_zero fun e=>by have:=x.den_pos;rw[hd,e] at this;omega
 have hp:0<d*b:=Nat.mul_pos hdp hbp
 have hprod:x*y=Rat.divInt (u*v) ((d*b:Nat):Int):=by
  conv=>lhs;rw[← Rat.num_divInt_den x,← Rat.num_divInt_den y]
  rw[Rat.divInt_mul_divInt]
  have hyp:=y.den_pos
  have hxp:=x.den_pos
  rw[Rat.divInt_eq_divInt_iff (by have:=Nat.mul_pos hxp hyp;rw[← jho];omega) (by omega),hb,hd]
  conv=>lhs;rw[hu,hv]
  simp only[jho]
  ac_rfl
 obtain⟨p1,p2⟩:=jcs (u*v) (d*b) hp (by rw[Int.natAbs_mul,hua,hvc];exact hcop)
 rw[hprod,p1,p2,Int.natAbs_mul,hua,hvc,k1,k2,k3,k4]
 exact⟨rfl,rfl⟩
theorem mul_sign (x y:Rat):decide ((x*y).num<0)=((decide (x.num<0) != decide (y.num<0)) && !decide ((x*y).num=0)):=by
 have hg:0<Nat.gcd (x.num*y.num).natAbs (x.den*y.den):=Nat.gcd_pos_of_pos_right _ (Nat.mul_pos x.den_pos y.den_pos)
 obtain⟨t,ht⟩:((Nat.gcd (x.num*y.num).natAbs (x.den*y.den):Nat):Int) ∣ x.num*y.num:=Int.ofNat_dvd_left.2 (Nat.gcd_dvd_left _ _)
 have key:(x*y).num=t:=by
  rw[Rat.mul_def,Rat.normalize_eq]
  show x.num*y.num/((Nat.gcd (x.num*y.num).natAbs (x.den*y.den):Nat):Int)=t
  conv=>lhs;lhs;rw[ht]
  exact Int.mul_ediv_cancel_left _ (by omega)
 rw[key]
 generalize Nat.gcd (x.num*y.num).natAbs (x.den*y.den)=g at *
 have hs:(t<0↔x.num*y.num<0)∧(t=0↔x.num*y.num=0):=by
  rw[ht]
  constructor
  ·constructor
   ·intro h;exact Int.mul_neg_of_pos_of_neg (by omega) h
   ·intro h
    rcases Int.lt_or_le t 0 with h2|h2
    ·exact h2
    ·have:=jg4 (a:=(g:Int)) (by omega) h2;omega
  ·constructor
   ·intro h;rw[h,Int.mul_zero]
   ·intro h;rcases Int.mul_eq_zero.1 h with h2|h2<;>omega
 by_cases h1:x.num<0<;>by_cases h2:y.num<0<;>by_cases h3:t=0
 all_goals
  have h4:=hs.1
  have h5:=hs.2
  simp only[h1,h2,h3,decide_true,decide_false,bne_self_eq_false,Bool.false_and,Bool.not_true,Bool.and_false,Bool.not_false,Bool.and_true]
 ·rfl
 ·rw[decide_eq_false_iff_not,h4]
  have:=Int.mul_pos_of_neg_of_neg h1 h2;omega
 ·simp
 ·have h6:x.num*y.num≠0:=fun e=>h3 (h5.2 e)
  have h7:x.num*y.num≤0:=Int.mul_nonpos_of_nonpos_of_nonneg (by omega) (by omega)
  simp only[h4]
  simp;omega
 ·simp
 ·have h6:x.num*y.num≠0:=fun e=>h3 (h5.2 e)
  have h7:x.num*y.num≤0:=Int.mul_nonpos_of_nonneg_of_nonpos (by omega) (by omega)
  simp only[h4]
  simp;omega
 ·rfl
 ·rw[decide_eq_false_iff_not,h4]
  have:=jg4 (a:=x.num) (b:=y.num) (by omega) (by omega);omega
end Go.Proofs.YtbhpaandigaanaaGreatDoor
end
