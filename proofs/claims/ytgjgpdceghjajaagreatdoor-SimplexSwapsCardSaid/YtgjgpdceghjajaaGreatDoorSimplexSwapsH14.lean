/- What functions of the program answer at given values, part 14. Conditions: those that each theorem names. -/
import Derived.Test.YtgjgpdceghjajaaGreatDoorSimplexSwapsH10
import Derived.Test.YtgjgpdceghjajaaGreatDoorSimplexSwapsH13
import Derived.Test.YtgjgpdceghjajaaGreatDoorSimplexSwapsH11
import Derived.Test.YtgjgpdceghjajaaGreatDoorSimplexSwapsH6
set_option linter.unusedSimpArgs false
set_option linter.unusedVariables false
set_option maxHeartbeats 8000000
set_option maxRecDepth 100000
section
namespace Go.Proofs.YtgjgpdceghjajaaGreatDoor
open Go Go.V Go.Nb
def whV (l:List Int):Int:=l.foldl (fun v x=>v*1000+x%1000) 0
theorem whV_snoc (l:List Int)(x:Int):whV (l++[x])=whV l*1000+x%1000:=by unfold whV;rw[List.foldl_append];rfl
theorem whV_take (xs:List Int)(k:Nat)(h:k<xs.length):whV (xs.take (k+1))=whV (xs.take k)*1000+xs.getD k 0%1000:=by
 rw[jiW,jiC h,← whV_snoc,jiz,jiC h];rfl
theorem whV_bd:∀ (k:Nat) (xs:List Int),0≤whV (xs.take k)∧whV (xs.take k)<((1000^k:Nat):Int)
 | 0,xs=>by simp[whV]
 | k+1,xs=>by
  have ih:=whV_bd k xs
  have hp:(1000:Nat)^(k+1)=1000^k*1000:=Nat.pow_succ ..
  rw[hp]
  generalize (1000:Nat)^k=p at *
  rcases jig k xs.length with h|h
  ·rw[whV_take xs k h]
   omega
  ·have e:xs.take (k+1)=xs.take k:=by rw[jiO (by omega),jiO h]
   rw[e]
   omega
theorem raised_c (k:Nat)(hk:k≤3):Cl 119 [plD 10,.int .i64 k] (plD ((10^k:Nat):Int)):=by
 have h1:=jbl 1 (by constructor<;>decide)
 have ht:∀ i,i<k→Cl 109 [plD ((10^i:Nat):Int),plD 10] (plD ((10^(i+1):Nat):Int)):=fun i hi=>by
  have:=jeo ((10^i:Nat):Int) 10 (Sm.lit (k:=5) (by
   rcases (by omega:i=0∨i=1∨i=2) with e|e|e<;>subst e<;>decide) |>.mono (by omega)) ((Sm.lit (k:=5) (by decide)).mono (by omega))
  rw[Nat.pow_succ,jii]
  exact this
 obtain⟨v,hv⟩:∃ v:Nat→Int,v=fun i=>((10^i:Nat):Int):=⟨_,rfl⟩
 have ht:∀ i,i<k→Cl 109 [plD (v i),plD 10] (plD (v (i+1))):=by rw[hv];exact ht
 have h1:Cl 75 [.int .i64 1] (plD (v 0)):=by rw[hv];exact h1
 rw[show ((10^k:Nat):Int)=v k by rw[hv]]
 clear hv
 obtain⟨ten,hten⟩:∃ z:Int,z=10:=⟨_,rfl⟩
 rw[← hten] at ht ⊢
 clear hten
 unfold plD at *
 refine V.en tbOk Tryz.func119 ?_
 (conv=>whnf)
 refine V.st ?_
 repeat ((try ((with_reducible refine .ext ?_);(conv=>whnf)));(with_reducible refine jaa (r:=?_) ?_ ?_);rotate_left;(focus (first|exact(h1)));(conv=>whnf);refine V.st ?_)
 refine jae (0:Nat) (fun i=>i≤k) (fun i=>k-i) (fun i=>[(6,.int .i64 i)]) (fun i=>[(5,.box [.bool (decide (v i<0)),.ints .i64 (mg 10000 (v i).natAbs)])]) ?_ ?_ ?_
 ·exact V.wk
 ·exact jh4 _
 intro i hi
 have hic:((i:Int)+1)=((i+1:Nat):Int):=by omega
 have hti:=ht i
 (conv=>whnf)
 refine V.st ?_
 refine V.br (fun hq=>?_) (fun hq=>?_)
 ·rw[decide_eq_true_eq] at hq
  have hti:=hti (by omega)
  (conv=>whnf)
  (try simp only[hic])
  repeat ((first|refine V.s1 ?_|((with_reducible refine jam ?_ ?_);(focus ((conv=>whnf);(try simp only[hic]);(repeat ((first|refine V.s1 ?_);(try simp only[hic])));exact⟨rfl⟩));(conv=>whnf))|((try ((with_reducible refine .ext ?_);(conv=>whnf);(try simp only[hic])));(with_reducible refine jaa (r:=?_) ?_ ?_);rotate_left;(focus (first|exact(hti)));(conv=>whnf)));(try simp only[hic]))
  exact⟨i+1,by omega,by omega,V.wk⟩
 ·rw[decide_eq_false_iff_not] at hq
  obtain rfl:i=k:=by omega
  (conv=>whnf)
  refine V.st ?_
  exact Fin.of rfl
theorem dwhole_c (b:Bool)(xs:List Int)(z:Int)(hz:0≤z∧z≤3):∃ v:Int,(-10000000000000000000000000000000000000000<v∧v<10000000000000000000000000000000000000000) ∧
  Cl 74 [.agg [.bool b,.ints .u16 xs,.int .u16 z]] (.str (decZ v)):=by
 obtain⟨n,rfl⟩:∃ n:Nat,z=n:=⟨z.toNat,by omega⟩
 have hzm:(n:Int)%501=(n:Int):=by omega
 have i0:=jbl 0 (by constructor<;>decide)
 have i1:=jbl 1000 (by constructor<;>decide)
 have i2:=jbl 10 (by constructor<;>decide)
 have r1:=raised_c n (by omega)
 have p10:((10^n:Nat):Int)≤1000∧1≤((10^n:Nat):Int):=by
  rcases (by omega:n=0∨n=1∨n=2∨n=3) with e|e|e|e<;>subst e<;>decide
 generalize ((10^n:Nat):Int)=ten at *
 obtain⟨U,hU⟩:∃ U:Nat→Int,U=fun k=>whV (xs.take k):=⟨_,rfl⟩
 have bd:∀ k,k≤12→0≤U k∧U k<1000000000000000000000000000000000000:=fun k hk=>by
  have:=whV_bd k xs
  have h2:(1000:Nat)^k≤1000^12:=jio (by omega) hk
  rw[hU]
  exact⟨this.1,Int.lt_of_lt_of_le this.2 (Int.ofNat_le.2 h2)⟩
 have st:∀ k,k<xs.length→U (k+1)=U k*1000+xs.getD k 0%1000:=fun k hk=>by rw[hU];exact whV_take xs k hk
 have V0:U 0=0:=by rw[hU];rfl
 have Vn:∀ k,¬ (k<12∧k<xs.length)→k≤12→U k=U 12:=fun k h1 h2=>by
  rw[hU]
  show whV (xs.take k)=whV (xs.take 12)
  rcases (by omega:k=12∨xs.length≤k) with e|e
  ·rw[e]
  ·rw[jiO e,jiO (by omega)]
 clear hU
 have sm:∀ a:Int,0≤a→a<1000000000000000000000000000000000000000→Sm 10 a:=fun a h1 h2=>Sm.lit (by omega)
 have sm2:∀ a:Int,0≤a→a<1000000000000000000000000000000000000000→(mg 10000 a.natAbs).length≤10:=sm
 have hb:=bd 12 (by omega)
 have hfin:0≤U 12*ten∧U 12*ten<1000000000000000000000000000000000000000:=by
  have h1:=jh6 hb.1 (show 0≤ten by omega)
  have h2:=jim p10.1 hb.1
  omega
 have t9:=jeo (U 12) ten ((sm _ hb.1 (by omega)).mono (by omega)) ((sm _ (by omega) (by omega)).mono (by omega))
 obtain⟨w,hw⟩:∃ w:Int,U 12*ten=w:=⟨_,rfl⟩
 rw[hw] at t9 hfin
 have m1:=jc1 b w.natAbs (by have:=sm2 w hfin.1 hfin.2;omega)
 rw[show ((w.natAbs:Nat):Int)=w by omega] at m1
 have hv : -1000000000000000000000000000000000000000<(if b=true then -w else w)∧(if b=true then -w else w)<1000000000000000000000000000000000000000:=by split<;>omega
 refine⟨if b=true then -w else w,by omega,?_⟩
 generalize (if b=true then -w else w)=v at *
 have o1:=out_c v (Sm.lit (k:=10) (by omega) |>.mono (by omega))
 have hd:=(jaU 40 v.natAbs (by omega) (by omega)).1
 rw[if_neg (by omega),if_neg (by omega)] at o1
 obtain⟨k1000,hk1000⟩:∃ q:Int,q=1000:=⟨_,rfl⟩
 obtain⟨k10,hk10⟩:∃ q:Int,q=10:=⟨_,rfl⟩
 have tk:∀ k,k≤12→Cl 109 [plD (U k),plD k1000] (plD (U k*1000)):=fun k hk=>by
  rw[hk1000]
  exact jeo (U k) 1000 ((sm _ (bd k hk).1 (by have:=(bd k hk).2;omega)).mono (by omega)) ((sm _ (by omega) (by omega)).mono (by omega))
 have i1:Cl 75 [.int .i64 1000] (plD k1000):=by rw[hk1000];exact i1
 have i2:Cl 75 [.int .i64 10] (plD k10):=by rw[hk10];exact i2
 have r1:Cl 119 [plD k10,.int .i64 n] (plD ten):=by rw[hk10];exact r1
 have i0:Cl 75 [.int .i64 0] (plD (U 0)):=by rw[V0];exact i0
 clear hk1000 hk10 hb hfin hv hw hd V0 p10
 unfold plD at i0 i1 i2 r1 tk t9 m1 o1
 refine V.en tbOk Tryz.func74 ?_
 (conv=>whnf)
 refine V.st ?_
 repeat ((try ((with_reducible refine .ext ?_);(conv=>whnf)));(with_reducible refine jaa (r:=?_) ?_ ?_);rotate_left;(focus (first|exact(i0)));(conv=>whnf);refine V.st ?_)
 refine jae (0:Nat) (fun k=>k≤12∧k≤xs.length) (fun k=>12-k) (fun k=>[(4,.int .i64 k)]) (fun k=>[(3,.box [.bool (decide (U k<0)),.ints .i64 (mg 10000 (U k).natAbs)])]) ?_ ?_ ?_
 ·exact V.wk
 ·exact⟨by omega,by omega⟩
 intro k hk
 have hkc:((k:Int)+1)=((k+1:Nat):Int):=by omega
 (conv=>whnf)
 refine V.st ?_
 refine V.br (fun hq=>?_) (fun hq=>?_)
 ·simp only[jh2,decide_eq_true_eq] at hq
  obtain⟨x,hx,ex⟩:=getxn (xs:=xs) (k:=k) (by omega)
  have hst:=st k (by omega)
  rw[ex] at hst
  have hbk:=bd k (by omega)
  have hbk1:=bd (k+1) (by omega)
  have h1:=tk k (by omega)
  have h2:=jbl (x%1000) (by simp only[InR,V.lo,V.hi];omega)
  have h3:=plus_c (U k*1000) (x%1000) ((sm _ (by omega) (by omega)).mono (by omega)) ((sm _ (by omega) (by omega)).mono (by omega))
  rw[← hst] at h3
  unfold plD at h2 h3
  obtain⟨r,hr⟩:∃ r,x%1000=r:=⟨_,rfl⟩
  rw[hr] at h2 h3
  (conv=>whnf)
  refine V.st ?_
  refine⟨(V.tk [0,3,4,5,6,7,8,9] (V.e1 1 [9,8,7,6,5,4,3,0] (V.e1 2 [9,8,7,6,5,4,3] (V.e1 10 [] (V.e1 11 [] (V.e1 12 [] .done)))))),[],V.pok,.go (jad ?_)⟩
  (conv=>whnf)
  (try simp only[jh9,ex,hr,hkc])
  repeat ((first|refine V.s1 ?_|((with_reducible refine jam ?_ ?_);(focus ((conv=>whnf);(try simp only[jh9,ex,hr,hkc]);(repeat ((first|refine V.s1 ?_);(try simp only[jh9,ex,hr,hkc])));exact⟨rfl⟩));(conv=>whnf))|((try ((with_reducible refine .ext ?_);(conv=>whnf);(try simp only[jh9,ex,hr,hkc])));(with_reducible refine jaa (r:=?_) ?_ ?_);rotate_left;(focus (first|exact(i1)|exact(h1)|exact(h2)|exact(h3)));(conv=>whnf)));(try simp only[jh9,ex,hr,hkc]))
  exact⟨k+1,⟨by omega,by omega⟩,by omega,V.wk⟩
 ·have hk12:U k=U 12:=Vn k (fun h=>by rw[Bool.and_eq_false_iff,decide_eq_false_iff_not,decide_eq_false_iff_not] at hq;omega) hk.1
  rw[hk12]
  (conv=>whnf)
  refine V.st ?_
  refine⟨(V.tk [0,2,3,4,5] (V.e1 1 [5,4,3,2,0] (V.e1 6 [0] (V.e1 7 [] (V.e1 8 [] .done))))),[],V.pok,.go (jad ?_)⟩
  (conv=>whnf)
  (try simp only[hzm])
  repeat ((first|refine V.s1 ?_|((with_reducible refine jam ?_ ?_);(focus ((conv=>whnf);(try simp only[hzm]);(repeat ((first|refine V.s1 ?_);(try simp only[hzm])));exact⟨rfl⟩));(conv=>whnf))|((try ((with_reducible refine .ext ?_);(conv=>whnf);(try simp only[hzm])));(with_reducible refine jaa (r:=?_) ?_ ?_);rotate_left;(focus (first|exact(i2)|exact(r1)|exact(t9)));(conv=>whnf)));(try simp only[hzm]))
  (conv=>whnf)
  refine V.st ?_
  repeat ((try ((with_reducible refine .ext ?_);(conv=>whnf)));(with_reducible refine jaa (r:=?_) ?_ ?_);rotate_left;(focus (first|exact(m1)|exact(o1)));(conv=>whnf);refine V.st ?_)
  exact Fin.of rfl
theorem jhy (b:Bool)(xs:List Int)(z:Int)(b2:Bool)(xs2:List Int)(z2:Int)(hz:0≤z∧z≤65535)(hz2:0≤z2∧z2≤65535):∃ q:Rat,okF q=true ∧
  Cl 43 [.agg [.bool b,.ints .u16 xs,.int .u16 z,.bool b2,.ints .u16 xs2,.int .u16 z2]] (frT_o q):=by
 obtain⟨r,hr⟩:∃ r,z%4=r:=⟨_,rfl⟩
 obtain⟨r2,hr2⟩:∃ r,z2%4=r:=⟨_,rfl⟩
 obtain⟨v,hv,w1⟩:=dwhole_c b xs r (by omega)
 obtain⟨v2,hv2,w2⟩:=dwhole_c b2 xs2 r2 (by omega)
 obtain⟨y,hy⟩:∃ y,y=if v2=0 then 1 else v2:=⟨_,rfl⟩
 have hy0:y≠0 ∧ -10000000000000000000000000000000000000000<y∧y<10000000000000000000000000000000000000000:=by
  rw[hy];split<;>omega
 have n40:=divInt_40 v y hv hy0
 have hok:=okF_40 n40.1 n40.2
 have l40:∀ a:Int,(-10000000000000000000000000000000000000000<a∧a<10000000000000000000000000000000000000000)→Sm 10 a∧(dec a.natAbs).length≤600:=fun a ha=>
  ⟨Sm.lit (by omega),jih (jaU 40 a.natAbs (by omega) (by omega)).1 (by omega)⟩
 have i1:=in01_c_o (decZ v) (jbE v (l40 v hv).2)
 have i2:=in01_c_o (decZ v2) (jbE v2 (l40 v2 hv2).2)
 rw[jbw] at i1 i2
 have k1:=jbl 1 (by constructor<;>decide)
 have lw:=lowest_c v y ((l40 v hv).1.mono (by omega)) ((l40 y hy0.2).1.mono (by omega)) hy0.1
 have q4:Q4 10 (Rat.divInt v y):=Q4.of (l40 v hv).1 (l40 y hy0.2).1 hy0.1
 have o1:=out02_c (Rat.divInt v y) (q4.1.mono (by omega)) (q4.2.mono (by omega))
 unfold frR at o1
 rw[hok] at o1
 simp only[cond_true] at o1
 refine⟨_,hok,?_⟩
 have hnil:=jcp (B:=10000) (n:=v2.natAbs) (by omega)
 clear q4 hok n40 l40
 generalize Rat.divInt v y=q at *
 unfold frT_o raD plD at *
 generalize decZ v=t1 at *
 generalize decZ v2=t2 at *
 refine V.en tbOk Tryz.func43 ?_
 (conv=>whnf)
 refine V.st ?_
 refine⟨(V.tk [0,1,2,3] (.ev (.cons 4 [3,2,1,0] (V.e1 5 [3,2,1,0] (V.e1 6 [3,2] (V.e1 7 [] .done))) (.cons 5 [3,2,1,0] (V.e1 4 [3,2,1,0] (V.e1 6 [3,2] (V.e1 7 [] .done))) .nil)))),[],V.pok,?_⟩
 refine jab [(3,.box 3 0),(4,.box 4 0)] [(3,.box [.bool b,.ints .u16 xs,.int .u16 z]),(4,.box [.bool b2,.ints .u16 xs2,.int .u16 z2])] ?_ ?_
 ·exact V.d0 @jh7
 (conv=>whnf)
 refine V.st ?_
 refine⟨(V.tk [0,1,2,3,4,5,6] (V.e1 7 [5,4,3] (V.tk [8] (V.e1 9 [] .done)))),[],V.pok,?_⟩
 refine jab [] [(3,.box [.bool b,.ints .u16 xs,.int .u16 r]),(4,.box [.bool b2,.ints .u16 xs2,.int .u16 r2])] ?_ ?_
 ·exact V.d0 (V.a3 @jh7 hr hr2)
 (conv=>whnf)
 refine V.st ?_
 refine⟨(V.tk [0,3] (.ev (.cons 1 [3] (.ev (.cons 2 [3] (.ev (.cons 4 [] (.ev (.cons 5 [] (.ev (.cons 6 [] (V.e1 7 [] (V.e1 8 [] (V.e1 9 [] .done))) (.cons 7 [] (V.e1 6 [] (V.e1 8 [] (V.e1 9 [] .done))) .nil))) (.cons 6 [] (.ev (.cons 5 [] (V.e1 7 [] (V.e1 8 [] (V.e1 9 [] .done))) (.cons 7 [] (V.e1 5 [] (V.e1 8 [] (V.e1 9 [] .done))) .nil))) (.cons 7 [] (.ev (.cons 5 [] (V.e1 6 [] (V.e1 8 [] (V.e1 9 [] .done))) (.cons 6 [] (V.e1 5 [] (V.e1 8 [] (V.e1 9 [] .done))) .nil))) .nil)))) (.cons 6 [3] (.ev (.cons 4 [] (.ev (.cons 5 [] (V.e1 7 [] (V.e1 8 [] (V.e1 9 [] .done))) (.cons 7 [] (V.e1 5 [] (V.e1 8 [] (V.e1 9 [] .done))) .nil))) (.cons 7 [3] (V.e1 4 [] (V.e1 5 [] (V.e1 8 [] (V.e1 9 [] .done)))) .nil))) (.cons 7 [3] (.ev (.cons 4 [] (.ev (.cons 5 [] (V.e1 6 [] (V.e1 8 [] (V.e1 9 [] .done))) (.cons 6 [] (V.e1 5 [] (V.e1 8 [] (V.e1 9 [] .done))) .nil))) (.cons 6 [3] (V.e1 4 [] (V.e1 5 [] (V.e1 8 [] (V.e1 9 [] .done)))) .nil))) .nil)))) (.cons 6 [3] (.ev (.cons 2 [3] (.ev (.cons 4 [] (.ev (.cons 5 [] (V.e1 7 [] (V.e1 8 [] (V.e1 9 [] .done))) (.cons 7 [] (V.e1 5 [] (V.e1 8 [] (V.e1 9 [] .done))) .nil))) (.cons 7 [3] (V.e1 4 [] (V.e1 5 [] (V.e1 8 [] (V.e1 9 [] .done)))) .nil))) (.cons 7 [3] (V.e1 2 [3] (V.e1 4 [] (V.e1 5 [] (V.e1 8 [] (V.e1 9 [] .done))))) .nil))) (.cons 7 [3] (.ev (.cons 2 [3] (.ev (.cons 4 [] (.ev (.cons 5 [] (V.e1 6 [] (V.e1 8 [] (V.e1 9 [] .done))) (.cons 6 [] (V.e1 5 [] (V.e1 8 [] (V.e1 9 [] .done))) .nil))) (.cons 6 [3] (V.e1 4 [] (V.e1 5 [] (V.e1 8 [] (V.e1 9 [] .done)))) .nil))) (.cons 6 [3] (V.e1 2 [3] (V.e1 4 [] (V.e1 5 [] (V.e1 8 [] (V.e1 9 [] .done))))) .nil))) .nil)))) (.cons 6 [3,0] (.ev (.cons 1 [3] (.ev (.cons 2 [3] (.ev (.cons 4 [] (.ev (.cons 5 [] (V.e1 7 [] (V.e1 8 [] (V.e1 9 [] .done))) (.cons 7 [] (V.e1 5 [] (V.e1 8 [] (V.e1 9 [] .done))) .nil))) (.cons 7 [3] (V.e1 4 [] (V.e1 5 [] (V.e1 8 [] (V.e1 9 [] .done)))) .nil))) (.cons 7 [3] (V.e1 2 [3] (V.e1 4 [] (V.e1 5 [] (V.e1 8 [] (V.e1 9 [] .done))))) .nil))) (.cons 7 [3,0] (V.e1 1 [3] (V.e1 2 [3] (V.e1 4 [] (V.e1 5 [] (V.e1 8 [] (V.e1 9 [] .done)))))) .nil))) (.cons 7 [3,0] (.ev (.cons 1 [3] (.ev (.cons 2 [3] (.ev (.cons 4 [] (.ev (.cons 5 [] (V.e1 6 [] (V.e1 8 [] (V.e1 9 [] .done))) (.cons 6 [] (V.e1 5 [] (V.e1 8 [] (V.e1 9 [] .done))) .nil))) (.cons 6 [3] (V.e1 4 [] (V.e1 5 [] (V.e1 8 [] (V.e1 9 [] .done)))) .nil))) (.cons 6 [3] (V.e1 2 [3] (V.e1 4 [] (V.e1 5 [] (V.e1 8 [] (V.e1 9 [] .done))))) .nil))) (.cons 6 [3,0] (V.e1 1 [3] (V.e1 2 [3] (V.e1 4 [] (V.e1 5 [] (V.e1 8 [] (V.e1 9 [] .done)))))) .nil))) .nil))))),[],V.pok,?_⟩
 refine jab [(5,.box 5 0),(6,.box 6 0)] [(5,.box [.bool (decide (v<0)),.ints .i64 (mg 10000 v.natAbs)]),(6,.box [.bool (decide (v2<0)),.ints .i64 (mg 10000 v2.natAbs)])] ?_ ?_
 ·exact V.d4 @jh7 w1 w2 i1 i2
 (conv=>whnf)
 refine V.st ?_
 refine V.br (fun hq=>?_) (fun hq=>?_)
 ·have h0:v2=0:=by
   rw[decide_eq_true_eq] at hq
   have:=hnil.1 (jiA.1 (by omega))
   omega
  rw[if_pos h0] at hy
  subst hy
  (conv=>whnf)
  refine V.st ?_
  repeat ((try ((with_reducible refine .ext ?_);(conv=>whnf)));(with_reducible refine jaa (r:=?_) ?_ ?_);rotate_left;(focus (first|exact(k1)|exact(lw)|exact(o1)));(conv=>whnf);refine V.st ?_)
  exact Fin.of rfl
 ·have h0:v2≠0:=fun h=>by
   rw[decide_eq_false_iff_not] at hq
   exact hq (by rw[hnil.2 (by omega)];rfl)
  rw[if_neg h0] at hy
  subst hy
  (conv=>whnf)
  refine V.st ?_
  repeat ((try ((with_reducible refine .ext ?_);(conv=>whnf)));(with_reducible refine jaa (r:=?_) ?_ ?_);rotate_left;(focus (first|exact(lw)|exact(o1)));(conv=>whnf);refine V.st ?_)
  exact Fin.of rfl
def axq (a:Nat→Int)(i:Nat):Rat:=Rat.divInt (a i) 840
def cxq (a:Nat→Int)(i:Nat):Rat:=Rat.divInt (IntKind.wrap .u16 (a i)%841) 840
theorem cxq_fq (a:Nat→Int)(i:Nat):Fq 40 (cxq a i):=by
 have h:0≤IntKind.wrap .u16 (a i)%841∧IntKind.wrap .u16 (a i)%841≤840:=by omega
 exact(jaW (n:=4) (d:=840) (by decide) (by omega) (by decide)).mono (by decide)
theorem colorq1 {at' z1 z2 : Nat → Int} (b1 b2 : Nat → Bool) (p1 p2 : Nat → List Int) (ha : ∀ i, -32768 ≤ at' i ∧ at' i ≤ 32767) (h1 : ∀ i, 0 ≤ z1 i ∧ z1 i ≤ 65535) (h2 : ∀ i, 0 ≤ z2 i ∧ z2 i ≤ 65535) :
    ∃ X : Nat → Tx, Cl 13 [(colD at' z1 z2 b1 b2 p1 p2), .int .i64 1] (.agg [slQ (fun i => txq (axq at' i)) 1, slQ X 1, slQ (fun i => txq (cxq at' i)) 1]) := by
  have hx : ∀ i, ∃ q : Rat, Cl 43 [.agg [.bool (b1 i), .ints .u16 (p1 i), .int .u16 (z1 i), .bool (b2 i), .ints .u16 (p2 i), .int .u16 (z2 i)]] (.agg [.str (txq q).1, .str (txq q).2]) := fun i => by
    obtain ⟨q, _, c⟩ := jhy (b1 i) (p1 i) (z1 i) (b2 i) (p2 i) (z2 i) (h1 i) (h2 i)
    exact ⟨q, c⟩
  obtain ⟨q, hq⟩ := Classical.axiomOfChoice hx
  exact ⟨fun i => txq (q i), color1_t at' z1 z2 b1 b2 p1 p2 (fun i => txq (axq at' i)) (fun i => txq (q i)) (fun v => txq (Rat.divInt (v % 841) 840))
    (fun i _ => lof_c (n := at' i) (m := 840) (by have := ha i; omega) (by omega)) (fun i _ => hq i) (fun v => lof_c (n := v % 841) (m := 840) (by omega) (by omega))⟩
theorem colorq2 {at' z1 z2 : Nat → Int} (b1 b2 : Nat → Bool) (p1 p2 : Nat → List Int) (ha : ∀ i, -32768 ≤ at' i ∧ at' i ≤ 32767) (h1 : ∀ i, 0 ≤ z1 i ∧ z1 i ≤ 65535) (h2 : ∀ i, 0 ≤ z2 i ∧ z2 i ≤ 65535) :
    ∃ X : Nat → Tx, Cl 13 [(colD at' z1 z2 b1 b2 p1 p2), .int .i64 2] (.agg [slQ (fun i => txq (axq at' i)) 2, slQ X 2, slQ (fun i => txq (cxq at' i)) 2]) := by
  have hx : ∀ i, ∃ q : Rat, Cl 43 [.agg [.bool (b1 i), .ints .u16 (p1 i), .int .u16 (z1 i), .bool (b2 i), .ints .u16 (p2 i), .int .u16 (z2 i)]] (.agg [.str (txq q).1, .str (txq q).2]) := fun i => by
    obtain ⟨q, _, c⟩ := jhy (b1 i) (p1 i) (z1 i) (b2 i) (p2 i) (z2 i) (h1 i) (h2 i)
    exact ⟨q, c⟩
  obtain ⟨q, hq⟩ := Classical.axiomOfChoice hx
  exact ⟨fun i => txq (q i), color2_t at' z1 z2 b1 b2 p1 p2 (fun i => txq (axq at' i)) (fun i => txq (q i)) (fun v => txq (Rat.divInt (v % 841) 840))
    (fun i _ => lof_c (n := at' i) (m := 840) (by have := ha i; omega) (by omega)) (fun i _ => hq i) (fun v => lof_c (n := v % 841) (m := 840) (by omega) (by omega))⟩
theorem colorq3 {at' z1 z2 : Nat → Int} (b1 b2 : Nat → Bool) (p1 p2 : Nat → List Int) (ha : ∀ i, -32768 ≤ at' i ∧ at' i ≤ 32767) (h1 : ∀ i, 0 ≤ z1 i ∧ z1 i ≤ 65535) (h2 : ∀ i, 0 ≤ z2 i ∧ z2 i ≤ 65535) :
    ∃ X : Nat → Tx, Cl 13 [(colD at' z1 z2 b1 b2 p1 p2), .int .i64 3] (.agg [slQ (fun i => txq (axq at' i)) 3, slQ X 3, slQ (fun i => txq (cxq at' i)) 3]) := by
  have hx : ∀ i, ∃ q : Rat, Cl 43 [.agg [.bool (b1 i), .ints .u16 (p1 i), .int .u16 (z1 i), .bool (b2 i), .ints .u16 (p2 i), .int .u16 (z2 i)]] (.agg [.str (txq q).1, .str (txq q).2]) := fun i => by
    obtain ⟨q, _, c⟩ := jhy (b1 i) (p1 i) (z1 i) (b2 i) (p2 i) (z2 i) (h1 i) (h2 i)
    exact ⟨q, c⟩
  obtain ⟨q, hq⟩ := Classical.axiomOfChoice hx
  exact ⟨fun i => txq (q i), color3_t at' z1 z2 b1 b2 p1 p2 (fun i => txq (axq at' i)) (fun i => txq (q i)) (fun v => txq (Rat.divInt (v % 841) 840))
    (fun i _ => lof_c (n := at' i) (m := 840) (by have := ha i; omega) (by omega)) (fun i _ => hq i) (fun v => lof_c (n := v % 841) (m := 840) (by omega) (by omega))⟩
end Go.Proofs.YtgjgpdceghjajaaGreatDoor
end
section
namespace Go.Proofs.YtgjgpdceghjajaaGreatDoor
open Go Go.V Go.Nb Go.Gr
theorem jhM:type_of% @jh7∧type_of% @tn0∧type_of% @tn1∧type_of% @tn2∧type_of% @tn3∧type_of% @xt4:=⟨@jh7,@tn0,@tn1,@tn2,@tn3,@xt4⟩
theorem wakes_t (Q:Nat→Tx)
  (o0:Cl 18 [.int .i64 1,.int .i64 2] (.agg [.str (Q 0).1,.str (Q 0).2]))
  (o1:Cl 18 [.int .i64 1,.int .i64 4] (.agg [.str (Q 1).1,.str (Q 1).2]))
  (o2:Cl 18 [.int .i64 7,.int .i64 20] (.agg [.str (Q 2).1,.str (Q 2).2]))
  (o3:Cl 18 [.int .i64 3,.int .i64 10] (.agg [.str (Q 3).1,.str (Q 3).2]))
  (o4:Cl 18 [.int .i64 1,.int .i64 1] (.agg [.str (Q 4).1,.str (Q 4).2]))
  (o5:Cl 18 [.int .i64 2,.int .i64 1] (.agg [.str (Q 5).1,.str (Q 5).2]))
  (fo:Cl 31 [] (.agg [.ints .i64 [2,2],.int .i64 1,.ints .i64 [0,13107,26214,65535]]))
  (ce:Cl 17 [.agg [.ints .i64 [2,2],.int .i64 1,.ints .i64 [0,13107,26214,65535]],V.sl2 2 [.str (Q 0).1,.str (Q 0).2,.str (Q 1).1,.str (Q 1).2]] (.tup [.ints .i64 [0,0],.ints .i64 [0,1],V.sl2 3 [.str (Q 0).1,.str (Q 0).2,.str (Q 1).1,.str (Q 1).2,.str (Q 1).1,.str (Q 1).2],.int .i64 0]))
  (st:Cl 32 [.agg [.ints .i64 [2,2],.int .i64 1,.ints .i64 [0,13107,26214,65535]]] (.tup [.slf 1 1 (fun j=>List.take 1 (List.drop (j*1) [.ints .i64 [52428,39321]])),.int .i64 0]))
  (b1:Cl 29 [.agg [.ints .i64 [2,2],.int .i64 1,.ints .i64 [0,13107,26214,65535]],V.sl2 2 [.int .i64 500000000000,.int .i64 500000000000,.int .i64 250000000000,.int .i64 250000000000]] (.tup [V.sl2 1 [.int .i64 350000000000,.int .i64 350000000000],.int .i64 0]))
  (b2:Cl 29 [.agg [.ints .i64 [2,2],.int .i64 1,.ints .i64 [0,13107,26214,65535]],V.sl2 2 [.int .i64 250000000000,.int .i64 750000000000,.int .i64 250000000000,.int .i64 250000000000]] (.tup [V.sl2 1 [.int .i64 150000000000,.int .i64 550000000000],.int .i64 0]))
  (re:Cl 33 [.agg [.ints .i64 [2,2],.int .i64 1,.ints .i64 [0,13107,26214,65535]],.ints .i64 [3,2]] (.tup [.agg [.ints .i64 [3,2],.int .i64 1,.ints .i64 [0,13107,13107,39321,26214,65535]],.int .i64 0]))
  (ee:Cl 15 [.agg [.ints .i64 [2,2],.int .i64 1,.ints .i64 [0,13107,26214,65535]],V.sl2 1 [.str (Q 0).1,.str (Q 0).2]] (.tup [.nil,.int .i64 2]))
  (v0:Cl 26 [.agg [.ints .i64 [2,2],.int .i64 1,.ints .i64 [0,13107,26214,65535]],.agg [.str (Q 2).1,.str (Q 2).2],V.sl2 2 [.str (Q 0).1,.str (Q 0).2,.str (Q 1).1,.str (Q 1).2]] (.bool true))
  (v1:Cl 26 [.agg [.ints .i64 [2,2],.int .i64 1,.ints .i64 [0,13107,26214,65535]],.agg [.str (Q 3).1,.str (Q 3).2],V.sl2 2 [.str (Q 1).1,.str (Q 1).2,.str (Q 0).1,.str (Q 0).2]] (.bool true))
  (v2:Cl 26 [.agg [.ints .i64 [2,2],.int .i64 1,.ints .i64 [0,13107,26214,65535]],.agg [.str (Q 4).1,.str (Q 4).2],V.sl2 2 [.str (Q 5).1,.str (Q 5).2,.str (Q 4).1,.str (Q 4).2]] (.bool true)) :
  Cl 10 [] (.bool true):=by
 have q0:=jf8 [0,0] [0,0] (by decide) (by decide)
 have q1:=jf8 [0,1] [0,1] (by decide) (by decide)
 have q2:=jf8 [52428,39321] [52428,39321] (by decide) (by decide)
 have q3:=jf8 [0,13107,13107,39321,26214,65535] [0,13107,13107,39321,26214,65535] (by decide) (by decide)
 have f3:=eqf3 (fun k=>if k=0 then Q 0 else Q 1)
 have g1:=eqb1 (fun _=>(350000000000,350000000000))
 have g2:=eqb1 (fun _=>(150000000000,550000000000))
 refine V.en tbOk Tryz.func10 ?_
 (conv=>whnf)
 (conv=>whnf)
 (try simp only[jhM])
 repeat ((first|refine V.s1 ?_|((try ((with_reducible refine .ext ?_);(conv=>whnf);(try simp only[jhM])));(with_reducible refine jaa (r:=?_) ?_ ?_);rotate_left;(focus (first|exact(o0)|exact(o1)|exact(o2)|exact(o3)|exact(o4)|exact(o5)|exact(fo)|exact(ce)|exact(st)|exact(b1)|exact(b2)|exact(re)|exact(ee)|exact(v0)|exact(v1)|exact(v2)|exact(q0)|exact(q1)|exact(q2)|exact(q3)|exact(f3)|exact(g1)|exact(g2)));(conv=>whnf)));(try simp only[jhM]))
 refine⟨(V.tk [0] (V.e1 1 [0] (V.e1 2 [0] (V.e1 3 [0] (V.e1 4 [] (V.tk [5,6,7,8,9,10,11,12,13] .done)))))),[],V.pok,?_⟩
 refine jab [(2,.ints .i64 [0,0]),(3,.ints .i64 [0,1]),(4,V.sl2 3 [.str (Q 0).1,.str (Q 0).2,.str (Q 1).1,.str (Q 1).2,.str (Q 1).1,.str (Q 1).2]),(5,.int .i64 0)] [] ?_ ?_
 ·exact V.d3 jhM o0 o1 ce
 (conv=>whnf)
 (try simp only[jhM])
 repeat ((first|refine V.s1 ?_|((try ((with_reducible refine .ext ?_);(conv=>whnf);(try simp only[jhM])));(with_reducible refine jaa (r:=?_) ?_ ?_);rotate_left;(focus (first|exact(o0)|exact(o1)|exact(o2)|exact(o3)|exact(o4)|exact(o5)|exact(fo)|exact(ce)|exact(st)|exact(b1)|exact(b2)|exact(re)|exact(ee)|exact(v0)|exact(v1)|exact(v2)|exact(q0)|exact(q1)|exact(q2)|exact(q3)|exact(f3)|exact(g1)|exact(g2)));(conv=>whnf)));(try simp only[jhM]))
 refine⟨(V.tk [0] (V.e1 1 [0] (V.e1 2 [0] (V.e1 3 [] (V.tk [4,5,6,7,8] .done))))),[],V.pok,?_⟩
 refine jab [(17,.int .i64 2)] [] ?_ ?_
 ·exact V.d3 jhM o0 o1 ee
 (conv=>whnf)
 (try simp only[jhM])
 repeat ((first|refine V.s1 ?_|((try ((with_reducible refine .ext ?_);(conv=>whnf);(try simp only[jhM])));(with_reducible refine jaa (r:=?_) ?_ ?_);rotate_left;(focus (first|exact(o0)|exact(o1)|exact(o2)|exact(o3)|exact(o4)|exact(o5)|exact(fo)|exact(ce)|exact(st)|exact(b1)|exact(b2)|exact(re)|exact(ee)|exact(v0)|exact(v1)|exact(v2)|exact(q0)|exact(q1)|exact(q2)|exact(q3)|exact(f3)|exact(g1)|exact(g2)));(conv=>whnf)));(try simp only[jhM]))
 refine⟨(V.tk [0] (V.e1 1 [0] (V.e1 2 [] (V.tk [3,4] (V.e1 5 [4] (V.e1 6 [] (V.tk [7,8,9] (V.e1 10 [9] (V.e1 11 [9] (V.e1 12 [9] (V.e1 13 [9] (V.e1 14 [] (V.tk [15,16,17] (V.e1 18 [17] (V.e1 19 [17] (V.e1 20 [17] (V.e1 21 [17] (V.e1 22 [] (V.tk [23,24,25] (V.e1 26 [25] (V.e1 27 [25] (V.e1 28 [25] (V.e1 29 [25] (V.e1 30 [] (V.tk [31,32,33] (V.e1 34 [33] (V.e1 35 [33] (V.e1 36 [33] (V.e1 37 [33] (V.e1 38 [] (V.tk [39,40,41,42,43] (V.e1 44 [43,42,41] (V.e1 45 [] (V.tk [46,47,48,49] (V.e1 50 [48] (V.e1 51 [] (V.tk [52,53,54,55] (V.e1 56 [54] (V.e1 57 [] (V.tk [58,59,60,61] (V.e1 62 [61,60] (V.e1 63 [] (V.tk [64,65] .done))))))))))))))))))))))))))))))))))))))))))),[],V.pok,?_⟩
 refine jab [(0,.bool true)] [] ?_ ?_
 ·(conv=>whnf);(try simp only[jhM])
  repeat' (first|exact V.wk|((with_reducible refine And.intro ?_ jax);(conv=>whnf);(try simp only[jhM]))|((with_reducible first|refine jar ?_ ?_|refine jau ?_ ?_)<;>(conv=>whnf);(try simp only[jhM]))|((first|refine V.s1 ?_|((with_reducible refine jam ?_ ?_);(focus ((conv=>whnf);(try simp only[jhM]);(repeat ((first|refine V.s1 ?_);(try simp only[jhM])));exact⟨rfl⟩));(conv=>whnf))|((try ((with_reducible refine .ext ?_);(conv=>whnf);(try simp only[jhM])));(with_reducible refine jaa (r:=?_) ?_ ?_);rotate_left;(focus (first|exact(o0)|exact(o1)|exact(o2)|exact(o3)|exact(o4)|exact(o5)|exact(fo)|exact(ce)|exact(st)|exact(b1)|exact(b2)|exact(re)|exact(ee)|exact(v0)|exact(v1)|exact(v2)|exact(q0)|exact(q1)|exact(q2)|exact(q3)|exact(f3)|exact(g1)|exact(g2)));(conv=>whnf)));(try simp only[jhM]))|(refine And.intro ?_ ?_<;>(conv=>whnf);(try simp only[jhM])))
 refine V.r0 jhM ?_
 exact Fin.of rfl
end Go.Proofs.YtgjgpdceghjajaaGreatDoor
end
section
namespace Go.Proofs.YtgjgpdceghjajaaGreatDoor
open Go Go.V Go.Nb
def flU (x:Rat):Int:=(x*1000000000000).floor
def clU (x:Rat):Int := -((-(x*1000000000000)).floor)
theorem jgg (m:Int):unit m=(m:Rat)/1000000000000:=by
 unfold unit
 rw[Rat.divInt_eq_div]
 rfl
theorem jen {x:Rat}{m:Int} : unit m≤x↔(m:Rat)≤x*1000000000000:=by
 rw[jgg]
 constructor<;>intro h<;>grind
theorem jeD {x:Rat}{m:Int} : x≤unit m↔x*1000000000000≤(m:Rat):=by
 rw[jgg]
 constructor<;>intro h<;>grind
theorem jfp {x:Rat}{m:Int} : m≤flU x↔(m:Rat)≤x*1000000000000:=Rat.le_floor_iff
theorem jft {x:Rat}{m:Int} : clU x≤m↔x*1000000000000≤(m:Rat):=by
 unfold clU
 have:=Rat.le_floor_iff (x := -m) (a := -(x*1000000000000))
 rw[Rat.intCast_neg] at this
 constructor
 ·intro h
  have:=this.1 (by omega)
  grind
 ·intro h
  have:=this.2 (by grind)
  omega
theorem flU_mono {x y:Rat}(h:x≤y):flU x≤flU y:=jfp.2 (by
 have:=jfp.1 (Int.le_refl (flU x))
 grind)
theorem clU_mono {x y:Rat}(h:x≤y):clU x≤clU y:=jft.2 (by
 have:=jft.1 (Int.le_refl (clU y))
 grind)
theorem fl_cl {x y:Rat}(h:x≤y):flU x≤clU y:=by
 have h1:=jfp.1 (Int.le_refl (flU x))
 have h2:=jft.1 (Int.le_refl (clU y))
 have h3:((flU x:Int):Rat)≤((clU y:Int):Rat):=by grind
 exact Rat.intCast_le_intCast.1 h3
theorem around_fl {x:Rat}(h : -100000≤x∧x≤100000):jc7 x=(flU x,clU x,0)∧(-100000000000000001≤nearZ x 1000000000000∧nearZ x 1000000000000≤100000000000000001):=by
 have hd:=x.den_pos
 have k1:x.num≤100000*x.den:=by
  have:=(Rat.le_iff (a:=x) (b:=100000)).1 h.2
  rw[show (100000:Rat).num=100000 from rfl,show (100000:Rat).den=1 from rfl] at this
  omega
 have k2 : -(100000*(x.den:Int))≤x.num:=by
  have:=(Rat.le_iff (a := -100000) (b:=x)).1 h.1
  rw[show (-100000:Rat).num = -100000 from rfl,show (-100000:Rat).den=1 from rfl] at this
  omega
 have nl:=near_le x 100000 ⟨k2,k1⟩
 refine⟨?_,by omega⟩
 obtain⟨p,q,e,hv,hq,hh,hu⟩:=around_law x (by omega)
 have hb:=(jf4 x p q).1 hh
 have p1:unit p≤x:=Rat.not_lt.1 fun g=>by have:=(jhd p x).1 g;omega
 have q1:x≤unit q:=Rat.not_lt.1 fun g=>by have:=(jfE q x).1 g;omega
 have vi:=jbz.1 hv
 have f1:p≤flU x:=jfp.2 (jen.1 p1)
 have c1:clU x≤q:=jft.2 (jeD.1 q1)
 have f2:flU x≤p:=by
  have g1:=jfp.1 (Int.le_refl (flU x))
  rcases Int.lt_or_le p (flU x) with g|g
  ·have e2:flU x≤q:=Int.le_trans (fl_cl Rat.le_refl) c1
   have e3:flU x=q:=by omega
   have e4:unit q=x:=Rat.le_antisymm (jen.2 (by rw[← e3];exact g1)) q1
   have e5:=je1 q (jbz.2 (by omega))
   rw[e4,e] at e5
   have:p=q:=congrArg Prod.fst e5
   omega
  ·exact g
 have c2:q≤clU x:=by
  have g1:=jft.1 (Int.le_refl (clU x))
  rcases Int.lt_or_le (clU x) q with g|g
  ·have e2:p≤clU x:=Int.le_trans f1 (fl_cl Rat.le_refl)
   have e3:clU x=p:=by omega
   have e4:unit p=x:=Rat.le_antisymm p1 (jeD.2 (by rw[← e3];exact g1))
   have e5:=je1 p (jbz.2 (by omega))
   rw[e4,e] at e5
   have:q=p:=congrArg (fun r=>r.2.1) e5
   omega
  ·exact g
 rw[e,show p=flU x from by omega,show q=clU x from by omega]
theorem jej {n:Nat}{x:Rat}(h:Fq n x)(h0:0<n∧n≤600)(hb : -100000≤x∧x≤100000):Cl 102 [frT x] (.tup [.agg [.int .i64 (flU x),.int .i64 (clU x)],.int .i64 0]):=by
 have o:=jbc (h.ok h0.1 h0.2)
 have a:=around_fl hb
 have c:=around_b (decZ x.num) (dec x.den) o.1 (by rw[o.2];omega)
 rw[o.2,a.1] at c
 exact c
def preI (k:Nat)(l:List D):List D:=l.take k++List.replicate (l.length-k) (.int .i64 0)
theorem jhR:type_of% @jh7∧type_of% @tn0∧type_of% @tn1∧type_of% @tn2∧type_of% @tn3∧type_of% @xt4:=⟨@jh7,@tn0,@tn1,@tn2,@tn3,@xt4⟩
theorem blist2a {F:Nat}{e0 n0:Nat}{f0:Nat→List D}(T:Nat→Int×Int)(c0:Cl F (.int .i64 0::[.ref [.slf e0 n0 f0]]) (.tup [.agg [.int .i64 (T 0).1,.int .i64 (T 0).2],.int .i64 0]))(c1:Cl F (.int .i64 1::[.ref [.slf e0 n0 f0]]) (.tup [.agg [.int .i64 (T 1).1,.int .i64 (T 1).2],.int .i64 0])) :
  Cl 55 [.int .i64 2,.fn F [] [.ref [.slf e0 n0 f0]]] (.tup [V.sl2 2 [.int .i64 (T 0).1,.int .i64 (T 0).2,.int .i64 (T 1).1,.int .i64 (T 1).2],.int .i64 0]):=by
 refine V.en tbOk Tryz.func55 ?_
 refine V.r0 @jh7 ?_
 refine jae (0) (fun k=>k≤2) (fun k=>2-k) (fun k=>[(14,.int .i64 k)]) (fun k=>[(11,.box (preI (2*k) [.int .i64 (T 0).1,.int .i64 (T 0).2,.int .i64 (T 1).1,.int .i64 (T 1).2]))]) ?_ ?_ ?_
 ·exact V.wk
 ·exact jh4 _
 intro k hk
 have hk4:k=0∨k=1∨k=2:=by omega
 rcases hk4 with e|e|e
 all_goals subst e
 ·simp only[k0]
  refine V.r1 jhR c0 ?_
  exact⟨1,by omega,by omega,V.wk⟩
 ·simp only[k1]
  refine V.r1 jhR c1 ?_
  exact⟨2,by omega,by omega,V.wk⟩
 ·simp only[k2]
  refine V.r0 @jh7 ?_
  exact Fin.of rfl
theorem blist4b {F:Nat}{p0 p1 p2 p3 q0 q1 q2 q3:List UInt8}(T:Nat→Int×Int)(c0:Cl F (.int .i64 0::[.ref [.str p0,.str q0],.ref [.str p1,.str q1],.ref [.str p2,.str q2],.ref [.str p3,.str q3]]) (.tup [.agg [.int .i64 (T 0).1,.int .i64 (T 0).2],.int .i64 0]))(c1:Cl F (.int .i64 1::[.ref [.str p0,.str q0],.ref [.str p1,.str q1],.ref [.str p2,.str q2],.ref [.str p3,.str q3]]) (.tup [.agg [.int .i64 (T 1).1,.int .i64 (T 1).2],.int .i64 0]))(c2:Cl F (.int .i64 2::[.ref [.str p0,.str q0],.ref [.str p1,.str q1],.ref [.str p2,.str q2],.ref [.str p3,.str q3]]) (.tup [.agg [.int .i64 (T 2).1,.int .i64 (T 2).2],.int .i64 0]))(c3:Cl F (.int .i64 3::[.ref [.str p0,.str q0],.ref [.str p1,.str q1],.ref [.str p2,.str q2],.ref [.str p3,.str q3]]) (.tup [.agg [.int .i64 (T 3).1,.int .i64 (T 3).2],.int .i64 0])) :
  Cl 55 [.int .i64 4,.fn F [] [.ref [.str p0,.str q0],.ref [.str p1,.str q1],.ref [.str p2,.str q2],.ref [.str p3,.str q3]]] (.tup [V.sl2 4 [.int .i64 (T 0).1,.int .i64 (T 0).2,.int .i64 (T 1).1,.int .i64 (T 1).2,.int .i64 (T 2).1,.int .i64 (T 2).2,.int .i64 (T 3).1,.int .i64 (T 3).2],.int .i64 0]):=by
 refine V.en tbOk Tryz.func55 ?_
 refine V.r0 @jh7 ?_
 refine jae (0) (fun k=>k≤4) (fun k=>4-k) (fun k=>[(14,.int .i64 k)]) (fun k=>[(11,.box (preI (2*k) [.int .i64 (T 0).1,.int .i64 (T 0).2,.int .i64 (T 1).1,.int .i64 (T 1).2,.int .i64 (T 2).1,.int .i64 (T 2).2,.int .i64 (T 3).1,.int .i64 (T 3).2]))]) ?_ ?_ ?_
 ·exact V.wk
 ·exact jh4 _
 intro k hk
 have hk4:k=0∨k=1∨k=2∨k=3∨k=4:=by omega
 rcases hk4 with e|e|e|e|e
 all_goals subst e
 ·simp only[k0]
  refine V.r1 jhR c0 ?_
  exact⟨1,by omega,by omega,V.wk⟩
 ·simp only[k1]
  refine V.r1 jhR c1 ?_
  exact⟨2,by omega,by omega,V.wk⟩
 ·simp only[k2]
  refine V.r1 jhR c2 ?_
  exact⟨3,by omega,by omega,V.wk⟩
 ·simp only[k3]
  refine V.r1 jhR c3 ?_
  exact⟨4,by omega,by omega,V.wk⟩
 ·simp only[xk4]
  refine V.r0 @jh7 ?_
  exact Fin.of rfl
theorem blist1c {F:Nat}{e0 n0 e1 n1 e2 n2:Nat}{f0 f1 f2:Nat→List D}{g0 g1:List Int}(T:Nat→Int×Int)(c0:Cl F (.int .i64 0::[.ref [.slf e0 n0 f0],.ref [.slf e1 n1 f1],.ref [.slf e2 n2 f2],.ref [.ints .i64 g0],.ref [.ints .i64 g1]]) (.tup [.agg [.int .i64 (T 0).1,.int .i64 (T 0).2],.int .i64 0])) :
  Cl 55 [.int .i64 1,.fn F [] [.ref [.slf e0 n0 f0],.ref [.slf e1 n1 f1],.ref [.slf e2 n2 f2],.ref [.ints .i64 g0],.ref [.ints .i64 g1]]] (.tup [V.sl2 1 [.int .i64 (T 0).1,.int .i64 (T 0).2],.int .i64 0]):=by
 refine V.en tbOk Tryz.func55 ?_
 refine V.r0 @jh7 ?_
 refine jae (0) (fun k=>k≤1) (fun k=>1-k) (fun k=>[(14,.int .i64 k)]) (fun k=>[(11,.box (preI (2*k) [.int .i64 (T 0).1,.int .i64 (T 0).2]))]) ?_ ?_ ?_
 ·exact V.wk
 ·exact jh4 _
 intro k hk
 have hk4:k=0∨k=1:=by omega
 rcases hk4 with e|e
 all_goals subst e
 ·simp only[k0]
  refine V.r1 jhR c0 ?_
  exact⟨1,by omega,by omega,V.wk⟩
 ·simp only[k1]
  refine V.r0 @jh7 ?_
  exact Fin.of rfl
theorem conf1_0 (p0 p1 p2 p3 q0 q1 q2 q3:List UInt8)(b:Int×Int)(c:Cl 102 [.agg [.str p0,.str q0]] (.tup [.agg [.int .i64 b.1,.int .i64 b.2],.int .i64 0])):Cl 101 (.int .i64 0::[.ref [.str p0,.str q0],.ref [.str p1,.str q1],.ref [.str p2,.str q2],.ref [.str p3,.str q3]]) (.tup [.agg [.int .i64 b.1,.int .i64 b.2],.int .i64 0]):=by
 refine V.en tbOk Tryz.func101 ?_
 refine V.r1 jhR c ?_
 exact Fin.of rfl
theorem conf1_1 (p0 p1 p2 p3 q0 q1 q2 q3:List UInt8)(b:Int×Int)(c:Cl 102 [.agg [.str p1,.str q1]] (.tup [.agg [.int .i64 b.1,.int .i64 b.2],.int .i64 0])):Cl 101 (.int .i64 1::[.ref [.str p0,.str q0],.ref [.str p1,.str q1],.ref [.str p2,.str q2],.ref [.str p3,.str q3]]) (.tup [.agg [.int .i64 b.1,.int .i64 b.2],.int .i64 0]):=by
 refine V.en tbOk Tryz.func101 ?_
 refine V.r1 jhR c ?_
 exact Fin.of rfl
theorem conf1_2 (p0 p1 p2 p3 q0 q1 q2 q3:List UInt8)(b:Int×Int)(c:Cl 102 [.agg [.str p2,.str q2]] (.tup [.agg [.int .i64 b.1,.int .i64 b.2],.int .i64 0])):Cl 101 (.int .i64 2::[.ref [.str p0,.str q0],.ref [.str p1,.str q1],.ref [.str p2,.str q2],.ref [.str p3,.str q3]]) (.tup [.agg [.int .i64 b.1,.int .i64 b.2],.int .i64 0]):=by
 refine V.en tbOk Tryz.func101 ?_
 refine V.r1 jhR c ?_
 exact Fin.of rfl
theorem conf1_3 (p0 p1 p2 p3 q0 q1 q2 q3:List UInt8)(b:Int×Int)(c:Cl 102 [.agg [.str p3,.str q3]] (.tup [.agg [.int .i64 b.1,.int .i64 b.2],.int .i64 0])):Cl 101 (.int .i64 3::[.ref [.str p0,.str q0],.ref [.str p1,.str q1],.ref [.str p2,.str q2],.ref [.str p3,.str q3]]) (.tup [.agg [.int .i64 b.1,.int .i64 b.2],.int .i64 0]):=by
 refine V.en tbOk Tryz.func101 ?_
 refine V.r1 jhR c ?_
 exact Fin.of rfl
theorem bands1_20 (X:Nat→Int×Int)(b:Int×Int)(c:Cl 57 [.agg [.int .i64 (X 0).1,.int .i64 (X 0).2],.int .i64 0,.int .i64 1000000000000] (.tup [.agg [.int .i64 b.1,.int .i64 b.2],.int .i64 0])):Cl 56 (.int .i64 0::[.ref [V.sl2 2 [.int .i64 (X 0).1,.int .i64 (X 0).2,.int .i64 (X 1).1,.int .i64 (X 1).2]]]) (.tup [.agg [.int .i64 b.1,.int .i64 b.2],.int .i64 0]):=by
 refine V.en tbOk Tryz.func56 ?_
 refine V.r1 jhR c ?_
 exact Fin.of rfl
theorem bands1_21 (X:Nat→Int×Int)(b:Int×Int)(c:Cl 57 [.agg [.int .i64 (X 1).1,.int .i64 (X 1).2],.int .i64 0,.int .i64 1000000000000] (.tup [.agg [.int .i64 b.1,.int .i64 b.2],.int .i64 0])):Cl 56 (.int .i64 1::[.ref [V.sl2 2 [.int .i64 (X 0).1,.int .i64 (X 0).2,.int .i64 (X 1).1,.int .i64 (X 1).2]]]) (.tup [.agg [.int .i64 b.1,.int .i64 b.2],.int .i64 0]):=by
 refine V.en tbOk Tryz.func56 ?_
 refine V.r1 jhR c ?_
 exact Fin.of rfl
end Go.Proofs.YtgjgpdceghjajaaGreatDoor
end
section
namespace Go.V
open Go Go.RowKit
def Env.alias (E:Env)(i j:Nat):Env:=⟨fun x=>if x=j then E.blk i else E.blk x,fun x=>if x=j then E.siz i else E.siz x,fun x=>if x=j then E.kn i else E.kn x,fun x=>if x=j then E.real i else E.real x,fun x=>if x=j then E.lpr i else E.lpr x⟩
theorem Env.off_alias (E:Env)(i j:Nat):E.off (E.alias i j) j:=fun k hk=>by simp[Env.alias,hk]
section
variable {cx : Cx} {E : Env} {h : Pub} {a : Act} {w : World} {L : Sl} {H : Hp}
theorem Sat.renArr (S:Sat cx E h a w L H){i j:Nat}{k:IntKind}{xs:List Int}(hij:i≠j)(hoff':cx.off≤j)(hi:lookH H i=some (.arr k xs)) :
  Sat cx (E.alias i j) h a w (purge j L) ((j,.arr k xs)::(i,.gone)::jaD j H):=by
 have hoff:=E.off_alias i j
 have ej:(E.alias i j).blk j=E.blk i∧(E.alias i j).siz j=E.siz i∧(E.alias i j).kn j=E.kn i∧(E.alias i j).real j=E.real i:=by simp[Env.alias]
 have ne:∀ x,x≠j→(E.alias i j).blk x=E.blk x∧(E.alias i j).real x=E.real x:=fun x hx=>⟨(hoff x hx).1,(hoff x hx).2.2.2.1⟩
 have live:∀ x c',x≠j→lookH ((j,.arr k xs)::(i,.gone)::jaD j H) x=some c'→c'.live=true→x≠i ∧ ∃ c0,lookH H x=some c0∧c'=jb8 j c0∧c0.live=true:=by
  intro x c' hx hc' hl
  rw[jag,if_neg (Ne.symm hx),jag] at hc'
  by_cases hxi:i=x
  ·rw[if_pos hxi] at hc';cases hc';cases hl
  ·rw[if_neg hxi] at hc'
   obtain⟨c0,h1,h2⟩:=jbd hc'
   exact⟨Ne.symm hxi,c0,h1,h2,by rw[h2,jbb] at hl;exact hl⟩
 have atj:∀ c',lookH ((j,.arr k xs)::(i,.gone)::jaD j H) j=some c'→c' = .arr k xs:=fun c' hc'=>by
  rw[jag,if_pos rfl] at hc';cases hc';rfl
 refine { knows:=?_,mem:=?_,agree:=S.agree,since:=S.since,low:=fun x hx=>jeC S.low hoff hoff' x hx,side:=S.side }
 ·exact fun t=>jbL hoff (S.knows t)
 ·refine { ok:=?_,base:=?_,unpub:=?_,inj:=?_ }
  ·intro x c' hc'
   by_cases hx:x=j
   ·subst hx
    rw[atj c' hc']
    have:=S.mem.ok i _ hi
    simp only[ChunkOk] at this ⊢
    rw[ej.1,ej.2.1,ej.2.2.1,ej.2.2.2]
    exact this
   ·cases hl:c'.live with
    | false=>cases c'<;>first|trivial|(simp[Chunk.live] at hl)
    | true=>
     obtain⟨_,c0,h1,rfl,hl'⟩:=live x c' hx hc' hl
     exact ChunkOk.env hoff hx (S.mem.ok x _ h1)
  ·intro x c' hc' hl hr
   by_cases hx:x=j
   ·subst hx
    rw[ej.2.2.2] at hr
    rw[ej.1]
    exact S.mem.base i _ hi rfl hr
   ·obtain⟨_,c0,h1,rfl,hl'⟩:=live x c' hx hc' hl
    rw[(ne x hx).2] at hr
    rw[(ne x hx).1]
    exact S.mem.base x _ h1 hl' hr
  ·intro x c' hc' hl hr o
   by_cases hx:x=j
   ·subst hx
    rw[ej.2.2.2] at hr
    rw[ej.1]
    exact S.mem.unpub i _ hi rfl hr o
   ·obtain⟨_,c0,h1,rfl,hl'⟩:=live x c' hx hc' hl
    rw[(ne x hx).2] at hr
    rw[(ne x hx).1]
    exact S.mem.unpub x _ h1 hl' hr o
  ·intro x y c1 c2 hxy h1 h2 l1 l2 r1 r2
   by_cases hx:x=j
   ·subst hx
    obtain⟨hyi,c0',g2,rfl,l2'⟩:=live y c2 (Ne.symm hxy) h2 l2
    rw[ej.2.2.2] at r1
    rw[(ne y (Ne.symm hxy)).2] at r2
    rw[ej.1,(ne y (Ne.symm hxy)).1]
    exact S.mem.inj i y _ _ (Ne.symm hyi) hi g2 rfl l2' r1 r2
   ·obtain⟨hxi,c0,g1,rfl,l1'⟩:=live x c1 hx h1 l1
    rw[(ne x hx).2] at r1
    rw[(ne x hx).1]
    by_cases hy:y=j
    ·subst hy
     rw[ej.2.2.2] at r2
     rw[ej.1]
     exact S.mem.inj x i _ _ hxi g1 hi l1' rfl r1 r2
    ·obtain⟨hyi,c0',g2,rfl,l2'⟩:=live y c2 hy h2 l2
     rw[(ne y hy).2] at r2
     rw[(ne y hy).1]
     exact S.mem.inj x y _ _ hxy g1 g2 l1' l2' r1 r2
end
theorem Wk.renBox {off:Nat}{L:Sl}{H:Hp}{L2:Sl}{H2:Hp}(i j b p n:Nat){k:IntKind}{xs:List Int}{ds:List D}(hij:i≠j)(hb:b≠i∧b≠j)(hoff:off≤j)(hi:lookH H i=some (.arr k xs))(hj:lookH (jaD j H) b=some (.box ds))(hp:ds[p]? = some (.osl i 0 n))
  (h:Wk off (purge j L) ((b,.box (ds.set p (.osl j 0 n)))::(j,.arr k xs)::(i,.gone)::jaD j H) L2 H2):Wk off L H L2 H2:=by
 refine⟨fun cx E h' a w e S=>?_⟩
 subst e
 have S1:=S.renArr hij hoff hi
 have hb1:lookH ((j,.arr k xs)::(i,.gone)::jaD j H) b=some (.box ds):=by
  rw[jag,if_neg (Ne.symm hb.2),jag,if_neg (Ne.symm hb.1)];exact hj
 have fe:∀ v,Den (E.alias i j) h' (.osl i 0 n) v→Den (E.alias i j) h' (.osl j 0 n) v:=fun v hv=>by
  simp only[Den,Env.alias,if_true,if_neg hij] at hv ⊢
  exact hv
 refine h.out cx (E.alias i j) h' a w rfl (S1.rechunk hb1 rfl ?_)
 obtain⟨h1,vs,rest,T,h2,h3,h4⟩:=S1.mem.ok b _ hb1
 exact⟨h1,vs,rest,T,h2,jga h3 hp fe,h4⟩
end Go.V
end
section
namespace Go.Proofs.YtgjgpdceghjajaaGreatDoor
open Go Go.V Go.Nb
def grd (data:List Int)(s z:Int)(a:Nat):Int:=(z-1)*max (data.getD ((a:Int)+s).toNat 0-data.getD a 0) (data.getD a 0-data.getD ((a:Int)+s).toNat 0)
def stp (data:List Int)(out s z:Int)(i:Nat)(w:Nat→List Int)(a:Nat)(r:Nat):List Int:=
 if (a:Int)/s%z=z-1 then w r else if (a:Int)%out=r then (w r).set i (max ((w r).getD i 0) (grd data s z a)) else w r
def inS (data:List Int)(out s z:Int)(i:Nat)(w:Nat→List Int):Nat→Nat→List Int
 | 0=>w
 | a+1=>stp data out s z i (inS data out s z i w a) a
def strd (zs:List Int)(out:Int):Nat→Int
 | 0=>out
 | k+1=>strd zs out k*zs.getD (zs.length-1-k) 0
def outS (zs data:List Int)(out:Int):Nat→Nat→List Int
 | 0=>fun _=>List.replicate zs.length 0
 | k+1=>inS data out (strd zs out k) (zs.getD (zs.length-1-k) 0) (zs.length-1-k) (outS zs data out k) data.length
def rowOk (n:Nat)(l:List Int):Prop:=l.length=n ∧ ∀ j,0≤l.getD j 0∧l.getD j 0≤600000
theorem grd_bd {data:List Int}{s z:Int}{a:Nat}(hd:∀ v∈data,0≤v∧v≤65535)(hz:2≤z∧z≤9):0≤grd data s z a∧grd data s z a≤600000:=by
 have h1:=jbG (p:=fun v=>0≤v∧v≤65535) hd (by omega) a
 have h2:=jbG (p:=fun v=>0≤v∧v≤65535) hd (by omega) ((a:Int)+s).toNat
 unfold grd
 generalize hx:max (data.getD ((a:Int)+s).toNat 0-data.getD a 0) (data.getD a 0-data.getD ((a:Int)+s).toNat 0)=x
 have hx2:0≤x∧x≤65535:=by omega
 constructor
 ·exact jh6 (by omega) hx2.1
 ·have:=Int.mul_le_mul (show z-1≤8 by omega) hx2.2 hx2.1 (by omega)
  omega
theorem rowOk_set {n:Nat}{l:List Int}{i:Nat}{v:Int}(h:rowOk n l)(hv:0≤v∧v≤600000):rowOk n (l.set i v):=by
 refine⟨by rw[jiT];exact h.1,fun j=>?_⟩
 by_cases hi:i<l.length
 ·rw[jeI l i j v hi]
  split
  ·exact hv
  ·exact h.2 j
 ·rw[List.set_eq_of_length_le (by omega)]
  exact h.2 j
theorem inS_ok {data:List Int}{out s z:Int}{i n:Nat}{w:Nat→List Int}(hd:∀ v∈data,0≤v∧v≤65535)(hz:2≤z∧z≤9)(hw:∀ r,rowOk n (w r)):∀ a r,rowOk n (inS data out s z i w a r)
 | 0,r=>hw r
 | a+1,r=>by
  have h:=inS_ok (out:=out) (s:=s) (z:=z) (i:=i) hd hz hw a r
  have g:=grd_bd (s:=s) (a:=a) hd hz
  simp only[inS,stp]
  split
  ·exact h
  ·split
   ·refine rowOk_set h ?_
    have:=h.2 i
    omega
   ·exact h
theorem jcE {l:List Int}{p:Int→Prop}(h:∀ v∈l,p v){j:Nat}(hj:j<l.length):p (l.getD j 0):=by
 rw[jiz,jiC hj]
 exact h _ (List.getElem_mem hj)
theorem jg5 {zs data : List Int} {out : Int} (hd : ∀ v ∈ data, 0 ≤ v ∧ v ≤ 65535) (hz : ∀ z ∈ zs, 2 ≤ z ∧ z ≤ 9) : ∀ k, k ≤ zs.length → ∀ r, rowOk zs.length (outS zs data out k r)
  | 0, _, r => ⟨by simp [outS], fun j => by
      have := jbG (l := List.replicate zs.length (0 : Int)) (p := fun v => v = 0) (fun v hv => List.eq_of_mem_replicate hv) rfl j
      show 0 ≤ (List.replicate zs.length (0 : Int)).getD j 0 ∧ (List.replicate zs.length (0 : Int)).getD j 0 ≤ 600000
      omega⟩
  | k + 1, hk, r => inS_ok hd (jcE (l := zs) (p := fun z => 2 ≤ z ∧ z ≤ 9) hz (by omega)) (jg5 hd hz k (by omega)) _ r
theorem strd_pos {zs:List Int}{out:Int}(ho:1≤out∧out≤4)(hz:∀ z∈zs,2≤z∧z≤9):∀ k,k≤zs.length→0<strd zs out k∧strd zs out k≤4*9^k
 | 0,_=>by simp only[strd];omega
 | k+1,hk=>by
  have h:=strd_pos ho hz k (by omega)
  have g:=jcE (p:=fun z=>2≤z∧z≤9) hz (j:=zs.length-1-k) (by omega)
  simp only[strd]
  constructor
  ·exact Int.mul_pos h.1 (by omega)
  ·have:=Int.mul_le_mul h.2 g.2 (by omega) (jh6 (by decide) (Int.pow_nonneg (by decide)))
   rw[Int.pow_succ]
   omega
theorem jgi {zs:List Int}{out:Int} : ∀ k,k≤zs.length→prod zs*out=prod (zs.take (zs.length-k))*strd zs out k
 | 0,_=>by simp only[strd,Nat.sub_zero,jiX]
 | k+1,hk=>by
  have h:=jgi (zs:=zs) (out:=out) k (by omega)
  have e0:zs[zs.length-(k+1)]? = some (zs.getD (zs.length-1-k) 0):=by
   rw[show zs.length-1-k=zs.length-(k+1) from by omega,jiz,jiC (show zs.length-(k+1)<zs.length from by omega)]
   rfl
  rw[h,show zs.length-k=(zs.length-(k+1))+1 from by omega,jb2 e0]
  simp only[strd]
  rw[jil,jik (zs.getD (zs.length-1-k) 0)]
theorem pow9 (k:Nat)(h:k≤4):(4:Int)*9^k≤26244:=by
 have g:k=0∨k=1∨k=2∨k=3∨k=4:=by omega
 rcases g with rfl|rfl|rfl|rfl|rfl<;>decide
theorem stp_in {s z q:Int}{a:Nat}{len:Int}(hs:0<s)(hz:0<z)(hl:len=q*(s*z))(ha:(a:Int)<len)(h:¬ (a:Int)/s%z=z-1):(a:Int)+s<len:=by
 have h1:=Int.emod_nonneg ((a:Int)/s) (show z≠0 by omega)
 have h2:=jiq ((a:Int)/s) hz
 have h3:(a:Int)/s<q*z:=(Int.ediv_lt_iff_lt_mul hs).2 (by rw[jil,jik z s,← hl];exact ha)
 have h4:=Int.mul_ediv_add_emod ((a:Int)/s) z
 have h5:=Int.mul_ediv_add_emod (a:Int) s
 have h6:=jiq (a:Int) hs
 have h7:(a:Int)/s/z<q:=(Int.ediv_lt_iff_lt_mul hz).2 h3
 have h8:(a:Int)/s+2≤q*z:=by
  have:=jim (show (a:Int)/s/z+1≤q by omega) (show 0≤z by omega)
  rw[jij,Int.mul_one,jik z q] at this
  omega
 have h9:=jim h8 (show 0≤s by omega)
 rw[jij] at h9
 have h10:s*(q*z)=len:=by rw[hl,Int.mul_left_comm]
 omega
def stB1 (n:Nat):Nat→Hp
 | 0=>[(21,.box [.nil])]
 | _=>[(21,.box [.osl 200 0 n]),(200,.arr .i64 (List.replicate n 0))]
theorem jhS:type_of% @jh9∧type_of% @jh7∧type_of% @tn0∧type_of% @tn1∧type_of% @tn2∧type_of% @tn3∧type_of% @xt4:=⟨@jh9,@jh7,@tn0,@tn1,@tn2,@tn3,@xt4⟩
theorem steep1_t (zs data:List Int)(T:Nat→List Int)(hg:jak zs 1 data=true)(hl:zs.length≤4)(hT:outS zs data 1 zs.length=T):Cl 32 [.agg [.ints .i64 zs,.int .i64 1,.ints .i64 data]] (.tup [.slf 1 1 (fun j=>List.take 1 (List.drop (j*1) [.ints .i64 (T 0)])),.int .i64 0]):=by
 have ck:Cl 37 [.agg [.ints .i64 zs,.int .i64 1,.ints .i64 data]] (.int .i64 0):=jdw hg hl
 have og:=jaI hg
 refine V.en tbOk Tryz.func32 ?_
 refine V.r1 jhS ck ?_
 refine jae 0 (fun k=>k≤1) (fun k=>1-k) (fun k=>[(24,.int .i64 k)]) (fun k=>stB1 zs.length k) ?_ ?_ ?_
 ·simp only[stB1]
  exact V.wk
 ·exact jh4 _
 intro k hk
 have hk4:k=0∨k=1:=by omega
 rcases hk4 with e|e
 all_goals subst e
 ·simp only[k0,stB1]
  refine V.r0 jhS ?_
  refine⟨1,by omega,by omega,?_⟩
  simp only[stB1]
  refine Wk.renBox 32 200 21 0 zs.length (by decide) (by decide) (by decide) rfl rfl rfl ?_
  exact V.wk
 ·simp only[k1,stB1]
  refine V.r0 jhS ?_
  refine jhe (β:=Unit) 2 (fun _=>True) (fun _=>[(5,.slf 1 1 (fun j=>List.take 1 (List.drop (j*1) [.ints .i64 (T 0)]))),(7,.any),(8,.any),(21,.any),(22,.any)]) (fun _=>[(21,.gone),(200,.gone)]) ?_ ?_
  rotate_left
  ·intro _ _
   refine V.r0 @jh7 ?_
   exact Fin.of rfl
  refine jae ((0,(zs.length:Int)-1,1,outS zs data 1 0):Nat×Int×Int×(Nat→List Int)) (fun y=>y.1≤zs.length∧y.2.1=(zs.length:Int)-1-y.1∧y.2.2.1=strd zs 1 y.1∧y.2.2.2=outS zs data 1 y.1) (fun y=>zs.length-y.1) (fun y=>[(8,.int .i64 y.2.1),(7,.int .i64 y.2.2.1)]) (fun y=>[(200,.arr .i64 (y.2.2.2 0))]) ?_ ?_ ?_
  ·exact V.wk
  ·exact⟨jh4 _,(by show (zs.length:Int)-1=(zs.length:Int)-1-((0:Nat):Int);omega),rfl,rfl⟩
  rintro⟨k,x8,s,w⟩ ⟨hk,h8,hs,hw⟩
  dsimp only at hk h8 hs hw ⊢
  have wo:∀ r,rowOk zs.length (w r):=fun r=>by rw[hw];exact jg5 og.2.2.2 og.2.1 k hk r
  refine V.r0 jhS ?_
  refine V.br (fun h=>?_) (fun h=>?_)
  ·have hx:=of_decide_eq_true h
   obtain⟨i,rfl⟩:∃ i:Nat,x8=i:=⟨x8.toNat,by omega⟩
   have hi:i=zs.length-1-k:=by omega
   obtain⟨z,hz⟩:∃ z,zs.getD i 0=z:=⟨_,rfl⟩
   have zb:2≤z∧z≤9:=by rw[← hz];exact jcE og.2.1 (by omega)
   have sp:=strd_pos og.1 og.2.1 k hk
   refine V.r0 (V.a2 jhS hz) ?_
   have s0:0<s:=by rw[hs];exact sp.1
   have pp:=jgi (zs:=zs) (out:=1) (k+1) (by omega)
   have hlen:(data.length:Int)=prod (zs.take (zs.length-(k+1)))*(s*z):=by rw[og.2.2.1.2,pp,hs,← hz,hi];rfl
   have sm:s≤26244:=by
    have:=pow9 k (by omega)
    omega
   have io:=inS_ok (out:=1) (s:=s) (z:=z) (i:=i) og.2.2.2 zb wo
   refine jae (0:Nat) (fun a=>a≤data.length) (fun a=>data.length-a) (fun a=>[(53,.int .i64 (a:Nat))]) (fun a=>[(200,.arr .i64 (inS data 1 s z i w a 0))]) ?_ ?_ ?_
   ·exact V.wk
   ·exact jh4 _
   intro a ha
   have b0:=jbG (p:=fun v=>0≤v∧v≤65535) og.2.2.2 (by omega) a
   have r0:=io a 0
   have q0:=r0.2 i
   have l0:=r0.1
   refine V.r0 jhS ?_
   refine V.br (fun c=>?_) (fun c=>?_)
   ·have hx2:=of_decide_eq_true c
    have hq:0≤(a:Int)/s:=Int.ediv_nonneg (by omega) (by omega)
    refine V.r0 jhS ?_
    refine V.br (fun f=>?_) (fun f=>?_)
    ·have he:=of_decide_eq_true f
     have e0:inS data 1 s z i w (a+1) 0=inS data 1 s z i w a 0:=if_pos he
     refine V.r0 jhS ?_
     refine⟨a+1,by omega,by omega,?_⟩
     simp only[e0]
     exact V.wk
    ·have he:=of_decide_eq_false f
     have hin:=stp_in s0 (by omega) hlen hx2 he
     have b1:=jbG (p:=fun v=>0≤v∧v≤65535) og.2.2.2 (by omega) ((a:Int)+s).toNat
     have gb:=grd_bd (s:=s) (a:=a) og.2.2.2 zb
     unfold grd at gb
     have hm:InR .i64 ((z-1)*max (data.getD ((a:Int)+s).toNat 0-data.getD a 0) (data.getD a 0-data.getD ((a:Int)+s).toNat 0)):=⟨Int.le_trans (by decide) gb.1,Int.le_trans gb.2 (by decide)⟩
     have g:(a:Int)%1=0:=by omega
     ·have u0:inS data 1 s z i w (a+1) 0=(inS data 1 s z i w a 0).set i (max ((inS data 1 s z i w a 0).getD i 0) (grd data s z a)):=(if_neg he).trans (if_pos (show (a:Int)%1=((0:Nat):Int) from g))
      (conv=>whnf)
      (try simp only[jhS])
      repeat ((first|refine V.s1 ?_|((try ((with_reducible refine .ext ?_);(conv=>whnf);(try simp only[jhS])));(with_reducible refine jaa (r:=?_) ?_ ?_);rotate_left;(focus (first|fail));(conv=>whnf))|((simp only[g]);(conv=>whnf)));(try simp only[jhS]))
      refine⟨a+1,by omega,by omega,?_⟩
      simp only[u0]
      exact V.wk
   ·have hx2:=of_decide_eq_false c
    obtain rfl:a=data.length:=by omega
    have hsz0:=Int.mul_le_mul sm zb.2 (by omega) (by decide)
    have hsz1:=jh6 (show 0≤s by omega) (show 0≤z by omega)
    have hsz:InR .i64 (s*z):=⟨Int.le_trans (by decide) hsz1,Int.le_trans hsz0 (by decide)⟩
    refine V.r0 jhS ?_
    refine⟨(k+1,(i:Int)-1,s*z,inS data 1 s z i w data.length),⟨by show k+1≤zs.length;omega,by show (i:Int)-1=(zs.length:Int)-1-((k+1:Nat):Int);omega,?_,?_⟩,by show zs.length-(k+1)<zs.length-k;omega,?_⟩
    ·show s*z=strd zs 1 k*zs.getD (zs.length-1-k) 0
     rw[hs,← hz,hi]
    ·show _=inS data 1 (strd zs 1 k) (zs.getD (zs.length-1-k) 0) (zs.length-1-k) (outS zs data 1 k) data.length
     rw[← hs,← hw,← hi,hz]
    ·dsimp only
     exact V.wk
  ·have hx:=of_decide_eq_false h
   have hkn:k=zs.length:=by omega
   have hwT:w=T:=by rw[hw,hkn,hT]
   subst hwT
   refine V.r0 @jh7 ?_
   refine⟨(),trivial,?_⟩
   have t0:(w 0).take zs.length=w 0:=jiO (Nat.le_of_eq (wo 0).1)
   refine Wk.pub 200 ?_
   (conv=>whnf)
   simp only[t0]
   refine Wk.pub 21 ?_
   (conv=>whnf)
   simp only[jh7]
   exact V.wk
theorem jhQ:type_of% @jh7∧type_of% @tn0∧type_of% @tn1∧type_of% @tn2∧type_of% @tn3∧type_of% @xt4:=⟨@jh7,@tn0,@tn1,@tn2,@tn3,@xt4⟩
theorem list2_i {F e1 n1:Nat}{f1:Nat→List D}{g0:List Int}(T:Nat→Tx)(c0:Cl F (.int .i64 0::[.ref [.ints .i64 g0],.ref [.slf e1 n1 f1]]) (.tup [.agg [.str (T 0).1,.str (T 0).2],.int .i64 0]))(c1:Cl F (.int .i64 1::[.ref [.ints .i64 g0],.ref [.slf e1 n1 f1]]) (.tup [.agg [.str (T 1).1,.str (T 1).2],.int .i64 0])) :
  Cl 82 [.int .i64 2,.fn F [] [.ref [.ints .i64 g0],.ref [.slf e1 n1 f1]]] (.tup [V.sl2 2 [.str (T 0).1,.str (T 0).2,.str (T 1).1,.str (T 1).2],.int .i64 0]):=by
 refine V.en tbOk Tryz.func82 ?_
 refine V.r0 @jh7 ?_
 refine jae (0) (fun k=>k≤2) (fun k=>2-k) (fun k=>[(14,.int .i64 k)]) (fun k=>[(11,.box (preD (2*k) [.str (T 0).1,.str (T 0).2,.str (T 1).1,.str (T 1).2]))]) ?_ ?_ ?_
 ·exact V.wk
 ·exact jh4 _
 intro k hk
 have hk4:k=0∨k=1∨k=2:=by omega
 rcases hk4 with e|e|e
 all_goals subst e
 ·simp only[k0]
  refine V.r1 jhQ c0 ?_
  exact⟨1,by omega,by omega,V.wk⟩
 ·simp only[k1]
  refine V.r1 jhQ c1 ?_
  exact⟨2,by omega,by omega,V.wk⟩
 ·simp only[k2]
  refine V.r0 @jh7 ?_
  exact Fin.of rfl
theorem spr1_20 (st:List Int)(H:Nat→Tx)(g0 g1 m0 m1:List UInt8)(hl:st.length=2)(ig:Cl 86 [.int .i64 (st.getD 0 0)] (.agg [.str g0,.str g1]))(mu:Cl 85 [.agg [.str g0,.str g1],.agg [.str (H 0).1,.str (H 0).2]] (.tup [.agg [.str m0,.str m1],.int .i64 0])) :
  Cl 98 [.int .i64 0,.ref [.ints .i64 st],.ref [V.sl2 2 [.str (H 0).1,.str (H 0).2,.str (H 1).1,.str (H 1).2]]] (.tup [.agg [.str m0,.str m1],.int .i64 0]):=by
 refine V.en tbOk Tryz.func98 ?_
 refine V.r0 jhQ ?_
 refine⟨Pq39z,[],V.pok,?_⟩
 refine jab [(5,.int .i64 0)] [(4,.box [.str m0,.str m1])] ?_ ?_
 ·exact V.d2 jhQ ig mu
 refine V.r0 @jh7 ?_
 exact Fin.of rfl
theorem spr1_21 (st:List Int)(H:Nat→Tx)(g0 g1 m0 m1:List UInt8)(hl:st.length=2)(ig:Cl 86 [.int .i64 (st.getD 1 0)] (.agg [.str g0,.str g1]))(mu:Cl 85 [.agg [.str g0,.str g1],.agg [.str (H 1).1,.str (H 1).2]] (.tup [.agg [.str m0,.str m1],.int .i64 0])) :
  Cl 98 [.int .i64 1,.ref [.ints .i64 st],.ref [V.sl2 2 [.str (H 0).1,.str (H 0).2,.str (H 1).1,.str (H 1).2]]] (.tup [.agg [.str m0,.str m1],.int .i64 0]):=by
 refine V.en tbOk Tryz.func98 ?_
 refine V.r0 jhQ ?_
 refine⟨Pq39z,[],V.pok,?_⟩
 refine jab [(5,.int .i64 0)] [(4,.box [.str m0,.str m1])] ?_ ?_
 ·exact V.d2 jhQ ig mu
 refine V.r0 @jh7 ?_
 exact Fin.of rfl
theorem spr_2 (st:List Int)(H M:Nat→Tx)(u0 u1 f0 f1 y0 y1:List UInt8)(hl:st.length=2)(li:Cl 82 [.int .i64 2,.fn 98 [] [.ref [.ints .i64 st],.ref [V.sl2 2 [.str (H 0).1,.str (H 0).2,.str (H 1).1,.str (H 1).2]]]] (.tup [V.sl2 2 [.str (M 0).1,.str (M 0).2,.str (M 1).1,.str (M 1).2],.int .i64 0]))
  (su:Cl 87 [V.sl2 2 [.str (M 0).1,.str (M 0).2,.str (M 1).1,.str (M 1).2]] (.tup [.agg [.str u0,.str u1],.int .i64 0])) (fu:Cl 86 [.int .i64 65535] (.agg [.str f0,.str f1])) (dv:Cl 88 [.agg [.str u0,.str u1],.agg [.str f0,.str f1]] (.tup [.agg [.str y0,.str y1],.int .i64 0])) :
  Cl 60 [.ints .i64 st,V.sl2 2 [.str (H 0).1,.str (H 0).2,.str (H 1).1,.str (H 1).2]] (.tup [.agg [.str y0,.str y1],.int .i64 0]):=by
 have hi:((st.length:Nat):Int)=2:=by rw[hl];rfl
 refine V.en tbOk Tryz.func60 ?_
 refine V.r2 (V.a2 @jh7 @hi) li su ?_
 refine⟨Pq73z,[],V.pok,?_⟩
 refine jab [(5,.int .i64 0)] [(4,.box [.str y0,.str y1])] ?_ ?_
 ·exact V.d2 @jh7 fu dv
 refine V.r0 @jh7 ?_
 exact Fin.of rfl
theorem confined_t (p0 p1 p2 p3 q0 q1 q2 q3 s0 s1 a0 a1:List UInt8)(T:Nat→Int×Int)(h o:Int×Int)(sb:Cl 99 [.agg [.str p0,.str q0],.agg [.str p1,.str q1]] (.tup [.agg [.str s0,.str s1],.int .i64 0]))(ad:Cl 100 [.agg [.str p0,.str q0],.agg [.str p1,.str q1]] (.tup [.agg [.str a0,.str a1],.int .i64 0]))
  (li:Cl 55 [.int .i64 4,.fn 101 [] [.ref [.str s0,.str s1],.ref [.str a0,.str a1],.ref [.str p2,.str q2],.ref [.str p3,.str q3]]] (.tup [V.sl2 4 [.int .i64 (T 0).1,.int .i64 (T 0).2,.int .i64 (T 1).1,.int .i64 (T 1).2,.int .i64 (T 2).1,.int .i64 (T 2).2,.int .i64 (T 3).1,.int .i64 (T 3).2],.int .i64 0]))
  (hu:Cl 103 [.agg [.int .i64 (T 0).1,.int .i64 (T 0).2],.agg [.int .i64 (T 1).1,.int .i64 (T 1).2]] (.tup [.agg [.int .i64 h.1,.int .i64 h.2],.int .i64 0])) (ob:Cl 104 [.int .i64 (max h.1 (T 2).1),.int .i64 (min h.2 (T 3).2)] (.tup [.agg [.int .i64 o.1,.int .i64 o.2],.int .i64 0])) :
  Cl 61 [.agg [.str p0,.str q0],.agg [.str p1,.str q1],.agg [.str p2,.str q2],.agg [.str p3,.str q3]] (.tup [.agg [.int .i64 o.1,.int .i64 o.2],.int .i64 0]):=by
 refine V.en tbOk Tryz.func61 ?_
 refine V.r3 jhQ sb ad li ?_
 refine⟨(V.tk [0,1,2,3,4,5] (.ev (.cons 6 [] (V.tk [7,8,9] (V.e1 10 [9,8,7] (V.e1 11 [9] (V.tk [12] .done)))) (.cons 10 [5,4,3,2,1,0] (V.e1 6 [] (V.tk [7,8,9] (V.e1 11 [9] (V.tk [12] .done)))) .nil)))),[],V.pok,?_⟩
 refine jab [(14,.box 14 0),(11,.int .i64 0)] [(14,.box [.int .i64 h.1,.int .i64 h.2])] ?_ ?_
 ·exact V.d1 jhQ hu
 refine V.r0 jhQ ?_
 refine⟨(V.tk [0,1,2,3,4,5,6,7,8,9,10,11,12,13] (V.e1 14 [] (V.tk [15,16] (V.e1 17 [] (V.tk [18] .done))))),[],V.pok,?_⟩
 refine jab [(9,.int .i64 0)] [(8,.box [.int .i64 o.1,.int .i64 o.2])] ?_ ?_
 ·exact V.d1 jhQ ob
 refine V.r0 @jh7 ?_
 exact Fin.of rfl
theorem bands2_210 (T:Nat→List Int)(H Y:Nat→Tx)(lo hi:List Int)(d0 d1 l0 l1 h0 h1:List UInt8)(b:Int×Int)(hlo:lo.length=1)(hhi:hi.length=1)(sp:Cl 60 [.ints .i64 (T 0),V.sl2 2 [.str (H 0).1,.str (H 0).2,.str (H 1).1,.str (H 1).2]] (.tup [.agg [.str d0,.str d1],.int .i64 0]))(o1:Cl 58 [.int .i64 (lo.getD 0 0),.int .i64 65535] (.agg [.str l0,.str l1]))(o2:Cl 58 [.int .i64 (hi.getD 0 0),.int .i64 65535] (.agg [.str h0,.str h1]))
  (cf:Cl 61 [.agg [.str (Y 0).1,.str (Y 0).2],.agg [.str d0,.str d1],.agg [.str l0,.str l1],.agg [.str h0,.str h1]] (.tup [.agg [.int .i64 b.1,.int .i64 b.2],.int .i64 0])) :
  Cl 59 (.int .i64 0::[.ref [.slf 1 1 (fun j=>List.take 1 (List.drop (j*1) [.ints .i64 (T 0)]))],.ref [V.sl2 2 [.str (H 0).1,.str (H 0).2,.str (H 1).1,.str (H 1).2]],.ref [V.sl2 1 [.str (Y 0).1,.str (Y 0).2]],.ref [.ints .i64 lo],.ref [.ints .i64 hi]]) (.tup [.agg [.int .i64 b.1,.int .i64 b.2],.int .i64 0]):=by
 refine V.en tbOk Tryz.func59 ?_
 refine V.r0 jhQ ?_
 refine⟨Pq37z,[],V.pok,?_⟩
 refine jab [(9,.box 9 0),(10,.int .i64 0)] [(9,.box [.str d0,.str d1])] ?_ ?_
 ·exact V.d1 jhQ sp
 refine V.r0 jhQ ?_
 refine⟨(V.tk [0,1,2,3,4,5,6,7,8,10,11,12,13] (V.e1 9 [13,12,11,10,4,3,2,1,0] (V.e1 14 [4,3,2,1,0] (V.e1 15 [] (V.tk [16,17] (V.e1 18 [] (V.tk [19] .done))))))),[],V.pok,?_⟩
 refine jab [(8,.int .i64 0)] [(7,.box [.int .i64 b.1,.int .i64 b.2])] ?_ ?_
 ·exact V.d3 jhQ o1 o2 cf
 refine V.r0 @jh7 ?_
 exact Fin.of rfl
theorem jhX:type_of% @jh7∧type_of% @tn0∧type_of% @tn1∧type_of% @tn2∧type_of% @tn3∧type_of% @xt4:=⟨@jh7,@tn0,@tn1,@tn2,@tn3,@xt4⟩
theorem bands2_t (zs data lo hi:List Int)(out:Int)(X I:Nat→Int×Int)(MD HV:Nat→Tx)(o e o2:Nat)(Y B S:Nat→List D)(hl:zs.length=2)(hI:∀ i,i<2→(0≤(I i).1∧(I i).1≤1000000000000)∧(0≤(I i).2∧(I i).2≤1000000000000))(gr:Cl 25 [.agg [.ints .i64 zs,.int .i64 out,.ints .i64 data]] (.tup [.ints .i64 lo,.ints .i64 hi,.int .i64 0]))
  (li:Cl 55 [.int .i64 2,.fn 56 [] [.ref [V.sl2 2 [.int .i64 (X 0).1,.int .i64 (X 0).2,.int .i64 (X 1).1,.int .i64 (X 1).2]]]] (.tup [V.sl2 2 [.int .i64 (I 0).1,.int .i64 (I 0).2,.int .i64 (I 1).1,.int .i64 (I 1).2],.int .i64 0]))
  (om:∀ i,i<2→Cl 58 [.int .i64 ((I i).1+(I i).2),.int .i64 2000000000000] (.agg [.str (MD i).1,.str (MD i).2])) (oh:∀ i,i<2→Cl 58 [.int .i64 ((I i).2-(I i).1),.int .i64 2000000000000] (.agg [.str (HV i).1,.str (HV i).2]))
  (ev:Cl 15 [.agg [.ints .i64 zs,.int .i64 out,.ints .i64 data],V.sl2 2 [.str (MD 0).1,.str (MD 0).2,.str (MD 1).1,.str (MD 1).2]] (.tup [.slf 2 o Y,.int .i64 0])) (st:Cl 32 [.agg [.ints .i64 zs,.int .i64 out,.ints .i64 data]] (.tup [.slf 1 o2 S,.int .i64 0]))
  (l2:Cl 55 [.int .i64 out,.fn 59 [] [.ref [.slf 1 o2 S],.ref [V.sl2 2 [.str (HV 0).1,.str (HV 0).2,.str (HV 1).1,.str (HV 1).2]],.ref [.slf 2 o Y],.ref [.ints .i64 lo],.ref [.ints .i64 hi]]] (.tup [.slf 2 e B,.int .i64 0])) :
  Cl 29 [.agg [.ints .i64 zs,.int .i64 out,.ints .i64 data],V.sl2 2 [.int .i64 (X 0).1,.int .i64 (X 0).2,.int .i64 (X 1).1,.int .i64 (X 1).2]] (.tup [.slf 2 e B,.int .i64 0]):=by
 have hz:((zs.length:Nat):Int)=2:=by rw[hl];rfl
 refine V.en tbOk Tryz.func29 ?_
 refine V.r1 jhX gr ?_
 refine Cnd.split (CondB.mk (fun h=>absurd h (by rw[hl];decide)) (fun _=>?_))
 refine V.r1 jhX li ?_
 refine jhe (β:=Unit) 0 (fun _=>True) (fun _=>[(46,.any),(49,.any)]) (fun _=>[(43,.box [.str (MD 0).1,.str (MD 0).2,.str (MD 1).1,.str (MD 1).2]),(46,.gone),(11,.box [V.sl2 2 [.str (HV 0).1,.str (HV 0).2,.str (HV 1).1,.str (HV 1).2]])]) ?_ ?_
 rotate_left
 ·intro _ _
  refine V.r3 jhX ev st l2 ?_
  exact Fin.of rfl
 refine jae (0) (fun k=>k≤2) (fun k=>2-k) (fun k=>[(49,.int .i64 k)]) (fun k=>[(43,.box (preD (2*k) [.str (MD 0).1,.str (MD 0).2,.str (MD 1).1,.str (MD 1).2])),(46,.box (preD (2*k) [.str (HV 0).1,.str (HV 0).2,.str (HV 1).1,.str (HV 1).2]))]) ?_ ?_ ?_
 ·exact V.wk
 ·exact jh4 _
 intro k hk
 have hk4:k=0∨k=1∨k=2:=by omega
 rcases hk4 with e1|e1|e1
 all_goals subst e1
 ·simp only[k0]
  have c1:=om 0 (by omega)
  have c2:=oh 0 (by omega)
  have hh:=hI 0 (by omega)
  refine V.r1 jhX c1 ?_
  refine⟨Pq25z,[],V.pok,?_⟩
  refine jab [] [(46,.box (preD (2*1) [.str (HV 0).1,.str (HV 0).2,.str (HV 1).1,.str (HV 1).2]))] ?_ ?_
  ·exact V.d1 jhX c2
  refine V.r0 jhX ?_
  exact⟨1,by omega,by omega,V.wk⟩
 ·simp only[k1]
  have c1:=om 1 (by omega)
  have c2:=oh 1 (by omega)
  have hh:=hI 1 (by omega)
  refine V.r1 jhX c1 ?_
  refine⟨Pq25z,[],V.pok,?_⟩
  refine jab [] [(46,.box (preD (2*2) [.str (HV 0).1,.str (HV 0).2,.str (HV 1).1,.str (HV 1).2]))] ?_ ?_
  ·exact V.d1 jhX c2
  refine V.r0 jhX ?_
  exact⟨2,by omega,by omega,V.wk⟩
 ·simp only[k2]
  refine V.r0 jhX ?_
  refine⟨(),trivial,?_⟩
  refine Wk.pub 46 ?_
  (conv=>whnf)
  simp only[jh7]
  exact V.wk
def confB (y d l h:Rat):Int×Int:=(max (flU (y-d)) (flU l),min (clU (y+d)) (clU h))
theorem flU_bd {x:Rat}(h : -100000≤x∧x≤100000) : -100000000000000000≤flU x∧flU x≤clU x∧clU x≤100000000000000000:=
 ⟨jfp.2 (by rw[show ((-100000000000000000:Int):Rat) = -100000*1000000000000 from by decide +kernel];grind),fl_cl Rat.le_refl,jft.2 (by rw[show ((100000000000000000:Int):Rat)=100000*1000000000000 from by decide +kernel];grind)⟩
theorem hull_q {p q p2 q2:Int}(h1 : -100000000000000000≤p∧p≤q∧q≤100000000000000000)(h2 : -100000000000000000≤p2∧p2≤q2∧q2≤100000000000000000):Cl 103 [.agg [.int .i64 p,.int .i64 q],.agg [.int .i64 p2,.int .i64 q2]] (.tup [.agg [.int .i64 (min p p2),.int .i64 (max q q2)],.int .i64 0]):=by
 have c:=hull_b p q p2 q2
 have e:(if vb p q=true∧vb p2 q2=true then (if p=p2∧q=q2 then (p,q,(0:Int)) else if max q q2<min p p2 then (0,0,4) else (min p p2,max q q2,0)) else (0,0,30))=(min p p2,max q q2,0):=by
  rw[if_pos ⟨jbz.2 (by omega),jbz.2 (by omega)⟩]
  split
  ·rename_i g
   rw[g.1,g.2,Int.min_self,Int.max_self]
  ·rw[if_neg (by omega)]
 rw[e] at c
 exact c
theorem conf_q {y d l h:Rat}(fy:Fq 376 y)(fd:Fq 70 d)(fl:Fq 10 l)(fh:Fq 10 h)(d0:0≤d∧d≤50000)(l0:0≤l∧l≤y)(h0:y≤h∧h≤1) :
  Cl 61 [frT y,frT d,frT l,frT h] (.tup [.agg [.int .i64 (confB y d l h).1,.int .i64 (confB y d l h).2],.int .i64 0]):=by
 have b0 : -100000≤y-d∧y-d≤100000:=by constructor<;>grind
 have b1 : -100000≤y+d∧y+d≤100000:=by constructor<;>grind
 have b2 : -100000≤l∧l≤100000:=by constructor<;>grind
 have b3 : -100000≤h∧h≤100000:=by constructor<;>grind
 have u0:=flU_bd b0
 have u1:=flU_bd b1
 have u2:=flU_bd b2
 have u3:=flU_bd b3
 have sb:=zsub fy fd (by decide) (by decide) (by decide)
 have ad:=zadd fy fd (by decide) (by decide) (by decide)
 have a0:=jej (fy.sub fd) (by decide) b0
 have a1:=jej (fy.add fd) (by decide) b1
 have a2:=jej fl (by decide) b2
 have a3:=jej fh (by decide) b3
 have m1:flU (y-d)≤flU (y+d):=flU_mono (by grind)
 have m2:clU (y-d)≤clU (y+d):=clU_mono (by grind)
 have m3:flU (y-d)≤clU h:=fl_cl (by grind)
 have m4:flU l≤clU (y+d):=fl_cl (by grind)
 have m5:flU l≤clU h:=fl_cl (by grind)
 have m6:flU (y-d)≤clU (y+d):=fl_cl (by grind)
 have hu:=hull_q u0 u1
 rw[show min (flU (y-d)) (flU (y+d))=flU (y-d) from by omega,show max (clU (y-d)) (clU (y+d))=clU (y+d) from by omega] at hu
 have ob:=of_b (max (flU (y-d)) (flU l)) (min (clU (y+d)) (clU h))
 rw[if_pos (jbz.2 (by omega))] at ob
 let T:Nat→Int×Int:=fun i=>match i with|0=>(flU (y-d),clU (y-d))|1=>(flU (y+d),clU (y+d))|2=>(flU l,clU l)|_=>(flU h,clU h)
 have li:=blist4b (F:=101) T (conf1_0 _ _ _ _ _ _ _ _ (T 0) a0) (conf1_1 _ _ _ _ _ _ _ _ (T 1) a1) (conf1_2 _ _ _ _ _ _ _ _ (T 2) a2) (conf1_3 _ _ _ _ _ _ _ _ (T 3) a3)
 exact confined_t _ _ _ _ _ _ _ _ _ _ _ _ T (flU (y-d),clU (y+d)) (confB y d l h) sb ad li hu ob
theorem spr_q2 {st:List Int}{H:Nat→Rat}(hs:rowOk 2 st)(hf:∀ i,i<2→Fq 14 (H i)):Cl 60 [.ints .i64 st,slQ (fun i=>txq (H i)) 2] (.tup [frT (smF (fun i=>((st.getD i 0:Int):Rat)*H i) 1/65535),.int .i64 0])∧Fq 70 (smF (fun i=>((st.getD i 0:Int):Rat)*H i) 1/65535):=by
 have w0:Fq 6 ((st.getD 0 0:Int):Rat):=jaP (by have:=hs.2 0;omega) (by decide)
 have i0:=jaq (n:=st.getD 0 0) (by have:=hs.2 0;omega)
 have u0:=zmul w0 (hf 0 (by decide)) (by decide) (by decide) (by decide)
 have m0:=spr1_20 st (fun i=>txq (H i)) _ _ _ _ hs.1 i0 u0
 have w1:Fq 6 ((st.getD 1 0:Int):Rat):=jaP (by have:=hs.2 1;omega) (by decide)
 have i1:=jaq (n:=st.getD 1 0) (by have:=hs.2 1;omega)
 have u1:=zmul w1 (hf 1 (by decide)) (by decide) (by decide) (by decide)
 have m1:=spr1_21 st (fun i=>txq (H i)) _ _ _ _ hs.1 i1 u1
 have li:=list2_i (fun i=>txq (((st.getD i 0:Int):Rat)*H i)) m0 m1
 have s0:Fq 20 (smF (fun i=>((st.getD i 0:Int):Rat)*H i) 0):=w0.mul (hf 0 (by decide))
 have s1:Fq 41 (smF (fun i=>((st.getD i 0:Int):Rat)*H i) 1):=s0.add (w1.mul (hf 1 (by decide)))
 have su:=sum2 (fun i=>txq (((st.getD i 0:Int):Rat)*H i)) (fun i=>txq (smF (fun i=>((st.getD i 0:Int):Rat)*H i) i)) rfl (zadd s0 (w1.mul (hf 1 (by decide))) (by decide) (by decide) (by decide))
 have fu:=jaq (n:=65535) (by omega)
 have f5:=jaP (n:=5) (z:=65535) jbk (by decide)
 have dv:=zdiv s1 f5 jcO (by decide) (by decide) (by decide)
 have fd:=(s1.div f5 jcO).mono (show _≤70 by decide)
 rw[show ((65535:Int):Rat)=65535 from rfl] at fu dv fd
 exact⟨spr_2 st (fun i=>txq (H i)) (fun i=>txq (((st.getD i 0:Int):Rat)*H i)) _ _ _ _ _ _ hs.1 li su fu dv,fd⟩
end Go.Proofs.YtgjgpdceghjajaaGreatDoor
end
section
namespace Go.Proofs.YtgjgpdceghjajaaGreatDoor
open Go Go.V Go.Gr
theorem index_step {ns:List Nat}{m p n:Nat}(hn:ns[p]? = some n)(hp:p<ns.length) :
  (List.replicate (p+1) (0:Int)++(ixl ns m).drop (p+1)).set p ((m/PR (ns.drop (p+1))%n:Nat):Int)=List.replicate p 0++(ixl ns m).drop p∧m/PR (ns.drop (p+1))/n=m/PR (ns.drop p):=by
 have hx:=jf3 ns m p n hn
 constructor
 ·rw[List.set_append_left _ _ (by simp),List.replicate_succ',List.set_append_right _ _ (by simp)]
  rw[jiR (i:=p) (by rw[jao];exact hp)]
  have:=(jiI.1 hx).2
  rw[this]
  simp
 ·have hd:ns.drop p=n::ns.drop (p+1):=by
   rw[jiR hp]
   rw[(jiI.1 hn).2]
  rw[hd,PR,Nat.div_div_eq_div_mul,jic]
theorem rindex_c (ns:List Nat)(m:Nat)(hp:∀ n∈ns,0<n∧n≤1000000)(hl:ns.length≤10000)(hm:m≤1000000000):Cl 24 [.ints .i64 (nz ns),.int .i64 m] (.ints .i64 (ixl ns m)):=by
 have hlen:(nz ns).length=ns.length:=by simp[nz]
 refine V.en tbOk Tryz.func24 ?_
 refine V.r0 (V.a2 hlen @jh9) ?_
 have e0:List.replicate ns.length (0:Int)=List.replicate ns.length 0++(ixl ns m).drop ns.length:=by
  rw[jiP (by rw[jao];omega),List.append_nil]
 have e1:(m:Int)=((m/PR (ns.drop ns.length):Nat):Int):=by simp[PR]
 refine jae (ns.length) (fun k=>k≤ns.length) (fun k=>k) (fun k=>[(1,.int .i64 ((m/PR (ns.drop k):Nat):Int)),(6,.int .i64 ((k:Int)-1))]) (fun k=>[(9,.arr .i64 (List.replicate k 0++(ixl ns m).drop k))]) ?_ ?_ ?_
 ·rw[← e0,← e1]
  exact V.wk
 ·exact jia _
 intro p hpl
 (conv=>whnf)
 refine V.st ?_
 refine V.br (fun h=>?_) (fun h=>?_)
 ·have hp0:0<p:=by simp at h;omega
  obtain⟨p,rfl⟩:∃ q,p=q+1:=⟨p-1,by omega⟩
  have hp1:p<ns.length:=by omega
  obtain⟨n,hn⟩:∃ n,ns[p]? = some n:=⟨ns[p],jiC hp1⟩
  have hn0:=hp n (jiD hn)
  have en:(nz ns).getD p 0=n:=by simp[nz,jiz,hn]
  have e2:(((p+1:Nat):Int)-1)=(p:Int):=by omega
  have hst:=index_step (m:=m) hn hp1
  have e3:((m/PR (ns.drop (p+1)):Nat):Int)%(n:Int)=((m/PR (ns.drop (p+1))%n:Nat):Int):=by simp
  have e4:((m/PR (ns.drop (p+1)):Nat):Int)/(n:Int)=((m/PR (ns.drop p):Nat):Int):=by rw[← hst.2];simp
  have hl2:(List.replicate (p+1) (0:Int)++(ixl ns m).drop (p+1)).length=ns.length:=by simp[jao];omega
  have hl3:m/PR (ns.drop (p+1))≤m:=jip _ _
  generalize hq:m/PR (ns.drop (p+1))=q at *
  refine V.r0 (V.a5 hlen e2 @en @jh9 @jh7) ?_
  rw[e3,hst.1]
  refine V.st ?_
  rw[e4]
  exact⟨p,by omega,by omega,V.wk⟩
 ·have hp0:p=0:=by simp at h;omega
  subst hp0
  (conv=>whnf)
  refine V.st ?_
  have h0:(List.replicate 0 (0:Int)++(ixl ns m).drop 0)=ixl ns m:=by simp
  have hli:=jao ns m
  rw[h0]
  refine Fin.of ?_
  rw[jiO (by rw[hli];simp)]
def mkV0 (vals:List Int)(w m k:Nat):Int:=if 0<vals.length then vals.getD ((m*w+k)%vals.length) 0 else 0
def mkV (vals:List Int)(sm:Bool)(ns:List Nat)(w m k:Nat):Int:=
 if sm then 60000*(ixl ns m).getD (k%ns.length) 0/((nz ns).getD (k%ns.length) 0-1)+mkV0 vals w m k%5000 else mkV0 vals w m k
def mkF (vals:List Int)(sm:Bool)(ns:List Nat)(w m:Nat):List Int:=(List.range w).map (mkV vals sm ns w m)
theorem getD_mem {xs:List Int}{i:Nat}(h:i<xs.length):xs.getD i 0∈xs:=by
 rw[jiz,jiC h];simp
theorem mkV0_bd {vals:List Int}{w m k:Nat}(hv:∀ v∈vals,0≤v∧v≤65535):0≤mkV0 vals w m k∧mkV0 vals w m k≤65535:=by
 unfold mkV0
 split
 ·rename_i h
  exact hv _ (getD_mem (Nat.mod_lt _ h))
 ·omega
theorem mk_sm {ns:List Nat}{m k:Nat}(h1:1≤ns.length)(h2:∀ n∈ns,2≤n∧n≤9):0≤(ixl ns m).getD (k%ns.length) 0∧(ixl ns m).getD (k%ns.length) 0≤8∧1≤(nz ns).getD (k%ns.length) 0-1∧(nz ns).getD (k%ns.length) 0-1≤8 ∧
  0≤60000*(ixl ns m).getD (k%ns.length) 0/((nz ns).getD (k%ns.length) 0-1)∧60000*(ixl ns m).getD (k%ns.length) 0/((nz ns).getD (k%ns.length) 0-1)≤60000:=by
 have hlt:k%ns.length<ns.length:=Nat.mod_lt _ (by omega)
 generalize k%ns.length=i at *
 obtain⟨n,hn⟩:∃ n,ns[i]? = some n:=⟨_,jiC hlt⟩
 obtain⟨x,hx⟩:∃ x,(ixl ns m)[i]? = some x:=⟨_,jiC (by rw[jao];exact hlt)⟩
 have hnb:=h2 n (jiD hn)
 have hxb:=jcV (fun n hn=>by have:=h2 n hn;omega) hn hx
 have e1:(nz ns).getD i 0=n:=by simp[nz,jiz,hn]
 have e2:(ixl ns m).getD i 0=x:=by rw[jiz,hx];rfl
 rw[e1,e2]
 refine⟨hxb.1,by omega,by omega,by omega,Int.ediv_nonneg (by omega) (by omega),?_⟩
 exact Int.ediv_le_of_le_mul (by omega) (by omega)
theorem mkV_bd {vals:List Int}{sm:Bool}{ns:List Nat}{w m k:Nat}(hv:∀ v∈vals,0≤v∧v≤65535)(h1:1≤ns.length)(h2:∀ n∈ns,2≤n∧n≤9):0≤mkV vals sm ns w m k∧mkV vals sm ns w m k≤65535:=by
 have h3:=mkV0_bd (w:=w) (m:=m) (k:=k) hv
 have h4:=mk_sm (m:=m) (k:=k) h1 h2
 unfold mkV
 split<;>omega
theorem made_c (ds:List Int)(o:Int)(vals:List Int)(sm:Bool)(ns:List Nat)(w:Nat)(hv:∀ v∈vals,0≤v∧v≤65535)(hvl:vals.length≤281474976710656)(h1:1≤ns.length∧ns.length≤4)(h2:∀ n∈ns,2≤n∧n≤9)(hw:1≤w∧w≤4) :
  Cl 38 [.agg [.ints .u8 ds,.int .u8 o,.ints .u16 vals,.bool sm],.ints .i64 (nz ns),.int .i64 w] (gridD (nz ns) w (flat ns (mkF vals sm ns w) (PR ns))):=by
 have hlen:(nz ns).length=ns.length:=by simp[nz]
 have hPR:=PR_le h1.2 h2
 have hprod:prod (nz ns)=(PR ns:Nat):=jc0 ns
 have hpz:∀ k,InR .i64 (prod ((nz ns).take k)):=fun k=>(jfT (size:=nz ns) (by
  rw[jiy]
  intro x hx
  obtain⟨n,hn,rfl⟩:=List.mem_map.1 hx
  have:=h2 n hn
  simp;omega) k).2.2 (by omega)
 have hfl:∀ j,(mkF vals sm ns w j).length≤4:=fun j=>by simp[mkF];omega
 refine V.en tbOk Tryz.func38 ?_
 refine V.r0 @jh7 ?_
 refine Lp.ghostBox 72 7 2 .i64 (by decide) (by decide) ?_
 (conv=>whnf)
 refine jae (0) (fun k=>k≤PR ns) (fun k=>PR ns-k) (fun k=>[(8,.int .i64 k)]) (fun k=>[(7,.box [.ints .i64 (nz ns),.int .i64 w,.osl 72 0 (flat ns (mkF vals sm ns w) k).length]),(72,.arr .i64 (flat ns (mkF vals sm ns w) k))]) ?_ ?_ ?_
 ·exact V.wk
 ·exact jh4 _
 intro m hm
 have hfm:=jf5 (ns:=ns) (m:=m) (fun j _=>hfl j)
 (conv=>whnf)
 (try simp only[hprod])
 repeat ((first|refine V.s1 ?_|((try ((with_reducible refine .ext ?_);(conv=>whnf);(try simp only[hprod])));(with_reducible refine jaa (r:=?_) ?_ ?_);rotate_left;(focus (first|exact(points_c _ (fun k _=>hpz k) (by omega))));(conv=>whnf)));(try simp only[hprod]))
 refine V.br (fun hq=>?_) (fun hq=>?_)
 ·rw[decide_eq_true_eq] at hq
  have hm1:m<PR ns:=by omega
  (conv=>whnf)
  refine V.st ?_
  repeat ((try ((with_reducible refine .ext ?_);(conv=>whnf)));(with_reducible refine jaa (r:=?_) ?_ ?_);rotate_left;(focus (first|exact(rindex_c ns m (fun n hn=>by have:=h2 n hn;omega) (by omega) (by omega))));(conv=>whnf);refine V.st ?_)
  refine jae (0) (fun k=>k≤w) (fun k=>w-k) (fun k=>[(10,.int .i64 k)]) (fun k=>[(7,.box [.ints .i64 (nz ns),.int .i64 w,.osl 72 0 (flat ns (mkF vals sm ns w) m++(List.range k).map (mkV vals sm ns w m)).length]),(72,.arr .i64 (flat ns (mkF vals sm ns w) m++(List.range k).map (mkV vals sm ns w m)))]) ?_ ?_ ?_
  ·simp only[List.range_zero,List.map_nil,List.append_nil]
   exact V.wk
  ·exact jh4 _
  intro k hk
  have hb0:=mkV0_bd (w:=w) (m:=m) (k:=k) hv
  have hbs:=mk_sm (m:=m) (k:=k) h1.1 h2
  have hmw:(m:Int)*w=((m*w:Nat):Int):=by simp
  have hmw2:m*w≤6561*4:=Nat.mul_le_mul (by omega) (by omega)
  (conv=>whnf)
  refine V.st ?_
  refine V.br (fun hq2=>?_) (fun hq2=>?_)
  ·rw[decide_eq_true_eq] at hq2
   (conv=>whnf)
   refine V.st ?_
   refine jbn [(11,.int .i64 (mkV0 vals w m k))] [] (CondB.mk (fun hq3=>?_) (fun hq3=>?_)) ?_
   ·rw[decide_eq_true_eq] at hq3
    have hvp:0<vals.length:=by omega
    have e1:((((m*w:Nat):Int)+k)%vals.length).toNat=(m*w+k)%vals.length:=by
     rw[← Int.natCast_add,← Int.natCast_emod,jh9]
    have e2:vals.getD ((m*w+k)%vals.length) 0=mkV0 vals w m k:=by unfold mkV0;rw[if_pos hvp]
    have e3:=Int.emod_nonneg (((m*w:Nat):Int)+k) (b:=vals.length) (by omega)
    have e4:=jiq (((m*w:Nat):Int)+k) (b:=vals.length) (by omega)
    (conv=>whnf)
    refine V.st ?_
    refine⟨(V.tk [0,1,2,3,4,5,6,7,8,9,10,11,12,13,14] .done),[],V.pok,.go (jad ?_)⟩
    refine V.r0 (V.a3 hmw @e1 e2) ?_
    exact V.wk
   ·rw[decide_eq_false_iff_not] at hq3
    have e2:mkV0 vals w m k=0:=by unfold mkV0;rw[if_neg (by omega)]
    rw[e2]
    (conv=>whnf)
    refine V.st ?_
    exact V.wk
   (conv=>whnf)
   refine V.st ?_
   refine jbn [(11,.int .i64 (mkV vals sm ns w m k))] [] (CondB.mk (fun hq3=>?_) (fun hq3=>?_)) ?_
   ·have hli:=jao ns m
    have hki:(k:Int)%(ns.length:Int)=((k%ns.length:Nat):Int):=by simp
    have hkl:k%ns.length<ns.length:=Nat.mod_lt _ (by omega)
    have e2:mkV vals sm ns w m k=60000*(ixl ns m).getD (k%ns.length) 0/((nz ns).getD (k%ns.length) 0-1)+mkV0 vals w m k%5000:=by unfold mkV;rw[hq3];rfl
    rw[e2]
    generalize mkV0 vals w m k=v0 at *
    generalize hgi:k%ns.length=i at *
    refine V.r0 (V.a3 hlen hki @jh9) ?_
    refine⟨(V.tk [0,1,2,3,4,5,6,7,8,9,10,11,12,13] (V.e1 14 [] .done)),[],V.pok,.go (jad ?_)⟩
    refine V.r0 (V.a3 hlen hki @jh9) ?_
    exact V.wk
   ·have e2:mkV vals sm ns w m k=mkV0 vals w m k:=by unfold mkV;rw[hq3];rfl
    rw[e2]
    (conv=>whnf)
    refine V.st ?_
    exact V.wk
   have hst:flat ns (mkF vals sm ns w) m++(List.range k).map (mkV vals sm ns w m)++[mkV vals sm ns w m k]=flat ns (mkF vals sm ns w) m++(List.range (k+1)).map (mkV vals sm ns w m):=by
    rw[List.range_succ];simp
   have hst2:(flat ns (mkF vals sm ns w) m++(List.range k).map (mkV vals sm ns w m)).length+1=(flat ns (mkF vals sm ns w) m++(List.range (k+1)).map (mkV vals sm ns w m)).length:=by rw[← hst];simp;omega
   (conv=>whnf)
   refine V.st ?_
   try refine And.intro (fun _=>⟨rfl,by simp;omega⟩) ?_
   refine V.r0 (V.a8 @jh7 @List.drop_zero.{0} @List.take_succ_cons.{0} @List.take_zero.{0} @jiN @List.length_nil.{0} hst hst2) ?_
   exact⟨k+1,by omega,by omega,V.wk⟩
  ·rw[decide_eq_false_iff_not] at hq2
   have hkw:k=w:=by omega
   subst hkw
   have hfs:flat ns (mkF vals sm ns k) m++(List.range k).map (mkV vals sm ns k m)=flat ns (mkF vals sm ns k) (m+1):=(jaX _ _ _).symm
   rw[hfs]
   (conv=>whnf)
   refine V.st ?_
   exact⟨m+1,by omega,by omega,V.wk⟩
 ·rw[decide_eq_false_iff_not] at hq
  have hm1:m=PR ns:=by omega
  subst hm1
  (conv=>whnf)
  refine V.st ?_
  rw[jiO (jia _)]
  exact Fin.of rfl
def nsD (ds:List Int):List Nat:=if ds=[] then [2] else (ds.take 3).map fun x=>(2+x%3).toNat
def wD (o:Int):Nat:=(1+o%3).toNat
def draftD (ds:List Int)(o:Int)(vals:List Int)(sm:Bool):D := .agg [.ints .u8 ds,.int .u8 o,.ints .u16 vals,.bool sm]
def dData (ds:List Int)(o:Int)(vals:List Int)(sm:Bool):List Int:=flat (nsD ds) (mkF vals sm (nsD ds) (wD o)) (PR (nsD ds))
theorem nsD_bd (ds:List Int):(1≤(nsD ds).length∧(nsD ds).length≤3) ∧ ∀ n∈nsD ds,2≤n∧n≤4:=by
 unfold nsD
 split
 ·simp
 ·rename_i h
  have:0<ds.length:=List.length_pos_iff.2 h
  refine⟨by simp;omega,fun n hn=>?_⟩
  obtain⟨x,_,rfl⟩:=List.mem_map.1 hn
  omega
theorem wD_bd (o:Int):1≤wD o∧wD o≤3:=by unfold wD;omega
theorem nz_nsD {ds:List Int}(h:ds≠[]):(ds.take 3).map (fun x=>2+x%3)=nz (nsD ds):=by
 unfold nsD nz
 rw[if_neg h,List.map_map]
 refine List.map_congr_left fun x _=>?_
 simp
 omega
theorem draft_c (ds:List Int)(o:Int)(vals:List Int)(sm:Bool)(hd:∀ v∈ds,0≤v∧v≤255)(hdl:ds.length≤281474976710656)(ho:0≤o∧o≤255)(hv:∀ v∈vals,0≤v∧v≤65535)(hvl:vals.length≤281474976710656) :
  Cl 11 [draftD ds o vals sm] (gridD (nz (nsD ds)) (wD o) (dData ds o vals sm)):=by
 have hb:=nsD_bd ds
 have hwb:=wD_bd o
 have hmade:=made_c ds o vals sm (nsD ds) (wD o) hv hvl (by omega) (fun n hn=>by have:=hb.2 n hn;omega) (by omega)
 have hwD:1+o%3=(wD o:Int):=by unfold wD;omega
 refine V.en tbOk Tryz.func11 ?_
 refine V.r0 @jh7 ?_
 refine Lp.ghostSlot 26 3 .i64 (by decide) ?_
 (conv=>whnf)
 refine jae (0) (fun k=>k≤ds.length∧k≤3) (fun k=>3-k) (fun k=>[(4,.int .i64 k),(3,.osl 26 0 ((ds.take k).map fun x=>2+x%3).length)]) (fun k=>[(26,.arr .i64 ((ds.take k).map fun x=>2+x%3))]) ?_ ?_ ?_
 ·exact V.wk
 ·omega
 intro k hk
 (conv=>whnf)
 refine V.st ?_
 refine V.br (fun hq=>?_) (fun hq=>?_)
 ·simp only[jh2,decide_eq_true_eq] at hq
  obtain⟨x,hx,ex⟩:=getxn (xs:=ds) (k:=k) (by omega)
  have hxb:=hd x (jiD hx)
  have hst:(ds.take k).map (fun x=>2+x%3)++[2+x%3]=(ds.take (k+1)).map fun x=>2+x%3:=by
   rw[jiW,hx];simp
  have hst2:((ds.take k).map fun x=>2+x%3).length+1=((ds.take (k+1)).map fun x=>2+x%3).length:=by rw[← hst];simp
  have hml:((ds.take k).map fun x=>2+x%3).length≤3:=by simp;omega
  refine V.r0 (V.a2 @jh9 ex) ?_
  try refine And.intro (fun _=>⟨trivial,by simp;omega⟩) ?_
  refine V.r0 (V.a8 @jh7 @List.drop_zero.{0} @List.take_succ_cons.{0} @List.take_zero.{0} @jiN @List.length_nil.{0} hst hst2) ?_
  exact⟨k+1,by omega,by omega,V.wk⟩
 ·have hq2:¬ ((k:Int)<ds.length∧(k:Int)<3):=by
   intro h
   rw[decide_eq_true h.1,decide_eq_true h.2] at hq
   cases hq
  have htk:ds.take k=ds.take 3:=by
   rcases jig k 3 with h|h
   ·rw[jiO (by omega),jiO (by omega)]
   ·congr 1;omega
  have hml:((ds.take 3).map fun x=>2+x%3).length≤3:=by simp;omega
  rw[htk]
  (conv=>whnf)
  refine V.st ?_
  by_cases hds:ds=[]
  ·subst hds
   have hnd:nsD []=[2]:=rfl
   refine V.br (fun hq3=>?_) (fun hq3=>?_)
   ·refine V.r1 (V.a5 hwD @List.take_succ_cons.{0} @List.take_zero.{0} @jh7 @List.drop_zero.{0}) hmade ?_
    exact Fin.of rfl
   ·simp at hq3
  ·have hnd:=nz_nsD hds
   have hlp:0<ds.length:=List.length_pos_iff.2 hds
   refine V.br (fun hq3=>?_) (fun hq3=>?_)
   ·simp at hq3
    exact absurd hq3 hds
   ·rw[hnd] at hml ⊢
    refine V.r1 (V.a2 hwD @jiX) hmade ?_
    exact Fin.of rfl
theorem jhs {ns:List Nat}{f:Nat→List Int}{w m:Nat}(h:∀ j,(f j).length=w):(flat ns f m).length=m*w:=by
 induction m with
 | zero=>simp[flat]
 | succ m ih=>rw[jaX,jiE,ih,h,Nat.add_mul,Nat.one_mul]
theorem mem_flat {ns:List Nat}{f:Nat→List Int}{m:Nat}{x:Int}(h:x∈flat ns f m):∃ j,j<m∧x∈f j:=by
 unfold flat at h
 rw[List.mem_flatMap] at h
 obtain⟨j,h1,h2⟩:=h
 exact⟨j,List.mem_range.1 h1,h2⟩
theorem draft_ok (ds:List Int)(o:Int)(vals:List Int)(sm:Bool)(hv:∀ v∈vals,0≤v∧v≤65535):jak (nz (nsD ds)) (wD o) (dData ds o vals sm)=true:=by
 have hb:=nsD_bd ds
 have hwb:=wD_bd o
 have hl:(dData ds o vals sm).length=PR (nsD ds)*wD o:=jhs fun j=>by simp[mkF]
 have hP:PR (nsD ds)≤64:=by
  have hbb:∀ l:List Nat,(∀ n∈l,2≤n∧n≤4)→PR l≤4^l.length:=by
   intro l
   induction l with
   | nil=>intro _;decide
   | cons x l ih=>
    intro hl
    have h3:=ih fun n hn=>hl n (by simp[hn])
    have h4:=hl x (by simp)
    rw[PR,jiN,Nat.pow_succ,jic]
    exact Nat.mul_le_mul h3 h4.2
  exact jih (hbb _ hb.2) (jio (by omega) hb.1.2)
 have hl2:PR (nsD ds)*wD o≤64*3:=Nat.mul_le_mul hP hwb.2
 unfold jak
 have e1:(nz (nsD ds)).length=(nsD ds).length:=by simp[nz]
 have e2:(nz (nsD ds)).all (fun n=>decide (2≤n∧n≤9))=true:=by
  rw[jiy]
  intro x hx
  obtain⟨n,hn,rfl⟩:=List.mem_map.1 hx
  have:=hb.2 n hn
  simp;omega
 have e3:(dData ds o vals sm).all (fun v=>decide (0≤v∧v≤65535))=true:=by
  rw[jiy]
  intro x hx
  obtain⟨j,_,hj⟩:=mem_flat hx
  unfold mkF at hj
  obtain⟨k,_,rfl⟩:=List.mem_map.1 hj
  have:=mkV_bd (sm:=sm) (w:=wD o) (m:=j) (k:=k) hv hb.1.1 (fun n hn=>by have:=hb.2 n hn;omega)
  simpa using this
 rw[e2,e3,jc0]
 simp only[Bool.and_true,jh2,decide_eq_true_eq]
 refine⟨⟨by omega,by omega⟩,by omega,?_⟩
 rw[hl];simp
theorem all_c (xs:List Int):Cl 72 [.ints .i64 xs] (.fn 116 [] [.ref [.ints .i64 xs]]):=by
 refine V.en tbOk Tryz.func72 ?_
 (conv=>whnf)
 refine V.st ?_
 exact Fin.same _
theorem zT8_0:type_of% @jh9∧type_of% @jh7:=⟨@jh9,@jh7⟩
theorem jhq (ns:List Nat)(out:Int)(g:Nat)(c1 c2:Int)(sz:List Int)(o:Int)(da:List Int)(f:Nat→List Int)(h1:1≤ns.length∧ns.length≤4)(h2:∀ n∈ns,2≤n∧n≤9)(hl:∀ m,m<PR ns→(f m).length≤4)
  (hf:∀ m,m<PR ns→Cl g [.iarr .i64 (pad4 (ixl ns m)),.ref [.int .i64 c1],.ref [.int .i64 c2],.ref [.fn 40 [gridD sz o da] []]] (.ints .i64 (f m))) :
  Cl 41 [.ints .i64 (nz ns),.int .i64 out,.fn g [] [.ref [.int .i64 c1],.ref [.int .i64 c2],.ref [.fn 40 [gridD sz o da] []]]] (gridD (nz ns) out (flat ns f (PR ns))):=by
 have hlen:(nz ns).length=ns.length:=by simp[nz]
 refine V.en tbOk Tryz.func41 ?_
 (conv=>whnf)
 refine V.st ?_
 repeat ((try ((with_reducible refine .ext ?_);(conv=>whnf)));(with_reducible refine jaa (r:=?_) ?_ ?_);rotate_left;(focus (first|exact(all_c _)));(conv=>whnf);refine V.st ?_)
 refine⟨_,_,⟨Tryz.func116,rfl,rfl,jh3 rfl⟩,?_⟩
 refine V.r0 @jh7 ?_
 refine lp_go (ns.length) (fun k=>True) (fun k=>[(10,.int .i64 k)]) (fun k=>[(32,.arr .i64 (pad4 ((lastL ns).take k)))]) V.wk ?_ ?_
 ·trivial
 intro k hk _
 (conv=>whnf)
 refine V.st ?_
 refine V.br (fun h=>?_) (fun h=>?_)
 ·rw[hlen] at h
  simp only[decide_eq_true_eq] at h
  have hk1:k<ns.length:=by omega
  obtain⟨n,hn⟩:∃ n,ns[k]? = some n:=⟨ns[k],jiC hk1⟩
  have hn0:=h2 n (jiD hn)
  have en:(nz ns).getD k 0=n:=by simp[nz,jiz,hn]
  have hll:(lastL ns)[k]? = some ((n:Int)-1):=by simp[lastL,hn]
  have hp4:(pad4 ((lastL ns).take k)).length=4:=jas (by simp[lastL];omega)
  have hps:=jd9 hll (by simp[lastL];omega)
  refine V.r0 (V.a3 zT8_0 @en hps) ?_
  exact⟨k+1,⟨by omega,trivial⟩,by omega,V.wk⟩
 ·rw[hlen] at h
  simp only[decide_eq_false_iff_not] at h
  have hk1:k=ns.length:=by omega
  subst hk1
  have e0:(lastL ns).take ns.length=lastL ns:=jiO (by simp[lastL])
  rw[e0]
  (conv=>whnf)
  refine V.st ?_
  refine Lp.ghostBox 98 7 2 .i64 (by decide) (by decide) ?_
  (conv=>whnf)
  have e1:=jf2 h1 h2
  have hpos:∀ n∈ns,0<n:=fun n hn=>by have:=h2 n hn;omega
  refine jae (0) (fun k=>k<PR ns) (fun k=>PR ns-k) (fun k=>[]) (fun k=>[(31,.arr .i64 (pad4 (ixl ns k))),(7,.box [.osl 14 0 (nz ns).length,.int .i64 out,.osl 98 0 (flat ns f k).length]),(98,.arr .i64 (flat ns f k))]) ?_ ?_ ?_
  ·rw[e1]
   exact V.wk
  ·exact jdC fun n hn=>by have:=h2 n hn;omega
  intro m hm
  have hfm:=hf m hm
  have hlm:=hl m hm
  have hp4:(pad4 (ixl ns m)).length=4:=jas (by rw[jao];omega)
  have hp4l:(pad4 (lastL ns)).length=4:=jas (by simp[lastL];omega)
  have hfl:(flat ns f m).length≤4*m:=jf5 (fun j hj=>hl j (by omega))
  have hPR:=PR_le h1.2 h2
  (conv=>whnf)
  refine V.st ?_
  repeat ((try ((with_reducible refine .ext ?_);(conv=>whnf)));(with_reducible refine jaa (r:=?_) ?_ ?_);rotate_left;(focus (first|exact(hfm)));(conv=>whnf);refine V.st ?_)
  refine⟨(V.tk [0,1,2,3] (V.e1 4 [1,0] (V.e1 5 [] (V.tk [6] (V.e1 7 [] .done))))),[],V.pok,.go (jad ?_)⟩
  (conv=>whnf)
  refine V.st ?_
  repeat ((try ((with_reducible refine .ext ?_);(conv=>whnf)));(with_reducible refine jaa (r:=?_) ?_ ?_);rotate_left;(focus (first|exact(hfm)));(conv=>whnf);refine V.st ?_)
  try refine And.intro (fun _=>⟨rfl,by omega⟩) ?_
  (conv=>whnf)
  (try simp only[← jaX,← jiE])
  repeat ((first|refine V.s1 ?_|((try ((with_reducible refine .ext ?_);(conv=>whnf);(try simp only[← jaX,← jiE])));(with_reducible refine jaa (r:=?_) ?_ ?_);rotate_left;(focus (first|exact(hfm)));(conv=>whnf)));(try simp only[← jaX,← jiE]))
  refine V.br (fun hq=>?_) (fun hq=>?_)
  ·simp only[decide_eq_true_eq] at hq
   have hq2:ixl ns m=lastL ns:=jea (by rw[jao];simp[lastL]) hq
   have hq3:=jdo ns hpos m hq2
   rw[jid hm] at hq3
   have hq4:m+1=PR ns:=by omega
   (conv=>whnf)
   refine V.st ?_
   rw[jiO (jia _),jiO (jia _),hq4]
   exact Fin.of rfl
  ·simp only[decide_eq_false_iff_not] at hq
   have hq2:ixl ns m≠lastL ns:=fun e=>hq (by rw[e])
   have hil:=jao ns m
   have hll:(lastL ns).length=ns.length:=by simp[lastL]
   (conv=>whnf)
   refine V.st ?_
   rw[hlen]
   have e2:(ixl ns m).take ns.length=ixl ns m:=jiO (by omega)
   refine jae (ns.length) (fun k=>(1≤k∧k≤ns.length)∧(ixl ns m).drop k=(lastL ns).drop k) (fun k=>k) (fun k=>[(7,.int .i64 ((k:Int)-1))]) (fun k=>[(31,.arr .i64 (pad4 ((ixl ns m).take k)))]) ?_ ?_ ?_
   ·rw[e2]
    exact V.wk
   ·exact⟨⟨h1.1,jia _⟩,by rw[jiP (by omega),jiP (by omega)]⟩
   rintro p ⟨⟨hp1,hp2⟩,hp3⟩
   obtain⟨p,rfl⟩:∃ q,p=q+1:=⟨p-1,by omega⟩
   obtain⟨x,hx⟩:∃ x,(ixl ns m)[p]? = some x:=⟨_,jiC (by omega)⟩
   obtain⟨n,hn⟩:∃ n,ns[p]? = some n:=⟨ns[p],jiC (by omega)⟩
   have hpx:=jbD hx (by omega:p<p+1) (by omega)
   have hpl:(lastL ns)[p]? = some ((n:Int)-1):=by simp[lastL,hn]
   have hpl2:=jbD (k:=4) hpl (by omega) (by omega)
   rw[jiO (by omega)] at hpl2
   have hp5:(pad4 ((ixl ns m).take (p+1))).length=4:=jas (by simp;omega)
   have e3:((p+1:Nat):Int)-1=(p:Int):=by omega
   have e4:=jdl hx (by omega)
   (conv=>whnf)
   refine V.st ?_
   refine⟨Pq28z,[],V.pok,.go (jad ?_)⟩
   refine V.r0 (V.a4 zT8_0 e3 hpx hpl2) ?_
   refine V.br (fun hc=>?_) (fun hc=>?_)
   ·simp only[decide_eq_true_eq] at hc
    have hd:(ixl ns m).drop p=(lastL ns).drop p:=by
     rw[jiR (by omega:p<(ixl ns m).length),jiR (by omega:p<(lastL ns).length),hp3,(jiI.1 hx).2,(jiI.1 hpl).2,hc]
    have hp0:1≤p:=by
     rcases jib p with e|e
     ·subst e;exact absurd (by simpa using hd) hq2
     ·exact e
    refine V.r0 (V.a3 zT8_0 e3 e4) ?_
    exact⟨p,⟨⟨hp0,by omega⟩,hd⟩,by omega,V.wk⟩
   ·simp only[decide_eq_false_iff_not] at hc
    have hsu:=jee ns hpos m p n hn x hx (by rw[hp3];simp[lastL]) hc
    have e5:=jcz (y:=x+1) hx (by omega) (by omega:(ixl ns m).length≤4)
    rw[hil,← hsu] at e5
    have hxb:=jcV hpos hn hx
    have hnb:=h2 n (jiD hn)
    have hm1:m+1<PR ns:=by
     rcases jig (m+1) (PR ns) with e|e
     ·exact e
     ·exfalso
      exact hq2 (jdr ns hpos m (by rw[jid hm];omega))
    refine V.r0 (V.a4 zT8_0 e3 hpx e5) ?_
    exact⟨m+1,hm1,by omega,V.wk⟩
end Go.Proofs.YtgjgpdceghjajaaGreatDoor
end
