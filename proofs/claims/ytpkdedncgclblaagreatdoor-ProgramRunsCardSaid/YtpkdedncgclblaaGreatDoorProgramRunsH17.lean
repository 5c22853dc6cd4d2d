/- What functions of the program answer at given values, part 17. Conditions: those that each theorem names. -/
import Derived.Test.YtpkdedncgclblaaGreatDoorProgramRunsH12
import Derived.Test.YtpkdedncgclblaaGreatDoorProgramRunsH13
import Derived.Test.YtpkdedncgclblaaGreatDoorProgramRunsH16
import Derived.Test.YtpkdedncgclblaaGreatDoorProgramRunsH6
import Derived.Test.YtpkdedncgclblaaGreatDoorProgramRunsH14
set_option linter.unusedSimpArgs false
set_option linter.unusedVariables false
set_option maxHeartbeats 8000000
set_option maxRecDepth 100000
section
namespace Go.Proofs.YtpkdedncgclblaaGreatDoor
open Go Go.V Go.Nb
def whV (l:List Int):Int:=l.foldl (fun v x=>v*1000+x%1000) 0
theorem whV_snoc (l:List Int)(x:Int):whV (l++[x])=whV l*1000+x%1000:=by unfold whV;rw[List.foldl_append];rfl
theorem whV_take (xs:List Int)(k:Nat)(h:k<xs.length):whV (xs.take (k+1))=whV (xs.take k)*1000+xs.getD k 0%1000:=by
 rw[List.take_add_one,ji6 h,← whV_snoc,ji3,ji6 h];rfl
theorem whV_bd:∀ (k:Nat) (xs:List Int),0≤whV (xs.take k)∧whV (xs.take k)<((1000^k:Nat):Int)
 | 0,xs=>by simp[whV]
 | k+1,xs=>by
  have ih:=whV_bd k xs
  have hp:(1000:Nat)^(k+1)=1000^k*1000:=Nat.pow_succ ..
  rw[hp]
  generalize (1000:Nat)^k=p at *
  rcases jiI k xs.length with h|h
  ·rw[whV_take xs k h]
   omega
  ·have e:xs.take (k+1)=xs.take k:=by rw[jjl (by omega),jjl h]
   rw[e]
   omega
theorem raised_c (k:Nat)(hk:k≤3):Cl 198 [plD 10,.int .i64 k] (plD ((10^k:Nat):Int)):=by
 have h1:=jbo 1 (by constructor<;>decide)
 have ht:∀ i,i<k→Cl 73 [plD ((10^i:Nat):Int),plD 10] (plD ((10^(i+1):Nat):Int)):=fun i hi=>by
  have:=jbb ((10^i:Nat):Int) 10 (Sm.lit (k:=5) (by
   rcases (by omega:i=0∨i=1∨i=2) with e|e|e<;>subst e<;>decide) |>.mono (by omega)) ((Sm.lit (k:=5) (by decide)).mono (by omega))
  rw[Nat.pow_succ,jiL]
  exact this
 obtain⟨v,hv⟩:∃ v:Nat→Int,v=fun i=>((10^i:Nat):Int):=⟨_,rfl⟩
 have ht:∀ i,i<k→Cl 73 [plD (v i),plD 10] (plD (v (i+1))):=by rw[hv];exact ht
 have h1:Cl 123 [.int .i64 1] (plD (v 0)):=by rw[hv];exact h1
 rw[show ((10^k:Nat):Int)=v k by rw[hv]]
 clear hv
 obtain⟨ten,hten⟩:∃ z:Int,z=10:=⟨_,rfl⟩
 rw[← hten] at ht ⊢
 clear hten
 unfold plD at *
 refine V.en tbOk Tryz.func198 ?_
 (conv=>whnf)
 refine V.st ?_
 repeat ((try ((with_reducible refine .ext ?_);(conv=>whnf)));(with_reducible refine jaa (r:=?_) ?_ ?_);rotate_left;(focus (first|exact(h1)));(conv=>whnf);refine V.st ?_)
 refine jaf (0:Nat) (fun i=>i≤k) (fun i=>k-i) (fun i=>[(6,.int .i64 i)]) (fun i=>[(5,.box [.bool (decide (v i<0)),.ints .i64 (mg 10000 (v i).natAbs)])]) ?_ ?_ ?_
 ·exact V.wk
 ·exact jit _
 intro i hi
 have hic:((i:Int)+1)=((i+1:Nat):Int):=by omega
 have hti:=ht i
 (conv=>whnf)
 refine V.st ?_
 refine V.br (fun hq=>?_) (fun hq=>?_)
 ·rw[decide_eq_true_eq] at hq
  have hti:=hti (by omega)
  (conv=>whnf)
  (try simp only[hic])
  repeat ((first|refine V.s1 ?_|((with_reducible refine jax ?_ ?_);(focus ((conv=>whnf);(try simp only[hic]);(repeat ((first|refine V.s1 ?_);(try simp only[hic])));exact⟨rfl⟩));(conv=>whnf))|((try ((with_reducible refine .ext ?_);(conv=>whnf);(try simp only[hic])));(with_reducible refine jaa (r:=?_) ?_ ?_);rotate_left;(focus (first|exact(hti)));(conv=>whnf)));(try simp only[hic]))
  exact⟨i+1,by omega,by omega,V.wk⟩
 ·rw[decide_eq_false_iff_not] at hq
  obtain rfl:i=k:=by omega
  (conv=>whnf)
  refine V.st ?_
  exact Fin.of rfl
theorem dwhole_c (b:Bool)(xs:List Int)(z:Int)(hz:0≤z∧z≤3):∃ v:Int,(-10000000000000000000000000000000000000000<v∧v<10000000000000000000000000000000000000000) ∧
  Cl 122 [.agg [.bool b,.ints .u16 xs,.int .u16 z]] (.str (decZ v)):=by
 obtain⟨n,rfl⟩:∃ n:Nat,z=n:=⟨z.toNat,by omega⟩
 have hzm:(n:Int)%501=(n:Int):=by omega
 have i0:=jbo 0 (by constructor<;>decide)
 have i1:=jbo 1000 (by constructor<;>decide)
 have i2:=jbo 10 (by constructor<;>decide)
 have r1:=raised_c n (by omega)
 have p10:((10^n:Nat):Int)≤1000∧1≤((10^n:Nat):Int):=by
  rcases (by omega:n=0∨n=1∨n=2∨n=3) with e|e|e|e<;>subst e<;>decide
 generalize ((10^n:Nat):Int)=ten at *
 obtain⟨U,hU⟩:∃ U:Nat→Int,U=fun k=>whV (xs.take k):=⟨_,rfl⟩
 have bd:∀ k,k≤12→0≤U k∧U k<1000000000000000000000000000000000000:=fun k hk=>by
  have:=whV_bd k xs
  have h2:(1000:Nat)^k≤1000^12:=jiR (by omega) hk
  rw[hU]
  exact⟨this.1,Int.lt_of_lt_of_le this.2 (Int.ofNat_le.2 h2)⟩
 have st:∀ k,k<xs.length→U (k+1)=U k*1000+xs.getD k 0%1000:=fun k hk=>by rw[hU];exact whV_take xs k hk
 have V0:U 0=0:=by rw[hU];rfl
 have Vn:∀ k,¬ (k<12∧k<xs.length)→k≤12→U k=U 12:=fun k h1 h2=>by
  rw[hU]
  show whV (xs.take k)=whV (xs.take 12)
  rcases (by omega:k=12∨xs.length≤k) with e|e
  ·rw[e]
  ·rw[jjl e,jjl (by omega)]
 clear hU
 have sm:∀ a:Int,0≤a→a<1000000000000000000000000000000000000000→Sm 10 a:=fun a h1 h2=>Sm.lit (by omega)
 have sm2:∀ a:Int,0≤a→a<1000000000000000000000000000000000000000→(mg 10000 a.natAbs).length≤10:=sm
 have hb:=bd 12 (by omega)
 have hfin:0≤U 12*ten∧U 12*ten<1000000000000000000000000000000000000000:=by
  have h1:=jiw hb.1 (show 0≤ten by omega)
  have h2:=jiP p10.1 hb.1
  omega
 have t9:=jbb (U 12) ten ((sm _ hb.1 (by omega)).mono (by omega)) ((sm _ (by omega) (by omega)).mono (by omega))
 obtain⟨w,hw⟩:∃ w:Int,U 12*ten=w:=⟨_,rfl⟩
 rw[hw] at t9 hfin
 have m1:=jde b w.natAbs (by have:=sm2 w hfin.1 hfin.2;omega)
 rw[show ((w.natAbs:Nat):Int)=w by omega] at m1
 have hv : -1000000000000000000000000000000000000000<(if b=true then -w else w)∧(if b=true then -w else w)<1000000000000000000000000000000000000000:=by split<;>omega
 refine⟨if b=true then -w else w,by omega,?_⟩
 generalize (if b=true then -w else w)=v at *
 have o1:=out_c v (Sm.lit (k:=10) (by omega) |>.mono (by omega))
 have hd:=(ja0 40 v.natAbs (by omega) (by omega)).1
 rw[if_neg (by omega),if_neg (by omega)] at o1
 obtain⟨k1000,hk1000⟩:∃ q:Int,q=1000:=⟨_,rfl⟩
 obtain⟨k10,hk10⟩:∃ q:Int,q=10:=⟨_,rfl⟩
 have tk:∀ k,k≤12→Cl 73 [plD (U k),plD k1000] (plD (U k*1000)):=fun k hk=>by
  rw[hk1000]
  exact jbb (U k) 1000 ((sm _ (bd k hk).1 (by have:=(bd k hk).2;omega)).mono (by omega)) ((sm _ (by omega) (by omega)).mono (by omega))
 have i1:Cl 123 [.int .i64 1000] (plD k1000):=by rw[hk1000];exact i1
 have i2:Cl 123 [.int .i64 10] (plD k10):=by rw[hk10];exact i2
 have r1:Cl 198 [plD k10,.int .i64 n] (plD ten):=by rw[hk10];exact r1
 have i0:Cl 123 [.int .i64 0] (plD (U 0)):=by rw[V0];exact i0
 clear hk1000 hk10 hb hfin hv hw hd V0 p10
 unfold plD at i0 i1 i2 r1 tk t9 m1 o1
 refine V.en tbOk Tryz.func122 ?_
 (conv=>whnf)
 refine V.st ?_
 repeat ((try ((with_reducible refine .ext ?_);(conv=>whnf)));(with_reducible refine jaa (r:=?_) ?_ ?_);rotate_left;(focus (first|exact(i0)));(conv=>whnf);refine V.st ?_)
 refine jaf (0:Nat) (fun k=>k≤12∧k≤xs.length) (fun k=>12-k) (fun k=>[(4,.int .i64 k)]) (fun k=>[(3,.box [.bool (decide (U k<0)),.ints .i64 (mg 10000 (U k).natAbs)])]) ?_ ?_ ?_
 ·exact V.wk
 ·exact⟨by omega,by omega⟩
 intro k hk
 have hkc:((k:Int)+1)=((k+1:Nat):Int):=by omega
 (conv=>whnf)
 refine V.st ?_
 refine V.br (fun hq=>?_) (fun hq=>?_)
 ·simp only[jir,decide_eq_true_eq] at hq
  obtain⟨x,hx,ex⟩:=getxn (xs:=xs) (k:=k) (by omega)
  have hst:=st k (by omega)
  rw[ex] at hst
  have hbk:=bd k (by omega)
  have hbk1:=bd (k+1) (by omega)
  have h1:=tk k (by omega)
  have h2:=jbo (x%1000) (by simp only[InR,V.lo,V.hi];omega)
  have h3:=jgR (U k*1000) (x%1000) ((sm _ (by omega) (by omega)).mono (by omega)) ((sm _ (by omega) (by omega)).mono (by omega))
  rw[← hst] at h3
  unfold plD at h2 h3
  obtain⟨r,hr⟩:∃ r,x%1000=r:=⟨_,rfl⟩
  rw[hr] at h2 h3
  (conv=>whnf)
  refine V.st ?_
  refine⟨(V.tk [0,3,4,5,6,7,8,9] (V.e1 1 [9,8,7,6,5,4,3,0] (V.e1 2 [9,8,7,6,5,4,3] (V.e1 10 [] (V.e1 11 [] (V.e1 12 [] .done)))))),[],V.pok,.go (jab ?_)⟩
  (conv=>whnf)
  (try simp only[jiA,ex,hr,hkc])
  repeat ((first|refine V.s1 ?_|((with_reducible refine jax ?_ ?_);(focus ((conv=>whnf);(try simp only[jiA,ex,hr,hkc]);(repeat ((first|refine V.s1 ?_);(try simp only[jiA,ex,hr,hkc])));exact⟨rfl⟩));(conv=>whnf))|((try ((with_reducible refine .ext ?_);(conv=>whnf);(try simp only[jiA,ex,hr,hkc])));(with_reducible refine jaa (r:=?_) ?_ ?_);rotate_left;(focus (first|exact(i1)|exact(h1)|exact(h2)|exact(h3)));(conv=>whnf)));(try simp only[jiA,ex,hr,hkc]))
  exact⟨k+1,⟨by omega,by omega⟩,by omega,V.wk⟩
 ·have hk12:U k=U 12:=Vn k (fun h=>by rw[jiW,decide_eq_false_iff_not,decide_eq_false_iff_not] at hq;omega) hk.1
  rw[hk12]
  (conv=>whnf)
  refine V.st ?_
  refine⟨(V.tk [0,2,3,4,5] (V.e1 1 [5,4,3,2,0] (V.e1 6 [0] (V.e1 7 [] (V.e1 8 [] .done))))),[],V.pok,.go (jab ?_)⟩
  (conv=>whnf)
  (try simp only[hzm])
  repeat ((first|refine V.s1 ?_|((with_reducible refine jax ?_ ?_);(focus ((conv=>whnf);(try simp only[hzm]);(repeat ((first|refine V.s1 ?_);(try simp only[hzm])));exact⟨rfl⟩));(conv=>whnf))|((try ((with_reducible refine .ext ?_);(conv=>whnf);(try simp only[hzm])));(with_reducible refine jaa (r:=?_) ?_ ?_);rotate_left;(focus (first|exact(i2)|exact(r1)|exact(t9)));(conv=>whnf)));(try simp only[hzm]))
  (conv=>whnf)
  refine V.st ?_
  repeat ((try ((with_reducible refine .ext ?_);(conv=>whnf)));(with_reducible refine jaa (r:=?_) ?_ ?_);rotate_left;(focus (first|exact(m1)|exact(o1)));(conv=>whnf);refine V.st ?_)
  exact Fin.of rfl
theorem dfrac_c (b:Bool)(xs:List Int)(z:Int)(b2:Bool)(xs2:List Int)(z2:Int)(hz:0≤z∧z≤65535)(hz2:0≤z2∧z2≤65535):∃ q:Rat,okF q=true ∧
  Cl 57 [.agg [.bool b,.ints .u16 xs,.int .u16 z,.bool b2,.ints .u16 xs2,.int .u16 z2]] (frT_o q):=by
 obtain⟨r,hr⟩:∃ r,z%4=r:=⟨_,rfl⟩
 obtain⟨r2,hr2⟩:∃ r,z2%4=r:=⟨_,rfl⟩
 obtain⟨v,hv,w1⟩:=dwhole_c b xs r (by omega)
 obtain⟨v2,hv2,w2⟩:=dwhole_c b2 xs2 r2 (by omega)
 obtain⟨y,hy⟩:∃ y,y=if v2=0 then 1 else v2:=⟨_,rfl⟩
 have hy0:y≠0 ∧ -10000000000000000000000000000000000000000<y∧y<10000000000000000000000000000000000000000:=by
  rw[hy];split<;>omega
 have n40:=divInt_40 v y hv hy0
 have hok:=okF_40 n40.1 n40.2
 have l40:∀ a:Int,(-10000000000000000000000000000000000000000<a∧a<10000000000000000000000000000000000000000)→Sm 10 a∧(dec a.natAbs).length≤600:=fun a ha=>
  ⟨Sm.lit (by omega),jiC (ja0 40 a.natAbs (by omega) (by omega)).1 (by omega)⟩
 have i1:=in01_c_o (decZ v) (jbS v (l40 v hv).2)
 have i2:=in01_c_o (decZ v2) (jbS v2 (l40 v2 hv2).2)
 rw[jbk] at i1 i2
 have k1:=jbo 1 (by constructor<;>decide)
 have lw:=jeq v y ((l40 v hv).1.mono (by omega)) ((l40 y hy0.2).1.mono (by omega)) hy0.1
 have q4:Q4 10 (Rat.divInt v y):=Q4.of (l40 v hv).1 (l40 y hy0.2).1 hy0.1
 have o1:=jdd (Rat.divInt v y) (q4.1.mono (by omega)) (q4.2.mono (by omega))
 unfold frR at o1
 rw[hok] at o1
 simp only[cond_true] at o1
 refine⟨_,hok,?_⟩
 have hnil:=jce (B:=10000) (n:=v2.natAbs) (by omega)
 clear q4 hok n40 l40
 generalize Rat.divInt v y=q at *
 unfold frT_o raD plD at *
 generalize decZ v=t1 at *
 generalize decZ v2=t2 at *
 refine V.en tbOk Tryz.func57 ?_
 (conv=>whnf)
 refine V.st ?_
 refine⟨(V.tk [0,1,2,3] (.ev (.cons 4 [3,2,1,0] (V.e1 5 [3,2,1,0] (V.e1 6 [3,2] (V.e1 7 [] .done))) (.cons 5 [3,2,1,0] (V.e1 4 [3,2,1,0] (V.e1 6 [3,2] (V.e1 7 [] .done))) .nil)))),[],V.pok,?_⟩
 refine jas [(3,.box 3 0),(4,.box 4 0)] [(3,.box [.bool b,.ints .u16 xs,.int .u16 z]),(4,.box [.bool b2,.ints .u16 xs2,.int .u16 z2])] ?_ ?_
 ·exact V.d0 @jiy
 (conv=>whnf)
 refine V.st ?_
 refine⟨(V.tk [0,1,2,3,4,5,6] (V.e1 7 [5,4,3] (V.tk [8] (V.e1 9 [] .done)))),[],V.pok,?_⟩
 refine jas [] [(3,.box [.bool b,.ints .u16 xs,.int .u16 r]),(4,.box [.bool b2,.ints .u16 xs2,.int .u16 r2])] ?_ ?_
 ·exact V.d0 (V.a3 @jiy hr hr2)
 (conv=>whnf)
 refine V.st ?_
 refine⟨(V.tk [0,3] (.ev (.cons 1 [3] (.ev (.cons 2 [3] (.ev (.cons 4 [] (.ev (.cons 5 [] (.ev (.cons 6 [] (V.e1 7 [] (V.e1 8 [] (V.e1 9 [] .done))) (.cons 7 [] (V.e1 6 [] (V.e1 8 [] (V.e1 9 [] .done))) .nil))) (.cons 6 [] (.ev (.cons 5 [] (V.e1 7 [] (V.e1 8 [] (V.e1 9 [] .done))) (.cons 7 [] (V.e1 5 [] (V.e1 8 [] (V.e1 9 [] .done))) .nil))) (.cons 7 [] (.ev (.cons 5 [] (V.e1 6 [] (V.e1 8 [] (V.e1 9 [] .done))) (.cons 6 [] (V.e1 5 [] (V.e1 8 [] (V.e1 9 [] .done))) .nil))) .nil)))) (.cons 6 [3] (.ev (.cons 4 [] (.ev (.cons 5 [] (V.e1 7 [] (V.e1 8 [] (V.e1 9 [] .done))) (.cons 7 [] (V.e1 5 [] (V.e1 8 [] (V.e1 9 [] .done))) .nil))) (.cons 7 [3] (V.e1 4 [] (V.e1 5 [] (V.e1 8 [] (V.e1 9 [] .done)))) .nil))) (.cons 7 [3] (.ev (.cons 4 [] (.ev (.cons 5 [] (V.e1 6 [] (V.e1 8 [] (V.e1 9 [] .done))) (.cons 6 [] (V.e1 5 [] (V.e1 8 [] (V.e1 9 [] .done))) .nil))) (.cons 6 [3] (V.e1 4 [] (V.e1 5 [] (V.e1 8 [] (V.e1 9 [] .done)))) .nil))) .nil)))) (.cons 6 [3] (.ev (.cons 2 [3] (.ev (.cons 4 [] (.ev (.cons 5 [] (V.e1 7 [] (V.e1 8 [] (V.e1 9 [] .done))) (.cons 7 [] (V.e1 5 [] (V.e1 8 [] (V.e1 9 [] .done))) .nil))) (.cons 7 [3] (V.e1 4 [] (V.e1 5 [] (V.e1 8 [] (V.e1 9 [] .done)))) .nil))) (.cons 7 [3] (V.e1 2 [3] (V.e1 4 [] (V.e1 5 [] (V.e1 8 [] (V.e1 9 [] .done))))) .nil))) (.cons 7 [3] (.ev (.cons 2 [3] (.ev (.cons 4 [] (.ev (.cons 5 [] (V.e1 6 [] (V.e1 8 [] (V.e1 9 [] .done))) (.cons 6 [] (V.e1 5 [] (V.e1 8 [] (V.e1 9 [] .done))) .nil))) (.cons 6 [3] (V.e1 4 [] (V.e1 5 [] (V.e1 8 [] (V.e1 9 [] .done)))) .nil))) (.cons 6 [3] (V.e1 2 [3] (V.e1 4 [] (V.e1 5 [] (V.e1 8 [] (V.e1 9 [] .done))))) .nil))) .nil)))) (.cons 6 [3,0] (.ev (.cons 1 [3] (.ev (.cons 2 [3] (.ev (.cons 4 [] (.ev (.cons 5 [] (V.e1 7 [] (V.e1 8 [] (V.e1 9 [] .done))) (.cons 7 [] (V.e1 5 [] (V.e1 8 [] (V.e1 9 [] .done))) .nil))) (.cons 7 [3] (V.e1 4 [] (V.e1 5 [] (V.e1 8 [] (V.e1 9 [] .done)))) .nil))) (.cons 7 [3] (V.e1 2 [3] (V.e1 4 [] (V.e1 5 [] (V.e1 8 [] (V.e1 9 [] .done))))) .nil))) (.cons 7 [3,0] (V.e1 1 [3] (V.e1 2 [3] (V.e1 4 [] (V.e1 5 [] (V.e1 8 [] (V.e1 9 [] .done)))))) .nil))) (.cons 7 [3,0] (.ev (.cons 1 [3] (.ev (.cons 2 [3] (.ev (.cons 4 [] (.ev (.cons 5 [] (V.e1 6 [] (V.e1 8 [] (V.e1 9 [] .done))) (.cons 6 [] (V.e1 5 [] (V.e1 8 [] (V.e1 9 [] .done))) .nil))) (.cons 6 [3] (V.e1 4 [] (V.e1 5 [] (V.e1 8 [] (V.e1 9 [] .done)))) .nil))) (.cons 6 [3] (V.e1 2 [3] (V.e1 4 [] (V.e1 5 [] (V.e1 8 [] (V.e1 9 [] .done))))) .nil))) (.cons 6 [3,0] (V.e1 1 [3] (V.e1 2 [3] (V.e1 4 [] (V.e1 5 [] (V.e1 8 [] (V.e1 9 [] .done)))))) .nil))) .nil))))),[],V.pok,?_⟩
 refine jas [(5,.box 5 0),(6,.box 6 0)] [(5,.box [.bool (decide (v<0)),.ints .i64 (mg 10000 v.natAbs)]),(6,.box [.bool (decide (v2<0)),.ints .i64 (mg 10000 v2.natAbs)])] ?_ ?_
 ·exact V.d4 @jiy w1 w2 i1 i2
 (conv=>whnf)
 refine V.st ?_
 refine V.br (fun hq=>?_) (fun hq=>?_)
 ·have h0:v2=0:=by
   rw[decide_eq_true_eq] at hq
   have:=hnil.1 (ji4.1 (by omega))
   omega
  rw[if_pos h0] at hy
  subst hy
  (conv=>whnf)
  refine V.st ?_
  repeat ((try ((with_reducible refine .ext ?_);(conv=>whnf)));(with_reducible refine jaa (r:=?_) ?_ ?_);rotate_left;(focus (first|exact(k1)|exact(lw)|exact(o1)));(conv=>whnf);refine V.st ?_)
  exact Fin.of rfl
 ·have h0:v2≠0:=fun h=>by
   rw[decide_eq_false_iff_not] at hq
   exact hq (by rw[hnil.2 (by omega)];rfl)
  rw[if_neg h0] at hy
  subst hy
  (conv=>whnf)
  refine V.st ?_
  repeat ((try ((with_reducible refine .ext ?_);(conv=>whnf)));(with_reducible refine jaa (r:=?_) ?_ ?_);rotate_left;(focus (first|exact(lw)|exact(o1)));(conv=>whnf);refine V.st ?_)
  exact Fin.of rfl
theorem jii:type_of% @jiA∧type_of% @jiy:=⟨@jiA,@jiy⟩
abbrev dce (b:Nat→Bool)(x:Nat→List Int)(z:Nat→Int)(b2:Nat→Bool)(x2:Nat→List Int)(z2:Nat→Int)(i:Nat):List D:=[.bool (b i),.ints .u16 (x i),.int .u16 (z i),.bool (b2 i),.ints .u16 (x2 i),.int .u16 (z2 i)]
theorem inputs_c (I O:Int)(l:List (Int×Int))(at_:List Int)(n:Nat)(b b2:Nat→Bool)(x x2:Nat→List Int)(z z2:Nat→Int)(S F:Nat→List UInt8×List UInt8)(hI:0≤I∧I≤255)(hn:(n:Int)=1+I%3)(hl:at_.length=4)(ha:∀ v∈at_, -32768≤v∧v≤32767)
  (c:∀ i,Cl 12 [.int .i64 (at_.getD i 0),.int .i64 1000] (.agg [.str (S i).1,.str (S i).2]))
  (f:∀ i,Cl 57 [.agg (dce b x z b2 x2 z2 i)] (.agg [.str (F i).1,.str (F i).2])) :
  Cl 28 [drD I O l,.iarr .i16 at_,.agg (dce b x z b2 x2 z2 0++(dce b x z b2 x2 z2 1++(dce b x z b2 x2 z2 2++dce b x z b2 x2 z2 3)))] (.agg [sl2 n (List.take (n*2) [.str (S 0).1,.str (S 0).2,.str (S 1).1,.str (S 1).2,.str (S 2).1,.str (S 2).2]),sl2 n (List.take (n*2) [.str (F 0).1,.str (F 0).2,.str (F 1).1,.str (F 1).2,.str (F 2).1,.str (F 2).2])]):=by
 have ci:=dins_c I O l hI
 refine V.en tbOk Tryz.func28 ?_
 refine V.r1 jii ci ?_
 refine Lp.of ⟨Nat,fun k=>k≤n,fun k=>match k with|0=>[(3,.box 3 0),(4,.box 4 0),(5,.box 5 0),(6,.box 6 0),(7,.box 7 0),(10,.int .i64 (1+I%3)),(11,.int .i64 0)]|k+1=>[(3,.box 3 0),(4,.box 4 0),(5,.box 5 0),(6,.box 6 0),(7,.box 7 0),(10,.int .i64 (1+I%3)),(11,.int .i64 ((k+1:Nat):Int))],fun k=>match k with|0=>[(3,.box [.int .u8 I,.int .u8 O,dsD l]),(4,.arr .i16 at_),(5,.box (dce b x z b2 x2 z2 0++(dce b x z b2 x2 z2 1++(dce b x z b2 x2 z2 2++dce b x z b2 x2 z2 3)))),(6,.box [.nil,.nil]),(7,.box [.nil,.nil])]|k+1=>[(3,.box [.int .u8 I,.int .u8 O,dsD l]),(4,.arr .i16 at_),(5,.box (dce b x z b2 x2 z2 0++(dce b x z b2 x2 z2 1++(dce b x z b2 x2 z2 2++dce b x z b2 x2 z2 3)))),(6,.box [.nil,.nil]),(7,.box [.bsl 22 0 (k+1) 2,.bsl 31 0 (k+1) 2]),(22,.box (List.take ((k+1)*2) [.str (S 0).1,.str (S 0).2,.str (S 1).1,.str (S 1).2,.str (S 2).1,.str (S 2).2])),(31,.box (List.take ((k+1)*2) [.str (F 0).1,.str (F 0).2,.str (F 1).1,.str (F 1).2,.str (F 2).1,.str (F 2).2]))],fun k=>3-k,⟨0,by omega,V.wk⟩,?_⟩
 intro k hk
 have hk5:k=0∨k=1∨k=2∨k=3:=by omega
 rcases hk5 with e|e|e|e
 all_goals subst e
 ·dsimp only
  refine V.r0 jii ?_
  refine V.br (fun hq=>?_) (fun hq=>?_)
  ·simp only[decide_eq_true_eq] at hq
   have ck:=c 0
   have fk:=f 0
   have ga:at_.getD (Int.toNat 0) 0=at_.getD 0 0:=rfl
   refine V.r0 jii ?_
   refine⟨Pq20z,[],V.pok,?_⟩
   refine jas [(22,.bsl 22 0 1 2)] [(7,.box [.bsl 22 0 1 2,.nil]),(22,.box (List.take (1*2) [.str (S 0).1,.str (S 0).2,.str (S 1).1,.str (S 1).2,.str (S 2).1,.str (S 2).2]))] ?_ ?_
   ·exact V.d1 (V.a2 jii ga) ck
   refine V.r0 jii ?_
   refine⟨Pq27z,[],V.pok,?_⟩
   refine jas [(31,.bsl 31 0 1 2)] [(7,.box [.bsl 22 0 1 2,.bsl 31 0 1 2]),(31,.box (List.take (1*2) [.str (F 0).1,.str (F 0).2,.str (F 1).1,.str (F 1).2,.str (F 2).1,.str (F 2).2]))] ?_ ?_
   ·exact V.d1 jii fk
   refine V.r0 jii ?_
   exact⟨0+1,by omega,by omega,V.wk⟩
  ·simp only[decide_eq_false_iff_not] at hq;omega
 ·dsimp only
  refine V.r0 jii ?_
  refine V.br (fun hq=>?_) (fun hq=>?_)
  ·simp only[decide_eq_true_eq] at hq
   have ck:=c 1
   have fk:=f 1
   have ga:at_.getD (Int.toNat 1) 0=at_.getD 1 0:=rfl
   refine V.r0 jii ?_
   refine⟨Pq20z,[],V.pok,?_⟩
   refine jas [(22,.bsl 22 0 2 2)] [(7,.box [.bsl 22 0 2 2,.bsl 31 0 1 2]),(22,.box (List.take (2*2) [.str (S 0).1,.str (S 0).2,.str (S 1).1,.str (S 1).2,.str (S 2).1,.str (S 2).2]))] ?_ ?_
   ·exact V.d1 (V.a2 jii ga) ck
   refine V.r0 jii ?_
   refine⟨Pq27z,[],V.pok,?_⟩
   refine jas [(31,.bsl 31 0 2 2)] [(7,.box [.bsl 22 0 2 2,.bsl 31 0 2 2]),(31,.box (List.take (2*2) [.str (F 0).1,.str (F 0).2,.str (F 1).1,.str (F 1).2,.str (F 2).1,.str (F 2).2]))] ?_ ?_
   ·exact V.d1 jii fk
   refine V.r0 jii ?_
   exact⟨1+1,by omega,by omega,V.wk⟩
  ·simp only[decide_eq_false_iff_not] at hq
   obtain rfl:n=1:=by omega
   refine V.r0 jii ?_
   exact Fin.of rfl
 ·dsimp only
  refine V.r0 jii ?_
  refine V.br (fun hq=>?_) (fun hq=>?_)
  ·simp only[decide_eq_true_eq] at hq
   have ck:=c 2
   have fk:=f 2
   have ga:at_.getD (Int.toNat 2) 0=at_.getD 2 0:=rfl
   refine V.r0 jii ?_
   refine⟨Pq20z,[],V.pok,?_⟩
   refine jas [(22,.bsl 22 0 3 2)] [(7,.box [.bsl 22 0 3 2,.bsl 31 0 2 2]),(22,.box (List.take (3*2) [.str (S 0).1,.str (S 0).2,.str (S 1).1,.str (S 1).2,.str (S 2).1,.str (S 2).2]))] ?_ ?_
   ·exact V.d1 (V.a2 jii ga) ck
   refine V.r0 jii ?_
   refine⟨Pq27z,[],V.pok,?_⟩
   refine jas [(31,.bsl 31 0 3 2)] [(7,.box [.bsl 22 0 3 2,.bsl 31 0 3 2]),(31,.box (List.take (3*2) [.str (F 0).1,.str (F 0).2,.str (F 1).1,.str (F 1).2,.str (F 2).1,.str (F 2).2]))] ?_ ?_
   ·exact V.d1 jii fk
   refine V.r0 jii ?_
   exact⟨2+1,by omega,by omega,V.wk⟩
  ·simp only[decide_eq_false_iff_not] at hq
   obtain rfl:n=2:=by omega
   refine V.r0 jii ?_
   exact Fin.of rfl
 ·dsimp only
  refine V.r0 jii ?_
  refine V.br (fun hq=>?_) (fun hq=>?_)
  ·simp only[decide_eq_true_eq] at hq;omega
  ·simp only[decide_eq_false_iff_not] at hq
   obtain rfl:n=3:=by omega
   refine V.r0 jii ?_
   exact Fin.of rfl
theorem catF_f (p:List Rat)(K:List D→Prop):∀ (n:Nat) (acc:List D),n≤p.length→catF 2 (fun j=>List.take 2 (List.drop (j*2) (fcl p))) n acc K=K (fcl (p.take n)++acc)
 | 0,acc,_=>rfl
 | n+1,acc,h=>by
  unfold catF
  rw[fcl_at p n (by omega)]
  show (match Nat.beq (acc.length+1+1) (acc.length+2) with|true=>catF 2 (fun j=>List.take 2 (List.drop (j*2) (fcl p))) n (.str (decZ (p.getD n 0).num) :: .str (dec (p.getD n 0).den)::acc) K|false=>False)=_
  rw[jip]
  dsimp only
  rw[catF_f p K n _ (by omega),jbF p n 0 (by omega),jgt]
  simp[fcl]
theorem fcl_fr (l:List Rat)(i:Nat):D.freeL i (fcl l)=true:=by
 induction l with
 | nil=>rfl
 | cons q m ih=>simp only[fcl,D.freeL,D.free];exact ih
theorem fcl_pure (l:List Rat):D.pureL (fcl l)=true:=by
 induction l with
 | nil=>rfl
 | cons q m ih=>simp only[fcl,D.pureL,D.pure,ih]
theorem rchk_f {q:Rat}(h:okF q=true):Cl 62 [frT q] (.int .i64 0):=by
 obtain⟨o,e⟩:=jbg h
 have c:=jf6 (decZ q.num) (dec q.den) (ja9 o).1 (ja9 o).2
 rw[if_pos o] at c
 exact c
theorem stM_F (x l:List Rat)(o:Int×Int):stM mF x o l=putM (l.take (l.length-(tkn o.1).toNat)) (stF x l o):=by
 unfold stM stF
 by_cases h1:o.1=1
 ·rw[if_pos h1,if_pos h1,h1]
  show _=putM (l.take (l.length-0)) _
  rw[Nat.sub_zero,jjs]
  rfl
 ·by_cases h2:o.1=2
  ·rw[if_neg h1,if_neg h1,if_pos h2,if_pos h2,h2]
   show _=putM (l.take (l.length-0)) _
   rw[Nat.sub_zero,jjs]
   rfl
  ·by_cases h3:o.1=11
   ·rw[if_neg h1,if_neg h1,if_neg h2,if_neg h2,if_pos h3,if_pos h3,h3]
    show _=putM (l.take (l.length-0)) _
    rw[Nat.sub_zero,jjs]
    rfl
   ·rw[if_neg h1,if_neg h1,if_neg h2,if_neg h2,if_neg h3,if_neg h3]
theorem stF_good (x l:List Rat)(c a:Int)(okx:∀ b∈x,okF b=true)(okl:∀ b∈l,okF b=true)(hc:tkb c=true)(ht:tkn c≤l.length)(h1:loA c≤a)(h2:a≤hiA c x.length l.length):(stF x l (c,a)).2=0→okF (stF x l (c,a)).1=true:=by
 have h:c=1∨c=2∨c=3∨c=4∨c=5∨c=6∨c=7∨c=8∨c=9∨c=10∨c=11∨c=12:=by unfold tkb at hc;simp only[decide_eq_true_eq] at hc;omega
 have two:∀ r:Rat,stF x l (c,a)=(r,cond (okF r) 0 6)→(stF x l (c,a)).2=0→okF (stF x l (c,a)).1=true:=fun r e=>by
  rw[e]
  dsimp only
  cases okF r with
  | true=>exact fun _=>rfl
  | false=>exact fun h=>absurd h (by decide)
 have d2:2≤l.length→(tkn c).toNat=2→mF.op c (l.drop (l.length-(tkn c).toNat))=opF c [l.getD (l.length-2) 0,l.getD (l.length-1) 0]:=fun h e=>by
  rw[e,je6 l 0 h];rfl
 have d1:1≤l.length→(tkn c).toNat=1→mF.op c (l.drop (l.length-(tkn c).toNat))=opF c [l.getD (l.length-1) 0]:=fun h e=>by
  rw[e,jhc l 0 h];rfl
 rcases h with rfl|rfl|rfl|rfl|rfl|rfl|rfl|rfl|rfl|rfl|rfl|rfl
 ·have h1:0≤a:=h1
  have h2:a≤(x.length:Int)-1:=h2
  exact fun _=>ja8 okx (by omega)
 ·have h1 : -1000000000≤a:=h1
  have h2:a≤1000000000:=h2
  exact fun _=>jgV a ⟨h1,h2⟩
 ·have ht:(2:Int)≤l.length:=ht
  exact two _ (d2 (by omega) rfl)
 ·have ht:(2:Int)≤l.length:=ht
  exact two _ (d2 (by omega) rfl)
 ·have ht:(2:Int)≤l.length:=ht
  exact two _ (d2 (by omega) rfl)
 ·have ht:(2:Int)≤l.length:=ht
  exact two _ (d2 (by omega) rfl)
 ·have ht:(2:Int)≤l.length:=ht
  exact two _ (d2 (by omega) rfl)
 ·have ht:(1:Int)≤l.length:=ht
  exact fun _=>by rw[show stF x l (8,a)=_ from d1 (by omega) rfl];exact jdW (ja8 okl (by omega))
 ·have ht:(1:Int)≤l.length:=ht
  exact fun _=>by rw[show stF x l (9,a)=_ from d1 (by omega) rfl];exact jdX (ja8 okl (by omega))
 ·have ht:(3:Int)≤l.length:=ht
  intro _
  have e:stF x l (10,a)=opF 10 [l.getD (l.length-3) 0,l.getD (l.length-2) 0,l.getD (l.length-1) 0]:=by
   show mF.op 10 (l.drop (l.length-3))=_
   rw[drop_3 l 0 (by omega)]
   rfl
  rw[e]
  exact jgW (ja8 okl (by omega)) (ja8 okl (by omega))
 ·have h1:0≤a:=h1
  have h2:a≤(l.length:Int)-1:=h2
  exact fun _=>ja8 okl (by omega)
 ·have ht:(1:Int)≤l.length:=ht
  exact fun _=>by rw[show stF x l (12,a)=_ from d1 (by omega) rfl];exact(jhO (jaS (ja8 okl (by omega))) (by omega)).ok (by omega) (by omega)
theorem rrun_v (p:List (Int×Int))(x:List Rat)(o d:Int)(okx:∀ q∈x,okF q=true)(hs:surv p x.length o=some d):Cl 36 [opsD p,inF x,.int .i64 o] (resF (rnM mF x p [])):=by
 have rr:=rright_c p x.length o
 rw[hs] at rr
 have rr:Cl 61 [opsD p,.int .i64 x.length,.int .i64 o] (.bool true):=rr
 have hb:1≤(x.length:Int)∧(x.length:Int)≤4∧1≤o∧o≤4∧p.length≤40∧svL x.length (0,0) p=some (o,d):=by
  unfold surv at hs
  split at hs
  case isFalse=>cases hs
  rename_i h
  refine⟨h.1,h.2.1,h.2.2.1,h.2.2.2.1,h.2.2.2.2,?_⟩
  split at hs
  case h_2=>cases hs
  rename_i e
  split at hs
  case isFalse=>cases hs
  rename_i ho
  cases hs
  rw[e,ho]
 have fc:∀ k,k<x.length→Cl 62 [.agg [.str (decZ (x.getD k 0).num),.str (dec (x.getD k 0).den)]] (.int .i64 0):=fun k hk=>rchk_f (ja8 okx hk)
 refine V.en tbOk Tryz.func36 ?_
 refine V.r1 @jiA rr ?_
 refine jaf ((0:Nat)) (fun k=>k≤x.length) (fun k=>x.length-k) (fun k=>[(8,.int .i64 k)]) (fun k=>[]) ?_ ?_ ?_
 ·exact V.wk
 ·exact jit _
 intro k hk
 have hkc:((k:Int)+1)=((k+1:Nat):Int):=by omega
 (conv=>whnf)
 refine V.st ?_
 refine V.br (fun hq=>?_) (fun hq=>?_)
 ·simp only[decide_eq_true_eq] at hq
  have f1:=fc k (by omega)
  refine V.r1 (V.a2 @jiA hkc) f1 ?_
  exact⟨k+1,by omega,by omega,V.wk⟩
 clear hq hkc hk
 refine V.r0 @jiA ?_
 refine Lp.of ⟨Nat×List Rat,fun s=>s.1≤p.length∧rnM mF x (p.take s.1) [] = .ok s.2∧(∃ d,svL x.length (0,0) (p.take s.1)=some ((s.2.length:Int),d))∧(∀ q∈s.2,okF q=true),fun s=>[(0,opsD p),(1,inF x),(10,fL s.2),(11,.int .i64 s.1)],fun _=>[],fun s=>p.length-s.1,⟨(0,[]),⟨jit _,rfl,⟨0,rfl⟩,fun _ h=>absurd h jjr⟩,Wk.nilS 10 2 (fun j=>List.take 2 (List.drop (j*2) [])) rfl V.wk⟩,?_⟩
 rintro⟨k2,l⟩ ⟨hk2,hr,⟨d2,hd2⟩,okl⟩
 dsimp only at hk2 hr hd2 okl ⊢
 have hbd:=jgE hd2 (by simp)
 dsimp only at hbd
 have hkc:((k2:Int)+1)=((k2+1:Nat):Int):=by omega
 refine V.r0 @jiA ?_
 refine V.br (fun hq=>?_) (fun hq=>?_)
 case refine_2=>
  simp only[decide_eq_false_iff_not] at hq
  obtain rfl:k2=p.length:=by omega
  rw[jjs] at hr
  rw[hr]
  refine V.r0 @jiA ?_
  exact Fin.of rfl
 simp only[decide_eq_true_eq] at hq
 have hkl:k2<p.length:=by omega
 have hsn:=jek x.length p k2 hkl
 rw[hd2] at hsn
 dsimp only at hsn
 have rs:=jf4 mF x p k2 hkl
 rw[hr] at rs
 dsimp only at rs
 obtain⟨c,a,hca⟩:∃ c a,p.getD k2 (0,0)=(c,a):=⟨_,_,rfl⟩
 rw[hca] at hsn rs
 cases hss:svS x.length ((l.length:Int),d2) (c,a) with
 | none=>
  rw[hss] at hsn
  rw[jdo hsn] at hb
  cases hb.2.2.2.2.2
 | some s'=>
  have hss2:=hss
  unfold svS at hss2
  split at hss2
  case isFalse=>cases hss2
  rename_i hcc
  clear hss2
  obtain⟨g1,g2,g3,g4,g5⟩:=hcc
  dsimp only at g1 g2 g3 g4 g5
  have tb:=jeB c
  have l16:l.length≤16:=by omega
  have st:=arg3 (rstep_f x l c a (by omega) okl g1 g2 g3 g4) (Fin.same _) (Fin.same _) (fin_f l)
  have gd:=stF_good x l c a okx okl g1 g2 g3 g4
  have tk:=rtk g1
  rw[stM_F] at rs
  obtain⟨r,hrr⟩:∃ r,r=stF x l (c,a):=⟨_,rfl⟩
  rw[← hrr] at st gd rs
  obtain⟨y,e⟩:=r
  have hE:=hrr.symm
  dsimp only at st gd rs
  obtain⟨m,hm⟩:∃ m:Nat,m=l.length-(tkn c).toNat:=⟨_,rfl⟩
  rw[← hm] at rs
  have hmi:(l.length:Int)-tkn c=(m:Int):=by omega
  have hml:m≤l.length:=by omega
  clear hrr
  by_cases he:e=0
  ·subst he
   have st:Cl 63 [.agg [.int .i64 c,.int .i64 a],inF x,fL l] (.tup [.agg [.str (decZ y.num),.str (dec y.den)],.int .i64 0]):=st
   have hrs:rnM mF x (p.take (k2+1)) [] = .ok (l.take m++[y]):=by rw[rs];rfl
   have hln:=jfZ hss rfl (show stM mF x (c,a) l = .ok (l.take m++[y]) by rw[stM_F,← hm,hE];rfl)
   refine V.r2 (V.a2 @jiA hca) st tk ?_
   have hE2:stF x l (c,a)=(y,0):=hE
   have okl':∀ q∈l.take m++[y],okF q=true:=jcD (fun q hq=>okl q (jjf hq)) (gd rfl)
   have hll:(l.take m).length=m:=by rw[ji9];omega
   have hl1:(l.take m++[y]).length=m+1:=by rw[ji8,hll];rfl
   have hnext:∃ z9:Nat×List Rat,((fun s:Nat×List Rat=>s.1≤p.length∧rnM mF x (p.take s.1) [] = .ok s.2∧(∃ d,svL x.length (0,0) (p.take s.1)=some ((s.2.length:Int),d)) ∧ ∀ q∈s.2,okF q=true) z9)∧z9=(k2+1,l.take m++[y]):=⟨_,⟨by dsimp only;omega,hrs,⟨s'.2,by rw[hsn,hss];exact congrArg some (Prod.ext hln rfl)⟩,okl'⟩,rfl⟩
   obtain⟨yy,hinv,hyy⟩:=hnext
   have pgm:=jbI (l.take m)
   have pum:=fcl_pure (l.take m)
   have pbm:=jhQ (l.take m)
   have frm:=fcl_fr (l.take m)
   have e2:fcl (l.take m++[y])=fcl (l.take m)++[.str (decZ y.num),.str (dec y.den)]:=jgt (l.take m) [y]
   have bof:=jhR (l.take m++[y])
   have pbf:=jhQ (l.take m++[y])
   rw[hl1,e2] at bof
   rw[e2] at pbf
   have hi1:InR .i64 ((k2:Int)+1):=by have:=hb.2.2.2.2.1;simp only[InR,V.lo,V.hi];omega
   have hi2:InR .i64 ((k2+1:Nat):Int):=by have:=hb.2.2.2.2.1;simp only[InR,V.lo,V.hi];omega
   by_cases hm0:m=0
   ·subst hm0
    refine V.r1 (V.a4 @jiA hca hmi hkc) tk ?_
    refine And.intro (fun _ _ _=>hi1) ?_
    (conv=>whnf)
    try simp only[hkc]
    refine⟨yy,hinv,by rw[hyy];dsimp only;omega,?_⟩
    rw[hyy]
    dsimp only
    refine Wk.pub 70 ?_
    (conv=>whnf)
    simp only[jiy]
    exact V.wk
   ·have hbm:Nat.beq m 0=false:=by
     cases e:Nat.beq m 0 with
     | false=>rfl
     | true=>exact absurd (jiq e) hm0
    have hcm:∀ K,catF 2 (fun j=>List.take 2 (List.drop (j*2) (fcl l))) m [] K=K (fcl (l.take m)):=fun K=>by rw[catF_f l K m [] hml,jjk]
    have hzm:Nat.ble m 1000000=true:=by rw[ji0];omega
    have hzn:Nat.ble (m+1) 1000000=true:=by rw[ji0];omega
    have hbl:Nat.beq (fcl (l.take m)).length (m*2)=true:=by rw[jb7,hll];exact jip _
    have fr2:=jbB (l.take m) (decZ y.num) (dec y.den)
    obtain⟨B,hB⟩:∃ B,B=fcl (l.take m):=⟨_,rfl⟩
    simp only[← hB] at pgm pum pbm frm bof pbf hcm hbl fr2 e2
    (conv=>whnf)
    (try simp only[jiz,jiA,hca,hmi,hkc,hzm,frm])
    repeat ((first|refine V.s1 ?_|((try ((with_reducible refine .ext ?_);(conv=>whnf);(try simp only[jiz,jiA,hca,hmi,hkc,hzm,frm])));(with_reducible refine jaa (r:=?_) ?_ ?_);rotate_left;(focus (first|exact(tk)));(conv=>whnf))|(((rewrite [hbm];(conv=>whnf)));(conv=>whnf))|(((rewrite [hcm];(conv=>whnf)));(conv=>whnf))|(((rewrite [pum];(conv=>whnf)));(conv=>whnf))|(((rewrite [pgm];(conv=>whnf)));(conv=>whnf))|(((simp only[hbl,hzn,jju,fr2];(conv=>whnf)));(conv=>whnf)));(try simp only[jiz,jiA,hca,hmi,hkc,hzm,frm]))
    refine⟨yy,hinv,by rw[hyy];dsimp only;omega,?_⟩
    rw[hyy]
    dsimp only
    have eo:fL (l.take m++[y])=sl2 (m+1) (B++[.str (decZ y.num),.str (dec y.den)]):=by unfold fL;rw[hl1,e2]
    rw[eo]
    refine Wk.pub 70 ?_
    (conv=>whnf)
    repeat (first|(rewrite [bof];(conv=>whnf))|(rewrite [pbf];(conv=>whnf))|(rewrite [pbm];(conv=>whnf)))
    simp only[jiy]
    exact V.wk
  ·have hrs:rnM mF x p [] = .error e:=jhy (k:=k2+1) (by rw[rs];unfold putM;rw[if_neg he])
   rw[hrs]
   refine V.r2 (V.a2 @jiA hca) st tk ?_
   refine Cnd.yes (decide_eq_true he) ?_
   refine V.r0 @jiA ?_
   exact Fin.of rfl
theorem rrun_o (p:List (Int×Int))(x:List Rat)(o d:Int)(okx:∀ q∈x,okF q=true)(hs:surv p x.length o=some d):Cl 36 [oL p,fL x,.int .i64 o] (resF (rnM mF x p [])):=
 arg3 (rrun_v p x o d okx hs) (fin_o p) (fin_f x) (Fin.same _)
theorem rrun_no (p:List (Int×Int))(n:Nat)(f:Nat→List D)(o:Int)(hs:surv p n o=none):Cl 36 [oL p,.slf 2 n f,.int .i64 o] (.tup [.nil,.int .i64 120]):=by
 have c:=rright_o p n o
 rw[hs] at c
 have c:Cl 61 [oL p,.int .i64 n,.int .i64 o] (.bool false):=c
 refine V.en tbOk Tryz.func36 ?_
 (conv=>whnf)
 (conv=>whnf)
 (try simp only[])
 repeat ((first|refine V.s1 ?_|((try ((with_reducible refine .ext ?_);(conv=>whnf);(try simp only[])));(with_reducible refine jaa (r:=?_) ?_ ?_);rotate_left;(focus (first|exact(c)));(conv=>whnf)));(try simp only[]))
 exact Fin.of rfl
theorem rrun_bad (p:List (Int×Int))(n m:Nat)(X:Nat→List UInt8×List UInt8)(o d e:Int)(hs:surv p n o=some d)(hm:m<n)(he:e≠0)(h1:∀ k,k<m→Cl 62 [.agg [.str (X k).1,.str (X k).2]] (.int .i64 0))(h2:Cl 62 [.agg [.str (X m).1,.str (X m).2]] (.int .i64 e)) :
  Cl 36 [oL p,.slf 2 n (fun j=>[.str (X j).1,.str (X j).2]),.int .i64 o] (.tup [.nil,.int .i64 e]):=by
 have c:=rright_o p n o
 rw[hs] at c
 have c:Cl 61 [oL p,.int .i64 n,.int .i64 o] (.bool true):=c
 have hn:(n:Int)≤4:=by
  unfold surv at hs
  split at hs
  case isFalse=>cases hs
  rename_i h
  exact h.2.1
 refine V.en tbOk Tryz.func36 ?_
 refine V.r1 @jiA c ?_
 refine jaf ((0:Nat)) (fun k=>k≤m) (fun k=>m-k) (fun k=>[(8,.int .i64 k)]) (fun k=>[]) ?_ ?_ ?_
 ·exact V.wk
 ·exact jit _
 intro k hk
 have hkc:((k:Int)+1)=((k+1:Nat):Int):=by omega
 (conv=>whnf)
 refine V.st ?_
 refine Cnd.yes (by simp only[decide_eq_true_eq];omega) ?_
 by_cases hkm:k=m
 ·subst hkm
  refine V.r1 (V.a2 @jiA hkc) h2 ?_
  refine Cnd.yes (decide_eq_true he) ?_
  refine V.r0 @jiA ?_
  exact Fin.of rfl
 ·have f1:=h1 k (by omega)
  refine V.r1 (V.a2 @jiA hkc) f1 ?_
  exact⟨k+1,by omega,by omega,V.wk⟩
theorem first_bad {α:Type}(l:List α)(d:α)(P:α→Prop)[DecidablePred P]:(∀ q∈l,P q) ∨ ∃ m,m<l.length∧(∀ k,k<m→P (l.getD k d)) ∧ ¬ P (l.getD m d):=by
 induction l with
 | nil=>exact .inl fun q h=>absurd h jjr
 | cons a l ih=>
  by_cases ha:P a
  ·rcases ih with h|⟨m,h1,h2,h3⟩
   ·exact .inl fun q hq=>by
     rcases ji5.1 hq with rfl|hq
     ·exact ha
     ·exact h q hq
   ·refine .inr ⟨m+1,by simpa using h1,fun k hk=>?_,h3⟩
    cases k with
    | zero=>exact ha
    | succ k=>exact h2 k (by omega)
  ·exact .inr ⟨0,by simp,fun k hk=>absurd hk (Nat.not_lt_zero _),ha⟩
abbrev tL (X:List (List UInt8×List UInt8)):D := .slf 2 X.length (fun j=>[.str (X.getD j ([],[])).1,.str (X.getD j ([],[])).2])
theorem okF_txt {s t:List UInt8}(h:okP s t=true)(hs:s.length≤20)(ht:t.length≤20):okF (qv s t)=true:=by
 obtain⟨e1,e2⟩:=okP_text h
 have h1:(dec (qv s t).num.natAbs).length≤20:=by
  rw[← e1] at hs
  unfold decZ at hs
  split at hs
  ·simp only[jji] at hs;omega
  ·exact hs
 have h2:(dec (qv s t).den).length≤20:=by rw[e2];exact ht
 unfold okF
 rw[decide_eq_true (by omega:(dec (qv s t).num.natAbs).length≤600),decide_eq_true (by omega:(dec (qv s t).den).length≤600)]
 rfl
theorem both_q (P:List (Int×Int))(Y:List Rat)(n d:Int)(okx:∀ q∈Y,okF q=true)(hs:surv P Y.length n=some d):∃ (r:List Rat) (e:Int),r.length≤40∧Cl 20 [oL P,fL Y,.int .i64 n] (.tup [fL r,.int .i64 e])∧Cl 36 [oL P,fL Y,.int .i64 n] (.tup [fL r,.int .i64 e]):=by
 have fn:∀ e:Int,Fin (.tup [fL [],.int .i64 e]) (.tup [.nil,.int .i64 e]):=fun e=>Fin.tup ⟨jcJ _ _,Fin.of rfl,trivial⟩
 have c1:=run_o P Y n d okx hs
 have c2:=rrun_o P Y n d okx hs
 cases hr:rnM mF Y P [] with
 | ok l=>
  rw[hr] at c1 c2
  have hl:=surv_len hs hr
  have:=(surv_out hs).1
  exact⟨l,0,by omega,c1,c2⟩
 | error e=>
  rw[hr] at c1 c2
  exact⟨[],e,by simp,Called.fin c1 (fn _),Called.fin c2 (fn _)⟩
theorem both_f (P:List (Int×Int))(X:List (List UInt8×List UInt8))(n:Int)(hX:∀ q∈X,q.1.length≤20∧q.2.length≤20):∃ (r:List Rat) (e:Int),r.length≤40∧Cl 20 [oL P,tL X,.int .i64 n] (.tup [fL r,.int .i64 e])∧Cl 36 [oL P,tL X,.int .i64 n] (.tup [fL r,.int .i64 e]):=by
 have fn:∀ e:Int,Fin (.tup [fL [],.int .i64 e]) (.tup [.nil,.int .i64 e]):=fun e=>Fin.tup ⟨jcJ _ _,Fin.of rfl,trivial⟩
 have at_:∀ k,k<X.length→X.getD k ([],[])∈X:=fun k hk=>by
  rw[ji3,ji6 hk]
  exact ji7 hk
 cases hs:surv P X.length n with
 | none=>exact⟨[],120,by simp,(run_no P X.length _ n hs).fin (fn _),(rrun_no P X.length _ n hs).fin (fn _)⟩
 | some d=>
  rcases first_bad X ([],[]) (fun q=>okP q.1 q.2=true) with okx|⟨m,hm,h1,h2⟩
  ·have hl:(X.map fun q=>qv q.1 q.2).length=X.length:=List.length_map _
   obtain⟨r,e,hr,c1,c2⟩:=both_q P (X.map fun q=>qv q.1 q.2) n d (fun q hq=>by
    obtain⟨x,hx,rfl⟩:=List.mem_map.1 hq
    exact okF_txt (okx x hx) (hX x hx).1 (hX x hx).2) (by rw[hl];exact hs)
   have f:Fin (fL (X.map fun q=>qv q.1 q.2)) (tL X):=by
    show Fin (.slf 2 (X.map fun q=>qv q.1 q.2).length (fun j=>List.take 2 (List.drop (j*2) (fcl (X.map fun q=>qv q.1 q.2))))) _
    rw[hl]
    refine jdk fun j hj=>?_
    rw[fcl_at _ j (by omega)]
    have e:(X.map fun q=>qv q.1 q.2).getD j 0=qv (X.getD j ([],[])).1 (X.getD j ([],[])).2:=by
     rw[ji3,List.getElem?_map,ji3,ji6 hj]
     rfl
    obtain⟨e1,e2⟩:=okP_text (okx _ (at_ j hj))
    rw[e,e1,e2]
   exact⟨r,e,hr,arg3 c1 (Fin.same _) f (Fin.same _),arg3 c2 (Fin.same _) f (Fin.same _)⟩
  ·have len:∀ k,k<X.length→(X.getD k ([],[])).1.length≤281474976710656∧(X.getD k ([],[])).2.length≤281474976710656:=fun k hk=>by
    have:=hX _ (at_ k hk)
    omega
   have k1:∀ k,k<m→Cl 47 [.agg [.str (X.getD k ([],[])).1,.str (X.getD k ([],[])).2]] (.int .i64 0):=fun k hk=>by
    have c:=jgu (X.getD k ([],[])).1 (X.getD k ([],[])).2 (len k (by omega)).1 (len k (by omega)).2
    rw[if_pos (h1 k hk)] at c
    exact c
   have k2:Cl 47 [.agg [.str (X.getD m ([],[])).1,.str (X.getD m ([],[])).2]] (.int .i64 20):=by
    have c:=jgu (X.getD m ([],[])).1 (X.getD m ([],[])).2 (len m hm).1 (len m hm).2
    rw[if_neg h2] at c
    exact c
   have r1:∀ k,k<m→Cl 62 [.agg [.str (X.getD k ([],[])).1,.str (X.getD k ([],[])).2]] (.int .i64 0):=fun k hk=>by
    have c:=jf6 (X.getD k ([],[])).1 (X.getD k ([],[])).2 (len k (by omega)).1 (len k (by omega)).2
    rw[if_pos (h1 k hk)] at c
    exact c
   have r2:Cl 62 [.agg [.str (X.getD m ([],[])).1,.str (X.getD m ([],[])).2]] (.int .i64 20):=by
    have c:=jf6 (X.getD m ([],[])).1 (X.getD m ([],[])).2 (len m hm).1 (len m hm).2
    rw[if_neg h2] at c
    exact c
   exact⟨[],20,by simp,(run_bad P X.length m (fun j=>X.getD j ([],[])) n d 20 hs hm (by decide) k1 k2).fin (fn _),(rrun_bad P X.length m (fun j=>X.getD j ([],[])) n d 20 hs hm (by decide) r1 r2).fin (fn _)⟩
def tcl:List (List UInt8×List UInt8)→List D
 | []=>[]
 | q::l => .str q.1 :: .str q.2::tcl l
theorem tcl_len:∀ l,(tcl l).length=l.length*2
 | []=>rfl
 | q::l=>by simp only[tcl,jji,tcl_len l];omega
theorem tcl_at:∀ (l:List (List UInt8×List UInt8)) (j:Nat),j<l.length→List.take 2 (List.drop (j*2) (tcl l))=[.str (l.getD j ([],[])).1,.str (l.getD j ([],[])).2]
 | q::l,0,_=>rfl
 | q::l,j+1,h=>by
  rw[show (j+1)*2=j*2+1+1 by omega]
  exact tcl_at l j (by simpa using h)
theorem tcl_pure (l:List (List UInt8×List UInt8)):D.pureL (tcl l)=true:=by
 induction l with
 | nil=>rfl
 | cons q m ih=>simp only[tcl,D.pureL,D.pure,ih]
theorem tcl_fr (l:List (List UInt8×List UInt8))(i:Nat):D.freeL i (tcl l)=true:=by
 induction l with
 | nil=>rfl
 | cons q m ih=>simp only[tcl,D.freeL,D.free];exact ih
theorem tcl_pubL (l:List (List UInt8×List UInt8))(i:Nat)(c:Chunk):pubL i c (tcl l)=tcl l:=by
 induction l with
 | nil=>rfl
 | cons q m ih=>simp only[tcl,pubL,pubD,ih]
theorem tcl_pub (l:List (List UInt8×List UInt8))(i:Nat)(c:Chunk)(K:List D→Prop):pubLK i c (tcl l) K=K (tcl l):=by rw[ja5,tcl_pubL]
theorem tcl_app (l m:List (List UInt8×List UInt8)):tcl (l++m)=tcl l++tcl m:=by
 induction l with
 | nil=>rfl
 | cons q r ih=>simp only[ji1,tcl,ih]
theorem tcl_bsl (l:List (List UInt8×List UInt8)):bslOk (tcl l) 0 l.length 2=true:=by
 unfold bslOk
 rw[tcl_pure]
 dsimp only
 rw[ji0,tcl_len];omega
theorem tcl_pg (l:List (List UInt8×List UInt8))(i:Nat)(K:List D→Prop):jbR i (tcl l) K=K (tcl l):=by
 have e:∀ m:List (List UInt8×List UInt8),jbw i (tcl m)=tcl m:=fun m=>by
  induction m with
  | nil=>rfl
  | cons q m ih=>simp only[tcl,jbw,D.free,ih]
 rw[jcC,e]
theorem catF_t (p:List (List UInt8×List UInt8))(K:List D→Prop):∀ (n:Nat) (acc:List D),n≤p.length→catF 2 (fun j=>List.take 2 (List.drop (j*2) (tcl p))) n acc K=K (tcl (p.take n)++acc)
 | 0,acc,_=>rfl
 | n+1,acc,h=>by
  unfold catF
  rw[tcl_at p n (by omega)]
  show (match Nat.beq (acc.length+1+1) (acc.length+2) with|true=>catF 2 (fun j=>List.take 2 (List.drop (j*2) (tcl p))) n (.str (p.getD n ([],[])).1 :: .str (p.getD n ([],[])).2::acc) K|false=>False)=_
  rw[jip]
  dsimp only
  rw[catF_t p K n _ (by omega),jbF p n ([],[]) (by omega),tcl_app]
  simp[tcl]
theorem tcl_n1 (K:D→Prop):∀ (l:List (List UInt8×List UInt8)) (k:Nat),k<l.length→nthK (tcl l) (k*2) K=K (.str (l.getD k ([],[])).1)
 | q::l,0,_=>rfl
 | q::l,k+1,h=>by
  rw[show (k+1)*2=k*2+1+1 by omega]
  exact tcl_n1 K l k (by simpa using h)
theorem tcl_n2 (K:D→Prop):∀ (l:List (List UInt8×List UInt8)) (k:Nat),k<l.length→nthK (tcl l) (k*2+1) K=K (.str (l.getD k ([],[])).2)
 | q::l,0,_=>rfl
 | q::l,k+1,h=>by
  rw[show (k+1)*2+1=k*2+1+1+1 by omega]
  exact tcl_n2 K l k (by simpa using h)
theorem tcl_s1 (s:List UInt8):∀ (K:List D→Prop) (l:List (List UInt8×List UInt8)) (k:Nat),k<l.length→jaR (tcl l) (k*2) [.str s] K=K (tcl (l.set k (s,(l.getD k ([],[])).2)))
 | _,[],_,h=>absurd h (by simp)
 | K,u::p,0,_=>by
  show jaR (.str u.1 :: .str u.2::tcl p) 0 [.str s] K=_
  simp only[jaR]
  rfl
 | K,u::p,k+1,h=>by
  rw[show (k+1)*2=k*2+1+1 by omega]
  show jaR (tcl p) (k*2) _ _=_
  rw[tcl_s1 s _ p k (by simpa using h)]
  rfl
theorem tcl_s2 (s:List UInt8):∀ (K:List D→Prop) (l:List (List UInt8×List UInt8)) (k:Nat),k<l.length→jaR (tcl l) (k*2+1) [.str s] K=K (tcl (l.set k ((l.getD k ([],[])).1,s)))
 | _,[],_,h=>absurd h (by simp)
 | K,u::p,0,_=>by
  show jaR (tcl p) 0 [] _=_
  cases h:tcl p<;>simp only[jaR,List.set_cons_zero,tcl,h]<;>rfl
 | K,u::p,k+1,h=>by
  rw[show (k+1)*2+1=k*2+1+1+1 by omega]
  show jaR (tcl p) (k*2+1) _ _=_
  rw[tcl_s2 s _ p k (by simpa using h)]
  rfl
end Go.Proofs.YtpkdedncgclblaaGreatDoor
end
section
namespace Go.Proofs.YtpkdedncgclblaaGreatDoor
open Go Go.V Go.Nb Go.RowKit
def rawL:List Lf:=[.recs [.str,.str]]
theorem raw_of {n:Nat}{f:Nat→List D}(h:∀ j,j<n→l0sD [.str,.str] (f j)):∃ l:List (List UInt8×List UInt8),l.length=n∧(∀ j,j<n→f j=[.str (l.getD j ([],[])).1,.str (l.getD j ([],[])).2]) ∧ ∀ s∈l,s.1.length≤281474976710656∧s.2.length≤281474976710656:=by
 induction n with
 | zero=>exact⟨[],rfl,fun j hj=>absurd hj (Nat.not_lt_zero _),fun s hs=>by simp at hs⟩
 | succ n ih=>
  obtain⟨l,h1,h2,h3⟩:=ih (fun j hj=>h j (by omega))
  obtain⟨d,ds,e1,⟨a,ea,ha⟩,d2,ds2,e2,⟨b,eb,hb⟩,e3⟩:=h n (by omega)
  subst e3 e2 ea eb
  refine⟨l++[(a,b)],by simp[h1],fun j hj=>?_,fun s hs=>?_⟩
  ·rcases jiI j n with g|g
   ·rw[h2 j g]
    simp only[ji3,jjc (show j<l.length by omega)]
   ·obtain rfl:j=n:=by omega
    rw[e1]
    simp only[ji3,jjm (show l.length≤j by omega),show j-l.length=0 by omega]
    rfl
  ·rcases jjh.1 hs with g|g
   ·exact h3 s g
   ·rw[List.mem_singleton.1 g]
    exact⟨ha,hb⟩
theorem raw_den {w:World}{v:Value}(h:leavesOk w rawL [v]):∃ R:List (List UInt8×List UInt8),Den Env.dummy (pubOf w) (sl2 R.length (tcl R)) v∧R.length≤281474976710656 ∧ ∀ s∈R,s.1.length≤281474976710656∧s.2.length≤281474976710656:=by
 obtain⟨v0,r0,e0,⟨n,f,hd,hn,hf⟩,e1⟩:=h
 subst e1
 simp only[List.cons.injEq,and_true] at e0
 subst e0
 obtain⟨l,l1,l2,l3⟩:=raw_of hf
 subst l1
 exact⟨l,jgK (fun j hj=>by rw[l2 j hj,tcl_at l j hj]) hd,by omega,l3⟩
end Go.Proofs.YtpkdedncgclblaaGreatDoor
end
section
namespace Go.Proofs.YtpkdedncgclblaaGreatDoor
open Go Go.V Go.Nb
def th (n:Int):Rat:=Rat.divInt n 1000
theorem fq_th {n:Int}(h : -32768≤n∧n≤32768):Fq 20 (th n):=jdO (by omega) (by omega)
section
variable {a b : Rat}
end
theorem jaZ (P:List (Int×Int))(Y:List Rat)(n:Int)(okx:∀ q∈Y,okF q=true):∃ (r:List Rat) (e:Int),r.length≤40∧Cl 20 [oL P,fL Y,.int .i64 n] (.tup [fL r,.int .i64 e])∧Cl 36 [oL P,fL Y,.int .i64 n] (.tup [fL r,.int .i64 e]):=by
 cases hs:surv P Y.length n with
 | some d=>exact both_q P Y n d okx hs
 | none=>
  have fn:Fin (.tup [fL [],.int .i64 120]) (.tup [.nil,.int .i64 120]):=Fin.tup ⟨jcJ _ _,Fin.of rfl,trivial⟩
  exact⟨[],120,by simp,(run_no P Y.length _ n hs).fin fn,(rrun_no P Y.length _ n hs).fin fn⟩
theorem jfN (I O : Int) (l : List (Int × Int)) (at_ : List Int) (b b2 : Nat → Bool) (x x2 : Nat → List Int) (z z2 : Nat → Int) (hI : 0 ≤ I ∧ I ≤ 255) (hat : at_.length = 4) (hab : ∀ v ∈ at_, -32768 ≤ v ∧ v ≤ 32767) (hz : ∀ i, 0 ≤ z i ∧ z i ≤ 65535) (hz2 : ∀ i, 0 ≤ z2 i ∧ z2 i ≤ 65535) :
    ∃ Y0 Y1 : List Rat, (∀ q ∈ Y0, okF q = true) ∧ (∀ q ∈ Y1, okF q = true) ∧ Cl 28 [drD I O l, .iarr .i16 at_, .agg (dce b x z b2 x2 z2 0 ++ (dce b x z b2 x2 z2 1 ++ (dce b x z b2 x2 z2 2 ++ dce b x z b2 x2 z2 3)))] (.agg [fL Y0, fL Y1]) := by
  obtain ⟨n, hn⟩ : ∃ n : Nat, (n : Int) = 1 + I % 3 := ⟨(1 + I % 3).toNat, by omega⟩
  have hn3 : n = 1 ∨ n = 2 ∨ n = 3 := by omega
  have th_ok : ∀ i, okF (th (at_.getD i 0)) = true := fun i => (fq_th (by have := getD_bd hab i; omega)).ok (by omega) (by omega)
  have oc : ∀ i, Cl 12 [.int .i64 (at_.getD i 0), .int .i64 1000] (.agg [.str (decZ (th (at_.getD i 0)).num), .str (dec (th (at_.getD i 0)).den)]) := fun i => jdz (by have := getD_bd hab i; omega) (by omega)
  obtain ⟨q, hq⟩ := Classical.axiomOfChoice (fun i => dfrac_c (b i) (x i) (z i) (b2 i) (x2 i) (z2 i) (hz i) (hz2 i))
  have qo := fun i => (hq i).1
  have inp := inputs_c I O l at_ n b b2 x x2 z z2 (fun i => (decZ (th (at_.getD i 0)).num, dec (th (at_.getD i 0)).den)) (fun i => (decZ (q i).num, dec (q i).den)) hI hn hat hab oc (fun i => (hq i).2)
  rcases hn3 with rfl | rfl | rfl
  · exact ⟨[th (at_.getD 0 0)], [q 0], fun r hr => by
      simp only [ji5, jjr, or_false] at hr
      rcases hr with rfl <;> exact th_ok _, fun r hr => by
      simp only [ji5, jjr, or_false] at hr
      rcases hr with rfl <;> exact qo _, inp⟩
  · exact ⟨[th (at_.getD 0 0), th (at_.getD 1 0)], [q 0, q 1], fun r hr => by
      simp only [ji5, jjr, or_false] at hr
      rcases hr with rfl | rfl <;> exact th_ok _, fun r hr => by
      simp only [ji5, jjr, or_false] at hr
      rcases hr with rfl | rfl <;> exact qo _, inp⟩
  · exact ⟨[th (at_.getD 0 0), th (at_.getD 1 0), th (at_.getD 2 0)], [q 0, q 1, q 2], fun r hr => by
      simp only [ji5, jjr, or_false] at hr
      rcases hr with rfl | rfl | rfl <;> exact th_ok _, fun r hr => by
      simp only [ji5, jjr, or_false] at hr
      rcases hr with rfl | rfl | rfl <;> exact qo _, inp⟩
def sel3 {α:Type}(a b c:α):Nat→α
 | 0=>a
 | 1=>b
 | _=>c
theorem bo_all (p0 p1 p2:List (Int×Int))(Y0 Y1:List Rat)(Z:D)(n0 n1:Int)(ok0:∀ q∈Y0,okF q=true)(ok1:∀ q∈Y1,okF q=true)(bz:∀ (P:List (Int×Int)) (n:Int), ∃ (r:List Rat) (e:Int),r.length≤40∧Cl 20 [oL P,Z,.int .i64 n] (.tup [fL r,.int .i64 e])∧Cl 36 [oL P,Z,.int .i64 n] (.tup [fL r,.int .i64 e]))(k m v:Nat) :
  ∃ (r:List Rat) (e:Int),r.length≤40∧Cl 20 [sel3 (oL p0) (oL p1) (oL p2) k,sel3 (fL Y0) (fL Y1) Z m,.int .i64 (sel3 n0 n1 n1 v)] (.tup [fL r,.int .i64 e])∧Cl 36 [sel3 (oL p0) (oL p1) (oL p2) k,sel3 (fL Y0) (fL Y1) Z m,.int .i64 (sel3 n0 n1 n1 v)] (.tup [fL r,.int .i64 e]):=by
 rcases k with _|_|k<;>rcases m with _|_|m<;>first|exact jaZ _ _ _ ok0|exact jaZ _ _ _ ok1|exact bz _ _
theorem runs12_x (X:List (List UInt8×List UInt8))(I O:Int)(l:List (Int×Int))(bb d:Bnd)(at_:List Int)(b b2:Nat→Bool)(x x2:Nat→List Int)(z z2:Nat→Int)(no:Int)(hX:X.length≤281474976710656)(h0:0<X.length)(hI:0≤I∧I≤255)(hO:0≤O∧O≤255)(hl:∀ s∈l,(0≤s.1∧s.1≤255) ∧ -32768≤s.2∧s.2≤32767)(hlen:l.length≤281474976710656)(hb:BndOk bb)(hd:BndOk d)(hat:at_.length=4)(hab:∀ v∈at_, -32768≤v∧v≤32767)(hz:∀ i,0≤z i∧z i≤65535)(hz2:∀ i,0≤z2 i∧z2 i≤65535)(hno:InR .i64 no) :
  Cl 9 [drD I O l,bndD bb d,.iarr .i16 at_,.agg (dce b x z b2 x2 z2 0++(dce b x z b2 x2 z2 1++(dce b x z b2 x2 z2 2++dce b x z b2 x2 z2 3))),sl2 X.length (tcl X),.int .i64 no] (.bool true):=by
 have tc:=three_c I O l bb d hI hO hl hlen hb hd
 obtain⟨p0,hp0⟩:∃ p,p=dprog (1+I%3) (1+O%3) l:=⟨_,rfl⟩
 rw[← hp0] at tc
 obtain⟨p1,hp1⟩:∃ p,p=bent bb p0:=⟨_,rfl⟩
 rw[← hp1] at tc
 obtain⟨p2,hp2⟩:∃ p,p=bent d p1:=⟨_,rfl⟩
 rw[← hp2] at tc
 obtain⟨Y0,Y1,ok0,ok1,inp⟩:=jfN I O l at_ b b2 x x2 z z2 hI hat hab hz hz2
 have wk:=wakes_c
 have co:=jhT I O l hO
 obtain⟨m,hm⟩:∃ m:Nat,min (X.length:Int) 5=(m:Int):=⟨(min (X.length:Int) 5).toNat,by omega⟩
 have hml:m≤X.length:=by omega
 have hm5:m≤5:=by omega
 have hm0:0<m:=by omega
 have hll:(X.take m).length=m:=by rw[ji9];omega
 have hbm:Nat.beq m 0=false:=by
  cases e:Nat.beq m 0 with
  | false=>rfl
  | true=>have:=jiq e;omega
 have hcm:∀ K,catF 2 (fun j=>List.take 2 (List.drop (j*2) (tcl X))) m [] K=K (tcl (X.take m)):=fun K=>by rw[catF_t X K m [] hml,jjk]
 have hzm:Nat.ble m 1000000=true:=by rw[ji0];omega
 have pum:=tcl_pure (X.take m)
 have frm:=tcl_fr (X.take m)
 have pgm:=tcl_pg (X.take m)
 refine V.en tbOk Tryz.func9 ?_
 (conv=>whnf)
 (conv=>whnf)
 (try simp only[jiA,jiz,jiy,jjg,hm,hzm,frm])
 repeat ((first|refine V.s1 ?_|((try ((with_reducible refine .ext ?_);(conv=>whnf);(try simp only[jiA,jiz,jiy,jjg,hm,hzm,frm])));(with_reducible refine jaa (r:=?_) ?_ ?_);rotate_left;(focus (first|exact(wk)));(conv=>whnf))|(((rewrite [hbm];(conv=>whnf)));(conv=>whnf))|(((rewrite [hcm];(conv=>whnf)));(conv=>whnf))|(((rewrite [pum];(conv=>whnf)));(conv=>whnf))|(((rewrite [pgm];(conv=>whnf)));(conv=>whnf)));(try simp only[jiA,jiz,jiy,jjg,hm,hzm,frm]))
 refine jaf (((0:Nat),X.take m)) (fun k=>k.1≤m∧k.2.length=m∧(∀ j,j<k.1→(k.2.getD j ([],[])).1.length≤20∧(k.2.getD j ([],[])).2.length≤20)) (fun k=>m-k.1) (fun k=>[(36,.int .i64 k.1)]) (fun k=>[(33,.box (tcl k.2))]) ?_ ?_ ?_
 ·exact V.wk
 ·exact⟨jit _,hll,fun j hj=>absurd hj (Nat.not_lt_zero _)⟩
 rintro⟨k,T⟩ ⟨hk,hT,hs⟩
 try dsimp only at hk hT hs ⊢
 have pgT:=tcl_pg T
 (conv=>whnf)
 (try simp only[jiA])
 repeat ((first|refine V.s1 ?_|((try ((with_reducible refine .ext ?_);(conv=>whnf);(try simp only[jiA])));(with_reducible refine jaa (r:=?_) ?_ ?_);rotate_left;(focus (first|fail));(conv=>whnf))|(((rewrite [pgT];(conv=>whnf)));(conv=>whnf)));(try simp only[jiA]))
 refine V.br (fun hq=>?_) (fun hq=>?_)
 ·simp only[decide_eq_true_eq] at hq
  have hkT:k<T.length:=by omega
  have n1:∀ K,nthK (tcl T) (0+k*2+0) K=K (.str (T.getD k ([],[])).1):=fun K=>by rw[jiy,jiz];exact tcl_n1 K T k hkT
  have n2:∀ K,nthK (tcl T) (0+k*2+1) K=K (.str (T.getD k ([],[])).2):=fun K=>by rw[jiy];exact tcl_n2 K T k hkT
  have w1:∀ s K,jaR (tcl T) (0+k*2+0) [.str s] K=K (tcl (T.set k (s,(T.getD k ([],[])).2))):=fun s K=>by rw[jiy,jiz];exact tcl_s1 s K T k hkT
  have w2:∀ q s K,jaR (tcl (T.set k q)) (0+k*2+1) [.str s] K=K (tcl ((T.set k q).set k (((T.set k q).getD k ([],[])).1,s))):=fun q s K=>by rw[jiy];exact tcl_s2 s K (T.set k q) k (by rw[jjq];exact hkT)
  have pgs:∀ q i K,jbR i (tcl (T.set k q)) K=K (tcl (T.set k q)):=fun q=>tcl_pg _
  have hkc:((k:Int)+1)=((k+1:Nat):Int):=by omega
  (conv=>whnf)
  (try simp only[jiA])
  repeat ((first|refine V.s1 ?_|((try ((with_reducible refine .ext ?_);(conv=>whnf);(try simp only[jiA])));(with_reducible refine jaa (r:=?_) ?_ ?_);rotate_left;(focus (first|fail));(conv=>whnf))|(((rewrite [pgT];(conv=>whnf)));(conv=>whnf)));(try simp only[jiA]))
  refine⟨(V.tk [0,1,2,3,4,5,6,7,8,9,10,11,12,13,14,15,16,17,18,19,20,21,22,23,24,25,26,27,28,29,30,31] (V.e1 32 [29,28,27,3,2] (V.tk [33,34] (V.e1 35 [] .done)))),[],V.pok,.go (jab ?_)⟩
  (conv=>whnf)
  (try simp only[jiA,hkc])
  repeat ((first|refine V.s1 ?_|((try ((with_reducible refine .ext ?_);(conv=>whnf);(try simp only[jiA,hkc])));(with_reducible refine jaa (r:=?_) ?_ ?_);rotate_left;(focus (first|fail));(conv=>whnf))|(((rewrite [pgT];(conv=>whnf)));(conv=>whnf))|(((rewrite [n1];(conv=>whnf)));(conv=>whnf))|(((rewrite [n2];(conv=>whnf)));(conv=>whnf))|(((rewrite [w1];(conv=>whnf)));(conv=>whnf))|(((rewrite [w2];(conv=>whnf)));(conv=>whnf))|(((rewrite [pgs];(conv=>whnf)));(conv=>whnf)));(try simp only[jiA,hkc]))
  refine⟨(k+1,(T.set k ((T.getD k ([],[])).1.take (min ((T.getD k ([],[])).1.length:Int) 20).toNat,(T.getD k ([],[])).2)).set k (((T.set k ((T.getD k ([],[])).1.take (min ((T.getD k ([],[])).1.length:Int) 20).toNat,(T.getD k ([],[])).2)).getD k ([],[])).1,(T.getD k ([],[])).2.take (min ((T.getD k ([],[])).2.length:Int) 20).toNat)),⟨by omega,by simp only[jjq];exact hT,fun j hj=>?_⟩,by dsimp only;omega,V.wk⟩
  rw[ji3,List.getElem?_set]
  by_cases hjk:k=j
  ·rw[if_pos hjk,if_pos (by rw[jjq];omega)]
   simp only[Option.getD_some]
   rw[ji3 (l:=T.set k _),List.getElem?_set,if_pos rfl,if_pos hkT]
   simp only[Option.getD_some,ji9]
   omega
  ·rw[if_neg hjk,List.getElem?_set,if_neg hjk,← ji3]
   exact hs j (by omega)
 ·simp only[decide_eq_false_iff_not] at hq
  obtain rfl:k=m:=by omega
  have sT:∀ q∈T,q.1.length≤20∧q.2.length≤20:=fun q hq=>by
   obtain⟨j,hj,rfl⟩:=List.mem_iff_getElem.1 hq
   have h:=hs j (by omega)
   rw[ji3,ji6 hj] at h
   exact h
  (conv=>whnf)
  (try simp only[jiA])
  repeat ((first|refine V.s1 ?_|((try ((with_reducible refine .ext ?_);(conv=>whnf);(try simp only[jiA])));(with_reducible refine jaa (r:=?_) ?_ ?_);rotate_left;(focus (first|exact(inp)|exact(tc)));(conv=>whnf))|(((rewrite [pgT];(conv=>whnf)));(conv=>whnf))|(((rewrite [pgm];(conv=>whnf)));(conv=>whnf)));(try simp only[jiA]))
  have bok:bslOk (tcl T) 0 k 2=true:=by
   have h:=tcl_bsl T
   rw[hT] at h
   exact h
  have pbT:=fun i c K=>tcl_pub T i c K
  have pbm:=fun i c K=>tcl_pub (List.take k X) i c K
  refine Lp.pub 33 ?_
  (conv=>whnf)
  repeat (first|(rewrite [bok];(conv=>whnf))|(rewrite [pbT];(conv=>whnf))|(rewrite [pbm];(conv=>whnf)))
  have bz:∀ (P:List (Int×Int)) (n:Int), ∃ (r:List Rat) (e:Int),r.length≤40∧Cl 20 [oL P,.slf 2 k (fun q=>List.take 2 (List.drop (0+q*2) (tcl T))),.int .i64 n] (.tup [fL r,.int .i64 e])∧Cl 36 [oL P,.slf 2 k (fun q=>List.take 2 (List.drop (0+q*2) (tcl T))),.int .i64 n] (.tup [fL r,.int .i64 e]):=fun P n=>by
   obtain⟨r,e,hr,c1,c2⟩:=both_f P T n sT
   have f:_root_.Go.V.Fin (tL T) (.slf 2 k (fun q=>List.take 2 (List.drop (0+q*2) (tcl T)))):=by
    rw[← hT]
    exact jdk (fun j hj=>by rw[jiy];exact tcl_at T j hj)
   exact⟨r,e,hr,arg3 c1 (Fin.same _) f (Fin.same _),arg3 c2 (Fin.same _) f (Fin.same _)⟩
  have bo:=bo_all p0 p1 p2 Y0 Y1 _ (1+O%3) no ok0 ok1 bz
  refine jaf ((0:Nat)) (fun k=>k≤3) (fun k=>3-k) (fun k=>[(81,.int .i64 k)]) (fun k=>[]) ?_ ?_ ?_
  ·exact V.wk
  ·exact jit _
  intro k hk
  have bk:=bo k
  rcases (show k=3∨k=0∨k=1∨k=2 by omega) with rfl|rfl|rfl|rfl
  ·refine V.r0 @jiA ?_
   exact Fin.of rfl
  all_goals
   try dsimp only
   refine V.r0 @jiA ?_
   refine jaf ((0:Nat)) (fun k=>k≤3) (fun k=>3-k) (fun k=>[(90,.int .i64 k)]) (fun k=>[]) ?_ ?_ ?_
   ·exact V.wk
   ·exact jit _
   intro m hm
   have bm:=bk m
   rcases (show m=3∨m=0∨m=1∨m=2 by omega) with rfl|rfl|rfl|rfl
   ·refine V.r0 @jiA ?_
    first|exact⟨1,by omega,by omega,V.wk⟩|exact⟨2,by omega,by omega,V.wk⟩|exact⟨3,by omega,by omega,V.wk⟩
   all_goals
    try dsimp only
    refine V.r1 @jiA co ?_
    refine jaf ((0:Nat)) (fun k=>k≤2) (fun k=>2-k) (fun k=>[(97,.int .i64 k)]) (fun k=>[]) ?_ ?_ ?_
    ·exact V.wk
    ·exact jit _
    intro v hv
    obtain⟨r,e,hr,c1,c2⟩:=bm v
    have eq:=eqL_f r hr
    rcases (show v=2∨v=0∨v=1 by omega) with rfl|rfl|rfl
    ·refine V.r0 @jiA ?_
     first|exact⟨1,by omega,by omega,V.wk⟩|exact⟨2,by omega,by omega,V.wk⟩|exact⟨3,by omega,by omega,V.wk⟩
    all_goals
     try dsimp only
     (conv=>whnf)
     (try simp only[jiA,jiz])
     repeat ((first|refine V.s1 ?_|((try ((with_reducible refine .ext ?_);(conv=>whnf);(try simp only[jiA,jiz])));(with_reducible refine jaa (r:=?_) ?_ ?_);rotate_left;(focus (first|exact(c1)|exact(c2)));(conv=>whnf))|((refine⟨_,fun _=>eq,?_⟩);(conv=>whnf)));(try simp only[jiA,jiz]))
     refine Cnd.no (by simp) ?_
     refine V.r0 @jiA ?_
     first|exact⟨1,by omega,by omega,V.wk⟩|exact⟨2,by omega,by omega,V.wk⟩
theorem runs12_0 (I O:Int)(l:List (Int×Int))(bb d:Bnd)(at_:List Int)(b b2:Nat→Bool)(x x2:Nat→List Int)(z z2:Nat→Int)(no:Int)(hI:0≤I∧I≤255)(hO:0≤O∧O≤255)(hl:∀ s∈l,(0≤s.1∧s.1≤255) ∧ -32768≤s.2∧s.2≤32767)(hlen:l.length≤281474976710656)(hb:BndOk bb)(hd:BndOk d)(hat:at_.length=4)(hab:∀ v∈at_, -32768≤v∧v≤32767)(hz:∀ i,0≤z i∧z i≤65535)(hz2:∀ i,0≤z2 i∧z2 i≤65535)(hno:InR .i64 no) :
  Cl 9 [drD I O l,bndD bb d,.iarr .i16 at_,.agg (dce b x z b2 x2 z2 0++(dce b x z b2 x2 z2 1++(dce b x z b2 x2 z2 2++dce b x z b2 x2 z2 3))),sl2 0 [],.int .i64 no] (.bool true):=by
 have tc:=three_c I O l bb d hI hO hl hlen hb hd
 obtain⟨p0,hp0⟩:∃ p,p=dprog (1+I%3) (1+O%3) l:=⟨_,rfl⟩
 rw[← hp0] at tc
 obtain⟨p1,hp1⟩:∃ p,p=bent bb p0:=⟨_,rfl⟩
 rw[← hp1] at tc
 obtain⟨p2,hp2⟩:∃ p,p=bent d p1:=⟨_,rfl⟩
 rw[← hp2] at tc
 obtain⟨Y0,Y1,ok0,ok1,inp⟩:=jfN I O l at_ b b2 x x2 z z2 hI hat hab hz hz2
 have wk:=wakes_c
 have co:=jhT I O l hO
 refine V.en tbOk Tryz.func9 ?_
 refine V.r1 (V.a3 @jiA @jiz @jiy) wk ?_
 refine jaf ((0:Nat)) (fun k=>k≤0) (fun k=>0-k) (fun k=>[(36,.int .i64 k)]) (fun k=>[]) ?_ ?_ ?_
 ·exact V.wk
 ·exact jit _
 intro k hk
 obtain rfl:k=0:=by omega
 refine V.r2 @jiA inp tc ?_
 refine Lp.pub 27 ?_
 (conv=>whnf)
 have bz:∀ (P:List (Int×Int)) (n:Int), ∃ (r:List Rat) (e:Int),r.length≤40∧Cl 20 [oL P,.slf 2 0 (fun q=>List.take 2 (List.drop (0+q*2) [])),.int .i64 n] (.tup [fL r,.int .i64 e])∧Cl 36 [oL P,.slf 2 0 (fun q=>List.take 2 (List.drop (0+q*2) [])),.int .i64 n] (.tup [fL r,.int .i64 e]):=fun P n=>by
  obtain⟨r,e,hr,c1,c2⟩:=both_f P [] n (fun q hq=>by cases hq)
  have f:_root_.Go.V.Fin (tL []) (.slf 2 0 (fun q=>List.take 2 (List.drop (0+q*2) []))):=jdk (fun j hj=>absurd hj (Nat.not_lt_zero _))
  exact⟨r,e,hr,arg3 c1 (Fin.same _) f (Fin.same _),arg3 c2 (Fin.same _) f (Fin.same _)⟩
 have bo:=bo_all p0 p1 p2 Y0 Y1 _ (1+O%3) no ok0 ok1 bz
 refine jaf ((0:Nat)) (fun k=>k≤3) (fun k=>3-k) (fun k=>[(81,.int .i64 k)]) (fun k=>[]) ?_ ?_ ?_
 ·exact V.wk
 ·exact jit _
 intro k hk
 have bk:=bo k
 rcases (show k=3∨k=0∨k=1∨k=2 by omega) with rfl|rfl|rfl|rfl
 ·refine V.r0 @jiA ?_
  exact Fin.of rfl
 all_goals
  try dsimp only
  refine V.r0 @jiA ?_
  refine jaf ((0:Nat)) (fun k=>k≤3) (fun k=>3-k) (fun k=>[(90,.int .i64 k)]) (fun k=>[]) ?_ ?_ ?_
  ·exact V.wk
  ·exact jit _
  intro m hm
  have bm:=bk m
  rcases (show m=3∨m=0∨m=1∨m=2 by omega) with rfl|rfl|rfl|rfl
  ·refine V.r0 @jiA ?_
   first|exact⟨1,by omega,by omega,V.wk⟩|exact⟨2,by omega,by omega,V.wk⟩|exact⟨3,by omega,by omega,V.wk⟩
  all_goals
   try dsimp only
   refine V.r1 @jiA co ?_
   refine jaf ((0:Nat)) (fun k=>k≤2) (fun k=>2-k) (fun k=>[(97,.int .i64 k)]) (fun k=>[]) ?_ ?_ ?_
   ·exact V.wk
   ·exact jit _
   intro v hv
   obtain⟨r,e,hr,c1,c2⟩:=bm v
   have eq:=eqL_f r hr
   rcases (show v=2∨v=0∨v=1 by omega) with rfl|rfl|rfl
   ·refine V.r0 @jiA ?_
    first|exact⟨1,by omega,by omega,V.wk⟩|exact⟨2,by omega,by omega,V.wk⟩|exact⟨3,by omega,by omega,V.wk⟩
   all_goals
    try dsimp only
    (conv=>whnf)
    (try simp only[jiA,jiz])
    repeat ((first|refine V.s1 ?_|((try ((with_reducible refine .ext ?_);(conv=>whnf);(try simp only[jiA,jiz])));(with_reducible refine jaa (r:=?_) ?_ ?_);rotate_left;(focus (first|exact(c1)|exact(c2)));(conv=>whnf))|((refine⟨_,fun _=>eq,?_⟩);(conv=>whnf)));(try simp only[jiA,jiz]))
    refine Cnd.no (by simp) ?_
    refine V.r0 @jiA ?_
    first|exact⟨1,by omega,by omega,V.wk⟩|exact⟨2,by omega,by omega,V.wk⟩
theorem runs12_c (X:List (List UInt8×List UInt8))(I O:Int)(l:List (Int×Int))(bb d:Bnd)(at_:List Int)(b b2:Nat→Bool)(x x2:Nat→List Int)(z z2:Nat→Int)(no:Int)(hX:X.length≤281474976710656)(hI:0≤I∧I≤255)(hO:0≤O∧O≤255)(hl:∀ s∈l,(0≤s.1∧s.1≤255) ∧ -32768≤s.2∧s.2≤32767)(hlen:l.length≤281474976710656)(hb:BndOk bb)(hd:BndOk d)(hat:at_.length=4)(hab:∀ v∈at_, -32768≤v∧v≤32767)(hz:∀ i,0≤z i∧z i≤65535)(hz2:∀ i,0≤z2 i∧z2 i≤65535)(hno:InR .i64 no) :
  Cl 9 [drD I O l,bndD bb d,.iarr .i16 at_,.agg (dce b x z b2 x2 z2 0++(dce b x z b2 x2 z2 1++(dce b x z b2 x2 z2 2++dce b x z b2 x2 z2 3))),sl2 X.length (tcl X),.int .i64 no] (.bool true):=by
 cases X with
 | nil=>exact runs12_0 I O l bb d at_ b b2 x x2 z z2 no hI hO hl hlen hb hd hat hab hz hz2 hno
 | cons q X=>exact runs12_x (q::X) I O l bb d at_ b b2 x x2 z z2 no hX (by simp) hI hO hl hlen hb hd hat hab hz hz2 hno
end Go.Proofs.YtpkdedncgclblaaGreatDoor
end
