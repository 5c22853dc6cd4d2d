/- What functions of the program answer at given values, part 11. Conditions: those that each theorem names. -/
import Derived.Test.YtbnghipgicmpdaaGreatDoorSimplexRefinesH10
import Derived.Test.YtbnghipgicmpdaaGreatDoorSimplexRefinesH9
import Derived.Test.YtbnghipgicmpdaaGreatDoorSimplexRefinesH4
import Derived.Test.YtbnghipgicmpdaaGreatDoorSimplexRefinesH8
set_option linter.unusedSimpArgs false
set_option linter.unusedVariables false
set_option maxHeartbeats 8000000
set_option maxRecDepth 100000
section
namespace Go.Proofs.YtbnghipgicmpdaaGreatDoor
open Go Go.V Go.Nb
def rcv:Nat→D
 | 0 => .nil
 | k+1 => .bsl 52 0 (k+1) 1
def rb15:Nat→D
 | 0 => .nil
 | k+1 => .bsl 119 0 (k+1) 2
def rbY (Y:Nat→Tx):Nat→Hp
 | 0=>[]
 | k+1=>[(119,.box (wce Y (k+1)))]
def rch (U:Nat→List Int):Nat→Hp
 | 0=>[]
 | k+1=>[(52,.box (pce U (k+1)))]
theorem jix:type_of% @jjb∧type_of% @ji9∧type_of% @ji8∧type_of% @tn0∧type_of% @tn1∧type_of% @tn2∧type_of% @tn3∧type_of% @xt4:=⟨@jjb,@ji9,@ji8,@tn0,@tn1,@tn2,@tn3,@xt4⟩
theorem jiV:type_of% @jjb∧type_of% @jj1 ∧ type_of% @ji9∧type_of% @ji8∧type_of% @tn0∧type_of% @tn1∧type_of% @tn2∧type_of% @tn3∧type_of% @xt4:=⟨@jjb,@jj1,@ji9,@ji8,@tn0,@tn1,@tn2,@tn3,@xt4⟩
theorem jiD:type_of% @jjb∧type_of% @ji9∧type_of% @ji8∧type_of% @k0∧type_of% @k1∧type_of% @k2∧type_of% @k3∧type_of% @tn0∧type_of% @tn1∧type_of% @tn2∧type_of% @tn3∧type_of% @xt4:=⟨@jjb,@ji9,@ji8,@k0,@k1,@k2,@k3,@tn0,@tn1,@tn2,@tn3,@xt4⟩
theorem reval1_t (zs data O:List Int)(out:Int)(X:Nat→List D)(A U:Nat→List Int)(p:Nat→Int)(W Y:Nat→Tx)(I P S:Nat→Nat→Tx)(ho:1≤out∧out≤4)(hl:O.length=1)(hd:data.length≤4096)
  (hA:∀ k,k<1→(0≤O.getD k 0∧O.getD k 0<1)∧(-1000≤(A k).getD (O.getD k 0).toNat 0∧(A k).getD (O.getD k 0).toNat 0≤1000)∧A (k+1)=(A k).set (O.getD k 0).toNat ((A k).getD (O.getD k 0).toNat 0+1)) (hAl:∀ k,k≤1→(A k).length=1)
  (hp:∀ k,k≤1→(0≤p k∧p k+out≤data.length)∧(data.take (p k+out).toNat).drop (p k).toNat=U k) (hU:∀ k,k≤1→(U k).length=out.toNat)
  (cell:Cl 12 [.agg [.ints .i64 zs,.int .i64 out,.ints .i64 data],.slf 2 1 X] (.tup [.ints .i64 (A 0),.ints .i64 O,slQ W 2,.int .i64 0]))
  (place:∀ k,k≤1→Cl 91 [.agg [.ints .i64 zs,.int .i64 out,.ints .i64 data],.ints .i64 (A k)] (.tup [.int .i64 (p k),.int .i64 0]))
  (zero:Cl 39 [.int .i64 0,.int .i64 1] (.agg [.str (S 0 0).1,.str (S 0 0).2])) (s0:∀ j,S j 0=S 0 0) (full:Tx) (cfull:Cl 39 [.int .i64 65535,.int .i64 1] (.agg [.str (full).1,.str (full).2]))
  (ci:∀ j k,j<out.toNat→k≤1→Cl 39 [.int .i64 ((U k).getD j 0),.int .i64 1] (.agg [.str (I j k).1,.str (I j k).2]))
  (cm:∀ j k,j<out.toNat→k≤1→Cl 37 [.agg [.str (W k).1,.str (W k).2],.agg [.str (I j k).1,.str (I j k).2]] (.tup [.agg [.str (P j k).1,.str (P j k).2],.int .i64 0]))
  (ca:∀ j k,j<out.toNat→k≤1→Cl 45 [.agg [.str (S j k).1,.str (S j k).2],.agg [.str (P j k).1,.str (P j k).2]] (.tup [.agg [.str (S j (k+1)).1,.str (S j (k+1)).2],.int .i64 0]))
  (cd:∀ j,j<out.toNat→Cl 46 [.agg [.str (S j 2).1,.str (S j 2).2],.agg [.str (full).1,.str (full).2]] (.tup [.agg [.str (Y j).1,.str (Y j).2],.int .i64 0])) :
  Cl 14 [.agg [.ints .i64 zs,.int .i64 out,.ints .i64 data],.slf 2 1 X] (.tup [slQ Y out.toNat,.int .i64 0]):=by
 have B0:(A 0).length=1:=hAl 0 (by omega)
 refine V.en tbOk Tryz.func14 ?_
 (conv=>whnf)
 (conv=>whnf)
 (try simp only[B0,jj1,jjS,ji8,ji9,tn0,tn1,tn2,tn3,xt4,jjb])
 repeat ((first|refine V.s1 ?_|((try ((with_reducible refine .ext ?_);(conv=>whnf);(try simp only[B0,jj1,jjS,ji8,ji9,tn0,tn1,tn2,tn3,xt4,jjb])));(with_reducible refine jaa (r:=?_) ?_ ?_);rotate_left;(focus (first|exact(cell)));(conv=>whnf)));(try simp only[B0,jj1,jjS,ji8,ji9,tn0,tn1,tn2,tn3,xt4,jjb]))
 refine jad (0:Nat) (fun k=>k≤2) (fun k=>2-k) (fun k=>[(12,.int .i64 (k:Nat)),(10,rcv k)]) (fun k=>(36,.arr .i64 (A (min k 1)))::rch U k) ?_ ?_ ?_
 ·exact V.wk
 ·exact ji2 _
 intro k hk
 try dsimp only at hk ⊢
 have hk4:k=0∨k=1∨k=2:=by omega
 rcases hk4 with e|e|e
 all_goals subst e
 ·simp only[k0,rcv,rch,show min 0 1=0 from rfl]
  have hAk:List.take 1 (A 0)=A 0:=jjW (by rw[hAl 0 (by omega)];exact jjc _)
  have pl:=place 0 (by omega)
  obtain⟨⟨pb,pd⟩,pU⟩:=hp 0 (by omega)
  have hUl:=hU 0 (by omega)
  have hle:decide ((0:Int)≤(O.length:Nat))=true:=decide_eq_true (by omega)
  refine V.r0 (V.a2 jix hle) ?_
  refine V.il Tryz.func44 ?_
  refine V.r0 (V.a2 jiV hAk) ?_
  have pl2:=pl
  rw[← hAk] at pl2
  refine .len ?_
  (conv=>whnf)
  refine⟨36,?_⟩
  (conv=>whnf)
  refine jaa (r:=?_) ?_ ?_
  rotate_left
  ·exact pl2
  refine V.r0 (V.a2 jix pU) ?_
  have hlt:decide ((0:Int)<(O.length:Nat))=true:=decide_eq_true (by omega)
  obtain⟨ob,vb,eA⟩:=hA 0 (by omega)
  have hAli:=hAl 0 (by omega)
  refine Cnd.yes hlt ?_
  refine V.r0 jiV ?_
  refine⟨1,by omega,by omega,?_⟩
  refine Wk.pub 148 ?_
  (conv=>whnf)
  simp only[jjS,jj6,← eA]
  exact V.wk
 ·simp only[k1,rcv,rch,show min 1 1=1 from rfl]
  have hAk:List.take 1 (A 1)=A 1:=jjW (by rw[hAl 1 (by omega)];exact jjc _)
  have pl:=place 1 (by omega)
  obtain⟨⟨pb,pd⟩,pU⟩:=hp 1 (by omega)
  have hUl:=hU 1 (by omega)
  have hle:decide ((1:Int)≤(O.length:Nat))=true:=decide_eq_true (by omega)
  refine V.r0 (V.a2 jix hle) ?_
  refine V.il Tryz.func44 ?_
  refine V.r0 (V.a2 jiV hAk) ?_
  have pl2:=pl
  rw[← hAk] at pl2
  refine .len ?_
  (conv=>whnf)
  refine⟨36,?_⟩
  (conv=>whnf)
  refine jaa (r:=?_) ?_ ?_
  rotate_left
  ·exact pl2
  refine V.r0 (V.a2 jix pU) ?_
  have hlf:decide ((1:Int)<(O.length:Nat))=false:=decide_eq_false (by omega)
  refine Cnd.no hlf ?_
  refine V.r0 jiV ?_
  refine⟨2,by omega,by omega,?_⟩
  refine Wk.pub 148 ?_
  (conv=>whnf)
  simp only[jjS,jj6]
  exact V.wk
 ·simp only[rcv,rch,show ((2:Nat):Int)=2 from rfl]
  have hle:decide ((2:Int)≤(O.length:Nat))=false:=decide_eq_false (by omega)
  refine V.r0 (V.a2 jix hle) ?_
  refine jad (0:Nat) (fun j=>(j:Int)≤out) (fun j=>out.toNat-j) (fun j=>[(16,.int .i64 (j:Nat)),(15,rb15 j)]) (fun j=>rbY Y j) ?_ ?_ ?_
  ·exact V.wk
  ·show ((0:Nat):Int)≤out
   omega
  intro j hj
  try dsimp only at hj ⊢
  by_cases hjo:(j:Int)<out
  ·have hlt:decide ((j:Int)<out)=true:=decide_eq_true hjo
   have hj4:j=0∨j=1∨j=2∨j=3:=by omega
   have ji:j<out.toNat:=by omega
   have d:=cd j ji
   have e0:=s0 j
   have i0:=ci j 0 ji (by omega)
   have m0:=cm j 0 ji (by omega)
   have a0:=ca j 0 ji (by omega)
   have u0:=hU 0 (by omega)
   have i1:=ci j 1 ji (by omega)
   have m1:=cm j 1 ji (by omega)
   have a1:=ca j 1 ji (by omega)
   have u1:=hU 1 (by omega)
   obtain⟨Sj,hSj⟩:∃ f,S j=f:=⟨_,rfl⟩
   obtain⟨Pj,hPj⟩:∃ f,P j=f:=⟨_,rfl⟩
   obtain⟨Ij,hIj⟩:∃ f,I j=f:=⟨_,rfl⟩
   obtain⟨Yj,hYj⟩:∃ f,Y j=f:=⟨_,rfl⟩
   simp only[hSj,hPj,hIj,hYj] at d e0 i0 m0 a0 i1 m1 a1
   rw[← e0] at zero
   rcases hj4 with rfl|rfl|rfl|rfl
   all_goals
    simp only[k0,k1,k2,k3,rb15,rbY] at hlt ⊢
    refine V.r1 (V.a2 jix hlt) zero ?_
    refine jad (0:Nat) (fun k=>k≤2) (fun k=>2-k) (fun k=>[(18,.int .i64 (k:Nat))]) (fun k=>[(17,.box [.str (Sj k).1,.str (Sj k).2])]) ?_ ?_ ?_
    ·exact V.wk
    ·exact ji2 _
    intro k hk
    try dsimp only at hk ⊢
    rcases (show k=0∨k=1∨k=2 by omega) with rfl|rfl|rfl
    ·refine V.r0 jiD ?_
     refine⟨Pq14z,[],V.pok,?_⟩
     refine jab [(19,.box 19 0),(20,.int .i64 0)] [(19,.box [.str (Pj 0).1,.str (Pj 0).2])] ?_ ?_
     ·exact V.d2 jiD i0 m0
     refine V.r1 jiD a0 ?_
     exact⟨1,by omega,by omega,V.wk⟩
    ·refine V.r0 jiD ?_
     refine⟨Pq14z,[],V.pok,?_⟩
     refine jab [(19,.box 19 0),(20,.int .i64 0)] [(19,.box [.str (Pj 1).1,.str (Pj 1).2])] ?_ ?_
     ·exact V.d2 jiD i1 m1
     refine V.r1 jiD a1 ?_
     exact⟨2,by omega,by omega,V.wk⟩
    ·refine V.r0 jiD ?_
     refine⟨Pq80z,[],V.pok,?_⟩
     refine jab [(21,.box 21 0),(22,.int .i64 0)] [(21,.box [.str Yj.1,.str Yj.2])] ?_ ?_
     ·exact V.d2 jix cfull d
     refine V.r0 jix ?_
     rw[← hYj]
     first|exact⟨1,by omega,by omega,V.wk⟩|exact⟨2,by omega,by omega,V.wk⟩|exact⟨3,by omega,by omega,V.wk⟩|exact⟨4,by omega,by omega,V.wk⟩
  ·have hlf:decide ((j:Int)<out)=false:=decide_eq_false hjo
   obtain rfl:out=(j:Int):=by omega
   rcases (show j=1∨j=2∨j=3∨j=4 by omega) with rfl|rfl|rfl|rfl
   all_goals
    simp only[rb15,rbY]
    refine V.r0 (V.a2 jix hlf) ?_
    exact Fin.of rfl
theorem jit:type_of% @jjb∧type_of% @ji9∧type_of% @ji8∧type_of% @tn0∧type_of% @tn1∧type_of% @tn2∧type_of% @tn3∧type_of% @xt4:=⟨@jjb,@ji9,@ji8,@tn0,@tn1,@tn2,@tn3,@xt4⟩
theorem jiJ:type_of% @jjb∧type_of% @jj1 ∧ type_of% @ji9∧type_of% @ji8∧type_of% @tn0∧type_of% @tn1∧type_of% @tn2∧type_of% @tn3∧type_of% @xt4:=⟨@jjb,@jj1,@ji9,@ji8,@tn0,@tn1,@tn2,@tn3,@xt4⟩
theorem jiv:type_of% @jjb∧type_of% @ji9∧type_of% @ji8∧type_of% @k0∧type_of% @k1∧type_of% @k2∧type_of% @k3∧type_of% @tn0∧type_of% @tn1∧type_of% @tn2∧type_of% @tn3∧type_of% @xt4:=⟨@jjb,@ji9,@ji8,@k0,@k1,@k2,@k3,@tn0,@tn1,@tn2,@tn3,@xt4⟩
theorem reval2_t (zs data O:List Int)(out:Int)(X:Nat→List D)(A U:Nat→List Int)(p:Nat→Int)(W Y:Nat→Tx)(I P S:Nat→Nat→Tx)(ho:1≤out∧out≤4)(hl:O.length=2)(hd:data.length≤4096)
  (hA:∀ k,k<2→(0≤O.getD k 0∧O.getD k 0<2)∧(-1000≤(A k).getD (O.getD k 0).toNat 0∧(A k).getD (O.getD k 0).toNat 0≤1000)∧A (k+1)=(A k).set (O.getD k 0).toNat ((A k).getD (O.getD k 0).toNat 0+1)) (hAl:∀ k,k≤2→(A k).length=2)
  (hp:∀ k,k≤2→(0≤p k∧p k+out≤data.length)∧(data.take (p k+out).toNat).drop (p k).toNat=U k) (hU:∀ k,k≤2→(U k).length=out.toNat)
  (cell:Cl 12 [.agg [.ints .i64 zs,.int .i64 out,.ints .i64 data],.slf 2 2 X] (.tup [.ints .i64 (A 0),.ints .i64 O,slQ W 3,.int .i64 0]))
  (place:∀ k,k≤2→Cl 91 [.agg [.ints .i64 zs,.int .i64 out,.ints .i64 data],.ints .i64 (A k)] (.tup [.int .i64 (p k),.int .i64 0]))
  (zero:Cl 39 [.int .i64 0,.int .i64 1] (.agg [.str (S 0 0).1,.str (S 0 0).2])) (s0:∀ j,S j 0=S 0 0) (full:Tx) (cfull:Cl 39 [.int .i64 65535,.int .i64 1] (.agg [.str (full).1,.str (full).2]))
  (ci:∀ j k,j<out.toNat→k≤2→Cl 39 [.int .i64 ((U k).getD j 0),.int .i64 1] (.agg [.str (I j k).1,.str (I j k).2]))
  (cm:∀ j k,j<out.toNat→k≤2→Cl 37 [.agg [.str (W k).1,.str (W k).2],.agg [.str (I j k).1,.str (I j k).2]] (.tup [.agg [.str (P j k).1,.str (P j k).2],.int .i64 0]))
  (ca:∀ j k,j<out.toNat→k≤2→Cl 45 [.agg [.str (S j k).1,.str (S j k).2],.agg [.str (P j k).1,.str (P j k).2]] (.tup [.agg [.str (S j (k+1)).1,.str (S j (k+1)).2],.int .i64 0]))
  (cd:∀ j,j<out.toNat→Cl 46 [.agg [.str (S j 3).1,.str (S j 3).2],.agg [.str (full).1,.str (full).2]] (.tup [.agg [.str (Y j).1,.str (Y j).2],.int .i64 0])) :
  Cl 14 [.agg [.ints .i64 zs,.int .i64 out,.ints .i64 data],.slf 2 2 X] (.tup [slQ Y out.toNat,.int .i64 0]):=by
 have B0:(A 0).length=2:=hAl 0 (by omega)
 refine V.en tbOk Tryz.func14 ?_
 (conv=>whnf)
 (conv=>whnf)
 (try simp only[B0,jj1,jjS,ji8,ji9,tn0,tn1,tn2,tn3,xt4,jjb])
 repeat ((first|refine V.s1 ?_|((try ((with_reducible refine .ext ?_);(conv=>whnf);(try simp only[B0,jj1,jjS,ji8,ji9,tn0,tn1,tn2,tn3,xt4,jjb])));(with_reducible refine jaa (r:=?_) ?_ ?_);rotate_left;(focus (first|exact(cell)));(conv=>whnf)));(try simp only[B0,jj1,jjS,ji8,ji9,tn0,tn1,tn2,tn3,xt4,jjb]))
 refine jad (0:Nat) (fun k=>k≤3) (fun k=>3-k) (fun k=>[(12,.int .i64 (k:Nat)),(10,rcv k)]) (fun k=>(36,.arr .i64 (A (min k 2)))::rch U k) ?_ ?_ ?_
 ·exact V.wk
 ·exact ji2 _
 intro k hk
 try dsimp only at hk ⊢
 have hk4:k=0∨k=1∨k=2∨k=3:=by omega
 rcases hk4 with e|e|e|e
 all_goals subst e
 ·simp only[k0,rcv,rch,show min 0 2=0 from rfl]
  have hAk:List.take 2 (A 0)=A 0:=jjW (by rw[hAl 0 (by omega)];exact jjc _)
  have pl:=place 0 (by omega)
  obtain⟨⟨pb,pd⟩,pU⟩:=hp 0 (by omega)
  have hUl:=hU 0 (by omega)
  have hle:decide ((0:Int)≤(O.length:Nat))=true:=decide_eq_true (by omega)
  refine V.r0 (V.a2 jit hle) ?_
  refine V.il Tryz.func44 ?_
  refine V.r0 (V.a2 jiJ hAk) ?_
  have pl2:=pl
  rw[← hAk] at pl2
  refine .len ?_
  (conv=>whnf)
  refine⟨36,?_⟩
  (conv=>whnf)
  refine jaa (r:=?_) ?_ ?_
  rotate_left
  ·exact pl2
  refine V.r0 (V.a2 jit pU) ?_
  have hlt:decide ((0:Int)<(O.length:Nat))=true:=decide_eq_true (by omega)
  obtain⟨ob,vb,eA⟩:=hA 0 (by omega)
  have hAli:=hAl 0 (by omega)
  refine Cnd.yes hlt ?_
  refine V.r0 jiJ ?_
  refine⟨1,by omega,by omega,?_⟩
  refine Wk.pub 148 ?_
  (conv=>whnf)
  simp only[jjS,jj6,← eA]
  exact V.wk
 ·simp only[k1,rcv,rch,show min 1 2=1 from rfl]
  have hAk:List.take 2 (A 1)=A 1:=jjW (by rw[hAl 1 (by omega)];exact jjc _)
  have pl:=place 1 (by omega)
  obtain⟨⟨pb,pd⟩,pU⟩:=hp 1 (by omega)
  have hUl:=hU 1 (by omega)
  have hle:decide ((1:Int)≤(O.length:Nat))=true:=decide_eq_true (by omega)
  refine V.r0 (V.a2 jit hle) ?_
  refine V.il Tryz.func44 ?_
  refine V.r0 (V.a2 jiJ hAk) ?_
  have pl2:=pl
  rw[← hAk] at pl2
  refine .len ?_
  (conv=>whnf)
  refine⟨36,?_⟩
  (conv=>whnf)
  refine jaa (r:=?_) ?_ ?_
  rotate_left
  ·exact pl2
  refine V.r0 (V.a2 jit pU) ?_
  have hlt:decide ((1:Int)<(O.length:Nat))=true:=decide_eq_true (by omega)
  obtain⟨ob,vb,eA⟩:=hA 1 (by omega)
  have hAli:=hAl 1 (by omega)
  refine Cnd.yes hlt ?_
  refine V.r0 jiJ ?_
  refine⟨2,by omega,by omega,?_⟩
  refine Wk.pub 148 ?_
  (conv=>whnf)
  simp only[jjS,jj6,← eA]
  exact V.wk
 ·simp only[k2,rcv,rch,show min 2 2=2 from rfl]
  have hAk:List.take 2 (A 2)=A 2:=jjW (by rw[hAl 2 (by omega)];exact jjc _)
  have pl:=place 2 (by omega)
  obtain⟨⟨pb,pd⟩,pU⟩:=hp 2 (by omega)
  have hUl:=hU 2 (by omega)
  have hle:decide ((2:Int)≤(O.length:Nat))=true:=decide_eq_true (by omega)
  refine V.r0 (V.a2 jit hle) ?_
  refine V.il Tryz.func44 ?_
  refine V.r0 (V.a2 jiJ hAk) ?_
  have pl2:=pl
  rw[← hAk] at pl2
  refine .len ?_
  (conv=>whnf)
  refine⟨36,?_⟩
  (conv=>whnf)
  refine jaa (r:=?_) ?_ ?_
  rotate_left
  ·exact pl2
  refine V.r0 (V.a2 jit pU) ?_
  have hlf:decide ((2:Int)<(O.length:Nat))=false:=decide_eq_false (by omega)
  refine Cnd.no hlf ?_
  refine V.r0 jiJ ?_
  refine⟨3,by omega,by omega,?_⟩
  refine Wk.pub 148 ?_
  (conv=>whnf)
  simp only[jjS,jj6]
  exact V.wk
 ·simp only[rcv,rch,show ((3:Nat):Int)=3 from rfl]
  have hle:decide ((3:Int)≤(O.length:Nat))=false:=decide_eq_false (by omega)
  refine V.r0 (V.a2 jit hle) ?_
  refine jad (0:Nat) (fun j=>(j:Int)≤out) (fun j=>out.toNat-j) (fun j=>[(16,.int .i64 (j:Nat)),(15,rb15 j)]) (fun j=>rbY Y j) ?_ ?_ ?_
  ·exact V.wk
  ·show ((0:Nat):Int)≤out
   omega
  intro j hj
  try dsimp only at hj ⊢
  by_cases hjo:(j:Int)<out
  ·have hlt:decide ((j:Int)<out)=true:=decide_eq_true hjo
   have hj4:j=0∨j=1∨j=2∨j=3:=by omega
   have ji:j<out.toNat:=by omega
   have d:=cd j ji
   have e0:=s0 j
   have i0:=ci j 0 ji (by omega)
   have m0:=cm j 0 ji (by omega)
   have a0:=ca j 0 ji (by omega)
   have u0:=hU 0 (by omega)
   have i1:=ci j 1 ji (by omega)
   have m1:=cm j 1 ji (by omega)
   have a1:=ca j 1 ji (by omega)
   have u1:=hU 1 (by omega)
   have i2:=ci j 2 ji (by omega)
   have m2:=cm j 2 ji (by omega)
   have a2:=ca j 2 ji (by omega)
   have u2:=hU 2 (by omega)
   obtain⟨Sj,hSj⟩:∃ f,S j=f:=⟨_,rfl⟩
   obtain⟨Pj,hPj⟩:∃ f,P j=f:=⟨_,rfl⟩
   obtain⟨Ij,hIj⟩:∃ f,I j=f:=⟨_,rfl⟩
   obtain⟨Yj,hYj⟩:∃ f,Y j=f:=⟨_,rfl⟩
   simp only[hSj,hPj,hIj,hYj] at d e0 i0 m0 a0 i1 m1 a1 i2 m2 a2
   rw[← e0] at zero
   rcases hj4 with rfl|rfl|rfl|rfl
   all_goals
    simp only[k0,k1,k2,k3,rb15,rbY] at hlt ⊢
    refine V.r1 (V.a2 jit hlt) zero ?_
    refine jad (0:Nat) (fun k=>k≤3) (fun k=>3-k) (fun k=>[(18,.int .i64 (k:Nat))]) (fun k=>[(17,.box [.str (Sj k).1,.str (Sj k).2])]) ?_ ?_ ?_
    ·exact V.wk
    ·exact ji2 _
    intro k hk
    try dsimp only at hk ⊢
    rcases (show k=0∨k=1∨k=2∨k=3 by omega) with rfl|rfl|rfl|rfl
    ·refine V.r0 jiv ?_
     refine⟨Pq14z,[],V.pok,?_⟩
     refine jab [(19,.box 19 0),(20,.int .i64 0)] [(19,.box [.str (Pj 0).1,.str (Pj 0).2])] ?_ ?_
     ·exact V.d2 jiv i0 m0
     refine V.r1 jiv a0 ?_
     exact⟨1,by omega,by omega,V.wk⟩
    ·refine V.r0 jiv ?_
     refine⟨Pq14z,[],V.pok,?_⟩
     refine jab [(19,.box 19 0),(20,.int .i64 0)] [(19,.box [.str (Pj 1).1,.str (Pj 1).2])] ?_ ?_
     ·exact V.d2 jiv i1 m1
     refine V.r1 jiv a1 ?_
     exact⟨2,by omega,by omega,V.wk⟩
    ·refine V.r0 jiv ?_
     refine⟨Pq14z,[],V.pok,?_⟩
     refine jab [(19,.box 19 0),(20,.int .i64 0)] [(19,.box [.str (Pj 2).1,.str (Pj 2).2])] ?_ ?_
     ·exact V.d2 jiv i2 m2
     refine V.r1 jiv a2 ?_
     exact⟨3,by omega,by omega,V.wk⟩
    ·refine V.r0 jiv ?_
     refine⟨Pq80z,[],V.pok,?_⟩
     refine jab [(21,.box 21 0),(22,.int .i64 0)] [(21,.box [.str Yj.1,.str Yj.2])] ?_ ?_
     ·exact V.d2 jit cfull d
     refine V.r0 jit ?_
     rw[← hYj]
     first|exact⟨1,by omega,by omega,V.wk⟩|exact⟨2,by omega,by omega,V.wk⟩|exact⟨3,by omega,by omega,V.wk⟩|exact⟨4,by omega,by omega,V.wk⟩
  ·have hlf:decide ((j:Int)<out)=false:=decide_eq_false hjo
   obtain rfl:out=(j:Int):=by omega
   rcases (show j=1∨j=2∨j=3∨j=4 by omega) with rfl|rfl|rfl|rfl
   all_goals
    simp only[rb15,rbY]
    refine V.r0 (V.a2 jit hlf) ?_
    exact Fin.of rfl
theorem tw_congr {p q:Int→Bool} : ∀ {l:List Int},(∀ o∈l,p o=q o)→l.takeWhile p=l.takeWhile q∧l.dropWhile p=l.dropWhile q
 | [],_=>⟨rfl,rfl⟩
 | x::l,h=>by
  have ih:=tw_congr (l:=l) fun o ho=>h o (List.mem_cons_of_mem _ ho)
  have hx:=h x List.mem_cons_self
  simp only[List.takeWhile_cons,List.dropWhile_cons,hx]
  split
  ·exact⟨by rw[ih.1],ih.2⟩
  ·exact⟨rfl,rfl⟩
theorem jeB {r s:Nat→Rat} : ∀ {n:Nat},(∀ i,i<n→r i=s i)→rS r n=rS s n
 | 0,_=>rfl
 | n+1,h=>by
  have ih:=jeB (r:=r) (s:=s) (n:=n) fun i hi=>h i (by omega)
  have c:=tw_congr (l:=rS s n) (p:=fun o => !decide (r o.toNat<r n)) (q:=fun o => !decide (s o.toNat<s n)) fun o ho=>by
   have:=rS_mem s n o ho
   rw[h o.toNat (by omega),h n (by omega)]
  show rIns _ _ (rS r n)=rIns _ _ (rS s n)
  rw[ih]
  unfold rIns
  rw[c.1,c.2]
theorem jcL {data:List Int}{p out:Int}(h1:0≤p)(h2:0≤out):(data.take (p+out).toNat).drop p.toNat=slot data p out:=by
 unfold slot
 rw[show (p+out).toNat=p.toNat+out.toNat by omega,List.drop_take]
 rw[show p.toNat+out.toNat-p.toNat=out.toNat by omega]
theorem jdG {zs:List Int}{out:Int}{data xs:List Int}(h:jag zs out data=true)(hi:okIdx zs xs=true):0≤pz (zs.zip xs)*out∧pz (zs.zip xs)*out+out≤data.length:=by
 have o:=jap h
 unfold okIdx at hi
 simp only[ji0,decide_eq_true_eq,jjE] at hi
 have b:=pz_bd hi.2
 have e:(zs.zip xs).map (·.1)=zs:=List.map_fst_zip (by omega)
 rw[e] at b
 refine⟨ji6 b.1 (by omega),?_⟩
 have m:=jji b.2 (show 0≤out by omega)
 rw[jjx,jjy] at m
 omega
def sQ (P:Nat→Rat):Nat→Rat
 | 0=>0
 | k+1=>smF P k
theorem rcellq1 {x0:Rat}{z0 out:Int}{data:List Int}(hg:jag [z0] out data=true)(h0:Fq 40 x0) :
  Cl 12 [.agg [.ints .i64 [z0],.int .i64 out,.ints .i64 data],.slf 2 1 (fun j=>[.str (txq ((rqN x0 0 0) j)).1,.str (txq ((rqN x0 0 0) j)).2])] (.tup [.ints .i64 [spB z0 x0],.ints .i64 [0],slQ (fun k=>txq (wqN (rqN (spR z0 x0) 0 0) [0] 1 k)) 2,.int .i64 0]):=by
 have og:=jap hg
 have ck:Cl 35 [.agg [.ints .i64 [z0],.int .i64 out,.ints .i64 data]] (.bool true):=by
  have c:=jcc [z0] out data (by simp) (by omega)
  rw[hg] at c
  exact c
 have cell:=jhE (zs:=[z0]) (out:=out) (data:=data) (n:=1) (by omega) rfl (rqN x0 0 0) (fun i hi=>by
  rcases (show i=0 by omega) with rfl
  ·exact h0) (fun i hi=>by
  rcases (show i=0 by omega) with rfl
  ·exact og.2.1 z0 (by simp)) ck
 have eO:rS (fun i=>spR ([z0].getD i 0) ((rqN x0 0 0) i)) 1=[0]:=(jeB (s:=(rqN (spR z0 x0) 0 0)) fun i hi=>by
  rcases (show i=0 by omega) with rfl
  ·rfl).trans (rS1 _)
 rw[eO] at cell
 have eW:slQ (fun k=>txq (wqN (fun i=>spR ([z0].getD i 0) ((rqN x0 0 0) i)) [0] 1 k)) (1+1)=slQ (fun k=>txq (wqN (rqN (spR z0 x0) 0 0) [0] 1 k)) 2:=by
  rfl
 rw[eW] at cell
 exact cell
theorem revalq1 {x0:Rat}{z0 out:Int}{data:List Int}(hg:jag [z0] out data=true)(h0:Fq 40 x0) :
  Cl 14 [.agg [.ints .i64 [z0],.int .i64 out,.ints .i64 data],.slf 2 1 (fun j=>[.str (txq ((rqN x0 0 0) j)).1,.str (txq ((rqN x0 0 0) j)).2])] (.tup [slQ (fun j=>txq (evQ [z0] out data x0 0 0 j)) out.toNat,.int .i64 0]):=by
 have og:=jap hg
 have cell:=rcellq1 hg h0
 have s0:=og.2.1 z0 (by simp)
 have f0:=jaX h0 (by decide) s0
 have b0:=jb2 s0.1 x0
 have fr:∀ k,Fq 43 ((rqN (spR z0 x0) 0 0) k):=fq_rq f0 jbj jbj
 have es:=fun j=>ev1_sm (x0:=x0) s0.1 out data j
 obtain⟨ol,ox,oc⟩:=corn1 (O:=[0]) rfl (spB z0 x0)
 have oi:∀ k,k<2→okIdx [z0] ((atK [spB z0 x0,0,0,0] ([0]:List Int) k).take 1)=true:=by
  intro k hk
  obtain⟨i0,e,hh⟩:=oc k hk
  rw[e]
  simp[okIdx]
  omega
 obtain⟨R,eR⟩:∃ R,(rqN (spR z0 x0) 0 0)=R:=⟨_,rfl⟩
 rw[eR] at fr cell
 simp only[eR] at es
 obtain⟨U,eU⟩:∃ U:Nat→List Int,U=fun k=>slot data (pz ([z0].zip ((atK [spB z0 x0,0,0,0] ([0]:List Int) k).take 1))*out) out:=⟨_,rfl⟩
 have uv:∀ k,k≤1→(U k).length=out.toNat ∧ ∀ j,0≤(U k).getD j 0∧(U k).getD j 0≤65535:=fun k hk=>by
  rw[eU]
  exact⟨ja3 hg (oi k (by omega)),jaR og.2.2.2 _ _⟩
 have es:∀ j,evQ [z0] out data x0 0 0 j=smF (fun k=>wqN R ([0]:List Int) 1 k*(((U k).getD j 0:Int):Rat)) 1/65535:=fun j=>by
  rw[eU]
  exact es j
 have fm:∀ j k,k≤1→Fq 92 (wqN R ([0]:List Int) 1 k*(((U k).getD j 0:Int):Rat)):=fun j k hk=>(fq_wq fr ([0]:List Int) 1 k).mul (jaB (n:=5) (by have:=(uv k hk).2 j;omega) (by omega))
 have fs:∀ j k,k≤1→Fq 371 (smF (fun k=>wqN R ([0]:List Int) 1 k*(((U k).getD j 0:Int):Rat)) k):=fun j k hk=>by
  have fa:∀ k,k≤1→Fq ((k+1)*92+k) (smF (fun k=>wqN R ([0]:List Int) 1 k*(((U k).getD j 0:Int):Rat)) k):=fun k=>by
   induction k with
   | zero=>exact fun _=>(fm j 0 (by omega)).mono (by omega)
   | succ k ih=>exact fun h=>((ih (by omega)).add (fm j (k+1) h)).mono (by rw[ji7 (k+1)];omega)
  exact(fa k hk).mono (by omega)
 have fz:Fq 371 (0:Rat):=jbj.mono (by omega)
 have c:=reval1_t [z0] data ([0]:List Int) out (fun j=>[.str (txq ((rqN x0 0 0) j)).1,.str (txq ((rqN x0 0 0) j)).2]) (fun k=>(atK [spB z0 x0,0,0,0] ([0]:List Int) k).take 1) U (fun k=>pz ([z0].zip ((atK [spB z0 x0,0,0,0] ([0]:List Int) k).take 1))*out) (fun k=>txq (wqN R ([0]:List Int) 1 k)) (fun j=>txq (smF (fun k=>wqN R ([0]:List Int) 1 k*(((U k).getD j 0:Int):Rat)) 1/65535)) (fun j k=>txq (((U k).getD j 0:Int):Rat)) (fun j k=>txq (wqN R ([0]:List Int) 1 k*(((U k).getD j 0:Int):Rat))) (fun j k=>txq (sQ (fun k=>wqN R ([0]:List Int) 1 k*(((U k).getD j 0:Int):Rat)) k)) og.1 ol (by omega)
  (fun k hk=>by
   rcases (show k=0 by omega) with rfl<;>refine⟨by decide,?_,rfl⟩<;>(simp[atK];omega))
  (fun k hk=>by
   obtain⟨i0,e,hh⟩:=oc k (by omega)
   rw[e];rfl)
  (fun k hk=>?_) (fun k hk=>(uv k hk).1) cell (fun k hk=>?_) (jbC (n:=0) (by omega)) (fun j=>rfl) (txq ((65535:Int):Rat)) (jbC (n:=65535) (by omega))
  (fun j k hj hk=>jbC (by have:=(uv k hk).2 j;omega))
  (fun j k hj hk=>zrmul (fq_wq fr ([0]:List Int) 1 k) (jaB (n:=5) (by have:=(uv k hk).2 j;omega) (by omega)) (by omega) (by omega) (by omega))
  (fun j k hj hk=>?_)
  (fun j hj=>zrdiv (fs j 1 (by omega)) (jaB (n:=5) (z:=65535) jaF (by decide)) jbu (by omega) (by omega) (by omega))
 ·rw[show (fun j=>txq (evQ [z0] out data x0 0 0 j))=_ from funext fun j=>congrArg txq (es j)]
  exact c
 ·have bd:=jdG hg (oi k (by omega))
  refine⟨bd,?_⟩
  rw[eU]
  exact jcL bd.1 (by omega)
 ·have r:=jc6 [z0] out data ((atK [spB z0 x0,0,0,0] ([0]:List Int) k).take 1) (by simp) (by omega) (by rw[jjM];omega)
  rw[hg,oi k (by omega)] at r
  exact r
 ·rcases k with _|k
  ·have c:=zradd fz (fm j 0 (by omega)) (by omega) (by omega) (by omega)
   rw[Rat.zero_add] at c
   exact c
  ·exact zradd (fs j k (by omega)) (fm j (k+1) hk) (by omega) (by omega) (by omega)
theorem rcellq2 {x0 x1:Rat}{z0 z1 out:Int}{data:List Int}(hg:jag [z0,z1] out data=true)(h0:Fq 40 x0)(h1:Fq 40 x1) :
  Cl 12 [.agg [.ints .i64 [z0,z1],.int .i64 out,.ints .i64 data],.slf 2 2 (fun j=>[.str (txq ((rqN x0 x1 0) j)).1,.str (txq ((rqN x0 x1 0) j)).2])] (.tup [.ints .i64 [spB z0 x0,spB z1 x1],.ints .i64 (ord2 (spR z0 x0) (spR z1 x1)),slQ (fun k=>txq (wqN (rqN (spR z0 x0) (spR z1 x1) 0) (ord2 (spR z0 x0) (spR z1 x1)) 2 k)) 3,.int .i64 0]):=by
 have og:=jap hg
 have ck:Cl 35 [.agg [.ints .i64 [z0,z1],.int .i64 out,.ints .i64 data]] (.bool true):=by
  have c:=jcc [z0,z1] out data (by simp) (by omega)
  rw[hg] at c
  exact c
 have cell:=jhE (zs:=[z0,z1]) (out:=out) (data:=data) (n:=2) (by omega) rfl (rqN x0 x1 0) (fun i hi=>by
  rcases (show i=0∨i=1 by omega) with rfl|rfl
  ·exact h0
  ·exact h1) (fun i hi=>by
  rcases (show i=0∨i=1 by omega) with rfl|rfl
  ·exact og.2.1 z0 (by simp)
  ·exact og.2.1 z1 (by simp)) ck
 have eO:rS (fun i=>spR ([z0,z1].getD i 0) ((rqN x0 x1 0) i)) 2=(ord2 (spR z0 x0) (spR z1 x1)):=(jeB (s:=(rqN (spR z0 x0) (spR z1 x1) 0)) fun i hi=>by
  rcases (show i=0∨i=1 by omega) with rfl|rfl
  ·rfl
  ·rfl).trans (rS2 _ _ _)
 rw[eO] at cell
 have eW:slQ (fun k=>txq (wqN (fun i=>spR ([z0,z1].getD i 0) ((rqN x0 x1 0) i)) (ord2 (spR z0 x0) (spR z1 x1)) 2 k)) (2+1)=slQ (fun k=>txq (wqN (rqN (spR z0 x0) (spR z1 x1) 0) (ord2 (spR z0 x0) (spR z1 x1)) 2 k)) 3:=by
  obtain⟨O,eq⟩:∃ O,(ord2 (spR z0 x0) (spR z1 x1))=O:=⟨_,rfl⟩
  have hO:O=[0,1]∨O=[1,0]:=by rw[← eq];exact jeG _ _
  rw[eq]
  clear eq eO cell
  rcases hO with rfl|rfl<;>rfl
 rw[eW] at cell
 exact cell
theorem revalq2 {x0 x1:Rat}{z0 z1 out:Int}{data:List Int}(hg:jag [z0,z1] out data=true)(h0:Fq 40 x0)(h1:Fq 40 x1) :
  Cl 14 [.agg [.ints .i64 [z0,z1],.int .i64 out,.ints .i64 data],.slf 2 2 (fun j=>[.str (txq ((rqN x0 x1 0) j)).1,.str (txq ((rqN x0 x1 0) j)).2])] (.tup [slQ (fun j=>txq (evQ [z0,z1] out data x0 x1 0 j)) out.toNat,.int .i64 0]):=by
 have og:=jap hg
 have cell:=rcellq2 hg h0 h1
 have s0:=og.2.1 z0 (by simp)
 have f0:=jaX h0 (by decide) s0
 have b0:=jb2 s0.1 x0
 have s1:=og.2.1 z1 (by simp)
 have f1:=jaX h1 (by decide) s1
 have b1:=jb2 s1.1 x1
 have fr:∀ k,Fq 43 ((rqN (spR z0 x0) (spR z1 x1) 0) k):=fq_rq f0 f1 jbj
 have es:=fun j=>ev2_sm (x0:=x0) (x1:=x1) s0.1 s1.1 out data j
 have hO:(ord2 (spR z0 x0) (spR z1 x1))=[0,1]∨(ord2 (spR z0 x0) (spR z1 x1))=[1,0]:=jeG _ _
 obtain⟨O,eq⟩:∃ O,(ord2 (spR z0 x0) (spR z1 x1))=O:=⟨_,rfl⟩
 simp only[eq] at hO
 skip
 rw[eq] at cell
 simp only[eq] at es
 obtain⟨ol,ox,oc⟩:=corn2 (O:=O) hO (spB z0 x0) (spB z1 x1)
 have oi:∀ k,k<3→okIdx [z0,z1] ((atK [spB z0 x0,spB z1 x1,0,0] O k).take 2)=true:=by
  intro k hk
  obtain⟨i0,i1,e,hh⟩:=oc k hk
  rw[e]
  simp[okIdx]
  omega
 obtain⟨R,eR⟩:∃ R,(rqN (spR z0 x0) (spR z1 x1) 0)=R:=⟨_,rfl⟩
 rw[eR] at fr cell
 simp only[eR] at es
 obtain⟨U,eU⟩:∃ U:Nat→List Int,U=fun k=>slot data (pz ([z0,z1].zip ((atK [spB z0 x0,spB z1 x1,0,0] O k).take 2))*out) out:=⟨_,rfl⟩
 have uv:∀ k,k≤2→(U k).length=out.toNat ∧ ∀ j,0≤(U k).getD j 0∧(U k).getD j 0≤65535:=fun k hk=>by
  rw[eU]
  exact⟨ja3 hg (oi k (by omega)),jaR og.2.2.2 _ _⟩
 have es:∀ j,evQ [z0,z1] out data x0 x1 0 j=smF (fun k=>wqN R O 2 k*(((U k).getD j 0:Int):Rat)) 2/65535:=fun j=>by
  rw[eU]
  exact es j
 have fm:∀ j k,k≤2→Fq 92 (wqN R O 2 k*(((U k).getD j 0:Int):Rat)):=fun j k hk=>(fq_wq fr O 2 k).mul (jaB (n:=5) (by have:=(uv k hk).2 j;omega) (by omega))
 have fs:∀ j k,k≤2→Fq 371 (smF (fun k=>wqN R O 2 k*(((U k).getD j 0:Int):Rat)) k):=fun j k hk=>by
  have fa:∀ k,k≤2→Fq ((k+1)*92+k) (smF (fun k=>wqN R O 2 k*(((U k).getD j 0:Int):Rat)) k):=fun k=>by
   induction k with
   | zero=>exact fun _=>(fm j 0 (by omega)).mono (by omega)
   | succ k ih=>exact fun h=>((ih (by omega)).add (fm j (k+1) h)).mono (by rw[ji7 (k+1)];omega)
  exact(fa k hk).mono (by omega)
 have fz:Fq 371 (0:Rat):=jbj.mono (by omega)
 have c:=reval2_t [z0,z1] data O out (fun j=>[.str (txq ((rqN x0 x1 0) j)).1,.str (txq ((rqN x0 x1 0) j)).2]) (fun k=>(atK [spB z0 x0,spB z1 x1,0,0] O k).take 2) U (fun k=>pz ([z0,z1].zip ((atK [spB z0 x0,spB z1 x1,0,0] O k).take 2))*out) (fun k=>txq (wqN R O 2 k)) (fun j=>txq (smF (fun k=>wqN R O 2 k*(((U k).getD j 0:Int):Rat)) 2/65535)) (fun j k=>txq (((U k).getD j 0:Int):Rat)) (fun j k=>txq (wqN R O 2 k*(((U k).getD j 0:Int):Rat))) (fun j k=>txq (sQ (fun k=>wqN R O 2 k*(((U k).getD j 0:Int):Rat)) k)) og.1 ol (by omega)
  (fun k hk=>by
   rcases hO with rfl|rfl<;>rcases (show k=0∨k=1 by omega) with rfl|rfl<;>refine⟨by decide,?_,rfl⟩<;>(simp[atK];omega))
  (fun k hk=>by
   obtain⟨i0,i1,e,hh⟩:=oc k (by omega)
   rw[e];rfl)
  (fun k hk=>?_) (fun k hk=>(uv k hk).1) cell (fun k hk=>?_) (jbC (n:=0) (by omega)) (fun j=>rfl) (txq ((65535:Int):Rat)) (jbC (n:=65535) (by omega))
  (fun j k hj hk=>jbC (by have:=(uv k hk).2 j;omega))
  (fun j k hj hk=>zrmul (fq_wq fr O 2 k) (jaB (n:=5) (by have:=(uv k hk).2 j;omega) (by omega)) (by omega) (by omega) (by omega))
  (fun j k hj hk=>?_)
  (fun j hj=>zrdiv (fs j 2 (by omega)) (jaB (n:=5) (z:=65535) jaF (by decide)) jbu (by omega) (by omega) (by omega))
 ·rw[show (fun j=>txq (evQ [z0,z1] out data x0 x1 0 j))=_ from funext fun j=>congrArg txq (es j)]
  exact c
 ·have bd:=jdG hg (oi k (by omega))
  refine⟨bd,?_⟩
  rw[eU]
  exact jcL bd.1 (by omega)
 ·have r:=jc6 [z0,z1] out data ((atK [spB z0 x0,spB z1 x1,0,0] O k).take 2) (by simp) (by omega) (by rw[jjM];omega)
  rw[hg,oi k (by omega)] at r
  exact r
 ·rcases k with _|k
  ·have c:=zradd fz (fm j 0 (by omega)) (by omega) (by omega) (by omega)
   rw[Rat.zero_add] at c
   exact c
  ·exact zradd (fs j k (by omega)) (fm j (k+1) hk) (by omega) (by omega) (by omega)
theorem jir:type_of% @jjb∧type_of% @ji9∧type_of% @ji8∧type_of% @tn0∧type_of% @tn1∧type_of% @tn2∧type_of% @tn3∧type_of% @xt4:=⟨@jjb,@ji9,@ji8,@tn0,@tn1,@tn2,@tn3,@xt4⟩
theorem jiz:type_of% @jjb∧type_of% @jj1 ∧ type_of% @ji9∧type_of% @ji8∧type_of% @tn0∧type_of% @tn1∧type_of% @tn2∧type_of% @tn3∧type_of% @xt4:=⟨@jjb,@jj1,@ji9,@ji8,@tn0,@tn1,@tn2,@tn3,@xt4⟩
theorem jiq:type_of% @jjb∧type_of% @ji9∧type_of% @ji8∧type_of% @k0∧type_of% @k1∧type_of% @k2∧type_of% @k3∧type_of% @tn0∧type_of% @tn1∧type_of% @tn2∧type_of% @tn3∧type_of% @xt4:=⟨@jjb,@ji9,@ji8,@k0,@k1,@k2,@k3,@tn0,@tn1,@tn2,@tn3,@xt4⟩
theorem reval3_t (zs data O:List Int)(out:Int)(X:Nat→List D)(A U:Nat→List Int)(p:Nat→Int)(W Y:Nat→Tx)(I P S:Nat→Nat→Tx)(ho:1≤out∧out≤4)(hl:O.length=3)(hd:data.length≤4096)
  (hA:∀ k,k<3→(0≤O.getD k 0∧O.getD k 0<3)∧(-1000≤(A k).getD (O.getD k 0).toNat 0∧(A k).getD (O.getD k 0).toNat 0≤1000)∧A (k+1)=(A k).set (O.getD k 0).toNat ((A k).getD (O.getD k 0).toNat 0+1)) (hAl:∀ k,k≤3→(A k).length=3)
  (hp:∀ k,k≤3→(0≤p k∧p k+out≤data.length)∧(data.take (p k+out).toNat).drop (p k).toNat=U k) (hU:∀ k,k≤3→(U k).length=out.toNat)
  (cell:Cl 12 [.agg [.ints .i64 zs,.int .i64 out,.ints .i64 data],.slf 2 3 X] (.tup [.ints .i64 (A 0),.ints .i64 O,slQ W 4,.int .i64 0]))
  (place:∀ k,k≤3→Cl 91 [.agg [.ints .i64 zs,.int .i64 out,.ints .i64 data],.ints .i64 (A k)] (.tup [.int .i64 (p k),.int .i64 0]))
  (zero:Cl 39 [.int .i64 0,.int .i64 1] (.agg [.str (S 0 0).1,.str (S 0 0).2])) (s0:∀ j,S j 0=S 0 0) (full:Tx) (cfull:Cl 39 [.int .i64 65535,.int .i64 1] (.agg [.str (full).1,.str (full).2]))
  (ci:∀ j k,j<out.toNat→k≤3→Cl 39 [.int .i64 ((U k).getD j 0),.int .i64 1] (.agg [.str (I j k).1,.str (I j k).2]))
  (cm:∀ j k,j<out.toNat→k≤3→Cl 37 [.agg [.str (W k).1,.str (W k).2],.agg [.str (I j k).1,.str (I j k).2]] (.tup [.agg [.str (P j k).1,.str (P j k).2],.int .i64 0]))
  (ca:∀ j k,j<out.toNat→k≤3→Cl 45 [.agg [.str (S j k).1,.str (S j k).2],.agg [.str (P j k).1,.str (P j k).2]] (.tup [.agg [.str (S j (k+1)).1,.str (S j (k+1)).2],.int .i64 0]))
  (cd:∀ j,j<out.toNat→Cl 46 [.agg [.str (S j 4).1,.str (S j 4).2],.agg [.str (full).1,.str (full).2]] (.tup [.agg [.str (Y j).1,.str (Y j).2],.int .i64 0])) :
  Cl 14 [.agg [.ints .i64 zs,.int .i64 out,.ints .i64 data],.slf 2 3 X] (.tup [slQ Y out.toNat,.int .i64 0]):=by
 have B0:(A 0).length=3:=hAl 0 (by omega)
 refine V.en tbOk Tryz.func14 ?_
 (conv=>whnf)
 (conv=>whnf)
 (try simp only[B0,jj1,jjS,ji8,ji9,tn0,tn1,tn2,tn3,xt4,jjb])
 repeat ((first|refine V.s1 ?_|((try ((with_reducible refine .ext ?_);(conv=>whnf);(try simp only[B0,jj1,jjS,ji8,ji9,tn0,tn1,tn2,tn3,xt4,jjb])));(with_reducible refine jaa (r:=?_) ?_ ?_);rotate_left;(focus (first|exact(cell)));(conv=>whnf)));(try simp only[B0,jj1,jjS,ji8,ji9,tn0,tn1,tn2,tn3,xt4,jjb]))
 refine jad (0:Nat) (fun k=>k≤4) (fun k=>4-k) (fun k=>[(12,.int .i64 (k:Nat)),(10,rcv k)]) (fun k=>(36,.arr .i64 (A (min k 3)))::rch U k) ?_ ?_ ?_
 ·exact V.wk
 ·exact ji2 _
 intro k hk
 try dsimp only at hk ⊢
 have hk4:k=0∨k=1∨k=2∨k=3∨k=4:=by omega
 rcases hk4 with e|e|e|e|e
 all_goals subst e
 ·simp only[k0,rcv,rch,show min 0 3=0 from rfl]
  have hAk:List.take 3 (A 0)=A 0:=jjW (by rw[hAl 0 (by omega)];exact jjc _)
  have pl:=place 0 (by omega)
  obtain⟨⟨pb,pd⟩,pU⟩:=hp 0 (by omega)
  have hUl:=hU 0 (by omega)
  have hle:decide ((0:Int)≤(O.length:Nat))=true:=decide_eq_true (by omega)
  refine V.r0 (V.a2 jir hle) ?_
  refine V.il Tryz.func44 ?_
  refine V.r0 (V.a2 jiz hAk) ?_
  have pl2:=pl
  rw[← hAk] at pl2
  refine .len ?_
  (conv=>whnf)
  refine⟨36,?_⟩
  (conv=>whnf)
  refine jaa (r:=?_) ?_ ?_
  rotate_left
  ·exact pl2
  refine V.r0 (V.a2 jir pU) ?_
  have hlt:decide ((0:Int)<(O.length:Nat))=true:=decide_eq_true (by omega)
  obtain⟨ob,vb,eA⟩:=hA 0 (by omega)
  have hAli:=hAl 0 (by omega)
  refine Cnd.yes hlt ?_
  refine V.r0 jiz ?_
  refine⟨1,by omega,by omega,?_⟩
  refine Wk.pub 148 ?_
  (conv=>whnf)
  simp only[jjS,jj6,← eA]
  exact V.wk
 ·simp only[k1,rcv,rch,show min 1 3=1 from rfl]
  have hAk:List.take 3 (A 1)=A 1:=jjW (by rw[hAl 1 (by omega)];exact jjc _)
  have pl:=place 1 (by omega)
  obtain⟨⟨pb,pd⟩,pU⟩:=hp 1 (by omega)
  have hUl:=hU 1 (by omega)
  have hle:decide ((1:Int)≤(O.length:Nat))=true:=decide_eq_true (by omega)
  refine V.r0 (V.a2 jir hle) ?_
  refine V.il Tryz.func44 ?_
  refine V.r0 (V.a2 jiz hAk) ?_
  have pl2:=pl
  rw[← hAk] at pl2
  refine .len ?_
  (conv=>whnf)
  refine⟨36,?_⟩
  (conv=>whnf)
  refine jaa (r:=?_) ?_ ?_
  rotate_left
  ·exact pl2
  refine V.r0 (V.a2 jir pU) ?_
  have hlt:decide ((1:Int)<(O.length:Nat))=true:=decide_eq_true (by omega)
  obtain⟨ob,vb,eA⟩:=hA 1 (by omega)
  have hAli:=hAl 1 (by omega)
  refine Cnd.yes hlt ?_
  refine V.r0 jiz ?_
  refine⟨2,by omega,by omega,?_⟩
  refine Wk.pub 148 ?_
  (conv=>whnf)
  simp only[jjS,jj6,← eA]
  exact V.wk
 ·simp only[k2,rcv,rch,show min 2 3=2 from rfl]
  have hAk:List.take 3 (A 2)=A 2:=jjW (by rw[hAl 2 (by omega)];exact jjc _)
  have pl:=place 2 (by omega)
  obtain⟨⟨pb,pd⟩,pU⟩:=hp 2 (by omega)
  have hUl:=hU 2 (by omega)
  have hle:decide ((2:Int)≤(O.length:Nat))=true:=decide_eq_true (by omega)
  refine V.r0 (V.a2 jir hle) ?_
  refine V.il Tryz.func44 ?_
  refine V.r0 (V.a2 jiz hAk) ?_
  have pl2:=pl
  rw[← hAk] at pl2
  refine .len ?_
  (conv=>whnf)
  refine⟨36,?_⟩
  (conv=>whnf)
  refine jaa (r:=?_) ?_ ?_
  rotate_left
  ·exact pl2
  refine V.r0 (V.a2 jir pU) ?_
  have hlt:decide ((2:Int)<(O.length:Nat))=true:=decide_eq_true (by omega)
  obtain⟨ob,vb,eA⟩:=hA 2 (by omega)
  have hAli:=hAl 2 (by omega)
  refine Cnd.yes hlt ?_
  refine V.r0 jiz ?_
  refine⟨3,by omega,by omega,?_⟩
  refine Wk.pub 148 ?_
  (conv=>whnf)
  simp only[jjS,jj6,← eA]
  exact V.wk
 ·simp only[k3,rcv,rch,show min 3 3=3 from rfl]
  have hAk:List.take 3 (A 3)=A 3:=jjW (by rw[hAl 3 (by omega)];exact jjc _)
  have pl:=place 3 (by omega)
  obtain⟨⟨pb,pd⟩,pU⟩:=hp 3 (by omega)
  have hUl:=hU 3 (by omega)
  have hle:decide ((3:Int)≤(O.length:Nat))=true:=decide_eq_true (by omega)
  refine V.r0 (V.a2 jir hle) ?_
  refine V.il Tryz.func44 ?_
  refine V.r0 (V.a2 jiz hAk) ?_
  have pl2:=pl
  rw[← hAk] at pl2
  refine .len ?_
  (conv=>whnf)
  refine⟨36,?_⟩
  (conv=>whnf)
  refine jaa (r:=?_) ?_ ?_
  rotate_left
  ·exact pl2
  refine V.r0 (V.a2 jir pU) ?_
  have hlf:decide ((3:Int)<(O.length:Nat))=false:=decide_eq_false (by omega)
  refine Cnd.no hlf ?_
  refine V.r0 jiz ?_
  refine⟨4,by omega,by omega,?_⟩
  refine Wk.pub 148 ?_
  (conv=>whnf)
  simp only[jjS,jj6]
  exact V.wk
 ·simp only[rcv,rch,show ((4:Nat):Int)=4 from rfl]
  have hle:decide ((4:Int)≤(O.length:Nat))=false:=decide_eq_false (by omega)
  refine V.r0 (V.a2 jir hle) ?_
  refine jad (0:Nat) (fun j=>(j:Int)≤out) (fun j=>out.toNat-j) (fun j=>[(16,.int .i64 (j:Nat)),(15,rb15 j)]) (fun j=>rbY Y j) ?_ ?_ ?_
  ·exact V.wk
  ·show ((0:Nat):Int)≤out
   omega
  intro j hj
  try dsimp only at hj ⊢
  by_cases hjo:(j:Int)<out
  ·have hlt:decide ((j:Int)<out)=true:=decide_eq_true hjo
   have hj4:j=0∨j=1∨j=2∨j=3:=by omega
   have ji:j<out.toNat:=by omega
   have d:=cd j ji
   have e0:=s0 j
   have i0:=ci j 0 ji (by omega)
   have m0:=cm j 0 ji (by omega)
   have a0:=ca j 0 ji (by omega)
   have u0:=hU 0 (by omega)
   have i1:=ci j 1 ji (by omega)
   have m1:=cm j 1 ji (by omega)
   have a1:=ca j 1 ji (by omega)
   have u1:=hU 1 (by omega)
   have i2:=ci j 2 ji (by omega)
   have m2:=cm j 2 ji (by omega)
   have a2:=ca j 2 ji (by omega)
   have u2:=hU 2 (by omega)
   have i3:=ci j 3 ji (by omega)
   have m3:=cm j 3 ji (by omega)
   have a3:=ca j 3 ji (by omega)
   have u3:=hU 3 (by omega)
   obtain⟨Sj,hSj⟩:∃ f,S j=f:=⟨_,rfl⟩
   obtain⟨Pj,hPj⟩:∃ f,P j=f:=⟨_,rfl⟩
   obtain⟨Ij,hIj⟩:∃ f,I j=f:=⟨_,rfl⟩
   obtain⟨Yj,hYj⟩:∃ f,Y j=f:=⟨_,rfl⟩
   simp only[hSj,hPj,hIj,hYj] at d e0 i0 m0 a0 i1 m1 a1 i2 m2 a2 i3 m3 a3
   rw[← e0] at zero
   rcases hj4 with rfl|rfl|rfl|rfl
   all_goals
    simp only[k0,k1,k2,k3,rb15,rbY] at hlt ⊢
    refine V.r1 (V.a2 jir hlt) zero ?_
    refine jad (0:Nat) (fun k=>k≤4) (fun k=>4-k) (fun k=>[(18,.int .i64 (k:Nat))]) (fun k=>[(17,.box [.str (Sj k).1,.str (Sj k).2])]) ?_ ?_ ?_
    ·exact V.wk
    ·exact ji2 _
    intro k hk
    try dsimp only at hk ⊢
    rcases (show k=0∨k=1∨k=2∨k=3∨k=4 by omega) with rfl|rfl|rfl|rfl|rfl
    ·refine V.r0 jiq ?_
     refine⟨Pq14z,[],V.pok,?_⟩
     refine jab [(19,.box 19 0),(20,.int .i64 0)] [(19,.box [.str (Pj 0).1,.str (Pj 0).2])] ?_ ?_
     ·exact V.d2 jiq i0 m0
     refine V.r1 jiq a0 ?_
     exact⟨1,by omega,by omega,V.wk⟩
    ·refine V.r0 jiq ?_
     refine⟨Pq14z,[],V.pok,?_⟩
     refine jab [(19,.box 19 0),(20,.int .i64 0)] [(19,.box [.str (Pj 1).1,.str (Pj 1).2])] ?_ ?_
     ·exact V.d2 jiq i1 m1
     refine V.r1 jiq a1 ?_
     exact⟨2,by omega,by omega,V.wk⟩
    ·refine V.r0 jiq ?_
     refine⟨Pq14z,[],V.pok,?_⟩
     refine jab [(19,.box 19 0),(20,.int .i64 0)] [(19,.box [.str (Pj 2).1,.str (Pj 2).2])] ?_ ?_
     ·exact V.d2 jiq i2 m2
     refine V.r1 jiq a2 ?_
     exact⟨3,by omega,by omega,V.wk⟩
    ·refine V.r0 jiq ?_
     refine⟨Pq14z,[],V.pok,?_⟩
     refine jab [(19,.box 19 0),(20,.int .i64 0)] [(19,.box [.str (Pj 3).1,.str (Pj 3).2])] ?_ ?_
     ·exact V.d2 jiq i3 m3
     refine V.r1 jiq a3 ?_
     exact⟨4,by omega,by omega,V.wk⟩
    ·refine V.r0 jiq ?_
     refine⟨Pq80z,[],V.pok,?_⟩
     refine jab [(21,.box 21 0),(22,.int .i64 0)] [(21,.box [.str Yj.1,.str Yj.2])] ?_ ?_
     ·exact V.d2 jir cfull d
     refine V.r0 jir ?_
     rw[← hYj]
     first|exact⟨1,by omega,by omega,V.wk⟩|exact⟨2,by omega,by omega,V.wk⟩|exact⟨3,by omega,by omega,V.wk⟩|exact⟨4,by omega,by omega,V.wk⟩
  ·have hlf:decide ((j:Int)<out)=false:=decide_eq_false hjo
   obtain rfl:out=(j:Int):=by omega
   rcases (show j=1∨j=2∨j=3∨j=4 by omega) with rfl|rfl|rfl|rfl
   all_goals
    simp only[rb15,rbY]
    refine V.r0 (V.a2 jir hlf) ?_
    exact Fin.of rfl
theorem rcellq3 {x0 x1 x2:Rat}{z0 z1 z2 out:Int}{data:List Int}(hg:jag [z0,z1,z2] out data=true)(h0:Fq 40 x0)(h1:Fq 40 x1)(h2:Fq 40 x2) :
  Cl 12 [.agg [.ints .i64 [z0,z1,z2],.int .i64 out,.ints .i64 data],.slf 2 3 (fun j=>[.str (txq ((rqN x0 x1 x2) j)).1,.str (txq ((rqN x0 x1 x2) j)).2])] (.tup [.ints .i64 [spB z0 x0,spB z1 x1,spB z2 x2],.ints .i64 (ord3 (spR z0 x0) (spR z1 x1) (spR z2 x2)),slQ (fun k=>txq (wqN (rqN (spR z0 x0) (spR z1 x1) (spR z2 x2)) (ord3 (spR z0 x0) (spR z1 x1) (spR z2 x2)) 3 k)) 4,.int .i64 0]):=by
 have og:=jap hg
 have ck:Cl 35 [.agg [.ints .i64 [z0,z1,z2],.int .i64 out,.ints .i64 data]] (.bool true):=by
  have c:=jcc [z0,z1,z2] out data (by simp) (by omega)
  rw[hg] at c
  exact c
 have cell:=jhE (zs:=[z0,z1,z2]) (out:=out) (data:=data) (n:=3) (by omega) rfl (rqN x0 x1 x2) (fun i hi=>by
  rcases (show i=0∨i=1∨i=2 by omega) with rfl|rfl|rfl
  ·exact h0
  ·exact h1
  ·exact h2) (fun i hi=>by
  rcases (show i=0∨i=1∨i=2 by omega) with rfl|rfl|rfl
  ·exact og.2.1 z0 (by simp)
  ·exact og.2.1 z1 (by simp)
  ·exact og.2.1 z2 (by simp)) ck
 have eO:rS (fun i=>spR ([z0,z1,z2].getD i 0) ((rqN x0 x1 x2) i)) 3=(ord3 (spR z0 x0) (spR z1 x1) (spR z2 x2)):=(jeB (s:=(rqN (spR z0 x0) (spR z1 x1) (spR z2 x2))) fun i hi=>by
  rcases (show i=0∨i=1∨i=2 by omega) with rfl|rfl|rfl
  ·rfl
  ·rfl
  ·rfl).trans (rS3 _ _ _)
 rw[eO] at cell
 have eW:slQ (fun k=>txq (wqN (fun i=>spR ([z0,z1,z2].getD i 0) ((rqN x0 x1 x2) i)) (ord3 (spR z0 x0) (spR z1 x1) (spR z2 x2)) 3 k)) (3+1)=slQ (fun k=>txq (wqN (rqN (spR z0 x0) (spR z1 x1) (spR z2 x2)) (ord3 (spR z0 x0) (spR z1 x1) (spR z2 x2)) 3 k)) 4:=by
  obtain⟨O,eq⟩:∃ O,(ord3 (spR z0 x0) (spR z1 x1) (spR z2 x2))=O:=⟨_,rfl⟩
  have hO:O=[0,1,2]∨O=[0,2,1]∨O=[1,0,2]∨O=[1,2,0]∨O=[2,0,1]∨O=[2,1,0]:=by rw[← eq];exact jeF _ _ _
  rw[eq]
  clear eq eO cell
  rcases hO with rfl|rfl|rfl|rfl|rfl|rfl<;>rfl
 rw[eW] at cell
 exact cell
theorem revalq3 {x0 x1 x2:Rat}{z0 z1 z2 out:Int}{data:List Int}(hg:jag [z0,z1,z2] out data=true)(h0:Fq 40 x0)(h1:Fq 40 x1)(h2:Fq 40 x2) :
  Cl 14 [.agg [.ints .i64 [z0,z1,z2],.int .i64 out,.ints .i64 data],.slf 2 3 (fun j=>[.str (txq ((rqN x0 x1 x2) j)).1,.str (txq ((rqN x0 x1 x2) j)).2])] (.tup [slQ (fun j=>txq (evQ [z0,z1,z2] out data x0 x1 x2 j)) out.toNat,.int .i64 0]):=by
 have og:=jap hg
 have cell:=rcellq3 hg h0 h1 h2
 have s0:=og.2.1 z0 (by simp)
 have f0:=jaX h0 (by decide) s0
 have b0:=jb2 s0.1 x0
 have s1:=og.2.1 z1 (by simp)
 have f1:=jaX h1 (by decide) s1
 have b1:=jb2 s1.1 x1
 have s2:=og.2.1 z2 (by simp)
 have f2:=jaX h2 (by decide) s2
 have b2:=jb2 s2.1 x2
 have fr:∀ k,Fq 43 ((rqN (spR z0 x0) (spR z1 x1) (spR z2 x2)) k):=fq_rq f0 f1 f2
 have es:=fun j=>ev3_sm (x0:=x0) (x1:=x1) (x2:=x2) s0.1 s1.1 s2.1 out data j
 have hO:(ord3 (spR z0 x0) (spR z1 x1) (spR z2 x2))=[0,1,2]∨(ord3 (spR z0 x0) (spR z1 x1) (spR z2 x2))=[0,2,1]∨(ord3 (spR z0 x0) (spR z1 x1) (spR z2 x2))=[1,0,2]∨(ord3 (spR z0 x0) (spR z1 x1) (spR z2 x2))=[1,2,0]∨(ord3 (spR z0 x0) (spR z1 x1) (spR z2 x2))=[2,0,1]∨(ord3 (spR z0 x0) (spR z1 x1) (spR z2 x2))=[2,1,0]:=jeF _ _ _
 obtain⟨O,eq⟩:∃ O,(ord3 (spR z0 x0) (spR z1 x1) (spR z2 x2))=O:=⟨_,rfl⟩
 simp only[eq] at hO
 skip
 rw[eq] at cell
 simp only[eq] at es
 obtain⟨ol,ox,oc⟩:=corn3 (O:=O) hO (spB z0 x0) (spB z1 x1) (spB z2 x2)
 have oi:∀ k,k<4→okIdx [z0,z1,z2] ((atK [spB z0 x0,spB z1 x1,spB z2 x2,0] O k).take 3)=true:=by
  intro k hk
  obtain⟨i0,i1,i2,e,hh⟩:=oc k hk
  rw[e]
  simp[okIdx]
  omega
 obtain⟨R,eR⟩:∃ R,(rqN (spR z0 x0) (spR z1 x1) (spR z2 x2))=R:=⟨_,rfl⟩
 rw[eR] at fr cell
 simp only[eR] at es
 obtain⟨U,eU⟩:∃ U:Nat→List Int,U=fun k=>slot data (pz ([z0,z1,z2].zip ((atK [spB z0 x0,spB z1 x1,spB z2 x2,0] O k).take 3))*out) out:=⟨_,rfl⟩
 have uv:∀ k,k≤3→(U k).length=out.toNat ∧ ∀ j,0≤(U k).getD j 0∧(U k).getD j 0≤65535:=fun k hk=>by
  rw[eU]
  exact⟨ja3 hg (oi k (by omega)),jaR og.2.2.2 _ _⟩
 have es:∀ j,evQ [z0,z1,z2] out data x0 x1 x2 j=smF (fun k=>wqN R O 3 k*(((U k).getD j 0:Int):Rat)) 3/65535:=fun j=>by
  rw[eU]
  exact es j
 have fm:∀ j k,k≤3→Fq 92 (wqN R O 3 k*(((U k).getD j 0:Int):Rat)):=fun j k hk=>(fq_wq fr O 3 k).mul (jaB (n:=5) (by have:=(uv k hk).2 j;omega) (by omega))
 have fs:∀ j k,k≤3→Fq 371 (smF (fun k=>wqN R O 3 k*(((U k).getD j 0:Int):Rat)) k):=fun j k hk=>by
  have fa:∀ k,k≤3→Fq ((k+1)*92+k) (smF (fun k=>wqN R O 3 k*(((U k).getD j 0:Int):Rat)) k):=fun k=>by
   induction k with
   | zero=>exact fun _=>(fm j 0 (by omega)).mono (by omega)
   | succ k ih=>exact fun h=>((ih (by omega)).add (fm j (k+1) h)).mono (by rw[ji7 (k+1)];omega)
  exact(fa k hk).mono (by omega)
 have fz:Fq 371 (0:Rat):=jbj.mono (by omega)
 have c:=reval3_t [z0,z1,z2] data O out (fun j=>[.str (txq ((rqN x0 x1 x2) j)).1,.str (txq ((rqN x0 x1 x2) j)).2]) (fun k=>(atK [spB z0 x0,spB z1 x1,spB z2 x2,0] O k).take 3) U (fun k=>pz ([z0,z1,z2].zip ((atK [spB z0 x0,spB z1 x1,spB z2 x2,0] O k).take 3))*out) (fun k=>txq (wqN R O 3 k)) (fun j=>txq (smF (fun k=>wqN R O 3 k*(((U k).getD j 0:Int):Rat)) 3/65535)) (fun j k=>txq (((U k).getD j 0:Int):Rat)) (fun j k=>txq (wqN R O 3 k*(((U k).getD j 0:Int):Rat))) (fun j k=>txq (sQ (fun k=>wqN R O 3 k*(((U k).getD j 0:Int):Rat)) k)) og.1 ol (by omega)
  (fun k hk=>by
   rcases hO with rfl|rfl|rfl|rfl|rfl|rfl<;>rcases (show k=0∨k=1∨k=2 by omega) with rfl|rfl|rfl<;>refine⟨by decide,?_,rfl⟩<;>(simp[atK];omega))
  (fun k hk=>by
   obtain⟨i0,i1,i2,e,hh⟩:=oc k (by omega)
   rw[e];rfl)
  (fun k hk=>?_) (fun k hk=>(uv k hk).1) cell (fun k hk=>?_) (jbC (n:=0) (by omega)) (fun j=>rfl) (txq ((65535:Int):Rat)) (jbC (n:=65535) (by omega))
  (fun j k hj hk=>jbC (by have:=(uv k hk).2 j;omega))
  (fun j k hj hk=>zrmul (fq_wq fr O 3 k) (jaB (n:=5) (by have:=(uv k hk).2 j;omega) (by omega)) (by omega) (by omega) (by omega))
  (fun j k hj hk=>?_)
  (fun j hj=>zrdiv (fs j 3 (by omega)) (jaB (n:=5) (z:=65535) jaF (by decide)) jbu (by omega) (by omega) (by omega))
 ·rw[show (fun j=>txq (evQ [z0,z1,z2] out data x0 x1 x2 j))=_ from funext fun j=>congrArg txq (es j)]
  exact c
 ·have bd:=jdG hg (oi k (by omega))
  refine⟨bd,?_⟩
  rw[eU]
  exact jcL bd.1 (by omega)
 ·have r:=jc6 [z0,z1,z2] out data ((atK [spB z0 x0,spB z1 x1,spB z2 x2,0] O k).take 3) (by simp) (by omega) (by rw[jjM];omega)
  rw[hg,oi k (by omega)] at r
  exact r
 ·rcases k with _|k
  ·have c:=zradd fz (fm j 0 (by omega)) (by omega) (by omega) (by omega)
   rw[Rat.zero_add] at c
   exact c
  ·exact zradd (fs j k (by omega)) (fm j (k+1) hk) (by omega) (by omega) (by omega)
theorem fin_nili (k:IntKind):_root_.Go.V.Fin (.ints k []) .nil:=⟨fun hp v hv=>by
 simp only[Den] at hv ⊢
 subst hv
 exact⟨none,0,rfl,jjc _,ji2 _,fun _ h=>absurd h (by simp),rfl,rfl⟩⟩
theorem jga (p:Nat→Prop):∀ m:Nat,(∀ i,i<m→p i) ∨ ∃ k,k<m∧(∀ i,i<k→p i) ∧ ¬ p k
 | 0 => .inl fun i hi=>absurd hi (Nat.not_lt_zero _)
 | m+1=>by
  rcases jga p m with h|⟨k,h1,h2,h3⟩
  ·by_cases g:p m
   ·exact .inl fun i hi=>by
     rcases jjk i m with a|a
     ·exact h i a
     ·obtain rfl:i=m:=by omega
      exact g
   ·exact .inr ⟨m,by omega,h,g⟩
  ·exact .inr ⟨k,by omega,h2,h3⟩
end Go.Proofs.YtbnghipgicmpdaaGreatDoor
end
section
namespace Go.Gr
def PR:List Nat→Nat
 | []=>1
 | n::r=>n*PR r
def ixl:List Nat→Nat→List Int
 | [],_=>[]
 | n::r,m=>((m/PR r%n:Nat):Int)::ixl r m
theorem jd5 {ns:List Nat}(h:∀ n∈ns,0<n):0<PR ns:=by
 induction ns with
 | nil=>decide
 | cons n r ih=>exact Nat.mul_pos (h n (by simp)) (ih fun x hx=>h x (by simp[hx]))
theorem jak (ns:List Nat)(m:Nat):(ixl ns m).length=ns.length:=by
 induction ns with
 | nil=>rfl
 | cons n r ih=>simp[ixl,ih]
theorem jcX (ns:List Nat)(m i n:Nat)(h:ns[i]? = some n):(ixl ns m)[i]? = some ((m/PR (ns.drop (i+1))%n:Nat):Int):=by
 induction ns generalizing i with
 | nil=>simp at h
 | cons a r ih=>
  cases i with
  | zero=>simp at h;subst h;simp[ixl]
  | succ i=>simpa [ixl] using ih i (by simpa using h)
theorem jhV (ns:List Nat)(hp:∀ n∈ns,0<n)(m:Nat):ixl ns (m%PR ns)=ixl ns m:=by
 induction ns generalizing m with
 | nil=>rfl
 | cons n r ih=>
  have hr:∀ x∈r,0<x:=fun x hx=>hp x (by simp[hx])
  have h1:=jd5 hr
  simp only[ixl,PR]
  have e1:m%(n*PR r)/PR r%n=m/PR r%n:=by
   rw[jjg,Nat.mod_mul_right_div_self,Nat.mod_mod]
  have e2:ixl r (m%(n*PR r))=ixl r m:=by
   rw[← ih hr (m%(n*PR r)),Nat.mod_mul_left_mod,ih hr]
  rw[e1,e2]
theorem jdc (ns:List Nat)(hp:∀ n∈ns,0<n)(m:Nat)(h:m%PR ns=PR ns-1):ixl ns m=ns.map fun n:Nat=>(n:Int)-1:=by
 induction ns generalizing m with
 | nil=>rfl
 | cons n r ih=>
  have hr:∀ x∈r,0<x:=fun x hx=>hp x (by simp[hx])
  have hn:0<n:=hp n (by simp)
  have h1:=jd5 hr
  simp only[PR] at h
  rw[jjg,Nat.mod_mul] at h
  have h2:=jjf m h1
  have h3:=jjf (m/PR r) hn
  have h4:PR r*(m/PR r%n)+m%PR r=PR r*(n-1)+(PR r-1):=by
   have:PR r*n=PR r*(n-1)+PR r:=by
    obtain⟨k,rfl⟩:∃ k,n=k+1:=⟨n-1,by omega⟩
    simp[Nat.mul_add]
   omega
  have h5:m/PR r%n=n-1:=by
   have e:=congrArg (· / PR r) h4
   simp only[Nat.mul_add_div h1] at e
   rw[Nat.div_eq_of_lt h2,Nat.div_eq_of_lt (by omega:PR r-1<PR r)] at e
   omega
  have h6:m%PR r=PR r-1:=by rw[h5] at h4;omega
  simp only[ixl,List.map_cons,h5,ih hr m h6]
  congr 1
  omega
theorem jda (ns:List Nat)(hp:∀ n∈ns,0<n)(m:Nat)(h:ixl ns m=ns.map fun n:Nat=>(n:Int)-1):m%PR ns=PR ns-1:=by
 induction ns generalizing m with
 | nil=>simp[PR,Nat.mod_one]
 | cons n r ih=>
  have hr:∀ x∈r,0<x:=fun x hx=>hp x (by simp[hx])
  have hn:0<n:=hp n (by simp)
  have h1:=jd5 hr
  simp only[ixl,List.map_cons,List.cons.injEq] at h
  have h2:=ih hr m h.2
  have h3:m/PR r%n=n-1:=by omega
  simp only[PR]
  rw[jjg,Nat.mod_mul,h2,h3]
  obtain⟨k,rfl⟩:∃ k,n=k+1:=⟨n-1,by omega⟩
  simp[Nat.mul_add];omega
theorem jes (ns:List Nat)(hp:∀ n∈ns,0<n)(m:Nat)(h:m%PR ns=0):ixl ns m=List.replicate ns.length 0:=by
 rw[← jhV ns hp m,h]
 clear h
 induction ns with
 | nil=>rfl
 | cons n r ih=>simp only[ixl,Nat.zero_div,Nat.zero_mod,jjV,List.replicate_succ,ih fun x hx=>hp x (by simp[hx])];rfl
theorem succ_div {m P:Nat}(hP:0<P)(h:m%P≠P-1):(m+1)/P=m/P:=by
 have h2:=jjf m hP
 have h3:=Nat.div_add_mod m P
 have:m+1=P*(m/P)+(m%P+1):=by omega
 rw[this,Nat.mul_add_div hP,Nat.div_eq_of_lt (by omega:m%P+1<P)]
 omega
theorem jgo {m P:Nat}(hP:0<P)(h:m%P=P-1):(m+1)/P=m/P+1∧(m+1)%P=0:=by
 have h3:=Nat.div_add_mod m P
 have:m+1=P*(m/P+1):=by rw[Nat.mul_add];omega
 rw[this,Nat.mul_div_cancel_left _ hP,Nat.mul_mod_right]
 exact⟨rfl,rfl⟩
theorem mod_succ {a n:Nat}(hn:0<n)(h:a%n≠n-1):(a+1)%n=a%n+1:=by
 have h2:=jjf a hn
 have h3:=Nat.div_add_mod a n
 have:a+1=n*(a/n)+(a%n+1):=by omega
 rw[this,Nat.mul_add_mod,jjh (by omega:a%n+1<n)]
theorem jdU (ns:List Nat)(hp:∀ n∈ns,0<n)(m j n:Nat)(hj:ns[j]? = some n)(x:Int)(hx:(ixl ns m)[j]? = some x)
  (h1:(ixl ns m).drop (j+1)=(ns.drop (j+1)).map fun n:Nat=>(n:Int)-1) (h2:x≠(n:Int)-1):ixl ns (m+1)=(ixl ns m).take j++(x+1)::List.replicate (ns.length-(j+1)) 0:=by
 induction ns generalizing j with
 | nil=>simp at hj
 | cons a r ih=>
  have hr:∀ y∈r,0<y:=fun y hy=>hp y (by simp[hy])
  have ha:0<a:=hp a (by simp)
  have hP:=jd5 hr
  cases j with
  | zero=>
   simp at hj hx
   subst hj
   simp[ixl] at h1 hx
   have h3:=jda r hr m h1
   have h4:=jgo hP h3
   have h5:=jes r hr _ h4.2
   simp only[ixl,h4.1,h5]
   have h6:m/PR r%a≠a-1:=fun e=>by
    apply h2
    rw[← hx,← Int.natCast_ediv,← Int.natCast_emod,e]
    omega
   rw[mod_succ ha h6]
   subst hx
   simp
  | succ j=>
   have hj':r[j]? = some n:=by simpa using hj
   have hx':(ixl r m)[j]? = some x:=by simpa [ixl] using hx
   have h1':(ixl r m).drop (j+1)=(r.drop (j+1)).map fun n:Nat=>(n:Int)-1:=by simpa [ixl] using h1
   have h3:m%PR r≠PR r-1:=fun e=>by
    have:=jdc r hr m e
    rw[this] at hx'
    simp[hj'] at hx'
    omega
   have h4:=ih hr j hj' hx' h1'
   simp only[ixl,succ_div hP h3,h4,List.take_succ_cons,List.cons_append,jjV]
   congr 2
   simp
theorem jfW (ns:List Nat)(hp:∀ n∈ns,0<n)(m:Nat)(p:Int):((ns.map fun n:Nat=>(n:Int)).zip (ixl ns m)).foldl (fun p a=>p*a.1+a.2) p=p*(PR ns:Int)+((m%PR ns:Nat):Int):=by
 induction ns generalizing p with
 | nil=>simp[ixl,PR,Nat.mod_one]
 | cons n r ih=>
  have hr:∀ x∈r,0<x:=fun x hx=>hp x (by simp[hx])
  simp only[ixl,List.map_cons,List.zip_cons_cons,List.foldl_cons,PR]
  rw[ih hr,jjg n,Nat.mod_mul]
  simp only[Int.natCast_add,jjm,jjx,jjp]
  rw[jjo (PR r:Int) (n:Int),jjo (PR r:Int) _]
  omega
def swp (l:List Int)(a b:Nat):List Int:=(l.set a (l.getD b 0)).set b (l.getD a 0)
def swn (l:List Nat)(a b:Nat):List Nat:=(l.set a (l.getD b 0)).set b (l.getD a 0)
end Go.Gr
end
section
namespace Go.Proofs.YtbnghipgicmpdaaGreatDoor
open Go Go.V Go.Gr
def nz (ns:List Nat):List Int:=ns.map fun n:Nat=>(n:Int)
theorem jcQ (ns:List Nat):prod (nz ns)=(PR ns:Nat):=by
 have h:∀ (l:List Nat) (q:Int),(nz l).foldl (· * ·) q=q*(PR l:Nat):=by
  intro l
  induction l with
  | nil=>intro q;simp[nz,PR]
  | cons x l ih=>
   intro q
   have:=ih (q*x)
   simp only[nz,List.map_cons,List.foldl_cons,PR] at this ⊢
   rw[this,jjm,jjp]
 have:=h ns 1
 simpa [prod] using this
def rl (lt:Int→Int→Bool)(data:List Int)(w:Nat):Nat→List Int
 | 0=>slot data 0 w
 | i+1=>(rl lt data w i).set (i%w) (if lt (data.getD i 0) ((rl lt data w i).getD (i%w) 0) then data.getD i 0 else (rl lt data w i).getD (i%w) 0)
theorem jeY {lt:Int→Int→Bool}{data:List Int}{w:Nat}(h:w≤data.length)(i:Nat):(rl lt data w i).length=w:=by
 induction i with
 | zero=>simp[rl,slot];omega
 | succ i ih=>simp[rl,ih]
theorem jf6 {ns:List Nat}{m p n:Nat}(hn:ns[p]? = some n)(hp:p<ns.length) :
  (List.replicate (p+1) (0:Int)++(ixl ns m).drop (p+1)).set p ((m/PR (ns.drop (p+1))%n:Nat):Int)=List.replicate p 0++(ixl ns m).drop p∧m/PR (ns.drop (p+1))/n=m/PR (ns.drop p):=by
 have hx:=jcX ns m p n hn
 constructor
 ·rw[List.set_append_left _ _ (by simp),List.replicate_succ',List.set_append_right _ _ (by simp)]
  rw[jjZ (i:=p) (by rw[jak];exact hp)]
  have:=(jjP.1 hx).2
  rw[this]
  simp
 ·have hd:ns.drop p=n::ns.drop (p+1):=by
   rw[jjZ hp]
   rw[(jjP.1 hn).2]
  rw[hd,PR,Nat.div_div_eq_div_mul,jjg]
theorem rindex_c (ns:List Nat)(m:Nat)(hp:∀ n∈ns,0<n∧n≤1000000)(hl:ns.length≤10000)(hm:m≤1000000000):Cl 63 [.ints .i64 (nz ns),.int .i64 m] (.ints .i64 (ixl ns m)):=by
 have hlen:(nz ns).length=ns.length:=by simp[nz]
 refine V.en tbOk Tryz.func63 ?_
 refine V.r0 (V.a2 hlen @jjb) ?_
 have e0:List.replicate ns.length (0:Int)=List.replicate ns.length 0++(ixl ns m).drop ns.length:=by
  rw[jjX (by rw[jak];omega),List.append_nil]
 have e1:(m:Int)=((m/PR (ns.drop ns.length):Nat):Int):=by simp[PR]
 refine jad (ns.length) (fun k=>k≤ns.length) (fun k=>k) (fun k=>[(1,.int .i64 ((m/PR (ns.drop k):Nat):Int)),(6,.int .i64 ((k:Int)-1))]) (fun k=>[(9,.arr .i64 (List.replicate k 0++(ixl ns m).drop k))]) ?_ ?_ ?_
 ·rw[← e0,← e1]
  exact V.wk
 ·exact jjc _
 intro p hpl
 (conv=>whnf)
 refine V.st ?_
 refine V.br (fun h=>?_) (fun h=>?_)
 ·have hp0:0<p:=by simp at h;omega
  obtain⟨p,rfl⟩:∃ q,p=q+1:=⟨p-1,by omega⟩
  have hp1:p<ns.length:=by omega
  obtain⟨n,hn⟩:∃ n,ns[p]? = some n:=⟨ns[p],jjI hp1⟩
  have hn0:=hp n (jjK hn)
  have en:(nz ns).getD p 0=n:=by simp[nz,jjF,hn]
  have e2:(((p+1:Nat):Int)-1)=(p:Int):=by omega
  have hst:=jf6 (m:=m) hn hp1
  have e3:((m/PR (ns.drop (p+1)):Nat):Int)%(n:Int)=((m/PR (ns.drop (p+1))%n:Nat):Int):=by simp
  have e4:((m/PR (ns.drop (p+1)):Nat):Int)/(n:Int)=((m/PR (ns.drop p):Nat):Int):=by rw[← hst.2];simp
  have hl2:(List.replicate (p+1) (0:Int)++(ixl ns m).drop (p+1)).length=ns.length:=by simp[jak];omega
  have hl3:m/PR (ns.drop (p+1))≤m:=jjt _ _
  generalize hq:m/PR (ns.drop (p+1))=q at *
  refine V.r0 (V.a5 hlen e2 @en @jjb @ji8) ?_
  rw[e3,hst.1]
  refine V.st ?_
  rw[e4]
  exact⟨p,by omega,by omega,V.wk⟩
 ·have hp0:p=0:=by simp at h;omega
  subst hp0
  (conv=>whnf)
  refine V.st ?_
  have h0:(List.replicate 0 (0:Int)++(ixl ns m).drop 0)=ixl ns m:=by simp
  have hli:=jak ns m
  rw[h0]
  refine Fin.of ?_
  rw[jjW (by rw[hli];simp)]
def lastL (ns:List Nat):List Int:=ns.map fun n:Nat=>(n:Int)-1
def flat (ns:List Nat)(f:Nat→List Int)(m:Nat):List Int:=(List.range m).flatMap f
theorem jbZ (ns:List Nat)(f:Nat→List Int)(m:Nat):flat ns f (m+1)=flat ns f m++f m:=by
 simp[flat,List.range_succ]
theorem jcB {ns:List Nat}{f:Nat→List Int}{m:Nat}(h:∀ j,j<m→(f j).length≤4):(flat ns f m).length≤4*m:=by
 induction m with
 | zero=>simp[flat]
 | succ m ih=>
  rw[jbZ,jjL]
  have h1:=ih fun j hj=>h j (by omega)
  have h2:=h m (by omega)
  omega
theorem PR_le {ns:List Nat}(h1:ns.length≤4)(h2:∀ n∈ns,2≤n∧n≤9):PR ns≤6561:=by
 have hb:∀ l:List Nat,(∀ n∈l,2≤n∧n≤9)→PR l≤9^l.length:=by
  intro l
  induction l with
  | nil=>intro _;decide
  | cons x l ih=>
   intro hl
   have h3:=ih fun n hn=>hl n (by simp[hn])
   have h4:=hl x (by simp)
   rw[PR,jjV,Nat.pow_succ,jjg]
   exact Nat.mul_le_mul h3 h4.2
 exact jjd (hb ns h2) (jjs (by omega) h1)
theorem jeJ {ns:List Nat}(h1:1≤ns.length∧ns.length≤4)(h2:∀ n∈ns,2≤n∧n≤9):pad4 (ixl ns 0)=[0,0,0,0]:=by
 rw[jes ns (fun n hn=>by have:=h2 n hn;omega) 0 (Nat.zero_mod _)]
 unfold pad4
 rw[List.length_replicate,← List.replicate_append_replicate.symm]
 have:ns.length+(4-ns.length)=4:=by omega
 simp[this]
theorem jdM {a b:List Int}(h:a.length=b.length)(e:pad4 a=pad4 b):a=b:=(List.append_inj e h).1
theorem ja8 {l:List Int}{p k:Nat}{x:Int}(h:l[p]? = some x)(hk:p<k)(hl:l.length≤4):(pad4 (l.take k)).getD p 0=x:=by
 have hp:=(jjP.1 h).1
 unfold pad4
 rw[jjF,jjO (by simp;omega),jj4 hk,h]
 rfl
theorem jcj {l:List Int}{p:Nat}{x y:Int}(h:l[p]? = some x)(h1:p<l.length)(hl:l.length≤4):(pad4 (l.take (p+1))).set p y=pad4 (l.take p++y::List.replicate (l.length-(p+1)) 0):=by
 unfold pad4
 have e1:(l.take (p+1)).length=p+1:=by simp;omega
 have e2:(l.take p++y::List.replicate (l.length-(p+1)) 0).length=l.length:=by simp;omega
 have e4:(l.take p).length=p:=by simp;omega
 rw[e1,e2,List.set_append_left _ _ (by omega),jj5,h]
 have e3:(l.take p++(some x).toList).set p y=l.take p++[y]:=by
  rw[List.set_append_right _ _ (by omega),e4,Nat.sub_self]
  rfl
 rw[e3,jjN,jjN]
 congr 1
 rw[List.singleton_append,List.cons_append,List.replicate_append_replicate]
 congr 2
 omega
theorem jcU {l:List Int}{p:Nat}{x:Int}(h:l[p]? = some x)(hl:l.length≤4):(pad4 (l.take (p+1))).set p 0=pad4 (l.take p):=by
 have h1:=(jjP.1 h).1
 rw[jcj h h1 hl]
 unfold pad4
 have e2:(l.take p++(0:Int)::List.replicate (l.length-(p+1)) 0).length=l.length:=by simp;omega
 have e3:(l.take p).length=p:=by simp;omega
 rw[e2,e3,jjN]
 congr 1
 rw[← List.replicate_succ,List.replicate_append_replicate]
 congr 1
 omega
theorem jb6 {ns:List Nat}{m p n:Nat}{x:Int}(hpos:∀ n∈ns,0<n)(hn:ns[p]? = some n)(hx:(ixl ns m)[p]? = some x):0≤x∧x≤(n:Int)-1:=by
 rw[jcX ns m p n hn] at hx
 cases hx
 have:=jjf (m/PR (ns.drop (p+1))) (hpos n (jjK hn))
 omega
def mkV0 (vals:List Int)(w m k:Nat):Int:=if 0<vals.length then vals.getD ((m*w+k)%vals.length) 0 else 0
def mkV (vals:List Int)(sm:Bool)(ns:List Nat)(w m k:Nat):Int:=
 if sm then 60000*(ixl ns m).getD (k%ns.length) 0/((nz ns).getD (k%ns.length) 0-1)+mkV0 vals w m k%5000 else mkV0 vals w m k
def mkF (vals:List Int)(sm:Bool)(ns:List Nat)(w m:Nat):List Int:=(List.range w).map (mkV vals sm ns w m)
theorem getD_mem {xs:List Int}{i:Nat}(h:i<xs.length):xs.getD i 0∈xs:=by
 rw[jjF,jjI h];simp
theorem mkV0_bd {vals:List Int}{w m k:Nat}(hv:∀ v∈vals,0≤v∧v≤65535):0≤mkV0 vals w m k∧mkV0 vals w m k≤65535:=by
 unfold mkV0
 split
 ·rename_i h
  exact hv _ (getD_mem (jjf _ h))
 ·omega
theorem mk_sm {ns:List Nat}{m k:Nat}(h1:1≤ns.length)(h2:∀ n∈ns,2≤n∧n≤9):0≤(ixl ns m).getD (k%ns.length) 0∧(ixl ns m).getD (k%ns.length) 0≤8∧1≤(nz ns).getD (k%ns.length) 0-1∧(nz ns).getD (k%ns.length) 0-1≤8 ∧
  0≤60000*(ixl ns m).getD (k%ns.length) 0/((nz ns).getD (k%ns.length) 0-1)∧60000*(ixl ns m).getD (k%ns.length) 0/((nz ns).getD (k%ns.length) 0-1)≤60000:=by
 have hlt:k%ns.length<ns.length:=jjf _ (by omega)
 generalize k%ns.length=i at *
 obtain⟨n,hn⟩:∃ n,ns[i]? = some n:=⟨_,jjI hlt⟩
 obtain⟨x,hx⟩:∃ x,(ixl ns m)[i]? = some x:=⟨_,jjI (by rw[jak];exact hlt)⟩
 have hnb:=h2 n (jjK hn)
 have hxb:=jb6 (fun n hn=>by have:=h2 n hn;omega) hn hx
 have e1:(nz ns).getD i 0=n:=by simp[nz,jjF,hn]
 have e2:(ixl ns m).getD i 0=x:=by rw[jjF,hx];rfl
 rw[e1,e2]
 refine⟨hxb.1,by omega,by omega,by omega,ji3 (by omega) (by omega),?_⟩
 exact Int.ediv_le_of_le_mul (by omega) (by omega)
theorem mkV_bd {vals:List Int}{sm:Bool}{ns:List Nat}{w m k:Nat}(hv:∀ v∈vals,0≤v∧v≤65535)(h1:1≤ns.length)(h2:∀ n∈ns,2≤n∧n≤9):0≤mkV vals sm ns w m k∧mkV vals sm ns w m k≤65535:=by
 have h3:=mkV0_bd (w:=w) (m:=m) (k:=k) hv
 have h4:=mk_sm (m:=m) (k:=k) h1 h2
 unfold mkV
 split<;>omega
theorem made_c (ds:List Int)(o:Int)(vals:List Int)(sm:Bool)(ns:List Nat)(w:Nat)(hv:∀ v∈vals,0≤v∧v≤65535)(hvl:vals.length≤281474976710656)(h1:1≤ns.length∧ns.length≤4)(h2:∀ n∈ns,2≤n∧n≤9)(hw:1≤w∧w≤4) :
  Cl 32 [.agg [.ints .u8 ds,.int .u8 o,.ints .u16 vals,.bool sm],.ints .i64 (nz ns),.int .i64 w] (gridD (nz ns) w (flat ns (mkF vals sm ns w) (PR ns))):=by
 have hlen:(nz ns).length=ns.length:=by simp[nz]
 have hPR:=PR_le h1.2 h2
 have hprod:prod (nz ns)=(PR ns:Nat):=jcQ ns
 have hpz:∀ k,InR .i64 (prod ((nz ns).take k)):=fun k=>(jcR (size:=nz ns) (by
  rw[jjE]
  intro x hx
  obtain⟨n,hn,rfl⟩:=List.mem_map.1 hx
  have:=h2 n hn
  simp;omega) k).2.2 (by omega)
 have hfl:∀ j,(mkF vals sm ns w j).length≤4:=fun j=>by simp[mkF];omega
 refine V.en tbOk Tryz.func32 ?_
 refine V.r0 @ji8 ?_
 refine Lp.ghostBox 72 7 2 .i64 (by decide) (by decide) ?_
 (conv=>whnf)
 refine jad (0) (fun k=>k≤PR ns) (fun k=>PR ns-k) (fun k=>[(8,.int .i64 k)]) (fun k=>[(7,.box [.ints .i64 (nz ns),.int .i64 w,.osl 72 0 (flat ns (mkF vals sm ns w) k).length]),(72,.arr .i64 (flat ns (mkF vals sm ns w) k))]) ?_ ?_ ?_
 ·exact V.wk
 ·exact ji2 _
 intro m hm
 have hfm:=jcB (ns:=ns) (m:=m) (fun j _=>hfl j)
 (conv=>whnf)
 (try simp only[hprod])
 repeat ((first|refine V.s1 ?_|((try ((with_reducible refine .ext ?_);(conv=>whnf);(try simp only[hprod])));(with_reducible refine jaa (r:=?_) ?_ ?_);rotate_left;(focus (first|exact(jeE _ (fun k _=>hpz k) (by omega))));(conv=>whnf)));(try simp only[hprod]))
 refine V.br (fun hq=>?_) (fun hq=>?_)
 ·rw[decide_eq_true_eq] at hq
  have hm1:m<PR ns:=by omega
  refine V.u1 (rindex_c ns m (fun n hn=>by have:=h2 n hn;omega) (by omega) (by omega)) ?_
  refine jad (0) (fun k=>k≤w) (fun k=>w-k) (fun k=>[(10,.int .i64 k)]) (fun k=>[(7,.box [.ints .i64 (nz ns),.int .i64 w,.osl 72 0 (flat ns (mkF vals sm ns w) m++(List.range k).map (mkV vals sm ns w m)).length]),(72,.arr .i64 (flat ns (mkF vals sm ns w) m++(List.range k).map (mkV vals sm ns w m)))]) ?_ ?_ ?_
  ·simp only[List.range_zero,List.map_nil,List.append_nil]
   exact V.wk
  ·exact ji2 _
  intro k hk
  have hb0:=mkV0_bd (w:=w) (m:=m) (k:=k) hv
  have hbs:=mk_sm (m:=m) (k:=k) h1.1 h2
  have hmw:(m:Int)*w=((m*w:Nat):Int):=by simp
  have hmw2:m*w≤6561*4:=Nat.mul_le_mul (by omega) (by omega)
  (conv=>whnf)
  refine V.st ?_
  refine V.br (fun hq2=>?_) (fun hq2=>?_)
  ·rw[decide_eq_true_eq] at hq2
   (conv=>whnf)
   refine V.st ?_
   refine ja2 [(11,.int .i64 (mkV0 vals w m k))] [] (CondB.mk (fun hq3=>?_) (fun hq3=>?_)) ?_
   ·rw[decide_eq_true_eq] at hq3
    have hvp:0<vals.length:=by omega
    have e1:((((m*w:Nat):Int)+k)%vals.length).toNat=(m*w+k)%vals.length:=by
     rw[← Int.natCast_add,← Int.natCast_emod,jjb]
    have e2:vals.getD ((m*w+k)%vals.length) 0=mkV0 vals w m k:=by unfold mkV0;rw[if_pos hvp]
    have e3:=ji4 (((m*w:Nat):Int)+k) (b:=vals.length) (by omega)
    have e4:=jju (((m*w:Nat):Int)+k) (b:=vals.length) (by omega)
    (conv=>whnf)
    refine V.st ?_
    refine⟨(V.tk [0,1,2,3,4,5,6,7,8,9,10,11,12,13,14] .done),[],V.pok,.go (jac ?_)⟩
    (conv=>whnf)
    (try simp only[hmw,e1,e2])
    repeat ((first|refine V.s1 ?_);(try simp only[hmw,e1,e2]))
    exact V.wk
   ·rw[decide_eq_false_iff_not] at hq3
    have e2:mkV0 vals w m k=0:=by unfold mkV0;rw[if_neg (by omega)]
    rw[e2]
    (conv=>whnf)
    refine V.st ?_
    exact V.wk
   (conv=>whnf)
   refine V.st ?_
   refine ja2 [(11,.int .i64 (mkV vals sm ns w m k))] [] (CondB.mk (fun hq3=>?_) (fun hq3=>?_)) ?_
   ·have hli:=jak ns m
    have hki:(k:Int)%(ns.length:Int)=((k%ns.length:Nat):Int):=by simp
    have hkl:k%ns.length<ns.length:=jjf _ (by omega)
    have e2:mkV vals sm ns w m k=60000*(ixl ns m).getD (k%ns.length) 0/((nz ns).getD (k%ns.length) 0-1)+mkV0 vals w m k%5000:=by unfold mkV;rw[hq3];rfl
    rw[e2]
    generalize mkV0 vals w m k=v0 at *
    generalize hgi:k%ns.length=i at *
    refine V.r0 (V.a3 hlen hki @jjb) ?_
    refine⟨(V.tk [0,1,2,3,4,5,6,7,8,9,10,11,12,13] (V.e1 14 [] .done)),[],V.pok,.go (jac ?_)⟩
    refine V.r0 (V.a3 hlen hki @jjb) ?_
    exact V.wk
   ·have e2:mkV vals sm ns w m k=mkV0 vals w m k:=by unfold mkV;rw[hq3];rfl
    rw[e2]
    (conv=>whnf)
    refine V.st ?_
    exact V.wk
   have hst:flat ns (mkF vals sm ns w) m++(List.range k).map (mkV vals sm ns w m)++[mkV vals sm ns w m k]=flat ns (mkF vals sm ns w) m++(List.range (k+1)).map (mkV vals sm ns w m):=by
    rw[List.range_succ];simp
   have hst2:(flat ns (mkF vals sm ns w) m++(List.range k).map (mkV vals sm ns w m)).length+1=(flat ns (mkF vals sm ns w) m++(List.range (k+1)).map (mkV vals sm ns w m)).length:=by rw[← hst];simp;omega
   (conv=>whnf)
   refine V.st ?_
   try refine And.intro (fun _=>⟨rfl,by simp;omega⟩) ?_
   refine V.r0 (V.a8 @ji8 @jj1 @List.take_succ_cons.{0} @List.take_zero.{0} @jjV @List.length_nil.{0} hst hst2) ?_
   exact⟨k+1,by omega,by omega,V.wk⟩
  ·rw[decide_eq_false_iff_not] at hq2
   have hkw:k=w:=by omega
   subst hkw
   have hfs:flat ns (mkF vals sm ns k) m++(List.range k).map (mkV vals sm ns k m)=flat ns (mkF vals sm ns k) (m+1):=(jbZ _ _ _).symm
   rw[hfs]
   (conv=>whnf)
   refine V.st ?_
   exact⟨m+1,by omega,by omega,V.wk⟩
 ·rw[decide_eq_false_iff_not] at hq
  have hm1:m=PR ns:=by omega
  subst hm1
  (conv=>whnf)
  refine V.st ?_
  rw[jjW (jjc _)]
  exact Fin.of rfl
def nsD (ds:List Int):List Nat:=if ds=[] then [2] else (ds.take 3).map fun x=>(2+x%3).toNat
def wD (o:Int):Nat:=(1+o%3).toNat
def draftD (ds:List Int)(o:Int)(vals:List Int)(sm:Bool):D := .agg [.ints .u8 ds,.int .u8 o,.ints .u16 vals,.bool sm]
def dData (ds:List Int)(o:Int)(vals:List Int)(sm:Bool):List Int:=flat (nsD ds) (mkF vals sm (nsD ds) (wD o)) (PR (nsD ds))
theorem nsD_bd (ds:List Int):(1≤(nsD ds).length∧(nsD ds).length≤3) ∧ ∀ n∈nsD ds,2≤n∧n≤4:=by
 unfold nsD
 split
 ·simp
 ·rename_i h
  have:0<ds.length:=List.length_pos_iff.2 h
  refine⟨by simp;omega,fun n hn=>?_⟩
  obtain⟨x,_,rfl⟩:=List.mem_map.1 hn
  omega
theorem wD_bd (o:Int):1≤wD o∧wD o≤3:=by unfold wD;omega
theorem nz_nsD {ds:List Int}(h:ds≠[]):(ds.take 3).map (fun x=>2+x%3)=nz (nsD ds):=by
 unfold nsD nz
 rw[if_neg h,List.map_map]
 refine List.map_congr_left fun x _=>?_
 simp
 omega
theorem draft_c (ds:List Int)(o:Int)(vals:List Int)(sm:Bool)(hd:∀ v∈ds,0≤v∧v≤255)(hdl:ds.length≤281474976710656)(ho:0≤o∧o≤255)(hv:∀ v∈vals,0≤v∧v≤65535)(hvl:vals.length≤281474976710656) :
  Cl 7 [draftD ds o vals sm] (gridD (nz (nsD ds)) (wD o) (dData ds o vals sm)):=by
 have hb:=nsD_bd ds
 have hwb:=wD_bd o
 have hmade:=made_c ds o vals sm (nsD ds) (wD o) hv hvl (by omega) (fun n hn=>by have:=hb.2 n hn;omega) (by omega)
 have hwD:1+o%3=(wD o:Int):=by unfold wD;omega
 refine V.en tbOk Tryz.func7 ?_
 refine V.r0 @ji8 ?_
 refine Lp.ghostSlot 26 3 .i64 (by decide) ?_
 (conv=>whnf)
 refine jad (0) (fun k=>k≤ds.length∧k≤3) (fun k=>3-k) (fun k=>[(4,.int .i64 k),(3,.osl 26 0 ((ds.take k).map fun x=>2+x%3).length)]) (fun k=>[(26,.arr .i64 ((ds.take k).map fun x=>2+x%3))]) ?_ ?_ ?_
 ·exact V.wk
 ·omega
 intro k hk
 (conv=>whnf)
 refine V.st ?_
 refine V.br (fun hq=>?_) (fun hq=>?_)
 ·simp only[ji0,decide_eq_true_eq] at hq
  obtain⟨x,hx,ex⟩:=getxn (xs:=ds) (k:=k) (by omega)
  have hxb:=hd x (jjK hx)
  have hst:(ds.take k).map (fun x=>2+x%3)++[2+x%3]=(ds.take (k+1)).map fun x=>2+x%3:=by
   rw[jj5,hx];simp
  have hst2:((ds.take k).map fun x=>2+x%3).length+1=((ds.take (k+1)).map fun x=>2+x%3).length:=by rw[← hst];simp
  have hml:((ds.take k).map fun x=>2+x%3).length≤3:=by simp;omega
  refine V.r0 (V.a2 @jjb ex) ?_
  try refine And.intro (fun _=>⟨trivial,by simp;omega⟩) ?_
  refine V.r0 (V.a8 @ji8 @jj1 @List.take_succ_cons.{0} @List.take_zero.{0} @jjV @List.length_nil.{0} hst hst2) ?_
  exact⟨k+1,by omega,by omega,V.wk⟩
 ·have hq2:¬ ((k:Int)<ds.length∧(k:Int)<3):=by
   intro h
   rw[decide_eq_true h.1,decide_eq_true h.2] at hq
   cases hq
  have htk:ds.take k=ds.take 3:=by
   rcases jjk k 3 with h|h
   ·rw[jjW (by omega),jjW (by omega)]
   ·congr 1;omega
  have hml:((ds.take 3).map fun x=>2+x%3).length≤3:=by simp;omega
  rw[htk]
  (conv=>whnf)
  refine V.st ?_
  by_cases hds:ds=[]
  ·subst hds
   have hnd:nsD []=[2]:=rfl
   refine V.br (fun hq3=>?_) (fun hq3=>?_)
   ·refine V.r1 (V.a5 hwD @List.take_succ_cons.{0} @List.take_zero.{0} @ji8 @jj1) hmade ?_
    exact Fin.of rfl
   ·simp at hq3
  ·have hnd:=nz_nsD hds
   have hlp:0<ds.length:=List.length_pos_iff.2 hds
   refine V.br (fun hq3=>?_) (fun hq3=>?_)
   ·simp at hq3
    exact absurd hq3 hds
   ·rw[hnd] at hml ⊢
    refine V.r1 (V.a2 hwD @jj6) hmade ?_
    exact Fin.of rfl
theorem jh3 {ns:List Nat}{f:Nat→List Int}{w m:Nat}(h:∀ j,(f j).length=w):(flat ns f m).length=m*w:=by
 induction m with
 | zero=>simp[flat]
 | succ m ih=>rw[jbZ,jjL,ih,h,ji7,Nat.one_mul]
theorem mem_flat {ns:List Nat}{f:Nat→List Int}{m:Nat}{x:Int}(h:x∈flat ns f m):∃ j,j<m∧x∈f j:=by
 unfold flat at h
 rw[List.mem_flatMap] at h
 obtain⟨j,h1,h2⟩:=h
 exact⟨j,List.mem_range.1 h1,h2⟩
theorem draft_ok (ds:List Int)(o:Int)(vals:List Int)(sm:Bool)(hv:∀ v∈vals,0≤v∧v≤65535):jag (nz (nsD ds)) (wD o) (dData ds o vals sm)=true:=by
 have hb:=nsD_bd ds
 have hwb:=wD_bd o
 have hl:(dData ds o vals sm).length=PR (nsD ds)*wD o:=jh3 fun j=>by simp[mkF]
 have hP:PR (nsD ds)≤64:=by
  have hbb:∀ l:List Nat,(∀ n∈l,2≤n∧n≤4)→PR l≤4^l.length:=by
   intro l
   induction l with
   | nil=>intro _;decide
   | cons x l ih=>
    intro hl
    have h3:=ih fun n hn=>hl n (by simp[hn])
    have h4:=hl x (by simp)
    rw[PR,jjV,Nat.pow_succ,jjg]
    exact Nat.mul_le_mul h3 h4.2
  exact jjd (hbb _ hb.2) (jjs (by omega) hb.1.2)
 have hl2:PR (nsD ds)*wD o≤64*3:=Nat.mul_le_mul hP hwb.2
 unfold jag
 have e1:(nz (nsD ds)).length=(nsD ds).length:=by simp[nz]
 have e2:(nz (nsD ds)).all (fun n=>decide (2≤n∧n≤9))=true:=by
  rw[jjE]
  intro x hx
  obtain⟨n,hn,rfl⟩:=List.mem_map.1 hx
  have:=hb.2 n hn
  simp;omega
 have e3:(dData ds o vals sm).all (fun v=>decide (0≤v∧v≤65535))=true:=by
  rw[jjE]
  intro x hx
  obtain⟨j,_,hj⟩:=mem_flat hx
  unfold mkF at hj
  obtain⟨k,_,rfl⟩:=List.mem_map.1 hj
  have:=mkV_bd (sm:=sm) (w:=wD o) (m:=j) (k:=k) hv hb.1.1 (fun n hn=>by have:=hb.2 n hn;omega)
  simpa using this
 rw[e2,e3,jcQ]
 simp only[Bool.and_true,ji0,decide_eq_true_eq]
 refine⟨⟨by omega,by omega⟩,by omega,?_⟩
 rw[hl];simp
end Go.Proofs.YtbnghipgicmpdaaGreatDoor
end
section
namespace Go.Proofs.YtbnghipgicmpdaaGreatDoor
open Go Go.V Go.Nb
def bentZ (k:Int)(zs:List Int):List Int:=if k%6=1 then 2::zs else zs
def bentO (k out:Int):Int:=if k%6=0 then 0 else out
theorem jiX:type_of% @jjb∧type_of% @ji8:=⟨@jjb,@ji8⟩
theorem bent_c (zs data:List Int)(out k:Int)(hk:0≤k∧k≤255)(hz:zs.length≤100):Cl 8 [.agg [.ints .i64 zs,.int .i64 out,.ints .i64 data],.int .u8 k] (.agg [.ints .i64 (bentZ k zs),.int .i64 (bentO k out),.ints .i64 data]):=by
 have hm:k.tmod 6=k%6:=Int.tmod_eq_emod_of_nonneg hk.1
 unfold bentZ bentO
 by_cases h0:k%6=0
 ·have e0:decide (k%6=0)=true:=decide_eq_true h0
  rw[if_neg (by omega),if_pos h0]
  refine V.en tbOk Tryz.func8 ?_
  refine V.r0 (V.a3 jiX hm e0) ?_
  exact Fin.of rfl
 ·have e0:decide (k%6=0)=false:=decide_eq_false h0
  by_cases h1:k%6=1
  ·have e1:decide (k%6=1)=true:=decide_eq_true h1
   rw[if_pos h1,if_neg h0]
   refine V.en tbOk Tryz.func8 ?_
   (conv=>whnf)
   (conv=>whnf)
   (try simp only[jiX,hm,e0,e1])
   repeat ((first|refine V.s1 ?_);(try simp only[jiX,hm,e0,e1]))
   have ht:List.take (1+zs.length) (2::zs)=2::zs:=jjW (by rw[jjV];omega)
   exact Fin.of (by simp[ht])
  ·have e1:decide (k%6=1)=false:=decide_eq_false h1
   rw[if_neg h1,if_neg h0]
   refine V.en tbOk Tryz.func8 ?_
   (conv=>whnf)
   (conv=>whnf)
   (try simp only[jiX,hm,e0,e1])
   repeat ((first|refine V.s1 ?_);(try simp only[jiX,hm,e0,e1]))
   exact Fin.of rfl
theorem jg4 (a:Int)(zs:List Int):prod (a::zs)=a*prod zs:=by
 have h:∀ (l:List Int) (b:Int),l.foldl (· * ·) b=b*l.foldl (· * ·) 1:=fun l=>by
  induction l with
  | nil=>intro b;simp
  | cons x l ih=>intro b;simp only[List.foldl_cons];rw[ih (b*x),ih (1*x)];grind
 show List.foldl (· * ·) (1*a) zs=_
 rw[h,jjy]
 rfl
theorem bent_bad {zs data:List Int}{out k:Int}(hg:jag zs out data=true):(bentZ k zs=zs∧bentO k out=out)∨jag (bentZ k zs) (bentO k out) data=false:=by
 unfold bentZ bentO
 by_cases h1:k%6=1
 ·refine .inr ?_
  rw[if_pos h1,if_neg (by omega)]
  cases e:jag (2::zs) out data with
  | false=>rfl
  | true=>
   have a:=jap hg
   have b:=jap e
   have p:=b.2.2.1.2
   rw[jg4,jjp,← a.2.2.1.2] at p
   have q:=a.2.2.1.2
   have l0:0<prod zs*out:=by
    have pp:∀ l:List Int,(∀ z∈l,2≤z∧z≤9)→0<prod l:=fun l=>by
     induction l with
     | nil=>intro _;decide
     | cons x l ih=>intro h;rw[jg4];exact Int.mul_pos (by have:=h x (by simp);omega) (ih fun z hz=>h z (by simp[hz]))
    exact Int.mul_pos (pp zs a.2.1) (by omega)
   omega
 ·rw[if_neg h1]
  by_cases h0:k%6=0
  ·refine .inr ?_
   rw[if_pos h0]
   cases e:jag zs 0 data with
   | false=>rfl
   | true=>have b:=jap e;omega
  ·rw[if_neg h0]
   exact .inl ⟨rfl,rfl⟩
end Go.Proofs.YtbnghipgicmpdaaGreatDoor
end
section
namespace Go.Proofs.YtbnghipgicmpdaaGreatDoor
open Go Go.V Go.Nb Go.RowKit
def u8x4L:List Lf:=List.replicate 4 (Lf.int .u8)
theorem four_den {w:World}{k:IntKind}{cs:Array Value}(h:leavesOk w (List.replicate 4 (Lf.int k)) cs.toList)(h0:InR k 0):∃ a:Nat→Int,Den Env.dummy (pubOf w) (.agg [.int k (a 0),.int k (a 1),.int k (a 2),.int k (a 3)]) (.agg cs) ∧ ∀ i,InR k (a i):=by
 obtain⟨xs,hl,hv,hr⟩:=jfg h
 match xs,hl with
 | [x0,x1,x2,x3],_=>
  have hg:∀ i,InR k ([x0,x1,x2,x3].getD i 0):=fun i=>by
   rw[jjF]
   cases hi:[x0,x1,x2,x3][i]? with
   | none=>exact h0
   | some x=>exact hr x (jjK hi)
  obtain rfl:cs = #[.int k x0,.int k x1,.int k x2,.int k x3]:=by cases cs;simp_all
  refine⟨fun i=>[x0,x1,x2,x3].getD i 0,⟨_,rfl,⟨_,_,rfl,⟨rfl,hg 0⟩,_,_,rfl,⟨rfl,hg 1⟩,_,_,rfl,⟨rfl,hg 2⟩,_,_,rfl,⟨rfl,hg 3⟩,rfl⟩,?_⟩,fun i=>hg _⟩
  intro v hv
  simp only[jjH,List.not_mem_nil,or_false] at hv
  rcases hv with rfl|rfl|rfl|rfl<;>rfl
def intsL:List Lf:=[.ints .i64]
theorem ints_den11 {w:World}{v:Value}(h:leavesOk w intsL [v]):∃ xs,Den Env.dummy (pubOf w) (.ints .i64 xs) v∧xs.length≤281474976710656 ∧ ∀ x∈xs,InR .i64 x:=by
 obtain⟨v0,r0,e0,⟨xs,h0⟩,e1⟩:=h
 subst e1
 cases e0
 have g0:=h0
 obtain⟨a0,c0,x0,_,y0,z0,_⟩:=g0
 exact⟨xs,h0,y0,z0⟩
end Go.Proofs.YtbnghipgicmpdaaGreatDoor
end
section
namespace Go.V
open Go Go.RowKit
def Env.alias (E:Env)(i j:Nat):Env:=⟨fun x=>if x=j then E.blk i else E.blk x,fun x=>if x=j then E.siz i else E.siz x,fun x=>if x=j then E.kn i else E.kn x,fun x=>if x=j then E.real i else E.real x,fun x=>if x=j then E.lpr i else E.lpr x⟩
theorem Env.off_alias (E:Env)(i j:Nat):E.off (E.alias i j) j:=fun k hk=>by simp[Env.alias,hk]
section
variable {cx : Cx} {E : Env} {h : Pub} {a : Act} {w : World} {L : Sl} {H : Hp}
theorem Sat.renArr (S:Sat cx E h a w L H){i j:Nat}{k:IntKind}{xs:List Int}(hij:i≠j)(hoff':cx.off≤j)(hi:lookH H i=some (.arr k xs)) :
  Sat cx (E.alias i j) h a w (purge j L) ((j,.arr k xs)::(i,.gone)::jaJ j H):=by
 have hoff:=E.off_alias i j
 have ej:(E.alias i j).blk j=E.blk i∧(E.alias i j).siz j=E.siz i∧(E.alias i j).kn j=E.kn i∧(E.alias i j).real j=E.real i:=by simp[Env.alias]
 have ne:∀ x,x≠j→(E.alias i j).blk x=E.blk x∧(E.alias i j).real x=E.real x:=fun x hx=>⟨(hoff x hx).1,(hoff x hx).2.2.2.1⟩
 have live:∀ x c',x≠j→lookH ((j,.arr k xs)::(i,.gone)::jaJ j H) x=some c'→c'.live=true→x≠i ∧ ∃ c0,lookH H x=some c0∧c'=jb5 j c0∧c0.live=true:=by
  intro x c' hx hc' hl
  rw[jaf,if_neg (Ne.symm hx),jaf] at hc'
  by_cases hxi:i=x
  ·rw[if_pos hxi] at hc';cases hc';cases hl
  ·rw[if_neg hxi] at hc'
   obtain⟨c0,h1,h2⟩:=jbi hc'
   exact⟨Ne.symm hxi,c0,h1,h2,by rw[h2,jbh] at hl;exact hl⟩
 have atj:∀ c',lookH ((j,.arr k xs)::(i,.gone)::jaJ j H) j=some c'→c' = .arr k xs:=fun c' hc'=>by
  rw[jaf,if_pos rfl] at hc';cases hc';rfl
 refine { knows:=?_,mem:=?_,agree:=S.agree,since:=S.since,low:=fun x hx=>jfe S.low hoff hoff' x hx,side:=S.side }
 ·exact fun t=>jbS hoff (S.knows t)
 ·refine { ok:=?_,base:=?_,unpub:=?_,inj:=?_ }
  ·intro x c' hc'
   by_cases hx:x=j
   ·subst hx
    rw[atj c' hc']
    have:=S.mem.ok i _ hi
    simp only[ChunkOk] at this ⊢
    rw[ej.1,ej.2.1,ej.2.2.1,ej.2.2.2]
    exact this
   ·cases hl:c'.live with
    | false=>cases c'<;>first|trivial|(simp[Chunk.live] at hl)
    | true=>
     obtain⟨_,c0,h1,rfl,hl'⟩:=live x c' hx hc' hl
     exact ChunkOk.env hoff hx (S.mem.ok x _ h1)
  ·intro x c' hc' hl hr
   by_cases hx:x=j
   ·subst hx
    rw[ej.2.2.2] at hr
    rw[ej.1]
    exact S.mem.base i _ hi rfl hr
   ·obtain⟨_,c0,h1,rfl,hl'⟩:=live x c' hx hc' hl
    rw[(ne x hx).2] at hr
    rw[(ne x hx).1]
    exact S.mem.base x _ h1 hl' hr
  ·intro x c' hc' hl hr o
   by_cases hx:x=j
   ·subst hx
    rw[ej.2.2.2] at hr
    rw[ej.1]
    exact S.mem.unpub i _ hi rfl hr o
   ·obtain⟨_,c0,h1,rfl,hl'⟩:=live x c' hx hc' hl
    rw[(ne x hx).2] at hr
    rw[(ne x hx).1]
    exact S.mem.unpub x _ h1 hl' hr o
  ·intro x y c1 c2 hxy h1 h2 l1 l2 r1 r2
   by_cases hx:x=j
   ·subst hx
    obtain⟨hyi,c0',g2,rfl,l2'⟩:=live y c2 (Ne.symm hxy) h2 l2
    rw[ej.2.2.2] at r1
    rw[(ne y (Ne.symm hxy)).2] at r2
    rw[ej.1,(ne y (Ne.symm hxy)).1]
    exact S.mem.inj i y _ _ (Ne.symm hyi) hi g2 rfl l2' r1 r2
   ·obtain⟨hxi,c0,g1,rfl,l1'⟩:=live x c1 hx h1 l1
    rw[(ne x hx).2] at r1
    rw[(ne x hx).1]
    by_cases hy:y=j
    ·subst hy
     rw[ej.2.2.2] at r2
     rw[ej.1]
     exact S.mem.inj x i _ _ hxi g1 hi l1' rfl r1 r2
    ·obtain⟨hyi,c0',g2,rfl,l2'⟩:=live y c2 hy h2 l2
     rw[(ne y hy).2] at r2
     rw[(ne y hy).1]
     exact S.mem.inj x y _ _ hxy g1 g2 l1' l2' r1 r2
end
theorem Wk.renBox {off:Nat}{L:Sl}{H:Hp}{L2:Sl}{H2:Hp}(i j b p n:Nat){k:IntKind}{xs:List Int}{ds:List D}(hij:i≠j)(hb:b≠i∧b≠j)(hoff:off≤j)(hi:lookH H i=some (.arr k xs))(hj:lookH (jaJ j H) b=some (.box ds))(hp:ds[p]? = some (.osl i 0 n))
  (h:Wk off (purge j L) ((b,.box (ds.set p (.osl j 0 n)))::(j,.arr k xs)::(i,.gone)::jaJ j H) L2 H2):Wk off L H L2 H2:=by
 refine⟨fun cx E h' a w e S=>?_⟩
 subst e
 have S1:=S.renArr hij hoff hi
 have hb1:lookH ((j,.arr k xs)::(i,.gone)::jaJ j H) b=some (.box ds):=by
  rw[jaf,if_neg (Ne.symm hb.2),jaf,if_neg (Ne.symm hb.1)];exact hj
 have fe:∀ v,Den (E.alias i j) h' (.osl i 0 n) v→Den (E.alias i j) h' (.osl j 0 n) v:=fun v hv=>by
  simp only[Den,Env.alias,if_true,if_neg hij] at hv ⊢
  exact hv
 refine h.out cx (E.alias i j) h' a w rfl (S1.rechunk hb1 rfl ?_)
 obtain⟨h1,vs,rest,T,h2,h3,h4⟩:=S1.mem.ok b _ hb1
 exact⟨h1,vs,rest,T,h2,jgM h3 hp fe,h4⟩
end Go.V
end
section
namespace Go.Proofs.YtbnghipgicmpdaaGreatDoor
open Go Go.V Go.Nb
def grd (data:List Int)(s z:Int)(a:Nat):Int:=(z-1)*max (data.getD ((a:Int)+s).toNat 0-data.getD a 0) (data.getD a 0-data.getD ((a:Int)+s).toNat 0)
def stp (data:List Int)(out s z:Int)(i:Nat)(w:Nat→List Int)(a:Nat)(r:Nat):List Int:=
 if (a:Int)/s%z=z-1 then w r else if (a:Int)%out=r then (w r).set i (max ((w r).getD i 0) (grd data s z a)) else w r
def inS (data:List Int)(out s z:Int)(i:Nat)(w:Nat→List Int):Nat→Nat→List Int
 | 0=>w
 | a+1=>stp data out s z i (inS data out s z i w a) a
def strd (zs:List Int)(out:Int):Nat→Int
 | 0=>out
 | k+1=>strd zs out k*zs.getD (zs.length-1-k) 0
def outS (zs data:List Int)(out:Int):Nat→Nat→List Int
 | 0=>fun _=>List.replicate zs.length 0
 | k+1=>inS data out (strd zs out k) (zs.getD (zs.length-1-k) 0) (zs.length-1-k) (outS zs data out k) data.length
def rowOk (n:Nat)(l:List Int):Prop:=l.length=n ∧ ∀ j,0≤l.getD j 0∧l.getD j 0≤600000
theorem jhf {data:List Int}{s z:Int}{a:Nat}(hd:∀ v∈data,0≤v∧v≤65535)(hz:2≤z∧z≤9):0≤grd data s z a∧grd data s z a≤600000:=by
 have h1:=jaQ (p:=fun v=>0≤v∧v≤65535) hd (by omega) a
 have h2:=jaQ (p:=fun v=>0≤v∧v≤65535) hd (by omega) ((a:Int)+s).toNat
 unfold grd
 generalize hx:max (data.getD ((a:Int)+s).toNat 0-data.getD a 0) (data.getD a 0-data.getD ((a:Int)+s).toNat 0)=x
 have hx2:0≤x∧x≤65535:=by omega
 constructor
 ·exact ji6 (by omega) hx2.1
 ·have:=jjB (show z-1≤8 by omega) hx2.2 hx2.1 (by omega)
  omega
theorem rowOk_set {n:Nat}{l:List Int}{i:Nat}{v:Int}(h:rowOk n l)(hv:0≤v∧v≤600000):rowOk n (l.set i v):=by
 refine⟨by rw[jj3];exact h.1,fun j=>?_⟩
 by_cases hi:i<l.length
 ·rw[jdX l i j v hi]
  split
  ·exact hv
  ·exact h.2 j
 ·rw[List.set_eq_of_length_le (by omega)]
  exact h.2 j
theorem jf7 {data:List Int}{out s z:Int}{i n:Nat}{w:Nat→List Int}(hd:∀ v∈data,0≤v∧v≤65535)(hz:2≤z∧z≤9)(hw:∀ r,rowOk n (w r)):∀ a r,rowOk n (inS data out s z i w a r)
 | 0,r=>hw r
 | a+1,r=>by
  have h:=jf7 (out:=out) (s:=s) (z:=z) (i:=i) hd hz hw a r
  have g:=jhf (s:=s) (a:=a) hd hz
  simp only[inS,stp]
  split
  ·exact h
  ·split
   ·refine rowOk_set h ?_
    have:=h.2 i
    omega
   ·exact h
theorem jbo {l:List Int}{p:Int→Prop}(h:∀ v∈l,p v){j:Nat}(hj:j<l.length):p (l.getD j 0):=by
 rw[jjF,jjI hj]
 exact h _ (jjJ hj)
theorem jed {zs data : List Int} {out : Int} (hd : ∀ v ∈ data, 0 ≤ v ∧ v ≤ 65535) (hz : ∀ z ∈ zs, 2 ≤ z ∧ z ≤ 9) : ∀ k, k ≤ zs.length → ∀ r, rowOk zs.length (outS zs data out k r)
  | 0, _, r => ⟨by simp [outS], fun j => by
      have := jaQ (l := List.replicate zs.length (0 : Int)) (p := fun v => v = 0) (fun v hv => List.eq_of_mem_replicate hv) rfl j
      show 0 ≤ (List.replicate zs.length (0 : Int)).getD j 0 ∧ (List.replicate zs.length (0 : Int)).getD j 0 ≤ 600000
      omega⟩
  | k + 1, hk, r => jf7 hd (jbo (l := zs) (p := fun z => 2 ≤ z ∧ z ≤ 9) hz (by omega)) (jed hd hz k (by omega)) _ r
theorem jdx {zs:List Int}{out:Int}(ho:1≤out∧out≤4)(hz:∀ z∈zs,2≤z∧z≤9):∀ k,k≤zs.length→0<strd zs out k∧strd zs out k≤4*9^k
 | 0,_=>by simp only[strd];omega
 | k+1,hk=>by
  have h:=jdx ho hz k (by omega)
  have g:=jbo (p:=fun z=>2≤z∧z≤9) hz (j:=zs.length-1-k) (by omega)
  simp only[strd]
  constructor
  ·exact Int.mul_pos h.1 (by omega)
  ·have:=jjB h.2 g.2 (by omega) (ji6 (by decide) (Int.pow_nonneg (by decide)))
   rw[Int.pow_succ]
   omega
theorem jcK {zs:List Int}{out:Int} : ∀ k,k≤zs.length→prod zs*out=prod (zs.take (zs.length-k))*strd zs out k
 | 0,_=>by simp only[strd,Nat.sub_zero,jj6]
 | k+1,hk=>by
  have h:=jcK (zs:=zs) (out:=out) k (by omega)
  have e0:zs[zs.length-(k+1)]? = some (zs.getD (zs.length-1-k) 0):=by
   rw[show zs.length-1-k=zs.length-(k+1) from by omega,jjF,jjI (show zs.length-(k+1)<zs.length from by omega)]
   rfl
  rw[h,show zs.length-k=(zs.length-(k+1))+1 from by omega,jcd e0]
  simp only[strd]
  rw[jjp,jjo (zs.getD (zs.length-1-k) 0)]
theorem pow9 (k:Nat)(h:k≤4):(4:Int)*9^k≤26244:=by
 have g:k=0∨k=1∨k=2∨k=3∨k=4:=by omega
 rcases g with rfl|rfl|rfl|rfl|rfl<;>decide
theorem stp_in {s z q:Int}{a:Nat}{len:Int}(hs:0<s)(hz:0<z)(hl:len=q*(s*z))(ha:(a:Int)<len)(h:¬ (a:Int)/s%z=z-1):(a:Int)+s<len:=by
 have h1:=ji4 ((a:Int)/s) (show z≠0 by omega)
 have h2:=jju ((a:Int)/s) hz
 have h3:(a:Int)/s<q*z:=(Int.ediv_lt_iff_lt_mul hs).2 (by rw[jjp,jjo z s,← hl];exact ha)
 have h4:=Int.mul_ediv_add_emod ((a:Int)/s) z
 have h5:=Int.mul_ediv_add_emod (a:Int) s
 have h6:=jju (a:Int) hs
 have h7:(a:Int)/s/z<q:=(Int.ediv_lt_iff_lt_mul hz).2 h3
 have h8:(a:Int)/s+2≤q*z:=by
  have:=jjq (show (a:Int)/s/z+1≤q by omega) (show 0≤z by omega)
  rw[jjn,Int.mul_one,jjo z q] at this
  omega
 have h9:=jjq h8 (show 0≤s by omega)
 rw[jjn] at h9
 have h10:s*(q*z)=len:=by rw[hl,Int.mul_left_comm]
 omega
def stB1 (n:Nat):Nat→Hp
 | 0=>[(21,.box [.nil])]
 | _=>[(21,.box [.osl 200 0 n]),(200,.arr .i64 (List.replicate n 0))]
theorem jii:type_of% @jjb∧type_of% @ji8∧type_of% @tn0∧type_of% @tn1∧type_of% @tn2∧type_of% @tn3∧type_of% @xt4:=⟨@jjb,@ji8,@tn0,@tn1,@tn2,@tn3,@xt4⟩
theorem jgq (zs data:List Int)(T:Nat→List Int)(hg:jag zs 1 data=true)(hl:zs.length≤4)(hT:outS zs data 1 zs.length=T):Cl 22 [.agg [.ints .i64 zs,.int .i64 1,.ints .i64 data]] (.tup [.slf 1 1 (fun j=>List.take 1 (List.drop (j*1) [.ints .i64 (T 0)])),.int .i64 0]):=by
 have ck:Cl 58 [.agg [.ints .i64 zs,.int .i64 1,.ints .i64 data]] (.int .i64 0):=jbY hg hl
 have og:=jap hg
 refine V.en tbOk Tryz.func22 ?_
 refine V.r1 jii ck ?_
 refine jad 0 (fun k=>k≤1) (fun k=>1-k) (fun k=>[(24,.int .i64 k)]) (fun k=>stB1 zs.length k) ?_ ?_ ?_
 ·simp only[stB1]
  exact V.wk
 ·exact ji2 _
 intro k hk
 have hk4:k=0∨k=1:=by omega
 rcases hk4 with e|e
 all_goals subst e
 ·simp only[k0,stB1]
  refine V.r0 jii ?_
  refine⟨1,by omega,by omega,?_⟩
  simp only[stB1]
  refine Wk.renBox 32 200 21 0 zs.length (by decide) (by decide) (by decide) rfl rfl rfl ?_
  exact V.wk
 ·simp only[k1,stB1]
  refine V.r0 jii ?_
  refine jbA (β:=Unit) 2 (fun _=>True) (fun _=>[(5,.slf 1 1 (fun j=>List.take 1 (List.drop (j*1) [.ints .i64 (T 0)]))),(7,.any),(8,.any),(21,.any),(22,.any)]) (fun _=>[(21,.gone),(200,.gone)]) ?_ ?_
  rotate_left
  ·intro _ _
   refine V.r0 @ji8 ?_
   exact Fin.of rfl
  refine jad ((0,(zs.length:Int)-1,1,outS zs data 1 0):Nat×Int×Int×(Nat→List Int)) (fun y=>y.1≤zs.length∧y.2.1=(zs.length:Int)-1-y.1∧y.2.2.1=strd zs 1 y.1∧y.2.2.2=outS zs data 1 y.1) (fun y=>zs.length-y.1) (fun y=>[(8,.int .i64 y.2.1),(7,.int .i64 y.2.2.1)]) (fun y=>[(200,.arr .i64 (y.2.2.2 0))]) ?_ ?_ ?_
  ·exact V.wk
  ·exact⟨ji2 _,(by show (zs.length:Int)-1=(zs.length:Int)-1-((0:Nat):Int);omega),rfl,rfl⟩
  rintro⟨k,x8,s,w⟩ ⟨hk,h8,hs,hw⟩
  dsimp only at hk h8 hs hw ⊢
  have wo:∀ r,rowOk zs.length (w r):=fun r=>by rw[hw];exact jed og.2.2.2 og.2.1 k hk r
  refine V.r0 jii ?_
  refine V.br (fun h=>?_) (fun h=>?_)
  ·have hx:=of_decide_eq_true h
   obtain⟨i,rfl⟩:∃ i:Nat,x8=i:=⟨x8.toNat,by omega⟩
   have hi:i=zs.length-1-k:=by omega
   obtain⟨z,hz⟩:∃ z,zs.getD i 0=z:=⟨_,rfl⟩
   have zb:2≤z∧z≤9:=by rw[← hz];exact jbo og.2.1 (by omega)
   have sp:=jdx og.1 og.2.1 k hk
   refine V.r0 (V.a2 jii hz) ?_
   have s0:0<s:=by rw[hs];exact sp.1
   have pp:=jcK (zs:=zs) (out:=1) (k+1) (by omega)
   have hlen:(data.length:Int)=prod (zs.take (zs.length-(k+1)))*(s*z):=by rw[og.2.2.1.2,pp,hs,← hz,hi];rfl
   have sm:s≤26244:=by
    have:=pow9 k (by omega)
    omega
   have io:=jf7 (out:=1) (s:=s) (z:=z) (i:=i) og.2.2.2 zb wo
   refine jad (0:Nat) (fun a=>a≤data.length) (fun a=>data.length-a) (fun a=>[(53,.int .i64 (a:Nat))]) (fun a=>[(200,.arr .i64 (inS data 1 s z i w a 0))]) ?_ ?_ ?_
   ·exact V.wk
   ·exact ji2 _
   intro a ha
   have b0:=jaQ (p:=fun v=>0≤v∧v≤65535) og.2.2.2 (by omega) a
   have r0:=io a 0
   have q0:=r0.2 i
   have l0:=r0.1
   refine V.r0 jii ?_
   refine V.br (fun c=>?_) (fun c=>?_)
   ·have hx2:=of_decide_eq_true c
    have hq:0≤(a:Int)/s:=ji3 (by omega) (by omega)
    refine V.r0 jii ?_
    refine V.br (fun f=>?_) (fun f=>?_)
    ·have he:=of_decide_eq_true f
     have e0:inS data 1 s z i w (a+1) 0=inS data 1 s z i w a 0:=if_pos he
     refine V.r0 jii ?_
     refine⟨a+1,by omega,by omega,?_⟩
     simp only[e0]
     exact V.wk
    ·have he:=of_decide_eq_false f
     have hin:=stp_in s0 (by omega) hlen hx2 he
     have b1:=jaQ (p:=fun v=>0≤v∧v≤65535) og.2.2.2 (by omega) ((a:Int)+s).toNat
     have gb:=jhf (s:=s) (a:=a) og.2.2.2 zb
     unfold grd at gb
     have hm:InR .i64 ((z-1)*max (data.getD ((a:Int)+s).toNat 0-data.getD a 0) (data.getD a 0-data.getD ((a:Int)+s).toNat 0)):=⟨Int.le_trans (by decide) gb.1,Int.le_trans gb.2 (by decide)⟩
     have g:(a:Int)%1=0:=by omega
     ·have u0:inS data 1 s z i w (a+1) 0=(inS data 1 s z i w a 0).set i (max ((inS data 1 s z i w a 0).getD i 0) (grd data s z a)):=(if_neg he).trans (if_pos (show (a:Int)%1=((0:Nat):Int) from g))
      (conv=>whnf)
      (try simp only[jii])
      repeat ((first|refine V.s1 ?_|((try ((with_reducible refine .ext ?_);(conv=>whnf);(try simp only[jii])));(with_reducible refine jaa (r:=?_) ?_ ?_);rotate_left;(focus (first|fail));(conv=>whnf))|((simp only[g]);(conv=>whnf)));(try simp only[jii]))
      refine⟨a+1,by omega,by omega,?_⟩
      simp only[u0]
      exact V.wk
   ·have hx2:=of_decide_eq_false c
    obtain rfl:a=data.length:=by omega
    have hsz0:=jjB sm zb.2 (by omega) (by decide)
    have hsz1:=ji6 (show 0≤s by omega) (show 0≤z by omega)
    have hsz:InR .i64 (s*z):=⟨Int.le_trans (by decide) hsz1,Int.le_trans hsz0 (by decide)⟩
    refine V.r0 jii ?_
    refine⟨(k+1,(i:Int)-1,s*z,inS data 1 s z i w data.length),⟨by show k+1≤zs.length;omega,by show (i:Int)-1=(zs.length:Int)-1-((k+1:Nat):Int);omega,?_,?_⟩,by show zs.length-(k+1)<zs.length-k;omega,?_⟩
    ·show s*z=strd zs 1 k*zs.getD (zs.length-1-k) 0
     rw[hs,← hz,hi]
    ·show _=inS data 1 (strd zs 1 k) (zs.getD (zs.length-1-k) 0) (zs.length-1-k) (outS zs data 1 k) data.length
     rw[← hs,← hw,← hi,hz]
    ·dsimp only
     exact V.wk
  ·have hx:=of_decide_eq_false h
   have hkn:k=zs.length:=by omega
   have hwT:w=T:=by rw[hw,hkn,hT]
   subst hwT
   refine V.r0 @ji8 ?_
   refine⟨(),trivial,?_⟩
   have t0:(w 0).take zs.length=w 0:=jjW (Nat.le_of_eq (wo 0).1)
   refine Wk.pub 200 ?_
   (conv=>whnf)
   simp only[t0]
   refine Wk.pub 21 ?_
   (conv=>whnf)
   simp only[ji8]
   exact V.wk
def stB2 (n:Nat):Nat→Hp
 | 0=>[(21,.box [.nil,.nil])]
 | 1=>[(21,.box [.osl 200 0 n,.nil]),(200,.arr .i64 (List.replicate n 0))]
 | _=>[(21,.box [.osl 200 0 n,.osl 201 0 n]),(200,.arr .i64 (List.replicate n 0)),(201,.arr .i64 (List.replicate n 0))]
theorem steep2_t (zs data:List Int)(T:Nat→List Int)(hg:jag zs 2 data=true)(hl:zs.length≤4)(hT:outS zs data 2 zs.length=T):Cl 22 [.agg [.ints .i64 zs,.int .i64 2,.ints .i64 data]] (.tup [.slf 1 2 (fun j=>List.take 1 (List.drop (j*1) [.ints .i64 (T 0),.ints .i64 (T 1)])),.int .i64 0]):=by
 have ck:Cl 58 [.agg [.ints .i64 zs,.int .i64 2,.ints .i64 data]] (.int .i64 0):=jbY hg hl
 have og:=jap hg
 refine V.en tbOk Tryz.func22 ?_
 refine V.r1 jii ck ?_
 refine jad 0 (fun k=>k≤2) (fun k=>2-k) (fun k=>[(24,.int .i64 k)]) (fun k=>stB2 zs.length k) ?_ ?_ ?_
 ·simp only[stB2]
  exact V.wk
 ·exact ji2 _
 intro k hk
 have hk4:k=0∨k=1∨k=2:=by omega
 rcases hk4 with e|e|e
 all_goals subst e
 ·simp only[k0,stB2]
  refine V.r0 jii ?_
  refine⟨1,by omega,by omega,?_⟩
  simp only[stB2]
  refine Wk.renBox 32 200 21 0 zs.length (by decide) (by decide) (by decide) rfl rfl rfl ?_
  exact V.wk
 ·simp only[k1,stB2]
  refine V.r0 jii ?_
  refine⟨2,by omega,by omega,?_⟩
  simp only[stB2]
  refine Wk.renBox 32 201 21 1 zs.length (by decide) (by decide) (by decide) rfl rfl rfl ?_
  exact V.wk
 ·simp only[k2,stB2]
  refine V.r0 jii ?_
  refine jbA (β:=Unit) 2 (fun _=>True) (fun _=>[(5,.slf 1 2 (fun j=>List.take 1 (List.drop (j*1) [.ints .i64 (T 0),.ints .i64 (T 1)]))),(7,.any),(8,.any),(21,.any),(22,.any)]) (fun _=>[(21,.gone),(200,.gone),(201,.gone)]) ?_ ?_
  rotate_left
  ·intro _ _
   refine V.r0 @ji8 ?_
   exact Fin.of rfl
  refine jad ((0,(zs.length:Int)-1,2,outS zs data 2 0):Nat×Int×Int×(Nat→List Int)) (fun y=>y.1≤zs.length∧y.2.1=(zs.length:Int)-1-y.1∧y.2.2.1=strd zs 2 y.1∧y.2.2.2=outS zs data 2 y.1) (fun y=>zs.length-y.1) (fun y=>[(8,.int .i64 y.2.1),(7,.int .i64 y.2.2.1)]) (fun y=>[(200,.arr .i64 (y.2.2.2 0)),(201,.arr .i64 (y.2.2.2 1))]) ?_ ?_ ?_
  ·exact V.wk
  ·exact⟨ji2 _,(by show (zs.length:Int)-1=(zs.length:Int)-1-((0:Nat):Int);omega),rfl,rfl⟩
  rintro⟨k,x8,s,w⟩ ⟨hk,h8,hs,hw⟩
  dsimp only at hk h8 hs hw ⊢
  have wo:∀ r,rowOk zs.length (w r):=fun r=>by rw[hw];exact jed og.2.2.2 og.2.1 k hk r
  refine V.r0 jii ?_
  refine V.br (fun h=>?_) (fun h=>?_)
  ·have hx:=of_decide_eq_true h
   obtain⟨i,rfl⟩:∃ i:Nat,x8=i:=⟨x8.toNat,by omega⟩
   have hi:i=zs.length-1-k:=by omega
   obtain⟨z,hz⟩:∃ z,zs.getD i 0=z:=⟨_,rfl⟩
   have zb:2≤z∧z≤9:=by rw[← hz];exact jbo og.2.1 (by omega)
   have sp:=jdx og.1 og.2.1 k hk
   refine V.r0 (V.a2 jii hz) ?_
   have s0:0<s:=by rw[hs];exact sp.1
   have pp:=jcK (zs:=zs) (out:=2) (k+1) (by omega)
   have hlen:(data.length:Int)=prod (zs.take (zs.length-(k+1)))*(s*z):=by rw[og.2.2.1.2,pp,hs,← hz,hi];rfl
   have sm:s≤26244:=by
    have:=pow9 k (by omega)
    omega
   have io:=jf7 (out:=2) (s:=s) (z:=z) (i:=i) og.2.2.2 zb wo
   refine jad (0:Nat) (fun a=>a≤data.length) (fun a=>data.length-a) (fun a=>[(53,.int .i64 (a:Nat))]) (fun a=>[(200,.arr .i64 (inS data 2 s z i w a 0)),(201,.arr .i64 (inS data 2 s z i w a 1))]) ?_ ?_ ?_
   ·exact V.wk
   ·exact ji2 _
   intro a ha
   have b0:=jaQ (p:=fun v=>0≤v∧v≤65535) og.2.2.2 (by omega) a
   have r0:=io a 0
   have q0:=r0.2 i
   have l0:=r0.1
   have r1:=io a 1
   have q1:=r1.2 i
   have l1:=r1.1
   refine V.r0 jii ?_
   refine V.br (fun c=>?_) (fun c=>?_)
   ·have hx2:=of_decide_eq_true c
    have hq:0≤(a:Int)/s:=ji3 (by omega) (by omega)
    refine V.r0 jii ?_
    refine V.br (fun f=>?_) (fun f=>?_)
    ·have he:=of_decide_eq_true f
     have e0:inS data 2 s z i w (a+1) 0=inS data 2 s z i w a 0:=if_pos he
     have e1:inS data 2 s z i w (a+1) 1=inS data 2 s z i w a 1:=if_pos he
     refine V.r0 jii ?_
     refine⟨a+1,by omega,by omega,?_⟩
     simp only[e0,e1]
     exact V.wk
    ·have he:=of_decide_eq_false f
     have hin:=stp_in s0 (by omega) hlen hx2 he
     have b1:=jaQ (p:=fun v=>0≤v∧v≤65535) og.2.2.2 (by omega) ((a:Int)+s).toNat
     have gb:=jhf (s:=s) (a:=a) og.2.2.2 zb
     unfold grd at gb
     have hm:InR .i64 ((z-1)*max (data.getD ((a:Int)+s).toNat 0-data.getD a 0) (data.getD a 0-data.getD ((a:Int)+s).toNat 0)):=⟨Int.le_trans (by decide) gb.1,Int.le_trans gb.2 (by decide)⟩
     have hr:(a:Int)%2=0∨(a:Int)%2=1:=by omega
     rcases hr with g|g
     ·have u0:inS data 2 s z i w (a+1) 0=(inS data 2 s z i w a 0).set i (max ((inS data 2 s z i w a 0).getD i 0) (grd data s z a)):=(if_neg he).trans (if_pos (show (a:Int)%2=((0:Nat):Int) from g))
      have u1:inS data 2 s z i w (a+1) 1=inS data 2 s z i w a 1:=(if_neg he).trans (if_neg (by rw[g];decide))
      (conv=>whnf)
      (try simp only[jii])
      repeat ((first|refine V.s1 ?_|((try ((with_reducible refine .ext ?_);(conv=>whnf);(try simp only[jii])));(with_reducible refine jaa (r:=?_) ?_ ?_);rotate_left;(focus (first|fail));(conv=>whnf))|((simp only[g]);(conv=>whnf)));(try simp only[jii]))
      refine⟨a+1,by omega,by omega,?_⟩
      simp only[u0,u1]
      exact V.wk
     ·have u1:inS data 2 s z i w (a+1) 1=(inS data 2 s z i w a 1).set i (max ((inS data 2 s z i w a 1).getD i 0) (grd data s z a)):=(if_neg he).trans (if_pos (show (a:Int)%2=((1:Nat):Int) from g))
      have u0:inS data 2 s z i w (a+1) 0=inS data 2 s z i w a 0:=(if_neg he).trans (if_neg (by rw[g];decide))
      (conv=>whnf)
      (try simp only[jii])
      repeat ((first|refine V.s1 ?_|((try ((with_reducible refine .ext ?_);(conv=>whnf);(try simp only[jii])));(with_reducible refine jaa (r:=?_) ?_ ?_);rotate_left;(focus (first|fail));(conv=>whnf))|((simp only[g]);(conv=>whnf)));(try simp only[jii]))
      refine⟨a+1,by omega,by omega,?_⟩
      simp only[u0,u1]
      exact V.wk
   ·have hx2:=of_decide_eq_false c
    obtain rfl:a=data.length:=by omega
    have hsz0:=jjB sm zb.2 (by omega) (by decide)
    have hsz1:=ji6 (show 0≤s by omega) (show 0≤z by omega)
    have hsz:InR .i64 (s*z):=⟨Int.le_trans (by decide) hsz1,Int.le_trans hsz0 (by decide)⟩
    refine V.r0 jii ?_
    refine⟨(k+1,(i:Int)-1,s*z,inS data 2 s z i w data.length),⟨by show k+1≤zs.length;omega,by show (i:Int)-1=(zs.length:Int)-1-((k+1:Nat):Int);omega,?_,?_⟩,by show zs.length-(k+1)<zs.length-k;omega,?_⟩
    ·show s*z=strd zs 2 k*zs.getD (zs.length-1-k) 0
     rw[hs,← hz,hi]
    ·show _=inS data 2 (strd zs 2 k) (zs.getD (zs.length-1-k) 0) (zs.length-1-k) (outS zs data 2 k) data.length
     rw[← hs,← hw,← hi,hz]
    ·dsimp only
     exact V.wk
  ·have hx:=of_decide_eq_false h
   have hkn:k=zs.length:=by omega
   have hwT:w=T:=by rw[hw,hkn,hT]
   subst hwT
   refine V.r0 @ji8 ?_
   refine⟨(),trivial,?_⟩
   have t0:(w 0).take zs.length=w 0:=jjW (Nat.le_of_eq (wo 0).1)
   refine Wk.pub 200 ?_
   (conv=>whnf)
   simp only[t0]
   have t1:(w 1).take zs.length=w 1:=jjW (Nat.le_of_eq (wo 1).1)
   refine Wk.pub 201 ?_
   (conv=>whnf)
   simp only[t1]
   refine Wk.pub 21 ?_
   (conv=>whnf)
   simp only[ji8]
   exact V.wk
def stB3 (n:Nat):Nat→Hp
 | 0=>[(21,.box [.nil,.nil,.nil])]
 | 1=>[(21,.box [.osl 200 0 n,.nil,.nil]),(200,.arr .i64 (List.replicate n 0))]
 | 2=>[(21,.box [.osl 200 0 n,.osl 201 0 n,.nil]),(200,.arr .i64 (List.replicate n 0)),(201,.arr .i64 (List.replicate n 0))]
 | _=>[(21,.box [.osl 200 0 n,.osl 201 0 n,.osl 202 0 n]),(200,.arr .i64 (List.replicate n 0)),(201,.arr .i64 (List.replicate n 0)),(202,.arr .i64 (List.replicate n 0))]
theorem steep3_t (zs data:List Int)(T:Nat→List Int)(hg:jag zs 3 data=true)(hl:zs.length≤4)(hT:outS zs data 3 zs.length=T):Cl 22 [.agg [.ints .i64 zs,.int .i64 3,.ints .i64 data]] (.tup [.slf 1 3 (fun j=>List.take 1 (List.drop (j*1) [.ints .i64 (T 0),.ints .i64 (T 1),.ints .i64 (T 2)])),.int .i64 0]):=by
 have ck:Cl 58 [.agg [.ints .i64 zs,.int .i64 3,.ints .i64 data]] (.int .i64 0):=jbY hg hl
 have og:=jap hg
 refine V.en tbOk Tryz.func22 ?_
 refine V.r1 jii ck ?_
 refine jad 0 (fun k=>k≤3) (fun k=>3-k) (fun k=>[(24,.int .i64 k)]) (fun k=>stB3 zs.length k) ?_ ?_ ?_
 ·simp only[stB3]
  exact V.wk
 ·exact ji2 _
 intro k hk
 have hk4:k=0∨k=1∨k=2∨k=3:=by omega
 rcases hk4 with e|e|e|e
 all_goals subst e
 ·simp only[k0,stB3]
  refine V.r0 jii ?_
  refine⟨1,by omega,by omega,?_⟩
  simp only[stB3]
  refine Wk.renBox 32 200 21 0 zs.length (by decide) (by decide) (by decide) rfl rfl rfl ?_
  exact V.wk
 ·simp only[k1,stB3]
  refine V.r0 jii ?_
  refine⟨2,by omega,by omega,?_⟩
  simp only[stB3]
  refine Wk.renBox 32 201 21 1 zs.length (by decide) (by decide) (by decide) rfl rfl rfl ?_
  exact V.wk
 ·simp only[k2,stB3]
  refine V.r0 jii ?_
  refine⟨3,by omega,by omega,?_⟩
  simp only[stB3]
  refine Wk.renBox 32 202 21 2 zs.length (by decide) (by decide) (by decide) rfl rfl rfl ?_
  exact V.wk
 ·simp only[k3,stB3]
  refine V.r0 jii ?_
  refine jbA (β:=Unit) 2 (fun _=>True) (fun _=>[(5,.slf 1 3 (fun j=>List.take 1 (List.drop (j*1) [.ints .i64 (T 0),.ints .i64 (T 1),.ints .i64 (T 2)]))),(7,.any),(8,.any),(21,.any),(22,.any)]) (fun _=>[(21,.gone),(200,.gone),(201,.gone),(202,.gone)]) ?_ ?_
  rotate_left
  ·intro _ _
   refine V.r0 @ji8 ?_
   exact Fin.of rfl
  refine jad ((0,(zs.length:Int)-1,3,outS zs data 3 0):Nat×Int×Int×(Nat→List Int)) (fun y=>y.1≤zs.length∧y.2.1=(zs.length:Int)-1-y.1∧y.2.2.1=strd zs 3 y.1∧y.2.2.2=outS zs data 3 y.1) (fun y=>zs.length-y.1) (fun y=>[(8,.int .i64 y.2.1),(7,.int .i64 y.2.2.1)]) (fun y=>[(200,.arr .i64 (y.2.2.2 0)),(201,.arr .i64 (y.2.2.2 1)),(202,.arr .i64 (y.2.2.2 2))]) ?_ ?_ ?_
  ·exact V.wk
  ·exact⟨ji2 _,(by show (zs.length:Int)-1=(zs.length:Int)-1-((0:Nat):Int);omega),rfl,rfl⟩
  rintro⟨k,x8,s,w⟩ ⟨hk,h8,hs,hw⟩
  dsimp only at hk h8 hs hw ⊢
  have wo:∀ r,rowOk zs.length (w r):=fun r=>by rw[hw];exact jed og.2.2.2 og.2.1 k hk r
  refine V.r0 jii ?_
  refine V.br (fun h=>?_) (fun h=>?_)
  ·have hx:=of_decide_eq_true h
   obtain⟨i,rfl⟩:∃ i:Nat,x8=i:=⟨x8.toNat,by omega⟩
   have hi:i=zs.length-1-k:=by omega
   obtain⟨z,hz⟩:∃ z,zs.getD i 0=z:=⟨_,rfl⟩
   have zb:2≤z∧z≤9:=by rw[← hz];exact jbo og.2.1 (by omega)
   have sp:=jdx og.1 og.2.1 k hk
   refine V.r0 (V.a2 jii hz) ?_
   have s0:0<s:=by rw[hs];exact sp.1
   have pp:=jcK (zs:=zs) (out:=3) (k+1) (by omega)
   have hlen:(data.length:Int)=prod (zs.take (zs.length-(k+1)))*(s*z):=by rw[og.2.2.1.2,pp,hs,← hz,hi];rfl
   have sm:s≤26244:=by
    have:=pow9 k (by omega)
    omega
   have io:=jf7 (out:=3) (s:=s) (z:=z) (i:=i) og.2.2.2 zb wo
   refine jad (0:Nat) (fun a=>a≤data.length) (fun a=>data.length-a) (fun a=>[(53,.int .i64 (a:Nat))]) (fun a=>[(200,.arr .i64 (inS data 3 s z i w a 0)),(201,.arr .i64 (inS data 3 s z i w a 1)),(202,.arr .i64 (inS data 3 s z i w a 2))]) ?_ ?_ ?_
   ·exact V.wk
   ·exact ji2 _
   intro a ha
   have b0:=jaQ (p:=fun v=>0≤v∧v≤65535) og.2.2.2 (by omega) a
   have r0:=io a 0
   have q0:=r0.2 i
   have l0:=r0.1
   have r1:=io a 1
   have q1:=r1.2 i
   have l1:=r1.1
   have r2:=io a 2
   have q2:=r2.2 i
   have l2:=r2.1
   refine V.r0 jii ?_
   refine V.br (fun c=>?_) (fun c=>?_)
   ·have hx2:=of_decide_eq_true c
    have hq:0≤(a:Int)/s:=ji3 (by omega) (by omega)
    refine V.r0 jii ?_
    refine V.br (fun f=>?_) (fun f=>?_)
    ·have he:=of_decide_eq_true f
     have e0:inS data 3 s z i w (a+1) 0=inS data 3 s z i w a 0:=if_pos he
     have e1:inS data 3 s z i w (a+1) 1=inS data 3 s z i w a 1:=if_pos he
     have e2:inS data 3 s z i w (a+1) 2=inS data 3 s z i w a 2:=if_pos he
     refine V.r0 jii ?_
     refine⟨a+1,by omega,by omega,?_⟩
     simp only[e0,e1,e2]
     exact V.wk
    ·have he:=of_decide_eq_false f
     have hin:=stp_in s0 (by omega) hlen hx2 he
     have b1:=jaQ (p:=fun v=>0≤v∧v≤65535) og.2.2.2 (by omega) ((a:Int)+s).toNat
     have gb:=jhf (s:=s) (a:=a) og.2.2.2 zb
     unfold grd at gb
     have hm:InR .i64 ((z-1)*max (data.getD ((a:Int)+s).toNat 0-data.getD a 0) (data.getD a 0-data.getD ((a:Int)+s).toNat 0)):=⟨Int.le_trans (by decide) gb.1,Int.le_trans gb.2 (by decide)⟩
     have hr:(a:Int)%3=0∨(a:Int)%3=1∨(a:Int)%3=2:=by omega
     rcases hr with g|g|g
     ·have u0:inS data 3 s z i w (a+1) 0=(inS data 3 s z i w a 0).set i (max ((inS data 3 s z i w a 0).getD i 0) (grd data s z a)):=(if_neg he).trans (if_pos (show (a:Int)%3=((0:Nat):Int) from g))
      have u1:inS data 3 s z i w (a+1) 1=inS data 3 s z i w a 1:=(if_neg he).trans (if_neg (by rw[g];decide))
      have u2:inS data 3 s z i w (a+1) 2=inS data 3 s z i w a 2:=(if_neg he).trans (if_neg (by rw[g];decide))
      (conv=>whnf)
      (try simp only[jii])
      repeat ((first|refine V.s1 ?_|((try ((with_reducible refine .ext ?_);(conv=>whnf);(try simp only[jii])));(with_reducible refine jaa (r:=?_) ?_ ?_);rotate_left;(focus (first|fail));(conv=>whnf))|((simp only[g]);(conv=>whnf)));(try simp only[jii]))
      refine⟨a+1,by omega,by omega,?_⟩
      simp only[u0,u1,u2]
      exact V.wk
     ·have u1:inS data 3 s z i w (a+1) 1=(inS data 3 s z i w a 1).set i (max ((inS data 3 s z i w a 1).getD i 0) (grd data s z a)):=(if_neg he).trans (if_pos (show (a:Int)%3=((1:Nat):Int) from g))
      have u0:inS data 3 s z i w (a+1) 0=inS data 3 s z i w a 0:=(if_neg he).trans (if_neg (by rw[g];decide))
      have u2:inS data 3 s z i w (a+1) 2=inS data 3 s z i w a 2:=(if_neg he).trans (if_neg (by rw[g];decide))
      (conv=>whnf)
      (try simp only[jii])
      repeat ((first|refine V.s1 ?_|((try ((with_reducible refine .ext ?_);(conv=>whnf);(try simp only[jii])));(with_reducible refine jaa (r:=?_) ?_ ?_);rotate_left;(focus (first|fail));(conv=>whnf))|((simp only[g]);(conv=>whnf)));(try simp only[jii]))
      refine⟨a+1,by omega,by omega,?_⟩
      simp only[u0,u1,u2]
      exact V.wk
     ·have u2:inS data 3 s z i w (a+1) 2=(inS data 3 s z i w a 2).set i (max ((inS data 3 s z i w a 2).getD i 0) (grd data s z a)):=(if_neg he).trans (if_pos (show (a:Int)%3=((2:Nat):Int) from g))
      have u0:inS data 3 s z i w (a+1) 0=inS data 3 s z i w a 0:=(if_neg he).trans (if_neg (by rw[g];decide))
      have u1:inS data 3 s z i w (a+1) 1=inS data 3 s z i w a 1:=(if_neg he).trans (if_neg (by rw[g];decide))
      (conv=>whnf)
      (try simp only[jii])
      repeat ((first|refine V.s1 ?_|((try ((with_reducible refine .ext ?_);(conv=>whnf);(try simp only[jii])));(with_reducible refine jaa (r:=?_) ?_ ?_);rotate_left;(focus (first|fail));(conv=>whnf))|((simp only[g]);(conv=>whnf)));(try simp only[jii]))
      refine⟨a+1,by omega,by omega,?_⟩
      simp only[u0,u1,u2]
      exact V.wk
   ·have hx2:=of_decide_eq_false c
    obtain rfl:a=data.length:=by omega
    have hsz0:=jjB sm zb.2 (by omega) (by decide)
    have hsz1:=ji6 (show 0≤s by omega) (show 0≤z by omega)
    have hsz:InR .i64 (s*z):=⟨Int.le_trans (by decide) hsz1,Int.le_trans hsz0 (by decide)⟩
    refine V.r0 jii ?_
    refine⟨(k+1,(i:Int)-1,s*z,inS data 3 s z i w data.length),⟨by show k+1≤zs.length;omega,by show (i:Int)-1=(zs.length:Int)-1-((k+1:Nat):Int);omega,?_,?_⟩,by show zs.length-(k+1)<zs.length-k;omega,?_⟩
    ·show s*z=strd zs 3 k*zs.getD (zs.length-1-k) 0
     rw[hs,← hz,hi]
    ·show _=inS data 3 (strd zs 3 k) (zs.getD (zs.length-1-k) 0) (zs.length-1-k) (outS zs data 3 k) data.length
     rw[← hs,← hw,← hi,hz]
    ·dsimp only
     exact V.wk
  ·have hx:=of_decide_eq_false h
   have hkn:k=zs.length:=by omega
   have hwT:w=T:=by rw[hw,hkn,hT]
   subst hwT
   refine V.r0 @ji8 ?_
   refine⟨(),trivial,?_⟩
   have t0:(w 0).take zs.length=w 0:=jjW (Nat.le_of_eq (wo 0).1)
   refine Wk.pub 200 ?_
   (conv=>whnf)
   simp only[t0]
   have t1:(w 1).take zs.length=w 1:=jjW (Nat.le_of_eq (wo 1).1)
   refine Wk.pub 201 ?_
   (conv=>whnf)
   simp only[t1]
   have t2:(w 2).take zs.length=w 2:=jjW (Nat.le_of_eq (wo 2).1)
   refine Wk.pub 202 ?_
   (conv=>whnf)
   simp only[t2]
   refine Wk.pub 21 ?_
   (conv=>whnf)
   simp only[ji8]
   exact V.wk
theorem jhY {data:List Int}{out s z:Int}{i n:Nat}{w:Nat→List Int}(hw:∀ r,(w r).length=n):∀ a r,(inS data out s z i w a r).length=n
 | 0,r=>hw r
 | a+1,r=>by
  have h:=jhY (data:=data) (out:=out) (s:=s) (z:=z) (i:=i) hw a r
  simp only[inS,stp]
  split
  ·exact h
  ·split
   ·rw[jj3];exact h
   ·exact h
theorem jdN {zs data:List Int}{out:Int} : ∀ k r,(outS zs data out k r).length=zs.length
 | 0,r=>by simp[outS]
 | k+1,r=>jhY (jdN k) _ r
theorem dv_at {q o r:Int}(ho:0<o)(hr:0≤r∧r<o):(q*o+r)/o=q∧(q*o+r)%o=r:=by
 have h1:(q*o+r)%o=r:=by rw[Int.add_comm,Int.add_mul_emod_self_right];exact Int.emod_eq_of_lt hr.1 hr.2
 have h2:(q*o+r)/o=q:=by
  rw[Int.add_comm,Int.add_mul_ediv_right _ _ (by omega),Int.ediv_eq_zero_of_lt hr.1 hr.2,Int.zero_add]
 exact⟨h2,h1⟩
theorem dv_mul {a o z:Int}(ho:0≤o):a/(o*z)=a/o/z:=Int.ediv_mul_of_nonneg ho
theorem slot_get {data:List Int}{p out:Int}{r:Nat}(hr:r<out.toNat):(slot data p out).getD r 0=data.getD (p.toNat+r) 0:=by
 unfold slot
 simp[jjF,List.getElem?_take,hr,List.getElem?_drop]
theorem pos_at {q out:Int}{data:List Int}{N:Int}(ho:1≤out)(hl:(data.length:Int)=N*out)(hq:0≤q∧q<N){r:Nat}(hr:r<out.toNat) :
  ∃ a:Nat,(a:Int)=q*out+r∧a<data.length∧(a:Int)%out=r∧(a:Int)/out=q∧(slot data (q*out) out).getD r 0=data.getD a 0:=by
 have h0:0≤q*out:=ji6 hq.1 (by omega)
 have h1:q*out+out≤N*out:=by
  have:=jji (show q+1≤N by omega) (show 0≤out by omega)
  rw[jjx,jjy] at this
  exact this
 have d:=dv_at (q:=q) (o:=out) (r:=(r:Int)) (by omega) (by omega)
 have e:(((q*out).toNat+r:Nat):Int)=q*out+r:=by omega
 refine⟨(q*out).toNat+r,e,by omega,by rw[e];exact d.2,by rw[e];exact d.1,slot_get hr⟩
theorem value_t (zs data:List Int)(out:Int)(n:Nat)(X:Nat→List D)(Y:Nat→Tx)(ev:Cl 13 [.agg [.ints .i64 zs,.int .i64 out,.ints .i64 data],.slf 2 n X] (.tup [V.sl2 1 [.str (Y 0).1,.str (Y 0).2],.int .i64 0])) :
  Cl 31 [.agg [.ints .i64 zs,.int .i64 out,.ints .i64 data],.agg [.str (Y 0).1,.str (Y 0).2],.slf 2 n X] (.bool true):=by
 have q:=eqf1 Y
 refine V.en tbOk Tryz.func31 ?_
 refine V.r2 @ji8 ev q ?_
 exact Fin.of rfl
theorem nearS_bd (x:Rat)(s:Nat):2*(nearZ x s*x.den)≤2*(x.num*s)+x.den∧2*(x.num*s)+x.den<2*(nearZ x s*x.den)+2*x.den:=by
 have hp:=x.den_pos
 unfold nearZ
 have h1:=ji5 (x.num*((s*2:Nat):Int)+x.den) ((x.den*2:Nat):Int)
 have h2:=ji4 (x.num*((s*2:Nat):Int)+x.den) (show ((x.den*2:Nat):Int)≠0 by omega)
 have h3:=jju (x.num*((s*2:Nat):Int)+x.den) (show 0<((x.den*2:Nat):Int) by omega)
 generalize (x.num*((s*2:Nat):Int)+x.den)%((x.den*2:Nat):Int)=r at *
 generalize hn:(x.num*((s*2:Nat):Int)+x.den)/((x.den*2:Nat):Int)=n at *
 have e:((x.den*2:Nat):Int)*n=2*(n*x.den):=by
  rw[show ((x.den*2:Nat):Int)=2*(x.den:Int) by omega,jjp,jjo (x.den:Int) n]
 have e2:x.num*((s*2:Nat):Int)=2*(x.num*s):=by
  rw[show ((s*2:Nat):Int)=(s:Int)*2 by omega,← jjp,jjo]
 rw[e,e2] at h1
 generalize n*(x.den:Int)=y at *
 generalize x.num*(s:Int)=u at *
 omega
theorem num_eq (x:Rat):((x.num:Int):Rat)=x*((x.den:Int):Rat):=by
 have h:x=Rat.divInt x.num x.den:=(jjC x).symm
 have hd:(((x.den:Int)):Rat)≠0:=fun e=>by
  have:(x.den:Int)=0:=Rat.intCast_eq_zero_iff.1 e
  have:=x.den_pos
  omega
 conv=>rhs;lhs;rw[h]
 rw[Rat.divInt_eq_div]
 grind
theorem near_half (x:Rat)(s:Nat):((2*nearZ x s-1:Int):Rat)≤x*(((2*s:Nat):Int):Rat)∧x*(((2*s:Nat):Int):Rat)≤((2*nearZ x s+1:Int):Rat):=by
 have b:=nearS_bd x s
 have hp:(0:Rat)<((x.den:Int):Rat):=by exact_mod_cast (show (0:Int)<(x.den:Int) from by have:=x.den_pos;omega)
 have e1:(2*nearZ x s)*(x.den:Int)=2*(nearZ x s*x.den):=jjp _ _ _
 have e2:x.num*((2*s:Nat):Int)=2*(x.num*s):=by
  rw[show ((2*s:Nat):Int)=2*(s:Int) by omega,Int.mul_left_comm]
 have k1:(2*nearZ x s-1)*(x.den:Int)≤x.num*((2*s:Nat):Int):=by
  rw[Int.sub_mul,jjy,e1,e2]
  omega
 have k2:x.num*((2*s:Nat):Int)≤(2*nearZ x s+1)*(x.den:Int):=by
  rw[jjx,jjy,e1,e2]
  omega
 have r1:=Rat.intCast_le_intCast.2 k1
 have r2:=Rat.intCast_le_intCast.2 k2
 rw[jjD,jjD,num_eq] at r1 r2
 constructor
 ·refine Rat.le_of_mul_le_mul_right (c:=((x.den:Int):Rat)) ?_ hp
  grind
 ·refine Rat.le_of_mul_le_mul_right (c:=((x.den:Int):Rat)) ?_ hp
  grind
end Go.Proofs.YtbnghipgicmpdaaGreatDoor
end
