/- What functions of the program answer at given values, part 15. Conditions: those that each theorem names. -/
import Derived.Test.YtgjgpdceghjajaaGreatDoorSimplexWithinH14
import Derived.Test.YtgjgpdceghjajaaGreatDoorSimplexWithinH6
import Derived.Test.YtgjgpdceghjajaaGreatDoorSimplexWithinH13
import Derived.Test.YtgjgpdceghjajaaGreatDoorSimplexWithinH10
set_option linter.unusedSimpArgs false
set_option linter.unusedVariables false
set_option maxHeartbeats 8000000
set_option maxRecDepth 100000
section
namespace Go.Proofs.YtgjgpdceghjajaaGreatDoor
open Go Go.V Go.Nb
theorem jib:type_of% @jiA∧type_of% @tn0∧type_of% @tn1∧type_of% @tn2∧type_of% @tn3∧type_of% @xt4:=⟨@jiA,@tn0,@tn1,@tn2,@tn3,@xt4⟩
theorem jet (zs data lo hi:List Int)(out:Int)(X I:Nat→Int×Int)(MD HV:Nat→Tx)(o e o2:Nat)(Y B S:Nat→List D)(hl:zs.length=1)(hI:∀ i,i<1→(0≤(I i).1∧(I i).1≤1000000000000)∧(0≤(I i).2∧(I i).2≤1000000000000))(gr:Cl 25 [.agg [.ints .i64 zs,.int .i64 out,.ints .i64 data]] (.tup [.ints .i64 lo,.ints .i64 hi,.int .i64 0]))
  (li:Cl 55 [.int .i64 1,.fn 56 [] [.ref [V.sl2 1 [.int .i64 (X 0).1,.int .i64 (X 0).2]]]] (.tup [V.sl2 1 [.int .i64 (I 0).1,.int .i64 (I 0).2],.int .i64 0]))
  (om:∀ i,i<1→Cl 58 [.int .i64 ((I i).1+(I i).2),.int .i64 2000000000000] (.agg [.str (MD i).1,.str (MD i).2])) (oh:∀ i,i<1→Cl 58 [.int .i64 ((I i).2-(I i).1),.int .i64 2000000000000] (.agg [.str (HV i).1,.str (HV i).2]))
  (ev:Cl 15 [.agg [.ints .i64 zs,.int .i64 out,.ints .i64 data],V.sl2 1 [.str (MD 0).1,.str (MD 0).2]] (.tup [.slf 2 o Y,.int .i64 0])) (st:Cl 32 [.agg [.ints .i64 zs,.int .i64 out,.ints .i64 data]] (.tup [.slf 1 o2 S,.int .i64 0]))
  (l2:Cl 55 [.int .i64 out,.fn 59 [] [.ref [.slf 1 o2 S],.ref [V.sl2 1 [.str (HV 0).1,.str (HV 0).2]],.ref [.slf 2 o Y],.ref [.ints .i64 lo],.ref [.ints .i64 hi]]] (.tup [.slf 2 e B,.int .i64 0])) :
  Cl 29 [.agg [.ints .i64 zs,.int .i64 out,.ints .i64 data],V.sl2 1 [.int .i64 (X 0).1,.int .i64 (X 0).2]] (.tup [.slf 2 e B,.int .i64 0]):=by
 have hz:((zs.length:Nat):Int)=1:=by rw[hl];rfl
 refine V.en tbOk Tryz.func29 ?_
 refine V.r1 jib gr ?_
 refine Cnd.split (CondB.mk (fun h=>absurd h (by rw[hl];decide)) (fun _=>?_))
 refine V.r1 jib li ?_
 refine jcE (β:=Unit) 0 (fun _=>True) (fun _=>[(46,.any),(49,.any)]) (fun _=>[(43,.box [.str (MD 0).1,.str (MD 0).2]),(46,.gone),(11,.box [V.sl2 1 [.str (HV 0).1,.str (HV 0).2]])]) ?_ ?_
 rotate_left
 ·intro _ _
  refine V.r3 jib ev st l2 ?_
  exact Fin.of rfl
 refine jac (0) (fun k=>k≤1) (fun k=>1-k) (fun k=>[(49,.int .i64 k)]) (fun k=>[(43,.box (preD (2*k) [.str (MD 0).1,.str (MD 0).2])),(46,.box (preD (2*k) [.str (HV 0).1,.str (HV 0).2]))]) ?_ ?_ ?_
 ·exact V.wk
 ·exact jiv _
 intro k hk
 have hk4:k=0∨k=1:=by omega
 rcases hk4 with e1|e1
 all_goals subst e1
 ·simp only[k0]
  have c1:=om 0 (by omega)
  have c2:=oh 0 (by omega)
  have hh:=hI 0 (by omega)
  refine V.r1 jib c1 ?_
  refine⟨Pq24z,[],V.pok,?_⟩
  refine jab [] [(46,.box (preD (2*1) [.str (HV 0).1,.str (HV 0).2]))] ?_ ?_
  ·exact V.d1 jib c2
  refine V.r0 jib ?_
  exact⟨1,by omega,by omega,V.wk⟩
 ·simp only[k1]
  refine V.r0 jib ?_
  refine⟨(),trivial,?_⟩
  refine Wk.pub 46 ?_
  (conv=>whnf)
  simp only[jiA]
  exact V.wk
theorem jdD (zs data lo hi:List Int)(out:Int)(X I:Nat→Int×Int)(MD HV:Nat→Tx)(o e o2:Nat)(Y B S:Nat→List D)(hl:zs.length=2)(hI:∀ i,i<2→(0≤(I i).1∧(I i).1≤1000000000000)∧(0≤(I i).2∧(I i).2≤1000000000000))(gr:Cl 25 [.agg [.ints .i64 zs,.int .i64 out,.ints .i64 data]] (.tup [.ints .i64 lo,.ints .i64 hi,.int .i64 0]))
  (li:Cl 55 [.int .i64 2,.fn 56 [] [.ref [V.sl2 2 [.int .i64 (X 0).1,.int .i64 (X 0).2,.int .i64 (X 1).1,.int .i64 (X 1).2]]]] (.tup [V.sl2 2 [.int .i64 (I 0).1,.int .i64 (I 0).2,.int .i64 (I 1).1,.int .i64 (I 1).2],.int .i64 0]))
  (om:∀ i,i<2→Cl 58 [.int .i64 ((I i).1+(I i).2),.int .i64 2000000000000] (.agg [.str (MD i).1,.str (MD i).2])) (oh:∀ i,i<2→Cl 58 [.int .i64 ((I i).2-(I i).1),.int .i64 2000000000000] (.agg [.str (HV i).1,.str (HV i).2]))
  (ev:Cl 15 [.agg [.ints .i64 zs,.int .i64 out,.ints .i64 data],V.sl2 2 [.str (MD 0).1,.str (MD 0).2,.str (MD 1).1,.str (MD 1).2]] (.tup [.slf 2 o Y,.int .i64 0])) (st:Cl 32 [.agg [.ints .i64 zs,.int .i64 out,.ints .i64 data]] (.tup [.slf 1 o2 S,.int .i64 0]))
  (l2:Cl 55 [.int .i64 out,.fn 59 [] [.ref [.slf 1 o2 S],.ref [V.sl2 2 [.str (HV 0).1,.str (HV 0).2,.str (HV 1).1,.str (HV 1).2]],.ref [.slf 2 o Y],.ref [.ints .i64 lo],.ref [.ints .i64 hi]]] (.tup [.slf 2 e B,.int .i64 0])) :
  Cl 29 [.agg [.ints .i64 zs,.int .i64 out,.ints .i64 data],V.sl2 2 [.int .i64 (X 0).1,.int .i64 (X 0).2,.int .i64 (X 1).1,.int .i64 (X 1).2]] (.tup [.slf 2 e B,.int .i64 0]):=by
 have hz:((zs.length:Nat):Int)=2:=by rw[hl];rfl
 refine V.en tbOk Tryz.func29 ?_
 refine V.r1 jib gr ?_
 refine Cnd.split (CondB.mk (fun h=>absurd h (by rw[hl];decide)) (fun _=>?_))
 refine V.r1 jib li ?_
 refine jcE (β:=Unit) 0 (fun _=>True) (fun _=>[(46,.any),(49,.any)]) (fun _=>[(43,.box [.str (MD 0).1,.str (MD 0).2,.str (MD 1).1,.str (MD 1).2]),(46,.gone),(11,.box [V.sl2 2 [.str (HV 0).1,.str (HV 0).2,.str (HV 1).1,.str (HV 1).2]])]) ?_ ?_
 rotate_left
 ·intro _ _
  refine V.r3 jib ev st l2 ?_
  exact Fin.of rfl
 refine jac (0) (fun k=>k≤2) (fun k=>2-k) (fun k=>[(49,.int .i64 k)]) (fun k=>[(43,.box (preD (2*k) [.str (MD 0).1,.str (MD 0).2,.str (MD 1).1,.str (MD 1).2])),(46,.box (preD (2*k) [.str (HV 0).1,.str (HV 0).2,.str (HV 1).1,.str (HV 1).2]))]) ?_ ?_ ?_
 ·exact V.wk
 ·exact jiv _
 intro k hk
 have hk4:k=0∨k=1∨k=2:=by omega
 rcases hk4 with e1|e1|e1
 all_goals subst e1
 ·simp only[k0]
  have c1:=om 0 (by omega)
  have c2:=oh 0 (by omega)
  have hh:=hI 0 (by omega)
  refine V.r1 jib c1 ?_
  refine⟨Pq24z,[],V.pok,?_⟩
  refine jab [] [(46,.box (preD (2*1) [.str (HV 0).1,.str (HV 0).2,.str (HV 1).1,.str (HV 1).2]))] ?_ ?_
  ·exact V.d1 jib c2
  refine V.r0 jib ?_
  exact⟨1,by omega,by omega,V.wk⟩
 ·simp only[k1]
  have c1:=om 1 (by omega)
  have c2:=oh 1 (by omega)
  have hh:=hI 1 (by omega)
  refine V.r1 jib c1 ?_
  refine⟨Pq24z,[],V.pok,?_⟩
  refine jab [] [(46,.box (preD (2*2) [.str (HV 0).1,.str (HV 0).2,.str (HV 1).1,.str (HV 1).2]))] ?_ ?_
  ·exact V.d1 jib c2
  refine V.r0 jib ?_
  exact⟨2,by omega,by omega,V.wk⟩
 ·simp only[k2]
  refine V.r0 jib ?_
  refine⟨(),trivial,?_⟩
  refine Wk.pub 46 ?_
  (conv=>whnf)
  simp only[jiA]
  exact V.wk
theorem jes (zs data lo hi:List Int)(out:Int)(X I:Nat→Int×Int)(MD HV:Nat→Tx)(o e o2:Nat)(Y B S:Nat→List D)(hl:zs.length=3)(hI:∀ i,i<3→(0≤(I i).1∧(I i).1≤1000000000000)∧(0≤(I i).2∧(I i).2≤1000000000000))(gr:Cl 25 [.agg [.ints .i64 zs,.int .i64 out,.ints .i64 data]] (.tup [.ints .i64 lo,.ints .i64 hi,.int .i64 0]))
  (li:Cl 55 [.int .i64 3,.fn 56 [] [.ref [V.sl2 3 [.int .i64 (X 0).1,.int .i64 (X 0).2,.int .i64 (X 1).1,.int .i64 (X 1).2,.int .i64 (X 2).1,.int .i64 (X 2).2]]]] (.tup [V.sl2 3 [.int .i64 (I 0).1,.int .i64 (I 0).2,.int .i64 (I 1).1,.int .i64 (I 1).2,.int .i64 (I 2).1,.int .i64 (I 2).2],.int .i64 0]))
  (om:∀ i,i<3→Cl 58 [.int .i64 ((I i).1+(I i).2),.int .i64 2000000000000] (.agg [.str (MD i).1,.str (MD i).2])) (oh:∀ i,i<3→Cl 58 [.int .i64 ((I i).2-(I i).1),.int .i64 2000000000000] (.agg [.str (HV i).1,.str (HV i).2]))
  (ev:Cl 15 [.agg [.ints .i64 zs,.int .i64 out,.ints .i64 data],V.sl2 3 [.str (MD 0).1,.str (MD 0).2,.str (MD 1).1,.str (MD 1).2,.str (MD 2).1,.str (MD 2).2]] (.tup [.slf 2 o Y,.int .i64 0])) (st:Cl 32 [.agg [.ints .i64 zs,.int .i64 out,.ints .i64 data]] (.tup [.slf 1 o2 S,.int .i64 0]))
  (l2:Cl 55 [.int .i64 out,.fn 59 [] [.ref [.slf 1 o2 S],.ref [V.sl2 3 [.str (HV 0).1,.str (HV 0).2,.str (HV 1).1,.str (HV 1).2,.str (HV 2).1,.str (HV 2).2]],.ref [.slf 2 o Y],.ref [.ints .i64 lo],.ref [.ints .i64 hi]]] (.tup [.slf 2 e B,.int .i64 0])) :
  Cl 29 [.agg [.ints .i64 zs,.int .i64 out,.ints .i64 data],V.sl2 3 [.int .i64 (X 0).1,.int .i64 (X 0).2,.int .i64 (X 1).1,.int .i64 (X 1).2,.int .i64 (X 2).1,.int .i64 (X 2).2]] (.tup [.slf 2 e B,.int .i64 0]):=by
 have hz:((zs.length:Nat):Int)=3:=by rw[hl];rfl
 refine V.en tbOk Tryz.func29 ?_
 refine V.r1 jib gr ?_
 refine Cnd.split (CondB.mk (fun h=>absurd h (by rw[hl];decide)) (fun _=>?_))
 refine V.r1 jib li ?_
 refine jcE (β:=Unit) 0 (fun _=>True) (fun _=>[(46,.any),(49,.any)]) (fun _=>[(43,.box [.str (MD 0).1,.str (MD 0).2,.str (MD 1).1,.str (MD 1).2,.str (MD 2).1,.str (MD 2).2]),(46,.gone),(11,.box [V.sl2 3 [.str (HV 0).1,.str (HV 0).2,.str (HV 1).1,.str (HV 1).2,.str (HV 2).1,.str (HV 2).2]])]) ?_ ?_
 rotate_left
 ·intro _ _
  refine V.r3 jib ev st l2 ?_
  exact Fin.of rfl
 refine jac (0) (fun k=>k≤3) (fun k=>3-k) (fun k=>[(49,.int .i64 k)]) (fun k=>[(43,.box (preD (2*k) [.str (MD 0).1,.str (MD 0).2,.str (MD 1).1,.str (MD 1).2,.str (MD 2).1,.str (MD 2).2])),(46,.box (preD (2*k) [.str (HV 0).1,.str (HV 0).2,.str (HV 1).1,.str (HV 1).2,.str (HV 2).1,.str (HV 2).2]))]) ?_ ?_ ?_
 ·exact V.wk
 ·exact jiv _
 intro k hk
 have hk4:k=0∨k=1∨k=2∨k=3:=by omega
 rcases hk4 with e1|e1|e1|e1
 all_goals subst e1
 ·simp only[k0]
  have c1:=om 0 (by omega)
  have c2:=oh 0 (by omega)
  have hh:=hI 0 (by omega)
  refine V.r1 jib c1 ?_
  refine⟨Pq24z,[],V.pok,?_⟩
  refine jab [] [(46,.box (preD (2*1) [.str (HV 0).1,.str (HV 0).2,.str (HV 1).1,.str (HV 1).2,.str (HV 2).1,.str (HV 2).2]))] ?_ ?_
  ·exact V.d1 jib c2
  refine V.r0 jib ?_
  exact⟨1,by omega,by omega,V.wk⟩
 ·simp only[k1]
  have c1:=om 1 (by omega)
  have c2:=oh 1 (by omega)
  have hh:=hI 1 (by omega)
  refine V.r1 jib c1 ?_
  refine⟨Pq24z,[],V.pok,?_⟩
  refine jab [] [(46,.box (preD (2*2) [.str (HV 0).1,.str (HV 0).2,.str (HV 1).1,.str (HV 1).2,.str (HV 2).1,.str (HV 2).2]))] ?_ ?_
  ·exact V.d1 jib c2
  refine V.r0 jib ?_
  exact⟨2,by omega,by omega,V.wk⟩
 ·simp only[k2]
  have c1:=om 2 (by omega)
  have c2:=oh 2 (by omega)
  have hh:=hI 2 (by omega)
  refine V.r1 jib c1 ?_
  refine⟨Pq24z,[],V.pok,?_⟩
  refine jab [] [(46,.box (preD (2*3) [.str (HV 0).1,.str (HV 0).2,.str (HV 1).1,.str (HV 1).2,.str (HV 2).1,.str (HV 2).2]))] ?_ ?_
  ·exact V.d1 jib c2
  refine V.r0 jib ?_
  exact⟨3,by omega,by omega,V.wk⟩
 ·simp only[k3]
  refine V.r0 jib ?_
  refine⟨(),trivial,?_⟩
  refine Wk.pub 46 ?_
  (conv=>whnf)
  simp only[jiA]
  exact V.wk
def confB (y d l h:Rat):Int×Int:=(max (flU (y-d)) (flU l),min (clU (y+d)) (clU h))
theorem jc1 {x:Rat}(h : -100000≤x∧x≤100000) : -100000000000000000≤flU x∧flU x≤clU x∧clU x≤100000000000000000:=
 ⟨je1.2 (by rw[show ((-100000000000000000:Int):Rat) = -100000*1000000000000 from by decide +kernel];grind),fl_cl Rat.le_refl,jfi.2 (by rw[show ((100000000000000000:Int):Rat)=100000*1000000000000 from by decide +kernel];grind)⟩
theorem hull_q {p q p2 q2:Int}(h1 : -100000000000000000≤p∧p≤q∧q≤100000000000000000)(h2 : -100000000000000000≤p2∧p2≤q2∧q2≤100000000000000000):Cl 103 [.agg [.int .i64 p,.int .i64 q],.agg [.int .i64 p2,.int .i64 q2]] (.tup [.agg [.int .i64 (min p p2),.int .i64 (max q q2)],.int .i64 0]):=by
 have c:=hull_b p q p2 q2
 have e:(if vb p q=true∧vb p2 q2=true then (if p=p2∧q=q2 then (p,q,(0:Int)) else if max q q2<min p p2 then (0,0,4) else (min p p2,max q q2,0)) else (0,0,30))=(min p p2,max q q2,0):=by
  rw[if_pos ⟨jaR.2 (by omega),jaR.2 (by omega)⟩]
  split
  ·rename_i g
   rw[g.1,g.2,Int.min_self,Int.max_self]
  ·rw[if_neg (by omega)]
 rw[e] at c
 exact c
theorem conf_q {y d l h:Rat}(fy:Fq 376 y)(fd:Fq 70 d)(fl:Fq 10 l)(fh:Fq 10 h)(d0:0≤d∧d≤50000)(l0:0≤l∧l≤y)(h0:y≤h∧h≤1) :
  Cl 61 [frT y,frT d,frT l,frT h] (.tup [.agg [.int .i64 (confB y d l h).1,.int .i64 (confB y d l h).2],.int .i64 0]):=by
 have b0 : -100000≤y-d∧y-d≤100000:=by constructor<;>grind
 have b1 : -100000≤y+d∧y+d≤100000:=by constructor<;>grind
 have b2 : -100000≤l∧l≤100000:=by constructor<;>grind
 have b3 : -100000≤h∧h≤100000:=by constructor<;>grind
 have u0:=jc1 b0
 have u1:=jc1 b1
 have u2:=jc1 b2
 have u3:=jc1 b3
 have sb:=zsub fy fd (by decide) (by decide) (by decide)
 have ad:=zadd fy fd (by decide) (by decide) (by decide)
 have a0:=jeu (fy.sub fd) (by decide) b0
 have a1:=jeu (fy.add fd) (by decide) b1
 have a2:=jeu fl (by decide) b2
 have a3:=jeu fh (by decide) b3
 have m1:flU (y-d)≤flU (y+d):=jen (by grind)
 have m2:clU (y-d)≤clU (y+d):=jep (by grind)
 have m3:flU (y-d)≤clU h:=fl_cl (by grind)
 have m4:flU l≤clU (y+d):=fl_cl (by grind)
 have m5:flU l≤clU h:=fl_cl (by grind)
 have m6:flU (y-d)≤clU (y+d):=fl_cl (by grind)
 have hu:=hull_q u0 u1
 rw[show min (flU (y-d)) (flU (y+d))=flU (y-d) from by omega,show max (clU (y-d)) (clU (y+d))=clU (y+d) from by omega] at hu
 have ob:=of_b (max (flU (y-d)) (flU l)) (min (clU (y+d)) (clU h))
 rw[if_pos (jaR.2 (by omega))] at ob
 let T:Nat→Int×Int:=fun i=>match i with|0=>(flU (y-d),clU (y-d))|1=>(flU (y+d),clU (y+d))|2=>(flU l,clU l)|_=>(flU h,clU h)
 have li:=blist4b (F:=101) T (conf1_0 _ _ _ _ _ _ _ _ (T 0) a0) (conf1_1 _ _ _ _ _ _ _ _ (T 1) a1) (conf1_2 _ _ _ _ _ _ _ _ (T 2) a2) (conf1_3 _ _ _ _ _ _ _ _ (T 3) a3)
 exact confined_t _ _ _ _ _ _ _ _ _ _ _ _ T (flU (y-d),clU (y+d)) (confB y d l h) sb ad li hu ob
theorem spr_q1 {st:List Int}{H:Nat→Rat}(hs:rowOk 1 st)(hf:∀ i,i<1→Fq 14 (H i)):Cl 60 [.ints .i64 st,slQ (fun i=>txq (H i)) 1] (.tup [frT (smF (fun i=>((st.getD i 0:Int):Rat)*H i) 0/65535),.int .i64 0])∧Fq 70 (smF (fun i=>((st.getD i 0:Int):Rat)*H i) 0/65535):=by
 have w0:Fq 6 ((st.getD 0 0:Int):Rat):=jaD (by have:=hs.2 0;omega) (by decide)
 have i0:=jam (n:=st.getD 0 0) (by have:=hs.2 0;omega)
 have u0:=zmul w0 (hf 0 (by decide)) (by decide) (by decide) (by decide)
 have m0:=spr1_10 st (fun i=>txq (H i)) _ _ _ _ hs.1 i0 u0
 have li:=list1_i (fun i=>txq (((st.getD i 0:Int):Rat)*H i)) m0
 have s0:Fq 20 (smF (fun i=>((st.getD i 0:Int):Rat)*H i) 0):=w0.mul (hf 0 (by decide))
 have su:=sum1 (fun i=>txq (((st.getD i 0:Int):Rat)*H i))
 have fu:=jam (n:=65535) (by omega)
 have f5:=jaD (n:=5) (z:=65535) jaF (by decide)
 have dv:=zdiv s0 f5 ja6 (by decide) (by decide) (by decide)
 have fd:=(s0.div f5 ja6).mono (show _≤70 by decide)
 rw[show ((65535:Int):Rat)=65535 from rfl] at fu dv fd
 exact⟨spr_1 st (fun i=>txq (H i)) (fun i=>txq (((st.getD i 0:Int):Rat)*H i)) _ _ _ _ _ _ hs.1 li su fu dv,fd⟩
theorem spr_q2 {st:List Int}{H:Nat→Rat}(hs:rowOk 2 st)(hf:∀ i,i<2→Fq 14 (H i)):Cl 60 [.ints .i64 st,slQ (fun i=>txq (H i)) 2] (.tup [frT (smF (fun i=>((st.getD i 0:Int):Rat)*H i) 1/65535),.int .i64 0])∧Fq 70 (smF (fun i=>((st.getD i 0:Int):Rat)*H i) 1/65535):=by
 have w0:Fq 6 ((st.getD 0 0:Int):Rat):=jaD (by have:=hs.2 0;omega) (by decide)
 have i0:=jam (n:=st.getD 0 0) (by have:=hs.2 0;omega)
 have u0:=zmul w0 (hf 0 (by decide)) (by decide) (by decide) (by decide)
 have m0:=spr1_20 st (fun i=>txq (H i)) _ _ _ _ hs.1 i0 u0
 have w1:Fq 6 ((st.getD 1 0:Int):Rat):=jaD (by have:=hs.2 1;omega) (by decide)
 have i1:=jam (n:=st.getD 1 0) (by have:=hs.2 1;omega)
 have u1:=zmul w1 (hf 1 (by decide)) (by decide) (by decide) (by decide)
 have m1:=spr1_21 st (fun i=>txq (H i)) _ _ _ _ hs.1 i1 u1
 have li:=list2_i (fun i=>txq (((st.getD i 0:Int):Rat)*H i)) m0 m1
 have s0:Fq 20 (smF (fun i=>((st.getD i 0:Int):Rat)*H i) 0):=w0.mul (hf 0 (by decide))
 have s1:Fq 41 (smF (fun i=>((st.getD i 0:Int):Rat)*H i) 1):=s0.add (w1.mul (hf 1 (by decide)))
 have su:=sum2 (fun i=>txq (((st.getD i 0:Int):Rat)*H i)) (fun i=>txq (smF (fun i=>((st.getD i 0:Int):Rat)*H i) i)) rfl (zadd s0 (w1.mul (hf 1 (by decide))) (by decide) (by decide) (by decide))
 have fu:=jam (n:=65535) (by omega)
 have f5:=jaD (n:=5) (z:=65535) jaF (by decide)
 have dv:=zdiv s1 f5 ja6 (by decide) (by decide) (by decide)
 have fd:=(s1.div f5 ja6).mono (show _≤70 by decide)
 rw[show ((65535:Int):Rat)=65535 from rfl] at fu dv fd
 exact⟨spr_2 st (fun i=>txq (H i)) (fun i=>txq (((st.getD i 0:Int):Rat)*H i)) _ _ _ _ _ _ hs.1 li su fu dv,fd⟩
theorem spr_q3 {st:List Int}{H:Nat→Rat}(hs:rowOk 3 st)(hf:∀ i,i<3→Fq 14 (H i)):Cl 60 [.ints .i64 st,slQ (fun i=>txq (H i)) 3] (.tup [frT (smF (fun i=>((st.getD i 0:Int):Rat)*H i) 2/65535),.int .i64 0])∧Fq 70 (smF (fun i=>((st.getD i 0:Int):Rat)*H i) 2/65535):=by
 have w0:Fq 6 ((st.getD 0 0:Int):Rat):=jaD (by have:=hs.2 0;omega) (by decide)
 have i0:=jam (n:=st.getD 0 0) (by have:=hs.2 0;omega)
 have u0:=zmul w0 (hf 0 (by decide)) (by decide) (by decide) (by decide)
 have m0:=spr1_30 st (fun i=>txq (H i)) _ _ _ _ hs.1 i0 u0
 have w1:Fq 6 ((st.getD 1 0:Int):Rat):=jaD (by have:=hs.2 1;omega) (by decide)
 have i1:=jam (n:=st.getD 1 0) (by have:=hs.2 1;omega)
 have u1:=zmul w1 (hf 1 (by decide)) (by decide) (by decide) (by decide)
 have m1:=spr1_31 st (fun i=>txq (H i)) _ _ _ _ hs.1 i1 u1
 have w2:Fq 6 ((st.getD 2 0:Int):Rat):=jaD (by have:=hs.2 2;omega) (by decide)
 have i2:=jam (n:=st.getD 2 0) (by have:=hs.2 2;omega)
 have u2:=zmul w2 (hf 2 (by decide)) (by decide) (by decide) (by decide)
 have m2:=spr1_32 st (fun i=>txq (H i)) _ _ _ _ hs.1 i2 u2
 have li:=list3_i (fun i=>txq (((st.getD i 0:Int):Rat)*H i)) m0 m1 m2
 have s0:Fq 20 (smF (fun i=>((st.getD i 0:Int):Rat)*H i) 0):=w0.mul (hf 0 (by decide))
 have s1:Fq 41 (smF (fun i=>((st.getD i 0:Int):Rat)*H i) 1):=s0.add (w1.mul (hf 1 (by decide)))
 have s2:Fq 62 (smF (fun i=>((st.getD i 0:Int):Rat)*H i) 2):=s1.add (w2.mul (hf 2 (by decide)))
 have su:=sum3 (fun i=>txq (((st.getD i 0:Int):Rat)*H i)) (fun i=>txq (smF (fun i=>((st.getD i 0:Int):Rat)*H i) i)) rfl (zadd s0 (w1.mul (hf 1 (by decide))) (by decide) (by decide) (by decide)) (zadd s1 (w2.mul (hf 2 (by decide))) (by decide) (by decide) (by decide))
 have fu:=jam (n:=65535) (by omega)
 have f5:=jaD (n:=5) (z:=65535) jaF (by decide)
 have dv:=zdiv s2 f5 ja6 (by decide) (by decide) (by decide)
 have fd:=(s2.div f5 ja6).mono (show _≤70 by decide)
 rw[show ((65535:Int):Rat)=65535 from rfl] at fu dv fd
 exact⟨spr_3 st (fun i=>txq (H i)) (fun i=>txq (((st.getD i 0:Int):Rat)*H i)) _ _ _ _ _ _ hs.1 li su fu dv,fd⟩
end Go.Proofs.YtgjgpdceghjajaaGreatDoor
end
section
namespace Go.Gr
def PR:List Nat→Nat
 | []=>1
 | n::r=>n*PR r
def ixl:List Nat→Nat→List Int
 | [],_=>[]
 | n::r,m=>((m/PR r%n:Nat):Int)::ixl r m
theorem jfp {ns:List Nat}(h:∀ n∈ns,0<n):0<PR ns:=by
 induction ns with
 | nil=>decide
 | cons n r ih=>exact Nat.mul_pos (h n (by simp)) (ih fun x hx=>h x (by simp[hx]))
theorem jat (ns:List Nat)(m:Nat):(ixl ns m).length=ns.length:=by
 induction ns with
 | nil=>rfl
 | cons n r ih=>simp[ixl,ih]
theorem jgq (ns:List Nat)(m i n:Nat)(h:ns[i]? = some n):(ixl ns m)[i]? = some ((m/PR (ns.drop (i+1))%n:Nat):Int):=by
 induction ns generalizing i with
 | nil=>simp at h
 | cons a r ih=>
  cases i with
  | zero=>simp at h;subst h;simp[ixl]
  | succ i=>simpa [ixl] using ih i (by simpa using h)
theorem jhL (ns:List Nat)(hp:∀ n∈ns,0<n)(m:Nat):ixl ns (m%PR ns)=ixl ns m:=by
 induction ns generalizing m with
 | nil=>rfl
 | cons n r ih=>
  have hr:∀ x∈r,0<x:=fun x hx=>hp x (by simp[hx])
  have h1:=jfp hr
  simp only[ixl,PR]
  have e1:m%(n*PR r)/PR r%n=m/PR r%n:=by
   rw[jiF,Nat.mod_mul_right_div_self,Nat.mod_mod]
  have e2:ixl r (m%(n*PR r))=ixl r m:=by
   rw[← ih hr (m%(n*PR r)),Nat.mod_mul_left_mod,ih hr]
  rw[e1,e2]
theorem jej (ns:List Nat)(hp:∀ n∈ns,0<n)(m:Nat)(h:m%PR ns=PR ns-1):ixl ns m=ns.map fun n:Nat=>(n:Int)-1:=by
 induction ns generalizing m with
 | nil=>rfl
 | cons n r ih=>
  have hr:∀ x∈r,0<x:=fun x hx=>hp x (by simp[hx])
  have hn:0<n:=hp n (by simp)
  have h1:=jfp hr
  simp only[PR] at h
  rw[jiF,Nat.mod_mul] at h
  have h2:=Nat.mod_lt m h1
  have h3:=Nat.mod_lt (m/PR r) hn
  have h4:PR r*(m/PR r%n)+m%PR r=PR r*(n-1)+(PR r-1):=by
   have:PR r*n=PR r*(n-1)+PR r:=by
    obtain⟨k,rfl⟩:∃ k,n=k+1:=⟨n-1,by omega⟩
    simp[Nat.mul_add]
   omega
  have h5:m/PR r%n=n-1:=by
   have e:=congrArg (· / PR r) h4
   simp only[Nat.mul_add_div h1] at e
   rw[Nat.div_eq_of_lt h2,Nat.div_eq_of_lt (by omega:PR r-1<PR r)] at e
   omega
  have h6:m%PR r=PR r-1:=by rw[h5] at h4;omega
  simp only[ixl,List.map_cons,h5,ih hr m h6]
  congr 1
  omega
theorem jei (ns:List Nat)(hp:∀ n∈ns,0<n)(m:Nat)(h:ixl ns m=ns.map fun n:Nat=>(n:Int)-1):m%PR ns=PR ns-1:=by
 induction ns generalizing m with
 | nil=>simp[PR,Nat.mod_one]
 | cons n r ih=>
  have hr:∀ x∈r,0<x:=fun x hx=>hp x (by simp[hx])
  have hn:0<n:=hp n (by simp)
  have h1:=jfp hr
  simp only[ixl,List.map_cons,List.cons.injEq] at h
  have h2:=ih hr m h.2
  have h3:m/PR r%n=n-1:=by omega
  simp only[PR]
  rw[jiF,Nat.mod_mul,h2,h3]
  obtain⟨k,rfl⟩:∃ k,n=k+1:=⟨n-1,by omega⟩
  simp[Nat.mul_add];omega
theorem jd3 (ns:List Nat)(hp:∀ n∈ns,0<n)(m:Nat)(h:m%PR ns=0):ixl ns m=List.replicate ns.length 0:=by
 rw[← jhL ns hp m,h]
 clear h
 induction ns with
 | nil=>rfl
 | cons n r ih=>simp only[ixl,Nat.zero_div,Nat.zero_mod,jji,List.replicate_succ,ih fun x hx=>hp x (by simp[hx])];rfl
theorem succ_div {m P:Nat}(hP:0<P)(h:m%P≠P-1):(m+1)/P=m/P:=by
 have h2:=Nat.mod_lt m hP
 have h3:=Nat.div_add_mod m P
 have:m+1=P*(m/P)+(m%P+1):=by omega
 rw[this,Nat.mul_add_div hP,Nat.div_eq_of_lt (by omega:m%P+1<P)]
 omega
theorem jf1 {m P:Nat}(hP:0<P)(h:m%P=P-1):(m+1)/P=m/P+1∧(m+1)%P=0:=by
 have h3:=Nat.div_add_mod m P
 have:m+1=P*(m/P+1):=by rw[Nat.mul_add];omega
 rw[this,Nat.mul_div_cancel_left _ hP,Nat.mul_mod_right]
 exact⟨rfl,rfl⟩
theorem mod_succ {a n:Nat}(hn:0<n)(h:a%n≠n-1):(a+1)%n=a%n+1:=by
 have h2:=Nat.mod_lt a hn
 have h3:=Nat.div_add_mod a n
 have:a+1=n*(a/n)+(a%n+1):=by omega
 rw[this,Nat.mul_add_mod,jiG (by omega:a%n+1<n)]
theorem jgp (ns:List Nat)(hp:∀ n∈ns,0<n)(m j n:Nat)(hj:ns[j]? = some n)(x:Int)(hx:(ixl ns m)[j]? = some x)
  (h1:(ixl ns m).drop (j+1)=(ns.drop (j+1)).map fun n:Nat=>(n:Int)-1) (h2:x≠(n:Int)-1):ixl ns (m+1)=(ixl ns m).take j++(x+1)::List.replicate (ns.length-(j+1)) 0:=by
 induction ns generalizing j with
 | nil=>simp at hj
 | cons a r ih=>
  have hr:∀ y∈r,0<y:=fun y hy=>hp y (by simp[hy])
  have ha:0<a:=hp a (by simp)
  have hP:=jfp hr
  cases j with
  | zero=>
   simp at hj hx
   subst hj
   simp[ixl] at h1 hx
   have h3:=jei r hr m h1
   have h4:=jf1 hP h3
   have h5:=jd3 r hr _ h4.2
   simp only[ixl,h4.1,h5]
   have h6:m/PR r%a≠a-1:=fun e=>by
    apply h2
    rw[← hx,← Int.natCast_ediv,← Int.natCast_emod,e]
    omega
   rw[mod_succ ha h6]
   subst hx
   simp
  | succ j=>
   have hj':r[j]? = some n:=by simpa using hj
   have hx':(ixl r m)[j]? = some x:=by simpa [ixl] using hx
   have h1':(ixl r m).drop (j+1)=(r.drop (j+1)).map fun n:Nat=>(n:Int)-1:=by simpa [ixl] using h1
   have h3:m%PR r≠PR r-1:=fun e=>by
    have:=jej r hr m e
    rw[this] at hx'
    simp[hj'] at hx'
    omega
   have h4:=ih hr j hj' hx' h1'
   simp only[ixl,succ_div hP h3,h4,List.take_succ_cons,List.cons_append,jji]
   congr 2
   simp
theorem pz_ixl_aux (ns:List Nat)(hp:∀ n∈ns,0<n)(m:Nat)(p:Int):((ns.map fun n:Nat=>(n:Int)).zip (ixl ns m)).foldl (fun p a=>p*a.1+a.2) p=p*(PR ns:Int)+((m%PR ns:Nat):Int):=by
 induction ns generalizing p with
 | nil=>simp[ixl,PR,Nat.mod_one]
 | cons n r ih=>
  have hr:∀ x∈r,0<x:=fun x hx=>hp x (by simp[hx])
  simp only[ixl,List.map_cons,List.zip_cons_cons,List.foldl_cons,PR]
  rw[ih hr,jiF n,Nat.mod_mul]
  simp only[Int.natCast_add,jiM,jiX,jiP]
  rw[jiO (PR r:Int) (n:Int),jiO (PR r:Int) _]
  omega
def swp (l:List Int)(a b:Nat):List Int:=(l.set a (l.getD b 0)).set b (l.getD a 0)
def swn (l:List Nat)(a b:Nat):List Nat:=(l.set a (l.getD b 0)).set b (l.getD a 0)
end Go.Gr
end
section
namespace Go.Proofs.YtgjgpdceghjajaaGreatDoor
open Go Go.V Go.Gr
def nz (ns:List Nat):List Int:=ns.map fun n:Nat=>(n:Int)
theorem jeH (ns:List Nat):prod (nz ns)=(PR ns:Nat):=by
 have h:∀ (l:List Nat) (q:Int),(nz l).foldl (· * ·) q=q*(PR l:Nat):=by
  intro l
  induction l with
  | nil=>intro q;simp[nz,PR]
  | cons x l ih=>
   intro q
   have:=ih (q*x)
   simp only[nz,List.map_cons,List.foldl_cons,PR] at this ⊢
   rw[this,jiM,jiP]
 have:=h ns 1
 simpa [prod] using this
def rl (lt:Int→Int→Bool)(data:List Int)(w:Nat):Nat→List Int
 | 0=>slot data 0 w
 | i+1=>(rl lt data w i).set (i%w) (if lt (data.getD i 0) ((rl lt data w i).getD (i%w) 0) then data.getD i 0 else (rl lt data w i).getD (i%w) 0)
theorem jeB {lt:Int→Int→Bool}{data:List Int}{w:Nat}(h:w≤data.length)(i:Nat):(rl lt data w i).length=w:=by
 induction i with
 | zero=>simp[rl,slot];omega
 | succ i ih=>simp[rl,ih]
theorem index_step {ns:List Nat}{m p n:Nat}(hn:ns[p]? = some n)(hp:p<ns.length) :
  (List.replicate (p+1) (0:Int)++(ixl ns m).drop (p+1)).set p ((m/PR (ns.drop (p+1))%n:Nat):Int)=List.replicate p 0++(ixl ns m).drop p∧m/PR (ns.drop (p+1))/n=m/PR (ns.drop p):=by
 have hx:=jgq ns m p n hn
 constructor
 ·rw[List.set_append_left _ _ (by simp),List.replicate_succ',List.set_append_right _ _ (by simp)]
  rw[jjm (i:=p) (by rw[jat];exact hp)]
  have:=(jje.1 hx).2
  rw[this]
  simp
 ·have hd:ns.drop p=n::ns.drop (p+1):=by
   rw[jjm hp]
   rw[(jje.1 hn).2]
  rw[hd,PR,Nat.div_div_eq_div_mul,jiF]
theorem rindex_c (ns:List Nat)(m:Nat)(hp:∀ n∈ns,0<n∧n≤1000000)(hl:ns.length≤10000)(hm:m≤1000000000):Cl 24 [.ints .i64 (nz ns),.int .i64 m] (.ints .i64 (ixl ns m)):=by
 have hlen:(nz ns).length=ns.length:=by simp[nz]
 refine V.en tbOk Tryz.func24 ?_
 refine V.r0 (V.a2 hlen @jiC) ?_
 have e0:List.replicate ns.length (0:Int)=List.replicate ns.length 0++(ixl ns m).drop ns.length:=by
  rw[jjk (by rw[jat];omega),List.append_nil]
 have e1:(m:Int)=((m/PR (ns.drop ns.length):Nat):Int):=by simp[PR]
 refine jac (ns.length) (fun k=>k≤ns.length) (fun k=>k) (fun k=>[(1,.int .i64 ((m/PR (ns.drop k):Nat):Int)),(6,.int .i64 ((k:Int)-1))]) (fun k=>[(9,.arr .i64 (List.replicate k 0++(ixl ns m).drop k))]) ?_ ?_ ?_
 ·rw[← e0,← e1]
  exact V.wk
 ·exact jiD _
 intro p hpl
 (conv=>whnf)
 refine V.st ?_
 refine V.br (fun h=>?_) (fun h=>?_)
 ·have hp0:0<p:=by simp at h;omega
  obtain⟨p,rfl⟩:∃ q,p=q+1:=⟨p-1,by omega⟩
  have hp1:p<ns.length:=by omega
  obtain⟨n,hn⟩:∃ n,ns[p]? = some n:=⟨ns[p],ji8 hp1⟩
  have hn0:=hp n (ji9 hn)
  have en:(nz ns).getD p 0=n:=by simp[nz,ji5,hn]
  have e2:(((p+1:Nat):Int)-1)=(p:Int):=by omega
  have hst:=index_step (m:=m) hn hp1
  have e3:((m/PR (ns.drop (p+1)):Nat):Int)%(n:Int)=((m/PR (ns.drop (p+1))%n:Nat):Int):=by simp
  have e4:((m/PR (ns.drop (p+1)):Nat):Int)/(n:Int)=((m/PR (ns.drop p):Nat):Int):=by rw[← hst.2];simp
  have hl2:(List.replicate (p+1) (0:Int)++(ixl ns m).drop (p+1)).length=ns.length:=by simp[jat];omega
  have hl3:m/PR (ns.drop (p+1))≤m:=jiT _ _
  generalize hq:m/PR (ns.drop (p+1))=q at *
  refine V.r0 (V.a5 hlen e2 @en @jiC @jiA) ?_
  rw[e3,hst.1]
  refine V.st ?_
  rw[e4]
  exact⟨p,by omega,by omega,V.wk⟩
 ·have hp0:p=0:=by simp at h;omega
  subst hp0
  (conv=>whnf)
  refine V.st ?_
  have h0:(List.replicate 0 (0:Int)++(ixl ns m).drop 0)=ixl ns m:=by simp
  have hli:=jat ns m
  rw[h0]
  refine Fin.of ?_
  rw[jjj (by rw[hli];simp)]
def lastL (ns:List Nat):List Int:=ns.map fun n:Nat=>(n:Int)-1
def flat (ns:List Nat)(f:Nat→List Int)(m:Nat):List Int:=(List.range m).flatMap f
theorem jdx (ns:List Nat)(f:Nat→List Int)(m:Nat):flat ns f (m+1)=flat ns f m++f m:=by
 simp[flat,List.range_succ]
theorem flat_len {ns:List Nat}{f:Nat→List Int}{m:Nat}(h:∀ j,j<m→(f j).length≤4):(flat ns f m).length≤4*m:=by
 induction m with
 | zero=>simp[flat]
 | succ m ih=>
  rw[jdx,jja]
  have h1:=ih fun j hj=>h j (by omega)
  have h2:=h m (by omega)
  omega
theorem PR_le {ns:List Nat}(h1:ns.length≤4)(h2:∀ n∈ns,2≤n∧n≤9):PR ns≤6561:=by
 have hb:∀ l:List Nat,(∀ n∈l,2≤n∧n≤9)→PR l≤9^l.length:=by
  intro l
  induction l with
  | nil=>intro _;decide
  | cons x l ih=>
   intro hl
   have h3:=ih fun n hn=>hl n (by simp[hn])
   have h4:=hl x (by simp)
   rw[PR,jji,Nat.pow_succ,jiF]
   exact Nat.mul_le_mul h3 h4.2
 exact jiK (hb ns h2) (jiS (by omega) h1)
theorem ixl_pad0 {ns:List Nat}(h1:1≤ns.length∧ns.length≤4)(h2:∀ n∈ns,2≤n∧n≤9):pad4 (ixl ns 0)=[0,0,0,0]:=by
 rw[jd3 ns (fun n hn=>by have:=h2 n hn;omega) 0 (Nat.zero_mod _)]
 unfold pad4
 rw[List.length_replicate,← List.replicate_append_replicate.symm]
 have:ns.length+(4-ns.length)=4:=by omega
 simp[this]
theorem jgh {a b:List Int}(h:a.length=b.length)(e:pad4 a=pad4 b):a=b:=(List.append_inj e h).1
theorem jcl {l:List Int}{p k:Nat}{x:Int}(h:l[p]? = some x)(hk:p<k)(hl:l.length≤4):(pad4 (l.take k)).getD p 0=x:=by
 have hp:=(jje.1 h).1
 unfold pad4
 rw[ji5,jjd (by simp;omega),jjq hk,h]
 rfl
theorem jdq {l:List Int}{p:Nat}{x y:Int}(h:l[p]? = some x)(h1:p<l.length)(hl:l.length≤4):(pad4 (l.take (p+1))).set p y=pad4 (l.take p++y::List.replicate (l.length-(p+1)) 0):=by
 unfold pad4
 have e1:(l.take (p+1)).length=p+1:=by simp;omega
 have e2:(l.take p++y::List.replicate (l.length-(p+1)) 0).length=l.length:=by simp;omega
 have e4:(l.take p).length=p:=by simp;omega
 rw[e1,e2,List.set_append_left _ _ (by omega),jjr,h]
 have e3:(l.take p++(some x).toList).set p y=l.take p++[y]:=by
  rw[List.set_append_right _ _ (by omega),e4,Nat.sub_self]
  rfl
 rw[e3,jjc,jjc]
 congr 1
 rw[List.singleton_append,List.cons_append,List.replicate_append_replicate]
 congr 2
 omega
theorem jeI {l:List Int}{p:Nat}{x:Int}(h:l[p]? = some x)(hl:l.length≤4):(pad4 (l.take (p+1))).set p 0=pad4 (l.take p):=by
 have h1:=(jje.1 h).1
 rw[jdq h h1 hl]
 unfold pad4
 have e2:(l.take p++(0:Int)::List.replicate (l.length-(p+1)) 0).length=l.length:=by simp;omega
 have e3:(l.take p).length=p:=by simp;omega
 rw[e2,e3,jjc]
 congr 1
 rw[← List.replicate_succ,List.replicate_append_replicate]
 congr 1
 omega
theorem jeS {ns:List Nat}{m p n:Nat}{x:Int}(hpos:∀ n∈ns,0<n)(hn:ns[p]? = some n)(hx:(ixl ns m)[p]? = some x):0≤x∧x≤(n:Int)-1:=by
 rw[jgq ns m p n hn] at hx
 cases hx
 have:=Nat.mod_lt (m/PR (ns.drop (p+1))) (hpos n (ji9 hn))
 omega
def mkV0 (vals:List Int)(w m k:Nat):Int:=if 0<vals.length then vals.getD ((m*w+k)%vals.length) 0 else 0
def mkV (vals:List Int)(sm:Bool)(ns:List Nat)(w m k:Nat):Int:=
 if sm then 60000*(ixl ns m).getD (k%ns.length) 0/((nz ns).getD (k%ns.length) 0-1)+mkV0 vals w m k%5000 else mkV0 vals w m k
def mkF (vals:List Int)(sm:Bool)(ns:List Nat)(w m:Nat):List Int:=(List.range w).map (mkV vals sm ns w m)
theorem getD_mem {xs:List Int}{i:Nat}(h:i<xs.length):xs.getD i 0∈xs:=by
 rw[ji5,ji8 h];simp
theorem mkV0_bd {vals:List Int}{w m k:Nat}(hv:∀ v∈vals,0≤v∧v≤65535):0≤mkV0 vals w m k∧mkV0 vals w m k≤65535:=by
 unfold mkV0
 split
 ·rename_i h
  exact hv _ (getD_mem (Nat.mod_lt _ h))
 ·omega
theorem mk_sm {ns:List Nat}{m k:Nat}(h1:1≤ns.length)(h2:∀ n∈ns,2≤n∧n≤9):0≤(ixl ns m).getD (k%ns.length) 0∧(ixl ns m).getD (k%ns.length) 0≤8∧1≤(nz ns).getD (k%ns.length) 0-1∧(nz ns).getD (k%ns.length) 0-1≤8 ∧
  0≤60000*(ixl ns m).getD (k%ns.length) 0/((nz ns).getD (k%ns.length) 0-1)∧60000*(ixl ns m).getD (k%ns.length) 0/((nz ns).getD (k%ns.length) 0-1)≤60000:=by
 have hlt:k%ns.length<ns.length:=Nat.mod_lt _ (by omega)
 generalize k%ns.length=i at *
 obtain⟨n,hn⟩:∃ n,ns[i]? = some n:=⟨_,ji8 hlt⟩
 obtain⟨x,hx⟩:∃ x,(ixl ns m)[i]? = some x:=⟨_,ji8 (by rw[jat];exact hlt)⟩
 have hnb:=h2 n (ji9 hn)
 have hxb:=jeS (fun n hn=>by have:=h2 n hn;omega) hn hx
 have e1:(nz ns).getD i 0=n:=by simp[nz,ji5,hn]
 have e2:(ixl ns m).getD i 0=x:=by rw[ji5,hx];rfl
 rw[e1,e2]
 refine⟨hxb.1,by omega,by omega,by omega,jiw (by omega) (by omega),?_⟩
 exact Int.ediv_le_of_le_mul (by omega) (by omega)
theorem mkV_bd {vals:List Int}{sm:Bool}{ns:List Nat}{w m k:Nat}(hv:∀ v∈vals,0≤v∧v≤65535)(h1:1≤ns.length)(h2:∀ n∈ns,2≤n∧n≤9):0≤mkV vals sm ns w m k∧mkV vals sm ns w m k≤65535:=by
 have h3:=mkV0_bd (w:=w) (m:=m) (k:=k) hv
 have h4:=mk_sm (m:=m) (k:=k) h1 h2
 unfold mkV
 split<;>omega
theorem made_c (ds:List Int)(o:Int)(vals:List Int)(sm:Bool)(ns:List Nat)(w:Nat)(hv:∀ v∈vals,0≤v∧v≤65535)(hvl:vals.length≤281474976710656)(h1:1≤ns.length∧ns.length≤4)(h2:∀ n∈ns,2≤n∧n≤9)(hw:1≤w∧w≤4) :
  Cl 38 [.agg [.ints .u8 ds,.int .u8 o,.ints .u16 vals,.bool sm],.ints .i64 (nz ns),.int .i64 w] (gridD (nz ns) w (flat ns (mkF vals sm ns w) (PR ns))):=by
 have hlen:(nz ns).length=ns.length:=by simp[nz]
 have hPR:=PR_le h1.2 h2
 have hprod:prod (nz ns)=(PR ns:Nat):=jeH ns
 have hpz:∀ k,InR .i64 (prod ((nz ns).take k)):=fun k=>(jgd (size:=nz ns) (by
  rw[ji4]
  intro x hx
  obtain⟨n,hn,rfl⟩:=List.mem_map.1 hx
  have:=h2 n hn
  simp;omega) k).2.2 (by omega)
 have hfl:∀ j,(mkF vals sm ns w j).length≤4:=fun j=>by simp[mkF];omega
 refine V.en tbOk Tryz.func38 ?_
 refine V.r0 @jiA ?_
 refine Lp.ghostBox 72 7 2 .i64 (by decide) (by decide) ?_
 (conv=>whnf)
 refine jac (0) (fun k=>k≤PR ns) (fun k=>PR ns-k) (fun k=>[(8,.int .i64 k)]) (fun k=>[(7,.box [.ints .i64 (nz ns),.int .i64 w,.osl 72 0 (flat ns (mkF vals sm ns w) k).length]),(72,.arr .i64 (flat ns (mkF vals sm ns w) k))]) ?_ ?_ ?_
 ·exact V.wk
 ·exact jiv _
 intro m hm
 have hfm:=flat_len (ns:=ns) (m:=m) (fun j _=>hfl j)
 (conv=>whnf)
 (try simp only[hprod])
 repeat ((first|refine V.s1 ?_|((try ((with_reducible refine .ext ?_);(conv=>whnf);(try simp only[hprod])));(with_reducible refine jaa (r:=?_) ?_ ?_);rotate_left;(focus (first|exact(points_c _ (fun k _=>hpz k) (by omega))));(conv=>whnf)));(try simp only[hprod]))
 refine V.br (fun hq=>?_) (fun hq=>?_)
 ·rw[decide_eq_true_eq] at hq
  have hm1:m<PR ns:=by omega
  (conv=>whnf)
  refine V.st ?_
  repeat ((try ((with_reducible refine .ext ?_);(conv=>whnf)));(with_reducible refine jaa (r:=?_) ?_ ?_);rotate_left;(focus (first|exact(rindex_c ns m (fun n hn=>by have:=h2 n hn;omega) (by omega) (by omega))));(conv=>whnf);refine V.st ?_)
  refine jac (0) (fun k=>k≤w) (fun k=>w-k) (fun k=>[(10,.int .i64 k)]) (fun k=>[(7,.box [.ints .i64 (nz ns),.int .i64 w,.osl 72 0 (flat ns (mkF vals sm ns w) m++(List.range k).map (mkV vals sm ns w m)).length]),(72,.arr .i64 (flat ns (mkF vals sm ns w) m++(List.range k).map (mkV vals sm ns w m)))]) ?_ ?_ ?_
  ·simp only[List.range_zero,List.map_nil,List.append_nil]
   exact V.wk
  ·exact jiv _
  intro k hk
  have hb0:=mkV0_bd (w:=w) (m:=m) (k:=k) hv
  have hbs:=mk_sm (m:=m) (k:=k) h1.1 h2
  have hmw:(m:Int)*w=((m*w:Nat):Int):=by simp
  have hmw2:m*w≤6561*4:=Nat.mul_le_mul (by omega) (by omega)
  (conv=>whnf)
  refine V.st ?_
  refine V.br (fun hq2=>?_) (fun hq2=>?_)
  ·rw[decide_eq_true_eq] at hq2
   (conv=>whnf)
   refine V.st ?_
   refine ja9 [(11,.int .i64 (mkV0 vals w m k))] [] (CondB.mk (fun hq3=>?_) (fun hq3=>?_)) ?_
   ·rw[decide_eq_true_eq] at hq3
    have hvp:0<vals.length:=by omega
    have e1:((((m*w:Nat):Int)+k)%vals.length).toNat=(m*w+k)%vals.length:=by
     rw[← Int.natCast_add,← Int.natCast_emod,jiC]
    have e2:vals.getD ((m*w+k)%vals.length) 0=mkV0 vals w m k:=by unfold mkV0;rw[if_pos hvp]
    have e3:=jix (((m*w:Nat):Int)+k) (b:=vals.length) (by omega)
    have e4:=jiU (((m*w:Nat):Int)+k) (b:=vals.length) (by omega)
    (conv=>whnf)
    refine V.st ?_
    refine⟨(V.tk [0,1,2,3,4,5,6,7,8,9,10,11,12,13,14] .done),[],V.pok,.go (jae ?_)⟩
    refine V.r0 (V.a3 hmw @e1 e2) ?_
    exact V.wk
   ·rw[decide_eq_false_iff_not] at hq3
    have e2:mkV0 vals w m k=0:=by unfold mkV0;rw[if_neg (by omega)]
    rw[e2]
    (conv=>whnf)
    refine V.st ?_
    exact V.wk
   (conv=>whnf)
   refine V.st ?_
   refine ja9 [(11,.int .i64 (mkV vals sm ns w m k))] [] (CondB.mk (fun hq3=>?_) (fun hq3=>?_)) ?_
   ·have hli:=jat ns m
    have hki:(k:Int)%(ns.length:Int)=((k%ns.length:Nat):Int):=by simp
    have hkl:k%ns.length<ns.length:=Nat.mod_lt _ (by omega)
    have e2:mkV vals sm ns w m k=60000*(ixl ns m).getD (k%ns.length) 0/((nz ns).getD (k%ns.length) 0-1)+mkV0 vals w m k%5000:=by unfold mkV;rw[hq3];rfl
    rw[e2]
    generalize mkV0 vals w m k=v0 at *
    generalize hgi:k%ns.length=i at *
    refine V.r0 (V.a3 hlen hki @jiC) ?_
    refine⟨(V.tk [0,1,2,3,4,5,6,7,8,9,10,11,12,13] (V.e1 14 [] .done)),[],V.pok,.go (jae ?_)⟩
    refine V.r0 (V.a3 hlen hki @jiC) ?_
    exact V.wk
   ·have e2:mkV vals sm ns w m k=mkV0 vals w m k:=by unfold mkV;rw[hq3];rfl
    rw[e2]
    (conv=>whnf)
    refine V.st ?_
    exact V.wk
   have hst:flat ns (mkF vals sm ns w) m++(List.range k).map (mkV vals sm ns w m)++[mkV vals sm ns w m k]=flat ns (mkF vals sm ns w) m++(List.range (k+1)).map (mkV vals sm ns w m):=by
    rw[List.range_succ];simp
   have hst2:(flat ns (mkF vals sm ns w) m++(List.range k).map (mkV vals sm ns w m)).length+1=(flat ns (mkF vals sm ns w) m++(List.range (k+1)).map (mkV vals sm ns w m)).length:=by rw[← hst];simp;omega
   (conv=>whnf)
   refine V.st ?_
   try refine And.intro (fun _=>⟨rfl,by simp;omega⟩) ?_
   refine V.r0 (V.a8 @jiA @List.drop_zero.{0} @List.take_succ_cons.{0} @List.take_zero.{0} @jji @List.length_nil.{0} hst hst2) ?_
   exact⟨k+1,by omega,by omega,V.wk⟩
  ·rw[decide_eq_false_iff_not] at hq2
   have hkw:k=w:=by omega
   subst hkw
   have hfs:flat ns (mkF vals sm ns k) m++(List.range k).map (mkV vals sm ns k m)=flat ns (mkF vals sm ns k) (m+1):=(jdx _ _ _).symm
   rw[hfs]
   (conv=>whnf)
   refine V.st ?_
   exact⟨m+1,by omega,by omega,V.wk⟩
 ·rw[decide_eq_false_iff_not] at hq
  have hm1:m=PR ns:=by omega
  subst hm1
  (conv=>whnf)
  refine V.st ?_
  rw[jjj (jiD _)]
  exact Fin.of rfl
def nsD (ds:List Int):List Nat:=if ds=[] then [2] else (ds.take 3).map fun x=>(2+x%3).toNat
def wD (o:Int):Nat:=(1+o%3).toNat
def draftD (ds:List Int)(o:Int)(vals:List Int)(sm:Bool):D := .agg [.ints .u8 ds,.int .u8 o,.ints .u16 vals,.bool sm]
def dData (ds:List Int)(o:Int)(vals:List Int)(sm:Bool):List Int:=flat (nsD ds) (mkF vals sm (nsD ds) (wD o)) (PR (nsD ds))
theorem nsD_bd (ds:List Int):(1≤(nsD ds).length∧(nsD ds).length≤3) ∧ ∀ n∈nsD ds,2≤n∧n≤4:=by
 unfold nsD
 split
 ·simp
 ·rename_i h
  have:0<ds.length:=List.length_pos_iff.2 h
  refine⟨by simp;omega,fun n hn=>?_⟩
  obtain⟨x,_,rfl⟩:=List.mem_map.1 hn
  omega
theorem wD_bd (o:Int):1≤wD o∧wD o≤3:=by unfold wD;omega
theorem nz_nsD {ds:List Int}(h:ds≠[]):(ds.take 3).map (fun x=>2+x%3)=nz (nsD ds):=by
 unfold nsD nz
 rw[if_neg h,List.map_map]
 refine List.map_congr_left fun x _=>?_
 simp
 omega
theorem draft_c (ds:List Int)(o:Int)(vals:List Int)(sm:Bool)(hd:∀ v∈ds,0≤v∧v≤255)(hdl:ds.length≤281474976710656)(ho:0≤o∧o≤255)(hv:∀ v∈vals,0≤v∧v≤65535)(hvl:vals.length≤281474976710656) :
  Cl 11 [draftD ds o vals sm] (gridD (nz (nsD ds)) (wD o) (dData ds o vals sm)):=by
 have hb:=nsD_bd ds
 have hwb:=wD_bd o
 have hmade:=made_c ds o vals sm (nsD ds) (wD o) hv hvl (by omega) (fun n hn=>by have:=hb.2 n hn;omega) (by omega)
 have hwD:1+o%3=(wD o:Int):=by unfold wD;omega
 refine V.en tbOk Tryz.func11 ?_
 refine V.r0 @jiA ?_
 refine Lp.ghostSlot 26 3 .i64 (by decide) ?_
 (conv=>whnf)
 refine jac (0) (fun k=>k≤ds.length∧k≤3) (fun k=>3-k) (fun k=>[(4,.int .i64 k),(3,.osl 26 0 ((ds.take k).map fun x=>2+x%3).length)]) (fun k=>[(26,.arr .i64 ((ds.take k).map fun x=>2+x%3))]) ?_ ?_ ?_
 ·exact V.wk
 ·omega
 intro k hk
 (conv=>whnf)
 refine V.st ?_
 refine V.br (fun hq=>?_) (fun hq=>?_)
 ·simp only[jit,decide_eq_true_eq] at hq
  obtain⟨x,hx,ex⟩:=getxn (xs:=ds) (k:=k) (by omega)
  have hxb:=hd x (ji9 hx)
  have hst:(ds.take k).map (fun x=>2+x%3)++[2+x%3]=(ds.take (k+1)).map fun x=>2+x%3:=by
   rw[jjr,hx];simp
  have hst2:((ds.take k).map fun x=>2+x%3).length+1=((ds.take (k+1)).map fun x=>2+x%3).length:=by rw[← hst];simp
  have hml:((ds.take k).map fun x=>2+x%3).length≤3:=by simp;omega
  refine V.r0 (V.a2 @jiC ex) ?_
  try refine And.intro (fun _=>⟨trivial,by simp;omega⟩) ?_
  refine V.r0 (V.a8 @jiA @List.drop_zero.{0} @List.take_succ_cons.{0} @List.take_zero.{0} @jji @List.length_nil.{0} hst hst2) ?_
  exact⟨k+1,by omega,by omega,V.wk⟩
 ·have hq2:¬ ((k:Int)<ds.length∧(k:Int)<3):=by
   intro h
   rw[decide_eq_true h.1,decide_eq_true h.2] at hq
   cases hq
  have htk:ds.take k=ds.take 3:=by
   rcases jiJ k 3 with h|h
   ·rw[jjj (by omega),jjj (by omega)]
   ·congr 1;omega
  have hml:((ds.take 3).map fun x=>2+x%3).length≤3:=by simp;omega
  rw[htk]
  (conv=>whnf)
  refine V.st ?_
  by_cases hds:ds=[]
  ·subst hds
   have hnd:nsD []=[2]:=rfl
   refine V.br (fun hq3=>?_) (fun hq3=>?_)
   ·refine V.r1 (V.a5 hwD @List.take_succ_cons.{0} @List.take_zero.{0} @jiA @List.drop_zero.{0}) hmade ?_
    exact Fin.of rfl
   ·simp at hq3
  ·have hnd:=nz_nsD hds
   have hlp:0<ds.length:=List.length_pos_iff.2 hds
   refine V.br (fun hq3=>?_) (fun hq3=>?_)
   ·simp at hq3
    exact absurd hq3 hds
   ·rw[hnd] at hml ⊢
    refine V.r1 (V.a2 hwD @jjs) hmade ?_
    exact Fin.of rfl
theorem jhS {ns:List Nat}{f:Nat→List Int}{w m:Nat}(h:∀ j,(f j).length=w):(flat ns f m).length=m*w:=by
 induction m with
 | zero=>simp[flat]
 | succ m ih=>rw[jdx,jja,ih,h,Nat.add_mul,Nat.one_mul]
theorem mem_flat {ns:List Nat}{f:Nat→List Int}{m:Nat}{x:Int}(h:x∈flat ns f m):∃ j,j<m∧x∈f j:=by
 unfold flat at h
 rw[List.mem_flatMap] at h
 obtain⟨j,h1,h2⟩:=h
 exact⟨j,List.mem_range.1 h1,h2⟩
theorem draft_ok (ds:List Int)(o:Int)(vals:List Int)(sm:Bool)(hv:∀ v∈vals,0≤v∧v≤65535):jaj (nz (nsD ds)) (wD o) (dData ds o vals sm)=true:=by
 have hb:=nsD_bd ds
 have hwb:=wD_bd o
 have hl:(dData ds o vals sm).length=PR (nsD ds)*wD o:=jhS fun j=>by simp[mkF]
 have hP:PR (nsD ds)≤64:=by
  have hbb:∀ l:List Nat,(∀ n∈l,2≤n∧n≤4)→PR l≤4^l.length:=by
   intro l
   induction l with
   | nil=>intro _;decide
   | cons x l ih=>
    intro hl
    have h3:=ih fun n hn=>hl n (by simp[hn])
    have h4:=hl x (by simp)
    rw[PR,jji,Nat.pow_succ,jiF]
    exact Nat.mul_le_mul h3 h4.2
  exact jiK (hbb _ hb.2) (jiS (by omega) hb.1.2)
 have hl2:PR (nsD ds)*wD o≤64*3:=Nat.mul_le_mul hP hwb.2
 unfold jaj
 have e1:(nz (nsD ds)).length=(nsD ds).length:=by simp[nz]
 have e2:(nz (nsD ds)).all (fun n=>decide (2≤n∧n≤9))=true:=by
  rw[ji4]
  intro x hx
  obtain⟨n,hn,rfl⟩:=List.mem_map.1 hx
  have:=hb.2 n hn
  simp;omega
 have e3:(dData ds o vals sm).all (fun v=>decide (0≤v∧v≤65535))=true:=by
  rw[ji4]
  intro x hx
  obtain⟨j,_,hj⟩:=mem_flat hx
  unfold mkF at hj
  obtain⟨k,_,rfl⟩:=List.mem_map.1 hj
  have:=mkV_bd (sm:=sm) (w:=wD o) (m:=j) (k:=k) hv hb.1.1 (fun n hn=>by have:=hb.2 n hn;omega)
  simpa using this
 rw[e2,e3,jeH]
 simp only[Bool.and_true,jit,decide_eq_true_eq]
 refine⟨⟨by omega,by omega⟩,by omega,?_⟩
 rw[hl];simp
theorem all_c (xs:List Int):Cl 72 [.ints .i64 xs] (.fn 116 [] [.ref [.ints .i64 xs]]):=by
 refine V.en tbOk Tryz.func72 ?_
 (conv=>whnf)
 refine V.st ?_
 exact Fin.same _
theorem nz_of {size:List Int}(h:size.all (fun n=>decide (2≤n∧n≤9))=true):∃ ns:List Nat,size=nz ns∧size.map Int.toNat=ns ∧ ∀ n∈ns,2≤n∧n≤9:=by
 rw[ji4] at h
 refine⟨size.map Int.toNat,?_,rfl,fun n hn=>?_⟩
 ·unfold nz
  rw[List.map_map]
  refine List.ext_getElem (by simp) fun k h1 h2=>?_
  have:=h size[k] (List.getElem_mem h1)
  simp at this ⊢
  omega
 ·obtain⟨x,hx,rfl⟩:=List.mem_map.1 hn
  have:=h x hx
  simp at this
  omega
def upd (lt:Int→Int→Bool)(o v:List Int):List Int:=List.zipWith (fun a b=>if lt b a then b else a) o v
def mst (lt:Int→Int→Bool)(data:List Int)(w:Nat):Nat→List Int
 | 0=>slot data 0 w
 | m+1=>upd lt (mst lt data w m) (slot data ((m*w:Nat):Int) w)
theorem lt_c (a b:Int):Cl 53 [.int .i64 a,.int .i64 b] (.bool (decide (a<b))):=by
 refine V.en tbOk Tryz.func53 ?_
 (conv=>whnf)
 refine V.st ?_
 exact Fin.of rfl
theorem gt_c (a b:Int):Cl 54 [.int .i64 a,.int .i64 b] (.bool (decide (a>b))):=by
 refine V.en tbOk Tryz.func54 ?_
 (conv=>whnf)
 refine V.st ?_
 exact Fin.of rfl
theorem tpoints_c (size:List Int)(out:Int)(data:List Int):Cl 52 [gridD size out data] (.fn 92 [] [.ref [.ints .i64 size,.int .i64 out,.ints .i64 data],.ref [.fn 40 [gridD size out data] []]]):=by
 refine V.en tbOk Tryz.func52 ?_
 (conv=>whnf)
 refine V.st ?_
 exact Fin.of rfl
theorem jgL {data:List Int}{w m n:Nat}(h:data.length=n*w)(hm:m<n):(slot data ((m*w:Nat):Int) w).length=w:=by
 unfold slot
 rw[jiC,jiC]
 simp
 have:(m+1)*w≤n*w:=Nat.mul_le_mul_right w hm
 rw[Nat.add_mul] at this
 omega
theorem jcR {lt:Int→Int→Bool}{data:List Int}{w m n:Nat}(h:data.length=n*w)(hm:m≤n)(hn:0<n):(mst lt data w m).length=w:=by
 induction m with
 | zero=>have:=jgL (m:=0) h hn;simpa [mst] using this
 | succ m ih=>
  unfold mst upd
  rw[List.length_zipWith,ih (by omega),jgL h (by omega)]
  omega
theorem jfW {lt:Int→Int→Bool}{o v:List Int}{k:Nat}{a b:Int}(ha:o[k]? = some a)(hb:v[k]? = some b)(hl:o.length=v.length) :
  ((upd lt o v).take k++o.drop k).set k (if lt b a then b else a)=(upd lt o v).take (k+1)++o.drop (k+1):=by
 have h1:=(jje.1 ha)
 have h2:=(jje.1 hb)
 have hul:(upd lt o v).length=o.length:=by unfold upd;rw[List.length_zipWith];omega
 have h3:((upd lt o v).take k).length=k:=by have:=h1.1;rw[jjb];omega
 have h4:(upd lt o v)[k]? = some (if lt b a then b else a):=by
  unfold upd
  rw[List.getElem?_zipWith,ha,hb]
 rw[List.set_append_right _ _ (by omega),h3,Nat.sub_self,jjm h1.1,List.set_cons_zero,jjr,h4]
 simp
theorem jhi {lt:Int→Int→Bool}{o v:List Int}{k:Nat}{a:Int}(ha:o[k]? = some a)(hl:o.length=v.length):((upd lt o v).take k++o.drop k).getD k 0=a:=by
 have h1:=(jje.1 ha)
 have hul:(upd lt o v).length=o.length:=by unfold upd;rw[List.length_zipWith];omega
 have h3:((upd lt o v).take k).length=k:=by have:=h1.1;rw[jjb];omega
 rw[ji5,List.getElem?_append_right (by omega),h3,Nat.sub_self,List.getElem?_drop,Nat.add_zero,ha]
 rfl
theorem upd_same {lt:Int→Int→Bool}{o v:List Int}{k:Nat}{a b:Int}(ha:o[k]? = some a)(hb:v[k]? = some b)(hl:o.length=v.length)(h:lt b a=false) :
  (upd lt o v).take k++o.drop k=(upd lt o v).take (k+1)++o.drop (k+1):=by
 rw[← jfW ha hb hl,h]
 have h1:=(jje.1 ha)
 have hul:(upd lt o v).length=o.length:=by unfold upd;rw[List.length_zipWith];omega
 have h3:((upd lt o v).take k).length=k:=by have:=h1.1;rw[jjb];omega
 rw[List.set_append_right _ _ (by omega),h3,Nat.sub_self,jjm h1.1,List.set_cons_zero,h1.2]
 rfl
theorem jij:type_of% @jiC∧type_of% @jiA:=⟨@jiC,@jiA⟩
theorem most_c (size : List Int) (w : Nat) (data : List Int) (g : Nat) (lt : Int → Int → Bool) (hg : jaj size w data = true) (hf : ∀ a b, Cl g [.int .i64 a, .int .i64 b] (.bool (lt a b))) (hirr : ∀ a, lt a a = false) :
    Cl 51 [.fn 92 [] [.ref [.ints .i64 size, .int .i64 w, .ints .i64 data], .ref [.fn 40 [gridD size w data] []]], .fn g [] []] (.ints .i64 (mst lt data w (PR (size.map Int.toNat)))) := by
  have hG := jbv hg
  obtain ⟨ns, hn0, hn1, hn2⟩ := nz_of hG.2.2.2.2.1
  have hsl : size.length = ns.length := by rw [hn0]; simp [nz]
  have hpos : ∀ n ∈ ns, 0 < n := fun n hn => by have := hn2 n hn; omega
  have hPR := PR_le (by omega) hn2
  have hPP := jfp hpos
  have hprod : prod size = (PR ns : Nat) := by rw [hn0, jeH]
  have hdl : data.length = PR ns * w := by
    have := hG.2.2.2.2.2.2.1
    rw [hprod, ← jiM] at this
    omega
  rw [hn1]
  have h1 : 1 ≤ ns.length ∧ ns.length ≤ 4 := by omega
  have hok : ∀ m, okIdx size (ixl ns m) = true := fun m => jbA.2 ⟨by rw [jat]; omega, fun k n x h1 h2 => by
    rw [hn0] at h1
    simp only [nz, List.getElem?_map, Option.map_eq_some_iff] at h1
    obtain ⟨n', h3, rfl⟩ := h1
    exact jeS hpos h3 h2⟩
  have hvc : ∀ m, m < PR ns → Cl 40 [gridD size w data, .iarr .i64 (pad4 (ixl ns m))] (.ints .i64 (slot data ((m * w : Nat) : Int) w)) := fun m hm => by
    have hpad := jeN (hok m) hG.2.1
    have := values_c size w data _ hg hpad.1 hpad.2
    have hpz : pz (size.zip (pad4 (ixl ns m))) = (m : Int) := by
      rw [zip_pad (hok m), hn0]
      have := pz_ixl_aux ns hpos m 0
      rw [jiG hm] at this
      unfold pz nz
      simpa using this
    rw [hpz, ← jiM] at this
    exact this
  have hlen : size.length = ns.length := hsl
  refine V.en tbOk Tryz.func51 ?_
  (conv => whnf)
  refine V.st ?_
  refine ⟨_, _, ⟨Tryz.func92, rfl, rfl, jiu rfl⟩, ?_⟩
  (conv => whnf)
  refine V.st ?_
  repeat ((try ((with_reducible refine .ext ?_); (conv => whnf))); (with_reducible refine jaa (r := ?_) ?_ ?_); rotate_left; (focus (first | exact (all_c _))); (conv => whnf); refine V.st ?_)
  refine ⟨_, _, ⟨Tryz.func116, rfl, rfl, jiu rfl⟩, ?_⟩
  refine V.r0 @jiA ?_
  refine lp_go (ns.length) (fun k => True) (fun k => [(10, .int .i64 k)]) (fun k => [(57, .arr .i64 (pad4 ((lastL ns).take k)))]) V.wk ?_ ?_
  · trivial
  intro k hk _
  (conv => whnf)
  refine V.st ?_
  refine V.br (fun h => ?_) (fun h => ?_)
  · rw [hlen] at h
    simp only [decide_eq_true_eq] at h
    have hk1 : k < ns.length := by omega
    obtain ⟨n, hn⟩ : ∃ n, ns[k]? = some n := ⟨ns[k], ji8 hk1⟩
    have hnb := hn2 n (ji9 hn)
    have en : size.getD k 0 = n := by rw [hn0]; simp [nz, ji5, hn]
    have hll : (lastL ns)[k]? = some ((n : Int) - 1) := by simp [lastL, hn]
    have hp4 : (pad4 ((lastL ns).take k)).length = 4 := jaA (by simp [lastL]; omega)
    have hps := jgg hll (by simp [lastL]; omega)
    refine V.r0 (V.a3 jij @en hps) ?_
    exact ⟨k + 1, ⟨by omega, trivial⟩, by omega, V.wk⟩
  · rw [hlen] at h
    simp only [decide_eq_false_iff_not] at h
    have hk1 : k = ns.length := by omega
    subst hk1
    have e0 : (lastL ns).take ns.length = lastL ns := jjj (by simp [lastL])
    rw [e0]
    (conv => whnf)
    refine V.st ?_
    have e1 := ixl_pad0 h1 hn2
    have hp4l : (pad4 (lastL ns)).length = 4 := jaA (by simp [lastL]; omega)
    refine jac 0 (fun k => k < PR ns) (fun k => PR ns - k) (fun k => []) (fun k => match k with
      | 0 => [(56, .arr .i64 (pad4 (ixl ns 0))), (5, .box [.nil])]
      | m + 1 => [(56, .arr .i64 (pad4 (ixl ns (m + 1)))), (5, .box [.osl 159 0 w]), (159, .arr .i64 (mst lt data w (m + 1)))]) ?_ hPP ?_
    · simp only [e1]
      exact V.wk
    intro m hm
    have hvm := hvc m hm
    have hp4 : (pad4 (ixl ns m)).length = 4 := jaA (by rw [jat]; omega)
    have hvl := jgL hdl hm
    have hml := jcR (lt := lt) hdl (Nat.le_of_lt hm) hPP
    have hul : (upd lt (mst lt data w m) (slot data ((m * w : Nat) : Int) w)).length = w := by unfold upd; rw [List.length_zipWith]; omega
    cases m with
    | zero =>
      have hm0 : slot data ((0 * w : Nat) : Int) w = mst lt data w 0 := by simp [mst]
      rw [hm0] at hvm hvl hul
      have hvf : upd lt (mst lt data w 0) (mst lt data w 0) = mst lt data w 1 := by
        conv => rhs; unfold mst
        rw [hm0]
      generalize hv : mst lt data w 0 = vs at *
      (conv => whnf)
      refine V.st ?_
      repeat ((try ((with_reducible refine .ext ?_); (conv => whnf))); (with_reducible refine jaa (r := ?_) ?_ ?_); rotate_left; (focus (first | exact (hvm))); (conv => whnf); refine V.st ?_)
      refine ⟨(V.tk [0,1,2] (V.e1 3 [0] (V.e1 4 [] (V.tk [5] .done)))), [], V.pok, .go (jae ?_)⟩
      (conv => whnf)
      refine V.st ?_
      repeat ((try ((with_reducible refine .ext ?_); (conv => whnf))); (with_reducible refine jaa (r := ?_) ?_ ?_); rotate_left; (focus (first | exact (hvm))); (conv => whnf); refine V.st ?_)
      refine .inl ?_
      (conv => whnf)
      refine ⟨0, _, _, ⟨Tryz.func19, rfl, rfl, jiu rfl⟩, ?_⟩
      (conv => whnf)
      refine AnyB.mk (fun h => ?_) (fun _ => ?_)
      · have := h rfl
        rw [this] at hvl
        simp at hvl
        omega
      (conv => whnf)
      try refine And.intro (fun _ => ⟨rfl, by simp; omega⟩) ?_
      have hol : vs.length = w := hml
      have he0 : vs = (upd lt vs vs).take 0 ++ vs.drop 0 := by simp
      refine V.r0 (V.a4 @jiA @Nat.add_zero @List.nil_append.{0} hvl) ?_
      refine lp_go w (fun _ => True) (fun k => [(17, .int .i64 k)]) (fun k => [(159, .arr .i64 ((upd lt vs vs).take k ++ vs.drop k))]) ?_ trivial ?_
      · rw [← he0]
        exact V.wk
      intro k hk _
      (conv => whnf)
      refine V.st ?_
      refine V.br (fun hq => ?_) (fun hq => ?_)
      · rw [decide_eq_true_eq] at hq
        have hk1 : k < w := by omega
        obtain ⟨v, hv1, ev⟩ := getxn (xs := vs) (k := k) (by omega)
        obtain ⟨o, ho1, eo⟩ := getxn (xs := vs) (k := k) (by omega)
        have hug := jhi (lt := lt) (v := vs) ho1 (by omega)
        have hus := jfW (lt := lt) ho1 hv1 (by omega)
        have hul2 : ((upd lt vs vs).take k ++ vs.drop k).length = w := by simp; omega
        refine V.r0 (V.a2 jij ev) ?_
        refine ⟨(V.tk [0,1,2,3,4,5] (V.e1 6 [] .done)), [], V.pok, .go (jae ?_)⟩
        (conv => whnf)
        (try simp only [jij, ev, hug])
        repeat ((first | refine V.s1 ?_ | ((try ((with_reducible refine .ext ?_); (conv => whnf); (try simp only [jij, ev, hug]))); (with_reducible refine jaa (r := ?_) ?_ ?_); rotate_left; (focus (first | exact (hf _ _))); (conv => whnf))); (try simp only [jij, ev, hug]))
        refine ja9 [] [(159, .arr .i64 ((upd lt vs vs).take (k + 1) ++ vs.drop (k + 1)))] (CondB.mk (fun hc => ?_) (fun hc => ?_)) ?_
        · rw [hc, if_pos rfl] at hus
          refine V.r0 (V.a3 jij ev hus) ?_
          exact V.wk
        · have hsm := upd_same ho1 hv1 (by omega) hc
          rw [← hsm]
          (conv => whnf)
          refine V.st ?_
          exact V.wk
        (conv => whnf)
        refine V.st ?_
        exact ⟨k + 1, ⟨by omega, trivial⟩, by omega, V.wk⟩
      · rw [decide_eq_false_iff_not] at hq
        have hk1 : k = w := by omega
        subst hk1
        have hfin : (upd lt vs vs).take k ++ vs.drop k = mst lt data k 1 := by
          rw [jjj (by omega), jjk (by omega), List.append_nil]
          exact hvf
        rw [hfin]
        (conv => whnf)
        refine V.st ?_
        refine V.br (fun hq => ?_) (fun hq => ?_)
        · rw [decide_eq_true_eq] at hq
          have hq2 : ixl ns (0) = lastL ns := jgh (by rw [jat]; simp [lastL]) hq
          have hq3 := jei ns hpos (0) hq2
          rw [jiG hm] at hq3
          have hq4 : 1 = PR ns := by omega
          have hml3 := jcR (lt := lt) hdl (Nat.le_of_eq hq4) hPP
          (conv => whnf)
          refine V.st ?_
          rw [jjj (by omega), hq4]
          exact Fin.of rfl
        · rw [decide_eq_false_iff_not] at hq
          have hq2 : ixl ns (0) ≠ lastL ns := fun e => hq (by rw [← e])
          have hil := jat ns (0)
          have hll : (lastL ns).length = ns.length := by simp [lastL]
          (conv => whnf)
          refine V.st ?_
          rw [hlen]
          have e2 : (ixl ns (0)).take ns.length = ixl ns (0) := jjj (by omega)
          refine jac (ns.length) (fun k => (1 ≤ k ∧ k ≤ ns.length) ∧ (ixl ns (0)).drop k = (lastL ns).drop k) (fun k => k) (fun k => [(7, .int .i64 ((k : Int) - 1))]) (fun k => [(56, .arr .i64 (pad4 ((ixl ns (0)).take k)))]) ?_ ?_ ?_
          · rw [e2]
            exact V.wk
          · exact ⟨⟨h1.1, jiD _⟩, by rw [jjk (by omega), jjk (by omega)]⟩
          rintro p ⟨⟨hp1, hp2⟩, hp3⟩
          obtain ⟨p, rfl⟩ : ∃ q, p = q + 1 := ⟨p - 1, by omega⟩
          obtain ⟨x, hx⟩ : ∃ x, (ixl ns (0))[p]? = some x := ⟨_, ji8 (by omega)⟩
          obtain ⟨n, hn⟩ : ∃ n, ns[p]? = some n := ⟨ns[p], ji8 (by omega)⟩
          have hpx := jcl hx (by omega : p < p + 1) (by omega)
          have hpl : (lastL ns)[p]? = some ((n : Int) - 1) := by simp [lastL, hn]
          have hpl2 := jcl (k := 4) hpl (by omega) (by omega)
          rw [jjj (by omega)] at hpl2
          have hp5 : (pad4 ((ixl ns (0)).take (p + 1))).length = 4 := jaA (by simp; omega)
          have e3 : ((p + 1 : Nat) : Int) - 1 = (p : Int) := by omega
          have e4 := jeI hx (by omega)
          (conv => whnf)
          refine V.st ?_
          refine ⟨(V.tk [0,1,2,3,4,5,6] .done), [], V.pok, .go (jae ?_)⟩
          refine V.r0 (V.a4 jij e3 hpx hpl2) ?_
          refine V.br (fun hc => ?_) (fun hc => ?_)
          · rw [decide_eq_true_eq] at hc
            have hd : (ixl ns (0)).drop p = (lastL ns).drop p := by
              rw [jjm (by omega : p < (ixl ns (0)).length), jjm (by omega : p < (lastL ns).length), hp3, (jje.1 hx).2, (jje.1 hpl).2, hc]
            have hp0 : 1 ≤ p := by
              rcases jiE p with e | e
              · subst e; exact absurd (by simpa using hd) hq2
              · exact e
            refine V.r0 (V.a3 jij e3 e4) ?_
            exact ⟨p, ⟨⟨hp0, by omega⟩, hd⟩, by omega, V.wk⟩
          · rw [decide_eq_false_iff_not] at hc
            have hsu := jgp ns hpos (0) p n hn x hx (by rw [hp3]; simp [lastL]) hc
            have e5 := jdq (y := x + 1) hx (by omega) (by omega : (ixl ns (0)).length ≤ 4)
            rw [hil, ← hsu] at e5
            have hxb := jeS hpos hn hx
            have hnb := hn2 n (ji9 hn)
            have hm1 : 1 < PR ns := by
              rcases jiJ (1) (PR ns) with e | e
              · exact e
              · exfalso
                exact hq2 (jej ns hpos (0) (by rw [jiG hm]; omega))
            refine V.r0 (V.a4 jij e3 hpx e5) ?_
            exact ⟨1, hm1, by omega, V.wk⟩
    | succ m =>
      have hvf : upd lt (mst lt data w (m + 1)) (slot data (((m + 1) * w : Nat) : Int) w) = mst lt data w (m + 2) := by
        conv => rhs; unfold mst
      generalize hv : mst lt data w (m + 1) = vs at *
      generalize hv2 : slot data (((m + 1) * w : Nat) : Int) w = ws at *
      (conv => whnf)
      refine V.st ?_
      repeat ((try ((with_reducible refine .ext ?_); (conv => whnf))); (with_reducible refine jaa (r := ?_) ?_ ?_); rotate_left; (focus (first | exact (hvm))); (conv => whnf); refine V.st ?_)
      refine ⟨(V.tk [0,1,2] (V.e1 3 [0] (V.e1 4 [] (V.tk [5] .done)))), [], V.pok, .go (jae ?_)⟩
      (conv => whnf)
      refine V.st ?_
      repeat ((try ((with_reducible refine .ext ?_); (conv => whnf))); (with_reducible refine jaa (r := ?_) ?_ ?_); rotate_left; (focus (first | exact (hvm))); (conv => whnf); refine V.st ?_)
      have hol : vs.length = w := hml
      have he0 : vs = (upd lt vs ws).take 0 ++ vs.drop 0 := by simp
      refine V.r0 (V.a4 @jiA @Nat.add_zero @List.nil_append.{0} hvl) ?_
      refine lp_go w (fun _ => True) (fun k => [(17, .int .i64 k)]) (fun k => [(159, .arr .i64 ((upd lt vs ws).take k ++ vs.drop k))]) ?_ trivial ?_
      · rw [← he0, ← hv]
        exact V.wk
      intro k hk _
      (conv => whnf)
      refine V.st ?_
      refine V.br (fun hq => ?_) (fun hq => ?_)
      · rw [decide_eq_true_eq] at hq
        have hk1 : k < w := by omega
        obtain ⟨v, hv1, ev⟩ := getxn (xs := ws) (k := k) (by omega)
        obtain ⟨o, ho1, eo⟩ := getxn (xs := vs) (k := k) (by omega)
        have hug := jhi (lt := lt) (v := ws) ho1 (by omega)
        have hus := jfW (lt := lt) ho1 hv1 (by omega)
        have hul2 : ((upd lt vs ws).take k ++ vs.drop k).length = w := by simp; omega
        refine V.r0 (V.a2 jij ev) ?_
        refine ⟨(V.tk [0,1,2,3,4,5] (V.e1 6 [] .done)), [], V.pok, .go (jae ?_)⟩
        (conv => whnf)
        (try simp only [jij, ev, hug])
        repeat ((first | refine V.s1 ?_ | ((try ((with_reducible refine .ext ?_); (conv => whnf); (try simp only [jij, ev, hug]))); (with_reducible refine jaa (r := ?_) ?_ ?_); rotate_left; (focus (first | exact (hf _ _))); (conv => whnf))); (try simp only [jij, ev, hug]))
        refine ja9 [] [(159, .arr .i64 ((upd lt vs ws).take (k + 1) ++ vs.drop (k + 1)))] (CondB.mk (fun hc => ?_) (fun hc => ?_)) ?_
        · rw [hc, if_pos rfl] at hus
          refine V.r0 (V.a3 jij ev hus) ?_
          exact V.wk
        · have hsm := upd_same ho1 hv1 (by omega) hc
          rw [← hsm]
          (conv => whnf)
          refine V.st ?_
          exact V.wk
        (conv => whnf)
        refine V.st ?_
        exact ⟨k + 1, ⟨by omega, trivial⟩, by omega, V.wk⟩
      · rw [decide_eq_false_iff_not] at hq
        have hk1 : k = w := by omega
        subst hk1
        have hfin : (upd lt vs ws).take k ++ vs.drop k = mst lt data k (m + 2) := by
          rw [jjj (by omega), jjk (by omega), List.append_nil]
          exact hvf
        rw [hfin]
        (conv => whnf)
        refine V.st ?_
        refine V.br (fun hq => ?_) (fun hq => ?_)
        · rw [decide_eq_true_eq] at hq
          have hq2 : ixl ns (m + 1) = lastL ns := jgh (by rw [jat]; simp [lastL]) hq
          have hq3 := jei ns hpos (m + 1) hq2
          rw [jiG hm] at hq3
          have hq4 : m + 2 = PR ns := by omega
          have hml3 := jcR (lt := lt) hdl (Nat.le_of_eq hq4) hPP
          (conv => whnf)
          refine V.st ?_
          rw [jjj (by omega), hq4]
          exact Fin.of rfl
        · rw [decide_eq_false_iff_not] at hq
          have hq2 : ixl ns (m + 1) ≠ lastL ns := fun e => hq (by rw [← e])
          have hil := jat ns (m + 1)
          have hll : (lastL ns).length = ns.length := by simp [lastL]
          (conv => whnf)
          refine V.st ?_
          rw [hlen]
          have e2 : (ixl ns (m + 1)).take ns.length = ixl ns (m + 1) := jjj (by omega)
          refine jac (ns.length) (fun k => (1 ≤ k ∧ k ≤ ns.length) ∧ (ixl ns (m + 1)).drop k = (lastL ns).drop k) (fun k => k) (fun k => [(7, .int .i64 ((k : Int) - 1))]) (fun k => [(56, .arr .i64 (pad4 ((ixl ns (m + 1)).take k)))]) ?_ ?_ ?_
          · rw [e2]
            exact V.wk
          · exact ⟨⟨h1.1, jiD _⟩, by rw [jjk (by omega), jjk (by omega)]⟩
          rintro p ⟨⟨hp1, hp2⟩, hp3⟩
          obtain ⟨p, rfl⟩ : ∃ q, p = q + 1 := ⟨p - 1, by omega⟩
          obtain ⟨x, hx⟩ : ∃ x, (ixl ns (m + 1))[p]? = some x := ⟨_, ji8 (by omega)⟩
          obtain ⟨n, hn⟩ : ∃ n, ns[p]? = some n := ⟨ns[p], ji8 (by omega)⟩
          have hpx := jcl hx (by omega : p < p + 1) (by omega)
          have hpl : (lastL ns)[p]? = some ((n : Int) - 1) := by simp [lastL, hn]
          have hpl2 := jcl (k := 4) hpl (by omega) (by omega)
          rw [jjj (by omega)] at hpl2
          have hp5 : (pad4 ((ixl ns (m + 1)).take (p + 1))).length = 4 := jaA (by simp; omega)
          have e3 : ((p + 1 : Nat) : Int) - 1 = (p : Int) := by omega
          have e4 := jeI hx (by omega)
          (conv => whnf)
          refine V.st ?_
          refine ⟨(V.tk [0,1,2,3,4,5,6] .done), [], V.pok, .go (jae ?_)⟩
          refine V.r0 (V.a4 jij e3 hpx hpl2) ?_
          refine V.br (fun hc => ?_) (fun hc => ?_)
          · rw [decide_eq_true_eq] at hc
            have hd : (ixl ns (m + 1)).drop p = (lastL ns).drop p := by
              rw [jjm (by omega : p < (ixl ns (m + 1)).length), jjm (by omega : p < (lastL ns).length), hp3, (jje.1 hx).2, (jje.1 hpl).2, hc]
            have hp0 : 1 ≤ p := by
              rcases jiE p with e | e
              · subst e; exact absurd (by simpa using hd) hq2
              · exact e
            refine V.r0 (V.a3 jij e3 e4) ?_
            exact ⟨p, ⟨⟨hp0, by omega⟩, hd⟩, by omega, V.wk⟩
          · rw [decide_eq_false_iff_not] at hc
            have hsu := jgp ns hpos (m + 1) p n hn x hx (by rw [hp3]; simp [lastL]) hc
            have e5 := jdq (y := x + 1) hx (by omega) (by omega : (ixl ns (m + 1)).length ≤ 4)
            rw [hil, ← hsu] at e5
            have hxb := jeS hpos hn hx
            have hnb := hn2 n (ji9 hn)
            have hm1 : m + 2 < PR ns := by
              rcases jiJ (m + 2) (PR ns) with e | e
              · exact e
              · exfalso
                exact hq2 (jej ns hpos (m + 1) (by rw [jiG hm]; omega))
            refine V.r0 (V.a4 jij e3 hpx e5) ?_
            exact ⟨m + 2, hm1, by omega, V.wk⟩
theorem rl_mst {lt:Int→Int→Bool}{data:List Int}{w n:Nat}(h:data.length=n*w)(hw:0<w):∀ m,m≤n→rl lt data w (m*w)=mst lt data w m:=by
 intro m
 induction m with
 | zero=>intro _;simp[rl,mst]
 | succ m ih=>
  intro hm
  have ih:=ih (by omega)
  have hwl:w≤data.length:=by rw[h];exact Nat.le_mul_of_pos_left _ (by omega)
  have hR:=jeB (lt:=lt) hwl (m*w)
  have hS:=jgL h (by omega:m<n)
  have key:∀ k,k≤w→rl lt data w (m*w+k)=(upd lt (rl lt data w (m*w)) (slot data ((m*w:Nat):Int) w)).take k++(rl lt data w (m*w)).drop k:=by
   intro k
   induction k with
   | zero=>intro _;simp
   | succ k ihk=>
    intro hk
    have ihk:=ihk (by omega)
    have e1:(m*w+k)%w=k:=by
     rw[Nat.add_comm,Nat.add_mul_mod_self_right,jiG (by omega)]
    obtain⟨a,ha⟩:∃ a,(rl lt data w (m*w))[k]? = some a:=⟨_,ji8 (by omega)⟩
    obtain⟨b,hb⟩:∃ b,(slot data ((m*w:Nat):Int) w)[k]? = some b:=⟨_,ji8 (by omega)⟩
    have hb2:data.getD (m*w+k) 0=b:=by
     have:=hb
     unfold slot at this
     rw[jiC,jiC,jjq (by omega),List.getElem?_drop] at this
     rw[ji5,this];rfl
    have hug:=jhi (lt:=lt) (v:=slot data ((m*w:Nat):Int) w) ha (by omega)
    have hus:=jfW (lt:=lt) ha hb (by omega)
    rw[← hus,← Nat.add_assoc]
    conv=>lhs;unfold rl
    rw[e1,ihk,hb2,hug]
  have hk:=key w (jiD _)
  have hul:(upd lt (rl lt data w (m*w)) (slot data ((m*w:Nat):Int) w)).length=w:=by unfold upd;rw[List.length_zipWith];omega
  rw[Nat.add_mul,Nat.one_mul,hk,jjj (by omega),jjk (by omega),List.append_nil,ih]
  rfl
theorem range_c (size:List Int)(out:Int)(data:List Int)(hs:size.length≤281474976710656)(hd:data.length≤281474976710656) :
  Cl 25 [gridD size out data] (.tup [.ints .i64 (if jaj size out data then rl (fun a b=>decide (a<b)) data out.toNat data.length else []),.ints .i64 (if jaj size out data then rl (fun a b=>decide (a>b)) data out.toNat data.length else []),.int .i64 (if jaj size out data then 0 else 100)]):=by
 refine V.en tbOk Tryz.func25 ?_
 (conv=>whnf)
 refine V.st ?_
 repeat ((try ((with_reducible refine .ext ?_);(conv=>whnf)));(with_reducible refine jaa (r:=?_) ?_ ?_);rotate_left;(focus (first|exact(jfj _ _ _ hs hd)));(conv=>whnf);refine V.st ?_)
 cases hg:jaj size out data with
 | false=>
  refine V.br (fun h=>?_) (fun h=>?_)
  ·(conv=>whnf)
   refine V.st ?_
   exact Fin.tup ⟨Fin.nil _,Fin.nil _,Fin.of rfl,trivial⟩
  ·simp at h
 | true=>
  have hG:=jbv hg
  obtain⟨w,rfl⟩:∃ w:Nat,out=w:=⟨out.toNat,by omega⟩
  obtain⟨ns,hn0,hn1,hn2⟩:=nz_of hG.2.2.2.2.1
  have hprod:prod size=(PR ns:Nat):=by rw[hn0,jeH]
  have hdl:data.length=PR ns*w:=by
   have:=hG.2.2.2.2.2.2.1
   rw[hprod,← jiM] at this
   omega
  have e1:=rl_mst (lt:=fun a b=>decide (a<b)) hdl (by omega) (PR ns) (jiD _)
  have e2:=rl_mst (lt:=fun a b=>decide (a>b)) hdl (by omega) (PR ns) (jiD _)
  rw[← hdl] at e1 e2
  have m1:=most_c size w data 53 (fun a b=>decide (a<b)) hg lt_c (fun a=>by simp)
  have m2:=most_c size w data 54 (fun a b=>decide (a>b)) hg gt_c (fun a=>by simp)
  rw[hn1,← e1] at m1
  rw[hn1,← e2] at m2
  refine V.br (fun h=>?_) (fun h=>?_)
  ·simp at h
  (conv=>whnf)
  refine V.st ?_
  repeat ((try ((with_reducible refine .ext ?_);(conv=>whnf)));(with_reducible refine jaa (r:=?_) ?_ ?_);rotate_left;(focus (first|exact(tpoints_c _ _ _)|exact(m1)|exact(m2)));(conv=>whnf);refine V.st ?_)
  exact Fin.of rfl
theorem pzf (ns:List Nat)(x:List Int)(p:Int):x.length=ns.length→((nz ns).zip x).foldl (fun p a=>p*a.1+a.2) p=p*(PR ns:Int)+pz ((nz ns).zip x):=by
 induction ns generalizing x p with
 | nil=>intro _;simp[pz,nz,PR]
 | cons n r ih=>
  intro hl
  cases x with
  | nil=>simp at hl
  | cons a s=>
   have hl':s.length=r.length:=by simpa using hl
   simp only[nz,List.map_cons,List.zip_cons_cons,List.foldl_cons,pz,PR]
   have e1:=ih s (p*(n:Int)+a) hl'
   have e2:=ih s (0*(n:Int)+a) hl'
   simp only[nz] at e1 e2
   rw[e1,e2]
   simp only[jiM,jiX,jiP,Int.zero_mul,Int.zero_add]
   omega
theorem pz_cons (n:Nat)(r:List Nat)(a:Int)(s:List Int)(h:s.length=r.length):pz ((nz (n::r)).zip (a::s))=a*(PR r:Int)+pz ((nz r).zip s):=by
 have:=pzf r s a h
 unfold pz at this ⊢
 simp only[nz,List.map_cons,List.zip_cons_cons,List.foldl_cons,Int.zero_mul,Int.zero_add] at this ⊢
 exact this
theorem ixl_pz:∀ (ns:List Nat) (x:List Int),okIdx (nz ns) x=true→(0≤pz ((nz ns).zip x)∧pz ((nz ns).zip x)<PR ns)∧ixl ns (pz ((nz ns).zip x)).toNat=x
 | [],x,h=>by
  have h1:=(jbA.1 h).1
  simp[nz] at h1
  subst h1
  simp[pz,nz,PR,ixl]
 | n::r,[],h=>by
  have h1:=(jbA.1 h).1
  simp[nz] at h1
 | n::r,a::s,h=>by
  obtain⟨h1,h2⟩:=jbA.1 h
  have hl:s.length=r.length:=by simpa [nz] using h1
  have ha:=h2 0 n a (by simp[nz]) rfl
  have hr:okIdx (nz r) s=true:=jbA.2 ⟨by simpa [nz] using hl,fun k n' x' g1 g2=>h2 (k+1) n' x' (by simpa [nz] using g1) (by simpa using g2)⟩
  obtain⟨⟨i1,i2⟩,i3⟩:=ixl_pz r s hr
  rw[pz_cons n r a s hl]
  have hpos:∀ y∈r,0<y:=fun y hy=>by
   obtain⟨k,hk⟩:=List.getElem?_of_mem hy
   have hk2:k<s.length:=by have:=(jje.1 hk).1;omega
   have:=h2 (k+1) y s[k] (by simp[nz,hk]) (by simp[hk2])
   omega
  have hP:=jfp hpos
  generalize pz ((nz r).zip s)=q at *
  obtain⟨q,rfl⟩:∃ m:Nat,q=m:=⟨q.toNat,by omega⟩
  obtain⟨a,rfl⟩:∃ m:Nat,a=m:=⟨a.toNat,by omega⟩
  have e:((a:Int)*(PR r:Int)+(q:Int))=((a*PR r+q:Nat):Int):=by simp
  have hq:q<PR r:=by omega
  have han:a<n:=by omega
  rw[e,jiC] at *
  refine⟨⟨by omega,?_⟩,?_⟩
  ·have:a*PR r+q<(a+1)*PR r:=by rw[Nat.add_mul];omega
   have h5:(a+1)*PR r≤n*PR r:=Nat.mul_le_mul_right _ han
   rw[PR]
   omega
  ·have e1:(a*PR r+q)/PR r=a:=by
    rw[jiF,Nat.mul_add_div hP,Nat.div_eq_of_lt hq,Nat.add_zero]
   have e2:ixl r (a*PR r+q)=s:=by
    rw[← jhL r hpos,jiF,Nat.mul_add_mod,jhL r hpos]
    exact i3
   simp only[ixl,e1,e2,jiG han]
structure Ord (lt:Int→Int→Bool):Prop where
 irr:∀ a,lt a a=false
 tr:∀ a b c,lt b a=false→lt c b=false→lt c a=false
 anti:∀ a b,lt a b=false→lt b a=false→a=b
 asym:∀ a b,lt a b=true→lt b a=false
theorem ord_lt:Ord fun a b=>decide (a<b):=⟨fun a=>by simp,fun a b c h1 h2=>by simp at *; omega,fun a b h1 h2=>by simp at *; omega,fun a b h=>by simp at *; omega⟩
theorem ord_gt:Ord fun a b=>decide (a>b):=⟨fun a=>by simp,fun a b c h1 h2=>by simp at *; omega,fun a b h1 h2=>by simp at *; omega,fun a b h=>by simp at *; omega⟩
def col (data:List Int)(w m k:Nat):Int:=(slot data ((m*w:Nat):Int) w).getD k 0
theorem updGet {lt:Int→Int→Bool}{o v:List Int}{k:Nat}(h1:k<o.length)(h2:k<v.length):(upd lt o v).getD k 0=if lt (v.getD k 0) (o.getD k 0) then v.getD k 0 else o.getD k 0:=by
 unfold upd
 simp[ji5,List.getElem?_zipWith,h1,h2]
theorem mst_spec {lt:Int→Int→Bool}(O:Ord lt){data:List Int}{w n:Nat}(h:data.length=n*w){k:Nat}(hk:k<w):∀ m,m≤n→0<n →
  (∀ j,j<m→lt (col data w j k) ((mst lt data w m).getD k 0)=false) ∧ ∃ j,j<max m 1∧(mst lt data w m).getD k 0=col data w j k:=by
 intro m
 induction m with
 | zero=>intro _ _;exact⟨fun j hj=>by omega,0,by omega,by simp[mst,col]⟩
 | succ m ih=>
  intro hm hn
  obtain⟨h1,j,hj,h2⟩:=ih (by omega) hn
  have hl1:=jcR (lt:=lt) h (by omega:m≤n) hn
  have hl2:=jgL h (by omega:m<n)
  have hu:=updGet (lt:=lt) (o:=mst lt data w m) (v:=slot data ((m*w:Nat):Int) w) (k:=k) (by omega) (by omega)
  have hc:(slot data ((m*w:Nat):Int) w).getD k 0=col data w m k:=rfl
  rw[hc] at hu
  simp only[mst]
  rw[hu]
  cases hb:lt (col data w m k) ((mst lt data w m).getD k 0) with
  | true=>
   rw[if_pos rfl]
   refine⟨fun i hi=>?_,m,by omega,rfl⟩
   by_cases him:i=m
   ·subst him;exact O.irr _
   ·have h3:=h1 i (by omega)
    cases hc2:lt (col data w i k) (col data w m k) with
    | false=>rfl
    | true=>
     have h4:=O.asym _ _ hb
     rw[O.tr _ _ _ h4 h3] at hc2
     cases hc2
  | false=>
   rw[if_neg (by simp)]
   refine⟨fun i hi=>?_,j,by omega,h2⟩
   by_cases him:i=m
   ·subst him;exact hb
   ·exact h1 i (by omega)
def sg (ns:List Nat)(a b m:Nat):Nat:=(pz ((nz ns).zip (swp (ixl (swn ns a b) m) a b))).toNat
end Go.Proofs.YtgjgpdceghjajaaGreatDoor
end
section
namespace Go.Proofs.YtgjgpdceghjajaaGreatDoor
open Go Go.V Go.Gr Go.Nb
theorem nz_ofz {zs:List Int}(h:∀ z∈zs,0≤z):nz (zs.map Int.toNat)=zs:=by
 unfold nz
 rw[List.map_map]
 conv=>rhs;rw[← List.map_id zs]
 exact List.map_congr_left fun z hz=>jiB (h z hz)
def loL (out:Int)(data:List Int):List Int:=rl (fun a b=>decide (a<b)) data out.toNat data.length
def hiL (out:Int)(data:List Int):List Int:=rl (fun a b=>decide (a>b)) data out.toNat data.length
theorem jgO {zs:List Int}{out:Int}{data:List Int}(hg:jaj zs out data=true):data.length=PR (zs.map Int.toNat)*out.toNat∧0<PR (zs.map Int.toNat)∧(loL out data).length=out.toNat∧(hiL out data).length=out.toNat:=by
 have og:=jap hg
 have e:=nz_ofz (zs:=zs) fun z hz=>by have:=og.2.1 z hz;omega
 have p:=jeH (zs.map Int.toNat)
 rw[e] at p
 have h1:(data.length:Int)=((PR (zs.map Int.toNat)*out.toNat:Nat):Int):=by
  rw[og.2.2.1.2,p,jiM,jiB (by omega)]
 have h2:data.length=PR (zs.map Int.toNat)*out.toNat:=by exact_mod_cast h1
 have h3:0<PR (zs.map Int.toNat):=by
  have:∀ l:List Int,(∀ z∈l,2≤z∧z≤9)→0<prod l:=fun l hl=>by
   have g:∀ (l:List Int) (a:Int),0<a→(∀ z∈l,2≤z∧z≤9)→0<l.foldl (· * ·) a:=by
    intro l
    induction l with
    | nil=>exact fun a ha _=>ha
    | cons z l ih=>exact fun a ha hz=>ih (a*z) (Int.mul_pos ha (by have:=hz z (List.mem_cons_self ..);omega)) fun y hy=>hz y (List.mem_cons_of_mem _ hy)
   exact g l 1 (by decide) hl
  have:=this zs og.2.1
  omega
 have h4:out.toNat≤data.length:=by
  rw[h2]
  exact Nat.le_mul_of_pos_left _ h3
 exact⟨h2,h3,jeB h4 _,jeB h4 _⟩
theorem col_bd {data:List Int}(h:∀ v∈data,0≤v∧v≤65535)(w m k:Nat):0≤col data w m k∧col data w m k≤65535:=jbM h _ _ _
theorem jbl {zs:List Int}{out:Int}{data:List Int}(hg:jaj zs out data=true){j:Nat}(hj:j<out.toNat) :
  (0≤(loL out data).getD j 0∧(loL out data).getD j 0≤65535)∧(0≤(hiL out data).getD j 0∧(hiL out data).getD j 0≤65535) ∧
  ∀ xs,okIdx zs xs=true→(loL out data).getD j 0≤(slot data (pz (zs.zip xs)*out) out).getD j 0∧(slot data (pz (zs.zip xs)*out) out).getD j 0≤(hiL out data).getD j 0:=by
 have og:=jap hg
 have r:=jgO hg
 have s1:=mst_spec ord_lt r.1 hj (PR (zs.map Int.toNat)) (jiD _) r.2.1
 have s2:=mst_spec ord_gt r.1 hj (PR (zs.map Int.toNat)) (jiD _) r.2.1
 have e1:=rl_mst (lt:=fun a b=>decide (a<b)) r.1 (by omega) (PR (zs.map Int.toNat)) (jiD _)
 have e2:=rl_mst (lt:=fun a b=>decide (a>b)) r.1 (by omega) (PR (zs.map Int.toNat)) (jiD _)
 rw[← r.1] at e1 e2
 rw[← e1] at s1
 rw[← e2] at s2
 refine⟨?_,?_,fun xs hx=>?_⟩
 ·obtain⟨_,m,_,e⟩:=s1
  show 0≤(rl _ data out.toNat data.length).getD j 0∧(rl _ data out.toNat data.length).getD j 0≤65535
  rw[e]
  exact col_bd og.2.2.2 _ _ _
 ·obtain⟨_,m,_,e⟩:=s2
  show 0≤(rl _ data out.toNat data.length).getD j 0∧(rl _ data out.toNat data.length).getD j 0≤65535
  rw[e]
  exact col_bd og.2.2.2 _ _ _
 ·have e:=nz_ofz (zs:=zs) fun z hz=>by have:=og.2.1 z hz;omega
  have ip:=ixl_pz (zs.map Int.toNat) xs (by rw[e];exact hx)
  rw[e] at ip
  have em:pz (zs.zip xs)*out=(((pz (zs.zip xs)).toNat*out.toNat:Nat):Int):=by
   rw[jiM,jiB ip.1.1,jiB (by omega)]
  have hm:(pz (zs.zip xs)).toNat<PR (zs.map Int.toNat):=by omega
  have a1:=s1.1 _ hm
  have a2:=s2.1 _ hm
  have ec:(slot data (pz (zs.zip xs)*out) out).getD j 0=col data out.toNat (pz (zs.zip xs)).toNat j:=by
   unfold col
   rw[em,show ((out.toNat:Nat):Int)=out from by omega]
  rw[ec]
  simp only[decide_eq_false_iff_not] at a1 a2
  unfold loL hiL
  omega
theorem jbt {zs:List Int}{out:Int}{data:List Int}(hg:jaj zs out data=true)(hl:zs.length≤4):Cl 25 [gridD zs out data] (.tup [.ints .i64 (loL out data),.ints .i64 (hiL out data),.int .i64 0]):=by
 have og:=jap hg
 have c:=range_c zs out data (by omega) (by omega)
 rw[hg] at c
 exact c
end Go.Proofs.YtgjgpdceghjajaaGreatDoor
end
