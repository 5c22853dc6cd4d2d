/- What functions of the program answer at given values, part 12. Conditions: those that each theorem names. -/
import Derived.Test.YtgjgpdceghjajaaGreatDoorSimplexWithinH11
import Derived.Test.YtgjgpdceghjajaaGreatDoorSimplexWithinH6
import Derived.Test.YtgjgpdceghjajaaGreatDoorSimplexWithinH7
set_option linter.unusedSimpArgs false
set_option linter.unusedVariables false
set_option maxHeartbeats 8000000
set_option maxRecDepth 100000
section
namespace Go.Proofs.YtgjgpdceghjajaaGreatDoor
open Go Go.V Go.Nb
theorem xd1:((1:Int)-1).toNat=0:=rfl
theorem xd2:((2:Int)-1).toNat=1:=rfl
theorem xd3:((3:Int)-1).toNat=2:=rfl
def atK (a:List Int)(xs:List Int):Nat→List Int
 | 0=>a
 | k+1=>(atK a xs k).set (xs.getD k 0).toNat ((atK a xs k).getD (xs.getD k 0).toNat 0+1)
theorem ja1 (a xs:List Int):∀ k,a.length=4→(atK a xs k).length=4
 | 0,h=>h
 | k+1,h=>by simp only[atK];rw[jjo];exact ja1 a xs k h
def atS (a xs:List Int):Nat→List Int
 | 0=>a
 | k+1=>atK a xs k
def wcv:Nat→D
 | 0 => .nil
 | k+1 => .bsl 109 0 (k+1) 2
def pcv:Nat→D
 | 0 => .nil
 | k+1 => .bsl 113 0 (k+1) 1
def pce (U:Nat→List Int):Nat→List D
 | 0=>[]
 | k+1=>pce U k++[.ints .i64 (U k)]
def tlv (W:Nat→Tx)(U:Nat→List Int):Nat→Hp
 | 0=>[]
 | k+1=>[(109,.box (wce W (k+1))),(113,.box (pce U (k+1)))]
theorem point1_t (z0 b0 out:Int)(data xs at' v:List Int)(W:Nat→Tx)(hl:at'.length=4)(ga:Cl 20 [.agg [.ints .i64 [z0],.int .i64 out,.ints .i64 data],.ints .i64 (at'.take 1)] (.tup [.ints .i64 v,.int .i64 0])) :
  Cl 80 [.agg [.ints .i64 [z0],.int .i64 out,.ints .i64 data,.ints .i64 [b0],.ints .i64 xs,V.sl2 2 [.str (W 0).1,.str (W 0).2,.str (W 1).1,.str (W 1).2]],.iarr .i64 at'] (.tup [.ints .i64 v,.int .i64 0]):=by
 obtain⟨a0,a1,a2,a3,rfl⟩:∃ a0 a1 a2 a3:Int,at'=[a0,a1,a2,a3]:=by
  match at',hl with
  | [a0,a1,a2,a3],_=>exact⟨a0,a1,a2,a3,rfl⟩
 refine V.en tbOk Tryz.func80 ?_
 refine V.r0 @jiA ?_
 refine⟨Pq25z,[],V.pok,?_⟩
 refine jab [(3,.any),(4,.ints .i64 v),(5,.int .i64 0)] [(3,.gone)] ?_ ?_
 ·exact V.d1 @jiA ga
 refine V.r0 @jiA ?_
 exact Fin.of rfl
theorem corners1_t (z0 b0 out:Int)(data xs:List Int)(W:Nat→Tx):Cl 81 [.agg [.ints .i64 [z0],.int .i64 out,.ints .i64 data,.ints .i64 [b0],.ints .i64 xs,V.sl2 2 [.str (W 0).1,.str (W 0).2,.str (W 1).1,.str (W 1).2]]] (.fn 128 [] [.ref [.ints .i64 [z0],.int .i64 out,.ints .i64 data,.ints .i64 [b0],.ints .i64 xs,V.sl2 2 [.str (W 0).1,.str (W 0).2,.str (W 1).1,.str (W 1).2]]]):=by
 refine V.en tbOk Tryz.func81 ?_
 refine V.r0 @jiA ?_
 exact Fin.of rfl
theorem jiq:type_of% @jiA∧type_of% @tn0∧type_of% @tn1∧type_of% @tn2∧type_of% @tn3∧type_of% @xd1∧type_of% @xd2∧type_of% @xd3∧type_of% @xt4:=⟨@jiA,@tn0,@tn1,@tn2,@tn3,@xd1,@xd2,@xd3,@xt4⟩
theorem value1_t (z0 b0 out:Int)(data xs:List Int)(W:Nat→Tx)(U:Nat→List Int)(Y:Nat→List D)(e0:Nat)(hl:xs.length=1)(hx:∀ k,k<1→0≤xs.getD k 0∧xs.getD k 0<4)(hi:∀ k,k<1→InR .i64 ((atK [b0,0,0,0] xs k).getD (xs.getD k 0).toNat 0+1))
  (pt:∀ k,k<2→Cl 80 [.agg [.ints .i64 [z0],.int .i64 out,.ints .i64 data,.ints .i64 [b0],.ints .i64 xs,V.sl2 2 [.str (W 0).1,.str (W 0).2,.str (W 1).1,.str (W 1).2]],.iarr .i64 (atK [b0,0,0,0] xs k)] (.tup [.ints .i64 (U k),.int .i64 0]))
  (li:Cl 82 [.int .i64 out,.fn 83 [] [.ref [.slf 1 2 (fun j=>List.take 1 (List.drop (j*1) [.ints .i64 (U 0),.ints .i64 (U 1)]))],.ref [V.sl2 2 [.str (W 0).1,.str (W 0).2,.str (W 1).1,.str (W 1).2]]]] (.tup [.slf 2 e0 Y,.int .i64 0])) :
  Cl 45 [.agg [.ints .i64 [z0],.int .i64 out,.ints .i64 data,.ints .i64 [b0],.ints .i64 xs,V.sl2 2 [.str (W 0).1,.str (W 0).2,.str (W 1).1,.str (W 1).2]]] (.tup [.slf 2 e0 Y,.int .i64 0]):=by
 have co:=corners1_t z0 b0 out data xs W
 refine V.en tbOk Tryz.func45 ?_
 refine V.r1 @jiA co ?_
 refine⟨_,_,⟨Tryz.func128,rfl,rfl,jiu rfl⟩,?_⟩
 refine V.r0 @jiA ?_
 refine⟨(V.tk [0,1,2] (V.e1 3 [] .done)),[],V.pok,?_⟩
 refine jab [] [(47,.arr .i64 [b0,0,0,0])] ?_ ?_
 ·exact V.d0 @jiA
 refine V.r0 @jiA ?_
 refine jac 0 (fun k=>k≤2) (fun k=>2-k) (fun k=>[(13,.int .i64 k)]) (fun k=>(43,.lp none)::(47,.arr .i64 (atS [b0,0,0,0] xs k))::(5,.box [wcv k])::(6,.box [pcv k])::(7,.box [.int .i64 0])::tlv W U k) ?_ ?_ ?_
 ·exact V.wk
 ·exact jiv _
 intro k hk
 have hk4:k=0∨k=1∨k=2:=by omega
 rcases hk4 with e|e|e
 all_goals subst e
 ·simp only[k0,atS,wcv,pcv,tlv]
  have p:=pt 0 (by omega)
  simp only[atK] at p
  refine V.r1 jiq p ?_
  exact⟨1,by omega,by omega,V.wk⟩
 ·simp only[k1,atS,wcv,pcv,tlv]
  have p:=pt 1 (by omega)
  have g:=hx 0 (by omega)
  have h:=hi 0 (by omega)
  have l4:=ja1 [b0,0,0,0] xs 0 rfl
  have l5:=ja1 [b0,0,0,0] xs 1 rfl
  simp only[atK] at p h l4 l5 ⊢
  refine V.r1 jiq p ?_
  exact⟨2,by omega,by omega,V.wk⟩
 ·simp only[k2,atS,wcv,pcv,tlv]
  (conv=>whnf)
  repeat ((fail_if_success (with_reducible refine Cnd.split ?_));refine V.s1 ?_;(try simp only[jiA]))
  refine V.s1 ?_
  (conv=>whnf)
  repeat ((fail_if_success (with_reducible refine Cnd.split ?_));refine V.s1 ?_;(try simp only[jiA]))
  refine ja9 [(5,.ref [V.sl2 2 [.str (W 0).1,.str (W 0).2,.str (W 1).1,.str (W 1).2]]),(6,.ref [.slf 1 2 (fun j=>List.take 1 (List.drop (j*1) [.ints .i64 (U 0),.ints .i64 (U 1)]))])] [(5,.gone),(6,.gone),(109,.gone),(113,.gone)] (CondB.mk (fun h=>absurd h (by decide)) (fun _=>?_)) ?_
  ·(conv=>whnf)
   refine Wk.pub 109 ?_
   (conv=>whnf)
   refine Wk.pub 113 ?_
   (conv=>whnf)
   refine Wk.pub 5 ?_
   (conv=>whnf)
   refine Wk.pub 6 ?_
   (conv=>whnf)
   simp only[jiA]
   exact V.wk
  refine V.r1 @jiA li ?_
  exact Fin.of rfl
theorem point2_t (z0 z1 b0 b1 out:Int)(data xs at' v:List Int)(W:Nat→Tx)(hl:at'.length=4)(ga:Cl 20 [.agg [.ints .i64 [z0,z1],.int .i64 out,.ints .i64 data],.ints .i64 (at'.take 2)] (.tup [.ints .i64 v,.int .i64 0])) :
  Cl 80 [.agg [.ints .i64 [z0,z1],.int .i64 out,.ints .i64 data,.ints .i64 [b0,b1],.ints .i64 xs,V.sl2 3 [.str (W 0).1,.str (W 0).2,.str (W 1).1,.str (W 1).2,.str (W 2).1,.str (W 2).2]],.iarr .i64 at'] (.tup [.ints .i64 v,.int .i64 0]):=by
 obtain⟨a0,a1,a2,a3,rfl⟩:∃ a0 a1 a2 a3:Int,at'=[a0,a1,a2,a3]:=by
  match at',hl with
  | [a0,a1,a2,a3],_=>exact⟨a0,a1,a2,a3,rfl⟩
 refine V.en tbOk Tryz.func80 ?_
 refine V.r0 @jiA ?_
 refine⟨Pq25z,[],V.pok,?_⟩
 refine jab [(3,.any),(4,.ints .i64 v),(5,.int .i64 0)] [(3,.gone)] ?_ ?_
 ·exact V.d1 @jiA ga
 refine V.r0 @jiA ?_
 exact Fin.of rfl
theorem corners2_t (z0 z1 b0 b1 out:Int)(data xs:List Int)(W:Nat→Tx):Cl 81 [.agg [.ints .i64 [z0,z1],.int .i64 out,.ints .i64 data,.ints .i64 [b0,b1],.ints .i64 xs,V.sl2 3 [.str (W 0).1,.str (W 0).2,.str (W 1).1,.str (W 1).2,.str (W 2).1,.str (W 2).2]]] (.fn 128 [] [.ref [.ints .i64 [z0,z1],.int .i64 out,.ints .i64 data,.ints .i64 [b0,b1],.ints .i64 xs,V.sl2 3 [.str (W 0).1,.str (W 0).2,.str (W 1).1,.str (W 1).2,.str (W 2).1,.str (W 2).2]]]):=by
 refine V.en tbOk Tryz.func81 ?_
 refine V.r0 @jiA ?_
 exact Fin.of rfl
theorem value2_t (z0 z1 b0 b1 out:Int)(data xs:List Int)(W:Nat→Tx)(U:Nat→List Int)(Y:Nat→List D)(e0:Nat)(hl:xs.length=2)(hx:∀ k,k<2→0≤xs.getD k 0∧xs.getD k 0<4)(hi:∀ k,k<2→InR .i64 ((atK [b0,b1,0,0] xs k).getD (xs.getD k 0).toNat 0+1))
  (pt:∀ k,k<3→Cl 80 [.agg [.ints .i64 [z0,z1],.int .i64 out,.ints .i64 data,.ints .i64 [b0,b1],.ints .i64 xs,V.sl2 3 [.str (W 0).1,.str (W 0).2,.str (W 1).1,.str (W 1).2,.str (W 2).1,.str (W 2).2]],.iarr .i64 (atK [b0,b1,0,0] xs k)] (.tup [.ints .i64 (U k),.int .i64 0]))
  (li:Cl 82 [.int .i64 out,.fn 83 [] [.ref [.slf 1 3 (fun j=>List.take 1 (List.drop (j*1) [.ints .i64 (U 0),.ints .i64 (U 1),.ints .i64 (U 2)]))],.ref [V.sl2 3 [.str (W 0).1,.str (W 0).2,.str (W 1).1,.str (W 1).2,.str (W 2).1,.str (W 2).2]]]] (.tup [.slf 2 e0 Y,.int .i64 0])) :
  Cl 45 [.agg [.ints .i64 [z0,z1],.int .i64 out,.ints .i64 data,.ints .i64 [b0,b1],.ints .i64 xs,V.sl2 3 [.str (W 0).1,.str (W 0).2,.str (W 1).1,.str (W 1).2,.str (W 2).1,.str (W 2).2]]] (.tup [.slf 2 e0 Y,.int .i64 0]):=by
 have co:=corners2_t z0 z1 b0 b1 out data xs W
 refine V.en tbOk Tryz.func45 ?_
 refine V.r1 @jiA co ?_
 refine⟨_,_,⟨Tryz.func128,rfl,rfl,jiu rfl⟩,?_⟩
 refine V.r0 @jiA ?_
 refine⟨(V.tk [0,1,2] (V.e1 3 [] .done)),[],V.pok,?_⟩
 refine jab [] [(47,.arr .i64 [b0,b1,0,0])] ?_ ?_
 ·exact V.d0 @jiA
 refine V.r0 @jiA ?_
 refine jac 0 (fun k=>k≤3) (fun k=>3-k) (fun k=>[(13,.int .i64 k)]) (fun k=>(43,.lp none)::(47,.arr .i64 (atS [b0,b1,0,0] xs k))::(5,.box [wcv k])::(6,.box [pcv k])::(7,.box [.int .i64 0])::tlv W U k) ?_ ?_ ?_
 ·exact V.wk
 ·exact jiv _
 intro k hk
 have hk4:k=0∨k=1∨k=2∨k=3:=by omega
 rcases hk4 with e|e|e|e
 all_goals subst e
 ·simp only[k0,atS,wcv,pcv,tlv]
  have p:=pt 0 (by omega)
  simp only[atK] at p
  refine V.r1 jiq p ?_
  exact⟨1,by omega,by omega,V.wk⟩
 ·simp only[k1,atS,wcv,pcv,tlv]
  have p:=pt 1 (by omega)
  have g:=hx 0 (by omega)
  have h:=hi 0 (by omega)
  have l4:=ja1 [b0,b1,0,0] xs 0 rfl
  have l5:=ja1 [b0,b1,0,0] xs 1 rfl
  simp only[atK] at p h l4 l5 ⊢
  refine V.r1 jiq p ?_
  exact⟨2,by omega,by omega,V.wk⟩
 ·simp only[k2,atS,wcv,pcv,tlv]
  have p:=pt 2 (by omega)
  have g:=hx 1 (by omega)
  have h:=hi 1 (by omega)
  have l4:=ja1 [b0,b1,0,0] xs 1 rfl
  have l5:=ja1 [b0,b1,0,0] xs 2 rfl
  simp only[atK] at p h l4 l5 ⊢
  refine V.r1 jiq p ?_
  exact⟨3,by omega,by omega,V.wk⟩
 ·simp only[k3,atS,wcv,pcv,tlv]
  (conv=>whnf)
  repeat ((fail_if_success (with_reducible refine Cnd.split ?_));refine V.s1 ?_;(try simp only[jiA]))
  refine V.s1 ?_
  (conv=>whnf)
  repeat ((fail_if_success (with_reducible refine Cnd.split ?_));refine V.s1 ?_;(try simp only[jiA]))
  refine ja9 [(5,.ref [V.sl2 3 [.str (W 0).1,.str (W 0).2,.str (W 1).1,.str (W 1).2,.str (W 2).1,.str (W 2).2]]),(6,.ref [.slf 1 3 (fun j=>List.take 1 (List.drop (j*1) [.ints .i64 (U 0),.ints .i64 (U 1),.ints .i64 (U 2)]))])] [(5,.gone),(6,.gone),(109,.gone),(113,.gone)] (CondB.mk (fun h=>absurd h (by decide)) (fun _=>?_)) ?_
  ·(conv=>whnf)
   refine Wk.pub 109 ?_
   (conv=>whnf)
   refine Wk.pub 113 ?_
   (conv=>whnf)
   refine Wk.pub 5 ?_
   (conv=>whnf)
   refine Wk.pub 6 ?_
   (conv=>whnf)
   simp only[jiA]
   exact V.wk
  refine V.r1 @jiA li ?_
  exact Fin.of rfl
theorem point3_t (z0 z1 z2 b0 b1 b2 out:Int)(data xs at' v:List Int)(W:Nat→Tx)(hl:at'.length=4)(ga:Cl 20 [.agg [.ints .i64 [z0,z1,z2],.int .i64 out,.ints .i64 data],.ints .i64 (at'.take 3)] (.tup [.ints .i64 v,.int .i64 0])) :
  Cl 80 [.agg [.ints .i64 [z0,z1,z2],.int .i64 out,.ints .i64 data,.ints .i64 [b0,b1,b2],.ints .i64 xs,V.sl2 4 [.str (W 0).1,.str (W 0).2,.str (W 1).1,.str (W 1).2,.str (W 2).1,.str (W 2).2,.str (W 3).1,.str (W 3).2]],.iarr .i64 at'] (.tup [.ints .i64 v,.int .i64 0]):=by
 obtain⟨a0,a1,a2,a3,rfl⟩:∃ a0 a1 a2 a3:Int,at'=[a0,a1,a2,a3]:=by
  match at',hl with
  | [a0,a1,a2,a3],_=>exact⟨a0,a1,a2,a3,rfl⟩
 refine V.en tbOk Tryz.func80 ?_
 refine V.r0 @jiA ?_
 refine⟨Pq25z,[],V.pok,?_⟩
 refine jab [(3,.any),(4,.ints .i64 v),(5,.int .i64 0)] [(3,.gone)] ?_ ?_
 ·exact V.d1 @jiA ga
 refine V.r0 @jiA ?_
 exact Fin.of rfl
theorem corners3_t (z0 z1 z2 b0 b1 b2 out:Int)(data xs:List Int)(W:Nat→Tx):Cl 81 [.agg [.ints .i64 [z0,z1,z2],.int .i64 out,.ints .i64 data,.ints .i64 [b0,b1,b2],.ints .i64 xs,V.sl2 4 [.str (W 0).1,.str (W 0).2,.str (W 1).1,.str (W 1).2,.str (W 2).1,.str (W 2).2,.str (W 3).1,.str (W 3).2]]] (.fn 128 [] [.ref [.ints .i64 [z0,z1,z2],.int .i64 out,.ints .i64 data,.ints .i64 [b0,b1,b2],.ints .i64 xs,V.sl2 4 [.str (W 0).1,.str (W 0).2,.str (W 1).1,.str (W 1).2,.str (W 2).1,.str (W 2).2,.str (W 3).1,.str (W 3).2]]]):=by
 refine V.en tbOk Tryz.func81 ?_
 refine V.r0 @jiA ?_
 exact Fin.of rfl
theorem value3_t (z0 z1 z2 b0 b1 b2 out:Int)(data xs:List Int)(W:Nat→Tx)(U:Nat→List Int)(Y:Nat→List D)(e0:Nat)(hl:xs.length=3)(hx:∀ k,k<3→0≤xs.getD k 0∧xs.getD k 0<4)(hi:∀ k,k<3→InR .i64 ((atK [b0,b1,b2,0] xs k).getD (xs.getD k 0).toNat 0+1))
  (pt:∀ k,k<4→Cl 80 [.agg [.ints .i64 [z0,z1,z2],.int .i64 out,.ints .i64 data,.ints .i64 [b0,b1,b2],.ints .i64 xs,V.sl2 4 [.str (W 0).1,.str (W 0).2,.str (W 1).1,.str (W 1).2,.str (W 2).1,.str (W 2).2,.str (W 3).1,.str (W 3).2]],.iarr .i64 (atK [b0,b1,b2,0] xs k)] (.tup [.ints .i64 (U k),.int .i64 0]))
  (li:Cl 82 [.int .i64 out,.fn 83 [] [.ref [.slf 1 4 (fun j=>List.take 1 (List.drop (j*1) [.ints .i64 (U 0),.ints .i64 (U 1),.ints .i64 (U 2),.ints .i64 (U 3)]))],.ref [V.sl2 4 [.str (W 0).1,.str (W 0).2,.str (W 1).1,.str (W 1).2,.str (W 2).1,.str (W 2).2,.str (W 3).1,.str (W 3).2]]]] (.tup [.slf 2 e0 Y,.int .i64 0])) :
  Cl 45 [.agg [.ints .i64 [z0,z1,z2],.int .i64 out,.ints .i64 data,.ints .i64 [b0,b1,b2],.ints .i64 xs,V.sl2 4 [.str (W 0).1,.str (W 0).2,.str (W 1).1,.str (W 1).2,.str (W 2).1,.str (W 2).2,.str (W 3).1,.str (W 3).2]]] (.tup [.slf 2 e0 Y,.int .i64 0]):=by
 have co:=corners3_t z0 z1 z2 b0 b1 b2 out data xs W
 refine V.en tbOk Tryz.func45 ?_
 refine V.r1 @jiA co ?_
 refine⟨_,_,⟨Tryz.func128,rfl,rfl,jiu rfl⟩,?_⟩
 refine V.r0 @jiA ?_
 refine⟨(V.tk [0,1,2] (V.e1 3 [] .done)),[],V.pok,?_⟩
 refine jab [] [(47,.arr .i64 [b0,b1,b2,0])] ?_ ?_
 ·exact V.d0 @jiA
 refine V.r0 @jiA ?_
 refine jac 0 (fun k=>k≤4) (fun k=>4-k) (fun k=>[(13,.int .i64 k)]) (fun k=>(43,.lp none)::(47,.arr .i64 (atS [b0,b1,b2,0] xs k))::(5,.box [wcv k])::(6,.box [pcv k])::(7,.box [.int .i64 0])::tlv W U k) ?_ ?_ ?_
 ·exact V.wk
 ·exact jiv _
 intro k hk
 have hk4:k=0∨k=1∨k=2∨k=3∨k=4:=by omega
 rcases hk4 with e|e|e|e|e
 all_goals subst e
 ·simp only[k0,atS,wcv,pcv,tlv]
  have p:=pt 0 (by omega)
  simp only[atK] at p
  refine V.r1 jiq p ?_
  exact⟨1,by omega,by omega,V.wk⟩
 ·simp only[k1,atS,wcv,pcv,tlv]
  have p:=pt 1 (by omega)
  have g:=hx 0 (by omega)
  have h:=hi 0 (by omega)
  have l4:=ja1 [b0,b1,b2,0] xs 0 rfl
  have l5:=ja1 [b0,b1,b2,0] xs 1 rfl
  simp only[atK] at p h l4 l5 ⊢
  refine V.r1 jiq p ?_
  exact⟨2,by omega,by omega,V.wk⟩
 ·simp only[k2,atS,wcv,pcv,tlv]
  have p:=pt 2 (by omega)
  have g:=hx 1 (by omega)
  have h:=hi 1 (by omega)
  have l4:=ja1 [b0,b1,b2,0] xs 1 rfl
  have l5:=ja1 [b0,b1,b2,0] xs 2 rfl
  simp only[atK] at p h l4 l5 ⊢
  refine V.r1 jiq p ?_
  exact⟨3,by omega,by omega,V.wk⟩
 ·simp only[k3,atS,wcv,pcv,tlv]
  have p:=pt 3 (by omega)
  have g:=hx 2 (by omega)
  have h:=hi 2 (by omega)
  have l4:=ja1 [b0,b1,b2,0] xs 2 rfl
  have l5:=ja1 [b0,b1,b2,0] xs 3 rfl
  simp only[atK] at p h l4 l5 ⊢
  refine V.r1 jiq p ?_
  exact⟨4,by omega,by omega,V.wk⟩
 ·simp only[xk4,atS,wcv,pcv,tlv]
  (conv=>whnf)
  repeat ((fail_if_success (with_reducible refine Cnd.split ?_));refine V.s1 ?_;(try simp only[jiA]))
  refine V.s1 ?_
  (conv=>whnf)
  repeat ((fail_if_success (with_reducible refine Cnd.split ?_));refine V.s1 ?_;(try simp only[jiA]))
  refine ja9 [(5,.ref [V.sl2 4 [.str (W 0).1,.str (W 0).2,.str (W 1).1,.str (W 1).2,.str (W 2).1,.str (W 2).2,.str (W 3).1,.str (W 3).2]]),(6,.ref [.slf 1 4 (fun j=>List.take 1 (List.drop (j*1) [.ints .i64 (U 0),.ints .i64 (U 1),.ints .i64 (U 2),.ints .i64 (U 3)]))])] [(5,.gone),(6,.gone),(109,.gone),(113,.gone)] (CondB.mk (fun h=>absurd h (by decide)) (fun _=>?_)) ?_
  ·(conv=>whnf)
   refine Wk.pub 109 ?_
   (conv=>whnf)
   refine Wk.pub 113 ?_
   (conv=>whnf)
   refine Wk.pub 5 ?_
   (conv=>whnf)
   refine Wk.pub 6 ?_
   (conv=>whnf)
   simp only[jiA]
   exact V.wk
  refine V.r1 @jiA li ?_
  exact Fin.of rfl
theorem jip:type_of% @jiA∧type_of% @tn0∧type_of% @tn1∧type_of% @tn2∧type_of% @tn3:=⟨@jiA,@tn0,@tn1,@tn2,@tn3⟩
theorem jin:type_of% @jiC∧type_of% @jiA∧type_of% @tns:=⟨@jiC,@jiA,@tns⟩
theorem zX13a_2:type_of% @jjo ∧ type_of% @jiA:=⟨@jjo,@jiA⟩
theorem find1_t (z0 out b0:Int)(data:List Int)(x0 y0 o0 o1:List UInt8)(R Bf W:Nat→Tx)
  (sp0:Cl 124 [.agg [.str x0,.str y0],.int .i64 z0] (.tup [.int .i64 b0,.agg [.str (R 0).1,.str (R 0).2],.int .i64 0]))
  (io:Cl 86 [.int .i64 1] (.agg [.str o0,.str o1])) (w:Int→Int→Int) (cm:∀ a b:Nat,a<1→b<1→Cl 126 [.int .i64 a,.int .i64 b,.ref [V.sl2 1 [.str (R 0).1,.str (R 0).2]]] (.int .i64 (w a b)))
  (hBf0:Bf 0=(o0,o1)) (hBf:∀ k,k<1→Bf (k+1)=R ((isoK w [0] (1-1)).getD k 0).toNat) (sb:∀ k,k<1→Cl 99 [.agg [.str (Bf k).1,.str (Bf k).2],.agg [.str (R ((isoK w [0] (1-1)).getD k 0).toNat).1,.str (R ((isoK w [0] (1-1)).getD k 0).toNat).2]] (.tup [.agg [.str (W k).1,.str (W k).2],.int .i64 0])) :
  Cl 79 [.agg [.ints .i64 [z0],.int .i64 out,.ints .i64 data],V.sl2 1 [.str x0,.str y0]] (.tup [.agg [.ints .i64 [z0],.int .i64 out,.ints .i64 data,.ints .i64 [b0],.ints .i64 (isoK w [0] (1-1)),V.sl2 2 [.str (W 0).1,.str (W 0).2,.str (Bf 1).1,.str (Bf 1).2]],.int .i64 0]):=by
  refine V.en tbOk Tryz.func79 ?_
  refine V.r0 @jiA ?_
  refine⟨Pq43z,[],V.pok,?_⟩
  refine jab [(6,.box 6 0),(17,.osl 17 0 1),(20,.osl 20 0 1)] [(6,.box [.ints .i64 [z0],.int .i64 out,.ints .i64 data,.osl 17 0 1,.osl 20 0 1,.nil]),(17,.arr .i64 [0]),(20,.arr .i64 [0])] ?_ ?_
  ·exact V.d0 @jiA
  refine V.r0 @jiA ?_
  refine .inl ?_
  (conv=>whnf)
  refine⟨0,_,_,⟨Tryz.func82,rfl,rfl,jiu rfl⟩,?_⟩
  refine V.r0 @jiA ?_
  refine jac (0) (fun k=>k≤1) (fun k=>1-k) (fun k=>[(14,.int .i64 k)]) (fun k=>[(88,.box (preD (2*k) [.str (R 0).1,.str (R 0).2])),(17,.arr .i64 (preZ k [b0])),(20,.arr .i64 (preZ k [0]))]) ?_ ?_ ?_
  ·exact V.wk
  ·exact jiv _
  intro k hk
  have hk4:k=0∨k=1:=by omega
  rcases hk4 with e|e
  all_goals subst e
  ·simp only[k0]
   have q1:(preZ 0 [b0]).length=1:=rfl
   have q2:(preZ 0 [0]).length=1:=rfl
   refine V.r0 jip ?_
   refine .inl ?_
   (conv=>whnf)
   refine⟨0,_,_,⟨Tryz.func123,rfl,rfl,jiu rfl⟩,?_⟩
   refine V.r0 jip ?_
   refine⟨Pq16z,[],V.pok,?_⟩
   refine jab [(8,.box 118 0),(7,.int .i64 b0),(9,.int .i64 0)] [(118,.box [.str (R 0).1,.str (R 0).2])] ?_ ?_
   ·exact V.d1 jip sp0
   refine V.r0 jip ?_
   refine⟨Pq18z,[],V.pok,?_⟩
   refine jab [] [(17,.arr .i64 (preZ 1 [b0])),(20,.arr .i64 (preZ 1 [0]))] ?_ ?_
   ·exact V.d0 jip
   refine V.r0 jip ?_
   exact⟨1,by omega,by omega,V.wk⟩
  ·simp only[k1]
   (conv=>whnf)
   repeat ((fail_if_success (with_reducible refine Cnd.split ?_));refine V.s1 ?_;(try simp only[jiA]))
   refine V.s1 ?_
   (conv=>whnf)
   repeat ((fail_if_success (with_reducible refine Cnd.split ?_));refine V.s1 ?_;(try simp only[jiA]))
   refine ja9 [(7,.ref [V.sl2 1 [.str (R 0).1,.str (R 0).2]]),(22,.any),(26,.any),(27,.any)] [(7,.gone),(88,.gone)] (CondB.mk (fun h=>absurd h (by decide)) (fun _=>?_)) ?_
   ·(conv=>whnf)
    refine Wk.pub 88 ?_
    (conv=>whnf)
    refine Wk.pub 7 ?_
    (conv=>whnf)
    simp only[jiA]
    exact V.wk
   refine V.r0 @jiA ?_
   refine .inl ?_
   (conv=>whnf)
   refine⟨0,_,_,⟨Tryz.func125,rfl,rfl,jiu rfl⟩,?_⟩
   refine V.r0 @jiA ?_
   refine .inl ?_
   (conv=>whnf)
   refine⟨0,_,_,⟨Tryz.func163,rfl,rfl,jiu rfl⟩,?_⟩
   refine V.r0 @jiA ?_
   refine jac (0) (fun k=>k=0) (fun k=>k) (fun k=>[(7,.int .i64 0),(8,.int .i64 20)]) (fun k=>[]) ?_ ?_ ?_
   ·exact V.wk
   ·rfl
   intro k hk
   refine V.r0 @jiA ?_
   refine .inl ?_
   (conv=>whnf)
   refine⟨0,_,_,⟨Tryz.func193,rfl,rfl,jiu rfl⟩,?_⟩
   refine V.r0 @jiA ?_
   refine jac (0) (fun k=>k+1≤1) (fun k=>1-k) (fun k=>[(8,.int .i64 ((k+1:Nat):Int))]) (fun k=>[(20,.arr .i64 (isoK w [0] k))]) ?_ ?_ ?_
   ·exact V.wk
   ·omega
   clear hk
   intro k hk
   have hB:=jgC w (n:=1) (xs:=[0]) ⟨rfl,fun i hi=>by
    have:i=0∨i=1∨i=2:=by omega
    rcases this with e|e|e<;>subst e<;>first|decide|omega⟩ k (by omega)
   refine V.r0 @jiA ?_
   refine V.br (fun hq=>?_) (fun hq=>?_)
   ·have hk2:k+1<1:=by simp at hq;omega
    refine V.r0 @jiA ?_
    refine jac ((k+1,isoK w [0] k):Nat×List Int) (fun s=>s.1≤k+1∧Bel 1 s.2∧insJ w s.1 s.2=isoK w [0] (k+1)) (fun s=>s.1) (fun s=>[(9,.int .i64 s.1)]) (fun s=>[(20,.arr .i64 s.2)]) ?_ ?_ ?_
    ·exact V.wk
    ·exact⟨jiD _,hB,rfl⟩
    rintro⟨j,xs⟩ ⟨h1,h2,h3⟩
    dsimp only at h1 h2 h3 ⊢
    have hl:=h2.1
    refine V.r0 @jiA ?_
    have c1:(decide ((j:Int)>0)=true)→Cl 126 [.int .i64 (xs.getD j 0),.int .i64 (xs.getD (j-1) 0),.ref [V.sl2 1 [.str (R 0).1,.str (R 0).2]]] (.int .i64 (w (xs.getD j 0) (xs.getD (j-1) 0))):=fun h=>by
     have hj:(j:Int)>0:=of_decide_eq_true h
     have g1:=h2.2 j (by omega)
     have g2:=h2.2 (j-1) (by omega)
     have c:=cm (xs.getD j 0).toNat (xs.getD (j-1) 0).toNat (by omega) (by omega)
     rw[jiB g1.1,jiB g2.1] at c
     exact c
    refine⟨Pq9z,[],V.pok,?_⟩
    refine jab [(34,.bool (decide ((j:Int)>0) && decide (w (xs.getD j 0) (xs.getD (j-1) 0)<0)))] [] ?_ ?_
    ·(conv=>whnf);(try simp only[jin])
     repeat' (first|exact V.wk|((with_reducible refine And.intro ?_ jay);(conv=>whnf);(try simp only[jin]))|((with_reducible first|refine jar ?_ ?_|refine jau ?_ ?_)<;>(conv=>whnf);(try simp only[jin]))|((first|refine V.s1 ?_|((with_reducible refine jan ?_ ?_);(focus ((conv=>whnf);(try simp only[jin]);(repeat ((first|refine V.s1 ?_|((refine⟨_,c1,?_⟩);(conv=>whnf)));(try simp only[jin])));exact⟨rfl⟩));(conv=>whnf))|((try ((with_reducible refine .ext ?_);(conv=>whnf);(try simp only[jin])));(with_reducible refine jaa (r:=?_) ?_ ?_);rotate_left;(focus (first|fail));(conv=>whnf))|((refine⟨_,c1,?_⟩);(conv=>whnf)));(try simp only[jin]))|(refine And.intro ?_ ?_<;>(conv=>whnf);(try simp only[jin])))
    refine V.r0 @jiA ?_
    refine V.br (fun hq2=>?_) (fun hq2=>?_)
    ·have hj:0<j∧w (xs.getD j 0) (xs.getD (j-1) 0)<0:=by
      rw[jit,decide_eq_true_eq,decide_eq_true_eq] at hq2
      omega
     obtain⟨i,rfl⟩:∃ i,j=i+1:=⟨j-1,by omega⟩
     rw[show i+1-1=i by omega] at hj
     have hw:=jer h2 (show i+1<1 by omega)
     have e1:((i+1:Nat):Int).toNat=i+1:=by omega
     have e2:(((i+1:Nat):Int)-1).toNat=i:=by omega
     have e3:((i+1:Nat):Int)-1=(i:Int):=by omega
     have e4:(i:Int).toNat=i:=by omega
     have h3':insJ w i ((xs.set (i+1) (xs.getD i 0)).set i (xs.getD (i+1) 0))=isoK w [0] (k+1):=by
      rw[← h3]
      simp only[insJ]
      rw[if_pos hj.2]
     refine V.r0 @jiA ?_
     refine⟨Pq6z,[],V.pok,?_⟩
     refine jab [] [(20,.arr .i64 ((xs.set (i+1) (xs.getD i 0)).set i (xs.getD (i+1) 0)))] ?_ ?_
     ·exact V.d0 (V.a5 zX13a_2 @e1 e2 e3 e4)
     refine V.r0 (V.a2 @jiA e3) ?_
     exact⟨(i,(xs.set (i+1) (xs.getD i 0)).set i (xs.getD (i+1) 0)),⟨by dsimp only;omega,hw,h3'⟩,by dsimp only;omega,V.wk⟩
    ·have hx:isoK w [0] (k+1)=xs:=by
      rw[← h3]
      cases j with
      | zero=>rfl
      | succ i=>
       simp only[insJ]
       rw[if_neg]
       intro h
       rw[Bool.and_eq_false_iff,decide_eq_false_iff_not,decide_eq_false_iff_not,show i+1-1=i by omega] at hq2
       omega
     refine V.r0 @jiA ?_
     refine⟨k+1,by omega,by omega,?_⟩
     rw[hx]
     exact V.wk
   have hk2:k+1=1:=by simp at hq;omega
   have hk3:k=1-1:=by omega
   subst hk3
   refine V.r0 @jiA ?_
   refine jac (0) (fun k=>k=0) (fun k=>k) (fun k=>[(6,.int .i64 20)]) (fun k=>[]) ?_ ?_ ?_
   ·exact V.wk
   ·rfl
   clear hk
   intro k hk
   refine V.r0 @jiA ?_
   obtain⟨xs,hxs⟩:∃ xs,isoK w [0] (1-1)=xs:=⟨_,rfl⟩
   rw[hxs] at hB ⊢
   have hl:=hB.1
   refine V.r1 @jiA io ?_
   have hr:∀ m,m<1→List.take 2 (List.drop (m*2) ([.str (R 0).1,.str (R 0).2]:List D))=[.str (R m).1,.str (R m).2]:=fun m hm=>by
    have:m=0∨m=1∨m=2:=by omega
    rcases this with e|e|e<;>subst e<;>first|rfl|omega
   have e0:=hr (xs.getD 0 0).toNat (by have:=hB.2 0 (by omega);omega)
   have g0:=hB.2 0 (by omega)
   have sb0:=sb 0 (by omega)
   have hb0:=hBf 0 (by omega)
   rw[hxs] at sb0 hb0
   have hb':(Bf 0).1=o0∧(Bf 0).2=o1:=by rw[hBf0];exact⟨rfl,rfl⟩
   refine jac 0 (fun k=>k≤1) (fun k=>1-k) (fun k=>[(41,.int .i64 k)]) (fun k=>(9,.box [.str (Bf k).1,.str (Bf k).2])::(6,.box [.ints .i64 [z0],.int .i64 out,.ints .i64 data,.osl 17 0 1,.osl 20 0 1,wcl k])::wch W k) ?_ ?_ ?_
   ·rw[hb'.1,hb'.2]
    exact V.wk
   ·exact jiv _
   clear hk
   intro k hk
   have hk4:k=0∨k=1:=by omega
   rcases hk4 with e|e
   all_goals subst e
   ·simp only[k0,wcl,wch]
    refine V.r0 jip ?_
    refine⟨Pq34z,[],V.pok,?_⟩
    refine jab [(12,.box 12 0),(13,.int .i64 0)] [(12,.box [.str (W 0).1,.str (W 0).2])] ?_ ?_
    ·(conv=>whnf);(try simp only[jiA])
     repeat' (first|exact V.wk|((with_reducible refine And.intro ?_ jay);(conv=>whnf);(try simp only[jiA]))|((with_reducible first|refine jar ?_ ?_|refine jau ?_ ?_)<;>(conv=>whnf);(try simp only[jiA]))|((first|refine V.s1 ?_|((with_reducible refine jan ?_ ?_);(focus ((conv=>whnf);(try simp only[jiA]);(repeat ((first|refine V.s1 ?_|((simp only[e0]);(conv=>whnf)));(try simp only[jiA])));exact⟨rfl⟩));(conv=>whnf))|((try ((with_reducible refine .ext ?_);(conv=>whnf);(try simp only[jiA])));(with_reducible refine jaa (r:=?_) ?_ ?_);rotate_left;(focus (first|exact(sb0)));(conv=>whnf))|((simp only[e0]);(conv=>whnf)));(try simp only[jiA]))|(refine And.intro ?_ ?_<;>(conv=>whnf);(try simp only[jiA])))
    (conv=>whnf)
    (try simp only[jiA])
    repeat ((first|refine V.s1 ?_|((try ((with_reducible refine .ext ?_);(conv=>whnf);(try simp only[jiA])));(with_reducible refine jaa (r:=?_) ?_ ?_);rotate_left;(focus (first|fail));(conv=>whnf))|((simp only[e0]);(conv=>whnf)));(try simp only[jiA]))
    refine⟨1,by omega,by omega,?_⟩
    rw[hb0]
    exact V.wk
   ·simp only[k1,wcl,wch]
    have ht:List.take 1 xs=xs:=jjj (by omega)
    refine V.r0 (V.a2 @jiA ht) ?_
    rw[← hxs]
    exact Fin.of rfl
theorem jii:type_of% @jiA∧type_of% @tn0∧type_of% @tn1∧type_of% @tn2∧type_of% @tn3:=⟨@jiA,@tn0,@tn1,@tn2,@tn3⟩
theorem jim:type_of% @jiC∧type_of% @jiA∧type_of% @tns:=⟨@jiC,@jiA,@tns⟩
theorem zX13b_2:type_of% @jjo ∧ type_of% @jiA:=⟨@jjo,@jiA⟩
theorem find2_t (z0 z1 out b0 b1:Int)(data:List Int)(x0 y0 x1 y1 o0 o1:List UInt8)(R Bf W:Nat→Tx)
  (sp0:Cl 124 [.agg [.str x0,.str y0],.int .i64 z0] (.tup [.int .i64 b0,.agg [.str (R 0).1,.str (R 0).2],.int .i64 0]))
  (sp1:Cl 124 [.agg [.str x1,.str y1],.int .i64 z1] (.tup [.int .i64 b1,.agg [.str (R 1).1,.str (R 1).2],.int .i64 0]))
  (io:Cl 86 [.int .i64 1] (.agg [.str o0,.str o1])) (w:Int→Int→Int) (cm:∀ a b:Nat,a<2→b<2→Cl 126 [.int .i64 a,.int .i64 b,.ref [V.sl2 2 [.str (R 0).1,.str (R 0).2,.str (R 1).1,.str (R 1).2]]] (.int .i64 (w a b)))
  (hBf0:Bf 0=(o0,o1)) (hBf:∀ k,k<2→Bf (k+1)=R ((isoK w [0,1] (2-1)).getD k 0).toNat) (sb:∀ k,k<2→Cl 99 [.agg [.str (Bf k).1,.str (Bf k).2],.agg [.str (R ((isoK w [0,1] (2-1)).getD k 0).toNat).1,.str (R ((isoK w [0,1] (2-1)).getD k 0).toNat).2]] (.tup [.agg [.str (W k).1,.str (W k).2],.int .i64 0])) :
  Cl 79 [.agg [.ints .i64 [z0,z1],.int .i64 out,.ints .i64 data],V.sl2 2 [.str x0,.str y0,.str x1,.str y1]] (.tup [.agg [.ints .i64 [z0,z1],.int .i64 out,.ints .i64 data,.ints .i64 [b0,b1],.ints .i64 (isoK w [0,1] (2-1)),V.sl2 3 [.str (W 0).1,.str (W 0).2,.str (W 1).1,.str (W 1).2,.str (Bf 2).1,.str (Bf 2).2]],.int .i64 0]):=by
  refine V.en tbOk Tryz.func79 ?_
  refine V.r0 @jiA ?_
  refine⟨Pq43z,[],V.pok,?_⟩
  refine jab [(6,.box 6 0),(17,.osl 17 0 2),(20,.osl 20 0 2)] [(6,.box [.ints .i64 [z0,z1],.int .i64 out,.ints .i64 data,.osl 17 0 2,.osl 20 0 2,.nil]),(17,.arr .i64 [0,0]),(20,.arr .i64 [0,0])] ?_ ?_
  ·exact V.d0 @jiA
  refine V.r0 @jiA ?_
  refine .inl ?_
  (conv=>whnf)
  refine⟨0,_,_,⟨Tryz.func82,rfl,rfl,jiu rfl⟩,?_⟩
  refine V.r0 @jiA ?_
  refine jac (0) (fun k=>k≤2) (fun k=>2-k) (fun k=>[(14,.int .i64 k)]) (fun k=>[(88,.box (preD (2*k) [.str (R 0).1,.str (R 0).2,.str (R 1).1,.str (R 1).2])),(17,.arr .i64 (preZ k [b0,b1])),(20,.arr .i64 (preZ k [0,1]))]) ?_ ?_ ?_
  ·exact V.wk
  ·exact jiv _
  intro k hk
  have hk4:k=0∨k=1∨k=2:=by omega
  rcases hk4 with e|e|e
  all_goals subst e
  ·simp only[k0]
   have q1:(preZ 0 [b0,b1]).length=2:=rfl
   have q2:(preZ 0 [0,1]).length=2:=rfl
   refine V.r0 jii ?_
   refine .inl ?_
   (conv=>whnf)
   refine⟨0,_,_,⟨Tryz.func123,rfl,rfl,jiu rfl⟩,?_⟩
   refine V.r0 jii ?_
   refine⟨Pq16z,[],V.pok,?_⟩
   refine jab [(8,.box 118 0),(7,.int .i64 b0),(9,.int .i64 0)] [(118,.box [.str (R 0).1,.str (R 0).2])] ?_ ?_
   ·exact V.d1 jii sp0
   refine V.r0 jii ?_
   refine⟨Pq18z,[],V.pok,?_⟩
   refine jab [] [(17,.arr .i64 (preZ 1 [b0,b1])),(20,.arr .i64 (preZ 1 [0,1]))] ?_ ?_
   ·exact V.d0 jii
   refine V.r0 jii ?_
   exact⟨1,by omega,by omega,V.wk⟩
  ·simp only[k1]
   have q1:(preZ 1 [b0,b1]).length=2:=rfl
   have q2:(preZ 1 [0,1]).length=2:=rfl
   refine V.r0 jii ?_
   refine .inl ?_
   (conv=>whnf)
   refine⟨0,_,_,⟨Tryz.func123,rfl,rfl,jiu rfl⟩,?_⟩
   refine V.r0 jii ?_
   refine⟨Pq16z,[],V.pok,?_⟩
   refine jab [(8,.box 118 0),(7,.int .i64 b1),(9,.int .i64 0)] [(118,.box [.str (R 1).1,.str (R 1).2])] ?_ ?_
   ·exact V.d1 jii sp1
   refine V.r0 jii ?_
   refine⟨Pq18z,[],V.pok,?_⟩
   refine jab [] [(17,.arr .i64 (preZ 2 [b0,b1])),(20,.arr .i64 (preZ 2 [0,1]))] ?_ ?_
   ·exact V.d0 jii
   refine V.r0 jii ?_
   exact⟨2,by omega,by omega,V.wk⟩
  ·simp only[k2]
   (conv=>whnf)
   repeat ((fail_if_success (with_reducible refine Cnd.split ?_));refine V.s1 ?_;(try simp only[jiA]))
   refine V.s1 ?_
   (conv=>whnf)
   repeat ((fail_if_success (with_reducible refine Cnd.split ?_));refine V.s1 ?_;(try simp only[jiA]))
   refine ja9 [(7,.ref [V.sl2 2 [.str (R 0).1,.str (R 0).2,.str (R 1).1,.str (R 1).2]]),(22,.any),(26,.any),(27,.any)] [(7,.gone),(88,.gone)] (CondB.mk (fun h=>absurd h (by decide)) (fun _=>?_)) ?_
   ·(conv=>whnf)
    refine Wk.pub 88 ?_
    (conv=>whnf)
    refine Wk.pub 7 ?_
    (conv=>whnf)
    simp only[jiA]
    exact V.wk
   refine V.r0 @jiA ?_
   refine .inl ?_
   (conv=>whnf)
   refine⟨0,_,_,⟨Tryz.func125,rfl,rfl,jiu rfl⟩,?_⟩
   refine V.r0 @jiA ?_
   refine .inl ?_
   (conv=>whnf)
   refine⟨0,_,_,⟨Tryz.func163,rfl,rfl,jiu rfl⟩,?_⟩
   refine V.r0 @jiA ?_
   refine jac (0) (fun k=>k=0) (fun k=>k) (fun k=>[(7,.int .i64 0),(8,.int .i64 20)]) (fun k=>[]) ?_ ?_ ?_
   ·exact V.wk
   ·rfl
   intro k hk
   refine V.r0 @jiA ?_
   refine .inl ?_
   (conv=>whnf)
   refine⟨0,_,_,⟨Tryz.func193,rfl,rfl,jiu rfl⟩,?_⟩
   refine V.r0 @jiA ?_
   refine jac (0) (fun k=>k+1≤2) (fun k=>2-k) (fun k=>[(8,.int .i64 ((k+1:Nat):Int))]) (fun k=>[(20,.arr .i64 (isoK w [0,1] k))]) ?_ ?_ ?_
   ·exact V.wk
   ·omega
   clear hk
   intro k hk
   have hB:=jgC w (n:=2) (xs:=[0,1]) ⟨rfl,fun i hi=>by
    have:i=0∨i=1∨i=2:=by omega
    rcases this with e|e|e<;>subst e<;>first|decide|omega⟩ k (by omega)
   refine V.r0 @jiA ?_
   refine V.br (fun hq=>?_) (fun hq=>?_)
   ·have hk2:k+1<2:=by simp at hq;omega
    refine V.r0 @jiA ?_
    refine jac ((k+1,isoK w [0,1] k):Nat×List Int) (fun s=>s.1≤k+1∧Bel 2 s.2∧insJ w s.1 s.2=isoK w [0,1] (k+1)) (fun s=>s.1) (fun s=>[(9,.int .i64 s.1)]) (fun s=>[(20,.arr .i64 s.2)]) ?_ ?_ ?_
    ·exact V.wk
    ·exact⟨jiD _,hB,rfl⟩
    rintro⟨j,xs⟩ ⟨h1,h2,h3⟩
    dsimp only at h1 h2 h3 ⊢
    have hl:=h2.1
    refine V.r0 @jiA ?_
    have c1:(decide ((j:Int)>0)=true)→Cl 126 [.int .i64 (xs.getD j 0),.int .i64 (xs.getD (j-1) 0),.ref [V.sl2 2 [.str (R 0).1,.str (R 0).2,.str (R 1).1,.str (R 1).2]]] (.int .i64 (w (xs.getD j 0) (xs.getD (j-1) 0))):=fun h=>by
     have hj:(j:Int)>0:=of_decide_eq_true h
     have g1:=h2.2 j (by omega)
     have g2:=h2.2 (j-1) (by omega)
     have c:=cm (xs.getD j 0).toNat (xs.getD (j-1) 0).toNat (by omega) (by omega)
     rw[jiB g1.1,jiB g2.1] at c
     exact c
    refine⟨Pq9z,[],V.pok,?_⟩
    refine jab [(34,.bool (decide ((j:Int)>0) && decide (w (xs.getD j 0) (xs.getD (j-1) 0)<0)))] [] ?_ ?_
    ·(conv=>whnf);(try simp only[jim])
     repeat' (first|exact V.wk|((with_reducible refine And.intro ?_ jay);(conv=>whnf);(try simp only[jim]))|((with_reducible first|refine jar ?_ ?_|refine jau ?_ ?_)<;>(conv=>whnf);(try simp only[jim]))|((first|refine V.s1 ?_|((with_reducible refine jan ?_ ?_);(focus ((conv=>whnf);(try simp only[jim]);(repeat ((first|refine V.s1 ?_|((refine⟨_,c1,?_⟩);(conv=>whnf)));(try simp only[jim])));exact⟨rfl⟩));(conv=>whnf))|((try ((with_reducible refine .ext ?_);(conv=>whnf);(try simp only[jim])));(with_reducible refine jaa (r:=?_) ?_ ?_);rotate_left;(focus (first|fail));(conv=>whnf))|((refine⟨_,c1,?_⟩);(conv=>whnf)));(try simp only[jim]))|(refine And.intro ?_ ?_<;>(conv=>whnf);(try simp only[jim])))
    refine V.r0 @jiA ?_
    refine V.br (fun hq2=>?_) (fun hq2=>?_)
    ·have hj:0<j∧w (xs.getD j 0) (xs.getD (j-1) 0)<0:=by
      rw[jit,decide_eq_true_eq,decide_eq_true_eq] at hq2
      omega
     obtain⟨i,rfl⟩:∃ i,j=i+1:=⟨j-1,by omega⟩
     rw[show i+1-1=i by omega] at hj
     have hw:=jer h2 (show i+1<2 by omega)
     have e1:((i+1:Nat):Int).toNat=i+1:=by omega
     have e2:(((i+1:Nat):Int)-1).toNat=i:=by omega
     have e3:((i+1:Nat):Int)-1=(i:Int):=by omega
     have e4:(i:Int).toNat=i:=by omega
     have h3':insJ w i ((xs.set (i+1) (xs.getD i 0)).set i (xs.getD (i+1) 0))=isoK w [0,1] (k+1):=by
      rw[← h3]
      simp only[insJ]
      rw[if_pos hj.2]
     refine V.r0 @jiA ?_
     refine⟨Pq6z,[],V.pok,?_⟩
     refine jab [] [(20,.arr .i64 ((xs.set (i+1) (xs.getD i 0)).set i (xs.getD (i+1) 0)))] ?_ ?_
     ·exact V.d0 (V.a5 zX13b_2 @e1 e2 e3 e4)
     refine V.r0 (V.a2 @jiA e3) ?_
     exact⟨(i,(xs.set (i+1) (xs.getD i 0)).set i (xs.getD (i+1) 0)),⟨by dsimp only;omega,hw,h3'⟩,by dsimp only;omega,V.wk⟩
    ·have hx:isoK w [0,1] (k+1)=xs:=by
      rw[← h3]
      cases j with
      | zero=>rfl
      | succ i=>
       simp only[insJ]
       rw[if_neg]
       intro h
       rw[Bool.and_eq_false_iff,decide_eq_false_iff_not,decide_eq_false_iff_not,show i+1-1=i by omega] at hq2
       omega
     refine V.r0 @jiA ?_
     refine⟨k+1,by omega,by omega,?_⟩
     rw[hx]
     exact V.wk
   have hk2:k+1=2:=by simp at hq;omega
   have hk3:k=2-1:=by omega
   subst hk3
   refine V.r0 @jiA ?_
   refine jac (0) (fun k=>k=0) (fun k=>k) (fun k=>[(6,.int .i64 20)]) (fun k=>[]) ?_ ?_ ?_
   ·exact V.wk
   ·rfl
   clear hk
   intro k hk
   refine V.r0 @jiA ?_
   obtain⟨xs,hxs⟩:∃ xs,isoK w [0,1] (2-1)=xs:=⟨_,rfl⟩
   rw[hxs] at hB ⊢
   have hl:=hB.1
   refine V.r1 @jiA io ?_
   have hr:∀ m,m<2→List.take 2 (List.drop (m*2) ([.str (R 0).1,.str (R 0).2,.str (R 1).1,.str (R 1).2]:List D))=[.str (R m).1,.str (R m).2]:=fun m hm=>by
    have:m=0∨m=1∨m=2:=by omega
    rcases this with e|e|e<;>subst e<;>first|rfl|omega
   have e0:=hr (xs.getD 0 0).toNat (by have:=hB.2 0 (by omega);omega)
   have g0:=hB.2 0 (by omega)
   have sb0:=sb 0 (by omega)
   have hb0:=hBf 0 (by omega)
   rw[hxs] at sb0 hb0
   have e1:=hr (xs.getD 1 0).toNat (by have:=hB.2 1 (by omega);omega)
   have g1:=hB.2 1 (by omega)
   have sb1:=sb 1 (by omega)
   have hb1:=hBf 1 (by omega)
   rw[hxs] at sb1 hb1
   have hb':(Bf 0).1=o0∧(Bf 0).2=o1:=by rw[hBf0];exact⟨rfl,rfl⟩
   refine jac 0 (fun k=>k≤2) (fun k=>2-k) (fun k=>[(41,.int .i64 k)]) (fun k=>(9,.box [.str (Bf k).1,.str (Bf k).2])::(6,.box [.ints .i64 [z0,z1],.int .i64 out,.ints .i64 data,.osl 17 0 2,.osl 20 0 2,wcl k])::wch W k) ?_ ?_ ?_
   ·rw[hb'.1,hb'.2]
    exact V.wk
   ·exact jiv _
   clear hk
   intro k hk
   have hk4:k=0∨k=1∨k=2:=by omega
   rcases hk4 with e|e|e
   all_goals subst e
   ·simp only[k0,wcl,wch]
    refine V.r0 jii ?_
    refine⟨Pq34z,[],V.pok,?_⟩
    refine jab [(12,.box 12 0),(13,.int .i64 0)] [(12,.box [.str (W 0).1,.str (W 0).2])] ?_ ?_
    ·(conv=>whnf);(try simp only[jiA])
     repeat' (first|exact V.wk|((with_reducible refine And.intro ?_ jay);(conv=>whnf);(try simp only[jiA]))|((with_reducible first|refine jar ?_ ?_|refine jau ?_ ?_)<;>(conv=>whnf);(try simp only[jiA]))|((first|refine V.s1 ?_|((with_reducible refine jan ?_ ?_);(focus ((conv=>whnf);(try simp only[jiA]);(repeat ((first|refine V.s1 ?_|((simp only[e0]);(conv=>whnf)));(try simp only[jiA])));exact⟨rfl⟩));(conv=>whnf))|((try ((with_reducible refine .ext ?_);(conv=>whnf);(try simp only[jiA])));(with_reducible refine jaa (r:=?_) ?_ ?_);rotate_left;(focus (first|exact(sb0)));(conv=>whnf))|((simp only[e0]);(conv=>whnf)));(try simp only[jiA]))|(refine And.intro ?_ ?_<;>(conv=>whnf);(try simp only[jiA])))
    (conv=>whnf)
    (try simp only[jiA])
    repeat ((first|refine V.s1 ?_|((try ((with_reducible refine .ext ?_);(conv=>whnf);(try simp only[jiA])));(with_reducible refine jaa (r:=?_) ?_ ?_);rotate_left;(focus (first|fail));(conv=>whnf))|((simp only[e0]);(conv=>whnf)));(try simp only[jiA]))
    refine⟨1,by omega,by omega,?_⟩
    rw[hb0]
    exact V.wk
   ·simp only[k1,wcl,wch]
    refine V.r0 jii ?_
    refine⟨Pq34z,[],V.pok,?_⟩
    refine jab [(12,.box 12 0),(13,.int .i64 0)] [(12,.box [.str (W 1).1,.str (W 1).2])] ?_ ?_
    ·(conv=>whnf);(try simp only[jiA])
     repeat' (first|exact V.wk|((with_reducible refine And.intro ?_ jay);(conv=>whnf);(try simp only[jiA]))|((with_reducible first|refine jar ?_ ?_|refine jau ?_ ?_)<;>(conv=>whnf);(try simp only[jiA]))|((first|refine V.s1 ?_|((with_reducible refine jan ?_ ?_);(focus ((conv=>whnf);(try simp only[jiA]);(repeat ((first|refine V.s1 ?_|((simp only[e1]);(conv=>whnf)));(try simp only[jiA])));exact⟨rfl⟩));(conv=>whnf))|((try ((with_reducible refine .ext ?_);(conv=>whnf);(try simp only[jiA])));(with_reducible refine jaa (r:=?_) ?_ ?_);rotate_left;(focus (first|exact(sb1)));(conv=>whnf))|((simp only[e1]);(conv=>whnf)));(try simp only[jiA]))|(refine And.intro ?_ ?_<;>(conv=>whnf);(try simp only[jiA])))
    (conv=>whnf)
    (try simp only[jiA])
    repeat ((first|refine V.s1 ?_|((try ((with_reducible refine .ext ?_);(conv=>whnf);(try simp only[jiA])));(with_reducible refine jaa (r:=?_) ?_ ?_);rotate_left;(focus (first|fail));(conv=>whnf))|((simp only[e1]);(conv=>whnf)));(try simp only[jiA]))
    refine⟨2,by omega,by omega,?_⟩
    rw[hb1]
    exact V.wk
   ·simp only[k2,wcl,wch]
    have ht:List.take 2 xs=xs:=jjj (by omega)
    refine V.r0 (V.a2 @jiA ht) ?_
    rw[← hxs]
    exact Fin.of rfl
theorem jid:type_of% @jiA∧type_of% @tn0∧type_of% @tn1∧type_of% @tn2∧type_of% @tn3:=⟨@jiA,@tn0,@tn1,@tn2,@tn3⟩
theorem jil:type_of% @jiC∧type_of% @jiA∧type_of% @tns:=⟨@jiC,@jiA,@tns⟩
theorem zX13c_2:type_of% @jjo ∧ type_of% @jiA:=⟨@jjo,@jiA⟩
theorem find3_t (z0 z1 z2 out b0 b1 b2:Int)(data:List Int)(x0 y0 x1 y1 x2 y2 o0 o1:List UInt8)(R Bf W:Nat→Tx)
  (sp0:Cl 124 [.agg [.str x0,.str y0],.int .i64 z0] (.tup [.int .i64 b0,.agg [.str (R 0).1,.str (R 0).2],.int .i64 0]))
  (sp1:Cl 124 [.agg [.str x1,.str y1],.int .i64 z1] (.tup [.int .i64 b1,.agg [.str (R 1).1,.str (R 1).2],.int .i64 0]))
  (sp2:Cl 124 [.agg [.str x2,.str y2],.int .i64 z2] (.tup [.int .i64 b2,.agg [.str (R 2).1,.str (R 2).2],.int .i64 0]))
  (io:Cl 86 [.int .i64 1] (.agg [.str o0,.str o1])) (w:Int→Int→Int) (cm:∀ a b:Nat,a<3→b<3→Cl 126 [.int .i64 a,.int .i64 b,.ref [V.sl2 3 [.str (R 0).1,.str (R 0).2,.str (R 1).1,.str (R 1).2,.str (R 2).1,.str (R 2).2]]] (.int .i64 (w a b)))
  (hBf0:Bf 0=(o0,o1)) (hBf:∀ k,k<3→Bf (k+1)=R ((isoK w [0,1,2] (3-1)).getD k 0).toNat) (sb:∀ k,k<3→Cl 99 [.agg [.str (Bf k).1,.str (Bf k).2],.agg [.str (R ((isoK w [0,1,2] (3-1)).getD k 0).toNat).1,.str (R ((isoK w [0,1,2] (3-1)).getD k 0).toNat).2]] (.tup [.agg [.str (W k).1,.str (W k).2],.int .i64 0])) :
  Cl 79 [.agg [.ints .i64 [z0,z1,z2],.int .i64 out,.ints .i64 data],V.sl2 3 [.str x0,.str y0,.str x1,.str y1,.str x2,.str y2]] (.tup [.agg [.ints .i64 [z0,z1,z2],.int .i64 out,.ints .i64 data,.ints .i64 [b0,b1,b2],.ints .i64 (isoK w [0,1,2] (3-1)),V.sl2 4 [.str (W 0).1,.str (W 0).2,.str (W 1).1,.str (W 1).2,.str (W 2).1,.str (W 2).2,.str (Bf 3).1,.str (Bf 3).2]],.int .i64 0]):=by
  refine V.en tbOk Tryz.func79 ?_
  refine V.r0 @jiA ?_
  refine⟨Pq43z,[],V.pok,?_⟩
  refine jab [(6,.box 6 0),(17,.osl 17 0 3),(20,.osl 20 0 3)] [(6,.box [.ints .i64 [z0,z1,z2],.int .i64 out,.ints .i64 data,.osl 17 0 3,.osl 20 0 3,.nil]),(17,.arr .i64 [0,0,0]),(20,.arr .i64 [0,0,0])] ?_ ?_
  ·exact V.d0 @jiA
  refine V.r0 @jiA ?_
  refine .inl ?_
  (conv=>whnf)
  refine⟨0,_,_,⟨Tryz.func82,rfl,rfl,jiu rfl⟩,?_⟩
  refine V.r0 @jiA ?_
  refine jac (0) (fun k=>k≤3) (fun k=>3-k) (fun k=>[(14,.int .i64 k)]) (fun k=>[(88,.box (preD (2*k) [.str (R 0).1,.str (R 0).2,.str (R 1).1,.str (R 1).2,.str (R 2).1,.str (R 2).2])),(17,.arr .i64 (preZ k [b0,b1,b2])),(20,.arr .i64 (preZ k [0,1,2]))]) ?_ ?_ ?_
  ·exact V.wk
  ·exact jiv _
  intro k hk
  have hk4:k=0∨k=1∨k=2∨k=3:=by omega
  rcases hk4 with e|e|e|e
  all_goals subst e
  ·simp only[k0]
   have q1:(preZ 0 [b0,b1,b2]).length=3:=rfl
   have q2:(preZ 0 [0,1,2]).length=3:=rfl
   refine V.r0 jid ?_
   refine .inl ?_
   (conv=>whnf)
   refine⟨0,_,_,⟨Tryz.func123,rfl,rfl,jiu rfl⟩,?_⟩
   refine V.r0 jid ?_
   refine⟨Pq16z,[],V.pok,?_⟩
   refine jab [(8,.box 118 0),(7,.int .i64 b0),(9,.int .i64 0)] [(118,.box [.str (R 0).1,.str (R 0).2])] ?_ ?_
   ·exact V.d1 jid sp0
   refine V.r0 jid ?_
   refine⟨Pq18z,[],V.pok,?_⟩
   refine jab [] [(17,.arr .i64 (preZ 1 [b0,b1,b2])),(20,.arr .i64 (preZ 1 [0,1,2]))] ?_ ?_
   ·exact V.d0 jid
   refine V.r0 jid ?_
   exact⟨1,by omega,by omega,V.wk⟩
  ·simp only[k1]
   have q1:(preZ 1 [b0,b1,b2]).length=3:=rfl
   have q2:(preZ 1 [0,1,2]).length=3:=rfl
   refine V.r0 jid ?_
   refine .inl ?_
   (conv=>whnf)
   refine⟨0,_,_,⟨Tryz.func123,rfl,rfl,jiu rfl⟩,?_⟩
   refine V.r0 jid ?_
   refine⟨Pq16z,[],V.pok,?_⟩
   refine jab [(8,.box 118 0),(7,.int .i64 b1),(9,.int .i64 0)] [(118,.box [.str (R 1).1,.str (R 1).2])] ?_ ?_
   ·exact V.d1 jid sp1
   refine V.r0 jid ?_
   refine⟨Pq18z,[],V.pok,?_⟩
   refine jab [] [(17,.arr .i64 (preZ 2 [b0,b1,b2])),(20,.arr .i64 (preZ 2 [0,1,2]))] ?_ ?_
   ·exact V.d0 jid
   refine V.r0 jid ?_
   exact⟨2,by omega,by omega,V.wk⟩
  ·simp only[k2]
   have q1:(preZ 2 [b0,b1,b2]).length=3:=rfl
   have q2:(preZ 2 [0,1,2]).length=3:=rfl
   refine V.r0 jid ?_
   refine .inl ?_
   (conv=>whnf)
   refine⟨0,_,_,⟨Tryz.func123,rfl,rfl,jiu rfl⟩,?_⟩
   refine V.r0 jid ?_
   refine⟨Pq16z,[],V.pok,?_⟩
   refine jab [(8,.box 118 0),(7,.int .i64 b2),(9,.int .i64 0)] [(118,.box [.str (R 2).1,.str (R 2).2])] ?_ ?_
   ·exact V.d1 jid sp2
   refine V.r0 jid ?_
   refine⟨Pq18z,[],V.pok,?_⟩
   refine jab [] [(17,.arr .i64 (preZ 3 [b0,b1,b2])),(20,.arr .i64 (preZ 3 [0,1,2]))] ?_ ?_
   ·exact V.d0 jid
   refine V.r0 jid ?_
   exact⟨3,by omega,by omega,V.wk⟩
  ·simp only[k3]
   (conv=>whnf)
   repeat ((fail_if_success (with_reducible refine Cnd.split ?_));refine V.s1 ?_;(try simp only[jiA]))
   refine V.s1 ?_
   (conv=>whnf)
   repeat ((fail_if_success (with_reducible refine Cnd.split ?_));refine V.s1 ?_;(try simp only[jiA]))
   refine ja9 [(7,.ref [V.sl2 3 [.str (R 0).1,.str (R 0).2,.str (R 1).1,.str (R 1).2,.str (R 2).1,.str (R 2).2]]),(22,.any),(26,.any),(27,.any)] [(7,.gone),(88,.gone)] (CondB.mk (fun h=>absurd h (by decide)) (fun _=>?_)) ?_
   ·(conv=>whnf)
    refine Wk.pub 88 ?_
    (conv=>whnf)
    refine Wk.pub 7 ?_
    (conv=>whnf)
    simp only[jiA]
    exact V.wk
   refine V.r0 @jiA ?_
   refine .inl ?_
   (conv=>whnf)
   refine⟨0,_,_,⟨Tryz.func125,rfl,rfl,jiu rfl⟩,?_⟩
   refine V.r0 @jiA ?_
   refine .inl ?_
   (conv=>whnf)
   refine⟨0,_,_,⟨Tryz.func163,rfl,rfl,jiu rfl⟩,?_⟩
   refine V.r0 @jiA ?_
   refine jac (0) (fun k=>k=0) (fun k=>k) (fun k=>[(7,.int .i64 0),(8,.int .i64 20)]) (fun k=>[]) ?_ ?_ ?_
   ·exact V.wk
   ·rfl
   intro k hk
   refine V.r0 @jiA ?_
   refine .inl ?_
   (conv=>whnf)
   refine⟨0,_,_,⟨Tryz.func193,rfl,rfl,jiu rfl⟩,?_⟩
   refine V.r0 @jiA ?_
   refine jac (0) (fun k=>k+1≤3) (fun k=>3-k) (fun k=>[(8,.int .i64 ((k+1:Nat):Int))]) (fun k=>[(20,.arr .i64 (isoK w [0,1,2] k))]) ?_ ?_ ?_
   ·exact V.wk
   ·omega
   clear hk
   intro k hk
   have hB:=jgC w (n:=3) (xs:=[0,1,2]) ⟨rfl,fun i hi=>by
    have:i=0∨i=1∨i=2:=by omega
    rcases this with e|e|e<;>subst e<;>first|decide|omega⟩ k (by omega)
   refine V.r0 @jiA ?_
   refine V.br (fun hq=>?_) (fun hq=>?_)
   ·have hk2:k+1<3:=by simp at hq;omega
    refine V.r0 @jiA ?_
    refine jac ((k+1,isoK w [0,1,2] k):Nat×List Int) (fun s=>s.1≤k+1∧Bel 3 s.2∧insJ w s.1 s.2=isoK w [0,1,2] (k+1)) (fun s=>s.1) (fun s=>[(9,.int .i64 s.1)]) (fun s=>[(20,.arr .i64 s.2)]) ?_ ?_ ?_
    ·exact V.wk
    ·exact⟨jiD _,hB,rfl⟩
    rintro⟨j,xs⟩ ⟨h1,h2,h3⟩
    dsimp only at h1 h2 h3 ⊢
    have hl:=h2.1
    refine V.r0 @jiA ?_
    have c1:(decide ((j:Int)>0)=true)→Cl 126 [.int .i64 (xs.getD j 0),.int .i64 (xs.getD (j-1) 0),.ref [V.sl2 3 [.str (R 0).1,.str (R 0).2,.str (R 1).1,.str (R 1).2,.str (R 2).1,.str (R 2).2]]] (.int .i64 (w (xs.getD j 0) (xs.getD (j-1) 0))):=fun h=>by
     have hj:(j:Int)>0:=of_decide_eq_true h
     have g1:=h2.2 j (by omega)
     have g2:=h2.2 (j-1) (by omega)
     have c:=cm (xs.getD j 0).toNat (xs.getD (j-1) 0).toNat (by omega) (by omega)
     rw[jiB g1.1,jiB g2.1] at c
     exact c
    refine⟨Pq9z,[],V.pok,?_⟩
    refine jab [(34,.bool (decide ((j:Int)>0) && decide (w (xs.getD j 0) (xs.getD (j-1) 0)<0)))] [] ?_ ?_
    ·(conv=>whnf);(try simp only[jil])
     repeat' (first|exact V.wk|((with_reducible refine And.intro ?_ jay);(conv=>whnf);(try simp only[jil]))|((with_reducible first|refine jar ?_ ?_|refine jau ?_ ?_)<;>(conv=>whnf);(try simp only[jil]))|((first|refine V.s1 ?_|((with_reducible refine jan ?_ ?_);(focus ((conv=>whnf);(try simp only[jil]);(repeat ((first|refine V.s1 ?_|((refine⟨_,c1,?_⟩);(conv=>whnf)));(try simp only[jil])));exact⟨rfl⟩));(conv=>whnf))|((try ((with_reducible refine .ext ?_);(conv=>whnf);(try simp only[jil])));(with_reducible refine jaa (r:=?_) ?_ ?_);rotate_left;(focus (first|fail));(conv=>whnf))|((refine⟨_,c1,?_⟩);(conv=>whnf)));(try simp only[jil]))|(refine And.intro ?_ ?_<;>(conv=>whnf);(try simp only[jil])))
    refine V.r0 @jiA ?_
    refine V.br (fun hq2=>?_) (fun hq2=>?_)
    ·have hj:0<j∧w (xs.getD j 0) (xs.getD (j-1) 0)<0:=by
      rw[jit,decide_eq_true_eq,decide_eq_true_eq] at hq2
      omega
     obtain⟨i,rfl⟩:∃ i,j=i+1:=⟨j-1,by omega⟩
     rw[show i+1-1=i by omega] at hj
     have hw:=jer h2 (show i+1<3 by omega)
     have e1:((i+1:Nat):Int).toNat=i+1:=by omega
     have e2:(((i+1:Nat):Int)-1).toNat=i:=by omega
     have e3:((i+1:Nat):Int)-1=(i:Int):=by omega
     have e4:(i:Int).toNat=i:=by omega
     have h3':insJ w i ((xs.set (i+1) (xs.getD i 0)).set i (xs.getD (i+1) 0))=isoK w [0,1,2] (k+1):=by
      rw[← h3]
      simp only[insJ]
      rw[if_pos hj.2]
     refine V.r0 @jiA ?_
     refine⟨Pq6z,[],V.pok,?_⟩
     refine jab [] [(20,.arr .i64 ((xs.set (i+1) (xs.getD i 0)).set i (xs.getD (i+1) 0)))] ?_ ?_
     ·exact V.d0 (V.a5 zX13c_2 @e1 e2 e3 e4)
     refine V.r0 (V.a2 @jiA e3) ?_
     exact⟨(i,(xs.set (i+1) (xs.getD i 0)).set i (xs.getD (i+1) 0)),⟨by dsimp only;omega,hw,h3'⟩,by dsimp only;omega,V.wk⟩
    ·have hx:isoK w [0,1,2] (k+1)=xs:=by
      rw[← h3]
      cases j with
      | zero=>rfl
      | succ i=>
       simp only[insJ]
       rw[if_neg]
       intro h
       rw[Bool.and_eq_false_iff,decide_eq_false_iff_not,decide_eq_false_iff_not,show i+1-1=i by omega] at hq2
       omega
     refine V.r0 @jiA ?_
     refine⟨k+1,by omega,by omega,?_⟩
     rw[hx]
     exact V.wk
   have hk2:k+1=3:=by simp at hq;omega
   have hk3:k=3-1:=by omega
   subst hk3
   refine V.r0 @jiA ?_
   refine jac (0) (fun k=>k=0) (fun k=>k) (fun k=>[(6,.int .i64 20)]) (fun k=>[]) ?_ ?_ ?_
   ·exact V.wk
   ·rfl
   clear hk
   intro k hk
   refine V.r0 @jiA ?_
   obtain⟨xs,hxs⟩:∃ xs,isoK w [0,1,2] (3-1)=xs:=⟨_,rfl⟩
   rw[hxs] at hB ⊢
   have hl:=hB.1
   refine V.r1 @jiA io ?_
   have hr:∀ m,m<3→List.take 2 (List.drop (m*2) ([.str (R 0).1,.str (R 0).2,.str (R 1).1,.str (R 1).2,.str (R 2).1,.str (R 2).2]:List D))=[.str (R m).1,.str (R m).2]:=fun m hm=>by
    have:m=0∨m=1∨m=2:=by omega
    rcases this with e|e|e<;>subst e<;>first|rfl|omega
   have e0:=hr (xs.getD 0 0).toNat (by have:=hB.2 0 (by omega);omega)
   have g0:=hB.2 0 (by omega)
   have sb0:=sb 0 (by omega)
   have hb0:=hBf 0 (by omega)
   rw[hxs] at sb0 hb0
   have e1:=hr (xs.getD 1 0).toNat (by have:=hB.2 1 (by omega);omega)
   have g1:=hB.2 1 (by omega)
   have sb1:=sb 1 (by omega)
   have hb1:=hBf 1 (by omega)
   rw[hxs] at sb1 hb1
   have e2:=hr (xs.getD 2 0).toNat (by have:=hB.2 2 (by omega);omega)
   have g2:=hB.2 2 (by omega)
   have sb2:=sb 2 (by omega)
   have hb2:=hBf 2 (by omega)
   rw[hxs] at sb2 hb2
   have hb':(Bf 0).1=o0∧(Bf 0).2=o1:=by rw[hBf0];exact⟨rfl,rfl⟩
   refine jac 0 (fun k=>k≤3) (fun k=>3-k) (fun k=>[(41,.int .i64 k)]) (fun k=>(9,.box [.str (Bf k).1,.str (Bf k).2])::(6,.box [.ints .i64 [z0,z1,z2],.int .i64 out,.ints .i64 data,.osl 17 0 3,.osl 20 0 3,wcl k])::wch W k) ?_ ?_ ?_
   ·rw[hb'.1,hb'.2]
    exact V.wk
   ·exact jiv _
   clear hk
   intro k hk
   have hk4:k=0∨k=1∨k=2∨k=3:=by omega
   rcases hk4 with e|e|e|e
   all_goals subst e
   ·simp only[k0,wcl,wch]
    refine V.r0 jid ?_
    refine⟨Pq34z,[],V.pok,?_⟩
    refine jab [(12,.box 12 0),(13,.int .i64 0)] [(12,.box [.str (W 0).1,.str (W 0).2])] ?_ ?_
    ·(conv=>whnf);(try simp only[jiA])
     repeat' (first|exact V.wk|((with_reducible refine And.intro ?_ jay);(conv=>whnf);(try simp only[jiA]))|((with_reducible first|refine jar ?_ ?_|refine jau ?_ ?_)<;>(conv=>whnf);(try simp only[jiA]))|((first|refine V.s1 ?_|((with_reducible refine jan ?_ ?_);(focus ((conv=>whnf);(try simp only[jiA]);(repeat ((first|refine V.s1 ?_|((simp only[e0]);(conv=>whnf)));(try simp only[jiA])));exact⟨rfl⟩));(conv=>whnf))|((try ((with_reducible refine .ext ?_);(conv=>whnf);(try simp only[jiA])));(with_reducible refine jaa (r:=?_) ?_ ?_);rotate_left;(focus (first|exact(sb0)));(conv=>whnf))|((simp only[e0]);(conv=>whnf)));(try simp only[jiA]))|(refine And.intro ?_ ?_<;>(conv=>whnf);(try simp only[jiA])))
    (conv=>whnf)
    (try simp only[jiA])
    repeat ((first|refine V.s1 ?_|((try ((with_reducible refine .ext ?_);(conv=>whnf);(try simp only[jiA])));(with_reducible refine jaa (r:=?_) ?_ ?_);rotate_left;(focus (first|fail));(conv=>whnf))|((simp only[e0]);(conv=>whnf)));(try simp only[jiA]))
    refine⟨1,by omega,by omega,?_⟩
    rw[hb0]
    exact V.wk
   ·simp only[k1,wcl,wch]
    refine V.r0 jid ?_
    refine⟨Pq34z,[],V.pok,?_⟩
    refine jab [(12,.box 12 0),(13,.int .i64 0)] [(12,.box [.str (W 1).1,.str (W 1).2])] ?_ ?_
    ·(conv=>whnf);(try simp only[jiA])
     repeat' (first|exact V.wk|((with_reducible refine And.intro ?_ jay);(conv=>whnf);(try simp only[jiA]))|((with_reducible first|refine jar ?_ ?_|refine jau ?_ ?_)<;>(conv=>whnf);(try simp only[jiA]))|((first|refine V.s1 ?_|((with_reducible refine jan ?_ ?_);(focus ((conv=>whnf);(try simp only[jiA]);(repeat ((first|refine V.s1 ?_|((simp only[e1]);(conv=>whnf)));(try simp only[jiA])));exact⟨rfl⟩));(conv=>whnf))|((try ((with_reducible refine .ext ?_);(conv=>whnf);(try simp only[jiA])));(with_reducible refine jaa (r:=?_) ?_ ?_);rotate_left;(focus (first|exact(sb1)));(conv=>whnf))|((simp only[e1]);(conv=>whnf)));(try simp only[jiA]))|(refine And.intro ?_ ?_<;>(conv=>whnf);(try simp only[jiA])))
    (conv=>whnf)
    (try simp only[jiA])
    repeat ((first|refine V.s1 ?_|((try ((with_reducible refine .ext ?_);(conv=>whnf);(try simp only[jiA])));(with_reducible refine jaa (r:=?_) ?_ ?_);rotate_left;(focus (first|fail));(conv=>whnf))|((simp only[e1]);(conv=>whnf)));(try simp only[jiA]))
    refine⟨2,by omega,by omega,?_⟩
    rw[hb1]
    exact V.wk
   ·simp only[k2,wcl,wch]
    refine V.r0 jid ?_
    refine⟨Pq34z,[],V.pok,?_⟩
    refine jab [(12,.box 12 0),(13,.int .i64 0)] [(12,.box [.str (W 2).1,.str (W 2).2])] ?_ ?_
    ·(conv=>whnf);(try simp only[jiA])
     repeat' (first|exact V.wk|((with_reducible refine And.intro ?_ jay);(conv=>whnf);(try simp only[jiA]))|((with_reducible first|refine jar ?_ ?_|refine jau ?_ ?_)<;>(conv=>whnf);(try simp only[jiA]))|((first|refine V.s1 ?_|((with_reducible refine jan ?_ ?_);(focus ((conv=>whnf);(try simp only[jiA]);(repeat ((first|refine V.s1 ?_|((simp only[e2]);(conv=>whnf)));(try simp only[jiA])));exact⟨rfl⟩));(conv=>whnf))|((try ((with_reducible refine .ext ?_);(conv=>whnf);(try simp only[jiA])));(with_reducible refine jaa (r:=?_) ?_ ?_);rotate_left;(focus (first|exact(sb2)));(conv=>whnf))|((simp only[e2]);(conv=>whnf)));(try simp only[jiA]))|(refine And.intro ?_ ?_<;>(conv=>whnf);(try simp only[jiA])))
    (conv=>whnf)
    (try simp only[jiA])
    repeat ((first|refine V.s1 ?_|((try ((with_reducible refine .ext ?_);(conv=>whnf);(try simp only[jiA])));(with_reducible refine jaa (r:=?_) ?_ ?_);rotate_left;(focus (first|fail));(conv=>whnf))|((simp only[e2]);(conv=>whnf)));(try simp only[jiA]))
    refine⟨3,by omega,by omega,?_⟩
    rw[hb2]
    exact V.wk
   ·simp only[k3,wcl,wch]
    have ht:List.take 3 xs=xs:=jjj (by omega)
    refine V.r0 (V.a2 @jiA ht) ?_
    rw[← hxs]
    exact Fin.of rfl
theorem jeh (p q:Rat):(ordQ p q<0)↔p<q:=by
 unfold ordQ
 by_cases h:p<q
 ·rw[if_pos h];exact⟨fun _=>h,fun _=>by decide⟩
 ·rw[if_neg h]
  by_cases g:p=q
  ·rw[if_pos g];exact⟨fun h'=>by omega,fun h'=>absurd h' h⟩
  ·rw[if_neg g];exact⟨fun h'=>by omega,fun h'=>absurd h' h⟩
def cmpW (r0 r1 r2:Rat)(a b:Int):Int:=ordQ (sel r0 r1 r2 b) (sel r0 r1 r2 a)
theorem iso1 (w:Int→Int→Int):isoK w [0] (1-1)=[0]:=rfl
theorem iso2 (r0 r1 r2:Rat):isoK (cmpW r0 r1 r2) [0,1] (2-1)=ord2 r0 r1:=by
 show insJ (cmpW r0 r1 r2) 1 [0,1]=_
 unfold ord2
 have e:(cmpW r0 r1 r2 1 0<0)↔r0<r1:=jeh _ _
 by_cases h:r0<r1
 ·rw[if_pos h]
  simp only[insJ]
  rw[if_pos (show cmpW r0 r1 r2 ([0,1].getD (0+1) 0) ([0,1].getD 0 0)<0 from e.2 h)]
  rfl
 ·rw[if_neg h]
  simp only[insJ]
  rw[if_neg (show ¬ cmpW r0 r1 r2 ([0,1].getD (0+1) 0) ([0,1].getD 0 0)<0 from fun g=>h (e.1 g))]
theorem jeX {w:Int→Int→Int}{j:Nat}{xs:List Int}(h:w (xs.getD (j+1) 0) (xs.getD j 0)<0):insJ w (j+1) xs=insJ w j ((xs.set (j+1) (xs.getD j 0)).set j (xs.getD (j+1) 0)):=by
 simp only[insJ];rw[if_pos h]
theorem jgZ {w:Int→Int→Int}{j:Nat}{xs:List Int}(h:¬ w (xs.getD (j+1) 0) (xs.getD j 0)<0):insJ w (j+1) xs=xs:=by
 simp only[insJ];rw[if_neg h]
theorem iso3 (r0 r1 r2:Rat):isoK (cmpW r0 r1 r2) [0,1,2] (3-1)=ord3 r0 r1 r2:=by
 have e01:(cmpW r0 r1 r2 1 0<0)↔r0<r1:=jeh _ _
 have e02:(cmpW r0 r1 r2 2 0<0)↔r0<r2:=jeh _ _
 have e12:(cmpW r0 r1 r2 2 1<0)↔r1<r2:=jeh _ _
 show insJ (cmpW r0 r1 r2) 2 (insJ (cmpW r0 r1 r2) 1 [0,1,2])=_
 unfold ord3
 by_cases h01:r0<r1
 ·rw[if_pos h01,jeX (j:=0) (xs:=[0,1,2]) (e01.2 h01)]
  show insJ (cmpW r0 r1 r2) 2 [1,0,2]=_
  by_cases h02:r0<r2
  ·rw[if_pos h02,jeX (j:=1) (xs:=[1,0,2]) (e02.2 h02)]
   show insJ (cmpW r0 r1 r2) 1 [1,2,0]=_
   by_cases h12:r1<r2
   ·rw[if_pos h12,jeX (j:=0) (xs:=[1,2,0]) (e12.2 h12)]
    rfl
   ·rw[if_neg h12,jgZ (j:=0) (xs:=[1,2,0]) fun g=>h12 (e12.1 g)]
  ·rw[if_neg h02,jgZ (j:=1) (xs:=[1,0,2]) fun g=>h02 (e02.1 g)]
 ·rw[if_neg h01,jgZ (j:=0) (xs:=[0,1,2]) fun g=>h01 (e01.1 g)]
  by_cases h12:r1<r2
  ·rw[if_pos h12,jeX (j:=1) (xs:=[0,1,2]) (e12.2 h12)]
   show insJ (cmpW r0 r1 r2) 1 [0,2,1]=_
   by_cases h02:r0<r2
   ·rw[if_pos h02,jeX (j:=0) (xs:=[0,2,1]) (e02.2 h02)]
    rfl
   ·rw[if_neg h02,jgZ (j:=0) (xs:=[0,2,1]) fun g=>h02 (e02.1 g)]
  ·rw[if_neg h12,jgZ (j:=1) (xs:=[0,1,2]) fun g=>h12 (e12.1 g)]
theorem jie:type_of% @jiA∧type_of% @tn0∧type_of% @tn1∧type_of% @tn2:=⟨@jiA,@tn0,@tn1,@tn2⟩
theorem cmp1_00 (R:Nat→Tx)(w:Int)(c:Cl 127 [.agg [.str (R 0).1,.str (R 0).2],.agg [.str (R 0).1,.str (R 0).2]] (.tup [.int .i64 w,.int .i64 0]))(hw:InR .i64 w):Cl 126 [.int .i64 0,.int .i64 0,.ref [V.sl2 1 [.str (R 0).1,.str (R 0).2]]] (.int .i64 w):=by
 refine V.en tbOk Tryz.func126 ?_
 refine V.r0 jie ?_
 refine⟨Pq20z,[],V.pok,?_⟩
 refine jab [(6,.int .i64 w)] [] ?_ ?_
 ·exact V.d1 jie c
 refine V.r0 @jiA ?_
 exact Fin.of rfl
theorem cmp1 (R:Nat→Tx)(w:Int→Int→Int)(hw:∀ a b,InR .i64 (w a b))(c:∀ a b:Nat,a<1→b<1→Cl 127 [.agg [.str (R b).1,.str (R b).2],.agg [.str (R a).1,.str (R a).2]] (.tup [.int .i64 (w a b),.int .i64 0])):∀ a b:Nat,a<1→b<1→Cl 126 [.int .i64 a,.int .i64 b,.ref [V.sl2 1 [.str (R 0).1,.str (R 0).2]]] (.int .i64 (w a b)):=fun a b ha hb=>by
 have h1:a=0:=by omega
 have h2:b=0:=by omega
 have k:=c a b ha hb
 subst h1 h2
 ·exact cmp1_00 R _ k (hw _ _)
theorem cmp2_00 (R:Nat→Tx)(w:Int)(c:Cl 127 [.agg [.str (R 0).1,.str (R 0).2],.agg [.str (R 0).1,.str (R 0).2]] (.tup [.int .i64 w,.int .i64 0]))(hw:InR .i64 w):Cl 126 [.int .i64 0,.int .i64 0,.ref [V.sl2 2 [.str (R 0).1,.str (R 0).2,.str (R 1).1,.str (R 1).2]]] (.int .i64 w):=by
 refine V.en tbOk Tryz.func126 ?_
 refine V.r0 jie ?_
 refine⟨Pq20z,[],V.pok,?_⟩
 refine jab [(6,.int .i64 w)] [] ?_ ?_
 ·exact V.d1 jie c
 refine V.r0 @jiA ?_
 exact Fin.of rfl
theorem cmp2_01 (R:Nat→Tx)(w:Int)(c:Cl 127 [.agg [.str (R 1).1,.str (R 1).2],.agg [.str (R 0).1,.str (R 0).2]] (.tup [.int .i64 w,.int .i64 0]))(hw:InR .i64 w):Cl 126 [.int .i64 0,.int .i64 1,.ref [V.sl2 2 [.str (R 0).1,.str (R 0).2,.str (R 1).1,.str (R 1).2]]] (.int .i64 w):=by
 refine V.en tbOk Tryz.func126 ?_
 refine V.r0 jie ?_
 refine⟨Pq20z,[],V.pok,?_⟩
 refine jab [(6,.int .i64 w)] [] ?_ ?_
 ·exact V.d1 jie c
 refine V.r0 @jiA ?_
 exact Fin.of rfl
theorem cmp2_10 (R:Nat→Tx)(w:Int)(c:Cl 127 [.agg [.str (R 0).1,.str (R 0).2],.agg [.str (R 1).1,.str (R 1).2]] (.tup [.int .i64 w,.int .i64 0]))(hw:InR .i64 w):Cl 126 [.int .i64 1,.int .i64 0,.ref [V.sl2 2 [.str (R 0).1,.str (R 0).2,.str (R 1).1,.str (R 1).2]]] (.int .i64 w):=by
 refine V.en tbOk Tryz.func126 ?_
 refine V.r0 jie ?_
 refine⟨Pq20z,[],V.pok,?_⟩
 refine jab [(6,.int .i64 w)] [] ?_ ?_
 ·exact V.d1 jie c
 refine V.r0 @jiA ?_
 exact Fin.of rfl
theorem cmp2_11 (R:Nat→Tx)(w:Int)(c:Cl 127 [.agg [.str (R 1).1,.str (R 1).2],.agg [.str (R 1).1,.str (R 1).2]] (.tup [.int .i64 w,.int .i64 0]))(hw:InR .i64 w):Cl 126 [.int .i64 1,.int .i64 1,.ref [V.sl2 2 [.str (R 0).1,.str (R 0).2,.str (R 1).1,.str (R 1).2]]] (.int .i64 w):=by
 refine V.en tbOk Tryz.func126 ?_
 refine V.r0 jie ?_
 refine⟨Pq20z,[],V.pok,?_⟩
 refine jab [(6,.int .i64 w)] [] ?_ ?_
 ·exact V.d1 jie c
 refine V.r0 @jiA ?_
 exact Fin.of rfl
theorem cmp2 (R:Nat→Tx)(w:Int→Int→Int)(hw:∀ a b,InR .i64 (w a b))(c:∀ a b:Nat,a<2→b<2→Cl 127 [.agg [.str (R b).1,.str (R b).2],.agg [.str (R a).1,.str (R a).2]] (.tup [.int .i64 (w a b),.int .i64 0])):∀ a b:Nat,a<2→b<2→Cl 126 [.int .i64 a,.int .i64 b,.ref [V.sl2 2 [.str (R 0).1,.str (R 0).2,.str (R 1).1,.str (R 1).2]]] (.int .i64 (w a b)):=fun a b ha hb=>by
 have h1:a=0∨a=1:=by omega
 have h2:b=0∨b=1:=by omega
 have k:=c a b ha hb
 rcases h1 with e|e<;>rcases h2 with g|g<;>subst e<;>subst g
 ·exact cmp2_00 R _ k (hw _ _)
 ·exact cmp2_01 R _ k (hw _ _)
 ·exact cmp2_10 R _ k (hw _ _)
 ·exact cmp2_11 R _ k (hw _ _)
theorem cmp3_00 (R:Nat→Tx)(w:Int)(c:Cl 127 [.agg [.str (R 0).1,.str (R 0).2],.agg [.str (R 0).1,.str (R 0).2]] (.tup [.int .i64 w,.int .i64 0]))(hw:InR .i64 w):Cl 126 [.int .i64 0,.int .i64 0,.ref [V.sl2 3 [.str (R 0).1,.str (R 0).2,.str (R 1).1,.str (R 1).2,.str (R 2).1,.str (R 2).2]]] (.int .i64 w):=by
 refine V.en tbOk Tryz.func126 ?_
 refine V.r0 jie ?_
 refine⟨Pq20z,[],V.pok,?_⟩
 refine jab [(6,.int .i64 w)] [] ?_ ?_
 ·exact V.d1 jie c
 refine V.r0 @jiA ?_
 exact Fin.of rfl
theorem cmp3_01 (R:Nat→Tx)(w:Int)(c:Cl 127 [.agg [.str (R 1).1,.str (R 1).2],.agg [.str (R 0).1,.str (R 0).2]] (.tup [.int .i64 w,.int .i64 0]))(hw:InR .i64 w):Cl 126 [.int .i64 0,.int .i64 1,.ref [V.sl2 3 [.str (R 0).1,.str (R 0).2,.str (R 1).1,.str (R 1).2,.str (R 2).1,.str (R 2).2]]] (.int .i64 w):=by
 refine V.en tbOk Tryz.func126 ?_
 refine V.r0 jie ?_
 refine⟨Pq20z,[],V.pok,?_⟩
 refine jab [(6,.int .i64 w)] [] ?_ ?_
 ·exact V.d1 jie c
 refine V.r0 @jiA ?_
 exact Fin.of rfl
theorem cmp3_02 (R:Nat→Tx)(w:Int)(c:Cl 127 [.agg [.str (R 2).1,.str (R 2).2],.agg [.str (R 0).1,.str (R 0).2]] (.tup [.int .i64 w,.int .i64 0]))(hw:InR .i64 w):Cl 126 [.int .i64 0,.int .i64 2,.ref [V.sl2 3 [.str (R 0).1,.str (R 0).2,.str (R 1).1,.str (R 1).2,.str (R 2).1,.str (R 2).2]]] (.int .i64 w):=by
 refine V.en tbOk Tryz.func126 ?_
 refine V.r0 jie ?_
 refine⟨Pq20z,[],V.pok,?_⟩
 refine jab [(6,.int .i64 w)] [] ?_ ?_
 ·exact V.d1 jie c
 refine V.r0 @jiA ?_
 exact Fin.of rfl
theorem cmp3_10 (R:Nat→Tx)(w:Int)(c:Cl 127 [.agg [.str (R 0).1,.str (R 0).2],.agg [.str (R 1).1,.str (R 1).2]] (.tup [.int .i64 w,.int .i64 0]))(hw:InR .i64 w):Cl 126 [.int .i64 1,.int .i64 0,.ref [V.sl2 3 [.str (R 0).1,.str (R 0).2,.str (R 1).1,.str (R 1).2,.str (R 2).1,.str (R 2).2]]] (.int .i64 w):=by
 refine V.en tbOk Tryz.func126 ?_
 refine V.r0 jie ?_
 refine⟨Pq20z,[],V.pok,?_⟩
 refine jab [(6,.int .i64 w)] [] ?_ ?_
 ·exact V.d1 jie c
 refine V.r0 @jiA ?_
 exact Fin.of rfl
theorem cmp3_11 (R:Nat→Tx)(w:Int)(c:Cl 127 [.agg [.str (R 1).1,.str (R 1).2],.agg [.str (R 1).1,.str (R 1).2]] (.tup [.int .i64 w,.int .i64 0]))(hw:InR .i64 w):Cl 126 [.int .i64 1,.int .i64 1,.ref [V.sl2 3 [.str (R 0).1,.str (R 0).2,.str (R 1).1,.str (R 1).2,.str (R 2).1,.str (R 2).2]]] (.int .i64 w):=by
 refine V.en tbOk Tryz.func126 ?_
 refine V.r0 jie ?_
 refine⟨Pq20z,[],V.pok,?_⟩
 refine jab [(6,.int .i64 w)] [] ?_ ?_
 ·exact V.d1 jie c
 refine V.r0 @jiA ?_
 exact Fin.of rfl
theorem cmp3_12 (R:Nat→Tx)(w:Int)(c:Cl 127 [.agg [.str (R 2).1,.str (R 2).2],.agg [.str (R 1).1,.str (R 1).2]] (.tup [.int .i64 w,.int .i64 0]))(hw:InR .i64 w):Cl 126 [.int .i64 1,.int .i64 2,.ref [V.sl2 3 [.str (R 0).1,.str (R 0).2,.str (R 1).1,.str (R 1).2,.str (R 2).1,.str (R 2).2]]] (.int .i64 w):=by
 refine V.en tbOk Tryz.func126 ?_
 refine V.r0 jie ?_
 refine⟨Pq20z,[],V.pok,?_⟩
 refine jab [(6,.int .i64 w)] [] ?_ ?_
 ·exact V.d1 jie c
 refine V.r0 @jiA ?_
 exact Fin.of rfl
theorem cmp3_20 (R:Nat→Tx)(w:Int)(c:Cl 127 [.agg [.str (R 0).1,.str (R 0).2],.agg [.str (R 2).1,.str (R 2).2]] (.tup [.int .i64 w,.int .i64 0]))(hw:InR .i64 w):Cl 126 [.int .i64 2,.int .i64 0,.ref [V.sl2 3 [.str (R 0).1,.str (R 0).2,.str (R 1).1,.str (R 1).2,.str (R 2).1,.str (R 2).2]]] (.int .i64 w):=by
 refine V.en tbOk Tryz.func126 ?_
 refine V.r0 jie ?_
 refine⟨Pq20z,[],V.pok,?_⟩
 refine jab [(6,.int .i64 w)] [] ?_ ?_
 ·exact V.d1 jie c
 refine V.r0 @jiA ?_
 exact Fin.of rfl
theorem cmp3_21 (R:Nat→Tx)(w:Int)(c:Cl 127 [.agg [.str (R 1).1,.str (R 1).2],.agg [.str (R 2).1,.str (R 2).2]] (.tup [.int .i64 w,.int .i64 0]))(hw:InR .i64 w):Cl 126 [.int .i64 2,.int .i64 1,.ref [V.sl2 3 [.str (R 0).1,.str (R 0).2,.str (R 1).1,.str (R 1).2,.str (R 2).1,.str (R 2).2]]] (.int .i64 w):=by
 refine V.en tbOk Tryz.func126 ?_
 refine V.r0 jie ?_
 refine⟨Pq20z,[],V.pok,?_⟩
 refine jab [(6,.int .i64 w)] [] ?_ ?_
 ·exact V.d1 jie c
 refine V.r0 @jiA ?_
 exact Fin.of rfl
theorem cmp3_22 (R:Nat→Tx)(w:Int)(c:Cl 127 [.agg [.str (R 2).1,.str (R 2).2],.agg [.str (R 2).1,.str (R 2).2]] (.tup [.int .i64 w,.int .i64 0]))(hw:InR .i64 w):Cl 126 [.int .i64 2,.int .i64 2,.ref [V.sl2 3 [.str (R 0).1,.str (R 0).2,.str (R 1).1,.str (R 1).2,.str (R 2).1,.str (R 2).2]]] (.int .i64 w):=by
 refine V.en tbOk Tryz.func126 ?_
 refine V.r0 jie ?_
 refine⟨Pq20z,[],V.pok,?_⟩
 refine jab [(6,.int .i64 w)] [] ?_ ?_
 ·exact V.d1 jie c
 refine V.r0 @jiA ?_
 exact Fin.of rfl
theorem cmp3 (R:Nat→Tx)(w:Int→Int→Int)(hw:∀ a b,InR .i64 (w a b))(c:∀ a b:Nat,a<3→b<3→Cl 127 [.agg [.str (R b).1,.str (R b).2],.agg [.str (R a).1,.str (R a).2]] (.tup [.int .i64 (w a b),.int .i64 0])):∀ a b:Nat,a<3→b<3→Cl 126 [.int .i64 a,.int .i64 b,.ref [V.sl2 3 [.str (R 0).1,.str (R 0).2,.str (R 1).1,.str (R 1).2,.str (R 2).1,.str (R 2).2]]] (.int .i64 (w a b)):=fun a b ha hb=>by
 have h1:a=0∨a=1∨a=2:=by omega
 have h2:b=0∨b=1∨b=2:=by omega
 have k:=c a b ha hb
 rcases h1 with e|e|e<;>rcases h2 with g|g|g<;>subst e<;>subst g
 ·exact cmp3_00 R _ k (hw _ _)
 ·exact cmp3_01 R _ k (hw _ _)
 ·exact cmp3_02 R _ k (hw _ _)
 ·exact cmp3_10 R _ k (hw _ _)
 ·exact cmp3_11 R _ k (hw _ _)
 ·exact cmp3_12 R _ k (hw _ _)
 ·exact cmp3_20 R _ k (hw _ _)
 ·exact cmp3_21 R _ k (hw _ _)
 ·exact cmp3_22 R _ k (hw _ _)
def txq (q:Rat):Tx:=(decZ q.num,dec q.den)
def rqN (r0 r1 r2:Rat):Nat→Rat
 | 0=>r0
 | 1=>r1
 | _=>r2
def bqN (rq:Nat→Rat)(o:List Int):Nat→Rat
 | 0=>1
 | k+1=>rq (o.getD k 0).toNat
def wqN (rq:Nat→Rat)(o:List Int)(n k:Nat):Rat:=if k=n then bqN rq o n else bqN rq o k-bqN rq o (k+1)
def slQ (Y:Nat→Tx)(n:Nat):D:=V.sl2 n (wce Y n)
theorem sel_n (r0 r1 r2:Rat):∀ i:Nat,sel r0 r1 r2 (i:Int)=rqN r0 r1 r2 i
 | 0=>by unfold sel;rw[if_pos (by rfl)];rfl
 | 1=>by unfold sel;rw[if_neg (by decide),if_pos (by rfl)];rfl
 | k+2=>by unfold sel;rw[if_neg (by omega),if_neg (by omega)];rfl
theorem cmpW_n (r0 r1 r2:Rat)(a b:Nat):cmpW r0 r1 r2 (a:Int) (b:Int)=ordQ (rqN r0 r1 r2 b) (rqN r0 r1 r2 a):=by unfold cmpW;rw[sel_n,sel_n]
theorem jhy (p q:Rat):InR .i64 (ordQ p q):=by
 unfold ordQ
 split
 ·exact⟨by decide,by decide⟩
 ·split<;>exact⟨by decide,by decide⟩
theorem jbp {n:Nat}{x:Rat}{s:Int}(h:Fq n x)(h0:0<n)(hs:2≤s∧s≤9):Fq (n+3) (spR s x):=by
 have fs:Fq 1 ((s-1:Int):Rat):=jaD (by omega) (by omega)
 have bb:=jdX hs.1 x
 have fi:Fq 1 ((spB s x:Int):Rat):=jaD (by omega) (by omega)
 exact((fq_cl h h0).mul fs).sub fi
theorem fq_rq {r0 r1 r2:Rat}(h0:Fq 43 r0)(h1:Fq 43 r1)(h2:Fq 43 r2):∀ k,Fq 43 (rqN r0 r1 r2 k)
 | 0=>h0
 | 1=>h1
 | _+2=>h2
theorem fq_one:Fq 43 1:=⟨by decide,by decide⟩
theorem jcr:Fq 43 0:=⟨by decide,by decide⟩
theorem fq_bq {rq:Nat→Rat}(h:∀ k,Fq 43 (rq k))(o:List Int):∀ k,Fq 43 (bqN rq o k)
 | 0=>fq_one
 | k+1=>h _
theorem fq_wq {rq:Nat→Rat}(h:∀ k,Fq 43 (rq k))(o:List Int)(n k:Nat):Fq 87 (wqN rq o n k):=by
 unfold wqN
 split
 ·exact(fq_bq h o n).mono (by decide)
 ·exact(fq_bq h o k).sub (fq_bq h o (k+1))
theorem find1_q {x0:Rat}{z0:Int}(out:Int)(data:List Int)(h0:Fq 40 x0)(s0:2≤z0∧z0≤9) :
  Cl 79 [.agg [.ints .i64 [z0],.int .i64 out,.ints .i64 data],slQ (fun i=>txq (rqN x0 0 0 i)) 1] (.tup [.agg [.ints .i64 [z0],.int .i64 out,.ints .i64 data,.ints .i64 [spB z0 x0],.ints .i64 [0],slQ (fun k=>txq (wqN (rqN (spR z0 x0) 0 0) [0] 1 k)) 2],.int .i64 0]):=by
 have p0:=jdH h0 (by decide) s0
 have f0:=jbp h0 (by decide) s0
 have io:=jam (n:=1) (by omega)
 rw[show ((1:Int):Rat)=1 from rfl] at io
 have fr:∀ k,Fq 43 (rqN (spR z0 x0) 0 0 k):=fq_rq f0 jcr jcr
 have cm:=cmp1 (fun i=>txq (rqN (spR z0 x0) 0 0 i)) (cmpW (spR z0 x0) 0 0) (fun a b=>jhy _ _) (fun a b _ _=>by
  have c:=zcmp (fr b) (fr a) (by decide) (by decide)
  rw[← cmpW_n] at c
  exact c)
 have g:=find1_t z0 out (spB z0 x0) data _ _ _ _ (fun i=>txq (rqN (spR z0 x0) 0 0 i)) (fun k=>txq (bqN (rqN (spR z0 x0) 0 0) (isoK (cmpW (spR z0 x0) 0 0) [0] (1-1)) k)) (fun k=>txq (bqN (rqN (spR z0 x0) 0 0) (isoK (cmpW (spR z0 x0) 0 0) [0] (1-1)) k-bqN (rqN (spR z0 x0) 0 0) (isoK (cmpW (spR z0 x0) 0 0) [0] (1-1)) (k+1))) p0 io (cmpW (spR z0 x0) 0 0) cm rfl (fun k _=>rfl) (fun k _=>zsub (fq_bq fr _ k) (fq_bq fr _ (k+1)) (by decide) (by decide) (by decide))
 have e:isoK (cmpW (spR z0 x0) 0 0) [0] (1-1)=[0]:=iso1 _
 rw[e] at g
 exact g
theorem find2_q {x0 x1:Rat}{z0 z1:Int}(out:Int)(data:List Int)(h0:Fq 40 x0)(h1:Fq 40 x1)(s0:2≤z0∧z0≤9)(s1:2≤z1∧z1≤9) :
  Cl 79 [.agg [.ints .i64 [z0,z1],.int .i64 out,.ints .i64 data],slQ (fun i=>txq (rqN x0 x1 0 i)) 2] (.tup [.agg [.ints .i64 [z0,z1],.int .i64 out,.ints .i64 data,.ints .i64 [spB z0 x0,spB z1 x1],.ints .i64 (ord2 (spR z0 x0) (spR z1 x1)),slQ (fun k=>txq (wqN (rqN (spR z0 x0) (spR z1 x1) 0) (ord2 (spR z0 x0) (spR z1 x1)) 2 k)) 3],.int .i64 0]):=by
 have p0:=jdH h0 (by decide) s0
 have f0:=jbp h0 (by decide) s0
 have p1:=jdH h1 (by decide) s1
 have f1:=jbp h1 (by decide) s1
 have io:=jam (n:=1) (by omega)
 rw[show ((1:Int):Rat)=1 from rfl] at io
 have fr:∀ k,Fq 43 (rqN (spR z0 x0) (spR z1 x1) 0 k):=fq_rq f0 f1 jcr
 have cm:=cmp2 (fun i=>txq (rqN (spR z0 x0) (spR z1 x1) 0 i)) (cmpW (spR z0 x0) (spR z1 x1) 0) (fun a b=>jhy _ _) (fun a b _ _=>by
  have c:=zcmp (fr b) (fr a) (by decide) (by decide)
  rw[← cmpW_n] at c
  exact c)
 have g:=find2_t z0 z1 out (spB z0 x0) (spB z1 x1) data _ _ _ _ _ _ (fun i=>txq (rqN (spR z0 x0) (spR z1 x1) 0 i)) (fun k=>txq (bqN (rqN (spR z0 x0) (spR z1 x1) 0) (isoK (cmpW (spR z0 x0) (spR z1 x1) 0) [0,1] (2-1)) k)) (fun k=>txq (bqN (rqN (spR z0 x0) (spR z1 x1) 0) (isoK (cmpW (spR z0 x0) (spR z1 x1) 0) [0,1] (2-1)) k-bqN (rqN (spR z0 x0) (spR z1 x1) 0) (isoK (cmpW (spR z0 x0) (spR z1 x1) 0) [0,1] (2-1)) (k+1))) p0 p1 io (cmpW (spR z0 x0) (spR z1 x1) 0) cm rfl (fun k _=>rfl) (fun k _=>zsub (fq_bq fr _ k) (fq_bq fr _ (k+1)) (by decide) (by decide) (by decide))
 have e:isoK (cmpW (spR z0 x0) (spR z1 x1) 0) [0,1] (2-1)=(ord2 (spR z0 x0) (spR z1 x1)):=iso2 _ _ _
 rw[e] at g
 exact g
theorem find3_q {x0 x1 x2:Rat}{z0 z1 z2:Int}(out:Int)(data:List Int)(h0:Fq 40 x0)(h1:Fq 40 x1)(h2:Fq 40 x2)(s0:2≤z0∧z0≤9)(s1:2≤z1∧z1≤9)(s2:2≤z2∧z2≤9) :
  Cl 79 [.agg [.ints .i64 [z0,z1,z2],.int .i64 out,.ints .i64 data],slQ (fun i=>txq (rqN x0 x1 x2 i)) 3] (.tup [.agg [.ints .i64 [z0,z1,z2],.int .i64 out,.ints .i64 data,.ints .i64 [spB z0 x0,spB z1 x1,spB z2 x2],.ints .i64 (ord3 (spR z0 x0) (spR z1 x1) (spR z2 x2)),slQ (fun k=>txq (wqN (rqN (spR z0 x0) (spR z1 x1) (spR z2 x2)) (ord3 (spR z0 x0) (spR z1 x1) (spR z2 x2)) 3 k)) 4],.int .i64 0]):=by
 have p0:=jdH h0 (by decide) s0
 have f0:=jbp h0 (by decide) s0
 have p1:=jdH h1 (by decide) s1
 have f1:=jbp h1 (by decide) s1
 have p2:=jdH h2 (by decide) s2
 have f2:=jbp h2 (by decide) s2
 have io:=jam (n:=1) (by omega)
 rw[show ((1:Int):Rat)=1 from rfl] at io
 have fr:∀ k,Fq 43 (rqN (spR z0 x0) (spR z1 x1) (spR z2 x2) k):=fq_rq f0 f1 f2
 have cm:=cmp3 (fun i=>txq (rqN (spR z0 x0) (spR z1 x1) (spR z2 x2) i)) (cmpW (spR z0 x0) (spR z1 x1) (spR z2 x2)) (fun a b=>jhy _ _) (fun a b _ _=>by
  have c:=zcmp (fr b) (fr a) (by decide) (by decide)
  rw[← cmpW_n] at c
  exact c)
 have g:=find3_t z0 z1 z2 out (spB z0 x0) (spB z1 x1) (spB z2 x2) data _ _ _ _ _ _ _ _ (fun i=>txq (rqN (spR z0 x0) (spR z1 x1) (spR z2 x2) i)) (fun k=>txq (bqN (rqN (spR z0 x0) (spR z1 x1) (spR z2 x2)) (isoK (cmpW (spR z0 x0) (spR z1 x1) (spR z2 x2)) [0,1,2] (3-1)) k)) (fun k=>txq (bqN (rqN (spR z0 x0) (spR z1 x1) (spR z2 x2)) (isoK (cmpW (spR z0 x0) (spR z1 x1) (spR z2 x2)) [0,1,2] (3-1)) k-bqN (rqN (spR z0 x0) (spR z1 x1) (spR z2 x2)) (isoK (cmpW (spR z0 x0) (spR z1 x1) (spR z2 x2)) [0,1,2] (3-1)) (k+1))) p0 p1 p2 io (cmpW (spR z0 x0) (spR z1 x1) (spR z2 x2)) cm rfl (fun k _=>rfl) (fun k _=>zsub (fq_bq fr _ k) (fq_bq fr _ (k+1)) (by decide) (by decide) (by decide))
 have e:isoK (cmpW (spR z0 x0) (spR z1 x1) (spR z2 x2)) [0,1,2] (3-1)=(ord3 (spR z0 x0) (spR z1 x1) (spR z2 x2)):=iso3 _ _ _
 rw[e] at g
 exact g
end Go.Proofs.YtgjgpdceghjajaaGreatDoor
end
section
namespace Go.Proofs.YtgjgpdceghjajaaGreatDoor
open Go Go.V
theorem jeb (n l h:Int):Cl 39 [.int .i64 n,.int .i64 l,.int .i64 h] (.bool (decide (l≤n) && decide (n≤h))):=by
 refine V.en tbOk Tryz.func39 ?_
 (conv=>whnf)
 refine V.st ?_
 exact Fin.same _
def prod (xs:List Int):Int:=xs.foldl (· * ·) 1
theorem jb0 {xs:List Int}{k:Nat}{x:Int}(h:xs[k]? = some x):prod (xs.take (k+1))=prod (xs.take k)*x:=by
 rw[jjr,h];simp[prod]
theorem product_c (xs:List Int)(hx:∀ k,k≤xs.length→InR .i64 (prod (xs.take k)))(hl:xs.length≤281474976710656):Cl 69 [.ints .i64 xs] (.int .i64 (prod xs)):=by
 refine V.en tbOk Tryz.func69 ?_
 (conv=>whnf)
 refine lp_go (xs.length) (fun k=>True) (fun k=>[(3,.int .i64 (prod (xs.take k))),(8,.int .i64 k)]) (fun k=>[]) V.wk ?_ ?_
 ·trivial
 intro k hk _
 (conv=>whnf)
 refine V.st ?_
 refine V.br (fun h=>?_) (fun h=>?_)
 ·simp only[decide_eq_true_eq] at h
  obtain⟨x,hx1,ex⟩:=getx (xs:=xs) (k:=k) (by omega)
  have hp:=jb0 hx1
  have hr:=hx (k+1) (by omega)
  (conv=>whnf)
  refine V.st ?_
  rw[ex,← hp]
  refine V.st ?_
  exact⟨k+1,⟨by omega,trivial⟩,by omega,V.wk⟩
 ·simp only[decide_eq_false_iff_not] at h
  (conv=>whnf)
  refine V.st ?_
  have:prod (xs.take k)=prod xs:=by rw[jjj (by omega)]
  rw[this]
  exact Fin.same _
theorem points_c (xs:List Int)(hx:∀ k,k≤xs.length→InR .i64 (prod (xs.take k)))(hl:xs.length≤281474976710656):Cl 70 [.ints .i64 xs] (.int .i64 (prod xs)):=by
 refine V.en tbOk Tryz.func70 ?_
 (conv=>whnf)
 refine lp_go (xs.length) (fun k=>True) (fun k=>[(3,.int .i64 (prod (xs.take k))),(4,.int .i64 k)]) (fun k=>[]) V.wk ?_ ?_
 ·trivial
 intro k hk _
 (conv=>whnf)
 refine V.st ?_
 refine V.br (fun h=>?_) (fun h=>?_)
 ·simp only[decide_eq_true_eq] at h
  obtain⟨x,hx1,ex⟩:=getx (xs:=xs) (k:=k) (by omega)
  have hp:=jb0 hx1
  have hr:=hx (k+1) (by omega)
  (conv=>whnf)
  refine V.st ?_
  rw[ex,← hp]
  refine V.st ?_
  exact⟨k+1,⟨by omega,trivial⟩,by omega,V.wk⟩
 ·simp only[decide_eq_false_iff_not] at h
  (conv=>whnf)
  refine V.st ?_
  have:prod (xs.take k)=prod xs:=by rw[jjj (by omega)]
  rw[this]
  exact Fin.same _
theorem jgt (xs ys:List Int)(hl:xs.length≤281474976710656)(hm:ys.length≤281474976710656):Cl 34 [.ints .i64 xs,.ints .i64 ys] (.bool (decide (xs=ys))):=by
 refine V.en tbOk Tryz.func34 ?_
 (conv=>whnf)
 refine V.br (fun h=>?_) (fun h=>?_)
 ·have hne:xs≠ys:=fun e=>by subst e;simp at h
  (conv=>whnf)
  refine V.st ?_
  exact Fin.of (by simp[hne])
 have hle:xs.length=ys.length:=by simp at h;omega
 clear h
 (conv=>whnf)
 refine V.st ?_
 refine lp_go (xs.length) (fun k=>xs.take k=ys.take k) (fun k=>[(13,.int .i64 k)]) (fun k=>[]) V.wk ?_ ?_
 ·rfl
 intro k hk hI
 (conv=>whnf)
 refine V.st ?_
 refine V.br (fun h=>?_) (fun h=>?_)
 ·simp only[decide_eq_true_eq] at h
  obtain⟨x,hx1,ex⟩:=getx (xs:=xs) (k:=k) (by omega)
  obtain⟨y,hy1,ey⟩:=getx (xs:=ys) (k:=k) (by omega)
  (conv=>whnf)
  refine V.st ?_
  refine⟨Pq19z,[],V.pok,.go (jae ?_)⟩
  (conv=>whnf)
  refine V.st ?_
  rw[ex,ey]
  refine V.br (fun hb=>?_) (fun hb=>?_)
  ·have hne:xs≠ys:=fun e=>by subst e;rw[hx1] at hy1;cases hy1;simp at hb
   (conv=>whnf)
   refine V.st ?_
   exact Fin.of (by simp[hne])
  ·have hxy:x=y:=by simpa using hb
   (conv=>whnf)
   refine V.st ?_
   exact⟨k+1,⟨by omega,(by rw[jjr,jjr,hI,hx1,hy1,hxy])⟩,by omega,V.wk⟩
 ·simp only[decide_eq_false_iff_not] at h
  have:xs=ys:=by rw[← jjj (l:=xs) (i:=k) (by omega),← jjj (l:=ys) (i:=k) (by omega),hI]
  (conv=>whnf)
  refine V.st ?_
  exact Fin.of (by simp[this])
theorem clone_c (xs:List Int)(hl:xs.length≤17592186044416):Cl 19 [.ints .i64 xs] (.ints .i64 xs):=by
 refine V.en tbOk Tryz.func19 ?_
 (conv=>whnf)
 refine⟨fun h=>?_,fun _=>?_⟩
 ·have hx:=h rfl
  subst hx
  (conv=>whnf)
  refine V.st ?_
  exact Fin.nil _
 ·(conv=>whnf)
  refine⟨fun _=>⟨rfl,by simpa using hl⟩,?_⟩
  (conv=>whnf)
  exact Fin.of (by simp)
def gridD (size:List Int)(out:Int)(data:List Int):D := .agg [.ints .i64 size,.int .i64 out,.ints .i64 data]
def jaj (size:List Int)(out:Int)(data:List Int):Bool:=
 decide (1≤size.length∧size.length≤4) && decide (1≤out∧out≤4) && size.all (fun n=>decide (2≤n∧n≤9)) && decide ((data.length:Int)≤4096∧(data.length:Int)=prod size*out) && data.all fun v=>decide (0≤v∧v≤65535)
theorem jhz {size:List Int}{out:Int}{data:List Int}{k:Nat}{x:Int}(hx:size[k]? = some x)(h:¬ (2≤x∧x≤9)):jaj size out data=false:=by
 have hm:x∈size:=ji9 hx
 have:size.all (fun n=>decide (2≤n∧n≤9))=false:=by
  rw[List.all_eq_false];exact⟨x,hm,by simpa using h⟩
 unfold jaj;rw[this];simp only[Bool.and_false,Bool.false_and]
theorem jhA {size:List Int}{out:Int}{data:List Int}{k:Nat}{x:Int}(hx:data[k]? = some x)(h:¬ (0≤x∧x≤65535)):jaj size out data=false:=by
 have hm:x∈data:=ji9 hx
 have:data.all (fun v=>decide (0≤v∧v≤65535))=false:=by
  rw[List.all_eq_false];exact⟨x,hm,by simpa using h⟩
 unfold jaj;rw[this];simp only[Bool.and_false,Bool.false_and]
theorem jgd {size:List Int}(hall:size.all (fun n=>decide (2≤n∧n≤9))=true)(k:Nat):0≤prod (size.take k)∧(size.length≤4→prod (size.take k)≤6561)∧(size.length≤4→InR .i64 (prod (size.take k))):=by
 have hb:∀ l:List Int,(∀ n∈l,2≤n∧n≤9) → ∀ a:Int,0≤a→0≤l.foldl (· * ·) a∧l.foldl (· * ·) a≤a*9^l.length:=by
  intro l
  induction l with
  | nil=>intro _ a ha;simp;exact ha
  | cons x l ih=>
   intro hl a ha
   have hx:=hl x (by simp)
   have h1:0≤a*x:=jiz ha (by omega)
   have h2:=ih (fun n hn=>hl n (by simp[hn])) (a*x) h1
   refine⟨h2.1,ji2 h2.2 ?_⟩
   have h3:a*x≤a*9:=jiQ hx.2 ha
   have h4:a*x*9^l.length≤a*9*9^l.length:=jiH h3 (Int.pow_nonneg (by omega))
   have h5:a*9^(x::l).length=a*9*9^l.length:=by
    rw[jji,Int.pow_succ,jiO _ 9,← jiP]
   rw[h5];exact h4
 simp only[ji4,decide_eq_true_eq] at hall
 have h1:=hb (size.take k) (fun n hn=>hall n (jjg hn)) 1 (by omega)
 have h2:size.length≤4→prod (size.take k)≤6561:=by
  intro h
  refine ji2 h1.2 ?_
  have:(size.take k).length≤4:=by simp;omega
  generalize (size.take k).length=m at this
  match m,this with
  | 0,_=>decide
  | 1,_=>decide
  | 2,_=>decide
  | 3,_=>decide
  | 4,_=>decide
  | m+5,h=>omega
 refine⟨h1.1,h2,fun h=>?_⟩
 have h3:=h2 h
 have h4:=h1.1
 simp only[V.InR,lo,hi]
 simp only[prod] at *
 omega
theorem prodm_bd {size:List Int}{out:Int}(hall:size.all (fun n=>decide (2≤n∧n≤9))=true)(h1:size.length≤4)(h2:1≤out∧out≤4):InR .i64 (prod size*out):=by
 have h3:=jgd hall size.length
 rw[jjs] at h3
 have h4:prod size≤6561:=h3.2.1 h1
 have h5:0≤prod size*out:=jiz h3.1 (by omega)
 have h6:prod size*out≤6561*4:=Int.mul_le_mul h4 h2.2 (by omega) (by omega)
 simp only[V.InR,lo,hi];omega
theorem jfj (size:List Int)(out:Int)(data:List Int)(hs:size.length≤281474976710656)(hd:data.length≤281474976710656) :
  Cl 37 [gridD size out data] (.int .i64 (if jaj size out data then 0 else 100)):=by
 refine V.en tbOk Tryz.func37 ?_
 (conv=>whnf)
 refine V.st ?_
 repeat ((try ((with_reducible refine .ext ?_);(conv=>whnf)));(with_reducible refine jaa (r:=?_) ?_ ?_);rotate_left;(focus (first|exact(jeb _ _ _)));(conv=>whnf);refine V.st ?_)
 refine V.br (fun h=>?_) (fun h=>?_)
 ·(conv=>whnf)
  refine V.st ?_
  refine Fin.of ?_
  have:jaj size out data=false:=by
   simp only[jaj]
   simp at h
   simp
   omega
  rw[this];rfl
 have h1:1≤size.length∧size.length≤4∧1≤out∧out≤4:=by
  simp at h;omega
 clear h
 (conv=>whnf)
 refine V.st ?_
 refine lp_inv size.length (fun k=>(size.take k).all (fun n=>decide (2≤n∧n≤9))=true) (fun k=>[(1,.box 1 0),(19,.ints .i64 size),(20,.int .i64 size.length),(21,.int .i64 k)]) (fun _=>[(1,.box [.ints .i64 size,.int .i64 out,.ints .i64 data])]) ?_ rfl ?_
 ·exact Wk.of ⟨rfl,rfl,rfl,rfl,trivial⟩ ⟨rfl,trivial⟩
 intro k hk hI
 (conv=>whnf)
 refine V.st ?_
 refine V.br (fun h=>?_) (fun h=>?_)
 ·simp only[decide_eq_true_eq] at h
  obtain⟨x,hx1⟩:∃ x,size[k]? = some x:=⟨size[k],ji8 (by omega)⟩
  have ex:=V.getD_toNat size k x hx1
  (conv=>whnf)
  refine V.st ?_
  repeat ((try ((with_reducible refine .ext ?_);(conv=>whnf)));(with_reducible refine jaa (r:=?_) ?_ ?_);rotate_left;(focus (first|exact(jeb _ _ _)));(conv=>whnf);refine V.st ?_)
  rw[ex]
  refine V.br (fun h=>?_) (fun h=>?_)
  ·(conv=>whnf)
   refine V.st ?_
   refine Fin.of ?_
   rw[jhz hx1 (by simp at h;omega)];rfl
  ·(conv=>whnf)
   refine V.st ?_
   exact⟨k+1,⟨by omega,by rw[jjr,List.all_append,hI,hx1];simp at h ⊢; omega⟩,by omega,Wk.of ⟨rfl,rfl,rfl,rfl,trivial⟩ ⟨rfl,trivial⟩⟩
 ·(conv=>whnf)
  refine V.st ?_
  simp only[decide_eq_false_iff_not] at h
  have hall:size.all (fun n=>decide (2≤n∧n≤9))=true:=by rw[← hI,jjj (by omega)]
  have hp:=jgd hall
  have hm:=prodm_bd hall h1.2.1 h1.2.2
  refine⟨(V.tk [0,1,2,3,4,5,6,7,8,9,11,12] (V.e1 10 [12,11,7,6,5] (V.tk [13,14,15] .done))),[],V.pok,.go (jae ?_)⟩
  (conv=>whnf)
  refine V.st ?_
  repeat ((try ((with_reducible refine .ext ?_);(conv=>whnf)));(with_reducible refine jaa (r:=?_) ?_ ?_);rotate_left;(focus (first|exact(product_c _ (fun k _=>(hp k).2.2 h1.2.1) hs)));(conv=>whnf);refine V.st ?_)
  refine V.br (fun h=>?_) (fun h=>?_)
  ·(conv=>whnf)
   refine V.st ?_
   refine Fin.of ?_
   have:jaj size out data=false:=by
    unfold jaj
    have:(decide ((data.length:Int)≤4096∧(data.length:Int)=prod size*out))=false:=by simp at h ⊢; omega
    rw[this];simp
   rw[this];rfl
  have h2:(data.length:Int)≤4096∧(data.length:Int)=prod size*out:=by simp at h;omega
  clear h
  (conv=>whnf)
  refine V.st ?_
  refine lp_inv data.length (fun k=>(data.take k).all (fun v=>decide (0≤v∧v≤65535))=true) (fun k=>[(1,.box 1 0),(46,.ints .i64 data),(47,.int .i64 data.length),(48,.int .i64 k)]) (fun _=>[(1,.box [.ints .i64 size,.int .i64 out,.ints .i64 data])]) ?_ rfl ?_
  ·exact Wk.of ⟨rfl,rfl,rfl,rfl,trivial⟩ ⟨rfl,trivial⟩
  intro k hk hI
  (conv=>whnf)
  refine V.st ?_
  refine V.br (fun h=>?_) (fun h=>?_)
  ·simp only[decide_eq_true_eq] at h
   obtain⟨x,hx1⟩:∃ x,data[k]? = some x:=⟨data[k],ji8 (by omega)⟩
   have ex:=V.getD_toNat data k x hx1
   (conv=>whnf)
   refine V.st ?_
   repeat ((try ((with_reducible refine .ext ?_);(conv=>whnf)));(with_reducible refine jaa (r:=?_) ?_ ?_);rotate_left;(focus (first|exact(jeb _ _ _)));(conv=>whnf);refine V.st ?_)
   rw[ex]
   refine V.br (fun h=>?_) (fun h=>?_)
   ·(conv=>whnf)
    refine V.st ?_
    refine Fin.of ?_
    rw[jhA hx1 (by simp at h;omega)];rfl
   ·(conv=>whnf)
    refine V.st ?_
    exact⟨k+1,⟨by omega,by rw[jjr,List.all_append,hI,hx1];simp at h ⊢; omega⟩,by omega,Wk.of ⟨rfl,rfl,rfl,rfl,trivial⟩ ⟨rfl,trivial⟩⟩
  ·(conv=>whnf)
   refine V.st ?_
   simp only[decide_eq_false_iff_not] at h
   have hall2:data.all (fun v=>decide (0≤v∧v≤65535))=true:=by rw[← hI,jjj (by omega)]
   have:jaj size out data=true:=by
    unfold jaj
    rw[hall,hall2];simp;omega
   refine Fin.of ?_
   rw[this];rfl
end Go.Proofs.YtgjgpdceghjajaaGreatDoor
end
