/- What functions of the program answer at given values, part 12. Conditions: those that each theorem names. -/
import Derived.Test.YtbhpaandigaanaaGreatDoorLocateBackH11
import Derived.Test.YtbhpaandigaanaaGreatDoorLocateBackH6
import Derived.Test.YtbhpaandigaanaaGreatDoorLocateBackH7
import Derived.Test.YtbhpaandigaanaaGreatDoorLocateBackH10
set_option linter.unusedSimpArgs false
set_option linter.unusedVariables false
set_option maxHeartbeats 8000000
set_option maxRecDepth 100000
section
namespace Go.Proofs.YtbhpaandigaanaaGreatDoor
open Go Go.V Go.Nb
theorem xk4:((4:Nat):Int)=4:=rfl
theorem xt4:(4:Int).toNat=4:=rfl
theorem jgL:type_of% @jg8∧type_of% @tn0∧type_of% @tn1∧type_of% @tn2∧type_of% @tn3∧type_of% @xt4:=⟨@jg8,@tn0,@tn1,@tn2,@tn3,@xt4⟩
theorem list1_2 {F e0 n0 e1 n1:Nat}{f0 f1:Nat→List D}{z:Int}(T:Nat→Tx)(c0:Cl F (.int .i64 0::[.ref [.slf e0 n0 f0],.ref [.slf e1 n1 f1]]) (.tup [.agg [.str (T 0).1,.str (T 0).2],.int .i64 0])) :
  Cl 38 [.int .i64 1,.fn F [] [.ref [.slf e0 n0 f0],.ref [.slf e1 n1 f1]]] (.tup [V.sl2 1 [.str (T 0).1,.str (T 0).2],.int .i64 0]):=by
 refine V.en tbOk Tryz.func38 ?_
 refine V.r0 @jg8 ?_
 refine jae (0) (fun k=>k≤1) (fun k=>1-k) (fun k=>[(14,.int .i64 k)]) (fun k=>[(11,.box (preD (2*k) [.str (T 0).1,.str (T 0).2]))]) ?_ ?_ ?_
 ·exact V.wk
 ·exact jg2 _
 intro k hk
 have hk4:k=0∨k=1:=by omega
 rcases hk4 with e|e
 all_goals subst e
 ·simp only[k0]
  refine V.r1 jgL c0 ?_
  exact⟨1,by omega,by omega,V.wk⟩
 ·simp only[k1]
  refine V.r0 @jg8 ?_
  exact Fin.of rfl
theorem list2_2 {F e0 n0 e1 n1:Nat}{f0 f1:Nat→List D}{z:Int}(T:Nat→Tx)(c0:Cl F (.int .i64 0::[.ref [.slf e0 n0 f0],.ref [.slf e1 n1 f1]]) (.tup [.agg [.str (T 0).1,.str (T 0).2],.int .i64 0]))(c1:Cl F (.int .i64 1::[.ref [.slf e0 n0 f0],.ref [.slf e1 n1 f1]]) (.tup [.agg [.str (T 1).1,.str (T 1).2],.int .i64 0])) :
  Cl 38 [.int .i64 2,.fn F [] [.ref [.slf e0 n0 f0],.ref [.slf e1 n1 f1]]] (.tup [V.sl2 2 [.str (T 0).1,.str (T 0).2,.str (T 1).1,.str (T 1).2],.int .i64 0]):=by
 refine V.en tbOk Tryz.func38 ?_
 refine V.r0 @jg8 ?_
 refine jae (0) (fun k=>k≤2) (fun k=>2-k) (fun k=>[(14,.int .i64 k)]) (fun k=>[(11,.box (preD (2*k) [.str (T 0).1,.str (T 0).2,.str (T 1).1,.str (T 1).2]))]) ?_ ?_ ?_
 ·exact V.wk
 ·exact jg2 _
 intro k hk
 have hk4:k=0∨k=1∨k=2:=by omega
 rcases hk4 with e|e|e
 all_goals subst e
 ·simp only[k0]
  refine V.r1 jgL c0 ?_
  exact⟨1,by omega,by omega,V.wk⟩
 ·simp only[k1]
  refine V.r1 jgL c1 ?_
  exact⟨2,by omega,by omega,V.wk⟩
 ·simp only[k2]
  refine V.r0 @jg8 ?_
  exact Fin.of rfl
theorem list3_2 {F e0 n0 e1 n1:Nat}{f0 f1:Nat→List D}{z:Int}(T:Nat→Tx)(c0:Cl F (.int .i64 0::[.ref [.slf e0 n0 f0],.ref [.slf e1 n1 f1]]) (.tup [.agg [.str (T 0).1,.str (T 0).2],.int .i64 0]))(c1:Cl F (.int .i64 1::[.ref [.slf e0 n0 f0],.ref [.slf e1 n1 f1]]) (.tup [.agg [.str (T 1).1,.str (T 1).2],.int .i64 0]))(c2:Cl F (.int .i64 2::[.ref [.slf e0 n0 f0],.ref [.slf e1 n1 f1]]) (.tup [.agg [.str (T 2).1,.str (T 2).2],.int .i64 0])) :
  Cl 38 [.int .i64 3,.fn F [] [.ref [.slf e0 n0 f0],.ref [.slf e1 n1 f1]]] (.tup [V.sl2 3 [.str (T 0).1,.str (T 0).2,.str (T 1).1,.str (T 1).2,.str (T 2).1,.str (T 2).2],.int .i64 0]):=by
 refine V.en tbOk Tryz.func38 ?_
 refine V.r0 @jg8 ?_
 refine jae (0) (fun k=>k≤3) (fun k=>3-k) (fun k=>[(14,.int .i64 k)]) (fun k=>[(11,.box (preD (2*k) [.str (T 0).1,.str (T 0).2,.str (T 1).1,.str (T 1).2,.str (T 2).1,.str (T 2).2]))]) ?_ ?_ ?_
 ·exact V.wk
 ·exact jg2 _
 intro k hk
 have hk4:k=0∨k=1∨k=2∨k=3:=by omega
 rcases hk4 with e|e|e|e
 all_goals subst e
 ·simp only[k0]
  refine V.r1 jgL c0 ?_
  exact⟨1,by omega,by omega,V.wk⟩
 ·simp only[k1]
  refine V.r1 jgL c1 ?_
  exact⟨2,by omega,by omega,V.wk⟩
 ·simp only[k2]
  refine V.r1 jgL c2 ?_
  exact⟨3,by omega,by omega,V.wk⟩
 ·simp only[k3]
  refine V.r0 @jg8 ?_
  exact Fin.of rfl
theorem list4_2 {F e0 n0 e1 n1:Nat}{f0 f1:Nat→List D}{z:Int}(T:Nat→Tx)(c0:Cl F (.int .i64 0::[.ref [.slf e0 n0 f0],.ref [.slf e1 n1 f1]]) (.tup [.agg [.str (T 0).1,.str (T 0).2],.int .i64 0]))(c1:Cl F (.int .i64 1::[.ref [.slf e0 n0 f0],.ref [.slf e1 n1 f1]]) (.tup [.agg [.str (T 1).1,.str (T 1).2],.int .i64 0]))(c2:Cl F (.int .i64 2::[.ref [.slf e0 n0 f0],.ref [.slf e1 n1 f1]]) (.tup [.agg [.str (T 2).1,.str (T 2).2],.int .i64 0]))(c3:Cl F (.int .i64 3::[.ref [.slf e0 n0 f0],.ref [.slf e1 n1 f1]]) (.tup [.agg [.str (T 3).1,.str (T 3).2],.int .i64 0])) :
  Cl 38 [.int .i64 4,.fn F [] [.ref [.slf e0 n0 f0],.ref [.slf e1 n1 f1]]] (.tup [V.sl2 4 [.str (T 0).1,.str (T 0).2,.str (T 1).1,.str (T 1).2,.str (T 2).1,.str (T 2).2,.str (T 3).1,.str (T 3).2],.int .i64 0]):=by
 refine V.en tbOk Tryz.func38 ?_
 refine V.r0 @jg8 ?_
 refine jae (0) (fun k=>k≤4) (fun k=>4-k) (fun k=>[(14,.int .i64 k)]) (fun k=>[(11,.box (preD (2*k) [.str (T 0).1,.str (T 0).2,.str (T 1).1,.str (T 1).2,.str (T 2).1,.str (T 2).2,.str (T 3).1,.str (T 3).2]))]) ?_ ?_ ?_
 ·exact V.wk
 ·exact jg2 _
 intro k hk
 have hk4:k=0∨k=1∨k=2∨k=3∨k=4:=by omega
 rcases hk4 with e|e|e|e|e
 all_goals subst e
 ·simp only[k0]
  refine V.r1 jgL c0 ?_
  exact⟨1,by omega,by omega,V.wk⟩
 ·simp only[k1]
  refine V.r1 jgL c1 ?_
  exact⟨2,by omega,by omega,V.wk⟩
 ·simp only[k2]
  refine V.r1 jgL c2 ?_
  exact⟨3,by omega,by omega,V.wk⟩
 ·simp only[k3]
  refine V.r1 jgL c3 ?_
  exact⟨4,by omega,by omega,V.wk⟩
 ·simp only[xk4]
  refine V.r0 @jg8 ?_
  exact Fin.of rfl
theorem list4_3 {F e0 n0 e1 n1:Nat}{f0 f1:Nat→List D}{z:Int}(T:Nat→Tx)(c0:Cl F (.int .i64 0::[.ref [.slf e0 n0 f0],.ref [.slf e1 n1 f1],.ref [.int .i64 z]]) (.tup [.agg [.str (T 0).1,.str (T 0).2],.int .i64 0]))(c1:Cl F (.int .i64 1::[.ref [.slf e0 n0 f0],.ref [.slf e1 n1 f1],.ref [.int .i64 z]]) (.tup [.agg [.str (T 1).1,.str (T 1).2],.int .i64 0]))(c2:Cl F (.int .i64 2::[.ref [.slf e0 n0 f0],.ref [.slf e1 n1 f1],.ref [.int .i64 z]]) (.tup [.agg [.str (T 2).1,.str (T 2).2],.int .i64 0]))(c3:Cl F (.int .i64 3::[.ref [.slf e0 n0 f0],.ref [.slf e1 n1 f1],.ref [.int .i64 z]]) (.tup [.agg [.str (T 3).1,.str (T 3).2],.int .i64 0])) :
  Cl 38 [.int .i64 4,.fn F [] [.ref [.slf e0 n0 f0],.ref [.slf e1 n1 f1],.ref [.int .i64 z]]] (.tup [V.sl2 4 [.str (T 0).1,.str (T 0).2,.str (T 1).1,.str (T 1).2,.str (T 2).1,.str (T 2).2,.str (T 3).1,.str (T 3).2],.int .i64 0]):=by
 refine V.en tbOk Tryz.func38 ?_
 refine V.r0 @jg8 ?_
 refine jae (0) (fun k=>k≤4) (fun k=>4-k) (fun k=>[(14,.int .i64 k)]) (fun k=>[(11,.box (preD (2*k) [.str (T 0).1,.str (T 0).2,.str (T 1).1,.str (T 1).2,.str (T 2).1,.str (T 2).2,.str (T 3).1,.str (T 3).2]))]) ?_ ?_ ?_
 ·exact V.wk
 ·exact jg2 _
 intro k hk
 have hk4:k=0∨k=1∨k=2∨k=3∨k=4:=by omega
 rcases hk4 with e|e|e|e|e
 all_goals subst e
 ·simp only[k0]
  refine V.r1 jgL c0 ?_
  exact⟨1,by omega,by omega,V.wk⟩
 ·simp only[k1]
  refine V.r1 jgL c1 ?_
  exact⟨2,by omega,by omega,V.wk⟩
 ·simp only[k2]
  refine V.r1 jgL c2 ?_
  exact⟨3,by omega,by omega,V.wk⟩
 ·simp only[k3]
  refine V.r1 jgL c3 ?_
  exact⟨4,by omega,by omega,V.wk⟩
 ·simp only[xk4]
  refine V.r0 @jg8 ?_
  exact Fin.of rfl
theorem sum4 (P S:Nat→Tx)(h0:S 0=P 0)(c0:Cl 70 [.agg [.str (S 0).1,.str (S 0).2],.agg [.str (P 1).1,.str (P 1).2]] (.tup [.agg [.str (S 1).1,.str (S 1).2],.int .i64 0]))(c1:Cl 70 [.agg [.str (S 1).1,.str (S 1).2],.agg [.str (P 2).1,.str (P 2).2]] (.tup [.agg [.str (S 2).1,.str (S 2).2],.int .i64 0]))(c2:Cl 70 [.agg [.str (S 2).1,.str (S 2).2],.agg [.str (P 3).1,.str (P 3).2]] (.tup [.agg [.str (S 3).1,.str (S 3).2],.int .i64 0])) :
  Cl 43 [V.sl2 4 [.str (P 0).1,.str (P 0).2,.str (P 1).1,.str (P 1).2,.str (P 2).1,.str (P 2).2,.str (P 3).1,.str (P 3).2]] (.tup [.agg [.str (S 3).1,.str (S 3).2],.int .i64 0]):=by
 have h1:(S 0).1=(P 0).1∧(S 0).2=(P 0).2:=by rw[h0];exact⟨rfl,rfl⟩
 refine V.en tbOk Tryz.func43 ?_
 refine V.r0 jgL ?_
 refine jae (0) (fun k=>k≤3) (fun k=>3-k) (fun k=>[(14,.int .i64 k)]) (fun k=>[(4,.box [.str (S k).1,.str (S k).2])]) ?_ ?_ ?_
 ·rw[h1.1,h1.2]
  exact V.wk
 ·exact jg2 _
 intro k hk
 have hk4:k=0∨k=1∨k=2∨k=3:=by omega
 rcases hk4 with e|e|e|e
 all_goals subst e
 ·simp only[k0]
  refine V.r1 jgL c0 ?_
  exact⟨1,by omega,by omega,V.wk⟩
 ·simp only[k1]
  refine V.r1 jgL c1 ?_
  exact⟨2,by omega,by omega,V.wk⟩
 ·simp only[k2]
  refine V.r1 jgL c2 ?_
  exact⟨3,by omega,by omega,V.wk⟩
 ·simp only[k3]
  refine V.r0 @jg8 ?_
  exact Fin.of rfl
theorem zX14_1:type_of% @jha∧type_of% @jg8∧type_of% @tn0∧type_of% @tn1∧type_of% @tn2∧type_of% @tn3∧type_of% @xt4:=⟨@jha,@jg8,@tn0,@tn1,@tn2,@tn3,@xt4⟩
theorem prod4_0 (W M:Nat→Tx)(U:Nat→List Int)(out:Nat)(g0 g1:List UInt8)(hl:out<(U 0).length)(ig:Cl 42 [.int .i64 ((U 0).getD out 0)] (.agg [.str g0,.str g1]))
  (mu:Cl 41 [.agg [.str (W 0).1,.str (W 0).2],.agg [.str g0,.str g1]] (.tup [.agg [.str (M 0).1,.str (M 0).2],.int .i64 0])) :
  Cl 40 [.int .i64 0,.ref [V.sl2 4 [.str (W 0).1,.str (W 0).2,.str (W 1).1,.str (W 1).2,.str (W 2).1,.str (W 2).2,.str (W 3).1,.str (W 3).2]],.ref [.slf 1 4 (fun j=>List.take 1 (List.drop (j*1) [.ints .i64 (U 0),.ints .i64 (U 1),.ints .i64 (U 2),.ints .i64 (U 3)]))],.ref [.int .i64 out]] (.tup [.agg [.str (M 0).1,.str (M 0).2],.int .i64 0]):=by
 have hi:(out:Int)<(U 0).length:=by omega
 refine V.en tbOk Tryz.func40 ?_
 refine V.r0 jgL ?_
 refine⟨Pq13z,[],V.pok,?_⟩
 refine jad [(6,.int .i64 0)] [(5,.box [.str (M 0).1,.str (M 0).2])] ?_ ?_
 ·exact V.d2 zX14_1 ig mu
 refine V.r0 @jg8 ?_
 exact Fin.of rfl
theorem prod4_1 (W M:Nat→Tx)(U:Nat→List Int)(out:Nat)(g0 g1:List UInt8)(hl:out<(U 1).length)(ig:Cl 42 [.int .i64 ((U 1).getD out 0)] (.agg [.str g0,.str g1]))
  (mu:Cl 41 [.agg [.str (W 1).1,.str (W 1).2],.agg [.str g0,.str g1]] (.tup [.agg [.str (M 1).1,.str (M 1).2],.int .i64 0])) :
  Cl 40 [.int .i64 1,.ref [V.sl2 4 [.str (W 0).1,.str (W 0).2,.str (W 1).1,.str (W 1).2,.str (W 2).1,.str (W 2).2,.str (W 3).1,.str (W 3).2]],.ref [.slf 1 4 (fun j=>List.take 1 (List.drop (j*1) [.ints .i64 (U 0),.ints .i64 (U 1),.ints .i64 (U 2),.ints .i64 (U 3)]))],.ref [.int .i64 out]] (.tup [.agg [.str (M 1).1,.str (M 1).2],.int .i64 0]):=by
 have hi:(out:Int)<(U 1).length:=by omega
 refine V.en tbOk Tryz.func40 ?_
 refine V.r0 jgL ?_
 refine⟨Pq13z,[],V.pok,?_⟩
 refine jad [(6,.int .i64 0)] [(5,.box [.str (M 1).1,.str (M 1).2])] ?_ ?_
 ·exact V.d2 zX14_1 ig mu
 refine V.r0 @jg8 ?_
 exact Fin.of rfl
theorem prod4_2 (W M:Nat→Tx)(U:Nat→List Int)(out:Nat)(g0 g1:List UInt8)(hl:out<(U 2).length)(ig:Cl 42 [.int .i64 ((U 2).getD out 0)] (.agg [.str g0,.str g1]))
  (mu:Cl 41 [.agg [.str (W 2).1,.str (W 2).2],.agg [.str g0,.str g1]] (.tup [.agg [.str (M 2).1,.str (M 2).2],.int .i64 0])) :
  Cl 40 [.int .i64 2,.ref [V.sl2 4 [.str (W 0).1,.str (W 0).2,.str (W 1).1,.str (W 1).2,.str (W 2).1,.str (W 2).2,.str (W 3).1,.str (W 3).2]],.ref [.slf 1 4 (fun j=>List.take 1 (List.drop (j*1) [.ints .i64 (U 0),.ints .i64 (U 1),.ints .i64 (U 2),.ints .i64 (U 3)]))],.ref [.int .i64 out]] (.tup [.agg [.str (M 2).1,.str (M 2).2],.int .i64 0]):=by
 have hi:(out:Int)<(U 2).length:=by omega
 refine V.en tbOk Tryz.func40 ?_
 refine V.r0 jgL ?_
 refine⟨Pq13z,[],V.pok,?_⟩
 refine jad [(6,.int .i64 0)] [(5,.box [.str (M 2).1,.str (M 2).2])] ?_ ?_
 ·exact V.d2 zX14_1 ig mu
 refine V.r0 @jg8 ?_
 exact Fin.of rfl
theorem prod4_3 (W M:Nat→Tx)(U:Nat→List Int)(out:Nat)(g0 g1:List UInt8)(hl:out<(U 3).length)(ig:Cl 42 [.int .i64 ((U 3).getD out 0)] (.agg [.str g0,.str g1]))
  (mu:Cl 41 [.agg [.str (W 3).1,.str (W 3).2],.agg [.str g0,.str g1]] (.tup [.agg [.str (M 3).1,.str (M 3).2],.int .i64 0])) :
  Cl 40 [.int .i64 3,.ref [V.sl2 4 [.str (W 0).1,.str (W 0).2,.str (W 1).1,.str (W 1).2,.str (W 2).1,.str (W 2).2,.str (W 3).1,.str (W 3).2]],.ref [.slf 1 4 (fun j=>List.take 1 (List.drop (j*1) [.ints .i64 (U 0),.ints .i64 (U 1),.ints .i64 (U 2),.ints .i64 (U 3)]))],.ref [.int .i64 out]] (.tup [.agg [.str (M 3).1,.str (M 3).2],.int .i64 0]):=by
 have hi:(out:Int)<(U 3).length:=by omega
 refine V.en tbOk Tryz.func40 ?_
 refine V.r0 jgL ?_
 refine⟨Pq13z,[],V.pok,?_⟩
 refine jad [(6,.int .i64 0)] [(5,.box [.str (M 3).1,.str (M 3).2])] ?_ ?_
 ·exact V.d2 zX14_1 ig mu
 refine V.r0 @jg8 ?_
 exact Fin.of rfl
theorem val1_4 (W M S:Nat→Tx)(U:Nat→List Int)(out:Int)(f0 f1 y0 y1:List UInt8)(li:Cl 38 [.int .i64 4,.fn 40 [] [.ref [V.sl2 4 [.str (W 0).1,.str (W 0).2,.str (W 1).1,.str (W 1).2,.str (W 2).1,.str (W 2).2,.str (W 3).1,.str (W 3).2]],.ref [.slf 1 4 (fun j=>List.take 1 (List.drop (j*1) [.ints .i64 (U 0),.ints .i64 (U 1),.ints .i64 (U 2),.ints .i64 (U 3)]))],.ref [.int .i64 out]]] (.tup [V.sl2 4 [.str (M 0).1,.str (M 0).2,.str (M 1).1,.str (M 1).2,.str (M 2).1,.str (M 2).2,.str (M 3).1,.str (M 3).2],.int .i64 0]))
  (su:Cl 43 [V.sl2 4 [.str (M 0).1,.str (M 0).2,.str (M 1).1,.str (M 1).2,.str (M 2).1,.str (M 2).2,.str (M 3).1,.str (M 3).2]] (.tup [.agg [.str (S 3).1,.str (S 3).2],.int .i64 0])) (fu:Cl 42 [.int .i64 65535] (.agg [.str f0,.str f1])) (dv:Cl 44 [.agg [.str (S 3).1,.str (S 3).2],.agg [.str f0,.str f1]] (.tup [.agg [.str y0,.str y1],.int .i64 0])) :
  Cl 39 [.int .i64 out,.ref [.slf 1 4 (fun j=>List.take 1 (List.drop (j*1) [.ints .i64 (U 0),.ints .i64 (U 1),.ints .i64 (U 2),.ints .i64 (U 3)]))],.ref [V.sl2 4 [.str (W 0).1,.str (W 0).2,.str (W 1).1,.str (W 1).2,.str (W 2).1,.str (W 2).2,.str (W 3).1,.str (W 3).2]]] (.tup [.agg [.str y0,.str y1],.int .i64 0]):=by
 refine V.en tbOk Tryz.func39 ?_
 refine V.r2 @jg8 li su ?_
 refine⟨(V.tk [0] (V.e1 1 [0] (V.e1 2 [] (V.tk [3,4] (V.e1 5 [] (V.tk [6] .done)))))),[],V.pok,?_⟩
 refine jad [(5,.int .i64 0)] [(4,.box [.str y0,.str y1])] ?_ ?_
 ·exact V.d2 @jg8 fu dv
 refine V.r0 @jg8 ?_
 exact Fin.of rfl
theorem xd1:((1:Int)-1).toNat=0:=rfl
theorem xd2:((2:Int)-1).toNat=1:=rfl
theorem xd3:((3:Int)-1).toNat=2:=rfl
def atK (a:List Int)(xs:List Int):Nat→List Int
 | 0=>a
 | k+1=>(atK a xs k).set (xs.getD k 0).toNat ((atK a xs k).getD (xs.getD k 0).toNat 0+1)
theorem jck (a xs:List Int):∀ k,a.length=4→(atK a xs k).length=4
 | 0,h=>h
 | k+1,h=>by simp only[atK];rw[jhY];exact jck a xs k h
def atS (a xs:List Int):Nat→List Int
 | 0=>a
 | k+1=>atK a xs k
def wcv:Nat→D
 | 0 => .nil
 | k+1 => .bsl 109 0 (k+1) 2
def pcv:Nat→D
 | 0 => .nil
 | k+1 => .bsl 113 0 (k+1) 1
def pce (U:Nat→List Int):Nat→List D
 | 0=>[]
 | k+1=>pce U k++[.ints .i64 (U k)]
def tlv (W:Nat→Tx)(U:Nat→List Int):Nat→Hp
 | 0=>[]
 | k+1=>[(109,.box (wce W (k+1))),(113,.box (pce U (k+1)))]
theorem zX15_0:type_of% @jg8∧type_of% @tn0∧type_of% @tn1∧type_of% @tn2∧type_of% @tn3∧type_of% @xd1∧type_of% @xd2∧type_of% @xd3∧type_of% @xt4:=⟨@jg8,@tn0,@tn1,@tn2,@tn3,@xd1,@xd2,@xd3,@xt4⟩
theorem point3_t (z0 z1 z2 b0 b1 b2 out:Int)(data xs at' v:List Int)(W:Nat→Tx)(hl:at'.length=4)(ga:Cl 64 [.agg [.ints .i64 [z0,z1,z2],.int .i64 out,.ints .i64 data],.ints .i64 (at'.take 3)] (.tup [.ints .i64 v,.int .i64 0])) :
  Cl 36 [.agg [.ints .i64 [z0,z1,z2],.int .i64 out,.ints .i64 data,.ints .i64 [b0,b1,b2],.ints .i64 xs,V.sl2 4 [.str (W 0).1,.str (W 0).2,.str (W 1).1,.str (W 1).2,.str (W 2).1,.str (W 2).2,.str (W 3).1,.str (W 3).2]],.iarr .i64 at'] (.tup [.ints .i64 v,.int .i64 0]):=by
 obtain⟨a0,a1,a2,a3,rfl⟩:∃ a0 a1 a2 a3:Int,at'=[a0,a1,a2,a3]:=by
  match at',hl with
  | [a0,a1,a2,a3],_=>exact⟨a0,a1,a2,a3,rfl⟩
 refine V.en tbOk Tryz.func36 ?_
 refine V.r0 @jg8 ?_
 refine⟨(V.tk [0,1,2,3,4,5,6] (V.e1 7 [] (V.tk [8,9,10,11] .done))),[],V.pok,?_⟩
 refine jad [(3,.any),(4,.ints .i64 v),(5,.int .i64 0)] [(3,.gone)] ?_ ?_
 ·exact V.d1 @jg8 ga
 refine V.r0 @jg8 ?_
 exact Fin.of rfl
theorem corners3_t (z0 z1 z2 b0 b1 b2 out:Int)(data xs:List Int)(W:Nat→Tx):Cl 37 [.agg [.ints .i64 [z0,z1,z2],.int .i64 out,.ints .i64 data,.ints .i64 [b0,b1,b2],.ints .i64 xs,V.sl2 4 [.str (W 0).1,.str (W 0).2,.str (W 1).1,.str (W 1).2,.str (W 2).1,.str (W 2).2,.str (W 3).1,.str (W 3).2]]] (.fn 65 [] [.ref [.ints .i64 [z0,z1,z2],.int .i64 out,.ints .i64 data,.ints .i64 [b0,b1,b2],.ints .i64 xs,V.sl2 4 [.str (W 0).1,.str (W 0).2,.str (W 1).1,.str (W 1).2,.str (W 2).1,.str (W 2).2,.str (W 3).1,.str (W 3).2]]]):=by
 refine V.en tbOk Tryz.func37 ?_
 refine V.r0 @jg8 ?_
 exact Fin.of rfl
theorem value3_t (z0 z1 z2 b0 b1 b2 out:Int)(data xs:List Int)(W:Nat→Tx)(U:Nat→List Int)(Y:Nat→List D)(e0:Nat)(hl:xs.length=3)(hx:∀ k,k<3→0≤xs.getD k 0∧xs.getD k 0<4)(hi:∀ k,k<3→InR .i64 ((atK [b0,b1,b2,0] xs k).getD (xs.getD k 0).toNat 0+1))
  (pt:∀ k,k<4→Cl 36 [.agg [.ints .i64 [z0,z1,z2],.int .i64 out,.ints .i64 data,.ints .i64 [b0,b1,b2],.ints .i64 xs,V.sl2 4 [.str (W 0).1,.str (W 0).2,.str (W 1).1,.str (W 1).2,.str (W 2).1,.str (W 2).2,.str (W 3).1,.str (W 3).2]],.iarr .i64 (atK [b0,b1,b2,0] xs k)] (.tup [.ints .i64 (U k),.int .i64 0]))
  (li:Cl 38 [.int .i64 out,.fn 39 [] [.ref [.slf 1 4 (fun j=>List.take 1 (List.drop (j*1) [.ints .i64 (U 0),.ints .i64 (U 1),.ints .i64 (U 2),.ints .i64 (U 3)]))],.ref [V.sl2 4 [.str (W 0).1,.str (W 0).2,.str (W 1).1,.str (W 1).2,.str (W 2).1,.str (W 2).2,.str (W 3).1,.str (W 3).2]]]] (.tup [.slf 2 e0 Y,.int .i64 0])) :
  Cl 21 [.agg [.ints .i64 [z0,z1,z2],.int .i64 out,.ints .i64 data,.ints .i64 [b0,b1,b2],.ints .i64 xs,V.sl2 4 [.str (W 0).1,.str (W 0).2,.str (W 1).1,.str (W 1).2,.str (W 2).1,.str (W 2).2,.str (W 3).1,.str (W 3).2]]] (.tup [.slf 2 e0 Y,.int .i64 0]):=by
 have co:=corners3_t z0 z1 z2 b0 b1 b2 out data xs W
 refine V.en tbOk Tryz.func21 ?_
 refine V.r1 @jg8 co ?_
 refine⟨_,_,⟨Tryz.func65,rfl,rfl,jg1 rfl⟩,?_⟩
 refine V.r0 @jg8 ?_
 refine⟨(V.tk [0,1,2] (V.e1 3 [] .done)),[],V.pok,?_⟩
 refine jad [] [(47,.arr .i64 [b0,b1,b2,0])] ?_ ?_
 ·exact V.d0 @jg8
 refine V.r0 @jg8 ?_
 refine jae 0 (fun k=>k≤4) (fun k=>4-k) (fun k=>[(13,.int .i64 k)]) (fun k=>(43,.lp none)::(47,.arr .i64 (atS [b0,b1,b2,0] xs k))::(5,.box [wcv k])::(6,.box [pcv k])::(7,.box [.int .i64 0])::tlv W U k) ?_ ?_ ?_
 ·exact V.wk
 ·exact jg2 _
 intro k hk
 have hk4:k=0∨k=1∨k=2∨k=3∨k=4:=by omega
 rcases hk4 with e|e|e|e|e
 all_goals subst e
 ·simp only[k0,atS,wcv,pcv,tlv]
  have p:=pt 0 (by omega)
  simp only[atK] at p
  refine V.r1 zX15_0 p ?_
  exact⟨1,by omega,by omega,V.wk⟩
 ·simp only[k1,atS,wcv,pcv,tlv]
  have p:=pt 1 (by omega)
  have g:=hx 0 (by omega)
  have h:=hi 0 (by omega)
  have l4:=jck [b0,b1,b2,0] xs 0 rfl
  have l5:=jck [b0,b1,b2,0] xs 1 rfl
  simp only[atK] at p h l4 l5 ⊢
  refine V.r1 zX15_0 p ?_
  exact⟨2,by omega,by omega,V.wk⟩
 ·simp only[k2,atS,wcv,pcv,tlv]
  have p:=pt 2 (by omega)
  have g:=hx 1 (by omega)
  have h:=hi 1 (by omega)
  have l4:=jck [b0,b1,b2,0] xs 1 rfl
  have l5:=jck [b0,b1,b2,0] xs 2 rfl
  simp only[atK] at p h l4 l5 ⊢
  refine V.r1 zX15_0 p ?_
  exact⟨3,by omega,by omega,V.wk⟩
 ·simp only[k3,atS,wcv,pcv,tlv]
  have p:=pt 3 (by omega)
  have g:=hx 2 (by omega)
  have h:=hi 2 (by omega)
  have l4:=jck [b0,b1,b2,0] xs 2 rfl
  have l5:=jck [b0,b1,b2,0] xs 3 rfl
  simp only[atK] at p h l4 l5 ⊢
  refine V.r1 zX15_0 p ?_
  exact⟨4,by omega,by omega,V.wk⟩
 ·simp only[xk4,atS,wcv,pcv,tlv]
  (conv=>whnf)
  repeat ((fail_if_success (with_reducible refine Cnd.split ?_));refine V.s1 ?_;(try simp only[jg8]))
  refine V.s1 ?_
  (conv=>whnf)
  repeat ((fail_if_success (with_reducible refine Cnd.split ?_));refine V.s1 ?_;(try simp only[jg8]))
  refine jaE [(5,.ref [V.sl2 4 [.str (W 0).1,.str (W 0).2,.str (W 1).1,.str (W 1).2,.str (W 2).1,.str (W 2).2,.str (W 3).1,.str (W 3).2]]),(6,.ref [.slf 1 4 (fun j=>List.take 1 (List.drop (j*1) [.ints .i64 (U 0),.ints .i64 (U 1),.ints .i64 (U 2),.ints .i64 (U 3)]))])] [(5,.gone),(6,.gone),(109,.gone),(113,.gone)] (CondB.mk (fun h=>absurd h (by decide)) (fun _=>?_)) ?_
  ·(conv=>whnf)
   refine Wk.pub 109 ?_
   (conv=>whnf)
   refine Wk.pub 113 ?_
   (conv=>whnf)
   refine Wk.pub 5 ?_
   (conv=>whnf)
   refine Wk.pub 6 ?_
   (conv=>whnf)
   simp only[jg8]
   exact V.wk
  refine V.r1 @jg8 li ?_
  exact Fin.of rfl
theorem jgI:type_of% @jg8∧type_of% @tn0∧type_of% @tn1∧type_of% @tn2∧type_of% @tn3:=⟨@jg8,@tn0,@tn1,@tn2,@tn3⟩
theorem jgS:type_of% @jha∧type_of% @jg8∧type_of% @tns:=⟨@jha,@jg8,@tns⟩
theorem jgT:type_of% @jhY ∧ type_of% @jg8:=⟨@jhY,@jg8⟩
theorem find3_t (z0 z1 z2 out b0 b1 b2:Int)(data:List Int)(x0 y0 x1 y1 x2 y2 o0 o1:List UInt8)(R Bf W:Nat→Tx)
  (sp0:Cl 59 [.agg [.str x0,.str y0],.int .i64 z0] (.tup [.int .i64 b0,.agg [.str (R 0).1,.str (R 0).2],.int .i64 0]))
  (sp1:Cl 59 [.agg [.str x1,.str y1],.int .i64 z1] (.tup [.int .i64 b1,.agg [.str (R 1).1,.str (R 1).2],.int .i64 0]))
  (sp2:Cl 59 [.agg [.str x2,.str y2],.int .i64 z2] (.tup [.int .i64 b2,.agg [.str (R 2).1,.str (R 2).2],.int .i64 0]))
  (io:Cl 42 [.int .i64 1] (.agg [.str o0,.str o1])) (w:Int→Int→Int) (cm:∀ a b:Nat,a<3→b<3→Cl 61 [.int .i64 a,.int .i64 b,.ref [V.sl2 3 [.str (R 0).1,.str (R 0).2,.str (R 1).1,.str (R 1).2,.str (R 2).1,.str (R 2).2]]] (.int .i64 (w a b)))
  (hBf0:Bf 0=(o0,o1)) (hBf:∀ k,k<3→Bf (k+1)=R ((isoK w [0,1,2] (3-1)).getD k 0).toNat) (sb:∀ k,k<3→Cl 63 [.agg [.str (Bf k).1,.str (Bf k).2],.agg [.str (R ((isoK w [0,1,2] (3-1)).getD k 0).toNat).1,.str (R ((isoK w [0,1,2] (3-1)).getD k 0).toNat).2]] (.tup [.agg [.str (W k).1,.str (W k).2],.int .i64 0])) :
  Cl 35 [.agg [.ints .i64 [z0,z1,z2],.int .i64 out,.ints .i64 data],V.sl2 3 [.str x0,.str y0,.str x1,.str y1,.str x2,.str y2]] (.tup [.agg [.ints .i64 [z0,z1,z2],.int .i64 out,.ints .i64 data,.ints .i64 [b0,b1,b2],.ints .i64 (isoK w [0,1,2] (3-1)),V.sl2 4 [.str (W 0).1,.str (W 0).2,.str (W 1).1,.str (W 1).2,.str (W 2).1,.str (W 2).2,.str (Bf 3).1,.str (Bf 3).2]],.int .i64 0]):=by
  refine V.en tbOk Tryz.func35 ?_
  refine V.r0 @jg8 ?_
  refine⟨(V.tk [0,1,2,4,5] (.ev (.cons 3 [5,4,0] (.ev (.cons 6 [0] (V.tk [7] (V.e1 8 [7,0] (V.e1 9 [] .done))) (.cons 8 [5,4,0] (V.e1 6 [0] (V.tk [7] (V.e1 9 [] .done))) .nil))) (.cons 6 [2,1,0] (.ev (.cons 3 [0] (V.tk [7] (V.e1 8 [7,0] (V.e1 9 [] .done))) (.cons 8 [2,1,0] (V.e1 3 [0] (V.tk [7] (V.e1 9 [] .done))) .nil))) (.cons 8 [5,4,2,1,0] (.ev (.cons 3 [5,4,0] (V.e1 6 [0] (V.tk [7] (V.e1 9 [] .done))) (.cons 6 [2,1,0] (V.e1 3 [0] (V.tk [7] (V.e1 9 [] .done))) .nil))) .nil))))),[],V.pok,?_⟩
  refine jad [(6,.box 6 0),(17,.osl 17 0 3),(20,.osl 20 0 3)] [(6,.box [.ints .i64 [z0,z1,z2],.int .i64 out,.ints .i64 data,.osl 17 0 3,.osl 20 0 3,.nil]),(17,.arr .i64 [0,0,0]),(20,.arr .i64 [0,0,0])] ?_ ?_
  ·exact V.d0 @jg8
  refine V.r0 @jg8 ?_
  refine .inl ?_
  (conv=>whnf)
  refine⟨0,_,_,⟨Tryz.func38,rfl,rfl,jg1 rfl⟩,?_⟩
  refine V.r0 @jg8 ?_
  refine jae (0) (fun k=>k≤3) (fun k=>3-k) (fun k=>[(14,.int .i64 k)]) (fun k=>[(88,.box (preD (2*k) [.str (R 0).1,.str (R 0).2,.str (R 1).1,.str (R 1).2,.str (R 2).1,.str (R 2).2])),(17,.arr .i64 (preZ k [b0,b1,b2])),(20,.arr .i64 (preZ k [0,1,2]))]) ?_ ?_ ?_
  ·exact V.wk
  ·exact jg2 _
  intro k hk
  have hk4:k=0∨k=1∨k=2∨k=3:=by omega
  rcases hk4 with e|e|e|e
  all_goals subst e
  ·simp only[k0]
   have q1:(preZ 0 [b0,b1,b2]).length=3:=rfl
   have q2:(preZ 0 [0,1,2]).length=3:=rfl
   refine V.r0 jgI ?_
   refine .inl ?_
   (conv=>whnf)
   refine⟨0,_,_,⟨Tryz.func58,rfl,rfl,jg1 rfl⟩,?_⟩
   refine V.r0 jgI ?_
   refine⟨Pq17z,[],V.pok,?_⟩
   refine jad [(8,.box 118 0),(7,.int .i64 b0),(9,.int .i64 0)] [(118,.box [.str (R 0).1,.str (R 0).2])] ?_ ?_
   ·exact V.d1 jgI sp0
   refine V.r0 jgI ?_
   refine⟨Pq19z,[],V.pok,?_⟩
   refine jad [] [(17,.arr .i64 (preZ 1 [b0,b1,b2])),(20,.arr .i64 (preZ 1 [0,1,2]))] ?_ ?_
   ·exact V.d0 jgI
   refine V.r0 jgI ?_
   exact⟨1,by omega,by omega,V.wk⟩
  ·simp only[k1]
   have q1:(preZ 1 [b0,b1,b2]).length=3:=rfl
   have q2:(preZ 1 [0,1,2]).length=3:=rfl
   refine V.r0 jgI ?_
   refine .inl ?_
   (conv=>whnf)
   refine⟨0,_,_,⟨Tryz.func58,rfl,rfl,jg1 rfl⟩,?_⟩
   refine V.r0 jgI ?_
   refine⟨Pq17z,[],V.pok,?_⟩
   refine jad [(8,.box 118 0),(7,.int .i64 b1),(9,.int .i64 0)] [(118,.box [.str (R 1).1,.str (R 1).2])] ?_ ?_
   ·exact V.d1 jgI sp1
   refine V.r0 jgI ?_
   refine⟨Pq19z,[],V.pok,?_⟩
   refine jad [] [(17,.arr .i64 (preZ 2 [b0,b1,b2])),(20,.arr .i64 (preZ 2 [0,1,2]))] ?_ ?_
   ·exact V.d0 jgI
   refine V.r0 jgI ?_
   exact⟨2,by omega,by omega,V.wk⟩
  ·simp only[k2]
   have q1:(preZ 2 [b0,b1,b2]).length=3:=rfl
   have q2:(preZ 2 [0,1,2]).length=3:=rfl
   refine V.r0 jgI ?_
   refine .inl ?_
   (conv=>whnf)
   refine⟨0,_,_,⟨Tryz.func58,rfl,rfl,jg1 rfl⟩,?_⟩
   refine V.r0 jgI ?_
   refine⟨Pq17z,[],V.pok,?_⟩
   refine jad [(8,.box 118 0),(7,.int .i64 b2),(9,.int .i64 0)] [(118,.box [.str (R 2).1,.str (R 2).2])] ?_ ?_
   ·exact V.d1 jgI sp2
   refine V.r0 jgI ?_
   refine⟨Pq19z,[],V.pok,?_⟩
   refine jad [] [(17,.arr .i64 (preZ 3 [b0,b1,b2])),(20,.arr .i64 (preZ 3 [0,1,2]))] ?_ ?_
   ·exact V.d0 jgI
   refine V.r0 jgI ?_
   exact⟨3,by omega,by omega,V.wk⟩
  ·simp only[k3]
   (conv=>whnf)
   repeat ((fail_if_success (with_reducible refine Cnd.split ?_));refine V.s1 ?_;(try simp only[jg8]))
   refine V.s1 ?_
   (conv=>whnf)
   repeat ((fail_if_success (with_reducible refine Cnd.split ?_));refine V.s1 ?_;(try simp only[jg8]))
   refine jaE [(7,.ref [V.sl2 3 [.str (R 0).1,.str (R 0).2,.str (R 1).1,.str (R 1).2,.str (R 2).1,.str (R 2).2]]),(22,.any),(26,.any),(27,.any)] [(7,.gone),(88,.gone)] (CondB.mk (fun h=>absurd h (by decide)) (fun _=>?_)) ?_
   ·(conv=>whnf)
    refine Wk.pub 88 ?_
    (conv=>whnf)
    refine Wk.pub 7 ?_
    (conv=>whnf)
    simp only[jg8]
    exact V.wk
   refine V.r0 @jg8 ?_
   refine .inl ?_
   (conv=>whnf)
   refine⟨0,_,_,⟨Tryz.func60,rfl,rfl,jg1 rfl⟩,?_⟩
   refine V.r0 @jg8 ?_
   refine .inl ?_
   (conv=>whnf)
   refine⟨0,_,_,⟨Tryz.func93,rfl,rfl,jg1 rfl⟩,?_⟩
   refine V.r0 @jg8 ?_
   refine jae (0) (fun k=>k=0) (fun k=>k) (fun k=>[(7,.int .i64 0),(8,.int .i64 20)]) (fun k=>[]) ?_ ?_ ?_
   ·exact V.wk
   ·rfl
   intro k hk
   refine V.r0 @jg8 ?_
   refine .inl ?_
   (conv=>whnf)
   refine⟨0,_,_,⟨Tryz.func125,rfl,rfl,jg1 rfl⟩,?_⟩
   refine V.r0 @jg8 ?_
   refine jae (0) (fun k=>k+1≤3) (fun k=>3-k) (fun k=>[(8,.int .i64 ((k+1:Nat):Int))]) (fun k=>[(20,.arr .i64 (isoK w [0,1,2] k))]) ?_ ?_ ?_
   ·exact V.wk
   ·omega
   clear hk
   intro k hk
   have hB:=bel_iso w (n:=3) (xs:=[0,1,2]) ⟨rfl,fun i hi=>by
    have:i=0∨i=1∨i=2:=by omega
    rcases this with e|e|e<;>subst e<;>first|decide|omega⟩ k (by omega)
   refine V.r0 @jg8 ?_
   refine V.br (fun hq=>?_) (fun hq=>?_)
   ·have hk2:k+1<3:=by simp at hq;omega
    refine V.r0 @jg8 ?_
    refine jae ((k+1,isoK w [0,1,2] k):Nat×List Int) (fun s=>s.1≤k+1∧Bel 3 s.2∧insJ w s.1 s.2=isoK w [0,1,2] (k+1)) (fun s=>s.1) (fun s=>[(9,.int .i64 s.1)]) (fun s=>[(20,.arr .i64 s.2)]) ?_ ?_ ?_
    ·exact V.wk
    ·exact⟨jhb _,hB,rfl⟩
    rintro⟨j,xs⟩ ⟨h1,h2,h3⟩
    dsimp only at h1 h2 h3 ⊢
    have hl:=h2.1
    refine V.r0 @jg8 ?_
    have c1:(decide ((j:Int)>0)=true)→Cl 61 [.int .i64 (xs.getD j 0),.int .i64 (xs.getD (j-1) 0),.ref [V.sl2 3 [.str (R 0).1,.str (R 0).2,.str (R 1).1,.str (R 1).2,.str (R 2).1,.str (R 2).2]]] (.int .i64 (w (xs.getD j 0) (xs.getD (j-1) 0))):=fun h=>by
     have hj:(j:Int)>0:=of_decide_eq_true h
     have g1:=h2.2 j (by omega)
     have g2:=h2.2 (j-1) (by omega)
     have c:=cm (xs.getD j 0).toNat (xs.getD (j-1) 0).toNat (by omega) (by omega)
     rw[Int.toNat_of_nonneg g1.1,Int.toNat_of_nonneg g2.1] at c
     exact c
    refine⟨(V.tk [0,1,2,3,4,5,6,7,8,9,10,11,12,13] (V.e1 14 [] (V.tk [15,16] .done))),[],V.pok,?_⟩
    refine jad [(34,.bool (decide ((j:Int)>0) && decide (w (xs.getD j 0) (xs.getD (j-1) 0)<0)))] [] ?_ ?_
    ·(conv=>whnf);(try simp only[jgS])
     repeat' (first|exact V.wk|((with_reducible refine And.intro ?_ jaS);(conv=>whnf);(try simp only[jgS]))|((with_reducible first|refine jaF ?_ ?_|refine jaP ?_ ?_)<;>(conv=>whnf);(try simp only[jgS]))|((first|refine V.s1 ?_|((with_reducible refine jat ?_ ?_);(focus ((conv=>whnf);(try simp only[jgS]);(repeat ((first|refine V.s1 ?_|((refine⟨_,c1,?_⟩);(conv=>whnf)));(try simp only[jgS])));exact⟨rfl⟩));(conv=>whnf))|((try ((with_reducible refine .ext ?_);(conv=>whnf);(try simp only[jgS])));(with_reducible refine jaa (r:=?_) ?_ ?_);rotate_left;(focus (first|fail));(conv=>whnf))|((refine⟨_,c1,?_⟩);(conv=>whnf)));(try simp only[jgS]))|(refine And.intro ?_ ?_<;>(conv=>whnf);(try simp only[jgS])))
    refine V.r0 @jg8 ?_
    refine V.br (fun hq2=>?_) (fun hq2=>?_)
    ·have hj:0<j∧w (xs.getD j 0) (xs.getD (j-1) 0)<0:=by
      rw[jg0,decide_eq_true_eq,decide_eq_true_eq] at hq2
      omega
     obtain⟨i,rfl⟩:∃ i,j=i+1:=⟨j-1,by omega⟩
     rw[show i+1-1=i by omega] at hj
     have hw:=bel_swap h2 (show i+1<3 by omega)
     have e1:((i+1:Nat):Int).toNat=i+1:=by omega
     have e2:(((i+1:Nat):Int)-1).toNat=i:=by omega
     have e3:((i+1:Nat):Int)-1=(i:Int):=by omega
     have e4:(i:Int).toNat=i:=by omega
     have h3':insJ w i ((xs.set (i+1) (xs.getD i 0)).set i (xs.getD (i+1) 0))=isoK w [0,1,2] (k+1):=by
      rw[← h3]
      simp only[insJ]
      rw[if_pos hj.2]
     refine V.r0 @jg8 ?_
     refine⟨(V.tk [0,1,2,3,4,5,6,7,8,9,10,11,12,13,14] (V.e1 15 [4,3,2] (V.tk [16] (V.e1 17 [] .done)))),[],V.pok,?_⟩
     refine jad [] [(20,.arr .i64 ((xs.set (i+1) (xs.getD i 0)).set i (xs.getD (i+1) 0)))] ?_ ?_
     ·(conv=>whnf);(try simp only[jgT,e1,e2,e3,e4])
      repeat' (first|exact V.wk|((with_reducible refine And.intro ?_ jaS);(conv=>whnf);(try simp only[jgT,e1,e2,e3,e4]))|((with_reducible first|refine jaF ?_ ?_|refine jaP ?_ ?_)<;>(conv=>whnf);(try simp only[jgT,e1,e2,e3,e4]))|((first|refine V.s1 ?_|((with_reducible refine jat ?_ ?_);(focus ((conv=>whnf);(try simp only[jgT,e1,e2,e3,e4]);(repeat ((first|refine V.s1 ?_);(try simp only[jgT,e1,e2,e3,e4])));exact⟨rfl⟩));(conv=>whnf)));(try simp only[jgT,e1,e2,e3,e4]))|(refine And.intro ?_ ?_<;>(conv=>whnf);(try simp only[jgT,e1,e2,e3,e4])))
     refine V.r0 (V.a2 @jg8 e3) ?_
     exact⟨(i,(xs.set (i+1) (xs.getD i 0)).set i (xs.getD (i+1) 0)),⟨by dsimp only;omega,hw,h3'⟩,by dsimp only;omega,V.wk⟩
    ·have hx:isoK w [0,1,2] (k+1)=xs:=by
      rw[← h3]
      cases j with
      | zero=>rfl
      | succ i=>
       simp only[insJ]
       rw[if_neg]
       intro h
       rw[Bool.and_eq_false_iff,decide_eq_false_iff_not,decide_eq_false_iff_not,show i+1-1=i by omega] at hq2
       omega
     refine V.r0 @jg8 ?_
     refine⟨k+1,by omega,by omega,?_⟩
     rw[hx]
     exact V.wk
   have hk2:k+1=3:=by simp at hq;omega
   have hk3:k=3-1:=by omega
   subst hk3
   refine V.r0 @jg8 ?_
   refine jae (0) (fun k=>k=0) (fun k=>k) (fun k=>[(6,.int .i64 20)]) (fun k=>[]) ?_ ?_ ?_
   ·exact V.wk
   ·rfl
   clear hk
   intro k hk
   refine V.r0 @jg8 ?_
   obtain⟨xs,hxs⟩:∃ xs,isoK w [0,1,2] (3-1)=xs:=⟨_,rfl⟩
   rw[hxs] at hB ⊢
   have hl:=hB.1
   refine V.r1 @jg8 io ?_
   have hr:∀ m,m<3→List.take 2 (List.drop (m*2) ([.str (R 0).1,.str (R 0).2,.str (R 1).1,.str (R 1).2,.str (R 2).1,.str (R 2).2]:List D))=[.str (R m).1,.str (R m).2]:=fun m hm=>by
    have:m=0∨m=1∨m=2:=by omega
    rcases this with e|e|e<;>subst e<;>first|rfl|omega
   have e0:=hr (xs.getD 0 0).toNat (by have:=hB.2 0 (by omega);omega)
   have g0:=hB.2 0 (by omega)
   have sb0:=sb 0 (by omega)
   have hb0:=hBf 0 (by omega)
   rw[hxs] at sb0 hb0
   have e1:=hr (xs.getD 1 0).toNat (by have:=hB.2 1 (by omega);omega)
   have g1:=hB.2 1 (by omega)
   have sb1:=sb 1 (by omega)
   have hb1:=hBf 1 (by omega)
   rw[hxs] at sb1 hb1
   have e2:=hr (xs.getD 2 0).toNat (by have:=hB.2 2 (by omega);omega)
   have g2:=hB.2 2 (by omega)
   have sb2:=sb 2 (by omega)
   have hb2:=hBf 2 (by omega)
   rw[hxs] at sb2 hb2
   have hb':(Bf 0).1=o0∧(Bf 0).2=o1:=by rw[hBf0];exact⟨rfl,rfl⟩
   refine jae 0 (fun k=>k≤3) (fun k=>3-k) (fun k=>[(41,.int .i64 k)]) (fun k=>(9,.box [.str (Bf k).1,.str (Bf k).2])::(6,.box [.ints .i64 [z0,z1,z2],.int .i64 out,.ints .i64 data,.osl 17 0 3,.osl 20 0 3,wcl k])::wch W k) ?_ ?_ ?_
   ·rw[hb'.1,hb'.2]
    exact V.wk
   ·exact jg2 _
   clear hk
   intro k hk
   have hk4:k=0∨k=1∨k=2∨k=3:=by omega
   rcases hk4 with e|e|e|e
   all_goals subst e
   ·simp only[k0,wcl,wch]
    refine V.r0 jgI ?_
    refine⟨Pq32z,[],V.pok,?_⟩
    refine jad [(12,.box 12 0),(13,.int .i64 0)] [(12,.box [.str (W 0).1,.str (W 0).2])] ?_ ?_
    ·(conv=>whnf);(try simp only[jg8])
     repeat' (first|exact V.wk|((with_reducible refine And.intro ?_ jaS);(conv=>whnf);(try simp only[jg8]))|((with_reducible first|refine jaF ?_ ?_|refine jaP ?_ ?_)<;>(conv=>whnf);(try simp only[jg8]))|((first|refine V.s1 ?_|((with_reducible refine jat ?_ ?_);(focus ((conv=>whnf);(try simp only[jg8]);(repeat ((first|refine V.s1 ?_|((simp only[e0]);(conv=>whnf)));(try simp only[jg8])));exact⟨rfl⟩));(conv=>whnf))|((try ((with_reducible refine .ext ?_);(conv=>whnf);(try simp only[jg8])));(with_reducible refine jaa (r:=?_) ?_ ?_);rotate_left;(focus (first|exact(sb0)));(conv=>whnf))|((simp only[e0]);(conv=>whnf)));(try simp only[jg8]))|(refine And.intro ?_ ?_<;>(conv=>whnf);(try simp only[jg8])))
    (conv=>whnf)
    (try simp only[jg8])
    repeat ((first|refine V.s1 ?_|((try ((with_reducible refine .ext ?_);(conv=>whnf);(try simp only[jg8])));(with_reducible refine jaa (r:=?_) ?_ ?_);rotate_left;(focus (first|fail));(conv=>whnf))|((simp only[e0]);(conv=>whnf)));(try simp only[jg8]))
    refine⟨1,by omega,by omega,?_⟩
    rw[hb0]
    exact V.wk
   ·simp only[k1,wcl,wch]
    refine V.r0 jgI ?_
    refine⟨Pq32z,[],V.pok,?_⟩
    refine jad [(12,.box 12 0),(13,.int .i64 0)] [(12,.box [.str (W 1).1,.str (W 1).2])] ?_ ?_
    ·(conv=>whnf);(try simp only[jg8])
     repeat' (first|exact V.wk|((with_reducible refine And.intro ?_ jaS);(conv=>whnf);(try simp only[jg8]))|((with_reducible first|refine jaF ?_ ?_|refine jaP ?_ ?_)<;>(conv=>whnf);(try simp only[jg8]))|((first|refine V.s1 ?_|((with_reducible refine jat ?_ ?_);(focus ((conv=>whnf);(try simp only[jg8]);(repeat ((first|refine V.s1 ?_|((simp only[e1]);(conv=>whnf)));(try simp only[jg8])));exact⟨rfl⟩));(conv=>whnf))|((try ((with_reducible refine .ext ?_);(conv=>whnf);(try simp only[jg8])));(with_reducible refine jaa (r:=?_) ?_ ?_);rotate_left;(focus (first|exact(sb1)));(conv=>whnf))|((simp only[e1]);(conv=>whnf)));(try simp only[jg8]))|(refine And.intro ?_ ?_<;>(conv=>whnf);(try simp only[jg8])))
    (conv=>whnf)
    (try simp only[jg8])
    repeat ((first|refine V.s1 ?_|((try ((with_reducible refine .ext ?_);(conv=>whnf);(try simp only[jg8])));(with_reducible refine jaa (r:=?_) ?_ ?_);rotate_left;(focus (first|fail));(conv=>whnf))|((simp only[e1]);(conv=>whnf)));(try simp only[jg8]))
    refine⟨2,by omega,by omega,?_⟩
    rw[hb1]
    exact V.wk
   ·simp only[k2,wcl,wch]
    refine V.r0 jgI ?_
    refine⟨Pq32z,[],V.pok,?_⟩
    refine jad [(12,.box 12 0),(13,.int .i64 0)] [(12,.box [.str (W 2).1,.str (W 2).2])] ?_ ?_
    ·(conv=>whnf);(try simp only[jg8])
     repeat' (first|exact V.wk|((with_reducible refine And.intro ?_ jaS);(conv=>whnf);(try simp only[jg8]))|((with_reducible first|refine jaF ?_ ?_|refine jaP ?_ ?_)<;>(conv=>whnf);(try simp only[jg8]))|((first|refine V.s1 ?_|((with_reducible refine jat ?_ ?_);(focus ((conv=>whnf);(try simp only[jg8]);(repeat ((first|refine V.s1 ?_|((simp only[e2]);(conv=>whnf)));(try simp only[jg8])));exact⟨rfl⟩));(conv=>whnf))|((try ((with_reducible refine .ext ?_);(conv=>whnf);(try simp only[jg8])));(with_reducible refine jaa (r:=?_) ?_ ?_);rotate_left;(focus (first|exact(sb2)));(conv=>whnf))|((simp only[e2]);(conv=>whnf)));(try simp only[jg8]))|(refine And.intro ?_ ?_<;>(conv=>whnf);(try simp only[jg8])))
    (conv=>whnf)
    (try simp only[jg8])
    repeat ((first|refine V.s1 ?_|((try ((with_reducible refine .ext ?_);(conv=>whnf);(try simp only[jg8])));(with_reducible refine jaa (r:=?_) ?_ ?_);rotate_left;(focus (first|fail));(conv=>whnf))|((simp only[e2]);(conv=>whnf)));(try simp only[jg8]))
    refine⟨3,by omega,by omega,?_⟩
    rw[hb2]
    exact V.wk
   ·simp only[k3,wcl,wch]
    have ht:List.take 3 xs=xs:=jhT (by omega)
    refine V.r0 (V.a2 @jg8 ht) ?_
    rw[← hxs]
    exact Fin.of rfl
theorem je7 (p q:Rat):(ordQ p q<0)↔p<q:=by
 unfold ordQ
 by_cases h:p<q
 ·rw[if_pos h];exact⟨fun _=>h,fun _=>by decide⟩
 ·rw[if_neg h]
  by_cases g:p=q
  ·rw[if_pos g];exact⟨fun h'=>by omega,fun h'=>absurd h' h⟩
  ·rw[if_neg g];exact⟨fun h'=>by omega,fun h'=>absurd h' h⟩
def cmpW (r0 r1 r2:Rat)(a b:Int):Int:=ordQ (sel r0 r1 r2 b) (sel r0 r1 r2 a)
theorem jd2 {w:Int→Int→Int}{j:Nat}{xs:List Int}(h:w (xs.getD (j+1) 0) (xs.getD j 0)<0):insJ w (j+1) xs=insJ w j ((xs.set (j+1) (xs.getD j 0)).set j (xs.getD (j+1) 0)):=by
 simp only[insJ];rw[if_pos h]
theorem jfG {w:Int→Int→Int}{j:Nat}{xs:List Int}(h:¬ w (xs.getD (j+1) 0) (xs.getD j 0)<0):insJ w (j+1) xs=xs:=by
 simp only[insJ];rw[if_neg h]
theorem iso3 (r0 r1 r2:Rat):isoK (cmpW r0 r1 r2) [0,1,2] (3-1)=ord3 r0 r1 r2:=by
 have e01:(cmpW r0 r1 r2 1 0<0)↔r0<r1:=je7 _ _
 have e02:(cmpW r0 r1 r2 2 0<0)↔r0<r2:=je7 _ _
 have e12:(cmpW r0 r1 r2 2 1<0)↔r1<r2:=je7 _ _
 show insJ (cmpW r0 r1 r2) 2 (insJ (cmpW r0 r1 r2) 1 [0,1,2])=_
 unfold ord3
 by_cases h01:r0<r1
 ·rw[if_pos h01,jd2 (j:=0) (xs:=[0,1,2]) (e01.2 h01)]
  show insJ (cmpW r0 r1 r2) 2 [1,0,2]=_
  by_cases h02:r0<r2
  ·rw[if_pos h02,jd2 (j:=1) (xs:=[1,0,2]) (e02.2 h02)]
   show insJ (cmpW r0 r1 r2) 1 [1,2,0]=_
   by_cases h12:r1<r2
   ·rw[if_pos h12,jd2 (j:=0) (xs:=[1,2,0]) (e12.2 h12)]
    rfl
   ·rw[if_neg h12,jfG (j:=0) (xs:=[1,2,0]) fun g=>h12 (e12.1 g)]
  ·rw[if_neg h02,jfG (j:=1) (xs:=[1,0,2]) fun g=>h02 (e02.1 g)]
 ·rw[if_neg h01,jfG (j:=0) (xs:=[0,1,2]) fun g=>h01 (e01.1 g)]
  by_cases h12:r1<r2
  ·rw[if_pos h12,jd2 (j:=1) (xs:=[0,1,2]) (e12.2 h12)]
   show insJ (cmpW r0 r1 r2) 1 [0,2,1]=_
   by_cases h02:r0<r2
   ·rw[if_pos h02,jd2 (j:=0) (xs:=[0,2,1]) (e02.2 h02)]
    rfl
   ·rw[if_neg h02,jfG (j:=0) (xs:=[0,2,1]) fun g=>h02 (e02.1 g)]
  ·rw[if_neg h12,jfG (j:=1) (xs:=[0,1,2]) fun g=>h12 (e12.1 g)]
theorem jgM:type_of% @jg8∧type_of% @tn0∧type_of% @tn1∧type_of% @tn2:=⟨@jg8,@tn0,@tn1,@tn2⟩
theorem cmp3_00 (R:Nat→Tx)(w:Int)(c:Cl 62 [.agg [.str (R 0).1,.str (R 0).2],.agg [.str (R 0).1,.str (R 0).2]] (.tup [.int .i64 w,.int .i64 0]))(hw:InR .i64 w):Cl 61 [.int .i64 0,.int .i64 0,.ref [V.sl2 3 [.str (R 0).1,.str (R 0).2,.str (R 1).1,.str (R 1).2,.str (R 2).1,.str (R 2).2]]] (.int .i64 w):=by
 refine V.en tbOk Tryz.func61 ?_
 refine V.r0 jgM ?_
 refine⟨Pq22z,[],V.pok,?_⟩
 refine jad [(6,.int .i64 w)] [] ?_ ?_
 ·exact V.d1 jgM c
 refine V.r0 @jg8 ?_
 exact Fin.of rfl
theorem cmp3_01 (R:Nat→Tx)(w:Int)(c:Cl 62 [.agg [.str (R 1).1,.str (R 1).2],.agg [.str (R 0).1,.str (R 0).2]] (.tup [.int .i64 w,.int .i64 0]))(hw:InR .i64 w):Cl 61 [.int .i64 0,.int .i64 1,.ref [V.sl2 3 [.str (R 0).1,.str (R 0).2,.str (R 1).1,.str (R 1).2,.str (R 2).1,.str (R 2).2]]] (.int .i64 w):=by
 refine V.en tbOk Tryz.func61 ?_
 refine V.r0 jgM ?_
 refine⟨Pq22z,[],V.pok,?_⟩
 refine jad [(6,.int .i64 w)] [] ?_ ?_
 ·exact V.d1 jgM c
 refine V.r0 @jg8 ?_
 exact Fin.of rfl
theorem cmp3_02 (R:Nat→Tx)(w:Int)(c:Cl 62 [.agg [.str (R 2).1,.str (R 2).2],.agg [.str (R 0).1,.str (R 0).2]] (.tup [.int .i64 w,.int .i64 0]))(hw:InR .i64 w):Cl 61 [.int .i64 0,.int .i64 2,.ref [V.sl2 3 [.str (R 0).1,.str (R 0).2,.str (R 1).1,.str (R 1).2,.str (R 2).1,.str (R 2).2]]] (.int .i64 w):=by
 refine V.en tbOk Tryz.func61 ?_
 refine V.r0 jgM ?_
 refine⟨Pq22z,[],V.pok,?_⟩
 refine jad [(6,.int .i64 w)] [] ?_ ?_
 ·exact V.d1 jgM c
 refine V.r0 @jg8 ?_
 exact Fin.of rfl
theorem cmp3_10 (R:Nat→Tx)(w:Int)(c:Cl 62 [.agg [.str (R 0).1,.str (R 0).2],.agg [.str (R 1).1,.str (R 1).2]] (.tup [.int .i64 w,.int .i64 0]))(hw:InR .i64 w):Cl 61 [.int .i64 1,.int .i64 0,.ref [V.sl2 3 [.str (R 0).1,.str (R 0).2,.str (R 1).1,.str (R 1).2,.str (R 2).1,.str (R 2).2]]] (.int .i64 w):=by
 refine V.en tbOk Tryz.func61 ?_
 refine V.r0 jgM ?_
 refine⟨Pq22z,[],V.pok,?_⟩
 refine jad [(6,.int .i64 w)] [] ?_ ?_
 ·exact V.d1 jgM c
 refine V.r0 @jg8 ?_
 exact Fin.of rfl
theorem cmp3_11 (R:Nat→Tx)(w:Int)(c:Cl 62 [.agg [.str (R 1).1,.str (R 1).2],.agg [.str (R 1).1,.str (R 1).2]] (.tup [.int .i64 w,.int .i64 0]))(hw:InR .i64 w):Cl 61 [.int .i64 1,.int .i64 1,.ref [V.sl2 3 [.str (R 0).1,.str (R 0).2,.str (R 1).1,.str (R 1).2,.str (R 2).1,.str (R 2).2]]] (.int .i64 w):=by
 refine V.en tbOk Tryz.func61 ?_
 refine V.r0 jgM ?_
 refine⟨Pq22z,[],V.pok,?_⟩
 refine jad [(6,.int .i64 w)] [] ?_ ?_
 ·exact V.d1 jgM c
 refine V.r0 @jg8 ?_
 exact Fin.of rfl
theorem cmp3_12 (R:Nat→Tx)(w:Int)(c:Cl 62 [.agg [.str (R 2).1,.str (R 2).2],.agg [.str (R 1).1,.str (R 1).2]] (.tup [.int .i64 w,.int .i64 0]))(hw:InR .i64 w):Cl 61 [.int .i64 1,.int .i64 2,.ref [V.sl2 3 [.str (R 0).1,.str (R 0).2,.str (R 1).1,.str (R 1).2,.str (R 2).1,.str (R 2).2]]] (.int .i64 w):=by
 refine V.en tbOk Tryz.func61 ?_
 refine V.r0 jgM ?_
 refine⟨Pq22z,[],V.pok,?_⟩
 refine jad [(6,.int .i64 w)] [] ?_ ?_
 ·exact V.d1 jgM c
 refine V.r0 @jg8 ?_
 exact Fin.of rfl
theorem cmp3_20 (R:Nat→Tx)(w:Int)(c:Cl 62 [.agg [.str (R 0).1,.str (R 0).2],.agg [.str (R 2).1,.str (R 2).2]] (.tup [.int .i64 w,.int .i64 0]))(hw:InR .i64 w):Cl 61 [.int .i64 2,.int .i64 0,.ref [V.sl2 3 [.str (R 0).1,.str (R 0).2,.str (R 1).1,.str (R 1).2,.str (R 2).1,.str (R 2).2]]] (.int .i64 w):=by
 refine V.en tbOk Tryz.func61 ?_
 refine V.r0 jgM ?_
 refine⟨Pq22z,[],V.pok,?_⟩
 refine jad [(6,.int .i64 w)] [] ?_ ?_
 ·exact V.d1 jgM c
 refine V.r0 @jg8 ?_
 exact Fin.of rfl
theorem cmp3_21 (R:Nat→Tx)(w:Int)(c:Cl 62 [.agg [.str (R 1).1,.str (R 1).2],.agg [.str (R 2).1,.str (R 2).2]] (.tup [.int .i64 w,.int .i64 0]))(hw:InR .i64 w):Cl 61 [.int .i64 2,.int .i64 1,.ref [V.sl2 3 [.str (R 0).1,.str (R 0).2,.str (R 1).1,.str (R 1).2,.str (R 2).1,.str (R 2).2]]] (.int .i64 w):=by
 refine V.en tbOk Tryz.func61 ?_
 refine V.r0 jgM ?_
 refine⟨Pq22z,[],V.pok,?_⟩
 refine jad [(6,.int .i64 w)] [] ?_ ?_
 ·exact V.d1 jgM c
 refine V.r0 @jg8 ?_
 exact Fin.of rfl
theorem cmp3_22 (R:Nat→Tx)(w:Int)(c:Cl 62 [.agg [.str (R 2).1,.str (R 2).2],.agg [.str (R 2).1,.str (R 2).2]] (.tup [.int .i64 w,.int .i64 0]))(hw:InR .i64 w):Cl 61 [.int .i64 2,.int .i64 2,.ref [V.sl2 3 [.str (R 0).1,.str (R 0).2,.str (R 1).1,.str (R 1).2,.str (R 2).1,.str (R 2).2]]] (.int .i64 w):=by
 refine V.en tbOk Tryz.func61 ?_
 refine V.r0 jgM ?_
 refine⟨Pq22z,[],V.pok,?_⟩
 refine jad [(6,.int .i64 w)] [] ?_ ?_
 ·exact V.d1 jgM c
 refine V.r0 @jg8 ?_
 exact Fin.of rfl
theorem cmp3 (R:Nat→Tx)(w:Int→Int→Int)(hw:∀ a b,InR .i64 (w a b))(c:∀ a b:Nat,a<3→b<3→Cl 62 [.agg [.str (R b).1,.str (R b).2],.agg [.str (R a).1,.str (R a).2]] (.tup [.int .i64 (w a b),.int .i64 0])):∀ a b:Nat,a<3→b<3→Cl 61 [.int .i64 a,.int .i64 b,.ref [V.sl2 3 [.str (R 0).1,.str (R 0).2,.str (R 1).1,.str (R 1).2,.str (R 2).1,.str (R 2).2]]] (.int .i64 (w a b)):=fun a b ha hb=>by
 have h1:a=0∨a=1∨a=2:=by omega
 have h2:b=0∨b=1∨b=2:=by omega
 have k:=c a b ha hb
 rcases h1 with e|e|e<;>rcases h2 with g|g|g<;>subst e<;>subst g
 ·exact cmp3_00 R _ k (hw _ _)
 ·exact cmp3_01 R _ k (hw _ _)
 ·exact cmp3_02 R _ k (hw _ _)
 ·exact cmp3_10 R _ k (hw _ _)
 ·exact cmp3_11 R _ k (hw _ _)
 ·exact cmp3_12 R _ k (hw _ _)
 ·exact cmp3_20 R _ k (hw _ _)
 ·exact cmp3_21 R _ k (hw _ _)
 ·exact cmp3_22 R _ k (hw _ _)
def txq (q:Rat):Tx:=(decZ q.num,dec q.den)
def rqN (r0 r1 r2:Rat):Nat→Rat
 | 0=>r0
 | 1=>r1
 | _=>r2
def bqN (rq:Nat→Rat)(o:List Int):Nat→Rat
 | 0=>1
 | k+1=>rq (o.getD k 0).toNat
def wqN (rq:Nat→Rat)(o:List Int)(n k:Nat):Rat:=if k=n then bqN rq o n else bqN rq o k-bqN rq o (k+1)
def slQ (Y:Nat→Tx)(n:Nat):D:=V.sl2 n (wce Y n)
theorem sel_n (r0 r1 r2:Rat):∀ i:Nat,sel r0 r1 r2 (i:Int)=rqN r0 r1 r2 i
 | 0=>by unfold sel;rw[if_pos (by rfl)];rfl
 | 1=>by unfold sel;rw[if_neg (by decide),if_pos (by rfl)];rfl
 | k+2=>by unfold sel;rw[if_neg (by omega),if_neg (by omega)];rfl
theorem cmpW_n (r0 r1 r2:Rat)(a b:Nat):cmpW r0 r1 r2 (a:Int) (b:Int)=ordQ (rqN r0 r1 r2 b) (rqN r0 r1 r2 a):=by unfold cmpW;rw[sel_n,sel_n]
theorem ordQ_in (p q:Rat):InR .i64 (ordQ p q):=by
 unfold ordQ
 split
 ·exact⟨by decide,by decide⟩
 ·split<;>exact⟨by decide,by decide⟩
theorem jeL {n:Nat}{x:Rat}{s:Int}(h:Fq n x)(h0:0<n)(hs:2≤s∧s≤9):Fq (n+3) (spR s x):=by
 have fs:Fq 1 ((s-1:Int):Rat):=jcy (by omega) (by omega)
 have bb:=jfs hs.1 x
 have fi:Fq 1 ((spB s x:Int):Rat):=jcy (by omega) (by omega)
 exact((fq_cl h h0).mul fs).sub fi
theorem fq_rq {r0 r1 r2:Rat}(h0:Fq 43 r0)(h1:Fq 43 r1)(h2:Fq 43 r2):∀ k,Fq 43 (rqN r0 r1 r2 k)
 | 0=>h0
 | 1=>h1
 | _+2=>h2
theorem fq_one:Fq 43 1:=⟨by decide,by decide⟩
theorem fq_bq {rq:Nat→Rat}(h:∀ k,Fq 43 (rq k))(o:List Int):∀ k,Fq 43 (bqN rq o k)
 | 0=>fq_one
 | k+1=>h _
theorem fq_wq {rq:Nat→Rat}(h:∀ k,Fq 43 (rq k))(o:List Int)(n k:Nat):Fq 87 (wqN rq o n k):=by
 unfold wqN
 split
 ·exact(fq_bq h o n).mono (by decide)
 ·exact(fq_bq h o k).sub (fq_bq h o (k+1))
theorem find3_q {x0 x1 x2:Rat}{z0 z1 z2:Int}(out:Int)(data:List Int)(h0:Fq 40 x0)(h1:Fq 40 x1)(h2:Fq 40 x2)(s0:2≤z0∧z0≤9)(s1:2≤z1∧z1≤9)(s2:2≤z2∧z2≤9) :
  Cl 35 [.agg [.ints .i64 [z0,z1,z2],.int .i64 out,.ints .i64 data],slQ (fun i=>txq (rqN x0 x1 x2 i)) 3] (.tup [.agg [.ints .i64 [z0,z1,z2],.int .i64 out,.ints .i64 data,.ints .i64 [spB z0 x0,spB z1 x1,spB z2 x2],.ints .i64 (ord3 (spR z0 x0) (spR z1 x1) (spR z2 x2)),slQ (fun k=>txq (wqN (rqN (spR z0 x0) (spR z1 x1) (spR z2 x2)) (ord3 (spR z0 x0) (spR z1 x1) (spR z2 x2)) 3 k)) 4],.int .i64 0]):=by
 have p0:=jfZ h0 (by decide) s0
 have f0:=jeL h0 (by decide) s0
 have p1:=jfZ h1 (by decide) s1
 have f1:=jeL h1 (by decide) s1
 have p2:=jfZ h2 (by decide) s2
 have f2:=jeL h2 (by decide) s2
 have io:=jaL (n:=1) (by omega)
 rw[show ((1:Int):Rat)=1 from rfl] at io
 have fr:∀ k,Fq 43 (rqN (spR z0 x0) (spR z1 x1) (spR z2 x2) k):=fq_rq f0 f1 f2
 have cm:=cmp3 (fun i=>txq (rqN (spR z0 x0) (spR z1 x1) (spR z2 x2) i)) (cmpW (spR z0 x0) (spR z1 x1) (spR z2 x2)) (fun a b=>ordQ_in _ _) (fun a b _ _=>by
  have c:=zcmp (fr b) (fr a) (by decide) (by decide)
  rw[← cmpW_n] at c
  exact c)
 have g:=find3_t z0 z1 z2 out (spB z0 x0) (spB z1 x1) (spB z2 x2) data _ _ _ _ _ _ _ _ (fun i=>txq (rqN (spR z0 x0) (spR z1 x1) (spR z2 x2) i)) (fun k=>txq (bqN (rqN (spR z0 x0) (spR z1 x1) (spR z2 x2)) (isoK (cmpW (spR z0 x0) (spR z1 x1) (spR z2 x2)) [0,1,2] (3-1)) k)) (fun k=>txq (bqN (rqN (spR z0 x0) (spR z1 x1) (spR z2 x2)) (isoK (cmpW (spR z0 x0) (spR z1 x1) (spR z2 x2)) [0,1,2] (3-1)) k-bqN (rqN (spR z0 x0) (spR z1 x1) (spR z2 x2)) (isoK (cmpW (spR z0 x0) (spR z1 x1) (spR z2 x2)) [0,1,2] (3-1)) (k+1))) p0 p1 p2 io (cmpW (spR z0 x0) (spR z1 x1) (spR z2 x2)) cm rfl (fun k _=>rfl) (fun k _=>zsub (fq_bq fr _ k) (fq_bq fr _ (k+1)) (by decide) (by decide) (by decide))
 have e:isoK (cmpW (spR z0 x0) (spR z1 x1) (spR z2 x2)) [0,1,2] (3-1)=(ord3 (spR z0 x0) (spR z1 x1) (spR z2 x2)):=iso3 _ _ _
 rw[e] at g
 exact g
end Go.Proofs.YtbhpaandigaanaaGreatDoor
end
section
namespace Go.Proofs.YtbhpaandigaanaaGreatDoor
open Go Go.V
def pz (z:List (Int×Int)):Int:=z.foldl (fun p a=>p*a.1+a.2) 0
def okIdx (size xs:List Int):Bool:=decide (xs.length=size.length) && (size.zip xs).all fun a=>decide (0≤a.2∧a.2≤a.1-1)
def pad4 (xs:List Int):List Int:=xs++List.replicate (4-xs.length) 0
theorem jb2 {xs:List Int}(h:xs.length≤4):(pad4 xs).length=4:=by simp[pad4];omega
theorem pad4_set {xs:List Int}{k:Nat}{x:Int}(h:xs[k]? = some x)(hl:xs.length≤4):(pad4 (xs.take k)).set k x=pad4 (xs.take (k+1)):=by
 have hk:k<xs.length:=(jhO.1 h).1
 refine List.ext_getElem? fun j=>?_
 rw[List.getElem?_set]
 have h1:(xs.take k).length=k:=by simp;omega
 have h2:(xs.take (k+1)).length=k+1:=by simp;omega
 have hp:(pad4 (xs.take k)).length=4:=jb2 (by omega)
 by_cases e:k=j
 ·subst e
  rw[if_pos rfl,if_pos (by omega)]
  unfold pad4
  rw[jhN (by omega),List.getElem?_take_of_lt (by omega),h]
 ·rw[if_neg e]
  unfold pad4
  rw[h1,h2]
  by_cases hj:j<k
  ·rw[jhN (by omega),jhN (by omega),List.getElem?_take_of_lt hj,List.getElem?_take_of_lt (by omega)]
  ·rw[List.getElem?_append_right (by omega),List.getElem?_append_right (by omega),h1,h2]
   simp only[List.getElem?_replicate]
   by_cases hj4:j<4
   ·rw[if_pos (by omega),if_pos (by omega)]
   ·rw[if_neg (by omega),if_neg (by omega)]
theorem pz_bd_aux (z:List (Int×Int)):∀ (p q:Int),(∀ a∈z,0≤a.2∧a.2≤a.1-1)→0≤p→p+1≤q →
  0≤z.foldl (fun p a=>p*a.1+a.2) p∧z.foldl (fun p a=>p*a.1+a.2) p+1≤(z.map (·.1)).foldl (· * ·) q:=by
 induction z with
 | nil=>intro p q _ h1 h2;exact⟨h1,h2⟩
 | cons a z ih=>
  intro p q h h1 h2
  have ha:=h a (by simp)
  simp only[List.foldl_cons,List.map_cons]
  have h3:0≤p*a.1:=jg4 h1 (by omega)
  have h4:(p+1)*a.1≤q*a.1:=jhg h2 (by omega)
  rw[jhy] at h4
  exact ih _ _ (fun b hb=>h b (by simp[hb])) (by omega) (by omega)
theorem pz_bd {z:List (Int×Int)}(h:∀ a∈z,0≤a.2∧a.2≤a.1-1):0≤pz z∧pz z+1≤prod (z.map (·.1)):=pz_bd_aux z 0 1 h (by omega) (by omega)
theorem jdT {size xs:List Int} : okIdx size xs=true↔xs.length=size.length ∧ ∀ (k:Nat) (n x:Int),size[k]? = some n→xs[k]? = some x→0≤x∧x≤n-1:=by
 unfold okIdx
 rw[jg0,decide_eq_true_eq,jhE]
 constructor
 ·rintro⟨h1,h2⟩
  refine⟨h1,fun k n x hn hx=>?_⟩
  have:=h2 (n,x) (jhJ (i:=k) (by rw[List.getElem?_zip_eq_some];exact⟨hn,hx⟩))
  simpa using this
 ·rintro⟨h1,h2⟩
  refine⟨h1,fun a ha=>?_⟩
  obtain⟨k,hk⟩:=List.getElem?_of_mem ha
  rw[List.getElem?_zip_eq_some] at hk
  simpa using h2 k _ _ hk.1 hk.2
theorem jbP {size:List Int}{out:Int}{data:List Int}(h:jaw size out data=true):1≤size.length∧size.length≤4∧1≤out∧out≤4∧size.all (fun n=>decide (2≤n∧n≤9))=true∧(data.length:Int)≤4096∧(data.length:Int)=prod size*out∧data.all (fun v=>decide (0≤v∧v≤65535))=true:=by
 unfold jaw at h
 simp only[jg0] at h
 obtain⟨⟨⟨⟨h1,h2⟩,h3⟩,h4⟩,h5⟩:=h
 simp only[decide_eq_true_eq] at h1 h2 h4
 exact⟨h1.1,h1.2,h2.1,h2.2,h3,h4.1,h4.2,h5⟩
theorem okIdx_step {size xs:List Int}{n x:Int}(h:okIdx size xs=true)(hl:size.length=xs.length)(hx:0≤x∧x≤n-1):okIdx (size++[n].toArray.toList) (xs++[x].toArray.toList)=true:=by
 unfold okIdx at *
 rw[List.zip_append hl]
 simp at *
 exact⟨by omega,h.2,by omega⟩
theorem find_c (size:List Int)(out:Int)(data xs:List Int)(hg:jaw size out data=true)(hx:xs.length≤281474976710656) :
  Cl 97 [gridD size out data,.ints .i64 xs] (.tup [.iarr .i64 (if okIdx size xs then pad4 xs else [0,0,0,0]),.bool (okIdx size xs)]):=by
 have hG:=jbP hg
 refine V.en tbOk Tryz.func97 ?_
 (conv=>whnf)
 refine V.st ?_
 refine V.br (fun h=>?_) (fun h=>?_)
 ·have:okIdx size xs=false:=by
   unfold okIdx
   simp at h;simp;omega
  (conv=>whnf)
  refine V.st ?_
  rw[this]
  exact Fin.of rfl
 have hl:xs.length=size.length:=by simp at h;omega
 clear h
 (conv=>whnf)
 refine V.st ?_
 refine lp_go (xs.length) (fun k=>okIdx (size.take k) (xs.take k)=true) (fun k=>[(19,.int .i64 k)]) (fun k=>[(6,.arr .i64 (pad4 (xs.take k)))]) V.wk ?_ ?_
 ·rfl
 intro k hk hI
 (conv=>whnf)
 refine V.st ?_
 refine V.br (fun h=>?_) (fun h=>?_)
 ·simp only[decide_eq_true_eq] at h
  obtain⟨x,hx1,ex⟩:=getx (xs:=xs) (k:=k) (by omega)
  obtain⟨n,hn1,en⟩:=getx (xs:=size) (k:=k) (by omega)
  have hnb:2≤n∧n≤9:=by
   have:=jhE.1 hG.2.2.2.2.1 n (jhJ hn1)
   simpa using this
  (conv=>whnf)
  refine V.st ?_
  rw[en]
  refine V.st ?_
  repeat ((try ((with_reducible refine .ext ?_);(conv=>whnf)));(with_reducible refine jaa (r:=?_) ?_ ?_);rotate_left;(focus (first|exact(jdt _ _ _)));(conv=>whnf);refine V.st ?_)
  rw[ex]
  refine V.br (fun h=>?_) (fun h=>?_)
  ·have:okIdx size xs=false:=by
    cases hb:okIdx size xs with
    | false=>rfl
    | true=>
     have:=(jdT.1 hb).2 k n x hn1 hx1
     simp at h;omega
   (conv=>whnf)
   refine V.st ?_
   rw[this]
   exact Fin.of rfl
  ·(conv=>whnf)
   refine V.st ?_
   simp only[jb2 (xs:=xs.take k) (by simp;omega)]
   refine V.st ?_
   simp only[jg8,jha]
   rw[pad4_set hx1 (by omega)]
   exact⟨k+1,⟨by omega,(by rw[List.take_add_one,List.take_add_one,hn1,hx1];exact okIdx_step (n:=n) (x:=x) hI (by simp[jhL];omega) (by simp at h;omega))⟩,by omega,V.wk⟩
 ·simp only[decide_eq_false_iff_not] at h
  rw[jhT (by omega),jhT (by omega)] at hI
  (conv=>whnf)
  refine V.st ?_
  have hp4:(pad4 xs).length=4:=jb2 (by omega)
  rw[jhT (by omega)]
  refine V.st ?_
  rw[hI]
  exact Fin.of rfl
theorem place_c (size:List Int)(out:Int)(data xs:List Int)(hg:jaw size out data=true)(hx:xs.length=4)(hi:∀ (k:Nat) (n x:Int),size[k]? = some n→xs[k]? = some x→0≤x∧x≤n-1) :
  Cl 131 [gridD size out data,.iarr .i64 xs] (.int .i64 (pz (size.zip xs)*out)):=by
 have hG:=jbP hg
 have hb:∀ k,k≤size.length→0≤pz ((size.zip xs).take k)∧pz ((size.zip xs).take k)+1≤6561:=fun k hk=>by
  have h1:=pz_bd (z:=(size.zip xs).take k) (fun a ha=>by
   obtain⟨j,hj⟩:=List.getElem?_of_mem (jhQ ha)
   rw[List.getElem?_zip_eq_some] at hj
   exact hi j _ _ hj.1 hj.2)
  have h2:=(je5 hG.2.2.2.2.1 k).2.1 hG.2.1
  have h3:((size.zip xs).take k).map (·.1)=size.take k:=by
   rw[List.map_take,List.map_fst_zip (by omega)]
  rw[h3] at h1
  omega
 have hb2:=hb size.length (by omega)
 rw[jhT (by simp;omega)] at hb2
 refine V.en tbOk Tryz.func131 ?_
 (conv=>whnf)
 refine V.st ?_
 refine lp_go (size.length) (fun k=>True) (fun k=>[(5,.int .i64 (pz ((size.zip xs).take k))),(12,.int .i64 k)]) (fun k=>[]) V.wk ?_ ?_
 ·trivial
 intro k hk _
 (conv=>whnf)
 refine V.st ?_
 refine V.br (fun h=>?_) (fun h=>?_)
 ·simp only[decide_eq_true_eq] at h
  obtain⟨n,hn1,en⟩:=getx (xs:=size) (k:=k) (by omega)
  obtain⟨x,hx1,ex⟩:=getx (xs:=xs) (k:=k) (by omega)
  have hz:(size.zip xs)[k]? = some (n,x):=by rw[List.getElem?_zip_eq_some];exact⟨hn1,hx1⟩
  have hs:pz ((size.zip xs).take (k+1))=pz ((size.zip xs).take k)*n+x:=by
   rw[List.take_add_one,hz];simp[pz]
  have h1:=hb k (by omega)
  have h2:=hb (k+1) (by omega)
  have h3:=hi k n x hn1 hx1
  rw[hs] at h2
  have h4:0≤pz ((size.zip xs).take k)*n:=jg4 h1.1 (by omega)
  refine V.r0 (V.a3 @en ex @jg8) ?_
  rw[← hs]
  exact⟨k+1,⟨by omega,trivial⟩,by omega,V.wk⟩
 ·simp only[decide_eq_false_iff_not] at h
  rw[jhT (l:=size.zip xs) (by simp;omega)]
  have hm:InR .i64 (pz (size.zip xs)*out):=by
   have h5:0≤pz (size.zip xs)*out:=jg4 hb2.1 (by omega)
   have h6:pz (size.zip xs)*out≤6561*4:=Int.mul_le_mul (by omega) (by omega) (by omega) (by omega)
   simp only[V.InR,lo,V.hi];omega
  (conv=>whnf)
  refine V.st ?_
  exact Fin.same _
theorem pz_last {size:List Int}{out:Int}{data xs:List Int}(hg:jaw size out data=true)(hx:size.length≤xs.length)(hi:∀ (k:Nat) (n x:Int),size[k]? = some n→xs[k]? = some x→0≤x∧x≤n-1) :
  0≤pz (size.zip xs)*out∧pz (size.zip xs)*out+out≤data.length:=by
 have hG:=jbP hg
 have h1:=pz_bd (z:=size.zip xs) (fun a ha=>by
  obtain⟨j,hj⟩:=List.getElem?_of_mem ha
  rw[List.getElem?_zip_eq_some] at hj
  exact hi j _ _ hj.1 hj.2)
 rw[List.map_fst_zip (by omega)] at h1
 refine⟨jg4 h1.1 (by omega),?_⟩
 have h2:(pz (size.zip xs)+1)*out≤prod size*out:=jhg h1.2 (by omega)
 rw[jhy] at h2
 omega
def slot (data:List Int)(p out:Int):List Int:=(data.drop p.toNat).take out.toNat
theorem slot_copy {data:List Int}{p out:Int}(h1:0≤p)(h2:0≤out)(h3:p+out≤data.length) :
  List.take out.toNat (V.setAt (List.replicate out.toNat 0) 0 (List.take out.toNat (List.drop p.toNat (List.take (p+out).toNat data))))=slot data p out:=by
 have e1:List.take out.toNat (List.drop p.toNat (List.take (p+out).toNat data))=slot data p out:=by
  have:(p+out).toNat=p.toNat+out.toNat:=by omega
  rw[this,List.drop_take,List.take_take]
  simp[slot]
 rw[e1]
 have hl:(slot data p out).length=out.toNat:=by simp[slot];omega
 unfold V.setAt
 rw[List.take_zero,jhR,List.take_append_of_le_length (by omega),jhT (by omega)]
theorem values_c (size:List Int)(out:Int)(data xs:List Int)(hg:jaw size out data=true)(hx:xs.length=4)(hi:∀ (k:Nat) (n x:Int),size[k]? = some n→xs[k]? = some x→0≤x∧x≤n-1) :
  Cl 98 [gridD size out data,.iarr .i64 xs] (.ints .i64 (slot data (pz (size.zip xs)*out) out)):=by
 have hG:=jbP hg
 have hp:=pz_last hg (by omega) hi
 refine V.en tbOk Tryz.func98 ?_
 (conv=>whnf)
 refine V.st ?_
 repeat ((try ((with_reducible refine .ext ?_);(conv=>whnf)));(with_reducible refine jaa (r:=?_) ?_ ?_);rotate_left;(focus (first|exact(place_c _ _ _ _ hg hx hi)));(conv=>whnf);refine V.st ?_)
 try refine And.intro (fun _=>⟨by omega,by simp⟩) ?_
 (conv=>whnf)
 refine V.st ?_
 exact Fin.of (by rw[slot_copy hp.1 (by omega) hp.2])
theorem jf0 {data:List Int}{p out:Int}(h1:0≤p)(h2:0≤out)(h3:p+out≤data.length):(slot data p out).length=out.toNat:=by
 simp[slot];omega
theorem jfA {size xs:List Int}(h:okIdx size xs=true)(h4:size.length≤4):(pad4 xs).length=4 ∧ ∀ (k:Nat) (n x:Int),size[k]? = some n→(pad4 xs)[k]? = some x→0≤x∧x≤n-1:=by
 obtain⟨h1,h2⟩:=jdT.1 h
 refine⟨jb2 (by omega),fun k n x hn hx=>?_⟩
 have hk:=(jhO.1 hn).1
 unfold pad4 at hx
 rw[jhN (by omega)] at hx
 exact h2 k n x hn hx
theorem zip_pad {size xs:List Int}(h:okIdx size xs=true):size.zip (pad4 xs)=size.zip xs:=by
 obtain⟨h1,h2⟩:=jdT.1 h
 unfold pad4
 have:=List.zip_append (l₁:=size) (r₁:=([]:List Int)) (l₂:=xs) (r₂:=List.replicate (4-xs.length) 0) h1.symm
 simpa using this
theorem gat_c (size:List Int)(out:Int)(data xs:List Int)(hs:size.length≤281474976710656)(hd:data.length≤281474976710656)(hx:xs.length≤281474976710656) :
  Cl 64 [gridD size out data,.ints .i64 xs] (.tup [.ints .i64 (if jaw size out data && okIdx size xs then slot data (pz (size.zip xs)*out) out else []),.int .i64 (if jaw size out data then (if okIdx size xs then 0 else 2) else 100)]):=by
 refine V.en tbOk Tryz.func64 ?_
 (conv=>whnf)
 refine V.st ?_
 repeat ((try ((with_reducible refine .ext ?_);(conv=>whnf)));(with_reducible refine jaa (r:=?_) ?_ ?_);rotate_left;(focus (first|exact(jgB _ _ _ hs hd)));(conv=>whnf);refine V.st ?_)
 cases hg:jaw size out data with
 | false=>
  refine V.br (fun h=>?_) (fun h=>?_)
  ·(conv=>whnf)
   refine V.st ?_
   exact Fin.tup ⟨Fin.nil _,Fin.of rfl,trivial⟩
  ·simp at h
 | true=>
  have hG:=jbP hg
  refine V.br (fun h=>?_) (fun h=>?_)
  ·simp at h
  have hpl:(if okIdx size xs=true then pad4 xs else [0,0,0,0]).length=4:=by
   split
   ·rename_i h;exact(jfA h hG.2.1).1
   ·rfl
  (conv=>whnf)
  refine V.st ?_
  repeat ((try ((with_reducible refine .ext ?_);(conv=>whnf)));(with_reducible refine jaa (r:=?_) ?_ ?_);rotate_left;(focus (first|exact(find_c _ _ _ _ hg hx)));(conv=>whnf);refine V.st ?_)
  refine V.br (fun hi=>?_) (fun hi=>?_)
  ·have hi2:okIdx size xs=false:=by simpa using hi
   (conv=>whnf)
   refine V.st ?_
   rw[hi2]
   exact Fin.tup ⟨Fin.nil _,Fin.of rfl,trivial⟩
  ·have hi2:okIdx size xs=true:=by simpa using hi
   obtain⟨hp1,hp2⟩:=jfA hi2 hG.2.1
   rw[hi2,if_pos rfl]
   (conv=>whnf)
   refine V.st ?_
   repeat ((try ((with_reducible refine .ext ?_);(conv=>whnf)));(with_reducible refine jaa (r:=?_) ?_ ?_);rotate_left;(focus (first|exact(values_c _ _ _ _ hg hp1 hp2)));(conv=>whnf);refine V.st ?_)
   rw[zip_pad hi2]
   exact Fin.of rfl
end Go.Proofs.YtbhpaandigaanaaGreatDoor
end
section
namespace Go.Proofs.YtbhpaandigaanaaGreatDoor
open Go Go.V Go.Nb
def smF (P:Nat→Rat):Nat→Rat
 | 0=>P 0
 | k+1=>smF P k+P (k+1)
def gvF (zs:List Int)(out:Int)(data:List Int)(j:Nat)(i k l:Int):Rat:=(((slot data (pz (zs.zip ([i,k,l].take zs.length))*out) out).getD j 0:Int):Rat)
def evQ (zs:List Int)(out:Int)(data:List Int)(x0 x1 x2:Rat)(j:Nat):Rat:=evF (zs.getD 0 2) (zs.getD 1 2) (zs.getD 2 2) (gvF zs out data j) x0 x1 x2/65535
theorem jdS {zs:List Int}{out:Int}{data:List Int}(h:jaw zs out data=true):(1≤out∧out≤4)∧(∀ z∈zs,2≤z∧z≤9)∧((data.length:Int)≤4096∧(data.length:Int)=prod zs*out) ∧ ∀ v∈data,0≤v∧v≤65535:=by
 unfold jaw at h
 simp only[jg0,decide_eq_true_eq,jhE] at h
 exact⟨h.1.1.1.2,h.1.1.2,h.1.2,h.2⟩
theorem getD_all {l:List Int}{p:Int→Prop}(h:∀ v∈l,p v)(h0:p 0)(j:Nat):p (l.getD j 0):=by
 by_cases hj:j<l.length
 ·rw[jhF,jhI hj]
  exact h _ (List.getElem_mem hj)
 ·rw[jhF,List.getElem?_eq_none (by omega)]
  exact h0
theorem slot_vals {data:List Int}(h:∀ v∈data,0≤v∧v≤65535)(p w:Int)(j:Nat):0≤(slot data p w).getD j 0∧(slot data p w).getD j 0≤65535:=
 getD_all (p:=fun v=>0≤v∧v≤65535) (fun v hv=>h v (jhP (jhQ hv))) (by omega) j
theorem gat_at {zs:List Int}{out:Int}{data xs:List Int}(h:jaw zs out data=true)(hi:okIdx zs xs=true)(hl:zs.length≤4)(hx:xs.length≤4):Cl 64 [gridD zs out data,.ints .i64 xs] (.tup [.ints .i64 (slot data (pz (zs.zip xs)*out) out),.int .i64 0]):=by
 have o:=jdS h
 have c:=gat_c zs out data xs (by omega) (by omega) (by omega)
 rw[h,hi] at c
 exact c
theorem jf1 {zs:List Int}{out:Int}{data xs:List Int}(h:jaw zs out data=true)(hi:okIdx zs xs=true):(slot data (pz (zs.zip xs)*out) out).length=out.toNat:=by
 have o:=jdS h
 unfold okIdx at hi
 simp only[jg0,decide_eq_true_eq,jhE] at hi
 have b:=pz_bd hi.2
 have e:(zs.zip xs).map (·.1)=zs:=List.map_fst_zip (by omega)
 rw[e] at b
 have h1:0≤pz (zs.zip xs)*out:=jg4 b.1 (by omega)
 have h2:pz (zs.zip xs)*out+out≤data.length:=by
  rw[o.2.2.1.2]
  have:=jhg b.2 (show 0≤out by omega)
  rw[jhy,jhz] at this
  exact this
 exact jf0 h1 (by omega) h2
theorem ord3_mem (r0 r1 r2:Rat):ord3 r0 r1 r2=[0,1,2]∨ord3 r0 r1 r2=[0,2,1]∨ord3 r0 r1 r2=[1,0,2]∨ord3 r0 r1 r2=[1,2,0]∨ord3 r0 r1 r2=[2,0,1]∨ord3 r0 r1 r2=[2,1,0]:=by
 unfold ord3
 repeat' split
 all_goals simp
theorem jff:(65535:Int).natAbs<10^5:=by decide
theorem full_num:((65535:Int):Rat).num≠0:=by decide
theorem valU3 (z0 z1 z2 b0 b1 b2 out:Int)(data O:List Int)(rq:Nat→Rat)(fr:∀ k,Fq 43 (rq k))(U:Nat→List Int)(ho:1≤out∧out≤4)(hU:∀ k,k<4→(U k).length=out.toNat ∧ ∀ j,0≤(U k).getD j 0∧(U k).getD j 0≤65535)(hl:O.length=3)(hx:∀ k,k<3→0≤O.getD k 0∧O.getD k 0<4)(hi:∀ k,k<3→InR .i64 ((atK [b0,b1,b2,0] O k).getD (O.getD k 0).toNat 0+1))
  (pt:∀ k,k<4→Cl 36 [.agg [.ints .i64 [z0,z1,z2],.int .i64 out,.ints .i64 data,.ints .i64 [b0,b1,b2],.ints .i64 O,slQ (fun k=>txq (wqN rq O 3 k)) 4],.iarr .i64 (atK [b0,b1,b2,0] O k)] (.tup [.ints .i64 (U k),.int .i64 0])) :
  Cl 21 [.agg [.ints .i64 [z0,z1,z2],.int .i64 out,.ints .i64 data,.ints .i64 [b0,b1,b2],.ints .i64 O,slQ (fun k=>txq (wqN rq O 3 k)) 4]] (.tup [slQ (fun j=>txq (smF (fun k=>wqN rq O 3 k*(((U k).getD j 0:Int):Rat)) 3/65535)) out.toNat,.int .i64 0]):=by
 have v1:∀ j:Nat,j<out.toNat→Cl 39 [.int .i64 (j:Int),.ref [.slf 1 4 (fun j=>List.take 1 (List.drop (j*1) [.ints .i64 (U 0),.ints .i64 (U 1),.ints .i64 (U 2),.ints .i64 (U 3)]))],.ref [slQ (fun k=>txq (wqN rq O 3 k)) 4]] (.tup [frT (smF (fun k=>wqN rq O 3 k*(((U k).getD j 0:Int):Rat)) 3/65535),.int .i64 0]):=by
  intro j hj
  have fu:=jaL (n:=65535) (by omega)
  have fm:∀ k,k<4→Fq 92 (wqN rq O 3 k*(((U k).getD j 0:Int):Rat)):=fun k hk=>(fq_wq fr O 3 k).mul (jcy (n:=5) (by have:=(hU k hk).2 j;omega) (by omega))
  have i0:=jaL (n:=(U 0).getD j 0) (by have:=(hU 0 (by omega)).2 j;omega)
  have u0:=zmul (fq_wq fr O 3 0) (jcy (n:=5) (z:=(U 0).getD j 0) (by have:=(hU 0 (by omega)).2 j;omega) (by omega)) (by decide) (by decide) (by decide)
  have m0:=prod4_0 (fun k=>txq (wqN rq O 3 k)) (fun k=>txq (wqN rq O 3 k*(((U k).getD j 0:Int):Rat))) U j _ _ (by rw[(hU 0 (by omega)).1];exact hj) i0 u0
  have i1:=jaL (n:=(U 1).getD j 0) (by have:=(hU 1 (by omega)).2 j;omega)
  have u1:=zmul (fq_wq fr O 3 1) (jcy (n:=5) (z:=(U 1).getD j 0) (by have:=(hU 1 (by omega)).2 j;omega) (by omega)) (by decide) (by decide) (by decide)
  have m1:=prod4_1 (fun k=>txq (wqN rq O 3 k)) (fun k=>txq (wqN rq O 3 k*(((U k).getD j 0:Int):Rat))) U j _ _ (by rw[(hU 1 (by omega)).1];exact hj) i1 u1
  have i2:=jaL (n:=(U 2).getD j 0) (by have:=(hU 2 (by omega)).2 j;omega)
  have u2:=zmul (fq_wq fr O 3 2) (jcy (n:=5) (z:=(U 2).getD j 0) (by have:=(hU 2 (by omega)).2 j;omega) (by omega)) (by decide) (by decide) (by decide)
  have m2:=prod4_2 (fun k=>txq (wqN rq O 3 k)) (fun k=>txq (wqN rq O 3 k*(((U k).getD j 0:Int):Rat))) U j _ _ (by rw[(hU 2 (by omega)).1];exact hj) i2 u2
  have i3:=jaL (n:=(U 3).getD j 0) (by have:=(hU 3 (by omega)).2 j;omega)
  have u3:=zmul (fq_wq fr O 3 3) (jcy (n:=5) (z:=(U 3).getD j 0) (by have:=(hU 3 (by omega)).2 j;omega) (by omega)) (by decide) (by decide) (by decide)
  have m3:=prod4_3 (fun k=>txq (wqN rq O 3 k)) (fun k=>txq (wqN rq O 3 k*(((U k).getD j 0:Int):Rat))) U j _ _ (by rw[(hU 3 (by omega)).1];exact hj) i3 u3
  have li:=list4_3 (fun k=>txq (wqN rq O 3 k*(((U k).getD j 0:Int):Rat))) m0 m1 m2 m3
  have s0:Fq 92 (smF (fun k=>wqN rq O 3 k*(((U k).getD j 0:Int):Rat)) 0):=fm 0 (by omega)
  have s1:Fq 185 (smF (fun k=>wqN rq O 3 k*(((U k).getD j 0:Int):Rat)) 1):=s0.add (fm 1 (by omega))
  have s2:Fq 278 (smF (fun k=>wqN rq O 3 k*(((U k).getD j 0:Int):Rat)) 2):=s1.add (fm 2 (by omega))
  have s3:Fq 371 (smF (fun k=>wqN rq O 3 k*(((U k).getD j 0:Int):Rat)) 3):=s2.add (fm 3 (by omega))
  have su:=sum4 (fun k=>txq (wqN rq O 3 k*(((U k).getD j 0:Int):Rat))) (fun k=>txq (smF (fun k=>wqN rq O 3 k*(((U k).getD j 0:Int):Rat)) k)) rfl (zadd s0 (fm 1 (by omega)) (by decide) (by decide) (by decide)) (zadd s1 (fm 2 (by omega)) (by decide) (by decide) (by decide)) (zadd s2 (fm 3 (by omega)) (by decide) (by decide) (by decide))
  have dv:=zdiv s3 (jcy (n:=5) (z:=65535) jff (by decide)) full_num (by decide) (by decide) (by decide)
  rw[show ((65535:Int):Rat)=65535 from rfl] at fu dv
  exact val1_4 (fun k=>txq (wqN rq O 3 k)) (fun k=>txq (wqN rq O 3 k*(((U k).getD j 0:Int):Rat))) (fun k=>txq (smF (fun k=>wqN rq O 3 k*(((U k).getD j 0:Int):Rat)) k)) U j _ _ _ _ li su fu dv
 refine value3_t z0 z1 z2 b0 b1 b2 out data O (fun k=>txq (wqN rq O 3 k)) U _ _ hl hx hi pt ?_
 have h4:out=1∨out=2∨out=3∨out=4:=by omega
 rcases h4 with e|e|e|e<;>subst e
 ·exact list1_2 (z:=0) (fun j=>txq (smF (fun k=>wqN rq O 3 k*(((U k).getD j 0:Int):Rat)) 3/65535)) (v1 0 (by decide))
 ·exact list2_2 (z:=0) (fun j=>txq (smF (fun k=>wqN rq O 3 k*(((U k).getD j 0:Int):Rat)) 3/65535)) (v1 0 (by decide)) (v1 1 (by decide))
 ·exact list3_2 (z:=0) (fun j=>txq (smF (fun k=>wqN rq O 3 k*(((U k).getD j 0:Int):Rat)) 3/65535)) (v1 0 (by decide)) (v1 1 (by decide)) (v1 2 (by decide))
 ·exact list4_2 (z:=0) (fun j=>txq (smF (fun k=>wqN rq O 3 k*(((U k).getD j 0:Int):Rat)) 3/65535)) (v1 0 (by decide)) (v1 1 (by decide)) (v1 2 (by decide)) (v1 3 (by decide))
theorem inr9 {z:Int}(h:0≤z∧z≤100):InR .i64 z:=⟨by show (-9223372036854775808:Int)≤z;omega,by show z≤9223372036854775807;omega⟩
theorem corn3 {O:List Int}(h:O=[0,1,2]∨O=[0,2,1]∨O=[1,0,2]∨O=[1,2,0]∨O=[2,0,1]∨O=[2,1,0])(b0 b1 b2:Int):O.length=3∧(∀ k,k<3→0≤O.getD k 0∧O.getD k 0<4) ∧ ∀ k,k<4 → ∃ i0 i1 i2:Int,atK [b0,b1,b2,0] O k=[i0,i1,i2,0]∧b0≤i0∧i0≤b0+1∧b1≤i1∧i1≤b1+1∧b2≤i2∧i2≤b2+1:=by
 rcases h with rfl|rfl|rfl|rfl|rfl|rfl
 ·refine⟨rfl,fun k hk=>?_,fun k hk=>?_⟩
  ·have h:k=0∨k=1∨k=2:=by omega
   rcases h with rfl|rfl|rfl<;>decide
  ·have h:k=0∨k=1∨k=2∨k=3:=by omega
   rcases h with rfl|rfl|rfl|rfl
   ·exact⟨b0,b1,b2,rfl,by omega⟩
   ·exact⟨b0+1,b1,b2,rfl,by omega⟩
   ·exact⟨b0+1,b1+1,b2,rfl,by omega⟩
   ·exact⟨b0+1,b1+1,b2+1,rfl,by omega⟩
 ·refine⟨rfl,fun k hk=>?_,fun k hk=>?_⟩
  ·have h:k=0∨k=1∨k=2:=by omega
   rcases h with rfl|rfl|rfl<;>decide
  ·have h:k=0∨k=1∨k=2∨k=3:=by omega
   rcases h with rfl|rfl|rfl|rfl
   ·exact⟨b0,b1,b2,rfl,by omega⟩
   ·exact⟨b0+1,b1,b2,rfl,by omega⟩
   ·exact⟨b0+1,b1,b2+1,rfl,by omega⟩
   ·exact⟨b0+1,b1+1,b2+1,rfl,by omega⟩
 ·refine⟨rfl,fun k hk=>?_,fun k hk=>?_⟩
  ·have h:k=0∨k=1∨k=2:=by omega
   rcases h with rfl|rfl|rfl<;>decide
  ·have h:k=0∨k=1∨k=2∨k=3:=by omega
   rcases h with rfl|rfl|rfl|rfl
   ·exact⟨b0,b1,b2,rfl,by omega⟩
   ·exact⟨b0,b1+1,b2,rfl,by omega⟩
   ·exact⟨b0+1,b1+1,b2,rfl,by omega⟩
   ·exact⟨b0+1,b1+1,b2+1,rfl,by omega⟩
 ·refine⟨rfl,fun k hk=>?_,fun k hk=>?_⟩
  ·have h:k=0∨k=1∨k=2:=by omega
   rcases h with rfl|rfl|rfl<;>decide
  ·have h:k=0∨k=1∨k=2∨k=3:=by omega
   rcases h with rfl|rfl|rfl|rfl
   ·exact⟨b0,b1,b2,rfl,by omega⟩
   ·exact⟨b0,b1+1,b2,rfl,by omega⟩
   ·exact⟨b0,b1+1,b2+1,rfl,by omega⟩
   ·exact⟨b0+1,b1+1,b2+1,rfl,by omega⟩
 ·refine⟨rfl,fun k hk=>?_,fun k hk=>?_⟩
  ·have h:k=0∨k=1∨k=2:=by omega
   rcases h with rfl|rfl|rfl<;>decide
  ·have h:k=0∨k=1∨k=2∨k=3:=by omega
   rcases h with rfl|rfl|rfl|rfl
   ·exact⟨b0,b1,b2,rfl,by omega⟩
   ·exact⟨b0,b1,b2+1,rfl,by omega⟩
   ·exact⟨b0+1,b1,b2+1,rfl,by omega⟩
   ·exact⟨b0+1,b1+1,b2+1,rfl,by omega⟩
 ·refine⟨rfl,fun k hk=>?_,fun k hk=>?_⟩
  ·have h:k=0∨k=1∨k=2:=by omega
   rcases h with rfl|rfl|rfl<;>decide
  ·have h:k=0∨k=1∨k=2∨k=3:=by omega
   rcases h with rfl|rfl|rfl|rfl
   ·exact⟨b0,b1,b2,rfl,by omega⟩
   ·exact⟨b0,b1,b2+1,rfl,by omega⟩
   ·exact⟨b0,b1+1,b2+1,rfl,by omega⟩
   ·exact⟨b0+1,b1+1,b2+1,rfl,by omega⟩
theorem ev3_sm {x0 x1 x2:Rat}{z0 z1 z2:Int}(s0:2≤z0)(s1:2≤z1)(s2:2≤z2)(out:Int)(data:List Int)(j:Nat):evQ [z0,z1,z2] out data x0 x1 x2 j=smF (fun k=>wqN (rqN (spR z0 x0) (spR z1 x1) (spR z2 x2)) (ord3 (spR z0 x0) (spR z1 x1) (spR z2 x2)) 3 k*(((slot data (pz ([z0,z1,z2].zip ((atK [spB z0 x0,spB z1 x1,spB z2 x2,0] (ord3 (spR z0 x0) (spR z1 x1) (spR z2 x2)) k).take 3))*out) out).getD j 0:Int):Rat)) 3/65535:=by
 unfold evQ
 refine congrArg (· / 65535) ?_
 show evF z0 z1 z2 (gvF [z0,z1,z2] out data j) x0 x1 x2=_
 unfold evF
 rcases ord3_mem (spR z0 x0) (spR z1 x1) (spR z2 x2) with e|e|e|e|e|e
 all_goals rw[e]
 all_goals exact rfl
theorem valq3 {x0 x1 x2:Rat}{z0 z1 z2 out:Int}{data:List Int}(hg:jaw [z0,z1,z2] out data=true)(h0:Fq 40 x0)(h1:Fq 40 x1)(h2:Fq 40 x2) :
  Cl 21 [.agg [.ints .i64 [z0,z1,z2],.int .i64 out,.ints .i64 data,.ints .i64 [spB z0 x0,spB z1 x1,spB z2 x2],.ints .i64 (ord3 (spR z0 x0) (spR z1 x1) (spR z2 x2)),slQ (fun k=>txq (wqN (rqN (spR z0 x0) (spR z1 x1) (spR z2 x2)) (ord3 (spR z0 x0) (spR z1 x1) (spR z2 x2)) 3 k)) 4]] (.tup [slQ (fun j=>txq (evQ [z0,z1,z2] out data x0 x1 x2 j)) out.toNat,.int .i64 0]):=by
 have og:=jdS hg
 have s0:=og.2.1 z0 (by simp)
 have f0:=jeL h0 (by decide) s0
 have b0:=jfs s0.1 x0
 have s1:=og.2.1 z1 (by simp)
 have f1:=jeL h1 (by decide) s1
 have b1:=jfs s1.1 x1
 have s2:=og.2.1 z2 (by simp)
 have f2:=jeL h2 (by decide) s2
 have b2:=jfs s2.1 x2
 have fr:∀ k,Fq 43 (rqN (spR z0 x0) (spR z1 x1) (spR z2 x2) k):=fq_rq f0 f1 f2
 obtain⟨ol,ox,oc⟩:=corn3 (O:=(ord3 (spR z0 x0) (spR z1 x1) (spR z2 x2))) (ord3_mem _ _ _) (spB z0 x0) (spB z1 x1) (spB z2 x2)
 have oi:∀ k,k<4→okIdx [z0,z1,z2] ((atK [spB z0 x0,spB z1 x1,spB z2 x2,0] (ord3 (spR z0 x0) (spR z1 x1) (spR z2 x2)) k).take 3)=true:=by
  intro k hk
  obtain⟨i0,i1,i2,e,hh⟩:=oc k hk
  rw[e]
  simp[okIdx]
  omega
 have g:=valU3 z0 z1 z2 (spB z0 x0) (spB z1 x1) (spB z2 x2) out data (ord3 (spR z0 x0) (spR z1 x1) (spR z2 x2)) (rqN (spR z0 x0) (spR z1 x1) (spR z2 x2)) fr (fun k=>slot data (pz ([z0,z1,z2].zip ((atK [spB z0 x0,spB z1 x1,spB z2 x2,0] (ord3 (spR z0 x0) (spR z1 x1) (spR z2 x2)) k).take 3))*out) out) og.1 (fun k hk=>⟨jf1 hg (oi k hk),slot_vals og.2.2.2 _ _⟩) ol ox (fun k hk=>?_) (fun k hk=>?_)
 ·rw[show (fun j=>txq (evQ [z0,z1,z2] out data x0 x1 x2 j))=_ from funext fun j=>congrArg txq (ev3_sm s0.1 s1.1 s2.1 out data j)]
  exact g
 ·obtain⟨i0,i1,i2,e,hh⟩:=oc k (by omega)
  rw[e]
  refine inr9 ?_
  have:=getD_all (l:=[i0,i1,i2,0]) (p:=fun v=>0≤v∧v≤9) (by intro v hv;simp only[jhH,List.not_mem_nil,or_false] at hv;omega) (by omega) (((ord3 (spR z0 x0) (spR z1 x1) (spR z2 x2)):List Int).getD k 0).toNat
  omega
 ·exact point3_t z0 z1 z2 (spB z0 x0) (spB z1 x1) (spB z2 x2) out data _ _ _ (fun k=>txq (wqN (rqN (spR z0 x0) (spR z1 x1) (spR z2 x2)) (ord3 (spR z0 x0) (spR z1 x1) (spR z2 x2)) 3 k)) (jck _ _ k rfl) (gat_at hg (oi k hk) (by simp) (by rw[jhL];omega))
theorem zX20_0:type_of% @jg8∧type_of% @tn0∧type_of% @tn1∧type_of% @tn2∧type_of% @tn3∧type_of% @xt4:=⟨@jg8,@tn0,@tn1,@tn2,@tn3,@xt4⟩
theorem loc3_t (z0 z1 z2 out:Int)(data B O:List Int)(X:Nat→Tx)(m:Nat)(F:Nat→List D)(ck:Cl 28 [.agg [.ints .i64 [z0,z1,z2],.int .i64 out,.ints .i64 data]] (.int .i64 0))(fc:∀ k,k<3→Cl 34 [.agg [.str (X k).1,.str (X k).2]] (.int .i64 0))(fi:Cl 35 [.agg [.ints .i64 [z0,z1,z2],.int .i64 out,.ints .i64 data],V.sl2 3 [.str (X 0).1,.str (X 0).2,.str (X 1).1,.str (X 1).2,.str (X 2).1,.str (X 2).2]] (.tup [.agg [.ints .i64 [z0,z1,z2],.int .i64 out,.ints .i64 data,.ints .i64 B,.ints .i64 O,.slf 2 m F],.int .i64 0])) :
  Cl 20 [.agg [.ints .i64 [z0,z1,z2],.int .i64 out,.ints .i64 data],V.sl2 3 [.str (X 0).1,.str (X 0).2,.str (X 1).1,.str (X 1).2,.str (X 2).1,.str (X 2).2]] (.tup [.agg [.ints .i64 [z0,z1,z2],.int .i64 out,.ints .i64 data,.ints .i64 B,.ints .i64 O,.slf 2 m F],.int .i64 0]):=by
 refine V.en tbOk Tryz.func20 ?_
 refine V.r1 @jg8 ck ?_
 refine Cnd.split (CondB.mk (fun h=>absurd h (by simp)) (fun _=>?_))
 refine V.r0 @jg8 ?_
 refine jae (0) (fun k=>k≤3) (fun k=>3-k) (fun k=>[(25,.int .i64 k)]) (fun k=>[]) ?_ ?_ ?_
 ·exact V.wk
 ·exact jg2 _
 intro k hk
 have hk4:k=0∨k=1∨k=2∨k=3:=by omega
 rcases hk4 with e|e|e|e
 all_goals subst e
 ·simp only[k0]
  have c:=fc 0 (by omega)
  refine V.r1 (V.a3 zX20_0 @Bool.false_eq_true @if_false.{1}) c ?_
  exact⟨1,by omega,by omega,V.wk⟩
 ·simp only[k1]
  have c:=fc 1 (by omega)
  refine V.r1 (V.a3 zX20_0 @Bool.false_eq_true @if_false.{1}) c ?_
  exact⟨2,by omega,by omega,V.wk⟩
 ·simp only[k2]
  have c:=fc 2 (by omega)
  refine V.r1 (V.a3 zX20_0 @Bool.false_eq_true @if_false.{1}) c ?_
  exact⟨3,by omega,by omega,V.wk⟩
 ·simp only[k3]
  refine V.r1 @jg8 fi ?_
  exact Fin.of rfl
theorem eval_t (zs data B O:List Int)(out:Int)(n m e0:Nat)(X F Y:Nat→List D)(lo:Cl 20 [.agg [.ints .i64 zs,.int .i64 out,.ints .i64 data],.slf 2 n X] (.tup [.agg [.ints .i64 zs,.int .i64 out,.ints .i64 data,.ints .i64 B,.ints .i64 O,.slf 2 m F],.int .i64 0]))(va:Cl 21 [.agg [.ints .i64 zs,.int .i64 out,.ints .i64 data,.ints .i64 B,.ints .i64 O,.slf 2 m F]] (.tup [.slf 2 e0 Y,.int .i64 0])) :
  Cl 10 [.agg [.ints .i64 zs,.int .i64 out,.ints .i64 data],.slf 2 n X] (.tup [.slf 2 e0 Y,.int .i64 0]):=by
 refine V.en tbOk Tryz.func10 ?_
 refine V.r2 @jg8 lo va ?_
 exact Fin.of rfl
theorem jfh {n:Nat}{q:Rat}(h:Fq n q)(h0:0<n∧n≤600):Cl 34 [frT q] (.int .i64 0):=by
 have o:=ja0 (h.ok h0.1 h0.2)
 have b:=h.ok h0.1 h0.2
 unfold okF at b
 simp only[jg0,decide_eq_true_eq] at b
 have c:=fcheck_c (decZ q.num) (dec q.den) (by unfold decZ;split<;>(try simp only[jhS])<;>omega) (by omega)
 rw[o.1] at c
 exact c
theorem gcheck_ok {zs:List Int}{out:Int}{data:List Int}(hg:jaw zs out data=true)(hl:zs.length≤4):Cl 28 [gridD zs out data] (.int .i64 0):=by
 have o:=jdS hg
 have c:=jgB zs out data (by omega) (by omega)
 rw[hg] at c
 exact c
theorem locq3 {x0 x1 x2:Rat}{z0 z1 z2 out:Int}{data:List Int}(hg:jaw [z0,z1,z2] out data=true)(h0:Fq 40 x0)(h1:Fq 40 x1)(h2:Fq 40 x2):Cl 20 [gridD [z0,z1,z2] out data,slQ (fun i=>txq (rqN x0 x1 x2 i)) 3] (.tup [.agg [.ints .i64 [z0,z1,z2],.int .i64 out,.ints .i64 data,.ints .i64 [spB z0 x0,spB z1 x1,spB z2 x2],.ints .i64 (ord3 (spR z0 x0) (spR z1 x1) (spR z2 x2)),slQ (fun k=>txq (wqN (rqN (spR z0 x0) (spR z1 x1) (spR z2 x2)) (ord3 (spR z0 x0) (spR z1 x1) (spR z2 x2)) 3 k)) 4],.int .i64 0]):=by
 have og:=jdS hg
 have s0:=og.2.1 z0 (by simp)
 have s1:=og.2.1 z1 (by simp)
 have s2:=og.2.1 z2 (by simp)
 have fc:∀ k,k<3→Cl 34 [frT (rqN x0 x1 x2 k)] (.int .i64 0):=fun k hk=>by
  have h:k=0∨k=1∨k=2:=by omega
  rcases h with rfl|rfl|rfl
  ·exact jfh h0 (by decide)
  ·exact jfh h1 (by decide)
  ·exact jfh h2 (by decide)
 exact loc3_t z0 z1 z2 out data _ _ (fun i=>txq (rqN x0 x1 x2 i)) _ _ (gcheck_ok hg (by simp)) fc (find3_q out data h0 h1 h2 s0 s1 s2)
theorem evalq3 {x0 x1 x2:Rat}{z0 z1 z2 out:Int}{data:List Int}(hg:jaw [z0,z1,z2] out data=true)(h0:Fq 40 x0)(h1:Fq 40 x1)(h2:Fq 40 x2):Cl 10 [gridD [z0,z1,z2] out data,slQ (fun i=>txq (rqN x0 x1 x2 i)) 3] (.tup [slQ (fun j=>txq (evQ [z0,z1,z2] out data x0 x1 x2 j)) out.toNat,.int .i64 0]):=
 eval_t _ _ _ _ _ _ _ _ _ _ _ (locq3 hg h0 h1 h2) (valq3 hg h0 h1 h2)
def cp3 (j:Nat)(v:V3):Int:=match j with
 | 0=>v.1
 | 1=>v.2.1
 | _=>v.2.2
theorem cramer (a b c g:V3)(j:Nat):dt a b c*cp3 j g=dt g b c*cp3 j a+dt a g c*cp3 j b+dt a b g*cp3 j c:=by
 unfold cp3 dt det3
 split<;>grind
theorem cp_sb (a b:V3)(j:Nat):cp3 j (sb a b)=cp3 j a-cp3 j b:=by
 unfold cp3 sb
 split<;>rfl
theorem hld_back {v0 v1 v2 v3 t:V3}{a b c d:Int}(h:hld v0 v1 v2 v3 t=some (a,b,c,d))(j:Nat):d*cp3 j t=(d-a-b-c)*cp3 j v0+a*cp3 j v1+b*cp3 j v2+c*cp3 j v3:=by
 have k:=cramer (sb v1 v0) (sb v2 v0) (sb v3 v0) (sb t v0) j
 simp only[cp_sb] at k
 unfold hld at h
 dsimp only at h
 split at h
 ·cases h
 ·simp only[Option.some.injEq,Prod.mk.injEq] at h
  obtain⟨rfl,rfl,rfl,rfl⟩:=h
  generalize dt (sb v1 v0) (sb v2 v0) (sb v3 v0)=W at *
  generalize dt (sb t v0) (sb v2 v0) (sb v3 v0)=A at *
  generalize dt (sb v1 v0) (sb t v0) (sb v3 v0)=B at *
  generalize dt (sb v1 v0) (sb v2 v0) (sb t v0)=C at *
  generalize sg1 W=s
  generalize cp3 j t=x at *
  generalize cp3 j v0=x0 at *
  generalize cp3 j v1=x1 at *
  generalize cp3 j v2=x2 at *
  generalize cp3 j v3=x3 at *
  have e:W*s*x-(((W*s-s*A-s*B-s*C)*x0+s*A*x1+s*B*x2+s*C*x3))=s*(W*(x-x0)-(A*(x1-x0)+B*(x2-x0)+C*(x3-x0))):=by grind
  rw[k,Int.sub_self,Int.mul_zero] at e
  omega
theorem jeJ {x s:Nat}{r d:Int}(hd:0<d)(hx:x+1<s)(h0:0≤r)(h1:r≤d):(0≤frq x r d s∧frq x r d s≤1)∧(((x:Int)*d+r:Int):Rat)=((d:Int):Rat)*gp s (frq x r d s):=by
 have hs:(0:Int)<(s:Int)-1:=by omega
 have hD:0<d*((s:Int)-1):=Int.mul_pos hd hs
 have p0:0≤(x:Int)*d:=jg4 (by omega) (by omega)
 have p1:(x:Int)*d+r≤d*((s:Int)-1):=by
  have:0≤d*((s:Int)-1-1-x):=jg4 (by omega) (by omega)
  have e:d*((s:Int)-1)=(x:Int)*d+d+d*((s:Int)-1-1-x):=by grind
  omega
 have n0:(((d*((s:Int)-1):Int)):Rat)≠0:=by
  intro h
  have:d*((s:Int)-1)=0:=by exact_mod_cast h
  omega
 have i0:(0:Rat)≤(((d*((s:Int)-1):Int)):Rat)⁻¹:=by
  refine Rat.not_lt.1 fun h=>?_
  have h2:(0:Rat)<((d*((s:Int)-1):Int):Rat):=by exact_mod_cast hD
  have h3:=Rat.mul_pos h2 (show (0:Rat) < -((((d*((s:Int)-1):Int)):Rat)⁻¹) by grind)
  have h4:((d*((s:Int)-1):Int):Rat)*(((d*((s:Int)-1):Int)):Rat)⁻¹=1:=Rat.mul_inv_cancel _ n0
  grind
 have e:frq x r d s=(((x:Int)*d+r:Int):Rat)*(((d*((s:Int)-1):Int)):Rat)⁻¹:=by
  unfold frq
  rw[Rat.divInt_eq_div,Rat.div_def]
 have c:((d*((s:Int)-1):Int):Rat)*(((d*((s:Int)-1):Int)):Rat)⁻¹=1:=Rat.mul_inv_cancel _ n0
 have q0:(0:Rat)≤(((x:Int)*d+r:Int):Rat):=by exact_mod_cast (show (0:Int)≤(x:Int)*d+r by omega)
 have q1:(0:Rat)≤((d*((s:Int)-1):Int):Rat)-(((x:Int)*d+r:Int):Rat):=by
  have:(((x:Int)*d+r:Int):Rat)≤((d*((s:Int)-1):Int):Rat):=by exact_mod_cast p1
  grind
 have b0:=Rat.mul_nonneg q0 i0
 have b1:=Rat.mul_nonneg q1 i0
 rw[← e] at b0
 have b2:frq x r d s≤1:=by
  rw[e]
  grind
 refine⟨⟨b0,b2⟩,?_⟩
 unfold gp
 rw[clQ_id b0 b2,e]
 have m:((d*((s:Int)-1):Int):Rat)=(d:Rat)*(((s:Int)-1:Int):Rat):=Rat.intCast_mul _ _
 rw[m] at c ⊢
 generalize ((d:Rat)*(((s:Int)-1:Int):Rat))⁻¹=i at *
 grind
theorem ev_tet {s0 s1 s2 o:Nat}{x:N3}(ho:o<6)(hx:x.1+1<s0∧x.2.1+1<s1∧x.2.2+1<s2){a b e d:Int}(ha:0≤a)(hb:0≤b)(he:0≤e)(hs:a+b+e≤d)(hd:0<d)(v:N3→Rat)(w:Int→Int→Int→Rat)(hw:∀ i j k:Nat,i<s0→j<s1→k<s2→w i j k=v (i,j,k)) :
  (d:Rat)*evF s0 s1 s2 w (frq x.1 (rs3 o a b e).1 d s0) (frq x.2.1 (rs3 o a b e).2.1 d s1) (frq x.2.2 (rs3 o a b e).2.2 d s2)=((d-a-b-e:Int):Rat)*v x+(a:Rat)*v (inc3 x (ordA o).1)+(b:Rat)*v (inc3 (inc3 x (ordA o).1) (ordA o).2.1)+(e:Rat)*v (inc3 (inc3 (inc3 x (ordA o).1) (ordA o).2.1) (ordA o).2.2):=by
 obtain⟨N,rfl⟩:∃ N:Nat,d=N:=⟨d.toNat,by omega⟩
 obtain⟨A,rfl⟩:∃ A:Nat,a=A:=⟨a.toNat,by omega⟩
 obtain⟨B,rfl⟩:∃ B:Nat,b=B:=⟨b.toNat,by omega⟩
 obtain⟨E,rfl⟩:∃ E:Nat,e=E:=⟨e.toNat,by omega⟩
 obtain⟨x0,x1,x2⟩:=x
 dsimp only at hx
 have hN:0<N:=by omega
 have z:=jcz hN
 have l:=fun {r0 r1 r2:Int} (h0:0≤r0∧r0≤N) (h1:0≤r1∧r1≤N) (h2:0≤r2∧r2≤N)=>ev_lv (s0:=s0) (s1:=s1) (s2:=s2) hN (by omega) (jeJ (x:=x0) (s:=s0) (r:=r0) hd hx.1 h0.1 h0.2).2 (jeJ (x:=x1) (s:=s1) (r:=r1) hd hx.2.1 h1.1 h1.2).2 (jeJ (x:=x2) (s:=s2) (r:=r2) hd hx.2.2 h2.1 h2.2).2 w
 have k0:w (x0:Int) (x1:Int) (x2:Int)=v (x0,x1,x2):=hw x0 x1 x2 (by omega) (by omega) (by omega)
 have k1:w ((x0:Int)+1) (x1:Int) (x2:Int)=v (x0+1,x1,x2):=hw (x0+1) x1 x2 hx.1 (by omega) (by omega)
 have k2:w (x0:Int) ((x1:Int)+1) (x2:Int)=v (x0,x1+1,x2):=hw x0 (x1+1) x2 (by omega) hx.2.1 (by omega)
 have k3:w (x0:Int) (x1:Int) ((x2:Int)+1)=v (x0,x1,x2+1):=hw x0 x1 (x2+1) (by omega) (by omega) hx.2.2
 have k4:w ((x0:Int)+1) ((x1:Int)+1) (x2:Int)=v (x0+1,x1+1,x2):=hw (x0+1) (x1+1) x2 hx.1 hx.2.1 (by omega)
 have k5:w ((x0:Int)+1) (x1:Int) ((x2:Int)+1)=v (x0+1,x1,x2+1):=hw (x0+1) x1 (x2+1) hx.1 (by omega) hx.2.2
 have k6:w (x0:Int) ((x1:Int)+1) ((x2:Int)+1)=v (x0,x1+1,x2+1):=hw x0 (x1+1) (x2+1) (by omega) hx.2.1 hx.2.2
 have k7:w ((x0:Int)+1) ((x1:Int)+1) ((x2:Int)+1)=v (x0+1,x1+1,x2+1):=hw (x0+1) (x1+1) (x2+1) hx.1 hx.2.1 hx.2.2
 have h6:o=0∨o=1∨o=2∨o=3∨o=4∨o=5:=by omega
 rcases h6 with rfl|rfl|rfl|rfl|rfl|rfl
 ·have m:=ev_012 (N:=N) (A0:=E+B+A) (A1:=E+B) (A2:=E) (b0:=x0) (b1:=x1) (b2:=x2) hN (by omega) (by omega) (by omega) w
  show ((N:Int):Rat)*evF s0 s1 s2 w (frq x0 ((E:Int)+B+A) N s0) (frq x1 ((E:Int)+B) N s1) (frq x2 ((E:Int)) N s2)=_
  refine(l (r0:=(E:Int)+B+A) (r1:=(E:Int)+B) (r2:=(E:Int)) ⟨by omega,by omega⟩ ⟨by omega,by omega⟩ ⟨by omega,by omega⟩).trans (m.symm.trans ?_)
  simp only[evO,sel,bmp,vat,ordA,inc3]
  simp
  simp only[k0,k1,k2,k3,k4,k5,k6,k7]
  generalize v (x0,x1,x2)=u0
  generalize v (x0+1,x1+1,x2+1)=u3
  grind
 ·have m:=ev_021 (N:=N) (A0:=E+B+A) (A1:=E) (A2:=E+B) (b0:=x0) (b1:=x1) (b2:=x2) hN (by omega) (by omega) (by omega) w
  show ((N:Int):Rat)*evF s0 s1 s2 w (frq x0 ((E:Int)+B+A) N s0) (frq x1 ((E:Int)) N s1) (frq x2 ((E:Int)+B) N s2)=_
  refine(l (r0:=(E:Int)+B+A) (r1:=(E:Int)) (r2:=(E:Int)+B) ⟨by omega,by omega⟩ ⟨by omega,by omega⟩ ⟨by omega,by omega⟩).trans (m.symm.trans ?_)
  simp only[evO,sel,bmp,vat,ordA,inc3]
  simp
  simp only[k0,k1,k2,k3,k4,k5,k6,k7]
  generalize v (x0,x1,x2)=u0
  generalize v (x0+1,x1+1,x2+1)=u3
  grind
 ·have m:=ev_102 (N:=N) (A0:=E+B) (A1:=E+B+A) (A2:=E) (b0:=x0) (b1:=x1) (b2:=x2) hN (by omega) (by omega) (by omega) w
  show ((N:Int):Rat)*evF s0 s1 s2 w (frq x0 ((E:Int)+B) N s0) (frq x1 ((E:Int)+B+A) N s1) (frq x2 ((E:Int)) N s2)=_
  refine(l (r0:=(E:Int)+B) (r1:=(E:Int)+B+A) (r2:=(E:Int)) ⟨by omega,by omega⟩ ⟨by omega,by omega⟩ ⟨by omega,by omega⟩).trans (m.symm.trans ?_)
  simp only[evO,sel,bmp,vat,ordA,inc3]
  simp
  simp only[k0,k1,k2,k3,k4,k5,k6,k7]
  generalize v (x0,x1,x2)=u0
  generalize v (x0+1,x1+1,x2+1)=u3
  grind
 ·have m:=ev_120 (N:=N) (A0:=E) (A1:=E+B+A) (A2:=E+B) (b0:=x0) (b1:=x1) (b2:=x2) hN (by omega) (by omega) (by omega) w
  show ((N:Int):Rat)*evF s0 s1 s2 w (frq x0 ((E:Int)) N s0) (frq x1 ((E:Int)+B+A) N s1) (frq x2 ((E:Int)+B) N s2)=_
  refine(l (r0:=(E:Int)) (r1:=(E:Int)+B+A) (r2:=(E:Int)+B) ⟨by omega,by omega⟩ ⟨by omega,by omega⟩ ⟨by omega,by omega⟩).trans (m.symm.trans ?_)
  simp only[evO,sel,bmp,vat,ordA,inc3]
  simp
  simp only[k0,k1,k2,k3,k4,k5,k6,k7]
  generalize v (x0,x1,x2)=u0
  generalize v (x0+1,x1+1,x2+1)=u3
  grind
 ·have m:=ev_201 (N:=N) (A0:=E+B) (A1:=E) (A2:=E+B+A) (b0:=x0) (b1:=x1) (b2:=x2) hN (by omega) (by omega) (by omega) w
  show ((N:Int):Rat)*evF s0 s1 s2 w (frq x0 ((E:Int)+B) N s0) (frq x1 ((E:Int)) N s1) (frq x2 ((E:Int)+B+A) N s2)=_
  refine(l (r0:=(E:Int)+B) (r1:=(E:Int)) (r2:=(E:Int)+B+A) ⟨by omega,by omega⟩ ⟨by omega,by omega⟩ ⟨by omega,by omega⟩).trans (m.symm.trans ?_)
  simp only[evO,sel,bmp,vat,ordA,inc3]
  simp
  simp only[k0,k1,k2,k3,k4,k5,k6,k7]
  generalize v (x0,x1,x2)=u0
  generalize v (x0+1,x1+1,x2+1)=u3
  grind
 ·have m:=ev_210 (N:=N) (A0:=E) (A1:=E+B) (A2:=E+B+A) (b0:=x0) (b1:=x1) (b2:=x2) hN (by omega) (by omega) (by omega) w
  show ((N:Int):Rat)*evF s0 s1 s2 w (frq x0 ((E:Int)) N s0) (frq x1 ((E:Int)+B) N s1) (frq x2 ((E:Int)+B+A) N s2)=_
  refine(l (r0:=(E:Int)) (r1:=(E:Int)+B) (r2:=(E:Int)+B+A) ⟨by omega,by omega⟩ ⟨by omega,by omega⟩ ⟨by omega,by omega⟩).trans (m.symm.trans ?_)
  simp only[evO,sel,bmp,vat,ordA,inc3]
  simp
  simp only[k0,k1,k2,k3,k4,k5,k6,k7]
  generalize v (x0,x1,x2)=u0
  generalize v (x0+1,x1+1,x2+1)=u3
  grind
theorem cp_gv (data:List Int)(p:Nat){j:Nat}(hj:j<3):cp3 j (gv data p)=data.getD (3*p+j) 0:=by
 have h:j=0∨j=1∨j=2:=by omega
 rcases h with rfl|rfl|rfl<;>rfl
theorem gvF_cnr (s0 s1 s2:Nat)(data:List Int)(i k l:Nat){j:Nat}(hj:j<3):gvF (sz3 s0 s1 s2) 3 data j i k l=((cp3 j (cnr data s1 s2 (i,k,l)):Int):Rat):=by
 have e:pz ((sz3 s0 s1 s2).zip ([(i:Int),(k:Int),(l:Int)].take (sz3 s0 s1 s2).length))=((plc s1 s2 (i,k,l):Nat):Int):=by
  show ((0*(s0:Int)+i)*s1+k)*s2+l=_
  rw[← plc_cast,Int.zero_mul,Int.zero_add]
 unfold gvF cnr
 rw[e,cp_gv _ _ hj]
 generalize plc s1 s2 (i,k,l)=p
 unfold slot
 rw[show ((p:Int)*3).toNat=3*p by omega,show (3:Int).toNat=3 from rfl,jhF,List.getElem?_take_of_lt hj,List.getElem?_drop,← jhF]
theorem fq_frq {x s:Nat}{r d:Int}(hx:x+1<s)(hs:s≤9)(hd:0<d∧d≤1688772552032250)(h0:0≤r)(h1:r≤d):Fq 40 (frq x r d s):=by
 have m:=jdB hx hs hd
 obtain⟨D,hD⟩:∃ D:Nat,d*((s:Int)-1)=D:=⟨(d*((s:Int)-1)).toNat,by omega⟩
 unfold frq
 rw[hD]
 rw[hD] at m
 refine(jbx (n:=20) (by omega) ?_ ?_).mono (by omega)
 ·have:(10:Nat)^20=100000000000000000000:=by decide
  omega
 ·have:(10:Nat)^20=100000000000000000000:=by decide
  omega
theorem rs3_bd {o:Nat}{a b e d:Int}(ha:0≤a)(hb:0≤b)(he:0≤e)(hs:a+b+e≤d):(0≤(rs3 o a b e).1∧(rs3 o a b e).1≤d)∧(0≤(rs3 o a b e).2.1∧(rs3 o a b e).2.1≤d)∧0≤(rs3 o a b e).2.2∧(rs3 o a b e).2.2≤d:=by
 unfold rs3
 split<;>(dsimp only;omega)
theorem loc_back {s0 s1 s2 n:Nat}{data:List Int}{t:V3}(C:Cu s0 s1 s2 data)(hn:n<6*jaW s0 s1 s2)(vt:Vl t){a b e d:Int}(h:hldN data s1 s2 n t=some (a,b,e,d)){q0 q1 q2:Rat}(e0:frq (cellN s1 s2 n).1 (rs3 (n%6) a b e).1 d s0=q0)(e1:frq (cellN s1 s2 n).2.1 (rs3 (n%6) a b e).2.1 d s1=q1)(e2:frq (cellN s1 s2 n).2.2 (rs3 (n%6) a b e).2.2 d s2=q2) :
  ((0≤q0∧q0≤1)∧(0≤q1∧q1≤1)∧0≤q2∧q2≤1)∧(Fq 40 q0∧Fq 40 q1∧Fq 40 q2) ∧ ∀ j,j<3→evQ (sz3 s0 s1 s2) 3 data q0 q1 q2 j=Rat.divInt (cp3 j t) 65535:=by
 have hc:=cell_in hn C.h0.1 C.h1.1 C.h2.1
 unfold hldN hldX at h
 have hb:=hld_bd (gv_vl C.hd _) (gv_vl C.hd _) (gv_vl C.hd _) (gv_vl C.hd _) vt h
 have hr:=rs3_bd (o:=n%6) (d:=d) hb.1.1 hb.2.1.1 hb.2.2.1.1 hb.2.2.2.1
 have g0:=jeJ (s:=s0) hb.2.2.2.2.1 hc.1 hr.1.1 hr.1.2
 have g1:=jeJ (s:=s1) hb.2.2.2.2.1 hc.2.1 hr.2.1.1 hr.2.1.2
 have g2:=jeJ (s:=s2) hb.2.2.2.2.1 hc.2.2 hr.2.2.1 hr.2.2.2
 have f0:=fq_frq (s:=s0) hc.1 C.h0.2 hb.2.2.2.2 hr.1.1 hr.1.2
 have f1:=fq_frq (s:=s1) hc.2.1 C.h1.2 hb.2.2.2.2 hr.2.1.1 hr.2.1.2
 have f2:=fq_frq (s:=s2) hc.2.2 C.h2.2 hb.2.2.2.2 hr.2.2.1 hr.2.2.2
 rw[e0] at g0 f0
 rw[e1] at g1 f1
 rw[e2] at g2 f2
 refine⟨⟨g0.1,g1.1,g2.1⟩,⟨f0,f1,f2⟩,fun j hj=>?_⟩
 have k:=hld_back h j
 have v:=ev_tet (o:=n%6) (Nat.mod_lt _ (by decide)) hc hb.1.1 hb.2.1.1 hb.2.2.1.1 hb.2.2.2.1 hb.2.2.2.2.1 (fun y=>((cp3 j (cnr data s1 s2 y):Int):Rat)) (gvF (sz3 s0 s1 s2) 3 data j) (fun i k l _ _ _=>gvF_cnr s0 s1 s2 data i k l hj)
 rw[e0,e1,e2] at v
 try dsimp only at v
 rw[← Rat.intCast_mul,← Rat.intCast_mul,← Rat.intCast_mul,← Rat.intCast_mul,← Rat.intCast_add,← Rat.intCast_add,← Rat.intCast_add,← k,Rat.intCast_mul] at v
 obtain⟨N,rfl⟩:∃ N:Nat,d=N:=⟨d.toNat,by omega⟩
 have w:=canc (show 0<N by omega) v
 unfold evQ
 show evF (s0:Int) (s1:Int) (s2:Int) _ _ _ _/65535=_
 rw[w,Rat.divInt_eq_div]
 rfl
def gcD (size:List Int)(out:Int)(data:List Int):List D:=[.ints .i64 size,.int .i64 out,.ints .i64 data]
theorem tetra_c (size:List Int)(out:Int)(data:List Int):Cl 17 [gridD size out data] (.fn 29 [] [.ref (gcD size out data)]):=by
 unfold gridD gcD
 refine V.en tbOk Tryz.func17 ?_
 (conv=>whnf)
 refine V.st ?_
 exact Fin.of rfl
def numT (B C i j k o:Nat):Nat:=((i*B+j)*C+k)*6+o
structure TetOk (s0 s1 s2:Nat)(data:List Int)(t:V3)(i j k o:Nat)(m:Nat)(p q r d:Int)(T:D):Prop where
 made:Cl 30 [gridD (sz3 s0 s1 s2) 3 data,n3D (i,j,k),n3I (ordA o)] T
 wts:Cl 18 [T,.ints .i64 (v3L t)] (.tup [.iarr .i64 [p,q,r],.int .i64 d,.bool (hldN data s1 s2 m t).isSome])
 is:∀ y,hldN data s1 s2 m t=some y→y=(p,q,r,d)
 inp:∀ y,hldN data s1 s2 m t=some y→Cl 19 [T,.ints .i64 (sz3 s0 s1 s2),.iarr .i64 [p,q,r],.int .i64 d] (.tup [.slf 2 3 (resF (cellN s1 s2 m) (m%6) p q r d s0 s1 s2),.int .i64 0])
theorem tet_ok {s0 s1 s2:Nat}{data:List Int}(C:Cu s0 s1 s2 data){t:V3}(ht:Vl t){i j k o:Nat}(hi:i<s0-1)(hj:j<s1-1)(hk:k<s2-1)(ho:o<6) :
  ∃ p q r d c,TetOk s0 s1 s2 data t i j k o (numT (s1-1) (s2-1) i j k o) p q r d (tetD (i,j,k) (ordA o) c):=by
 have h0:=C.h0
 have h1:=C.h1
 have h2:=C.h2
 have hx:((i,j,k):N3).1+1<s0∧((i,j,k):N3).2.1+1<s1∧((i,j,k):N3).2.2+1<s2:=by dsimp only;omega
 obtain⟨c,hc⟩:∃ c:Nat→V3, ∀ m,c m=cnr data s1 s2 (stX (i,j,k) (ordA o) m):=⟨_,fun _=>rfl⟩
 have hv:∀ m,Vl (c m):=fun m=>by rw[hc m];exact gv_vl C.hd _
 obtain⟨p,q,r,d,hw,hd⟩:=weights_0 (i,j,k) (ordA o) c hv ht
 have hcl:=cellN_of (i:=i) hj hk ho
 have hn:hldN data s1 s2 (numT (s1-1) (s2-1) i j k o) t=hld (c 0) (c 1) (c 2) (c 3) t:=by
  unfold hldN numT
  rw[hcl.1,hcl.2,hc,hc,hc,hc]
  rfl
 refine⟨p,q,r,d,c,made_0 C ho hx c hc,by rw[hn];exact hw,by rw[hn];exact hd,fun y hy=>?_⟩
 rw[hn] at hy
 have e:=hd y hy
 subst e
 have hb:=hld_bd (hv 0) (hv 1) (hv 2) (hv 3) ht hy
 have:=inputs_0 (s0:=s0) (s1:=s1) (s2:=s2) (i,j,k) ho c hx ⟨h0.2,h1.2,h2.2⟩ (a:=p) (b:=q) (e:=r) (d:=d) (by omega) (by omega) (by omega) (by omega) (by omega)
 unfold numT
 rw[hcl.1,hcl.2]
 exact this
end Go.Proofs.YtbhpaandigaanaaGreatDoor
end
