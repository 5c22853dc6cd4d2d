/- What functions of the program answer at given values, part 9. Conditions: those that each theorem names. -/
import Derived.Test.YtgjgpdceghjajaaGreatDoorSimplexWeightsH8
import Derived.Test.YtgjgpdceghjajaaGreatDoorSimplexWeightsH3
import Derived.Test.YtgjgpdceghjajaaGreatDoorSimplexWeightsH4
set_option linter.unusedSimpArgs false
set_option linter.unusedVariables false
set_option maxHeartbeats 8000000
set_option maxRecDepth 100000
section
namespace Go.Proofs.YtgjgpdceghjajaaGreatDoor
open Go Go.V Go.Nb
theorem jcT (v:Int):0≤IntKind.wrap .u16 v∧IntKind.wrap .u16 v≤65535:=by
 have h:InR .u16 (IntKind.wrap .u16 v):=jbE _ _
 exact h
def clcW:Nat→List D
 | 0=>[.nil,.nil,.nil]
 | k+1=>[.bsl 21 0 (k+1) 2,.bsl 31 0 (k+1) 2,.bsl 44 0 (k+1) 2]
def clcH (A X C:Nat→Tx):Nat→Hp
 | 0=>[]
 | k+1=>[(21,.box (wce A (k+1))),(31,.box (wce X (k+1))),(44,.box (wce C (k+1)))]
theorem jh5:type_of% @jiI∧type_of% @tn0∧type_of% @tn1∧type_of% @tn2∧type_of% @tn3∧type_of% @xt4:=⟨@jiI,@tn0,@tn1,@tn2,@tn3,@xt4⟩
theorem color1_t (a z1 z2:Nat→Int)(b1 b2:Nat→Bool)(p1 p2:Nat→List Int)(A X:Nat→Tx)(C:Int→Tx)(ca:∀ i,i<4→Cl 18 [.int .i64 (a i),.int .i64 840] (.agg [.str (A i).1,.str (A i).2]))(cx:∀ i,i<4→Cl 43 [.agg [.bool (b1 i),.ints .u16 (p1 i),.int .u16 (z1 i),.bool (b2 i),.ints .u16 (p2 i),.int .u16 (z2 i)]] (.agg [.str (X i).1,.str (X i).2]))(cc:∀ v:Int,Cl 18 [.int .i64 (v%841),.int .i64 840] (.agg [.str (C v).1,.str (C v).2])) :
  Cl 13 [(colD a z1 z2 b1 b2 p1 p2),.int .i64 1] (.agg [slQ A 1,slQ X 1,slQ (fun i=>C (IntKind.wrap .u16 (a i))) 1]):=by
 refine V.en tbOk Tryz.func13 ?_
 refine V.r0 jh5 ?_
 refine jac 0 (fun k=>k≤1) (fun k=>1-k) (fun k=>[(9,.int .i64 k)]) (fun k=>(5,.box (clcW k))::clcH A X (fun i=>C (IntKind.wrap .u16 (a i))) k) ?_ ?_ ?_
 ·exact V.wk
 ·exact jiF _
 intro k hk
 have hk4:k=0∨k=1:=by omega
 rcases hk4 with e|e
 all_goals subst e
 ·simp only[k0,clcW,clcH]
  have c1:=ca 0 (by omega)
  have c2:=cx 0 (by omega)
  have hw:=jcT (a 0)
  refine V.r0 jh5 ?_
  refine⟨Pq25z,[],V.pok,?_⟩
  refine jab [(21,.bsl 21 0 1 2)] [(5,.box [.bsl 21 0 1 2,.nil,.nil]),(21,.box (wce A 1))] ?_ ?_
  ·exact V.d1 jh5 c1
  refine V.r0 jh5 ?_
  refine⟨Pq33z,[],V.pok,?_⟩
  refine jab [(31,.bsl 31 0 1 2)] [(5,.box [.bsl 21 0 1 2,.bsl 31 0 1 2,.nil]),(31,.box (wce X 1))] ?_ ?_
  ·exact V.d1 jh5 c2
  refine V.r0 jh5 ?_
  refine⟨Pq17z,[],V.pok,?_⟩
  refine jab [(44,.bsl 44 0 1 2)] [(5,.box [.bsl 21 0 1 2,.bsl 31 0 1 2,.bsl 44 0 1 2]),(44,.box (wce (fun i=>C (IntKind.wrap .u16 (a i))) 1))] ?_ ?_
  ·(conv=>whnf);(try simp only[jh5])
   repeat' (first|exact V.wk|((with_reducible refine And.intro ?_ jay);(conv=>whnf);(try simp only[jh5]))|((with_reducible first|refine jaq ?_ ?_|refine jau ?_ ?_)<;>(conv=>whnf);(try simp only[jh5]))|((first|refine V.s1 ?_|((with_reducible refine jak ?_ ?_);(focus ((conv=>whnf);(try simp only[jh5]);(repeat ((first|refine V.s1 ?_|((refine Or.inr ?_);(conv=>whnf)));(try simp only[jh5])));exact⟨rfl⟩));(conv=>whnf))|((try ((with_reducible refine .ext ?_);(conv=>whnf);(try simp only[jh5])));(with_reducible refine jaa (r:=?_) ?_ ?_);rotate_left;(focus (first|exact(cc _)));(conv=>whnf))|((refine Or.inr ?_);(conv=>whnf)));(try simp only[jh5]))|(refine And.intro ?_ ?_<;>(conv=>whnf);(try simp only[jh5])))
  refine V.r0 jh5 ?_
  exact⟨1,by omega,by omega,V.wk⟩
 ·simp only[k1,clcW,clcH]
  refine V.r0 @jiI ?_
  exact Fin.of rfl
theorem color2_t (a z1 z2:Nat→Int)(b1 b2:Nat→Bool)(p1 p2:Nat→List Int)(A X:Nat→Tx)(C:Int→Tx)(ca:∀ i,i<4→Cl 18 [.int .i64 (a i),.int .i64 840] (.agg [.str (A i).1,.str (A i).2]))(cx:∀ i,i<4→Cl 43 [.agg [.bool (b1 i),.ints .u16 (p1 i),.int .u16 (z1 i),.bool (b2 i),.ints .u16 (p2 i),.int .u16 (z2 i)]] (.agg [.str (X i).1,.str (X i).2]))(cc:∀ v:Int,Cl 18 [.int .i64 (v%841),.int .i64 840] (.agg [.str (C v).1,.str (C v).2])) :
  Cl 13 [(colD a z1 z2 b1 b2 p1 p2),.int .i64 2] (.agg [slQ A 2,slQ X 2,slQ (fun i=>C (IntKind.wrap .u16 (a i))) 2]):=by
 refine V.en tbOk Tryz.func13 ?_
 refine V.r0 jh5 ?_
 refine jac 0 (fun k=>k≤2) (fun k=>2-k) (fun k=>[(9,.int .i64 k)]) (fun k=>(5,.box (clcW k))::clcH A X (fun i=>C (IntKind.wrap .u16 (a i))) k) ?_ ?_ ?_
 ·exact V.wk
 ·exact jiF _
 intro k hk
 have hk4:k=0∨k=1∨k=2:=by omega
 rcases hk4 with e|e|e
 all_goals subst e
 ·simp only[k0,clcW,clcH]
  have c1:=ca 0 (by omega)
  have c2:=cx 0 (by omega)
  have hw:=jcT (a 0)
  refine V.r0 jh5 ?_
  refine⟨Pq25z,[],V.pok,?_⟩
  refine jab [(21,.bsl 21 0 1 2)] [(5,.box [.bsl 21 0 1 2,.nil,.nil]),(21,.box (wce A 1))] ?_ ?_
  ·exact V.d1 jh5 c1
  refine V.r0 jh5 ?_
  refine⟨Pq33z,[],V.pok,?_⟩
  refine jab [(31,.bsl 31 0 1 2)] [(5,.box [.bsl 21 0 1 2,.bsl 31 0 1 2,.nil]),(31,.box (wce X 1))] ?_ ?_
  ·exact V.d1 jh5 c2
  refine V.r0 jh5 ?_
  refine⟨Pq17z,[],V.pok,?_⟩
  refine jab [(44,.bsl 44 0 1 2)] [(5,.box [.bsl 21 0 1 2,.bsl 31 0 1 2,.bsl 44 0 1 2]),(44,.box (wce (fun i=>C (IntKind.wrap .u16 (a i))) 1))] ?_ ?_
  ·(conv=>whnf);(try simp only[jh5])
   repeat' (first|exact V.wk|((with_reducible refine And.intro ?_ jay);(conv=>whnf);(try simp only[jh5]))|((with_reducible first|refine jaq ?_ ?_|refine jau ?_ ?_)<;>(conv=>whnf);(try simp only[jh5]))|((first|refine V.s1 ?_|((with_reducible refine jak ?_ ?_);(focus ((conv=>whnf);(try simp only[jh5]);(repeat ((first|refine V.s1 ?_|((refine Or.inr ?_);(conv=>whnf)));(try simp only[jh5])));exact⟨rfl⟩));(conv=>whnf))|((try ((with_reducible refine .ext ?_);(conv=>whnf);(try simp only[jh5])));(with_reducible refine jaa (r:=?_) ?_ ?_);rotate_left;(focus (first|exact(cc _)));(conv=>whnf))|((refine Or.inr ?_);(conv=>whnf)));(try simp only[jh5]))|(refine And.intro ?_ ?_<;>(conv=>whnf);(try simp only[jh5])))
  refine V.r0 jh5 ?_
  exact⟨1,by omega,by omega,V.wk⟩
 ·simp only[k1,clcW,clcH]
  have c1:=ca 1 (by omega)
  have c2:=cx 1 (by omega)
  have hw:=jcT (a 1)
  refine V.r0 jh5 ?_
  refine⟨Pq25z,[],V.pok,?_⟩
  refine jab [(21,.bsl 21 0 2 2)] [(5,.box [.bsl 21 0 2 2,.bsl 31 0 1 2,.bsl 44 0 1 2]),(21,.box (wce A 2))] ?_ ?_
  ·exact V.d1 jh5 c1
  refine V.r0 jh5 ?_
  refine⟨Pq33z,[],V.pok,?_⟩
  refine jab [(31,.bsl 31 0 2 2)] [(5,.box [.bsl 21 0 2 2,.bsl 31 0 2 2,.bsl 44 0 1 2]),(31,.box (wce X 2))] ?_ ?_
  ·exact V.d1 jh5 c2
  refine V.r0 jh5 ?_
  refine⟨Pq17z,[],V.pok,?_⟩
  refine jab [(44,.bsl 44 0 2 2)] [(5,.box [.bsl 21 0 2 2,.bsl 31 0 2 2,.bsl 44 0 2 2]),(44,.box (wce (fun i=>C (IntKind.wrap .u16 (a i))) 2))] ?_ ?_
  ·(conv=>whnf);(try simp only[jh5])
   repeat' (first|exact V.wk|((with_reducible refine And.intro ?_ jay);(conv=>whnf);(try simp only[jh5]))|((with_reducible first|refine jaq ?_ ?_|refine jau ?_ ?_)<;>(conv=>whnf);(try simp only[jh5]))|((first|refine V.s1 ?_|((with_reducible refine jak ?_ ?_);(focus ((conv=>whnf);(try simp only[jh5]);(repeat ((first|refine V.s1 ?_|((refine Or.inr ?_);(conv=>whnf)));(try simp only[jh5])));exact⟨rfl⟩));(conv=>whnf))|((try ((with_reducible refine .ext ?_);(conv=>whnf);(try simp only[jh5])));(with_reducible refine jaa (r:=?_) ?_ ?_);rotate_left;(focus (first|exact(cc _)));(conv=>whnf))|((refine Or.inr ?_);(conv=>whnf)));(try simp only[jh5]))|(refine And.intro ?_ ?_<;>(conv=>whnf);(try simp only[jh5])))
  refine V.r0 jh5 ?_
  exact⟨2,by omega,by omega,V.wk⟩
 ·simp only[k2,clcW,clcH]
  refine V.r0 @jiI ?_
  exact Fin.of rfl
theorem color3_t (a z1 z2:Nat→Int)(b1 b2:Nat→Bool)(p1 p2:Nat→List Int)(A X:Nat→Tx)(C:Int→Tx)(ca:∀ i,i<4→Cl 18 [.int .i64 (a i),.int .i64 840] (.agg [.str (A i).1,.str (A i).2]))(cx:∀ i,i<4→Cl 43 [.agg [.bool (b1 i),.ints .u16 (p1 i),.int .u16 (z1 i),.bool (b2 i),.ints .u16 (p2 i),.int .u16 (z2 i)]] (.agg [.str (X i).1,.str (X i).2]))(cc:∀ v:Int,Cl 18 [.int .i64 (v%841),.int .i64 840] (.agg [.str (C v).1,.str (C v).2])) :
  Cl 13 [(colD a z1 z2 b1 b2 p1 p2),.int .i64 3] (.agg [slQ A 3,slQ X 3,slQ (fun i=>C (IntKind.wrap .u16 (a i))) 3]):=by
 refine V.en tbOk Tryz.func13 ?_
 refine V.r0 jh5 ?_
 refine jac 0 (fun k=>k≤3) (fun k=>3-k) (fun k=>[(9,.int .i64 k)]) (fun k=>(5,.box (clcW k))::clcH A X (fun i=>C (IntKind.wrap .u16 (a i))) k) ?_ ?_ ?_
 ·exact V.wk
 ·exact jiF _
 intro k hk
 have hk4:k=0∨k=1∨k=2∨k=3:=by omega
 rcases hk4 with e|e|e|e
 all_goals subst e
 ·simp only[k0,clcW,clcH]
  have c1:=ca 0 (by omega)
  have c2:=cx 0 (by omega)
  have hw:=jcT (a 0)
  refine V.r0 jh5 ?_
  refine⟨Pq25z,[],V.pok,?_⟩
  refine jab [(21,.bsl 21 0 1 2)] [(5,.box [.bsl 21 0 1 2,.nil,.nil]),(21,.box (wce A 1))] ?_ ?_
  ·exact V.d1 jh5 c1
  refine V.r0 jh5 ?_
  refine⟨Pq33z,[],V.pok,?_⟩
  refine jab [(31,.bsl 31 0 1 2)] [(5,.box [.bsl 21 0 1 2,.bsl 31 0 1 2,.nil]),(31,.box (wce X 1))] ?_ ?_
  ·exact V.d1 jh5 c2
  refine V.r0 jh5 ?_
  refine⟨Pq17z,[],V.pok,?_⟩
  refine jab [(44,.bsl 44 0 1 2)] [(5,.box [.bsl 21 0 1 2,.bsl 31 0 1 2,.bsl 44 0 1 2]),(44,.box (wce (fun i=>C (IntKind.wrap .u16 (a i))) 1))] ?_ ?_
  ·(conv=>whnf);(try simp only[jh5])
   repeat' (first|exact V.wk|((with_reducible refine And.intro ?_ jay);(conv=>whnf);(try simp only[jh5]))|((with_reducible first|refine jaq ?_ ?_|refine jau ?_ ?_)<;>(conv=>whnf);(try simp only[jh5]))|((first|refine V.s1 ?_|((with_reducible refine jak ?_ ?_);(focus ((conv=>whnf);(try simp only[jh5]);(repeat ((first|refine V.s1 ?_|((refine Or.inr ?_);(conv=>whnf)));(try simp only[jh5])));exact⟨rfl⟩));(conv=>whnf))|((try ((with_reducible refine .ext ?_);(conv=>whnf);(try simp only[jh5])));(with_reducible refine jaa (r:=?_) ?_ ?_);rotate_left;(focus (first|exact(cc _)));(conv=>whnf))|((refine Or.inr ?_);(conv=>whnf)));(try simp only[jh5]))|(refine And.intro ?_ ?_<;>(conv=>whnf);(try simp only[jh5])))
  refine V.r0 jh5 ?_
  exact⟨1,by omega,by omega,V.wk⟩
 ·simp only[k1,clcW,clcH]
  have c1:=ca 1 (by omega)
  have c2:=cx 1 (by omega)
  have hw:=jcT (a 1)
  refine V.r0 jh5 ?_
  refine⟨Pq25z,[],V.pok,?_⟩
  refine jab [(21,.bsl 21 0 2 2)] [(5,.box [.bsl 21 0 2 2,.bsl 31 0 1 2,.bsl 44 0 1 2]),(21,.box (wce A 2))] ?_ ?_
  ·exact V.d1 jh5 c1
  refine V.r0 jh5 ?_
  refine⟨Pq33z,[],V.pok,?_⟩
  refine jab [(31,.bsl 31 0 2 2)] [(5,.box [.bsl 21 0 2 2,.bsl 31 0 2 2,.bsl 44 0 1 2]),(31,.box (wce X 2))] ?_ ?_
  ·exact V.d1 jh5 c2
  refine V.r0 jh5 ?_
  refine⟨Pq17z,[],V.pok,?_⟩
  refine jab [(44,.bsl 44 0 2 2)] [(5,.box [.bsl 21 0 2 2,.bsl 31 0 2 2,.bsl 44 0 2 2]),(44,.box (wce (fun i=>C (IntKind.wrap .u16 (a i))) 2))] ?_ ?_
  ·(conv=>whnf);(try simp only[jh5])
   repeat' (first|exact V.wk|((with_reducible refine And.intro ?_ jay);(conv=>whnf);(try simp only[jh5]))|((with_reducible first|refine jaq ?_ ?_|refine jau ?_ ?_)<;>(conv=>whnf);(try simp only[jh5]))|((first|refine V.s1 ?_|((with_reducible refine jak ?_ ?_);(focus ((conv=>whnf);(try simp only[jh5]);(repeat ((first|refine V.s1 ?_|((refine Or.inr ?_);(conv=>whnf)));(try simp only[jh5])));exact⟨rfl⟩));(conv=>whnf))|((try ((with_reducible refine .ext ?_);(conv=>whnf);(try simp only[jh5])));(with_reducible refine jaa (r:=?_) ?_ ?_);rotate_left;(focus (first|exact(cc _)));(conv=>whnf))|((refine Or.inr ?_);(conv=>whnf)));(try simp only[jh5]))|(refine And.intro ?_ ?_<;>(conv=>whnf);(try simp only[jh5])))
  refine V.r0 jh5 ?_
  exact⟨2,by omega,by omega,V.wk⟩
 ·simp only[k2,clcW,clcH]
  have c1:=ca 2 (by omega)
  have c2:=cx 2 (by omega)
  have hw:=jcT (a 2)
  refine V.r0 jh5 ?_
  refine⟨Pq25z,[],V.pok,?_⟩
  refine jab [(21,.bsl 21 0 3 2)] [(5,.box [.bsl 21 0 3 2,.bsl 31 0 2 2,.bsl 44 0 2 2]),(21,.box (wce A 3))] ?_ ?_
  ·exact V.d1 jh5 c1
  refine V.r0 jh5 ?_
  refine⟨Pq33z,[],V.pok,?_⟩
  refine jab [(31,.bsl 31 0 3 2)] [(5,.box [.bsl 21 0 3 2,.bsl 31 0 3 2,.bsl 44 0 2 2]),(31,.box (wce X 3))] ?_ ?_
  ·exact V.d1 jh5 c2
  refine V.r0 jh5 ?_
  refine⟨Pq17z,[],V.pok,?_⟩
  refine jab [(44,.bsl 44 0 3 2)] [(5,.box [.bsl 21 0 3 2,.bsl 31 0 3 2,.bsl 44 0 3 2]),(44,.box (wce (fun i=>C (IntKind.wrap .u16 (a i))) 3))] ?_ ?_
  ·(conv=>whnf);(try simp only[jh5])
   repeat' (first|exact V.wk|((with_reducible refine And.intro ?_ jay);(conv=>whnf);(try simp only[jh5]))|((with_reducible first|refine jaq ?_ ?_|refine jau ?_ ?_)<;>(conv=>whnf);(try simp only[jh5]))|((first|refine V.s1 ?_|((with_reducible refine jak ?_ ?_);(focus ((conv=>whnf);(try simp only[jh5]);(repeat ((first|refine V.s1 ?_|((refine Or.inr ?_);(conv=>whnf)));(try simp only[jh5])));exact⟨rfl⟩));(conv=>whnf))|((try ((with_reducible refine .ext ?_);(conv=>whnf);(try simp only[jh5])));(with_reducible refine jaa (r:=?_) ?_ ?_);rotate_left;(focus (first|exact(cc _)));(conv=>whnf))|((refine Or.inr ?_);(conv=>whnf)));(try simp only[jh5]))|(refine And.intro ?_ ?_<;>(conv=>whnf);(try simp only[jh5])))
  refine V.r0 jh5 ?_
  exact⟨3,by omega,by omega,V.wk⟩
 ·simp only[k3,clcW,clcH]
  refine V.r0 @jiI ?_
  exact Fin.of rfl
end Go.Proofs.YtgjgpdceghjajaaGreatDoor
end
section
namespace Go.Gr
def PR:List Nat→Nat
 | []=>1
 | n::r=>n*PR r
def ixl:List Nat→Nat→List Int
 | [],_=>[]
 | n::r,m=>((m/PR r%n:Nat):Int)::ixl r m
theorem je9 {ns:List Nat}(h:∀ n∈ns,0<n):0<PR ns:=by
 induction ns with
 | nil=>decide
 | cons n r ih=>exact Nat.mul_pos (h n (by simp)) (ih fun x hx=>h x (by simp[hx]))
theorem jat (ns:List Nat)(m:Nat):(ixl ns m).length=ns.length:=by
 induction ns with
 | nil=>rfl
 | cons n r ih=>simp[ixl,ih]
theorem jf9 (ns:List Nat)(m i n:Nat)(h:ns[i]? = some n):(ixl ns m)[i]? = some ((m/PR (ns.drop (i+1))%n:Nat):Int):=by
 induction ns generalizing i with
 | nil=>simp at h
 | cons a r ih=>
  cases i with
  | zero=>simp at h;subst h;simp[ixl]
  | succ i=>simpa [ixl] using ih i (by simpa using h)
theorem jhF (ns:List Nat)(hp:∀ n∈ns,0<n)(m:Nat):ixl ns (m%PR ns)=ixl ns m:=by
 induction ns generalizing m with
 | nil=>rfl
 | cons n r ih=>
  have hr:∀ x∈r,0<x:=fun x hx=>hp x (by simp[hx])
  have h1:=je9 hr
  simp only[ixl,PR]
  have e1:m%(n*PR r)/PR r%n=m/PR r%n:=by
   rw[jiN,Nat.mod_mul_right_div_self,Nat.mod_mod]
  have e2:ixl r (m%(n*PR r))=ixl r m:=by
   rw[← ih hr (m%(n*PR r)),Nat.mod_mul_left_mod,ih hr]
  rw[e1,e2]
theorem jeh (ns:List Nat)(hp:∀ n∈ns,0<n)(m:Nat)(h:m%PR ns=PR ns-1):ixl ns m=ns.map fun n:Nat=>(n:Int)-1:=by
 induction ns generalizing m with
 | nil=>rfl
 | cons n r ih=>
  have hr:∀ x∈r,0<x:=fun x hx=>hp x (by simp[hx])
  have hn:0<n:=hp n (by simp)
  have h1:=je9 hr
  simp only[PR] at h
  rw[jiN,Nat.mod_mul] at h
  have h2:=Nat.mod_lt m h1
  have h3:=Nat.mod_lt (m/PR r) hn
  have h4:PR r*(m/PR r%n)+m%PR r=PR r*(n-1)+(PR r-1):=by
   have:PR r*n=PR r*(n-1)+PR r:=by
    obtain⟨k,rfl⟩:∃ k,n=k+1:=⟨n-1,by omega⟩
    simp[Nat.mul_add]
   omega
  have h5:m/PR r%n=n-1:=by
   have e:=congrArg (· / PR r) h4
   simp only[Nat.mul_add_div h1] at e
   rw[Nat.div_eq_of_lt h2,Nat.div_eq_of_lt (by omega:PR r-1<PR r)] at e
   omega
  have h6:m%PR r=PR r-1:=by rw[h5] at h4;omega
  simp only[ixl,List.map_cons,h5,ih hr m h6]
  congr 1
  omega
theorem jef (ns:List Nat)(hp:∀ n∈ns,0<n)(m:Nat)(h:ixl ns m=ns.map fun n:Nat=>(n:Int)-1):m%PR ns=PR ns-1:=by
 induction ns generalizing m with
 | nil=>simp[PR,Nat.mod_one]
 | cons n r ih=>
  have hr:∀ x∈r,0<x:=fun x hx=>hp x (by simp[hx])
  have hn:0<n:=hp n (by simp)
  have h1:=je9 hr
  simp only[ixl,List.map_cons,List.cons.injEq] at h
  have h2:=ih hr m h.2
  have h3:m/PR r%n=n-1:=by omega
  simp only[PR]
  rw[jiN,Nat.mod_mul,h2,h3]
  obtain⟨k,rfl⟩:∃ k,n=k+1:=⟨n-1,by omega⟩
  simp[Nat.mul_add];omega
theorem jd0 (ns:List Nat)(hp:∀ n∈ns,0<n)(m:Nat)(h:m%PR ns=0):ixl ns m=List.replicate ns.length 0:=by
 rw[← jhF ns hp m,h]
 clear h
 induction ns with
 | nil=>rfl
 | cons n r ih=>simp only[ixl,Nat.zero_div,Nat.zero_mod,jjq,List.replicate_succ,ih fun x hx=>hp x (by simp[hx])];rfl
theorem succ_div {m P:Nat}(hP:0<P)(h:m%P≠P-1):(m+1)/P=m/P:=by
 have h2:=Nat.mod_lt m hP
 have h3:=Nat.div_add_mod m P
 have:m+1=P*(m/P)+(m%P+1):=by omega
 rw[this,Nat.mul_add_div hP,Nat.div_eq_of_lt (by omega:m%P+1<P)]
 omega
theorem jfO {m P:Nat}(hP:0<P)(h:m%P=P-1):(m+1)/P=m/P+1∧(m+1)%P=0:=by
 have h3:=Nat.div_add_mod m P
 have:m+1=P*(m/P+1):=by rw[Nat.mul_add];omega
 rw[this,Nat.mul_div_cancel_left _ hP,Nat.mul_mod_right]
 exact⟨rfl,rfl⟩
theorem mod_succ {a n:Nat}(hn:0<n)(h:a%n≠n-1):(a+1)%n=a%n+1:=by
 have h2:=Nat.mod_lt a hn
 have h3:=Nat.div_add_mod a n
 have:a+1=n*(a/n)+(a%n+1):=by omega
 rw[this,Nat.mul_add_mod,jiO (by omega:a%n+1<n)]
theorem jf8 (ns:List Nat)(hp:∀ n∈ns,0<n)(m j n:Nat)(hj:ns[j]? = some n)(x:Int)(hx:(ixl ns m)[j]? = some x)
  (h1:(ixl ns m).drop (j+1)=(ns.drop (j+1)).map fun n:Nat=>(n:Int)-1) (h2:x≠(n:Int)-1):ixl ns (m+1)=(ixl ns m).take j++(x+1)::List.replicate (ns.length-(j+1)) 0:=by
 induction ns generalizing j with
 | nil=>simp at hj
 | cons a r ih=>
  have hr:∀ y∈r,0<y:=fun y hy=>hp y (by simp[hy])
  have ha:0<a:=hp a (by simp)
  have hP:=je9 hr
  cases j with
  | zero=>
   simp at hj hx
   subst hj
   simp[ixl] at h1 hx
   have h3:=jef r hr m h1
   have h4:=jfO hP h3
   have h5:=jd0 r hr _ h4.2
   simp only[ixl,h4.1,h5]
   have h6:m/PR r%a≠a-1:=fun e=>by
    apply h2
    rw[← hx,← Int.natCast_ediv,← Int.natCast_emod,e]
    omega
   rw[mod_succ ha h6]
   subst hx
   simp
  | succ j=>
   have hj':r[j]? = some n:=by simpa using hj
   have hx':(ixl r m)[j]? = some x:=by simpa [ixl] using hx
   have h1':(ixl r m).drop (j+1)=(r.drop (j+1)).map fun n:Nat=>(n:Int)-1:=by simpa [ixl] using h1
   have h3:m%PR r≠PR r-1:=fun e=>by
    have:=jeh r hr m e
    rw[this] at hx'
    simp[hj'] at hx'
    omega
   have h4:=ih hr j hj' hx' h1'
   simp only[ixl,succ_div hP h3,h4,List.take_succ_cons,List.cons_append,jjq]
   congr 2
   simp
theorem pz_ixl_aux (ns:List Nat)(hp:∀ n∈ns,0<n)(m:Nat)(p:Int):((ns.map fun n:Nat=>(n:Int)).zip (ixl ns m)).foldl (fun p a=>p*a.1+a.2) p=p*(PR ns:Int)+((m%PR ns:Nat):Int):=by
 induction ns generalizing p with
 | nil=>simp[ixl,PR,Nat.mod_one]
 | cons n r ih=>
  have hr:∀ x∈r,0<x:=fun x hx=>hp x (by simp[hx])
  simp only[ixl,List.map_cons,List.zip_cons_cons,List.foldl_cons,PR]
  rw[ih hr,jiN n,Nat.mod_mul]
  simp only[Int.natCast_add,jiW,ji7,jiZ]
  rw[jiY (PR r:Int) (n:Int),jiY (PR r:Int) _]
  omega
def swp (l:List Int)(a b:Nat):List Int:=(l.set a (l.getD b 0)).set b (l.getD a 0)
def swn (l:List Nat)(a b:Nat):List Nat:=(l.set a (l.getD b 0)).set b (l.getD a 0)
end Go.Gr
end
section
namespace Go.Proofs.YtgjgpdceghjajaaGreatDoor
open Go Go.V Go.Gr
def nz (ns:List Nat):List Int:=ns.map fun n:Nat=>(n:Int)
theorem jez (ns:List Nat):prod (nz ns)=(PR ns:Nat):=by
 have h:∀ (l:List Nat) (q:Int),(nz l).foldl (· * ·) q=q*(PR l:Nat):=by
  intro l
  induction l with
  | nil=>intro q;simp[nz,PR]
  | cons x l ih=>
   intro q
   have:=ih (q*x)
   simp only[nz,List.map_cons,List.foldl_cons,PR] at this ⊢
   rw[this,jiW,jiZ]
 have:=h ns 1
 simpa [prod] using this
def rl (lt:Int→Int→Bool)(data:List Int)(w:Nat):Nat→List Int
 | 0=>slot data 0 w
 | i+1=>(rl lt data w i).set (i%w) (if lt (data.getD i 0) ((rl lt data w i).getD (i%w) 0) then data.getD i 0 else (rl lt data w i).getD (i%w) 0)
theorem jev {lt:Int→Int→Bool}{data:List Int}{w:Nat}(h:w≤data.length)(i:Nat):(rl lt data w i).length=w:=by
 induction i with
 | zero=>simp[rl,slot];omega
 | succ i ih=>simp[rl,ih]
def lastL (ns:List Nat):List Int:=ns.map fun n:Nat=>(n:Int)-1
def flat (ns:List Nat)(f:Nat→List Int)(m:Nat):List Int:=(List.range m).flatMap f
theorem jdB (ns:List Nat)(f:Nat→List Int)(m:Nat):flat ns f (m+1)=flat ns f m++f m:=by
 simp[flat,List.range_succ]
theorem flat_len {ns:List Nat}{f:Nat→List Int}{m:Nat}(h:∀ j,j<m→(f j).length≤4):(flat ns f m).length≤4*m:=by
 induction m with
 | zero=>simp[flat]
 | succ m ih=>
  rw[jdB,jjj]
  have h1:=ih fun j hj=>h j (by omega)
  have h2:=h m (by omega)
  omega
theorem PR_le {ns:List Nat}(h1:ns.length≤4)(h2:∀ n∈ns,2≤n∧n≤9):PR ns≤6561:=by
 have hb:∀ l:List Nat,(∀ n∈l,2≤n∧n≤9)→PR l≤9^l.length:=by
  intro l
  induction l with
  | nil=>intro _;decide
  | cons x l ih=>
   intro hl
   have h3:=ih fun n hn=>hl n (by simp[hn])
   have h4:=hl x (by simp)
   rw[PR,jjq,Nat.pow_succ,jiN]
   exact Nat.mul_le_mul h3 h4.2
 exact jiS (hb ns h2) (ji2 (by omega) h1)
theorem ixl_pad0 {ns:List Nat}(h1:1≤ns.length∧ns.length≤4)(h2:∀ n∈ns,2≤n∧n≤9):pad4 (ixl ns 0)=[0,0,0,0]:=by
 rw[jd0 ns (fun n hn=>by have:=h2 n hn;omega) 0 (Nat.zero_mod _)]
 unfold pad4
 rw[List.length_replicate,← List.replicate_append_replicate.symm]
 have:ns.length+(4-ns.length)=4:=by omega
 simp[this]
theorem jf1 {a b:List Int}(h:a.length=b.length)(e:pad4 a=pad4 b):a=b:=(List.append_inj e h).1
theorem jcu {l:List Int}{p k:Nat}{x:Int}(h:l[p]? = some x)(hk:p<k)(hl:l.length≤4):(pad4 (l.take k)).getD p 0=x:=by
 have hp:=(jjn.1 h).1
 unfold pad4
 rw[jje,jjm (by simp;omega),jjy hk,h]
 rfl
theorem jdt {l:List Int}{p:Nat}{x y:Int}(h:l[p]? = some x)(h1:p<l.length)(hl:l.length≤4):(pad4 (l.take (p+1))).set p y=pad4 (l.take p++y::List.replicate (l.length-(p+1)) 0):=by
 unfold pad4
 have e1:(l.take (p+1)).length=p+1:=by simp;omega
 have e2:(l.take p++y::List.replicate (l.length-(p+1)) 0).length=l.length:=by simp;omega
 have e4:(l.take p).length=p:=by simp;omega
 rw[e1,e2,List.set_append_left _ _ (by omega),jjz,h]
 have e3:(l.take p++(some x).toList).set p y=l.take p++[y]:=by
  rw[List.set_append_right _ _ (by omega),e4,Nat.sub_self]
  rfl
 rw[e3,jjl,jjl]
 congr 1
 rw[List.singleton_append,List.cons_append,List.replicate_append_replicate]
 congr 2
 omega
theorem jeA {l:List Int}{p:Nat}{x:Int}(h:l[p]? = some x)(hl:l.length≤4):(pad4 (l.take (p+1))).set p 0=pad4 (l.take p):=by
 have h1:=(jjn.1 h).1
 rw[jdt h h1 hl]
 unfold pad4
 have e2:(l.take p++(0:Int)::List.replicate (l.length-(p+1)) 0).length=l.length:=by simp;omega
 have e3:(l.take p).length=p:=by simp;omega
 rw[e2,e3,jjl]
 congr 1
 rw[← List.replicate_succ,List.replicate_append_replicate]
 congr 1
 omega
theorem jeJ {ns:List Nat}{m p n:Nat}{x:Int}(hpos:∀ n∈ns,0<n)(hn:ns[p]? = some n)(hx:(ixl ns m)[p]? = some x):0≤x∧x≤(n:Int)-1:=by
 rw[jf9 ns m p n hn] at hx
 cases hx
 have:=Nat.mod_lt (m/PR (ns.drop (p+1))) (hpos n (jji hn))
 omega
end Go.Proofs.YtgjgpdceghjajaaGreatDoor
end
section
namespace Go.Proofs.YtgjgpdceghjajaaGreatDoor
open Go Go.V Go.Nb Go.Gr
def cnP (out:Int)(ns:List Nat):Nat→Int
 | 0=>out
 | k+1=>cnP out ns k*(ns.getD k 1:Nat)
theorem cnP_bd {out:Int}{ns:List Nat}(ho:1≤out∧out≤4)(h2:∀ n∈ns,2≤n∧n≤9):∀ k,1≤cnP out ns k∧cnP out ns k≤4*9^k
 | 0=>by simp only[cnP];omega
 | k+1=>by
  have ih:=cnP_bd ho h2 k
  have hb:1≤ns.getD k 1∧ns.getD k 1≤9:=by
   rw[jje]
   cases h:ns[k]? with
   | none=>simp
   | some n=>have:=h2 n (jji h);simp;omega
  simp only[cnP,Int.pow_succ]
  generalize ns.getD k 1=b at hb
  generalize (9:Int)^k=p at ih
  have h1:cnP out ns k*1≤cnP out ns k*(b:Int):=ji0 (by omega) (by omega)
  have h3:cnP out ns k*(b:Int)≤cnP out ns k*9:=ji0 (by omega) (by omega)
  omega
theorem rpow9 (k:Nat)(h:k≤4):(4:Int)*9^k≤26244:=by
 have:k=0∨k=1∨k=2∨k=3∨k=4:=by omega
 rcases this with rfl|rfl|rfl|rfl|rfl<;>decide
theorem jcD (Y:Nat→Tx):∀ n k,k<n→List.take 2 (List.drop (k*2) (wce Y n))=[.str (Y k).1,.str (Y k).2]
 | 0,k,h=>absurd h (Nat.not_lt_zero _)
 | n+1,k,h=>by
  have hl:∀ n,(wce Y n).length=n*2:=fun n=>by
   induction n with
   | zero=>rfl
   | succ n ih=>simp only[wce,jjj,ih];simp;omega
  rw[wce]
  rcases jiR k n with g|g
  ·have ih:=jcD Y n k g
   rw[List.drop_append_of_le_length (by rw[hl];omega),List.take_append_of_le_length (by rw[jjx,hl];omega),ih]
  ·have:k=n:=by omega
   subst this
   rw[List.drop_append,jjs (by rw[hl];omega),hl,Nat.sub_self]
   rfl
theorem jhm (sz:List Int):Cl 67 [.ints .i64 sz] (.fn 110 [] [.ref [.ints .i64 sz]]):=by
 refine V.en tbOk Tryz.func67 ?_
 refine V.r0 @jiI ?_
 exact Fin.of rfl
theorem jfM (g:Nat→Int){o k:Nat}(h:k<o):((List.range o).map g).take (k+1)=((List.range o).map g).take k++[g k]:=by
 rw[jjz]
 congr 1
 simp[h]
theorem jio:type_of% @jiK∧type_of% @jiI∧type_of% @tn0∧type_of% @tn1∧type_of% @tn2∧type_of% @tn3∧type_of% @xt4:=⟨@jiK,@jiI,@tn0,@tn1,@tn2,@tn3,@xt4⟩
theorem zX45_1:type_of% @jiK∧type_of% @jiI:=⟨@jiK,@jiI⟩
theorem zX45_2:type_of% @jiK∧type_of% @List.drop_zero.{0} ∧ type_of% @List.take_succ_cons.{0} ∧ type_of% @List.take_zero.{0} ∧ type_of% @jiI∧type_of% @tn0∧type_of% @tn1∧type_of% @tn2∧type_of% @tn3∧type_of% @xt4:=⟨@jiK,@List.drop_zero.{0},@List.take_succ_cons.{0},@List.take_zero.{0},@jiI,@tn0,@tn1,@tn2,@tn3,@xt4⟩
theorem refine2_t (zs data:List Int)(out:Int)(ns:List Nat)(X Y:Nat→Nat→Tx)(W:Nat→Nat→Int)(hl:zs.length=2)(hn:ns.length=2)(h2:∀ n∈ns,2≤n∧n≤9)(ho:1≤out∧out≤4)(hc:cnP out ns 2≤4096)
  (gr:Cl 37 [.agg [.ints .i64 zs,.int .i64 out,.ints .i64 data]] (.int .i64 0))
  (ov:∀ m i,m<PR ns→i<2→Cl 58 [.int .i64 ((pad4 (ixl ns m)).getD i 0),.int .i64 ((nz ns).getD i 0-1)] (.agg [.str (X m i).1,.str (X m i).2]))
  (ev:∀ m,m<PR ns→Cl 15 [.agg [.ints .i64 zs,.int .i64 out,.ints .i64 data],V.sl2 2 [.str (X m 0).1,.str (X m 0).2,.str (X m 1).1,.str (X m 1).2]] (.tup [.slf 2 out.toNat (fun j=>List.take 2 (List.drop (j*2) (wce (Y m) out.toNat))),.int .i64 0]))
  (nr:∀ m j,m<PR ns→j<out.toNat→Cl 68 [.agg [.str (Y m j).1,.str (Y m j).2],.int .i64 65535] (.tup [.int .i64 (W m j),.int .i64 0])) :
  Cl 33 [.agg [.ints .i64 zs,.int .i64 out,.ints .i64 data],.ints .i64 (nz ns)] (.tup [.agg [.ints .i64 (nz ns),.int .i64 out,.ints .i64 (flat ns (fun m=>(List.range out.toNat).map (W m)) (PR ns))],.int .i64 0]):=by
 have hlen:(nz ns).length=ns.length:=by simp[nz]
 have hlz:(nz ns).length=2:=by rw[hlen,hn]
 have hli:((nz ns).length:Int)=2:=by rw[hlz];rfl
 have hz:((zs.length:Nat):Int)=2:=by rw[hl];rfl
 have h1:1≤ns.length∧ns.length≤4:=by omega
 have po:=jhm (nz ns)
 have cl:=clone_c (nz ns) (by omega)
 have hcb:=cnP_bd ho h2
 refine V.en tbOk Tryz.func33 ?_
 refine V.r1 jio gr ?_
 refine Cnd.split (CondB.mk (fun h=>absurd h (by rw[hl,hlz];simp)) (fun _=>?_))
 refine V.r0 jio ?_
 refine lp_go (ns.length) (fun k=>True) (fun k=>[(38,.int .i64 k),(7,.int .i64 (cnP out ns k))]) (fun k=>[]) V.wk ?_ ?_
 ·trivial
 intro k hk _
 have hck:=hcb k
 have hck1:=hcb (k+1)
 have hk9:(4:Int)*9^k≤26244:=rpow9 k (by omega)
 (conv=>whnf)
 refine V.st ?_
 refine V.br (fun h=>?_) (fun h=>?_)
 ·rw[hlen] at h
  simp only[decide_eq_true_eq] at h
  have hk1:k<ns.length:=by omega
  have hk91:(4:Int)*9^(k+1)≤26244:=rpow9 (k+1) (by omega)
  obtain⟨n,hnk⟩:∃ n,ns[k]? = some n:=⟨ns[k],jjh hk1⟩
  have hn0:=h2 n (jji hnk)
  have en:(nz ns).getD k 0=n:=by simp[nz,jje,hnk]
  have ec:cnP out ns (k+1)=cnP out ns k*(n:Int):=by simp[cnP,jje,hnk]
  rw[ec] at hck1
  refine V.r0 (V.a2 jio @en) ?_
  refine Cnd.split (CondB.mk (fun h=>absurd h (by simp;omega)) (fun _=>?_))
  (conv=>whnf)
  (try simp only[jio,en,← ec])
  repeat ((first|refine V.s1 ?_);(try simp only[jio,en,← ec]))
  exact⟨k+1,⟨by omega,trivial⟩,by omega,V.wk⟩
 ·rw[hlen] at h
  simp only[decide_eq_false_iff_not] at h
  have hk1:k=2:=by omega
  subst hk1
  clear hck hck1
  refine V.r0 jio ?_
  refine Cnd.split (CondB.mk (fun h=>absurd h (by simp;omega)) (fun _=>?_))
  refine V.r0 jio ?_
  refine⟨(V.tk [0,2,3] (.ev (.cons 1 [3,2] (V.tk [4] (V.e1 5 [4,3,2] (V.e1 6 [] .done))) (.cons 5 [3,2,0] (V.e1 1 [3,2] (V.tk [4] (V.e1 6 [] .done))) .nil)))),[],V.pok,?_⟩
  refine jab [(10,.box 10 0)] [(10,.box [.ints .i64 (nz ns),.int .i64 out,.nil])] ?_ ?_
  ·exact V.d1 jio cl
  refine V.r1 jio po ?_
  refine⟨_,_,⟨Tryz.func110,rfl,rfl,jiE rfl⟩,?_⟩
  refine V.r0 @jiI ?_
  refine lp_go (ns.length) (fun k=>True) (fun k=>[(10,.int .i64 k)]) (fun k=>[(122,.arr .i64 (pad4 ((lastL ns).take k)))]) V.wk ?_ ?_
  ·trivial
  intro k hk _
  (conv=>whnf)
  refine V.st ?_
  refine V.br (fun h=>?_) (fun h=>?_)
  ·rw[hlen] at h
   simp only[decide_eq_true_eq] at h
   have hk1:k<ns.length:=by omega
   obtain⟨n,hnk⟩:∃ n,ns[k]? = some n:=⟨ns[k],jjh hk1⟩
   have hn0:=h2 n (jji hnk)
   have en:(nz ns).getD k 0=n:=by simp[nz,jje,hnk]
   have hll:(lastL ns)[k]? = some ((n:Int)-1):=by simp[lastL,hnk]
   have hp4:(pad4 ((lastL ns).take k)).length=4:=jan (by simp[lastL];omega)
   have hps:=jf0 hll (by simp[lastL];omega)
   refine V.r0 (V.a3 zX45_1 @en hps) ?_
   exact⟨k+1,⟨by omega,trivial⟩,by omega,V.wk⟩
  ·rw[hlen] at h
   simp only[decide_eq_false_iff_not] at h
   have hk1:k=ns.length:=by omega
   subst hk1
   have e0:(lastL ns).take ns.length=lastL ns:=jjr (by simp[lastL])
   rw[e0]
   (conv=>whnf)
   refine V.st ?_
   refine Lp.ghostBox 279 10 2 .i64 (by decide) (by decide) ?_
   (conv=>whnf)
   have e1:=ixl_pad0 h1 h2
   have hpos:∀ n∈ns,0<n:=fun n hn=>by have:=h2 n hn;omega
   refine jac (0) (fun k=>k<PR ns) (fun k=>PR ns-k) (fun k=>[]) (fun k=>[(117,.lp none),(121,.arr .i64 (pad4 (ixl ns k))),(10,.box [.ints .i64 (nz ns),.int .i64 out,.osl 279 0 (flat ns (fun m=>(List.range out.toNat).map (W m)) k).length]),(279,.arr .i64 (flat ns (fun m=>(List.range out.toNat).map (W m)) k))]) ?_ ?_ ?_
   ·rw[e1]
    exact V.wk
   ·exact je9 hpos
   intro m hm
   have evm:=ev m hm
   have hlm:((List.range out.toNat).map (W m)).length=out.toNat:=by simp
   have hp4:(pad4 (ixl ns m)).length=4:=jan (by rw[jat];omega)
   have hp4l:(pad4 (lastL ns)).length=4:=jan (by simp[lastL];omega)
   have hfl:(flat ns (fun m=>(List.range out.toNat).map (W m)) m).length≤4*m:=flat_len (fun j hj=>by simp;omega)
   have hPR:=PR_le h1.2 h2
   have xb:∀ i n,ns[i]? = some n→(0≤(pad4 (ixl ns m)).getD i 0∧(pad4 (ixl ns m)).getD i 0≤8)∧(2≤(nz ns).getD i 0∧(nz ns).getD i 0≤9):=by
    intro i n h
    have e:=jf9 ns m i n h
    have b:=jeJ hpos h e
    have b2:=h2 n (jji h)
    have hi:=(jjn.1 h).1
    have e2:=jcu (k:=ns.length) e hi (by rw[jat];omega)
    rw[jjr (by rw[jat];omega)] at e2
    rw[e2]
    simp[nz,jje,h]
    simp at b
    omega
   have i69:=fun i (hi:i<2)=>ns.getElem?_eq_getElem (show i<ns.length by omega)
   refine V.r0 (V.a2 jio hli) ?_
   refine jac (0:Nat) (fun k=>k≤2) (fun k=>2-k) (fun k=>[(69,.int .i64 (k:Nat))]) (fun k=>[(232,.box (preD (2*k) [.str (X m 0).1,.str (X m 0).2,.str (X m 1).1,.str (X m 1).2]))]) ?_ ?_ ?_
   ·exact V.wk
   ·exact jiF _
   intro k hk
   have hk4:k=0∨k=1∨k=2:=by omega
   rcases hk4 with e|e|e
   all_goals subst e
   ·simp only[k0]
    have c:=ov m 0 hm (by omega)
    have xb0:=xb 0 _ (i69 0 (by omega))
    refine V.r1 (V.a2 jio hli) c ?_
    exact⟨1,by omega,by omega,V.wk⟩
   ·simp only[k1]
    have c:=ov m 1 hm (by omega)
    have xb1:=xb 1 _ (i69 1 (by omega))
    refine V.r1 (V.a2 jio hli) c ?_
    exact⟨2,by omega,by omega,V.wk⟩
   ·simp only[k2]
    refine V.r1 (V.a2 jio hli) evm ?_
    obtain⟨E,hE0,hEs,hEn,hEl⟩:∃ E:Nat→List Int,E 0=flat ns (fun m=>(List.range out.toNat).map (W m)) m∧(∀ k,k<out.toNat→E k++[W m k]=E (k+1))∧E out.toNat=flat ns (fun m=>(List.range out.toNat).map (W m)) (m+1) ∧ ∀ k,k≤out.toNat→(E k).length≤30000:=by
     refine⟨fun k=>flat ns (fun m=>(List.range out.toNat).map (W m)) m++((List.range out.toNat).map (W m)).take k,by simp,fun k hk=>?_,?_,fun k hk=>?_⟩
     ·show flat ns _ m++((List.range out.toNat).map (W m)).take k++[W m k]=flat ns _ m++((List.range out.toNat).map (W m)).take (k+1)
      rw[jfM _ hk,jjl]
     ·show flat _ _ _++_=_
      rw[jdB,jjr (by simp)]
     ·show (flat _ _ _++_).length≤_
      rw[jjj,jjk]
      omega
    rw[← hE0]
    refine lp_go (out.toNat) (fun k=>True) (fun k=>[(96,.int .i64 k)]) (fun k=>[(10,.box [.ints .i64 (nz ns),.int .i64 out,.osl 279 0 (E k).length]),(279,.arr .i64 (E k))]) V.wk ?_ ?_
    ·trivial
    intro k hk _
    (conv=>whnf)
    refine V.st ?_
    refine V.br (fun h=>?_) (fun h=>?_)
    ·simp only[decide_eq_true_eq] at h
     have hk1:k<out.toNat:=by omega
     have e:=jcD (Y m) out.toNat k hk1
     have nrk:=nr m k hm hk1
     have hEk:=hEs k hk1
     have hEl1:=hEl k hk
     have hEl2:(E k).length+1=(E (k+1)).length:=by rw[← hEk];simp
     (conv=>whnf)
     (try simp only[zX45_2,hEk,hEl2,← jjj])
     repeat ((first|refine V.s1 ?_|((try ((with_reducible refine .ext ?_);(conv=>whnf);(try simp only[zX45_2,hEk,hEl2,← jjj])));(with_reducible refine jaa (r:=?_) ?_ ?_);rotate_left;(focus (first|exact(nrk)));(conv=>whnf))|((simp only[e]);(conv=>whnf)));(try simp only[zX45_2,hEk,hEl2,← jjj]))
     exact⟨k+1,⟨by omega,trivial⟩,by omega,V.wk⟩
    ·simp only[decide_eq_false_iff_not] at h
     have hk1:k=out.toNat:=by omega
     subst hk1
     rw[hEn]
     (conv=>whnf)
     refine V.st ?_
     refine V.br (fun hq=>?_) (fun hq=>?_)
     ·have hq2:ixl ns m≠lastL ns:=fun e=>by rw[e] at hq;simp at hq
      have hil:=jat ns m
      have hll:(lastL ns).length=ns.length:=by simp[lastL]
      (conv=>whnf)
      refine V.st ?_
      rw[hlen]
      have e2:(ixl ns m).take ns.length=ixl ns m:=jjr (by omega)
      refine jac (ns.length) (fun k=>(1≤k∧k≤ns.length)∧(ixl ns m).drop k=(lastL ns).drop k) (fun k=>k) (fun k=>[(7,.int .i64 ((k:Int)-1))]) (fun k=>[(121,.arr .i64 (pad4 ((ixl ns m).take k)))]) ?_ ?_ ?_
      ·rw[e2]
       exact V.wk
      ·exact⟨⟨h1.1,jiL _⟩,by rw[jjs (by omega),jjs (by omega)]⟩
      rintro p ⟨⟨hp1,hp2⟩,hp3⟩
      obtain⟨p,rfl⟩:∃ q,p=q+1:=⟨p-1,by omega⟩
      obtain⟨x,hx⟩:∃ x,(ixl ns m)[p]? = some x:=⟨_,jjh (by omega)⟩
      obtain⟨n,hn⟩:∃ n,ns[p]? = some n:=⟨ns[p],jjh (by omega)⟩
      have hpx:=jcu hx (by omega:p<p+1) (by omega)
      have hpl:(lastL ns)[p]? = some ((n:Int)-1):=by simp[lastL,hn]
      have hpl2:=jcu (k:=4) hpl (by omega) (by omega)
      rw[jjr (by omega)] at hpl2
      have hp5:(pad4 ((ixl ns m).take (p+1))).length=4:=jan (by simp;omega)
      have e3:((p+1:Nat):Int)-1=(p:Int):=by omega
      have e4:=jeA hx (by omega)
      (conv=>whnf)
      refine V.st ?_
      refine⟨(V.tk [0,1,2,3,4,5,6] .done),[],V.pok,.go (jad ?_)⟩
      refine V.r0 (V.a4 zX45_1 e3 hpx hpl2) ?_
      refine V.br (fun hc=>?_) (fun hc=>?_)
      ·simp only[decide_eq_true_eq] at hc
       have hd:(ixl ns m).drop p=(lastL ns).drop p:=by
        rw[jju (by omega:p<(ixl ns m).length),jju (by omega:p<(lastL ns).length),hp3,(jjn.1 hx).2,(jjn.1 hpl).2,hc]
       have hp0:1≤p:=by
        rcases jiM p with e|e
        ·subst e;exact absurd (by simpa using hd) hq2
        ·exact e
       refine V.r0 (V.a3 zX45_1 e3 e4) ?_
       exact⟨p,⟨⟨hp0,by omega⟩,hd⟩,by omega,V.wk⟩
      ·simp only[decide_eq_false_iff_not] at hc
       have hsu:=jf8 ns hpos m p n hn x hx (by rw[hp3];simp[lastL]) hc
       have e5:=jdt (y:=x+1) hx (by omega) (by omega:(ixl ns m).length≤4)
       rw[hil,← hsu] at e5
       have hxb:=jeJ hpos hn hx
       have hnb:=h2 n (jji hn)
       have hm1:m+1<PR ns:=by
        rcases jiR (m+1) (PR ns) with e|e
        ·exact e
        ·exfalso
         exact hq2 (jeh ns hpos m (by rw[jiO hm];omega))
       refine V.r0 (V.a4 zX45_1 e3 hpx e5) ?_
       exact⟨m+1,hm1,by omega,V.wk⟩
     ·have hq2:ixl ns m=lastL ns:=jf1 (by rw[jat];simp[lastL]) (by simpa using hq)
      have hq3:=jef ns hpos m hq2
      rw[jiO hm] at hq3
      have hq4:m+1=PR ns:=by omega
      rw[hq4]
      (conv=>whnf)
      refine V.st ?_
      rw[jjr (jiL _)]
      exact Fin.of rfl
end Go.Proofs.YtgjgpdceghjajaaGreatDoor
end
section
namespace Go.V
open Go Go.RowKit
def Env.alias (E:Env)(i j:Nat):Env:=⟨fun x=>if x=j then E.blk i else E.blk x,fun x=>if x=j then E.siz i else E.siz x,fun x=>if x=j then E.kn i else E.kn x,fun x=>if x=j then E.real i else E.real x,fun x=>if x=j then E.lpr i else E.lpr x⟩
theorem Env.off_alias (E:Env)(i j:Nat):E.off (E.alias i j) j:=fun k hk=>by simp[Env.alias,hk]
section
variable {cx : Cx} {E : Env} {h : Pub} {a : Act} {w : World} {L : Sl} {H : Hp}
theorem Sat.renArr (S:Sat cx E h a w L H){i j:Nat}{k:IntKind}{xs:List Int}(hij:i≠j)(hoff':cx.off≤j)(hi:lookH H i=some (.arr k xs)) :
  Sat cx (E.alias i j) h a w (purge j L) ((j,.arr k xs)::(i,.gone)::jaG j H):=by
 have hoff:=E.off_alias i j
 have ej:(E.alias i j).blk j=E.blk i∧(E.alias i j).siz j=E.siz i∧(E.alias i j).kn j=E.kn i∧(E.alias i j).real j=E.real i:=by simp[Env.alias]
 have ne:∀ x,x≠j→(E.alias i j).blk x=E.blk x∧(E.alias i j).real x=E.real x:=fun x hx=>⟨(hoff x hx).1,(hoff x hx).2.2.2.1⟩
 have live:∀ x c',x≠j→lookH ((j,.arr k xs)::(i,.gone)::jaG j H) x=some c'→c'.live=true→x≠i ∧ ∃ c0,lookH H x=some c0∧c'=jci j c0∧c0.live=true:=by
  intro x c' hx hc' hl
  rw[jag,if_neg (Ne.symm hx),jag] at hc'
  by_cases hxi:i=x
  ·rw[if_pos hxi] at hc';cases hc';cases hl
  ·rw[if_neg hxi] at hc'
   obtain⟨c0,h1,h2⟩:=jbf hc'
   exact⟨Ne.symm hxi,c0,h1,h2,by rw[h2,jbe] at hl;exact hl⟩
 have atj:∀ c',lookH ((j,.arr k xs)::(i,.gone)::jaG j H) j=some c'→c' = .arr k xs:=fun c' hc'=>by
  rw[jag,if_pos rfl] at hc';cases hc';rfl
 refine { knows:=?_,mem:=?_,agree:=S.agree,since:=S.since,low:=fun x hx=>jeH S.low hoff hoff' x hx,side:=S.side }
 ·exact fun t=>jbP hoff (S.knows t)
 ·refine { ok:=?_,base:=?_,unpub:=?_,inj:=?_ }
  ·intro x c' hc'
   by_cases hx:x=j
   ·subst hx
    rw[atj c' hc']
    have:=S.mem.ok i _ hi
    simp only[ChunkOk] at this ⊢
    rw[ej.1,ej.2.1,ej.2.2.1,ej.2.2.2]
    exact this
   ·cases hl:c'.live with
    | false=>cases c'<;>first|trivial|(simp[Chunk.live] at hl)
    | true=>
     obtain⟨_,c0,h1,rfl,hl'⟩:=live x c' hx hc' hl
     exact ChunkOk.env hoff hx (S.mem.ok x _ h1)
  ·intro x c' hc' hl hr
   by_cases hx:x=j
   ·subst hx
    rw[ej.2.2.2] at hr
    rw[ej.1]
    exact S.mem.base i _ hi rfl hr
   ·obtain⟨_,c0,h1,rfl,hl'⟩:=live x c' hx hc' hl
    rw[(ne x hx).2] at hr
    rw[(ne x hx).1]
    exact S.mem.base x _ h1 hl' hr
  ·intro x c' hc' hl hr o
   by_cases hx:x=j
   ·subst hx
    rw[ej.2.2.2] at hr
    rw[ej.1]
    exact S.mem.unpub i _ hi rfl hr o
   ·obtain⟨_,c0,h1,rfl,hl'⟩:=live x c' hx hc' hl
    rw[(ne x hx).2] at hr
    rw[(ne x hx).1]
    exact S.mem.unpub x _ h1 hl' hr o
  ·intro x y c1 c2 hxy h1 h2 l1 l2 r1 r2
   by_cases hx:x=j
   ·subst hx
    obtain⟨hyi,c0',g2,rfl,l2'⟩:=live y c2 (Ne.symm hxy) h2 l2
    rw[ej.2.2.2] at r1
    rw[(ne y (Ne.symm hxy)).2] at r2
    rw[ej.1,(ne y (Ne.symm hxy)).1]
    exact S.mem.inj i y _ _ (Ne.symm hyi) hi g2 rfl l2' r1 r2
   ·obtain⟨hxi,c0,g1,rfl,l1'⟩:=live x c1 hx h1 l1
    rw[(ne x hx).2] at r1
    rw[(ne x hx).1]
    by_cases hy:y=j
    ·subst hy
     rw[ej.2.2.2] at r2
     rw[ej.1]
     exact S.mem.inj x i _ _ hxi g1 hi l1' rfl r1 r2
    ·obtain⟨hyi,c0',g2,rfl,l2'⟩:=live y c2 hy h2 l2
     rw[(ne y hy).2] at r2
     rw[(ne y hy).1]
     exact S.mem.inj x y _ _ hxy g1 g2 l1' l2' r1 r2
end
theorem Wk.renBox {off:Nat}{L:Sl}{H:Hp}{L2:Sl}{H2:Hp}(i j b p n:Nat){k:IntKind}{xs:List Int}{ds:List D}(hij:i≠j)(hb:b≠i∧b≠j)(hoff:off≤j)(hi:lookH H i=some (.arr k xs))(hj:lookH (jaG j H) b=some (.box ds))(hp:ds[p]? = some (.osl i 0 n))
  (h:Wk off (purge j L) ((b,.box (ds.set p (.osl j 0 n)))::(j,.arr k xs)::(i,.gone)::jaG j H) L2 H2):Wk off L H L2 H2:=by
 refine⟨fun cx E h' a w e S=>?_⟩
 subst e
 have S1:=S.renArr hij hoff hi
 have hb1:lookH ((j,.arr k xs)::(i,.gone)::jaG j H) b=some (.box ds):=by
  rw[jag,if_neg (Ne.symm hb.2),jag,if_neg (Ne.symm hb.1)];exact hj
 have fe:∀ v,Den (E.alias i j) h' (.osl i 0 n) v→Den (E.alias i j) h' (.osl j 0 n) v:=fun v hv=>by
  simp only[Den,Env.alias,if_true,if_neg hij] at hv ⊢
  exact hv
 refine h.out cx (E.alias i j) h' a w rfl (S1.rechunk hb1 rfl ?_)
 obtain⟨h1,vs,rest,T,h2,h3,h4⟩:=S1.mem.ok b _ hb1
 exact⟨h1,vs,rest,T,h2,jge h3 hp fe,h4⟩
theorem Wk.renSlot {off:Nat}{L:Sl}{H:Hp}(i j t n:Nat){k:IntKind}{xs:List Int}(hij:i≠j)(hoff:off≤j)(hi:lookH H i=some (.arr k xs))(ht:look L t = .osl i 0 n) :
  Wk off L H ((t,.osl j 0 n)::purge j L) ((j,.arr k xs)::(i,.gone)::jaG j H):=by
 refine⟨fun cx E h a w e S=>?_⟩
 subst e
 have S1:=S.renArr hij hoff hi
 have hv:=S.knows t
 rw[ht] at hv
 refine⟨E.alias i j,h,S1.reslot ?_⟩
 simp only[Den,Env.alias,if_true] at hv ⊢
 exact hv
theorem Lp.renSlot {off:Nat}{L:Sl}{H:Hp}{body:Sl→Hp→K3→Prop}{K:K3}(i j t n:Nat){k:IntKind}{xs:List Int}(hij:i≠j)(hoff:off≤j)(hi:lookH H i=some (.arr k xs))(ht:look L t = .osl i 0 n)
  (h:jdq j L fun L1=>jbU j H fun H1=>Lp off ((t,.osl j 0 n)::L1) ((j,.arr k xs)::(i,.gone)::H1) body K):Lp off L H body K:=by
 rw[jcI,jch] at h
 exact Lp.pre (Wk.renSlot i j t n hij hoff hi ht) h
end Go.V
end
section
namespace Go.Proofs.YtgjgpdceghjajaaGreatDoor
open Go Go.V Go.Nb Go.Gr
theorem wdec11 (s:List UInt8):decide (s=s)=true:=by simp
def jgI:List Nd:=[⟨[0,3,6,8,9,10],[1,2,4,5],.ev (.cons 0 [1,2,4,5] (.goto 9) (.cons 3 [4,5] (.goto 6) (.cons 6 [1,2] (.goto 1) (.nil))))⟩,⟨[0,3,8,9,10],[1,2],.ev (.cons 0 [1,2] (.goto 4) (.cons 3 [] (.goto 2) (.nil)))⟩,⟨[0,8,9,10],[],.ev (.cons 0 [] (.goto 3) (.nil))⟩,⟨[8,9,10],[],.ev (.cons 8 [] (.take 9 (.take 10 (.done))) (.nil))⟩,⟨[3,8,9,10],[1,2],.ev (.cons 3 [] (.goto 3) (.cons 8 [1,2] (.goto 5) (.nil)))⟩,⟨[3,9,10],[1,2],.ev (.cons 3 [] (.take 9 (.take 10 (.done))) (.nil))⟩,⟨[0,6,8,9,10],[4,5],.ev (.cons 0 [4,5] (.goto 7) (.cons 6 [] (.goto 2) (.nil)))⟩,⟨[6,8,9,10],[4,5],.ev (.cons 6 [] (.goto 3) (.cons 8 [4,5] (.take 9 (.goto 8)) (.nil)))⟩,⟨[6,10],[4,5,9],.ev (.cons 6 [9] (.take 10 (.done)) (.nil))⟩,⟨[3,6,8,9,10],[1,2,4,5],.ev (.cons 3 [4,5] (.goto 7) (.cons 6 [1,2] (.goto 4) (.cons 8 [1,2,4,5] (.goto 10) (.nil))))⟩,⟨[3,6,9,10],[1,2,4,5],.ev (.cons 3 [4,5] (.take 9 (.goto 8)) (.cons 6 [1,2] (.goto 5) (.nil)))⟩,⟨[0,3,7,8,9,10],[1,2],.ev (.cons 0 [1,2] (.goto 14) (.cons 3 [] (.goto 12) (.cons 7 [1,2] (.goto 1) (.nil))))⟩,⟨[0,7,8,9,10],[],.ev (.cons 0 [] (.goto 13) (.cons 7 [] (.goto 2) (.nil)))⟩,⟨[7,8,9,10],[],.ev (.cons 7 [] (.goto 3) (.nil))⟩,⟨[3,7,8,9,10],[1,2],.ev (.cons 3 [] (.goto 13) (.cons 7 [1,2] (.goto 4) (.nil)))⟩,⟨[0,6,7,8,9,10],[4,5],.ev (.cons 0 [4,5] (.goto 16) (.cons 6 [] (.goto 12) (.cons 7 [4,5] (.goto 6) (.nil))))⟩,⟨[6,7,8,9,10],[4,5],.ev (.cons 6 [] (.goto 13) (.cons 7 [4,5] (.goto 7) (.nil)))⟩,⟨[3,6,7,8,9,10],[1,2,4,5],.ev (.cons 3 [4,5] (.goto 16) (.cons 6 [1,2] (.goto 14) (.cons 7 [1,2,4,5] (.goto 9) (.nil))))⟩]
theorem jh9:type_of% @jiK∧type_of% @jjB ∧ type_of% @jjC ∧ type_of% @jiI∧type_of% @tn0∧type_of% @tn1∧type_of% @tn2∧type_of% @tn3∧type_of% @xt4:=⟨@jiK,@jjB,@jjC,@jiI,@tn0,@tn1,@tn2,@tn3,@xt4⟩
theorem jiB:type_of% @jiK∧type_of% @jjB ∧ type_of% @jjC ∧ type_of% @jiI∧type_of% @tn0∧type_of% @tn1∧type_of% @tn2∧type_of% @tn3∧type_of% @wdec11∧type_of% @xt4:=⟨@jiK,@jjB,@jjC,@jiI,@tn0,@tn1,@tn2,@tn3,@wdec11,@xt4⟩
theorem jg8 (ds vals data O:List Int)(oo:Int)(sm:Bool)(at' z1 z2:Nat→Int)(b1 b2:Nat→Bool)(p1 p2:Nat→List Int)(s0:Nat)(e0:Int)(F0 F1:Nat→List D)(C W Y SU XF:Nat→Tx)(PL MN AF TA VF TV:Nat→Nat→Tx)(PD V':Nat→List Int)
  (hO:O.length=1) (hq:∀ k,k<1→0≤O.getD k 0∧O.getD k 0<1) (hb:∀ k,k<2 → ∀ i,0≤(atK [e0] O k).getD i 0∧(atK [e0] O k).getD i 0≤100) (hV:∀ k,k<2→(V' k).length=1) (hPD:∀ k,(PD k).length=4) (hs:(2≤s0∧s0≤9)) (hbb:(0≤e0∧e0≤9))
  (zp:∀ i,PL 0 i=SU 0) (zm:∀ i,MN 0 i=SU 0) (hend:atK [e0] O 1=[e0+1]) (hy:∀ j,MN 2 j=Y j)
  (wk:Cl 10 [] (.bool true))
  (gd:Cl 11 [.agg [.ints .u8 ds,.int .u8 oo,.ints .u16 vals,.bool sm]] (.agg [.ints .i64 [(s0:Int)],.int .i64 1,.ints .i64 data]))
  (co:Cl 13 [(colD at' z1 z2 b1 b2 p1 p2),.int .i64 1] (.agg [.slf 2 1 F0,.slf 2 1 F1,V.sl2 1 [.str (C 0).1,.str (C 0).2]]))
  (ce:Cl 17 [.agg [.ints .i64 [(s0:Int)],.int .i64 1,.ints .i64 data],V.sl2 1 [.str (C 0).1,.str (C 0).2]] (.tup [.ints .i64 [e0],.ints .i64 O,V.sl2 2 [.str (W 0).1,.str (W 0).2,.str (W 1).1,.str (W 1).2],.int .i64 0]))
  (ev:Cl 15 [.agg [.ints .i64 [(s0:Int)],.int .i64 1,.ints .i64 data],V.sl2 1 [.str (C 0).1,.str (C 0).2]] (.tup [V.sl2 1 [.str (Y 0).1,.str (Y 0).2],.int .i64 0]))
  (zf:Cl 18 [.int .i64 0,.int .i64 1] (.agg [.str (SU 0).1,.str (SU 0).2]))
  (ck:Cl 37 [.agg [.ints .i64 [(s0:Int)],.int .i64 1,.ints .i64 data]] (.int .i64 0))
  (fi:∀ k,k<2→Cl 47 [.agg [.ints .i64 [(s0:Int)],.int .i64 1,.ints .i64 data],.ints .i64 (atK [e0] O k)] (.tup [.iarr .i64 (PD k),.bool true]))
  (vl:∀ k,k<2→Cl 40 [.agg [.ints .i64 [(s0:Int)],.int .i64 1,.ints .i64 data],.iarr .i64 (PD k)] (.ints .i64 (V' k)))
  (le:∀ k,k<2→Cl 21 [.agg [.str (W k).1,.str (W k).2],.agg [.str (SU 0).1,.str (SU 0).2]] (.bool false))
  (su:∀ k,k<2→Cl 22 [.agg [.str (SU k).1,.str (SU k).2],.agg [.str (W k).1,.str (W k).2]] (.agg [.str (SU (k+1)).1,.str (SU (k+1)).2]))
  (af:∀ k i,k<2→i<1→Cl 18 [.int .i64 ((atK [e0] O k).getD i 0),.int .i64 1] (.agg [.str (AF k i).1,.str (AF k i).2]))
  (ta:∀ k i,k<2→i<1→Cl 23 [.agg [.str (W k).1,.str (W k).2],.agg [.str (AF k i).1,.str (AF k i).2]] (.agg [.str (TA k i).1,.str (TA k i).2]))
  (pa:∀ k i,k<2→i<1→Cl 22 [.agg [.str (PL k i).1,.str (PL k i).2],.agg [.str (TA k i).1,.str (TA k i).2]] (.agg [.str (PL (k+1) i).1,.str (PL (k+1) i).2]))
  (vf:∀ k i,k<2→i<1→Cl 18 [.int .i64 ((V' k).getD i 0),.int .i64 65535] (.agg [.str (VF k i).1,.str (VF k i).2]))
  (tv:∀ k i,k<2→i<1→Cl 23 [.agg [.str (W k).1,.str (W k).2],.agg [.str (VF k i).1,.str (VF k i).2]] (.agg [.str (TV k i).1,.str (TV k i).2]))
  (pm:∀ k i,k<2→i<1→Cl 22 [.agg [.str (MN k i).1,.str (MN k i).2],.agg [.str (TV k i).1,.str (TV k i).2]] (.agg [.str (MN (k+1) i).1,.str (MN (k+1) i).2]))
  (xf:∀ i,i<1→Cl 18 [.int .i64 (([(s0:Int)]:List Int).getD i 0-1),.int .i64 1] (.agg [.str (XF i).1,.str (XF i).2]))
  (tx:∀ i,i<1→Cl 23 [.agg [.str (C i).1,.str (C i).2],.agg [.str (XF i).1,.str (XF i).2]] (.agg [.str (PL 2 i).1,.str (PL 2 i).2]))
  (o1:Cl 18 [.int .i64 1,.int .i64 1] (.agg [.str (SU 2).1,.str (SU 2).2])) :
  Cl 4 [.agg [.ints .u8 ds,.int .u8 oo,.ints .u16 vals,.bool sm],(colD at' z1 z2 b1 b2 p1 p2)] (.bool true):=by
 have eq:=eqf1 Y
 have hOl:((O.length:Nat):Int)=1:=by rw[hO];rfl
 have hal:∀ k,(atK [e0] O k).length=1:=fun k=>by
  induction k with
  | zero=>rfl
  | succ k ih=>rw[atK,jjw,ih]
 refine V.en tbOk Tryz.func4 ?_
 refine V.r5 jh9 wk gd co ce ev ?_
 refine V.cnd_to [(5,.box 5 0),(6,V.sl2 1 [.str (C 0).1,.str (C 0).2]),(7,.ints .i64 [e0]),(8,.ints .i64 O),(9,V.sl2 2 [.str (W 0).1,.str (W 0).2,.str (W 1).1,.str (W 1).2]),(11,V.sl2 1 [.str (Y 0).1,.str (Y 0).2])] [(5,.box [.ints .i64 [(s0:Int)],.int .i64 1,.ints .i64 data])] (CondB.mk (fun h=>absurd h (by simp[hO])) (fun _=>?_)) ?_
 ·(conv=>whnf)
  exact V.wk
 refine V.r0 jh9 ?_
 refine⟨Pq82z,jgI,V.pok,?_⟩
 refine jbL [(14,.bsl 88 0 1 2),(15,.bsl 91 0 1 2),(13,.box 13 0),(88,.bsl 88 0 1 2),(91,.bsl 91 0 1 2)] [(13,.box [.str (SU 0).1,.str (SU 0).2]),(88,.box [.str [],.str []]),(91,.box [.str [],.str []])] [(0,[(85,.agg [.str (SU 0).1,.str (SU 0).2])],[]),(1,[(86,V.sl2 1 [.str (C 0).1,.str (C 0).2])],[]),(2,[(87,.int .i64 1)],[]),(3,[(88,.bsl 88 0 1 2)],[(88,.box [.str [],.str []])]),(4,[(89,.box 5 1)],[]),(5,[(90,.int .i64 1)],[]),(6,[(91,.bsl 91 0 1 2)],[(91,.box [.str [],.str []])]),(7,[(13,.box 13 0)],[(13,.box [.str [],.str []])]),(8,[],[(13,.box [.str (SU 0).1,.str (SU 0).2])]),(9,[(14,.bsl 88 0 1 2)],[]),(10,[(15,.bsl 91 0 1 2)],[])] ?_ ?_ ?_
 ·exact V.d1 jh9 zf
 ·exact V.d1 jh9 zf
 refine V.r0 jh9 ?_
 refine jac (0:Nat) (fun k=>k≤1) (fun k=>1-k) (fun k=>[(94,.int .i64 (k:Nat))]) (fun k=>[(88,.box (preD (2*k) [.str (SU 0).1,.str (SU 0).2]))]) ?_ ?_ ?_
 ·exact V.wk
 ·exact jiF _
 intro k hk
 have hk4:k=0∨k=1:=by omega
 rcases hk4 with e|e
 all_goals subst e
 ·simp only[k0]
  refine V.r1 jh9 zf ?_
  exact⟨1,by omega,by omega,V.wk⟩
 ·simp only[k1]
  refine V.r0 jh9 ?_
  refine jac (0:Nat) (fun k=>k≤1) (fun k=>1-k) (fun k=>[(104,.int .i64 (k:Nat))]) (fun k=>[(91,.box (preD (2*k) [.str (SU 0).1,.str (SU 0).2]))]) ?_ ?_ ?_
  ·exact V.wk
  ·exact jiF _
  intro k hk
  have hk4:k=0∨k=1:=by omega
  rcases hk4 with e|e
  all_goals subst e
  ·simp only[k0]
   refine V.r1 jh9 zf ?_
   exact⟨1,by omega,by omega,V.wk⟩
  ·simp only[k1]
   refine V.r0 jh9 ?_
   refine .inl ?_
   (conv=>whnf)
   refine⟨100,_,_,⟨Tryz.func19,rfl,rfl,jiE rfl⟩,?_⟩
   refine V.r0 jh9 ?_
   refine⟨fun h=>absurd (h rfl) (by simp),fun _=>?_⟩
   refine V.r0 jh9 ?_
   refine Lp.renSlot 365 18 18 1 (k := .i64) (xs:=[e0]) (by decide) (by decide) rfl rfl ?_
   (conv=>whnf)
   refine jac (0:Nat) (fun k=>k≤2) (fun k=>2-k) (fun k=>[(116,.int .i64 (k:Nat)),(113,.any)]) (fun k=>[(13,.box [.str (SU k).1,.str (SU k).2]),(88,.box [.str (PL k 0).1,.str (PL k 0).2]),(91,.box [.str (MN k 0).1,.str (MN k 0).2]),(18,.arr .i64 (atK [e0] O (min k 1)))]) ?_ ?_ ?_
   ·simp only[zp,zm]
    exact V.wk
   ·exact jiF _
   intro k hk
   have hlat:=hal (min k 1)
   (conv=>whnf)
   refine V.st ?_
   refine V.br (fun h=>?_) (fun h=>?_)
   ·simp only[decide_eq_true_eq] at h
    have hk1:k<2:=by omega
    have hmin:min k 1=k:=by omega
    have hVl:(((V' k).length:Nat):Int)=1:=by rw[hV k hk1];rfl
    have e:(List.take 2 (List.drop (k*2) [.str (W 0).1,.str (W 0).2,.str (W 1).1,.str (W 1).2]):List D)=[.str (W k).1,.str (W k).2]:=jcD W 2 k hk1
    have gak:=fi k hk1
    have vlk:=vl k hk1
    have hPk:=hPD k
    have etk:List.take ([e0]:List Int).length (atK [e0] O k)=atK [e0] O k:=jjr (by rw[hal k];exact jiL _)
    rw[← etk] at gak
    have lek:=le k hk1
    have suk:=su k hk1
    have hbk:=hb k hk1
    rw[hmin] at hlat
    rw[hmin]
    (conv=>whnf)
    (try simp only[jh9])
    repeat ((first|refine V.s1 ?_|((try ((with_reducible refine .ext ?_);(conv=>whnf);(try simp only[jh9])));(with_reducible refine jaa (r:=?_) ?_ ?_);rotate_left;(focus (first|fail));(conv=>whnf))|((simp only[e]);(conv=>whnf)));(try simp only[jh9]))
    refine .inl ?_
    (conv=>whnf)
    refine⟨0,_,_,⟨Tryz.func20,rfl,rfl,jiE rfl⟩,?_⟩
    refine V.r1 jh9 ck ?_
    refine .len ?_
    (conv=>whnf)
    refine⟨18,?_⟩
    (conv=>whnf)
    refine jaa (r:=?_) ?_ ?_
    rotate_left
    (focus exact gak)
    refine V.r1 (V.a2 jh9 hVl) vlk ?_
    refine⟨Pq11z,[],V.pok,?_⟩
    refine jab [(140,.bool false)] [] ?_ ?_
    ·exact V.d2 (V.a2 jh9 hVl) zf lek
    refine V.r1 jh9 suk ?_
    refine jac (0:Nat) (fun i=>i≤1) (fun i=>1-i) (fun i=>[(146,.int .i64 (i:Nat))]) (fun i=>[(88,.box (wce (fun i=>PL (k+1) i) i++List.drop (2*i) (wce (fun i=>PL k i) 1)))]) ?_ ?_ ?_
    ·exact V.wk
    ·exact jiF _
    intro i hi
    have hi4:i=0∨i=1:=by omega
    rcases hi4 with e|e
    all_goals subst e
    ·simp only[k0]
     have c1:=af k 0 hk1 (by omega)
     have c2:=ta k 0 hk1 (by omega)
     have c3:=pa k 0 hk1 (by omega)
     have hbi:=hbk 0
     refine V.r0 jh9 ?_
     refine⟨Pq13z,[],V.pok,?_⟩
     refine jab [] [(88,.box [.str (PL (k+1) 0).1,.str (PL (k+1) 0).2])] ?_ ?_
     ·exact V.d3 jh9 c1 c2 c3
     refine V.r0 jh9 ?_
     exact⟨1,by omega,by omega,V.wk⟩
    ·simp only[k1]
     refine V.r0 jh9 ?_
     refine jac (0:Nat) (fun i=>i≤1) (fun i=>1-i) (fun i=>[(167,.int .i64 (i:Nat))]) (fun i=>[(91,.box (wce (fun i=>MN (k+1) i) i++List.drop (2*i) (wce (fun i=>MN k i) 1)))]) ?_ ?_ ?_
     ·exact V.wk
     ·exact jiF _
     intro i hi
     have hi4:i=0∨i=1:=by omega
     rcases hi4 with e|e
     all_goals subst e
     ·simp only[k0]
      have c1:=vf k 0 hk1 (by omega)
      have c2:=tv k 0 hk1 (by omega)
      have c3:=pm k 0 hk1 (by omega)
      refine V.r0 jh9 ?_
      refine⟨Pq13z,[],V.pok,?_⟩
      refine jab [] [(91,.box [.str (MN (k+1) 0).1,.str (MN (k+1) 0).2])] ?_ ?_
      ·exact V.d3 (V.a2 jh9 hVl) c1 c2 c3
      refine V.r0 jh9 ?_
      exact⟨1,by omega,by omega,V.wk⟩
     ·simp only[k1]
      refine V.r0 (V.a2 jh9 hOl) ?_
      refine V.br (fun h2=>?_) (fun h2=>?_)
      ·simp only[decide_eq_true_eq] at h2
       have hk2:k<1:=by omega
       have hqk:=hq k hk2
       have hbq:=hbk (O.getD k 0).toNat
       have eAt:(atK [e0] O k).set (O.getD k 0).toNat ((atK [e0] O k).getD (O.getD k 0).toNat 0+1)=atK [e0] O (min (k+1) 1):=by
        rw[show min (k+1) 1=k+1 by omega]
        rfl
       refine V.r0 jh9 ?_
       refine Cnd.split (CondB.mk (fun h=>absurd h (by rw[jiT,decide_eq_true_eq,decide_eq_true_eq];(try simp only[jjq,List.length_nil]);omega)) (fun _=>?_))
       refine V.r0 (V.a2 jh9 eAt) ?_
       exact⟨k+1,by omega,by omega,V.wk⟩
      ·simp only[decide_eq_false_iff_not] at h2
       have hm2:min (k+1) 1=k:=by omega
       refine V.r0 jh9 ?_
       refine⟨k+1,by omega,by omega,?_⟩
       simp only[hm2]
       exact V.wk
   ·simp only[decide_eq_false_iff_not] at h
    have hk1:k=2:=by omega
    subst hk1
    rw[show min 2 1=1 from rfl,hend]
    simp only[hy]
    refine V.r0 jh9 ?_
    refine jac (0:Nat) (fun i=>i≤1) (fun i=>1-i) (fun i=>[(216,.int .i64 (i:Nat))]) (fun _=>[]) ?_ ?_ ?_
    ·exact V.wk
    ·exact jiF _
    intro i hi
    have hi4:i=0∨i=1:=by omega
    rcases hi4 with e|e
    all_goals subst e
    ·simp only[k0]
     have c1:=xf 0 (by omega)
     have c2:=tx 0 (by omega)
     refine V.r0 jh9 ?_
     refine⟨Pq5z,[],V.pok,?_⟩
     refine jab [(247,.bool false)] [] ?_ ?_
     ·(conv=>whnf);(try simp only[jiB,decide_true,jiV,jjb,Bool.not_true,ne_eq,not_true_eq_false,decide_false,Bool.or_self])
      repeat' (first|exact V.wk|((with_reducible refine And.intro ?_ jay);(conv=>whnf);(try simp only[jiB,decide_true,jiV,jjb,Bool.not_true,ne_eq,not_true_eq_false,decide_false,Bool.or_self]))|((with_reducible first|refine jaq ?_ ?_|refine jau ?_ ?_)<;>(conv=>whnf);(try simp only[jiB,decide_true,jiV,jjb,Bool.not_true,ne_eq,not_true_eq_false,decide_false,Bool.or_self]))|((first|refine V.s1 ?_|((with_reducible refine jak ?_ ?_);(focus ((conv=>whnf);(try simp only[jiB,decide_true,jiV,jjb,Bool.not_true,ne_eq,not_true_eq_false,decide_false,Bool.or_self]);(repeat ((first|refine V.s1 ?_);(try simp only[jiB,decide_true,jiV,jjb,Bool.not_true,ne_eq,not_true_eq_false,decide_false,Bool.or_self])));exact⟨rfl⟩));(conv=>whnf))|((try ((with_reducible refine .ext ?_);(conv=>whnf);(try simp only[jiB,decide_true,jiV,jjb,Bool.not_true,ne_eq,not_true_eq_false,decide_false,Bool.or_self])));(with_reducible refine jaa (r:=?_) ?_ ?_);rotate_left;(focus (first|exact(c1)|exact(c2)));(conv=>whnf)));(try simp only[jiB,decide_true,jiV,jjb,Bool.not_true,ne_eq,not_true_eq_false,decide_false,Bool.or_self]))|(refine And.intro ?_ ?_<;>(conv=>whnf);(try simp only[jiB,decide_true,jiV,jjb,Bool.not_true,ne_eq,not_true_eq_false,decide_false,Bool.or_self])))
     refine V.r0 jh9 ?_
     exact⟨1,by omega,by omega,V.wk⟩
    ·simp only[k1]
     refine V.r0 jh9 ?_
     refine⟨Pq81z,[],V.pok,?_⟩
     refine jab [(4,.bool true),(15,.any),(91,.any),(102,.any),(165,.any),(170,.any),(172,.any),(184,.any)] [(91,.gone)] ?_ ?_
     ·exact V.d2 (V.a4 jiB @decide_true @jiV @jjb) o1 eq
     refine V.r0 jh9 ?_
     exact Fin.of rfl
theorem wdec12 (s:List UInt8):decide (s=s)=true:=by simp
def jgH:List Nd:=[⟨[0,3,6,8,9,10],[1,2,4,5],.ev (.cons 0 [1,2,4,5] (.goto 9) (.cons 3 [4,5] (.goto 6) (.cons 6 [1,2] (.goto 1) (.nil))))⟩,⟨[0,3,8,9,10],[1,2],.ev (.cons 0 [1,2] (.goto 4) (.cons 3 [] (.goto 2) (.nil)))⟩,⟨[0,8,9,10],[],.ev (.cons 0 [] (.goto 3) (.nil))⟩,⟨[8,9,10],[],.ev (.cons 8 [] (.take 9 (.take 10 (.done))) (.nil))⟩,⟨[3,8,9,10],[1,2],.ev (.cons 3 [] (.goto 3) (.cons 8 [1,2] (.goto 5) (.nil)))⟩,⟨[3,9,10],[1,2],.ev (.cons 3 [] (.take 9 (.take 10 (.done))) (.nil))⟩,⟨[0,6,8,9,10],[4,5],.ev (.cons 0 [4,5] (.goto 7) (.cons 6 [] (.goto 2) (.nil)))⟩,⟨[6,8,9,10],[4,5],.ev (.cons 6 [] (.goto 3) (.cons 8 [4,5] (.take 9 (.goto 8)) (.nil)))⟩,⟨[6,10],[4,5,9],.ev (.cons 6 [9] (.take 10 (.done)) (.nil))⟩,⟨[3,6,8,9,10],[1,2,4,5],.ev (.cons 3 [4,5] (.goto 7) (.cons 6 [1,2] (.goto 4) (.cons 8 [1,2,4,5] (.goto 10) (.nil))))⟩,⟨[3,6,9,10],[1,2,4,5],.ev (.cons 3 [4,5] (.take 9 (.goto 8)) (.cons 6 [1,2] (.goto 5) (.nil)))⟩,⟨[0,3,7,8,9,10],[1,2],.ev (.cons 0 [1,2] (.goto 14) (.cons 3 [] (.goto 12) (.cons 7 [1,2] (.goto 1) (.nil))))⟩,⟨[0,7,8,9,10],[],.ev (.cons 0 [] (.goto 13) (.cons 7 [] (.goto 2) (.nil)))⟩,⟨[7,8,9,10],[],.ev (.cons 7 [] (.goto 3) (.nil))⟩,⟨[3,7,8,9,10],[1,2],.ev (.cons 3 [] (.goto 13) (.cons 7 [1,2] (.goto 4) (.nil)))⟩,⟨[0,6,7,8,9,10],[4,5],.ev (.cons 0 [4,5] (.goto 16) (.cons 6 [] (.goto 12) (.cons 7 [4,5] (.goto 6) (.nil))))⟩,⟨[6,7,8,9,10],[4,5],.ev (.cons 6 [] (.goto 13) (.cons 7 [4,5] (.goto 7) (.nil)))⟩,⟨[3,6,7,8,9,10],[1,2,4,5],.ev (.cons 3 [4,5] (.goto 16) (.cons 6 [1,2] (.goto 14) (.cons 7 [1,2,4,5] (.goto 9) (.nil))))⟩]
theorem jh8:type_of% @jiK∧type_of% @jjB ∧ type_of% @jjC ∧ type_of% @jiI∧type_of% @tn0∧type_of% @tn1∧type_of% @tn2∧type_of% @tn3∧type_of% @xt4:=⟨@jiK,@jjB,@jjC,@jiI,@tn0,@tn1,@tn2,@tn3,@xt4⟩
theorem jiA:type_of% @jiK∧type_of% @jjB ∧ type_of% @jjC ∧ type_of% @jiI∧type_of% @tn0∧type_of% @tn1∧type_of% @tn2∧type_of% @tn3∧type_of% @wdec12∧type_of% @xt4:=⟨@jiK,@jjB,@jjC,@jiI,@tn0,@tn1,@tn2,@tn3,@wdec12,@xt4⟩
theorem jg7 (ds vals data O:List Int)(oo:Int)(sm:Bool)(at' z1 z2:Nat→Int)(b1 b2:Nat→Bool)(p1 p2:Nat→List Int)(s0:Nat)(e0:Int)(F0 F1:Nat→List D)(C W Y SU XF:Nat→Tx)(PL MN AF TA VF TV:Nat→Nat→Tx)(PD V':Nat→List Int)
  (hO:O.length=1) (hq:∀ k,k<1→0≤O.getD k 0∧O.getD k 0<1) (hb:∀ k,k<2 → ∀ i,0≤(atK [e0] O k).getD i 0∧(atK [e0] O k).getD i 0≤100) (hV:∀ k,k<2→(V' k).length=2) (hPD:∀ k,(PD k).length=4) (hs:(2≤s0∧s0≤9)) (hbb:(0≤e0∧e0≤9))
  (zp:∀ i,PL 0 i=SU 0) (zm:∀ i,MN 0 i=SU 0) (hend:atK [e0] O 1=[e0+1]) (hy:∀ j,MN 2 j=Y j)
  (wk:Cl 10 [] (.bool true))
  (gd:Cl 11 [.agg [.ints .u8 ds,.int .u8 oo,.ints .u16 vals,.bool sm]] (.agg [.ints .i64 [(s0:Int)],.int .i64 2,.ints .i64 data]))
  (co:Cl 13 [(colD at' z1 z2 b1 b2 p1 p2),.int .i64 1] (.agg [.slf 2 1 F0,.slf 2 1 F1,V.sl2 1 [.str (C 0).1,.str (C 0).2]]))
  (ce:Cl 17 [.agg [.ints .i64 [(s0:Int)],.int .i64 2,.ints .i64 data],V.sl2 1 [.str (C 0).1,.str (C 0).2]] (.tup [.ints .i64 [e0],.ints .i64 O,V.sl2 2 [.str (W 0).1,.str (W 0).2,.str (W 1).1,.str (W 1).2],.int .i64 0]))
  (ev:Cl 15 [.agg [.ints .i64 [(s0:Int)],.int .i64 2,.ints .i64 data],V.sl2 1 [.str (C 0).1,.str (C 0).2]] (.tup [V.sl2 2 [.str (Y 0).1,.str (Y 0).2,.str (Y 1).1,.str (Y 1).2],.int .i64 0]))
  (zf:Cl 18 [.int .i64 0,.int .i64 1] (.agg [.str (SU 0).1,.str (SU 0).2]))
  (ck:Cl 37 [.agg [.ints .i64 [(s0:Int)],.int .i64 2,.ints .i64 data]] (.int .i64 0))
  (fi:∀ k,k<2→Cl 47 [.agg [.ints .i64 [(s0:Int)],.int .i64 2,.ints .i64 data],.ints .i64 (atK [e0] O k)] (.tup [.iarr .i64 (PD k),.bool true]))
  (vl:∀ k,k<2→Cl 40 [.agg [.ints .i64 [(s0:Int)],.int .i64 2,.ints .i64 data],.iarr .i64 (PD k)] (.ints .i64 (V' k)))
  (le:∀ k,k<2→Cl 21 [.agg [.str (W k).1,.str (W k).2],.agg [.str (SU 0).1,.str (SU 0).2]] (.bool false))
  (su:∀ k,k<2→Cl 22 [.agg [.str (SU k).1,.str (SU k).2],.agg [.str (W k).1,.str (W k).2]] (.agg [.str (SU (k+1)).1,.str (SU (k+1)).2]))
  (af:∀ k i,k<2→i<1→Cl 18 [.int .i64 ((atK [e0] O k).getD i 0),.int .i64 1] (.agg [.str (AF k i).1,.str (AF k i).2]))
  (ta:∀ k i,k<2→i<1→Cl 23 [.agg [.str (W k).1,.str (W k).2],.agg [.str (AF k i).1,.str (AF k i).2]] (.agg [.str (TA k i).1,.str (TA k i).2]))
  (pa:∀ k i,k<2→i<1→Cl 22 [.agg [.str (PL k i).1,.str (PL k i).2],.agg [.str (TA k i).1,.str (TA k i).2]] (.agg [.str (PL (k+1) i).1,.str (PL (k+1) i).2]))
  (vf:∀ k i,k<2→i<2→Cl 18 [.int .i64 ((V' k).getD i 0),.int .i64 65535] (.agg [.str (VF k i).1,.str (VF k i).2]))
  (tv:∀ k i,k<2→i<2→Cl 23 [.agg [.str (W k).1,.str (W k).2],.agg [.str (VF k i).1,.str (VF k i).2]] (.agg [.str (TV k i).1,.str (TV k i).2]))
  (pm:∀ k i,k<2→i<2→Cl 22 [.agg [.str (MN k i).1,.str (MN k i).2],.agg [.str (TV k i).1,.str (TV k i).2]] (.agg [.str (MN (k+1) i).1,.str (MN (k+1) i).2]))
  (xf:∀ i,i<1→Cl 18 [.int .i64 (([(s0:Int)]:List Int).getD i 0-1),.int .i64 1] (.agg [.str (XF i).1,.str (XF i).2]))
  (tx:∀ i,i<1→Cl 23 [.agg [.str (C i).1,.str (C i).2],.agg [.str (XF i).1,.str (XF i).2]] (.agg [.str (PL 2 i).1,.str (PL 2 i).2]))
  (o1:Cl 18 [.int .i64 1,.int .i64 1] (.agg [.str (SU 2).1,.str (SU 2).2])) :
  Cl 4 [.agg [.ints .u8 ds,.int .u8 oo,.ints .u16 vals,.bool sm],(colD at' z1 z2 b1 b2 p1 p2)] (.bool true):=by
 have eq:=eqf2 Y
 have hOl:((O.length:Nat):Int)=1:=by rw[hO];rfl
 have hal:∀ k,(atK [e0] O k).length=1:=fun k=>by
  induction k with
  | zero=>rfl
  | succ k ih=>rw[atK,jjw,ih]
 refine V.en tbOk Tryz.func4 ?_
 refine V.r5 jh8 wk gd co ce ev ?_
 refine V.cnd_to [(5,.box 5 0),(6,V.sl2 1 [.str (C 0).1,.str (C 0).2]),(7,.ints .i64 [e0]),(8,.ints .i64 O),(9,V.sl2 2 [.str (W 0).1,.str (W 0).2,.str (W 1).1,.str (W 1).2]),(11,V.sl2 2 [.str (Y 0).1,.str (Y 0).2,.str (Y 1).1,.str (Y 1).2])] [(5,.box [.ints .i64 [(s0:Int)],.int .i64 2,.ints .i64 data])] (CondB.mk (fun h=>absurd h (by simp[hO])) (fun _=>?_)) ?_
 ·(conv=>whnf)
  exact V.wk
 refine V.r0 jh8 ?_
 refine⟨Pq82z,jgH,V.pok,?_⟩
 refine jbL [(14,.bsl 88 0 1 2),(15,.bsl 91 0 2 2),(13,.box 13 0),(88,.bsl 88 0 1 2),(91,.bsl 91 0 2 2)] [(13,.box [.str (SU 0).1,.str (SU 0).2]),(88,.box [.str [],.str []]),(91,.box [.str [],.str [],.str [],.str []])] [(0,[(85,.agg [.str (SU 0).1,.str (SU 0).2])],[]),(1,[(86,V.sl2 1 [.str (C 0).1,.str (C 0).2])],[]),(2,[(87,.int .i64 1)],[]),(3,[(88,.bsl 88 0 1 2)],[(88,.box [.str [],.str []])]),(4,[(89,.box 5 1)],[]),(5,[(90,.int .i64 2)],[]),(6,[(91,.bsl 91 0 2 2)],[(91,.box [.str [],.str [],.str [],.str []])]),(7,[(13,.box 13 0)],[(13,.box [.str [],.str []])]),(8,[],[(13,.box [.str (SU 0).1,.str (SU 0).2])]),(9,[(14,.bsl 88 0 1 2)],[]),(10,[(15,.bsl 91 0 2 2)],[])] ?_ ?_ ?_
 ·exact V.d1 jh8 zf
 ·exact V.d1 jh8 zf
 refine V.r0 jh8 ?_
 refine jac (0:Nat) (fun k=>k≤1) (fun k=>1-k) (fun k=>[(94,.int .i64 (k:Nat))]) (fun k=>[(88,.box (preD (2*k) [.str (SU 0).1,.str (SU 0).2]))]) ?_ ?_ ?_
 ·exact V.wk
 ·exact jiF _
 intro k hk
 have hk4:k=0∨k=1:=by omega
 rcases hk4 with e|e
 all_goals subst e
 ·simp only[k0]
  refine V.r1 jh8 zf ?_
  exact⟨1,by omega,by omega,V.wk⟩
 ·simp only[k1]
  refine V.r0 jh8 ?_
  refine jac (0:Nat) (fun k=>k≤2) (fun k=>2-k) (fun k=>[(104,.int .i64 (k:Nat))]) (fun k=>[(91,.box (preD (2*k) [.str (SU 0).1,.str (SU 0).2,.str (SU 0).1,.str (SU 0).2]))]) ?_ ?_ ?_
  ·exact V.wk
  ·exact jiF _
  intro k hk
  have hk4:k=0∨k=1∨k=2:=by omega
  rcases hk4 with e|e|e
  all_goals subst e
  ·simp only[k0]
   refine V.r1 jh8 zf ?_
   exact⟨1,by omega,by omega,V.wk⟩
  ·simp only[k1]
   refine V.r1 jh8 zf ?_
   exact⟨2,by omega,by omega,V.wk⟩
  ·simp only[k2]
   refine V.r0 jh8 ?_
   refine .inl ?_
   (conv=>whnf)
   refine⟨100,_,_,⟨Tryz.func19,rfl,rfl,jiE rfl⟩,?_⟩
   refine V.r0 jh8 ?_
   refine⟨fun h=>absurd (h rfl) (by simp),fun _=>?_⟩
   refine V.r0 jh8 ?_
   refine Lp.renSlot 365 18 18 1 (k := .i64) (xs:=[e0]) (by decide) (by decide) rfl rfl ?_
   (conv=>whnf)
   refine jac (0:Nat) (fun k=>k≤2) (fun k=>2-k) (fun k=>[(116,.int .i64 (k:Nat)),(113,.any)]) (fun k=>[(13,.box [.str (SU k).1,.str (SU k).2]),(88,.box [.str (PL k 0).1,.str (PL k 0).2]),(91,.box [.str (MN k 0).1,.str (MN k 0).2,.str (MN k 1).1,.str (MN k 1).2]),(18,.arr .i64 (atK [e0] O (min k 1)))]) ?_ ?_ ?_
   ·simp only[zp,zm]
    exact V.wk
   ·exact jiF _
   intro k hk
   have hlat:=hal (min k 1)
   (conv=>whnf)
   refine V.st ?_
   refine V.br (fun h=>?_) (fun h=>?_)
   ·simp only[decide_eq_true_eq] at h
    have hk1:k<2:=by omega
    have hmin:min k 1=k:=by omega
    have hVl:(((V' k).length:Nat):Int)=2:=by rw[hV k hk1];rfl
    have e:(List.take 2 (List.drop (k*2) [.str (W 0).1,.str (W 0).2,.str (W 1).1,.str (W 1).2]):List D)=[.str (W k).1,.str (W k).2]:=jcD W 2 k hk1
    have gak:=fi k hk1
    have vlk:=vl k hk1
    have hPk:=hPD k
    have etk:List.take ([e0]:List Int).length (atK [e0] O k)=atK [e0] O k:=jjr (by rw[hal k];exact jiL _)
    rw[← etk] at gak
    have lek:=le k hk1
    have suk:=su k hk1
    have hbk:=hb k hk1
    rw[hmin] at hlat
    rw[hmin]
    (conv=>whnf)
    (try simp only[jh8])
    repeat ((first|refine V.s1 ?_|((try ((with_reducible refine .ext ?_);(conv=>whnf);(try simp only[jh8])));(with_reducible refine jaa (r:=?_) ?_ ?_);rotate_left;(focus (first|fail));(conv=>whnf))|((simp only[e]);(conv=>whnf)));(try simp only[jh8]))
    refine .inl ?_
    (conv=>whnf)
    refine⟨0,_,_,⟨Tryz.func20,rfl,rfl,jiE rfl⟩,?_⟩
    refine V.r1 jh8 ck ?_
    refine .len ?_
    (conv=>whnf)
    refine⟨18,?_⟩
    (conv=>whnf)
    refine jaa (r:=?_) ?_ ?_
    rotate_left
    (focus exact gak)
    refine V.r1 (V.a2 jh8 hVl) vlk ?_
    refine⟨Pq11z,[],V.pok,?_⟩
    refine jab [(140,.bool false)] [] ?_ ?_
    ·exact V.d2 (V.a2 jh8 hVl) zf lek
    refine V.r1 jh8 suk ?_
    refine jac (0:Nat) (fun i=>i≤1) (fun i=>1-i) (fun i=>[(146,.int .i64 (i:Nat))]) (fun i=>[(88,.box (wce (fun i=>PL (k+1) i) i++List.drop (2*i) (wce (fun i=>PL k i) 1)))]) ?_ ?_ ?_
    ·exact V.wk
    ·exact jiF _
    intro i hi
    have hi4:i=0∨i=1:=by omega
    rcases hi4 with e|e
    all_goals subst e
    ·simp only[k0]
     have c1:=af k 0 hk1 (by omega)
     have c2:=ta k 0 hk1 (by omega)
     have c3:=pa k 0 hk1 (by omega)
     have hbi:=hbk 0
     refine V.r0 jh8 ?_
     refine⟨Pq13z,[],V.pok,?_⟩
     refine jab [] [(88,.box [.str (PL (k+1) 0).1,.str (PL (k+1) 0).2])] ?_ ?_
     ·exact V.d3 jh8 c1 c2 c3
     refine V.r0 jh8 ?_
     exact⟨1,by omega,by omega,V.wk⟩
    ·simp only[k1]
     refine V.r0 jh8 ?_
     refine jac (0:Nat) (fun i=>i≤2) (fun i=>2-i) (fun i=>[(167,.int .i64 (i:Nat))]) (fun i=>[(91,.box (wce (fun i=>MN (k+1) i) i++List.drop (2*i) (wce (fun i=>MN k i) 2)))]) ?_ ?_ ?_
     ·exact V.wk
     ·exact jiF _
     intro i hi
     have hi4:i=0∨i=1∨i=2:=by omega
     rcases hi4 with e|e|e
     all_goals subst e
     ·simp only[k0]
      have c1:=vf k 0 hk1 (by omega)
      have c2:=tv k 0 hk1 (by omega)
      have c3:=pm k 0 hk1 (by omega)
      refine V.r0 jh8 ?_
      refine⟨Pq13z,[],V.pok,?_⟩
      refine jab [] [(91,.box [.str (MN (k+1) 0).1,.str (MN (k+1) 0).2,.str (MN k 1).1,.str (MN k 1).2])] ?_ ?_
      ·exact V.d3 (V.a2 jh8 hVl) c1 c2 c3
      refine V.r0 jh8 ?_
      exact⟨1,by omega,by omega,V.wk⟩
     ·simp only[k1]
      have c1:=vf k 1 hk1 (by omega)
      have c2:=tv k 1 hk1 (by omega)
      have c3:=pm k 1 hk1 (by omega)
      refine V.r0 jh8 ?_
      refine⟨Pq13z,[],V.pok,?_⟩
      refine jab [] [(91,.box [.str (MN (k+1) 0).1,.str (MN (k+1) 0).2,.str (MN (k+1) 1).1,.str (MN (k+1) 1).2])] ?_ ?_
      ·exact V.d3 (V.a2 jh8 hVl) c1 c2 c3
      refine V.r0 jh8 ?_
      exact⟨2,by omega,by omega,V.wk⟩
     ·simp only[k2]
      refine V.r0 (V.a2 jh8 hOl) ?_
      refine V.br (fun h2=>?_) (fun h2=>?_)
      ·simp only[decide_eq_true_eq] at h2
       have hk2:k<1:=by omega
       have hqk:=hq k hk2
       have hbq:=hbk (O.getD k 0).toNat
       have eAt:(atK [e0] O k).set (O.getD k 0).toNat ((atK [e0] O k).getD (O.getD k 0).toNat 0+1)=atK [e0] O (min (k+1) 1):=by
        rw[show min (k+1) 1=k+1 by omega]
        rfl
       refine V.r0 jh8 ?_
       refine Cnd.split (CondB.mk (fun h=>absurd h (by rw[jiT,decide_eq_true_eq,decide_eq_true_eq];(try simp only[jjq,List.length_nil]);omega)) (fun _=>?_))
       refine V.r0 (V.a2 jh8 eAt) ?_
       exact⟨k+1,by omega,by omega,V.wk⟩
      ·simp only[decide_eq_false_iff_not] at h2
       have hm2:min (k+1) 1=k:=by omega
       refine V.r0 jh8 ?_
       refine⟨k+1,by omega,by omega,?_⟩
       simp only[hm2]
       exact V.wk
   ·simp only[decide_eq_false_iff_not] at h
    have hk1:k=2:=by omega
    subst hk1
    rw[show min 2 1=1 from rfl,hend]
    simp only[hy]
    refine V.r0 jh8 ?_
    refine jac (0:Nat) (fun i=>i≤1) (fun i=>1-i) (fun i=>[(216,.int .i64 (i:Nat))]) (fun _=>[]) ?_ ?_ ?_
    ·exact V.wk
    ·exact jiF _
    intro i hi
    have hi4:i=0∨i=1:=by omega
    rcases hi4 with e|e
    all_goals subst e
    ·simp only[k0]
     have c1:=xf 0 (by omega)
     have c2:=tx 0 (by omega)
     refine V.r0 jh8 ?_
     refine⟨Pq5z,[],V.pok,?_⟩
     refine jab [(247,.bool false)] [] ?_ ?_
     ·(conv=>whnf);(try simp only[jiA,decide_true,jiV,jjb,Bool.not_true,ne_eq,not_true_eq_false,decide_false,Bool.or_self])
      repeat' (first|exact V.wk|((with_reducible refine And.intro ?_ jay);(conv=>whnf);(try simp only[jiA,decide_true,jiV,jjb,Bool.not_true,ne_eq,not_true_eq_false,decide_false,Bool.or_self]))|((with_reducible first|refine jaq ?_ ?_|refine jau ?_ ?_)<;>(conv=>whnf);(try simp only[jiA,decide_true,jiV,jjb,Bool.not_true,ne_eq,not_true_eq_false,decide_false,Bool.or_self]))|((first|refine V.s1 ?_|((with_reducible refine jak ?_ ?_);(focus ((conv=>whnf);(try simp only[jiA,decide_true,jiV,jjb,Bool.not_true,ne_eq,not_true_eq_false,decide_false,Bool.or_self]);(repeat ((first|refine V.s1 ?_);(try simp only[jiA,decide_true,jiV,jjb,Bool.not_true,ne_eq,not_true_eq_false,decide_false,Bool.or_self])));exact⟨rfl⟩));(conv=>whnf))|((try ((with_reducible refine .ext ?_);(conv=>whnf);(try simp only[jiA,decide_true,jiV,jjb,Bool.not_true,ne_eq,not_true_eq_false,decide_false,Bool.or_self])));(with_reducible refine jaa (r:=?_) ?_ ?_);rotate_left;(focus (first|exact(c1)|exact(c2)));(conv=>whnf)));(try simp only[jiA,decide_true,jiV,jjb,Bool.not_true,ne_eq,not_true_eq_false,decide_false,Bool.or_self]))|(refine And.intro ?_ ?_<;>(conv=>whnf);(try simp only[jiA,decide_true,jiV,jjb,Bool.not_true,ne_eq,not_true_eq_false,decide_false,Bool.or_self])))
     refine V.r0 jh8 ?_
     exact⟨1,by omega,by omega,V.wk⟩
    ·simp only[k1]
     refine V.r0 jh8 ?_
     refine⟨Pq81z,[],V.pok,?_⟩
     refine jab [(4,.bool true),(15,.any),(91,.any),(102,.any),(165,.any),(170,.any),(172,.any),(184,.any)] [(91,.gone)] ?_ ?_
     ·exact V.d2 (V.a4 jiA @decide_true @jiV @jjb) o1 eq
     refine V.r0 jh8 ?_
     exact Fin.of rfl
theorem wdec13 (s:List UInt8):decide (s=s)=true:=by simp
def jgG:List Nd:=[⟨[0,3,6,8,9,10],[1,2,4,5],.ev (.cons 0 [1,2,4,5] (.goto 9) (.cons 3 [4,5] (.goto 6) (.cons 6 [1,2] (.goto 1) (.nil))))⟩,⟨[0,3,8,9,10],[1,2],.ev (.cons 0 [1,2] (.goto 4) (.cons 3 [] (.goto 2) (.nil)))⟩,⟨[0,8,9,10],[],.ev (.cons 0 [] (.goto 3) (.nil))⟩,⟨[8,9,10],[],.ev (.cons 8 [] (.take 9 (.take 10 (.done))) (.nil))⟩,⟨[3,8,9,10],[1,2],.ev (.cons 3 [] (.goto 3) (.cons 8 [1,2] (.goto 5) (.nil)))⟩,⟨[3,9,10],[1,2],.ev (.cons 3 [] (.take 9 (.take 10 (.done))) (.nil))⟩,⟨[0,6,8,9,10],[4,5],.ev (.cons 0 [4,5] (.goto 7) (.cons 6 [] (.goto 2) (.nil)))⟩,⟨[6,8,9,10],[4,5],.ev (.cons 6 [] (.goto 3) (.cons 8 [4,5] (.take 9 (.goto 8)) (.nil)))⟩,⟨[6,10],[4,5,9],.ev (.cons 6 [9] (.take 10 (.done)) (.nil))⟩,⟨[3,6,8,9,10],[1,2,4,5],.ev (.cons 3 [4,5] (.goto 7) (.cons 6 [1,2] (.goto 4) (.cons 8 [1,2,4,5] (.goto 10) (.nil))))⟩,⟨[3,6,9,10],[1,2,4,5],.ev (.cons 3 [4,5] (.take 9 (.goto 8)) (.cons 6 [1,2] (.goto 5) (.nil)))⟩,⟨[0,3,7,8,9,10],[1,2],.ev (.cons 0 [1,2] (.goto 14) (.cons 3 [] (.goto 12) (.cons 7 [1,2] (.goto 1) (.nil))))⟩,⟨[0,7,8,9,10],[],.ev (.cons 0 [] (.goto 13) (.cons 7 [] (.goto 2) (.nil)))⟩,⟨[7,8,9,10],[],.ev (.cons 7 [] (.goto 3) (.nil))⟩,⟨[3,7,8,9,10],[1,2],.ev (.cons 3 [] (.goto 13) (.cons 7 [1,2] (.goto 4) (.nil)))⟩,⟨[0,6,7,8,9,10],[4,5],.ev (.cons 0 [4,5] (.goto 16) (.cons 6 [] (.goto 12) (.cons 7 [4,5] (.goto 6) (.nil))))⟩,⟨[6,7,8,9,10],[4,5],.ev (.cons 6 [] (.goto 13) (.cons 7 [4,5] (.goto 7) (.nil)))⟩,⟨[3,6,7,8,9,10],[1,2,4,5],.ev (.cons 3 [4,5] (.goto 16) (.cons 6 [1,2] (.goto 14) (.cons 7 [1,2,4,5] (.goto 9) (.nil))))⟩]
theorem jh6:type_of% @jiK∧type_of% @jjB ∧ type_of% @jjC ∧ type_of% @jiI∧type_of% @tn0∧type_of% @tn1∧type_of% @tn2∧type_of% @tn3∧type_of% @xt4:=⟨@jiK,@jjB,@jjC,@jiI,@tn0,@tn1,@tn2,@tn3,@xt4⟩
theorem jiz:type_of% @jiK∧type_of% @jjB ∧ type_of% @jjC ∧ type_of% @jiI∧type_of% @tn0∧type_of% @tn1∧type_of% @tn2∧type_of% @tn3∧type_of% @wdec13∧type_of% @xt4:=⟨@jiK,@jjB,@jjC,@jiI,@tn0,@tn1,@tn2,@tn3,@wdec13,@xt4⟩
theorem jg6 (ds vals data O:List Int)(oo:Int)(sm:Bool)(at' z1 z2:Nat→Int)(b1 b2:Nat→Bool)(p1 p2:Nat→List Int)(s0:Nat)(e0:Int)(F0 F1:Nat→List D)(C W Y SU XF:Nat→Tx)(PL MN AF TA VF TV:Nat→Nat→Tx)(PD V':Nat→List Int)
  (hO:O.length=1) (hq:∀ k,k<1→0≤O.getD k 0∧O.getD k 0<1) (hb:∀ k,k<2 → ∀ i,0≤(atK [e0] O k).getD i 0∧(atK [e0] O k).getD i 0≤100) (hV:∀ k,k<2→(V' k).length=3) (hPD:∀ k,(PD k).length=4) (hs:(2≤s0∧s0≤9)) (hbb:(0≤e0∧e0≤9))
  (zp:∀ i,PL 0 i=SU 0) (zm:∀ i,MN 0 i=SU 0) (hend:atK [e0] O 1=[e0+1]) (hy:∀ j,MN 2 j=Y j)
  (wk:Cl 10 [] (.bool true))
  (gd:Cl 11 [.agg [.ints .u8 ds,.int .u8 oo,.ints .u16 vals,.bool sm]] (.agg [.ints .i64 [(s0:Int)],.int .i64 3,.ints .i64 data]))
  (co:Cl 13 [(colD at' z1 z2 b1 b2 p1 p2),.int .i64 1] (.agg [.slf 2 1 F0,.slf 2 1 F1,V.sl2 1 [.str (C 0).1,.str (C 0).2]]))
  (ce:Cl 17 [.agg [.ints .i64 [(s0:Int)],.int .i64 3,.ints .i64 data],V.sl2 1 [.str (C 0).1,.str (C 0).2]] (.tup [.ints .i64 [e0],.ints .i64 O,V.sl2 2 [.str (W 0).1,.str (W 0).2,.str (W 1).1,.str (W 1).2],.int .i64 0]))
  (ev:Cl 15 [.agg [.ints .i64 [(s0:Int)],.int .i64 3,.ints .i64 data],V.sl2 1 [.str (C 0).1,.str (C 0).2]] (.tup [V.sl2 3 [.str (Y 0).1,.str (Y 0).2,.str (Y 1).1,.str (Y 1).2,.str (Y 2).1,.str (Y 2).2],.int .i64 0]))
  (zf:Cl 18 [.int .i64 0,.int .i64 1] (.agg [.str (SU 0).1,.str (SU 0).2]))
  (ck:Cl 37 [.agg [.ints .i64 [(s0:Int)],.int .i64 3,.ints .i64 data]] (.int .i64 0))
  (fi:∀ k,k<2→Cl 47 [.agg [.ints .i64 [(s0:Int)],.int .i64 3,.ints .i64 data],.ints .i64 (atK [e0] O k)] (.tup [.iarr .i64 (PD k),.bool true]))
  (vl:∀ k,k<2→Cl 40 [.agg [.ints .i64 [(s0:Int)],.int .i64 3,.ints .i64 data],.iarr .i64 (PD k)] (.ints .i64 (V' k)))
  (le:∀ k,k<2→Cl 21 [.agg [.str (W k).1,.str (W k).2],.agg [.str (SU 0).1,.str (SU 0).2]] (.bool false))
  (su:∀ k,k<2→Cl 22 [.agg [.str (SU k).1,.str (SU k).2],.agg [.str (W k).1,.str (W k).2]] (.agg [.str (SU (k+1)).1,.str (SU (k+1)).2]))
  (af:∀ k i,k<2→i<1→Cl 18 [.int .i64 ((atK [e0] O k).getD i 0),.int .i64 1] (.agg [.str (AF k i).1,.str (AF k i).2]))
  (ta:∀ k i,k<2→i<1→Cl 23 [.agg [.str (W k).1,.str (W k).2],.agg [.str (AF k i).1,.str (AF k i).2]] (.agg [.str (TA k i).1,.str (TA k i).2]))
  (pa:∀ k i,k<2→i<1→Cl 22 [.agg [.str (PL k i).1,.str (PL k i).2],.agg [.str (TA k i).1,.str (TA k i).2]] (.agg [.str (PL (k+1) i).1,.str (PL (k+1) i).2]))
  (vf:∀ k i,k<2→i<3→Cl 18 [.int .i64 ((V' k).getD i 0),.int .i64 65535] (.agg [.str (VF k i).1,.str (VF k i).2]))
  (tv:∀ k i,k<2→i<3→Cl 23 [.agg [.str (W k).1,.str (W k).2],.agg [.str (VF k i).1,.str (VF k i).2]] (.agg [.str (TV k i).1,.str (TV k i).2]))
  (pm:∀ k i,k<2→i<3→Cl 22 [.agg [.str (MN k i).1,.str (MN k i).2],.agg [.str (TV k i).1,.str (TV k i).2]] (.agg [.str (MN (k+1) i).1,.str (MN (k+1) i).2]))
  (xf:∀ i,i<1→Cl 18 [.int .i64 (([(s0:Int)]:List Int).getD i 0-1),.int .i64 1] (.agg [.str (XF i).1,.str (XF i).2]))
  (tx:∀ i,i<1→Cl 23 [.agg [.str (C i).1,.str (C i).2],.agg [.str (XF i).1,.str (XF i).2]] (.agg [.str (PL 2 i).1,.str (PL 2 i).2]))
  (o1:Cl 18 [.int .i64 1,.int .i64 1] (.agg [.str (SU 2).1,.str (SU 2).2])) :
  Cl 4 [.agg [.ints .u8 ds,.int .u8 oo,.ints .u16 vals,.bool sm],(colD at' z1 z2 b1 b2 p1 p2)] (.bool true):=by
 have eq:=eqf3 Y
 have hOl:((O.length:Nat):Int)=1:=by rw[hO];rfl
 have hal:∀ k,(atK [e0] O k).length=1:=fun k=>by
  induction k with
  | zero=>rfl
  | succ k ih=>rw[atK,jjw,ih]
 refine V.en tbOk Tryz.func4 ?_
 refine V.r5 jh6 wk gd co ce ev ?_
 refine V.cnd_to [(5,.box 5 0),(6,V.sl2 1 [.str (C 0).1,.str (C 0).2]),(7,.ints .i64 [e0]),(8,.ints .i64 O),(9,V.sl2 2 [.str (W 0).1,.str (W 0).2,.str (W 1).1,.str (W 1).2]),(11,V.sl2 3 [.str (Y 0).1,.str (Y 0).2,.str (Y 1).1,.str (Y 1).2,.str (Y 2).1,.str (Y 2).2])] [(5,.box [.ints .i64 [(s0:Int)],.int .i64 3,.ints .i64 data])] (CondB.mk (fun h=>absurd h (by simp[hO])) (fun _=>?_)) ?_
 ·(conv=>whnf)
  exact V.wk
 refine V.r0 jh6 ?_
 refine⟨Pq82z,jgG,V.pok,?_⟩
 refine jbL [(14,.bsl 88 0 1 2),(15,.bsl 91 0 3 2),(13,.box 13 0),(88,.bsl 88 0 1 2),(91,.bsl 91 0 3 2)] [(13,.box [.str (SU 0).1,.str (SU 0).2]),(88,.box [.str [],.str []]),(91,.box [.str [],.str [],.str [],.str [],.str [],.str []])] [(0,[(85,.agg [.str (SU 0).1,.str (SU 0).2])],[]),(1,[(86,V.sl2 1 [.str (C 0).1,.str (C 0).2])],[]),(2,[(87,.int .i64 1)],[]),(3,[(88,.bsl 88 0 1 2)],[(88,.box [.str [],.str []])]),(4,[(89,.box 5 1)],[]),(5,[(90,.int .i64 3)],[]),(6,[(91,.bsl 91 0 3 2)],[(91,.box [.str [],.str [],.str [],.str [],.str [],.str []])]),(7,[(13,.box 13 0)],[(13,.box [.str [],.str []])]),(8,[],[(13,.box [.str (SU 0).1,.str (SU 0).2])]),(9,[(14,.bsl 88 0 1 2)],[]),(10,[(15,.bsl 91 0 3 2)],[])] ?_ ?_ ?_
 ·exact V.d1 jh6 zf
 ·exact V.d1 jh6 zf
 refine V.r0 jh6 ?_
 refine jac (0:Nat) (fun k=>k≤1) (fun k=>1-k) (fun k=>[(94,.int .i64 (k:Nat))]) (fun k=>[(88,.box (preD (2*k) [.str (SU 0).1,.str (SU 0).2]))]) ?_ ?_ ?_
 ·exact V.wk
 ·exact jiF _
 intro k hk
 have hk4:k=0∨k=1:=by omega
 rcases hk4 with e|e
 all_goals subst e
 ·simp only[k0]
  refine V.r1 jh6 zf ?_
  exact⟨1,by omega,by omega,V.wk⟩
 ·simp only[k1]
  refine V.r0 jh6 ?_
  refine jac (0:Nat) (fun k=>k≤3) (fun k=>3-k) (fun k=>[(104,.int .i64 (k:Nat))]) (fun k=>[(91,.box (preD (2*k) [.str (SU 0).1,.str (SU 0).2,.str (SU 0).1,.str (SU 0).2,.str (SU 0).1,.str (SU 0).2]))]) ?_ ?_ ?_
  ·exact V.wk
  ·exact jiF _
  intro k hk
  have hk4:k=0∨k=1∨k=2∨k=3:=by omega
  rcases hk4 with e|e|e|e
  all_goals subst e
  ·simp only[k0]
   refine V.r1 jh6 zf ?_
   exact⟨1,by omega,by omega,V.wk⟩
  ·simp only[k1]
   refine V.r1 jh6 zf ?_
   exact⟨2,by omega,by omega,V.wk⟩
  ·simp only[k2]
   refine V.r1 jh6 zf ?_
   exact⟨3,by omega,by omega,V.wk⟩
  ·simp only[k3]
   refine V.r0 jh6 ?_
   refine .inl ?_
   (conv=>whnf)
   refine⟨100,_,_,⟨Tryz.func19,rfl,rfl,jiE rfl⟩,?_⟩
   refine V.r0 jh6 ?_
   refine⟨fun h=>absurd (h rfl) (by simp),fun _=>?_⟩
   refine V.r0 jh6 ?_
   refine Lp.renSlot 365 18 18 1 (k := .i64) (xs:=[e0]) (by decide) (by decide) rfl rfl ?_
   (conv=>whnf)
   refine jac (0:Nat) (fun k=>k≤2) (fun k=>2-k) (fun k=>[(116,.int .i64 (k:Nat)),(113,.any)]) (fun k=>[(13,.box [.str (SU k).1,.str (SU k).2]),(88,.box [.str (PL k 0).1,.str (PL k 0).2]),(91,.box [.str (MN k 0).1,.str (MN k 0).2,.str (MN k 1).1,.str (MN k 1).2,.str (MN k 2).1,.str (MN k 2).2]),(18,.arr .i64 (atK [e0] O (min k 1)))]) ?_ ?_ ?_
   ·simp only[zp,zm]
    exact V.wk
   ·exact jiF _
   intro k hk
   have hlat:=hal (min k 1)
   (conv=>whnf)
   refine V.st ?_
   refine V.br (fun h=>?_) (fun h=>?_)
   ·simp only[decide_eq_true_eq] at h
    have hk1:k<2:=by omega
    have hmin:min k 1=k:=by omega
    have hVl:(((V' k).length:Nat):Int)=3:=by rw[hV k hk1];rfl
    have e:(List.take 2 (List.drop (k*2) [.str (W 0).1,.str (W 0).2,.str (W 1).1,.str (W 1).2]):List D)=[.str (W k).1,.str (W k).2]:=jcD W 2 k hk1
    have gak:=fi k hk1
    have vlk:=vl k hk1
    have hPk:=hPD k
    have etk:List.take ([e0]:List Int).length (atK [e0] O k)=atK [e0] O k:=jjr (by rw[hal k];exact jiL _)
    rw[← etk] at gak
    have lek:=le k hk1
    have suk:=su k hk1
    have hbk:=hb k hk1
    rw[hmin] at hlat
    rw[hmin]
    (conv=>whnf)
    (try simp only[jh6])
    repeat ((first|refine V.s1 ?_|((try ((with_reducible refine .ext ?_);(conv=>whnf);(try simp only[jh6])));(with_reducible refine jaa (r:=?_) ?_ ?_);rotate_left;(focus (first|fail));(conv=>whnf))|((simp only[e]);(conv=>whnf)));(try simp only[jh6]))
    refine .inl ?_
    (conv=>whnf)
    refine⟨0,_,_,⟨Tryz.func20,rfl,rfl,jiE rfl⟩,?_⟩
    refine V.r1 jh6 ck ?_
    refine .len ?_
    (conv=>whnf)
    refine⟨18,?_⟩
    (conv=>whnf)
    refine jaa (r:=?_) ?_ ?_
    rotate_left
    (focus exact gak)
    refine V.r1 (V.a2 jh6 hVl) vlk ?_
    refine⟨Pq11z,[],V.pok,?_⟩
    refine jab [(140,.bool false)] [] ?_ ?_
    ·exact V.d2 (V.a2 jh6 hVl) zf lek
    refine V.r1 jh6 suk ?_
    refine jac (0:Nat) (fun i=>i≤1) (fun i=>1-i) (fun i=>[(146,.int .i64 (i:Nat))]) (fun i=>[(88,.box (wce (fun i=>PL (k+1) i) i++List.drop (2*i) (wce (fun i=>PL k i) 1)))]) ?_ ?_ ?_
    ·exact V.wk
    ·exact jiF _
    intro i hi
    have hi4:i=0∨i=1:=by omega
    rcases hi4 with e|e
    all_goals subst e
    ·simp only[k0]
     have c1:=af k 0 hk1 (by omega)
     have c2:=ta k 0 hk1 (by omega)
     have c3:=pa k 0 hk1 (by omega)
     have hbi:=hbk 0
     refine V.r0 jh6 ?_
     refine⟨Pq13z,[],V.pok,?_⟩
     refine jab [] [(88,.box [.str (PL (k+1) 0).1,.str (PL (k+1) 0).2])] ?_ ?_
     ·exact V.d3 jh6 c1 c2 c3
     refine V.r0 jh6 ?_
     exact⟨1,by omega,by omega,V.wk⟩
    ·simp only[k1]
     refine V.r0 jh6 ?_
     refine jac (0:Nat) (fun i=>i≤3) (fun i=>3-i) (fun i=>[(167,.int .i64 (i:Nat))]) (fun i=>[(91,.box (wce (fun i=>MN (k+1) i) i++List.drop (2*i) (wce (fun i=>MN k i) 3)))]) ?_ ?_ ?_
     ·exact V.wk
     ·exact jiF _
     intro i hi
     have hi4:i=0∨i=1∨i=2∨i=3:=by omega
     rcases hi4 with e|e|e|e
     all_goals subst e
     ·simp only[k0]
      have c1:=vf k 0 hk1 (by omega)
      have c2:=tv k 0 hk1 (by omega)
      have c3:=pm k 0 hk1 (by omega)
      refine V.r0 jh6 ?_
      refine⟨Pq13z,[],V.pok,?_⟩
      refine jab [] [(91,.box [.str (MN (k+1) 0).1,.str (MN (k+1) 0).2,.str (MN k 1).1,.str (MN k 1).2,.str (MN k 2).1,.str (MN k 2).2])] ?_ ?_
      ·exact V.d3 (V.a2 jh6 hVl) c1 c2 c3
      refine V.r0 jh6 ?_
      exact⟨1,by omega,by omega,V.wk⟩
     ·simp only[k1]
      have c1:=vf k 1 hk1 (by omega)
      have c2:=tv k 1 hk1 (by omega)
      have c3:=pm k 1 hk1 (by omega)
      refine V.r0 jh6 ?_
      refine⟨Pq13z,[],V.pok,?_⟩
      refine jab [] [(91,.box [.str (MN (k+1) 0).1,.str (MN (k+1) 0).2,.str (MN (k+1) 1).1,.str (MN (k+1) 1).2,.str (MN k 2).1,.str (MN k 2).2])] ?_ ?_
      ·exact V.d3 (V.a2 jh6 hVl) c1 c2 c3
      refine V.r0 jh6 ?_
      exact⟨2,by omega,by omega,V.wk⟩
     ·simp only[k2]
      have c1:=vf k 2 hk1 (by omega)
      have c2:=tv k 2 hk1 (by omega)
      have c3:=pm k 2 hk1 (by omega)
      refine V.r0 jh6 ?_
      refine⟨Pq13z,[],V.pok,?_⟩
      refine jab [] [(91,.box [.str (MN (k+1) 0).1,.str (MN (k+1) 0).2,.str (MN (k+1) 1).1,.str (MN (k+1) 1).2,.str (MN (k+1) 2).1,.str (MN (k+1) 2).2])] ?_ ?_
      ·exact V.d3 (V.a2 jh6 hVl) c1 c2 c3
      refine V.r0 jh6 ?_
      exact⟨3,by omega,by omega,V.wk⟩
     ·simp only[k3]
      refine V.r0 (V.a2 jh6 hOl) ?_
      refine V.br (fun h2=>?_) (fun h2=>?_)
      ·simp only[decide_eq_true_eq] at h2
       have hk2:k<1:=by omega
       have hqk:=hq k hk2
       have hbq:=hbk (O.getD k 0).toNat
       have eAt:(atK [e0] O k).set (O.getD k 0).toNat ((atK [e0] O k).getD (O.getD k 0).toNat 0+1)=atK [e0] O (min (k+1) 1):=by
        rw[show min (k+1) 1=k+1 by omega]
        rfl
       refine V.r0 jh6 ?_
       refine Cnd.split (CondB.mk (fun h=>absurd h (by rw[jiT,decide_eq_true_eq,decide_eq_true_eq];(try simp only[jjq,List.length_nil]);omega)) (fun _=>?_))
       refine V.r0 (V.a2 jh6 eAt) ?_
       exact⟨k+1,by omega,by omega,V.wk⟩
      ·simp only[decide_eq_false_iff_not] at h2
       have hm2:min (k+1) 1=k:=by omega
       refine V.r0 jh6 ?_
       refine⟨k+1,by omega,by omega,?_⟩
       simp only[hm2]
       exact V.wk
   ·simp only[decide_eq_false_iff_not] at h
    have hk1:k=2:=by omega
    subst hk1
    rw[show min 2 1=1 from rfl,hend]
    simp only[hy]
    refine V.r0 jh6 ?_
    refine jac (0:Nat) (fun i=>i≤1) (fun i=>1-i) (fun i=>[(216,.int .i64 (i:Nat))]) (fun _=>[]) ?_ ?_ ?_
    ·exact V.wk
    ·exact jiF _
    intro i hi
    have hi4:i=0∨i=1:=by omega
    rcases hi4 with e|e
    all_goals subst e
    ·simp only[k0]
     have c1:=xf 0 (by omega)
     have c2:=tx 0 (by omega)
     refine V.r0 jh6 ?_
     refine⟨Pq5z,[],V.pok,?_⟩
     refine jab [(247,.bool false)] [] ?_ ?_
     ·(conv=>whnf);(try simp only[jiz,decide_true,jiV,jjb,Bool.not_true,ne_eq,not_true_eq_false,decide_false,Bool.or_self])
      repeat' (first|exact V.wk|((with_reducible refine And.intro ?_ jay);(conv=>whnf);(try simp only[jiz,decide_true,jiV,jjb,Bool.not_true,ne_eq,not_true_eq_false,decide_false,Bool.or_self]))|((with_reducible first|refine jaq ?_ ?_|refine jau ?_ ?_)<;>(conv=>whnf);(try simp only[jiz,decide_true,jiV,jjb,Bool.not_true,ne_eq,not_true_eq_false,decide_false,Bool.or_self]))|((first|refine V.s1 ?_|((with_reducible refine jak ?_ ?_);(focus ((conv=>whnf);(try simp only[jiz,decide_true,jiV,jjb,Bool.not_true,ne_eq,not_true_eq_false,decide_false,Bool.or_self]);(repeat ((first|refine V.s1 ?_);(try simp only[jiz,decide_true,jiV,jjb,Bool.not_true,ne_eq,not_true_eq_false,decide_false,Bool.or_self])));exact⟨rfl⟩));(conv=>whnf))|((try ((with_reducible refine .ext ?_);(conv=>whnf);(try simp only[jiz,decide_true,jiV,jjb,Bool.not_true,ne_eq,not_true_eq_false,decide_false,Bool.or_self])));(with_reducible refine jaa (r:=?_) ?_ ?_);rotate_left;(focus (first|exact(c1)|exact(c2)));(conv=>whnf)));(try simp only[jiz,decide_true,jiV,jjb,Bool.not_true,ne_eq,not_true_eq_false,decide_false,Bool.or_self]))|(refine And.intro ?_ ?_<;>(conv=>whnf);(try simp only[jiz,decide_true,jiV,jjb,Bool.not_true,ne_eq,not_true_eq_false,decide_false,Bool.or_self])))
     refine V.r0 jh6 ?_
     exact⟨1,by omega,by omega,V.wk⟩
    ·simp only[k1]
     refine V.r0 jh6 ?_
     refine⟨Pq81z,[],V.pok,?_⟩
     refine jab [(4,.bool true),(15,.any),(91,.any),(102,.any),(165,.any),(170,.any),(172,.any),(184,.any)] [(91,.gone)] ?_ ?_
     ·exact V.d2 (V.a4 jiz @decide_true @jiV @jjb) o1 eq
     refine V.r0 jh6 ?_
     exact Fin.of rfl
theorem wdec21 (s:List UInt8):decide (s=s)=true:=by simp
def jgF:List Nd:=[⟨[0,3,6,8,9,10],[1,2,4,5],.ev (.cons 0 [1,2,4,5] (.goto 9) (.cons 3 [4,5] (.goto 6) (.cons 6 [1,2] (.goto 1) (.nil))))⟩,⟨[0,3,8,9,10],[1,2],.ev (.cons 0 [1,2] (.goto 4) (.cons 3 [] (.goto 2) (.nil)))⟩,⟨[0,8,9,10],[],.ev (.cons 0 [] (.goto 3) (.nil))⟩,⟨[8,9,10],[],.ev (.cons 8 [] (.take 9 (.take 10 (.done))) (.nil))⟩,⟨[3,8,9,10],[1,2],.ev (.cons 3 [] (.goto 3) (.cons 8 [1,2] (.goto 5) (.nil)))⟩,⟨[3,9,10],[1,2],.ev (.cons 3 [] (.take 9 (.take 10 (.done))) (.nil))⟩,⟨[0,6,8,9,10],[4,5],.ev (.cons 0 [4,5] (.goto 7) (.cons 6 [] (.goto 2) (.nil)))⟩,⟨[6,8,9,10],[4,5],.ev (.cons 6 [] (.goto 3) (.cons 8 [4,5] (.take 9 (.goto 8)) (.nil)))⟩,⟨[6,10],[4,5,9],.ev (.cons 6 [9] (.take 10 (.done)) (.nil))⟩,⟨[3,6,8,9,10],[1,2,4,5],.ev (.cons 3 [4,5] (.goto 7) (.cons 6 [1,2] (.goto 4) (.cons 8 [1,2,4,5] (.goto 10) (.nil))))⟩,⟨[3,6,9,10],[1,2,4,5],.ev (.cons 3 [4,5] (.take 9 (.goto 8)) (.cons 6 [1,2] (.goto 5) (.nil)))⟩,⟨[0,3,7,8,9,10],[1,2],.ev (.cons 0 [1,2] (.goto 14) (.cons 3 [] (.goto 12) (.cons 7 [1,2] (.goto 1) (.nil))))⟩,⟨[0,7,8,9,10],[],.ev (.cons 0 [] (.goto 13) (.cons 7 [] (.goto 2) (.nil)))⟩,⟨[7,8,9,10],[],.ev (.cons 7 [] (.goto 3) (.nil))⟩,⟨[3,7,8,9,10],[1,2],.ev (.cons 3 [] (.goto 13) (.cons 7 [1,2] (.goto 4) (.nil)))⟩,⟨[0,6,7,8,9,10],[4,5],.ev (.cons 0 [4,5] (.goto 16) (.cons 6 [] (.goto 12) (.cons 7 [4,5] (.goto 6) (.nil))))⟩,⟨[6,7,8,9,10],[4,5],.ev (.cons 6 [] (.goto 13) (.cons 7 [4,5] (.goto 7) (.nil)))⟩,⟨[3,6,7,8,9,10],[1,2,4,5],.ev (.cons 3 [4,5] (.goto 16) (.cons 6 [1,2] (.goto 14) (.cons 7 [1,2,4,5] (.goto 9) (.nil))))⟩]
theorem jh7:type_of% @jiK∧type_of% @jjB ∧ type_of% @jjC ∧ type_of% @jiI∧type_of% @tn0∧type_of% @tn1∧type_of% @tn2∧type_of% @tn3∧type_of% @xt4:=⟨@jiK,@jjB,@jjC,@jiI,@tn0,@tn1,@tn2,@tn3,@xt4⟩
theorem jiy:type_of% @jiK∧type_of% @jjB ∧ type_of% @jjC ∧ type_of% @jiI∧type_of% @tn0∧type_of% @tn1∧type_of% @tn2∧type_of% @tn3∧type_of% @wdec21∧type_of% @xt4:=⟨@jiK,@jjB,@jjC,@jiI,@tn0,@tn1,@tn2,@tn3,@wdec21,@xt4⟩
theorem jg5 (ds vals data O:List Int)(oo:Int)(sm:Bool)(at' z1 z2:Nat→Int)(b1 b2:Nat→Bool)(p1 p2:Nat→List Int)(s0 s1:Nat)(e0 e1:Int)(F0 F1:Nat→List D)(C W Y SU XF:Nat→Tx)(PL MN AF TA VF TV:Nat→Nat→Tx)(PD V':Nat→List Int)
  (hO:O.length=2) (hq:∀ k,k<2→0≤O.getD k 0∧O.getD k 0<2) (hb:∀ k,k<3 → ∀ i,0≤(atK [e0,e1] O k).getD i 0∧(atK [e0,e1] O k).getD i 0≤100) (hV:∀ k,k<3→(V' k).length=1) (hPD:∀ k,(PD k).length=4) (hs:(2≤s0∧s0≤9)∧(2≤s1∧s1≤9)) (hbb:(0≤e0∧e0≤9)∧(0≤e1∧e1≤9))
  (zp:∀ i,PL 0 i=SU 0) (zm:∀ i,MN 0 i=SU 0) (hend:atK [e0,e1] O 2=[e0+1,e1+1]) (hy:∀ j,MN 3 j=Y j)
  (wk:Cl 10 [] (.bool true))
  (gd:Cl 11 [.agg [.ints .u8 ds,.int .u8 oo,.ints .u16 vals,.bool sm]] (.agg [.ints .i64 [(s0:Int),(s1:Int)],.int .i64 1,.ints .i64 data]))
  (co:Cl 13 [(colD at' z1 z2 b1 b2 p1 p2),.int .i64 2] (.agg [.slf 2 2 F0,.slf 2 2 F1,V.sl2 2 [.str (C 0).1,.str (C 0).2,.str (C 1).1,.str (C 1).2]]))
  (ce:Cl 17 [.agg [.ints .i64 [(s0:Int),(s1:Int)],.int .i64 1,.ints .i64 data],V.sl2 2 [.str (C 0).1,.str (C 0).2,.str (C 1).1,.str (C 1).2]] (.tup [.ints .i64 [e0,e1],.ints .i64 O,V.sl2 3 [.str (W 0).1,.str (W 0).2,.str (W 1).1,.str (W 1).2,.str (W 2).1,.str (W 2).2],.int .i64 0]))
  (ev:Cl 15 [.agg [.ints .i64 [(s0:Int),(s1:Int)],.int .i64 1,.ints .i64 data],V.sl2 2 [.str (C 0).1,.str (C 0).2,.str (C 1).1,.str (C 1).2]] (.tup [V.sl2 1 [.str (Y 0).1,.str (Y 0).2],.int .i64 0]))
  (zf:Cl 18 [.int .i64 0,.int .i64 1] (.agg [.str (SU 0).1,.str (SU 0).2]))
  (ck:Cl 37 [.agg [.ints .i64 [(s0:Int),(s1:Int)],.int .i64 1,.ints .i64 data]] (.int .i64 0))
  (fi:∀ k,k<3→Cl 47 [.agg [.ints .i64 [(s0:Int),(s1:Int)],.int .i64 1,.ints .i64 data],.ints .i64 (atK [e0,e1] O k)] (.tup [.iarr .i64 (PD k),.bool true]))
  (vl:∀ k,k<3→Cl 40 [.agg [.ints .i64 [(s0:Int),(s1:Int)],.int .i64 1,.ints .i64 data],.iarr .i64 (PD k)] (.ints .i64 (V' k)))
  (le:∀ k,k<3→Cl 21 [.agg [.str (W k).1,.str (W k).2],.agg [.str (SU 0).1,.str (SU 0).2]] (.bool false))
  (su:∀ k,k<3→Cl 22 [.agg [.str (SU k).1,.str (SU k).2],.agg [.str (W k).1,.str (W k).2]] (.agg [.str (SU (k+1)).1,.str (SU (k+1)).2]))
  (af:∀ k i,k<3→i<2→Cl 18 [.int .i64 ((atK [e0,e1] O k).getD i 0),.int .i64 1] (.agg [.str (AF k i).1,.str (AF k i).2]))
  (ta:∀ k i,k<3→i<2→Cl 23 [.agg [.str (W k).1,.str (W k).2],.agg [.str (AF k i).1,.str (AF k i).2]] (.agg [.str (TA k i).1,.str (TA k i).2]))
  (pa:∀ k i,k<3→i<2→Cl 22 [.agg [.str (PL k i).1,.str (PL k i).2],.agg [.str (TA k i).1,.str (TA k i).2]] (.agg [.str (PL (k+1) i).1,.str (PL (k+1) i).2]))
  (vf:∀ k i,k<3→i<1→Cl 18 [.int .i64 ((V' k).getD i 0),.int .i64 65535] (.agg [.str (VF k i).1,.str (VF k i).2]))
  (tv:∀ k i,k<3→i<1→Cl 23 [.agg [.str (W k).1,.str (W k).2],.agg [.str (VF k i).1,.str (VF k i).2]] (.agg [.str (TV k i).1,.str (TV k i).2]))
  (pm:∀ k i,k<3→i<1→Cl 22 [.agg [.str (MN k i).1,.str (MN k i).2],.agg [.str (TV k i).1,.str (TV k i).2]] (.agg [.str (MN (k+1) i).1,.str (MN (k+1) i).2]))
  (xf:∀ i,i<2→Cl 18 [.int .i64 (([(s0:Int),(s1:Int)]:List Int).getD i 0-1),.int .i64 1] (.agg [.str (XF i).1,.str (XF i).2]))
  (tx:∀ i,i<2→Cl 23 [.agg [.str (C i).1,.str (C i).2],.agg [.str (XF i).1,.str (XF i).2]] (.agg [.str (PL 3 i).1,.str (PL 3 i).2]))
  (o1:Cl 18 [.int .i64 1,.int .i64 1] (.agg [.str (SU 3).1,.str (SU 3).2])) :
  Cl 4 [.agg [.ints .u8 ds,.int .u8 oo,.ints .u16 vals,.bool sm],(colD at' z1 z2 b1 b2 p1 p2)] (.bool true):=by
 have eq:=eqf1 Y
 have hOl:((O.length:Nat):Int)=2:=by rw[hO];rfl
 have hal:∀ k,(atK [e0,e1] O k).length=2:=fun k=>by
  induction k with
  | zero=>rfl
  | succ k ih=>rw[atK,jjw,ih]
 refine V.en tbOk Tryz.func4 ?_
 refine V.r5 jh7 wk gd co ce ev ?_
 refine V.cnd_to [(5,.box 5 0),(6,V.sl2 2 [.str (C 0).1,.str (C 0).2,.str (C 1).1,.str (C 1).2]),(7,.ints .i64 [e0,e1]),(8,.ints .i64 O),(9,V.sl2 3 [.str (W 0).1,.str (W 0).2,.str (W 1).1,.str (W 1).2,.str (W 2).1,.str (W 2).2]),(11,V.sl2 1 [.str (Y 0).1,.str (Y 0).2])] [(5,.box [.ints .i64 [(s0:Int),(s1:Int)],.int .i64 1,.ints .i64 data])] (CondB.mk (fun h=>absurd h (by simp[hO])) (fun _=>?_)) ?_
 ·(conv=>whnf)
  exact V.wk
 refine V.r0 jh7 ?_
 refine⟨Pq82z,jgF,V.pok,?_⟩
 refine jbL [(14,.bsl 88 0 2 2),(15,.bsl 91 0 1 2),(13,.box 13 0),(88,.bsl 88 0 2 2),(91,.bsl 91 0 1 2)] [(13,.box [.str (SU 0).1,.str (SU 0).2]),(88,.box [.str [],.str [],.str [],.str []]),(91,.box [.str [],.str []])] [(0,[(85,.agg [.str (SU 0).1,.str (SU 0).2])],[]),(1,[(86,V.sl2 2 [.str (C 0).1,.str (C 0).2,.str (C 1).1,.str (C 1).2])],[]),(2,[(87,.int .i64 2)],[]),(3,[(88,.bsl 88 0 2 2)],[(88,.box [.str [],.str [],.str [],.str []])]),(4,[(89,.box 5 1)],[]),(5,[(90,.int .i64 1)],[]),(6,[(91,.bsl 91 0 1 2)],[(91,.box [.str [],.str []])]),(7,[(13,.box 13 0)],[(13,.box [.str [],.str []])]),(8,[],[(13,.box [.str (SU 0).1,.str (SU 0).2])]),(9,[(14,.bsl 88 0 2 2)],[]),(10,[(15,.bsl 91 0 1 2)],[])] ?_ ?_ ?_
 ·exact V.d1 jh7 zf
 ·exact V.d1 jh7 zf
 refine V.r0 jh7 ?_
 refine jac (0:Nat) (fun k=>k≤2) (fun k=>2-k) (fun k=>[(94,.int .i64 (k:Nat))]) (fun k=>[(88,.box (preD (2*k) [.str (SU 0).1,.str (SU 0).2,.str (SU 0).1,.str (SU 0).2]))]) ?_ ?_ ?_
 ·exact V.wk
 ·exact jiF _
 intro k hk
 have hk4:k=0∨k=1∨k=2:=by omega
 rcases hk4 with e|e|e
 all_goals subst e
 ·simp only[k0]
  refine V.r1 jh7 zf ?_
  exact⟨1,by omega,by omega,V.wk⟩
 ·simp only[k1]
  refine V.r1 jh7 zf ?_
  exact⟨2,by omega,by omega,V.wk⟩
 ·simp only[k2]
  refine V.r0 jh7 ?_
  refine jac (0:Nat) (fun k=>k≤1) (fun k=>1-k) (fun k=>[(104,.int .i64 (k:Nat))]) (fun k=>[(91,.box (preD (2*k) [.str (SU 0).1,.str (SU 0).2]))]) ?_ ?_ ?_
  ·exact V.wk
  ·exact jiF _
  intro k hk
  have hk4:k=0∨k=1:=by omega
  rcases hk4 with e|e
  all_goals subst e
  ·simp only[k0]
   refine V.r1 jh7 zf ?_
   exact⟨1,by omega,by omega,V.wk⟩
  ·simp only[k1]
   refine V.r0 jh7 ?_
   refine .inl ?_
   (conv=>whnf)
   refine⟨100,_,_,⟨Tryz.func19,rfl,rfl,jiE rfl⟩,?_⟩
   refine V.r0 jh7 ?_
   refine⟨fun h=>absurd (h rfl) (by simp),fun _=>?_⟩
   refine V.r0 jh7 ?_
   refine Lp.renSlot 365 18 18 2 (k := .i64) (xs:=[e0,e1]) (by decide) (by decide) rfl rfl ?_
   (conv=>whnf)
   refine jac (0:Nat) (fun k=>k≤3) (fun k=>3-k) (fun k=>[(116,.int .i64 (k:Nat)),(113,.any)]) (fun k=>[(13,.box [.str (SU k).1,.str (SU k).2]),(88,.box [.str (PL k 0).1,.str (PL k 0).2,.str (PL k 1).1,.str (PL k 1).2]),(91,.box [.str (MN k 0).1,.str (MN k 0).2]),(18,.arr .i64 (atK [e0,e1] O (min k 2)))]) ?_ ?_ ?_
   ·simp only[zp,zm]
    exact V.wk
   ·exact jiF _
   intro k hk
   have hlat:=hal (min k 2)
   (conv=>whnf)
   refine V.st ?_
   refine V.br (fun h=>?_) (fun h=>?_)
   ·simp only[decide_eq_true_eq] at h
    have hk1:k<3:=by omega
    have hmin:min k 2=k:=by omega
    have hVl:(((V' k).length:Nat):Int)=1:=by rw[hV k hk1];rfl
    have e:(List.take 2 (List.drop (k*2) [.str (W 0).1,.str (W 0).2,.str (W 1).1,.str (W 1).2,.str (W 2).1,.str (W 2).2]):List D)=[.str (W k).1,.str (W k).2]:=jcD W 3 k hk1
    have gak:=fi k hk1
    have vlk:=vl k hk1
    have hPk:=hPD k
    have etk:List.take ([e0,e1]:List Int).length (atK [e0,e1] O k)=atK [e0,e1] O k:=jjr (by rw[hal k];exact jiL _)
    rw[← etk] at gak
    have lek:=le k hk1
    have suk:=su k hk1
    have hbk:=hb k hk1
    rw[hmin] at hlat
    rw[hmin]
    (conv=>whnf)
    (try simp only[jh7])
    repeat ((first|refine V.s1 ?_|((try ((with_reducible refine .ext ?_);(conv=>whnf);(try simp only[jh7])));(with_reducible refine jaa (r:=?_) ?_ ?_);rotate_left;(focus (first|fail));(conv=>whnf))|((simp only[e]);(conv=>whnf)));(try simp only[jh7]))
    refine .inl ?_
    (conv=>whnf)
    refine⟨0,_,_,⟨Tryz.func20,rfl,rfl,jiE rfl⟩,?_⟩
    refine V.r1 jh7 ck ?_
    refine .len ?_
    (conv=>whnf)
    refine⟨18,?_⟩
    (conv=>whnf)
    refine jaa (r:=?_) ?_ ?_
    rotate_left
    (focus exact gak)
    refine V.r1 (V.a2 jh7 hVl) vlk ?_
    refine⟨Pq11z,[],V.pok,?_⟩
    refine jab [(140,.bool false)] [] ?_ ?_
    ·exact V.d2 (V.a2 jh7 hVl) zf lek
    refine V.r1 jh7 suk ?_
    refine jac (0:Nat) (fun i=>i≤2) (fun i=>2-i) (fun i=>[(146,.int .i64 (i:Nat))]) (fun i=>[(88,.box (wce (fun i=>PL (k+1) i) i++List.drop (2*i) (wce (fun i=>PL k i) 2)))]) ?_ ?_ ?_
    ·exact V.wk
    ·exact jiF _
    intro i hi
    have hi4:i=0∨i=1∨i=2:=by omega
    rcases hi4 with e|e|e
    all_goals subst e
    ·simp only[k0]
     have c1:=af k 0 hk1 (by omega)
     have c2:=ta k 0 hk1 (by omega)
     have c3:=pa k 0 hk1 (by omega)
     have hbi:=hbk 0
     refine V.r0 jh7 ?_
     refine⟨Pq13z,[],V.pok,?_⟩
     refine jab [] [(88,.box [.str (PL (k+1) 0).1,.str (PL (k+1) 0).2,.str (PL k 1).1,.str (PL k 1).2])] ?_ ?_
     ·exact V.d3 jh7 c1 c2 c3
     refine V.r0 jh7 ?_
     exact⟨1,by omega,by omega,V.wk⟩
    ·simp only[k1]
     have c1:=af k 1 hk1 (by omega)
     have c2:=ta k 1 hk1 (by omega)
     have c3:=pa k 1 hk1 (by omega)
     have hbi:=hbk 1
     refine V.r0 jh7 ?_
     refine⟨Pq13z,[],V.pok,?_⟩
     refine jab [] [(88,.box [.str (PL (k+1) 0).1,.str (PL (k+1) 0).2,.str (PL (k+1) 1).1,.str (PL (k+1) 1).2])] ?_ ?_
     ·exact V.d3 jh7 c1 c2 c3
     refine V.r0 jh7 ?_
     exact⟨2,by omega,by omega,V.wk⟩
    ·simp only[k2]
     refine V.r0 jh7 ?_
     refine jac (0:Nat) (fun i=>i≤1) (fun i=>1-i) (fun i=>[(167,.int .i64 (i:Nat))]) (fun i=>[(91,.box (wce (fun i=>MN (k+1) i) i++List.drop (2*i) (wce (fun i=>MN k i) 1)))]) ?_ ?_ ?_
     ·exact V.wk
     ·exact jiF _
     intro i hi
     have hi4:i=0∨i=1:=by omega
     rcases hi4 with e|e
     all_goals subst e
     ·simp only[k0]
      have c1:=vf k 0 hk1 (by omega)
      have c2:=tv k 0 hk1 (by omega)
      have c3:=pm k 0 hk1 (by omega)
      refine V.r0 jh7 ?_
      refine⟨Pq13z,[],V.pok,?_⟩
      refine jab [] [(91,.box [.str (MN (k+1) 0).1,.str (MN (k+1) 0).2])] ?_ ?_
      ·exact V.d3 (V.a2 jh7 hVl) c1 c2 c3
      refine V.r0 jh7 ?_
      exact⟨1,by omega,by omega,V.wk⟩
     ·simp only[k1]
      refine V.r0 (V.a2 jh7 hOl) ?_
      refine V.br (fun h2=>?_) (fun h2=>?_)
      ·simp only[decide_eq_true_eq] at h2
       have hk2:k<2:=by omega
       have hqk:=hq k hk2
       have hbq:=hbk (O.getD k 0).toNat
       have eAt:(atK [e0,e1] O k).set (O.getD k 0).toNat ((atK [e0,e1] O k).getD (O.getD k 0).toNat 0+1)=atK [e0,e1] O (min (k+1) 2):=by
        rw[show min (k+1) 2=k+1 by omega]
        rfl
       refine V.r0 jh7 ?_
       refine Cnd.split (CondB.mk (fun h=>absurd h (by rw[jiT,decide_eq_true_eq,decide_eq_true_eq];(try simp only[jjq,List.length_nil]);omega)) (fun _=>?_))
       refine V.r0 (V.a2 jh7 eAt) ?_
       exact⟨k+1,by omega,by omega,V.wk⟩
      ·simp only[decide_eq_false_iff_not] at h2
       have hm2:min (k+1) 2=k:=by omega
       refine V.r0 jh7 ?_
       refine⟨k+1,by omega,by omega,?_⟩
       simp only[hm2]
       exact V.wk
   ·simp only[decide_eq_false_iff_not] at h
    have hk1:k=3:=by omega
    subst hk1
    rw[show min 3 2=2 from rfl,hend]
    simp only[hy]
    refine V.r0 jh7 ?_
    refine jac (0:Nat) (fun i=>i≤2) (fun i=>2-i) (fun i=>[(216,.int .i64 (i:Nat))]) (fun _=>[]) ?_ ?_ ?_
    ·exact V.wk
    ·exact jiF _
    intro i hi
    have hi4:i=0∨i=1∨i=2:=by omega
    rcases hi4 with e|e|e
    all_goals subst e
    ·simp only[k0]
     have c1:=xf 0 (by omega)
     have c2:=tx 0 (by omega)
     refine V.r0 jh7 ?_
     refine⟨Pq5z,[],V.pok,?_⟩
     refine jab [(247,.bool false)] [] ?_ ?_
     ·(conv=>whnf);(try simp only[jiy,decide_true,jiV,jjb,Bool.not_true,ne_eq,not_true_eq_false,decide_false,Bool.or_self])
      repeat' (first|exact V.wk|((with_reducible refine And.intro ?_ jay);(conv=>whnf);(try simp only[jiy,decide_true,jiV,jjb,Bool.not_true,ne_eq,not_true_eq_false,decide_false,Bool.or_self]))|((with_reducible first|refine jaq ?_ ?_|refine jau ?_ ?_)<;>(conv=>whnf);(try simp only[jiy,decide_true,jiV,jjb,Bool.not_true,ne_eq,not_true_eq_false,decide_false,Bool.or_self]))|((first|refine V.s1 ?_|((with_reducible refine jak ?_ ?_);(focus ((conv=>whnf);(try simp only[jiy,decide_true,jiV,jjb,Bool.not_true,ne_eq,not_true_eq_false,decide_false,Bool.or_self]);(repeat ((first|refine V.s1 ?_);(try simp only[jiy,decide_true,jiV,jjb,Bool.not_true,ne_eq,not_true_eq_false,decide_false,Bool.or_self])));exact⟨rfl⟩));(conv=>whnf))|((try ((with_reducible refine .ext ?_);(conv=>whnf);(try simp only[jiy,decide_true,jiV,jjb,Bool.not_true,ne_eq,not_true_eq_false,decide_false,Bool.or_self])));(with_reducible refine jaa (r:=?_) ?_ ?_);rotate_left;(focus (first|exact(c1)|exact(c2)));(conv=>whnf)));(try simp only[jiy,decide_true,jiV,jjb,Bool.not_true,ne_eq,not_true_eq_false,decide_false,Bool.or_self]))|(refine And.intro ?_ ?_<;>(conv=>whnf);(try simp only[jiy,decide_true,jiV,jjb,Bool.not_true,ne_eq,not_true_eq_false,decide_false,Bool.or_self])))
     refine V.r0 jh7 ?_
     exact⟨1,by omega,by omega,V.wk⟩
    ·simp only[k1]
     have c1:=xf 1 (by omega)
     have c2:=tx 1 (by omega)
     refine V.r0 jh7 ?_
     refine⟨Pq5z,[],V.pok,?_⟩
     refine jab [(247,.bool false)] [] ?_ ?_
     ·(conv=>whnf);(try simp only[jiy,decide_true,jiV,jjb,Bool.not_true,ne_eq,not_true_eq_false,decide_false,Bool.or_self])
      repeat' (first|exact V.wk|((with_reducible refine And.intro ?_ jay);(conv=>whnf);(try simp only[jiy,decide_true,jiV,jjb,Bool.not_true,ne_eq,not_true_eq_false,decide_false,Bool.or_self]))|((with_reducible first|refine jaq ?_ ?_|refine jau ?_ ?_)<;>(conv=>whnf);(try simp only[jiy,decide_true,jiV,jjb,Bool.not_true,ne_eq,not_true_eq_false,decide_false,Bool.or_self]))|((first|refine V.s1 ?_|((with_reducible refine jak ?_ ?_);(focus ((conv=>whnf);(try simp only[jiy,decide_true,jiV,jjb,Bool.not_true,ne_eq,not_true_eq_false,decide_false,Bool.or_self]);(repeat ((first|refine V.s1 ?_);(try simp only[jiy,decide_true,jiV,jjb,Bool.not_true,ne_eq,not_true_eq_false,decide_false,Bool.or_self])));exact⟨rfl⟩));(conv=>whnf))|((try ((with_reducible refine .ext ?_);(conv=>whnf);(try simp only[jiy,decide_true,jiV,jjb,Bool.not_true,ne_eq,not_true_eq_false,decide_false,Bool.or_self])));(with_reducible refine jaa (r:=?_) ?_ ?_);rotate_left;(focus (first|exact(c1)|exact(c2)));(conv=>whnf)));(try simp only[jiy,decide_true,jiV,jjb,Bool.not_true,ne_eq,not_true_eq_false,decide_false,Bool.or_self]))|(refine And.intro ?_ ?_<;>(conv=>whnf);(try simp only[jiy,decide_true,jiV,jjb,Bool.not_true,ne_eq,not_true_eq_false,decide_false,Bool.or_self])))
     refine V.r0 jh7 ?_
     exact⟨2,by omega,by omega,V.wk⟩
    ·simp only[k2]
     refine V.r0 jh7 ?_
     refine⟨Pq81z,[],V.pok,?_⟩
     refine jab [(4,.bool true),(15,.any),(91,.any),(102,.any),(165,.any),(170,.any),(172,.any),(184,.any)] [(91,.gone)] ?_ ?_
     ·exact V.d2 (V.a4 jiy @decide_true @jiV @jjb) o1 eq
     refine V.r0 jh7 ?_
     exact Fin.of rfl
theorem wdec22 (s:List UInt8):decide (s=s)=true:=by simp
def jgE:List Nd:=[⟨[0,3,6,8,9,10],[1,2,4,5],.ev (.cons 0 [1,2,4,5] (.goto 9) (.cons 3 [4,5] (.goto 6) (.cons 6 [1,2] (.goto 1) (.nil))))⟩,⟨[0,3,8,9,10],[1,2],.ev (.cons 0 [1,2] (.goto 4) (.cons 3 [] (.goto 2) (.nil)))⟩,⟨[0,8,9,10],[],.ev (.cons 0 [] (.goto 3) (.nil))⟩,⟨[8,9,10],[],.ev (.cons 8 [] (.take 9 (.take 10 (.done))) (.nil))⟩,⟨[3,8,9,10],[1,2],.ev (.cons 3 [] (.goto 3) (.cons 8 [1,2] (.goto 5) (.nil)))⟩,⟨[3,9,10],[1,2],.ev (.cons 3 [] (.take 9 (.take 10 (.done))) (.nil))⟩,⟨[0,6,8,9,10],[4,5],.ev (.cons 0 [4,5] (.goto 7) (.cons 6 [] (.goto 2) (.nil)))⟩,⟨[6,8,9,10],[4,5],.ev (.cons 6 [] (.goto 3) (.cons 8 [4,5] (.take 9 (.goto 8)) (.nil)))⟩,⟨[6,10],[4,5,9],.ev (.cons 6 [9] (.take 10 (.done)) (.nil))⟩,⟨[3,6,8,9,10],[1,2,4,5],.ev (.cons 3 [4,5] (.goto 7) (.cons 6 [1,2] (.goto 4) (.cons 8 [1,2,4,5] (.goto 10) (.nil))))⟩,⟨[3,6,9,10],[1,2,4,5],.ev (.cons 3 [4,5] (.take 9 (.goto 8)) (.cons 6 [1,2] (.goto 5) (.nil)))⟩,⟨[0,3,7,8,9,10],[1,2],.ev (.cons 0 [1,2] (.goto 14) (.cons 3 [] (.goto 12) (.cons 7 [1,2] (.goto 1) (.nil))))⟩,⟨[0,7,8,9,10],[],.ev (.cons 0 [] (.goto 13) (.cons 7 [] (.goto 2) (.nil)))⟩,⟨[7,8,9,10],[],.ev (.cons 7 [] (.goto 3) (.nil))⟩,⟨[3,7,8,9,10],[1,2],.ev (.cons 3 [] (.goto 13) (.cons 7 [1,2] (.goto 4) (.nil)))⟩,⟨[0,6,7,8,9,10],[4,5],.ev (.cons 0 [4,5] (.goto 16) (.cons 6 [] (.goto 12) (.cons 7 [4,5] (.goto 6) (.nil))))⟩,⟨[6,7,8,9,10],[4,5],.ev (.cons 6 [] (.goto 13) (.cons 7 [4,5] (.goto 7) (.nil)))⟩,⟨[3,6,7,8,9,10],[1,2,4,5],.ev (.cons 3 [4,5] (.goto 16) (.cons 6 [1,2] (.goto 14) (.cons 7 [1,2,4,5] (.goto 9) (.nil))))⟩]
theorem jh4:type_of% @jiK∧type_of% @jjB ∧ type_of% @jjC ∧ type_of% @jiI∧type_of% @tn0∧type_of% @tn1∧type_of% @tn2∧type_of% @tn3∧type_of% @xt4:=⟨@jiK,@jjB,@jjC,@jiI,@tn0,@tn1,@tn2,@tn3,@xt4⟩
theorem jix:type_of% @jiK∧type_of% @jjB ∧ type_of% @jjC ∧ type_of% @jiI∧type_of% @tn0∧type_of% @tn1∧type_of% @tn2∧type_of% @tn3∧type_of% @wdec22∧type_of% @xt4:=⟨@jiK,@jjB,@jjC,@jiI,@tn0,@tn1,@tn2,@tn3,@wdec22,@xt4⟩
theorem jg4 (ds vals data O:List Int)(oo:Int)(sm:Bool)(at' z1 z2:Nat→Int)(b1 b2:Nat→Bool)(p1 p2:Nat→List Int)(s0 s1:Nat)(e0 e1:Int)(F0 F1:Nat→List D)(C W Y SU XF:Nat→Tx)(PL MN AF TA VF TV:Nat→Nat→Tx)(PD V':Nat→List Int)
  (hO:O.length=2) (hq:∀ k,k<2→0≤O.getD k 0∧O.getD k 0<2) (hb:∀ k,k<3 → ∀ i,0≤(atK [e0,e1] O k).getD i 0∧(atK [e0,e1] O k).getD i 0≤100) (hV:∀ k,k<3→(V' k).length=2) (hPD:∀ k,(PD k).length=4) (hs:(2≤s0∧s0≤9)∧(2≤s1∧s1≤9)) (hbb:(0≤e0∧e0≤9)∧(0≤e1∧e1≤9))
  (zp:∀ i,PL 0 i=SU 0) (zm:∀ i,MN 0 i=SU 0) (hend:atK [e0,e1] O 2=[e0+1,e1+1]) (hy:∀ j,MN 3 j=Y j)
  (wk:Cl 10 [] (.bool true))
  (gd:Cl 11 [.agg [.ints .u8 ds,.int .u8 oo,.ints .u16 vals,.bool sm]] (.agg [.ints .i64 [(s0:Int),(s1:Int)],.int .i64 2,.ints .i64 data]))
  (co:Cl 13 [(colD at' z1 z2 b1 b2 p1 p2),.int .i64 2] (.agg [.slf 2 2 F0,.slf 2 2 F1,V.sl2 2 [.str (C 0).1,.str (C 0).2,.str (C 1).1,.str (C 1).2]]))
  (ce:Cl 17 [.agg [.ints .i64 [(s0:Int),(s1:Int)],.int .i64 2,.ints .i64 data],V.sl2 2 [.str (C 0).1,.str (C 0).2,.str (C 1).1,.str (C 1).2]] (.tup [.ints .i64 [e0,e1],.ints .i64 O,V.sl2 3 [.str (W 0).1,.str (W 0).2,.str (W 1).1,.str (W 1).2,.str (W 2).1,.str (W 2).2],.int .i64 0]))
  (ev:Cl 15 [.agg [.ints .i64 [(s0:Int),(s1:Int)],.int .i64 2,.ints .i64 data],V.sl2 2 [.str (C 0).1,.str (C 0).2,.str (C 1).1,.str (C 1).2]] (.tup [V.sl2 2 [.str (Y 0).1,.str (Y 0).2,.str (Y 1).1,.str (Y 1).2],.int .i64 0]))
  (zf:Cl 18 [.int .i64 0,.int .i64 1] (.agg [.str (SU 0).1,.str (SU 0).2]))
  (ck:Cl 37 [.agg [.ints .i64 [(s0:Int),(s1:Int)],.int .i64 2,.ints .i64 data]] (.int .i64 0))
  (fi:∀ k,k<3→Cl 47 [.agg [.ints .i64 [(s0:Int),(s1:Int)],.int .i64 2,.ints .i64 data],.ints .i64 (atK [e0,e1] O k)] (.tup [.iarr .i64 (PD k),.bool true]))
  (vl:∀ k,k<3→Cl 40 [.agg [.ints .i64 [(s0:Int),(s1:Int)],.int .i64 2,.ints .i64 data],.iarr .i64 (PD k)] (.ints .i64 (V' k)))
  (le:∀ k,k<3→Cl 21 [.agg [.str (W k).1,.str (W k).2],.agg [.str (SU 0).1,.str (SU 0).2]] (.bool false))
  (su:∀ k,k<3→Cl 22 [.agg [.str (SU k).1,.str (SU k).2],.agg [.str (W k).1,.str (W k).2]] (.agg [.str (SU (k+1)).1,.str (SU (k+1)).2]))
  (af:∀ k i,k<3→i<2→Cl 18 [.int .i64 ((atK [e0,e1] O k).getD i 0),.int .i64 1] (.agg [.str (AF k i).1,.str (AF k i).2]))
  (ta:∀ k i,k<3→i<2→Cl 23 [.agg [.str (W k).1,.str (W k).2],.agg [.str (AF k i).1,.str (AF k i).2]] (.agg [.str (TA k i).1,.str (TA k i).2]))
  (pa:∀ k i,k<3→i<2→Cl 22 [.agg [.str (PL k i).1,.str (PL k i).2],.agg [.str (TA k i).1,.str (TA k i).2]] (.agg [.str (PL (k+1) i).1,.str (PL (k+1) i).2]))
  (vf:∀ k i,k<3→i<2→Cl 18 [.int .i64 ((V' k).getD i 0),.int .i64 65535] (.agg [.str (VF k i).1,.str (VF k i).2]))
  (tv:∀ k i,k<3→i<2→Cl 23 [.agg [.str (W k).1,.str (W k).2],.agg [.str (VF k i).1,.str (VF k i).2]] (.agg [.str (TV k i).1,.str (TV k i).2]))
  (pm:∀ k i,k<3→i<2→Cl 22 [.agg [.str (MN k i).1,.str (MN k i).2],.agg [.str (TV k i).1,.str (TV k i).2]] (.agg [.str (MN (k+1) i).1,.str (MN (k+1) i).2]))
  (xf:∀ i,i<2→Cl 18 [.int .i64 (([(s0:Int),(s1:Int)]:List Int).getD i 0-1),.int .i64 1] (.agg [.str (XF i).1,.str (XF i).2]))
  (tx:∀ i,i<2→Cl 23 [.agg [.str (C i).1,.str (C i).2],.agg [.str (XF i).1,.str (XF i).2]] (.agg [.str (PL 3 i).1,.str (PL 3 i).2]))
  (o1:Cl 18 [.int .i64 1,.int .i64 1] (.agg [.str (SU 3).1,.str (SU 3).2])) :
  Cl 4 [.agg [.ints .u8 ds,.int .u8 oo,.ints .u16 vals,.bool sm],(colD at' z1 z2 b1 b2 p1 p2)] (.bool true):=by
 have eq:=eqf2 Y
 have hOl:((O.length:Nat):Int)=2:=by rw[hO];rfl
 have hal:∀ k,(atK [e0,e1] O k).length=2:=fun k=>by
  induction k with
  | zero=>rfl
  | succ k ih=>rw[atK,jjw,ih]
 refine V.en tbOk Tryz.func4 ?_
 refine V.r5 jh4 wk gd co ce ev ?_
 refine V.cnd_to [(5,.box 5 0),(6,V.sl2 2 [.str (C 0).1,.str (C 0).2,.str (C 1).1,.str (C 1).2]),(7,.ints .i64 [e0,e1]),(8,.ints .i64 O),(9,V.sl2 3 [.str (W 0).1,.str (W 0).2,.str (W 1).1,.str (W 1).2,.str (W 2).1,.str (W 2).2]),(11,V.sl2 2 [.str (Y 0).1,.str (Y 0).2,.str (Y 1).1,.str (Y 1).2])] [(5,.box [.ints .i64 [(s0:Int),(s1:Int)],.int .i64 2,.ints .i64 data])] (CondB.mk (fun h=>absurd h (by simp[hO])) (fun _=>?_)) ?_
 ·(conv=>whnf)
  exact V.wk
 refine V.r0 jh4 ?_
 refine⟨Pq82z,jgE,V.pok,?_⟩
 refine jbL [(14,.bsl 88 0 2 2),(15,.bsl 91 0 2 2),(13,.box 13 0),(88,.bsl 88 0 2 2),(91,.bsl 91 0 2 2)] [(13,.box [.str (SU 0).1,.str (SU 0).2]),(88,.box [.str [],.str [],.str [],.str []]),(91,.box [.str [],.str [],.str [],.str []])] [(0,[(85,.agg [.str (SU 0).1,.str (SU 0).2])],[]),(1,[(86,V.sl2 2 [.str (C 0).1,.str (C 0).2,.str (C 1).1,.str (C 1).2])],[]),(2,[(87,.int .i64 2)],[]),(3,[(88,.bsl 88 0 2 2)],[(88,.box [.str [],.str [],.str [],.str []])]),(4,[(89,.box 5 1)],[]),(5,[(90,.int .i64 2)],[]),(6,[(91,.bsl 91 0 2 2)],[(91,.box [.str [],.str [],.str [],.str []])]),(7,[(13,.box 13 0)],[(13,.box [.str [],.str []])]),(8,[],[(13,.box [.str (SU 0).1,.str (SU 0).2])]),(9,[(14,.bsl 88 0 2 2)],[]),(10,[(15,.bsl 91 0 2 2)],[])] ?_ ?_ ?_
 ·exact V.d1 jh4 zf
 ·exact V.d1 jh4 zf
 refine V.r0 jh4 ?_
 refine jac (0:Nat) (fun k=>k≤2) (fun k=>2-k) (fun k=>[(94,.int .i64 (k:Nat))]) (fun k=>[(88,.box (preD (2*k) [.str (SU 0).1,.str (SU 0).2,.str (SU 0).1,.str (SU 0).2]))]) ?_ ?_ ?_
 ·exact V.wk
 ·exact jiF _
 intro k hk
 have hk4:k=0∨k=1∨k=2:=by omega
 rcases hk4 with e|e|e
 all_goals subst e
 ·simp only[k0]
  refine V.r1 jh4 zf ?_
  exact⟨1,by omega,by omega,V.wk⟩
 ·simp only[k1]
  refine V.r1 jh4 zf ?_
  exact⟨2,by omega,by omega,V.wk⟩
 ·simp only[k2]
  refine V.r0 jh4 ?_
  refine jac (0:Nat) (fun k=>k≤2) (fun k=>2-k) (fun k=>[(104,.int .i64 (k:Nat))]) (fun k=>[(91,.box (preD (2*k) [.str (SU 0).1,.str (SU 0).2,.str (SU 0).1,.str (SU 0).2]))]) ?_ ?_ ?_
  ·exact V.wk
  ·exact jiF _
  intro k hk
  have hk4:k=0∨k=1∨k=2:=by omega
  rcases hk4 with e|e|e
  all_goals subst e
  ·simp only[k0]
   refine V.r1 jh4 zf ?_
   exact⟨1,by omega,by omega,V.wk⟩
  ·simp only[k1]
   refine V.r1 jh4 zf ?_
   exact⟨2,by omega,by omega,V.wk⟩
  ·simp only[k2]
   refine V.r0 jh4 ?_
   refine .inl ?_
   (conv=>whnf)
   refine⟨100,_,_,⟨Tryz.func19,rfl,rfl,jiE rfl⟩,?_⟩
   refine V.r0 jh4 ?_
   refine⟨fun h=>absurd (h rfl) (by simp),fun _=>?_⟩
   refine V.r0 jh4 ?_
   refine Lp.renSlot 365 18 18 2 (k := .i64) (xs:=[e0,e1]) (by decide) (by decide) rfl rfl ?_
   (conv=>whnf)
   refine jac (0:Nat) (fun k=>k≤3) (fun k=>3-k) (fun k=>[(116,.int .i64 (k:Nat)),(113,.any)]) (fun k=>[(13,.box [.str (SU k).1,.str (SU k).2]),(88,.box [.str (PL k 0).1,.str (PL k 0).2,.str (PL k 1).1,.str (PL k 1).2]),(91,.box [.str (MN k 0).1,.str (MN k 0).2,.str (MN k 1).1,.str (MN k 1).2]),(18,.arr .i64 (atK [e0,e1] O (min k 2)))]) ?_ ?_ ?_
   ·simp only[zp,zm]
    exact V.wk
   ·exact jiF _
   intro k hk
   have hlat:=hal (min k 2)
   (conv=>whnf)
   refine V.st ?_
   refine V.br (fun h=>?_) (fun h=>?_)
   ·simp only[decide_eq_true_eq] at h
    have hk1:k<3:=by omega
    have hmin:min k 2=k:=by omega
    have hVl:(((V' k).length:Nat):Int)=2:=by rw[hV k hk1];rfl
    have e:(List.take 2 (List.drop (k*2) [.str (W 0).1,.str (W 0).2,.str (W 1).1,.str (W 1).2,.str (W 2).1,.str (W 2).2]):List D)=[.str (W k).1,.str (W k).2]:=jcD W 3 k hk1
    have gak:=fi k hk1
    have vlk:=vl k hk1
    have hPk:=hPD k
    have etk:List.take ([e0,e1]:List Int).length (atK [e0,e1] O k)=atK [e0,e1] O k:=jjr (by rw[hal k];exact jiL _)
    rw[← etk] at gak
    have lek:=le k hk1
    have suk:=su k hk1
    have hbk:=hb k hk1
    rw[hmin] at hlat
    rw[hmin]
    (conv=>whnf)
    (try simp only[jh4])
    repeat ((first|refine V.s1 ?_|((try ((with_reducible refine .ext ?_);(conv=>whnf);(try simp only[jh4])));(with_reducible refine jaa (r:=?_) ?_ ?_);rotate_left;(focus (first|fail));(conv=>whnf))|((simp only[e]);(conv=>whnf)));(try simp only[jh4]))
    refine .inl ?_
    (conv=>whnf)
    refine⟨0,_,_,⟨Tryz.func20,rfl,rfl,jiE rfl⟩,?_⟩
    refine V.r1 jh4 ck ?_
    refine .len ?_
    (conv=>whnf)
    refine⟨18,?_⟩
    (conv=>whnf)
    refine jaa (r:=?_) ?_ ?_
    rotate_left
    (focus exact gak)
    refine V.r1 (V.a2 jh4 hVl) vlk ?_
    refine⟨Pq11z,[],V.pok,?_⟩
    refine jab [(140,.bool false)] [] ?_ ?_
    ·exact V.d2 (V.a2 jh4 hVl) zf lek
    refine V.r1 jh4 suk ?_
    refine jac (0:Nat) (fun i=>i≤2) (fun i=>2-i) (fun i=>[(146,.int .i64 (i:Nat))]) (fun i=>[(88,.box (wce (fun i=>PL (k+1) i) i++List.drop (2*i) (wce (fun i=>PL k i) 2)))]) ?_ ?_ ?_
    ·exact V.wk
    ·exact jiF _
    intro i hi
    have hi4:i=0∨i=1∨i=2:=by omega
    rcases hi4 with e|e|e
    all_goals subst e
    ·simp only[k0]
     have c1:=af k 0 hk1 (by omega)
     have c2:=ta k 0 hk1 (by omega)
     have c3:=pa k 0 hk1 (by omega)
     have hbi:=hbk 0
     refine V.r0 jh4 ?_
     refine⟨Pq13z,[],V.pok,?_⟩
     refine jab [] [(88,.box [.str (PL (k+1) 0).1,.str (PL (k+1) 0).2,.str (PL k 1).1,.str (PL k 1).2])] ?_ ?_
     ·exact V.d3 jh4 c1 c2 c3
     refine V.r0 jh4 ?_
     exact⟨1,by omega,by omega,V.wk⟩
    ·simp only[k1]
     have c1:=af k 1 hk1 (by omega)
     have c2:=ta k 1 hk1 (by omega)
     have c3:=pa k 1 hk1 (by omega)
     have hbi:=hbk 1
     refine V.r0 jh4 ?_
     refine⟨Pq13z,[],V.pok,?_⟩
     refine jab [] [(88,.box [.str (PL (k+1) 0).1,.str (PL (k+1) 0).2,.str (PL (k+1) 1).1,.str (PL (k+1) 1).2])] ?_ ?_
     ·exact V.d3 jh4 c1 c2 c3
     refine V.r0 jh4 ?_
     exact⟨2,by omega,by omega,V.wk⟩
    ·simp only[k2]
     refine V.r0 jh4 ?_
     refine jac (0:Nat) (fun i=>i≤2) (fun i=>2-i) (fun i=>[(167,.int .i64 (i:Nat))]) (fun i=>[(91,.box (wce (fun i=>MN (k+1) i) i++List.drop (2*i) (wce (fun i=>MN k i) 2)))]) ?_ ?_ ?_
     ·exact V.wk
     ·exact jiF _
     intro i hi
     have hi4:i=0∨i=1∨i=2:=by omega
     rcases hi4 with e|e|e
     all_goals subst e
     ·simp only[k0]
      have c1:=vf k 0 hk1 (by omega)
      have c2:=tv k 0 hk1 (by omega)
      have c3:=pm k 0 hk1 (by omega)
      refine V.r0 jh4 ?_
      refine⟨Pq13z,[],V.pok,?_⟩
      refine jab [] [(91,.box [.str (MN (k+1) 0).1,.str (MN (k+1) 0).2,.str (MN k 1).1,.str (MN k 1).2])] ?_ ?_
      ·exact V.d3 (V.a2 jh4 hVl) c1 c2 c3
      refine V.r0 jh4 ?_
      exact⟨1,by omega,by omega,V.wk⟩
     ·simp only[k1]
      have c1:=vf k 1 hk1 (by omega)
      have c2:=tv k 1 hk1 (by omega)
      have c3:=pm k 1 hk1 (by omega)
      refine V.r0 jh4 ?_
      refine⟨Pq13z,[],V.pok,?_⟩
      refine jab [] [(91,.box [.str (MN (k+1) 0).1,.str (MN (k+1) 0).2,.str (MN (k+1) 1).1,.str (MN (k+1) 1).2])] ?_ ?_
      ·exact V.d3 (V.a2 jh4 hVl) c1 c2 c3
      refine V.r0 jh4 ?_
      exact⟨2,by omega,by omega,V.wk⟩
     ·simp only[k2]
      refine V.r0 (V.a2 jh4 hOl) ?_
      refine V.br (fun h2=>?_) (fun h2=>?_)
      ·simp only[decide_eq_true_eq] at h2
       have hk2:k<2:=by omega
       have hqk:=hq k hk2
       have hbq:=hbk (O.getD k 0).toNat
       have eAt:(atK [e0,e1] O k).set (O.getD k 0).toNat ((atK [e0,e1] O k).getD (O.getD k 0).toNat 0+1)=atK [e0,e1] O (min (k+1) 2):=by
        rw[show min (k+1) 2=k+1 by omega]
        rfl
       refine V.r0 jh4 ?_
       refine Cnd.split (CondB.mk (fun h=>absurd h (by rw[jiT,decide_eq_true_eq,decide_eq_true_eq];(try simp only[jjq,List.length_nil]);omega)) (fun _=>?_))
       refine V.r0 (V.a2 jh4 eAt) ?_
       exact⟨k+1,by omega,by omega,V.wk⟩
      ·simp only[decide_eq_false_iff_not] at h2
       have hm2:min (k+1) 2=k:=by omega
       refine V.r0 jh4 ?_
       refine⟨k+1,by omega,by omega,?_⟩
       simp only[hm2]
       exact V.wk
   ·simp only[decide_eq_false_iff_not] at h
    have hk1:k=3:=by omega
    subst hk1
    rw[show min 3 2=2 from rfl,hend]
    simp only[hy]
    refine V.r0 jh4 ?_
    refine jac (0:Nat) (fun i=>i≤2) (fun i=>2-i) (fun i=>[(216,.int .i64 (i:Nat))]) (fun _=>[]) ?_ ?_ ?_
    ·exact V.wk
    ·exact jiF _
    intro i hi
    have hi4:i=0∨i=1∨i=2:=by omega
    rcases hi4 with e|e|e
    all_goals subst e
    ·simp only[k0]
     have c1:=xf 0 (by omega)
     have c2:=tx 0 (by omega)
     refine V.r0 jh4 ?_
     refine⟨Pq5z,[],V.pok,?_⟩
     refine jab [(247,.bool false)] [] ?_ ?_
     ·(conv=>whnf);(try simp only[jix,decide_true,jiV,jjb,Bool.not_true,ne_eq,not_true_eq_false,decide_false,Bool.or_self])
      repeat' (first|exact V.wk|((with_reducible refine And.intro ?_ jay);(conv=>whnf);(try simp only[jix,decide_true,jiV,jjb,Bool.not_true,ne_eq,not_true_eq_false,decide_false,Bool.or_self]))|((with_reducible first|refine jaq ?_ ?_|refine jau ?_ ?_)<;>(conv=>whnf);(try simp only[jix,decide_true,jiV,jjb,Bool.not_true,ne_eq,not_true_eq_false,decide_false,Bool.or_self]))|((first|refine V.s1 ?_|((with_reducible refine jak ?_ ?_);(focus ((conv=>whnf);(try simp only[jix,decide_true,jiV,jjb,Bool.not_true,ne_eq,not_true_eq_false,decide_false,Bool.or_self]);(repeat ((first|refine V.s1 ?_);(try simp only[jix,decide_true,jiV,jjb,Bool.not_true,ne_eq,not_true_eq_false,decide_false,Bool.or_self])));exact⟨rfl⟩));(conv=>whnf))|((try ((with_reducible refine .ext ?_);(conv=>whnf);(try simp only[jix,decide_true,jiV,jjb,Bool.not_true,ne_eq,not_true_eq_false,decide_false,Bool.or_self])));(with_reducible refine jaa (r:=?_) ?_ ?_);rotate_left;(focus (first|exact(c1)|exact(c2)));(conv=>whnf)));(try simp only[jix,decide_true,jiV,jjb,Bool.not_true,ne_eq,not_true_eq_false,decide_false,Bool.or_self]))|(refine And.intro ?_ ?_<;>(conv=>whnf);(try simp only[jix,decide_true,jiV,jjb,Bool.not_true,ne_eq,not_true_eq_false,decide_false,Bool.or_self])))
     refine V.r0 jh4 ?_
     exact⟨1,by omega,by omega,V.wk⟩
    ·simp only[k1]
     have c1:=xf 1 (by omega)
     have c2:=tx 1 (by omega)
     refine V.r0 jh4 ?_
     refine⟨Pq5z,[],V.pok,?_⟩
     refine jab [(247,.bool false)] [] ?_ ?_
     ·(conv=>whnf);(try simp only[jix,decide_true,jiV,jjb,Bool.not_true,ne_eq,not_true_eq_false,decide_false,Bool.or_self])
      repeat' (first|exact V.wk|((with_reducible refine And.intro ?_ jay);(conv=>whnf);(try simp only[jix,decide_true,jiV,jjb,Bool.not_true,ne_eq,not_true_eq_false,decide_false,Bool.or_self]))|((with_reducible first|refine jaq ?_ ?_|refine jau ?_ ?_)<;>(conv=>whnf);(try simp only[jix,decide_true,jiV,jjb,Bool.not_true,ne_eq,not_true_eq_false,decide_false,Bool.or_self]))|((first|refine V.s1 ?_|((with_reducible refine jak ?_ ?_);(focus ((conv=>whnf);(try simp only[jix,decide_true,jiV,jjb,Bool.not_true,ne_eq,not_true_eq_false,decide_false,Bool.or_self]);(repeat ((first|refine V.s1 ?_);(try simp only[jix,decide_true,jiV,jjb,Bool.not_true,ne_eq,not_true_eq_false,decide_false,Bool.or_self])));exact⟨rfl⟩));(conv=>whnf))|((try ((with_reducible refine .ext ?_);(conv=>whnf);(try simp only[jix,decide_true,jiV,jjb,Bool.not_true,ne_eq,not_true_eq_false,decide_false,Bool.or_self])));(with_reducible refine jaa (r:=?_) ?_ ?_);rotate_left;(focus (first|exact(c1)|exact(c2)));(conv=>whnf)));(try simp only[jix,decide_true,jiV,jjb,Bool.not_true,ne_eq,not_true_eq_false,decide_false,Bool.or_self]))|(refine And.intro ?_ ?_<;>(conv=>whnf);(try simp only[jix,decide_true,jiV,jjb,Bool.not_true,ne_eq,not_true_eq_false,decide_false,Bool.or_self])))
     refine V.r0 jh4 ?_
     exact⟨2,by omega,by omega,V.wk⟩
    ·simp only[k2]
     refine V.r0 jh4 ?_
     refine⟨Pq81z,[],V.pok,?_⟩
     refine jab [(4,.bool true),(15,.any),(91,.any),(102,.any),(165,.any),(170,.any),(172,.any),(184,.any)] [(91,.gone)] ?_ ?_
     ·exact V.d2 (V.a4 jix @decide_true @jiV @jjb) o1 eq
     refine V.r0 jh4 ?_
     exact Fin.of rfl
theorem wdec23 (s:List UInt8):decide (s=s)=true:=by simp
def jgD:List Nd:=[⟨[0,3,6,8,9,10],[1,2,4,5],.ev (.cons 0 [1,2,4,5] (.goto 9) (.cons 3 [4,5] (.goto 6) (.cons 6 [1,2] (.goto 1) (.nil))))⟩,⟨[0,3,8,9,10],[1,2],.ev (.cons 0 [1,2] (.goto 4) (.cons 3 [] (.goto 2) (.nil)))⟩,⟨[0,8,9,10],[],.ev (.cons 0 [] (.goto 3) (.nil))⟩,⟨[8,9,10],[],.ev (.cons 8 [] (.take 9 (.take 10 (.done))) (.nil))⟩,⟨[3,8,9,10],[1,2],.ev (.cons 3 [] (.goto 3) (.cons 8 [1,2] (.goto 5) (.nil)))⟩,⟨[3,9,10],[1,2],.ev (.cons 3 [] (.take 9 (.take 10 (.done))) (.nil))⟩,⟨[0,6,8,9,10],[4,5],.ev (.cons 0 [4,5] (.goto 7) (.cons 6 [] (.goto 2) (.nil)))⟩,⟨[6,8,9,10],[4,5],.ev (.cons 6 [] (.goto 3) (.cons 8 [4,5] (.take 9 (.goto 8)) (.nil)))⟩,⟨[6,10],[4,5,9],.ev (.cons 6 [9] (.take 10 (.done)) (.nil))⟩,⟨[3,6,8,9,10],[1,2,4,5],.ev (.cons 3 [4,5] (.goto 7) (.cons 6 [1,2] (.goto 4) (.cons 8 [1,2,4,5] (.goto 10) (.nil))))⟩,⟨[3,6,9,10],[1,2,4,5],.ev (.cons 3 [4,5] (.take 9 (.goto 8)) (.cons 6 [1,2] (.goto 5) (.nil)))⟩,⟨[0,3,7,8,9,10],[1,2],.ev (.cons 0 [1,2] (.goto 14) (.cons 3 [] (.goto 12) (.cons 7 [1,2] (.goto 1) (.nil))))⟩,⟨[0,7,8,9,10],[],.ev (.cons 0 [] (.goto 13) (.cons 7 [] (.goto 2) (.nil)))⟩,⟨[7,8,9,10],[],.ev (.cons 7 [] (.goto 3) (.nil))⟩,⟨[3,7,8,9,10],[1,2],.ev (.cons 3 [] (.goto 13) (.cons 7 [1,2] (.goto 4) (.nil)))⟩,⟨[0,6,7,8,9,10],[4,5],.ev (.cons 0 [4,5] (.goto 16) (.cons 6 [] (.goto 12) (.cons 7 [4,5] (.goto 6) (.nil))))⟩,⟨[6,7,8,9,10],[4,5],.ev (.cons 6 [] (.goto 13) (.cons 7 [4,5] (.goto 7) (.nil)))⟩,⟨[3,6,7,8,9,10],[1,2,4,5],.ev (.cons 3 [4,5] (.goto 16) (.cons 6 [1,2] (.goto 14) (.cons 7 [1,2,4,5] (.goto 9) (.nil))))⟩]
theorem jh2:type_of% @jiK∧type_of% @jjB ∧ type_of% @jjC ∧ type_of% @jiI∧type_of% @tn0∧type_of% @tn1∧type_of% @tn2∧type_of% @tn3∧type_of% @xt4:=⟨@jiK,@jjB,@jjC,@jiI,@tn0,@tn1,@tn2,@tn3,@xt4⟩
theorem jiw:type_of% @jiK∧type_of% @jjB ∧ type_of% @jjC ∧ type_of% @jiI∧type_of% @tn0∧type_of% @tn1∧type_of% @tn2∧type_of% @tn3∧type_of% @wdec23∧type_of% @xt4:=⟨@jiK,@jjB,@jjC,@jiI,@tn0,@tn1,@tn2,@tn3,@wdec23,@xt4⟩
theorem jg3 (ds vals data O:List Int)(oo:Int)(sm:Bool)(at' z1 z2:Nat→Int)(b1 b2:Nat→Bool)(p1 p2:Nat→List Int)(s0 s1:Nat)(e0 e1:Int)(F0 F1:Nat→List D)(C W Y SU XF:Nat→Tx)(PL MN AF TA VF TV:Nat→Nat→Tx)(PD V':Nat→List Int)
  (hO:O.length=2) (hq:∀ k,k<2→0≤O.getD k 0∧O.getD k 0<2) (hb:∀ k,k<3 → ∀ i,0≤(atK [e0,e1] O k).getD i 0∧(atK [e0,e1] O k).getD i 0≤100) (hV:∀ k,k<3→(V' k).length=3) (hPD:∀ k,(PD k).length=4) (hs:(2≤s0∧s0≤9)∧(2≤s1∧s1≤9)) (hbb:(0≤e0∧e0≤9)∧(0≤e1∧e1≤9))
  (zp:∀ i,PL 0 i=SU 0) (zm:∀ i,MN 0 i=SU 0) (hend:atK [e0,e1] O 2=[e0+1,e1+1]) (hy:∀ j,MN 3 j=Y j)
  (wk:Cl 10 [] (.bool true))
  (gd:Cl 11 [.agg [.ints .u8 ds,.int .u8 oo,.ints .u16 vals,.bool sm]] (.agg [.ints .i64 [(s0:Int),(s1:Int)],.int .i64 3,.ints .i64 data]))
  (co:Cl 13 [(colD at' z1 z2 b1 b2 p1 p2),.int .i64 2] (.agg [.slf 2 2 F0,.slf 2 2 F1,V.sl2 2 [.str (C 0).1,.str (C 0).2,.str (C 1).1,.str (C 1).2]]))
  (ce:Cl 17 [.agg [.ints .i64 [(s0:Int),(s1:Int)],.int .i64 3,.ints .i64 data],V.sl2 2 [.str (C 0).1,.str (C 0).2,.str (C 1).1,.str (C 1).2]] (.tup [.ints .i64 [e0,e1],.ints .i64 O,V.sl2 3 [.str (W 0).1,.str (W 0).2,.str (W 1).1,.str (W 1).2,.str (W 2).1,.str (W 2).2],.int .i64 0]))
  (ev:Cl 15 [.agg [.ints .i64 [(s0:Int),(s1:Int)],.int .i64 3,.ints .i64 data],V.sl2 2 [.str (C 0).1,.str (C 0).2,.str (C 1).1,.str (C 1).2]] (.tup [V.sl2 3 [.str (Y 0).1,.str (Y 0).2,.str (Y 1).1,.str (Y 1).2,.str (Y 2).1,.str (Y 2).2],.int .i64 0]))
  (zf:Cl 18 [.int .i64 0,.int .i64 1] (.agg [.str (SU 0).1,.str (SU 0).2]))
  (ck:Cl 37 [.agg [.ints .i64 [(s0:Int),(s1:Int)],.int .i64 3,.ints .i64 data]] (.int .i64 0))
  (fi:∀ k,k<3→Cl 47 [.agg [.ints .i64 [(s0:Int),(s1:Int)],.int .i64 3,.ints .i64 data],.ints .i64 (atK [e0,e1] O k)] (.tup [.iarr .i64 (PD k),.bool true]))
  (vl:∀ k,k<3→Cl 40 [.agg [.ints .i64 [(s0:Int),(s1:Int)],.int .i64 3,.ints .i64 data],.iarr .i64 (PD k)] (.ints .i64 (V' k)))
  (le:∀ k,k<3→Cl 21 [.agg [.str (W k).1,.str (W k).2],.agg [.str (SU 0).1,.str (SU 0).2]] (.bool false))
  (su:∀ k,k<3→Cl 22 [.agg [.str (SU k).1,.str (SU k).2],.agg [.str (W k).1,.str (W k).2]] (.agg [.str (SU (k+1)).1,.str (SU (k+1)).2]))
  (af:∀ k i,k<3→i<2→Cl 18 [.int .i64 ((atK [e0,e1] O k).getD i 0),.int .i64 1] (.agg [.str (AF k i).1,.str (AF k i).2]))
  (ta:∀ k i,k<3→i<2→Cl 23 [.agg [.str (W k).1,.str (W k).2],.agg [.str (AF k i).1,.str (AF k i).2]] (.agg [.str (TA k i).1,.str (TA k i).2]))
  (pa:∀ k i,k<3→i<2→Cl 22 [.agg [.str (PL k i).1,.str (PL k i).2],.agg [.str (TA k i).1,.str (TA k i).2]] (.agg [.str (PL (k+1) i).1,.str (PL (k+1) i).2]))
  (vf:∀ k i,k<3→i<3→Cl 18 [.int .i64 ((V' k).getD i 0),.int .i64 65535] (.agg [.str (VF k i).1,.str (VF k i).2]))
  (tv:∀ k i,k<3→i<3→Cl 23 [.agg [.str (W k).1,.str (W k).2],.agg [.str (VF k i).1,.str (VF k i).2]] (.agg [.str (TV k i).1,.str (TV k i).2]))
  (pm:∀ k i,k<3→i<3→Cl 22 [.agg [.str (MN k i).1,.str (MN k i).2],.agg [.str (TV k i).1,.str (TV k i).2]] (.agg [.str (MN (k+1) i).1,.str (MN (k+1) i).2]))
  (xf:∀ i,i<2→Cl 18 [.int .i64 (([(s0:Int),(s1:Int)]:List Int).getD i 0-1),.int .i64 1] (.agg [.str (XF i).1,.str (XF i).2]))
  (tx:∀ i,i<2→Cl 23 [.agg [.str (C i).1,.str (C i).2],.agg [.str (XF i).1,.str (XF i).2]] (.agg [.str (PL 3 i).1,.str (PL 3 i).2]))
  (o1:Cl 18 [.int .i64 1,.int .i64 1] (.agg [.str (SU 3).1,.str (SU 3).2])) :
  Cl 4 [.agg [.ints .u8 ds,.int .u8 oo,.ints .u16 vals,.bool sm],(colD at' z1 z2 b1 b2 p1 p2)] (.bool true):=by
 have eq:=eqf3 Y
 have hOl:((O.length:Nat):Int)=2:=by rw[hO];rfl
 have hal:∀ k,(atK [e0,e1] O k).length=2:=fun k=>by
  induction k with
  | zero=>rfl
  | succ k ih=>rw[atK,jjw,ih]
 refine V.en tbOk Tryz.func4 ?_
 refine V.r5 jh2 wk gd co ce ev ?_
 refine V.cnd_to [(5,.box 5 0),(6,V.sl2 2 [.str (C 0).1,.str (C 0).2,.str (C 1).1,.str (C 1).2]),(7,.ints .i64 [e0,e1]),(8,.ints .i64 O),(9,V.sl2 3 [.str (W 0).1,.str (W 0).2,.str (W 1).1,.str (W 1).2,.str (W 2).1,.str (W 2).2]),(11,V.sl2 3 [.str (Y 0).1,.str (Y 0).2,.str (Y 1).1,.str (Y 1).2,.str (Y 2).1,.str (Y 2).2])] [(5,.box [.ints .i64 [(s0:Int),(s1:Int)],.int .i64 3,.ints .i64 data])] (CondB.mk (fun h=>absurd h (by simp[hO])) (fun _=>?_)) ?_
 ·(conv=>whnf)
  exact V.wk
 refine V.r0 jh2 ?_
 refine⟨Pq82z,jgD,V.pok,?_⟩
 refine jbL [(14,.bsl 88 0 2 2),(15,.bsl 91 0 3 2),(13,.box 13 0),(88,.bsl 88 0 2 2),(91,.bsl 91 0 3 2)] [(13,.box [.str (SU 0).1,.str (SU 0).2]),(88,.box [.str [],.str [],.str [],.str []]),(91,.box [.str [],.str [],.str [],.str [],.str [],.str []])] [(0,[(85,.agg [.str (SU 0).1,.str (SU 0).2])],[]),(1,[(86,V.sl2 2 [.str (C 0).1,.str (C 0).2,.str (C 1).1,.str (C 1).2])],[]),(2,[(87,.int .i64 2)],[]),(3,[(88,.bsl 88 0 2 2)],[(88,.box [.str [],.str [],.str [],.str []])]),(4,[(89,.box 5 1)],[]),(5,[(90,.int .i64 3)],[]),(6,[(91,.bsl 91 0 3 2)],[(91,.box [.str [],.str [],.str [],.str [],.str [],.str []])]),(7,[(13,.box 13 0)],[(13,.box [.str [],.str []])]),(8,[],[(13,.box [.str (SU 0).1,.str (SU 0).2])]),(9,[(14,.bsl 88 0 2 2)],[]),(10,[(15,.bsl 91 0 3 2)],[])] ?_ ?_ ?_
 ·exact V.d1 jh2 zf
 ·exact V.d1 jh2 zf
 refine V.r0 jh2 ?_
 refine jac (0:Nat) (fun k=>k≤2) (fun k=>2-k) (fun k=>[(94,.int .i64 (k:Nat))]) (fun k=>[(88,.box (preD (2*k) [.str (SU 0).1,.str (SU 0).2,.str (SU 0).1,.str (SU 0).2]))]) ?_ ?_ ?_
 ·exact V.wk
 ·exact jiF _
 intro k hk
 have hk4:k=0∨k=1∨k=2:=by omega
 rcases hk4 with e|e|e
 all_goals subst e
 ·simp only[k0]
  refine V.r1 jh2 zf ?_
  exact⟨1,by omega,by omega,V.wk⟩
 ·simp only[k1]
  refine V.r1 jh2 zf ?_
  exact⟨2,by omega,by omega,V.wk⟩
 ·simp only[k2]
  refine V.r0 jh2 ?_
  refine jac (0:Nat) (fun k=>k≤3) (fun k=>3-k) (fun k=>[(104,.int .i64 (k:Nat))]) (fun k=>[(91,.box (preD (2*k) [.str (SU 0).1,.str (SU 0).2,.str (SU 0).1,.str (SU 0).2,.str (SU 0).1,.str (SU 0).2]))]) ?_ ?_ ?_
  ·exact V.wk
  ·exact jiF _
  intro k hk
  have hk4:k=0∨k=1∨k=2∨k=3:=by omega
  rcases hk4 with e|e|e|e
  all_goals subst e
  ·simp only[k0]
   refine V.r1 jh2 zf ?_
   exact⟨1,by omega,by omega,V.wk⟩
  ·simp only[k1]
   refine V.r1 jh2 zf ?_
   exact⟨2,by omega,by omega,V.wk⟩
  ·simp only[k2]
   refine V.r1 jh2 zf ?_
   exact⟨3,by omega,by omega,V.wk⟩
  ·simp only[k3]
   refine V.r0 jh2 ?_
   refine .inl ?_
   (conv=>whnf)
   refine⟨100,_,_,⟨Tryz.func19,rfl,rfl,jiE rfl⟩,?_⟩
   refine V.r0 jh2 ?_
   refine⟨fun h=>absurd (h rfl) (by simp),fun _=>?_⟩
   refine V.r0 jh2 ?_
   refine Lp.renSlot 365 18 18 2 (k := .i64) (xs:=[e0,e1]) (by decide) (by decide) rfl rfl ?_
   (conv=>whnf)
   refine jac (0:Nat) (fun k=>k≤3) (fun k=>3-k) (fun k=>[(116,.int .i64 (k:Nat)),(113,.any)]) (fun k=>[(13,.box [.str (SU k).1,.str (SU k).2]),(88,.box [.str (PL k 0).1,.str (PL k 0).2,.str (PL k 1).1,.str (PL k 1).2]),(91,.box [.str (MN k 0).1,.str (MN k 0).2,.str (MN k 1).1,.str (MN k 1).2,.str (MN k 2).1,.str (MN k 2).2]),(18,.arr .i64 (atK [e0,e1] O (min k 2)))]) ?_ ?_ ?_
   ·simp only[zp,zm]
    exact V.wk
   ·exact jiF _
   intro k hk
   have hlat:=hal (min k 2)
   (conv=>whnf)
   refine V.st ?_
   refine V.br (fun h=>?_) (fun h=>?_)
   ·simp only[decide_eq_true_eq] at h
    have hk1:k<3:=by omega
    have hmin:min k 2=k:=by omega
    have hVl:(((V' k).length:Nat):Int)=3:=by rw[hV k hk1];rfl
    have e:(List.take 2 (List.drop (k*2) [.str (W 0).1,.str (W 0).2,.str (W 1).1,.str (W 1).2,.str (W 2).1,.str (W 2).2]):List D)=[.str (W k).1,.str (W k).2]:=jcD W 3 k hk1
    have gak:=fi k hk1
    have vlk:=vl k hk1
    have hPk:=hPD k
    have etk:List.take ([e0,e1]:List Int).length (atK [e0,e1] O k)=atK [e0,e1] O k:=jjr (by rw[hal k];exact jiL _)
    rw[← etk] at gak
    have lek:=le k hk1
    have suk:=su k hk1
    have hbk:=hb k hk1
    rw[hmin] at hlat
    rw[hmin]
    (conv=>whnf)
    (try simp only[jh2])
    repeat ((first|refine V.s1 ?_|((try ((with_reducible refine .ext ?_);(conv=>whnf);(try simp only[jh2])));(with_reducible refine jaa (r:=?_) ?_ ?_);rotate_left;(focus (first|fail));(conv=>whnf))|((simp only[e]);(conv=>whnf)));(try simp only[jh2]))
    refine .inl ?_
    (conv=>whnf)
    refine⟨0,_,_,⟨Tryz.func20,rfl,rfl,jiE rfl⟩,?_⟩
    refine V.r1 jh2 ck ?_
    refine .len ?_
    (conv=>whnf)
    refine⟨18,?_⟩
    (conv=>whnf)
    refine jaa (r:=?_) ?_ ?_
    rotate_left
    (focus exact gak)
    refine V.r1 (V.a2 jh2 hVl) vlk ?_
    refine⟨Pq11z,[],V.pok,?_⟩
    refine jab [(140,.bool false)] [] ?_ ?_
    ·exact V.d2 (V.a2 jh2 hVl) zf lek
    refine V.r1 jh2 suk ?_
    refine jac (0:Nat) (fun i=>i≤2) (fun i=>2-i) (fun i=>[(146,.int .i64 (i:Nat))]) (fun i=>[(88,.box (wce (fun i=>PL (k+1) i) i++List.drop (2*i) (wce (fun i=>PL k i) 2)))]) ?_ ?_ ?_
    ·exact V.wk
    ·exact jiF _
    intro i hi
    have hi4:i=0∨i=1∨i=2:=by omega
    rcases hi4 with e|e|e
    all_goals subst e
    ·simp only[k0]
     have c1:=af k 0 hk1 (by omega)
     have c2:=ta k 0 hk1 (by omega)
     have c3:=pa k 0 hk1 (by omega)
     have hbi:=hbk 0
     refine V.r0 jh2 ?_
     refine⟨Pq13z,[],V.pok,?_⟩
     refine jab [] [(88,.box [.str (PL (k+1) 0).1,.str (PL (k+1) 0).2,.str (PL k 1).1,.str (PL k 1).2])] ?_ ?_
     ·exact V.d3 jh2 c1 c2 c3
     refine V.r0 jh2 ?_
     exact⟨1,by omega,by omega,V.wk⟩
    ·simp only[k1]
     have c1:=af k 1 hk1 (by omega)
     have c2:=ta k 1 hk1 (by omega)
     have c3:=pa k 1 hk1 (by omega)
     have hbi:=hbk 1
     refine V.r0 jh2 ?_
     refine⟨Pq13z,[],V.pok,?_⟩
     refine jab [] [(88,.box [.str (PL (k+1) 0).1,.str (PL (k+1) 0).2,.str (PL (k+1) 1).1,.str (PL (k+1) 1).2])] ?_ ?_
     ·exact V.d3 jh2 c1 c2 c3
     refine V.r0 jh2 ?_
     exact⟨2,by omega,by omega,V.wk⟩
    ·simp only[k2]
     refine V.r0 jh2 ?_
     refine jac (0:Nat) (fun i=>i≤3) (fun i=>3-i) (fun i=>[(167,.int .i64 (i:Nat))]) (fun i=>[(91,.box (wce (fun i=>MN (k+1) i) i++List.drop (2*i) (wce (fun i=>MN k i) 3)))]) ?_ ?_ ?_
     ·exact V.wk
     ·exact jiF _
     intro i hi
     have hi4:i=0∨i=1∨i=2∨i=3:=by omega
     rcases hi4 with e|e|e|e
     all_goals subst e
     ·simp only[k0]
      have c1:=vf k 0 hk1 (by omega)
      have c2:=tv k 0 hk1 (by omega)
      have c3:=pm k 0 hk1 (by omega)
      refine V.r0 jh2 ?_
      refine⟨Pq13z,[],V.pok,?_⟩
      refine jab [] [(91,.box [.str (MN (k+1) 0).1,.str (MN (k+1) 0).2,.str (MN k 1).1,.str (MN k 1).2,.str (MN k 2).1,.str (MN k 2).2])] ?_ ?_
      ·exact V.d3 (V.a2 jh2 hVl) c1 c2 c3
      refine V.r0 jh2 ?_
      exact⟨1,by omega,by omega,V.wk⟩
     ·simp only[k1]
      have c1:=vf k 1 hk1 (by omega)
      have c2:=tv k 1 hk1 (by omega)
      have c3:=pm k 1 hk1 (by omega)
      refine V.r0 jh2 ?_
      refine⟨Pq13z,[],V.pok,?_⟩
      refine jab [] [(91,.box [.str (MN (k+1) 0).1,.str (MN (k+1) 0).2,.str (MN (k+1) 1).1,.str (MN (k+1) 1).2,.str (MN k 2).1,.str (MN k 2).2])] ?_ ?_
      ·exact V.d3 (V.a2 jh2 hVl) c1 c2 c3
      refine V.r0 jh2 ?_
      exact⟨2,by omega,by omega,V.wk⟩
     ·simp only[k2]
      have c1:=vf k 2 hk1 (by omega)
      have c2:=tv k 2 hk1 (by omega)
      have c3:=pm k 2 hk1 (by omega)
      refine V.r0 jh2 ?_
      refine⟨Pq13z,[],V.pok,?_⟩
      refine jab [] [(91,.box [.str (MN (k+1) 0).1,.str (MN (k+1) 0).2,.str (MN (k+1) 1).1,.str (MN (k+1) 1).2,.str (MN (k+1) 2).1,.str (MN (k+1) 2).2])] ?_ ?_
      ·exact V.d3 (V.a2 jh2 hVl) c1 c2 c3
      refine V.r0 jh2 ?_
      exact⟨3,by omega,by omega,V.wk⟩
     ·simp only[k3]
      refine V.r0 (V.a2 jh2 hOl) ?_
      refine V.br (fun h2=>?_) (fun h2=>?_)
      ·simp only[decide_eq_true_eq] at h2
       have hk2:k<2:=by omega
       have hqk:=hq k hk2
       have hbq:=hbk (O.getD k 0).toNat
       have eAt:(atK [e0,e1] O k).set (O.getD k 0).toNat ((atK [e0,e1] O k).getD (O.getD k 0).toNat 0+1)=atK [e0,e1] O (min (k+1) 2):=by
        rw[show min (k+1) 2=k+1 by omega]
        rfl
       refine V.r0 jh2 ?_
       refine Cnd.split (CondB.mk (fun h=>absurd h (by rw[jiT,decide_eq_true_eq,decide_eq_true_eq];(try simp only[jjq,List.length_nil]);omega)) (fun _=>?_))
       refine V.r0 (V.a2 jh2 eAt) ?_
       exact⟨k+1,by omega,by omega,V.wk⟩
      ·simp only[decide_eq_false_iff_not] at h2
       have hm2:min (k+1) 2=k:=by omega
       refine V.r0 jh2 ?_
       refine⟨k+1,by omega,by omega,?_⟩
       simp only[hm2]
       exact V.wk
   ·simp only[decide_eq_false_iff_not] at h
    have hk1:k=3:=by omega
    subst hk1
    rw[show min 3 2=2 from rfl,hend]
    simp only[hy]
    refine V.r0 jh2 ?_
    refine jac (0:Nat) (fun i=>i≤2) (fun i=>2-i) (fun i=>[(216,.int .i64 (i:Nat))]) (fun _=>[]) ?_ ?_ ?_
    ·exact V.wk
    ·exact jiF _
    intro i hi
    have hi4:i=0∨i=1∨i=2:=by omega
    rcases hi4 with e|e|e
    all_goals subst e
    ·simp only[k0]
     have c1:=xf 0 (by omega)
     have c2:=tx 0 (by omega)
     refine V.r0 jh2 ?_
     refine⟨Pq5z,[],V.pok,?_⟩
     refine jab [(247,.bool false)] [] ?_ ?_
     ·(conv=>whnf);(try simp only[jiw,decide_true,jiV,jjb,Bool.not_true,ne_eq,not_true_eq_false,decide_false,Bool.or_self])
      repeat' (first|exact V.wk|((with_reducible refine And.intro ?_ jay);(conv=>whnf);(try simp only[jiw,decide_true,jiV,jjb,Bool.not_true,ne_eq,not_true_eq_false,decide_false,Bool.or_self]))|((with_reducible first|refine jaq ?_ ?_|refine jau ?_ ?_)<;>(conv=>whnf);(try simp only[jiw,decide_true,jiV,jjb,Bool.not_true,ne_eq,not_true_eq_false,decide_false,Bool.or_self]))|((first|refine V.s1 ?_|((with_reducible refine jak ?_ ?_);(focus ((conv=>whnf);(try simp only[jiw,decide_true,jiV,jjb,Bool.not_true,ne_eq,not_true_eq_false,decide_false,Bool.or_self]);(repeat ((first|refine V.s1 ?_);(try simp only[jiw,decide_true,jiV,jjb,Bool.not_true,ne_eq,not_true_eq_false,decide_false,Bool.or_self])));exact⟨rfl⟩));(conv=>whnf))|((try ((with_reducible refine .ext ?_);(conv=>whnf);(try simp only[jiw,decide_true,jiV,jjb,Bool.not_true,ne_eq,not_true_eq_false,decide_false,Bool.or_self])));(with_reducible refine jaa (r:=?_) ?_ ?_);rotate_left;(focus (first|exact(c1)|exact(c2)));(conv=>whnf)));(try simp only[jiw,decide_true,jiV,jjb,Bool.not_true,ne_eq,not_true_eq_false,decide_false,Bool.or_self]))|(refine And.intro ?_ ?_<;>(conv=>whnf);(try simp only[jiw,decide_true,jiV,jjb,Bool.not_true,ne_eq,not_true_eq_false,decide_false,Bool.or_self])))
     refine V.r0 jh2 ?_
     exact⟨1,by omega,by omega,V.wk⟩
    ·simp only[k1]
     have c1:=xf 1 (by omega)
     have c2:=tx 1 (by omega)
     refine V.r0 jh2 ?_
     refine⟨Pq5z,[],V.pok,?_⟩
     refine jab [(247,.bool false)] [] ?_ ?_
     ·(conv=>whnf);(try simp only[jiw,decide_true,jiV,jjb,Bool.not_true,ne_eq,not_true_eq_false,decide_false,Bool.or_self])
      repeat' (first|exact V.wk|((with_reducible refine And.intro ?_ jay);(conv=>whnf);(try simp only[jiw,decide_true,jiV,jjb,Bool.not_true,ne_eq,not_true_eq_false,decide_false,Bool.or_self]))|((with_reducible first|refine jaq ?_ ?_|refine jau ?_ ?_)<;>(conv=>whnf);(try simp only[jiw,decide_true,jiV,jjb,Bool.not_true,ne_eq,not_true_eq_false,decide_false,Bool.or_self]))|((first|refine V.s1 ?_|((with_reducible refine jak ?_ ?_);(focus ((conv=>whnf);(try simp only[jiw,decide_true,jiV,jjb,Bool.not_true,ne_eq,not_true_eq_false,decide_false,Bool.or_self]);(repeat ((first|refine V.s1 ?_);(try simp only[jiw,decide_true,jiV,jjb,Bool.not_true,ne_eq,not_true_eq_false,decide_false,Bool.or_self])));exact⟨rfl⟩));(conv=>whnf))|((try ((with_reducible refine .ext ?_);(conv=>whnf);(try simp only[jiw,decide_true,jiV,jjb,Bool.not_true,ne_eq,not_true_eq_false,decide_false,Bool.or_self])));(with_reducible refine jaa (r:=?_) ?_ ?_);rotate_left;(focus (first|exact(c1)|exact(c2)));(conv=>whnf)));(try simp only[jiw,decide_true,jiV,jjb,Bool.not_true,ne_eq,not_true_eq_false,decide_false,Bool.or_self]))|(refine And.intro ?_ ?_<;>(conv=>whnf);(try simp only[jiw,decide_true,jiV,jjb,Bool.not_true,ne_eq,not_true_eq_false,decide_false,Bool.or_self])))
     refine V.r0 jh2 ?_
     exact⟨2,by omega,by omega,V.wk⟩
    ·simp only[k2]
     refine V.r0 jh2 ?_
     refine⟨Pq81z,[],V.pok,?_⟩
     refine jab [(4,.bool true),(15,.any),(91,.any),(102,.any),(165,.any),(170,.any),(172,.any),(184,.any)] [(91,.gone)] ?_ ?_
     ·exact V.d2 (V.a4 jiw @decide_true @jiV @jjb) o1 eq
     refine V.r0 jh2 ?_
     exact Fin.of rfl
end Go.Proofs.YtgjgpdceghjajaaGreatDoor
end
