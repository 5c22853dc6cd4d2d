/- What functions of the program answer at given values, part 13. Conditions: those that each theorem names. -/
import Derived.Test.YtgjgpdceghjajaaGreatDoorSimplexSwapsH12
import Derived.Test.YtgjgpdceghjajaaGreatDoorSimplexSwapsH10
import Derived.Test.YtgjgpdceghjajaaGreatDoorSimplexSwapsH11
import Derived.Test.YtgjgpdceghjajaaGreatDoorSimplexSwapsH6
set_option linter.unusedSimpArgs false
set_option linter.unusedVariables false
set_option maxHeartbeats 8000000
set_option maxRecDepth 100000
section
namespace Go.Proofs.YtgjgpdceghjajaaGreatDoor
open Go Go.V Go.Nb
theorem pad2 (a b c d e:Rat):a+b+(c-0)*d+0*e=a+b+c*d:=by grind
theorem pad1 (a c d e f:Rat):a+(c-0)*d+(0-0)*e+0*f=a+c*d:=by grind
theorem inr9 {z:Int}(h:0≤z∧z≤100):InR .i64 z:=⟨by show (-9223372036854775808:Int)≤z;omega,by show z≤9223372036854775807;omega⟩
theorem corn1 {O:List Int}(h:O=[0])(b0:Int):O.length=1∧(∀ k,k<1→0≤O.getD k 0∧O.getD k 0<4) ∧ ∀ k,k<2 → ∃ i0:Int,atK [b0,0,0,0] O k=[i0,0,0,0]∧b0≤i0∧i0≤b0+1:=by
 subst h
 ·refine⟨rfl,fun k hk=>?_,fun k hk=>?_⟩
  ·have h:k=0:=by omega
   subst h
   decide
  ·have h:k=0∨k=1:=by omega
   rcases h with rfl|rfl
   ·exact⟨b0,rfl,by omega⟩
   ·exact⟨b0+1,rfl,by omega⟩
theorem ev1_sm {x0:Rat}{z0:Int}(s0:2≤z0)(out:Int)(data:List Int)(j:Nat):evQ [z0] out data x0 0 0 j=smF (fun k=>wqN (rqN (spR z0 x0) 0 0) [0] 1 k*(((slot data (pz ([z0].zip ((atK [spB z0 x0,0,0,0] [0] k).take 1))*out) out).getD j 0:Int):Rat)) 1/65535:=by
 unfold evQ
 refine congrArg (· / 65535) ?_
 show evF z0 2 2 (gvF [z0] out data j) x0 0 0=_
 unfold evF
 rw[sp_20.1,sp_20.2,ord3_10 (spR_nn s0 x0)]
 all_goals exact pad1 _ _ _ _ _
theorem valq1 {x0:Rat}{z0 out:Int}{data:List Int}(hg:jak [z0] out data=true)(h0:Fq 40 x0) :
  Cl 45 [.agg [.ints .i64 [z0],.int .i64 out,.ints .i64 data,.ints .i64 [spB z0 x0],.ints .i64 [0],slQ (fun k=>txq (wqN (rqN (spR z0 x0) 0 0) [0] 1 k)) 2]] (.tup [slQ (fun j=>txq (evQ [z0] out data x0 0 0 j)) out.toNat,.int .i64 0]):=by
 have og:=jaI hg
 have s0:=og.2.1 z0 (by simp)
 have f0:=jbX h0 (by decide) s0
 have b0:=jdT s0.1 x0
 have fr:∀ k,Fq 43 (rqN (spR z0 x0) 0 0 k):=fq_rq f0 jc5 jc5
 obtain⟨ol,ox,oc⟩:=corn1 (O:=[0]) rfl (spB z0 x0)
 have oi:∀ k,k<2→okIdx [z0] ((atK [spB z0 x0,0,0,0] [0] k).take 1)=true:=by
  intro k hk
  obtain⟨i0,e,hh⟩:=oc k hk
  rw[e]
  simp[okIdx]
  omega
 have g:=valU1 z0 (spB z0 x0) out data [0] (rqN (spR z0 x0) 0 0) fr (fun k=>slot data (pz ([z0].zip ((atK [spB z0 x0,0,0,0] [0] k).take 1))*out) out) og.1 (fun k hk=>⟨jcY hg (oi k hk),jcs og.2.2.2 _ _⟩) ol ox (fun k hk=>?_) (fun k hk=>?_)
 ·rw[show (fun j=>txq (evQ [z0] out data x0 0 0 j))=_ from funext fun j=>congrArg txq (ev1_sm s0.1 out data j)]
  exact g
 ·obtain⟨i0,e,hh⟩:=oc k (by omega)
  rw[e]
  refine inr9 ?_
  have:=jbG (l:=[i0,0,0,0]) (p:=fun v=>0≤v∧v≤9) (by intro v hv;simp only[jiB,List.not_mem_nil,or_false] at hv;omega) (by omega) (([0]:List Int).getD k 0).toNat
  omega
 ·exact point1_t z0 (spB z0 x0) out data _ _ _ (fun k=>txq (wqN (rqN (spR z0 x0) 0 0) [0] 1 k)) (ja5 _ _ k rfl) (gat_at hg (oi k hk) (by simp) (by rw[jiF];omega))
theorem corn2 {O:List Int}(h:O=[0,1]∨O=[1,0])(b0 b1:Int):O.length=2∧(∀ k,k<2→0≤O.getD k 0∧O.getD k 0<4) ∧ ∀ k,k<3 → ∃ i0 i1:Int,atK [b0,b1,0,0] O k=[i0,i1,0,0]∧b0≤i0∧i0≤b0+1∧b1≤i1∧i1≤b1+1:=by
 rcases h with rfl|rfl
 ·refine⟨rfl,fun k hk=>?_,fun k hk=>?_⟩
  ·have h:k=0∨k=1:=by omega
   rcases h with rfl|rfl<;>decide
  ·have h:k=0∨k=1∨k=2:=by omega
   rcases h with rfl|rfl|rfl
   ·exact⟨b0,b1,rfl,by omega⟩
   ·exact⟨b0+1,b1,rfl,by omega⟩
   ·exact⟨b0+1,b1+1,rfl,by omega⟩
 ·refine⟨rfl,fun k hk=>?_,fun k hk=>?_⟩
  ·have h:k=0∨k=1:=by omega
   rcases h with rfl|rfl<;>decide
  ·have h:k=0∨k=1∨k=2:=by omega
   rcases h with rfl|rfl|rfl
   ·exact⟨b0,b1,rfl,by omega⟩
   ·exact⟨b0,b1+1,rfl,by omega⟩
   ·exact⟨b0+1,b1+1,rfl,by omega⟩
theorem ev2_sm {x0 x1:Rat}{z0 z1:Int}(s0:2≤z0)(s1:2≤z1)(out:Int)(data:List Int)(j:Nat):evQ [z0,z1] out data x0 x1 0 j=smF (fun k=>wqN (rqN (spR z0 x0) (spR z1 x1) 0) (ord2 (spR z0 x0) (spR z1 x1)) 2 k*(((slot data (pz ([z0,z1].zip ((atK [spB z0 x0,spB z1 x1,0,0] (ord2 (spR z0 x0) (spR z1 x1)) k).take 2))*out) out).getD j 0:Int):Rat)) 2/65535:=by
 unfold evQ
 refine congrArg (· / 65535) ?_
 show evF z0 z1 2 (gvF [z0,z1] out data j) x0 x1 0=_
 unfold evF
 rw[sp_20.1,sp_20.2,ord3_20 (spR_nn s0 x0) (spR_nn s1 x1)]
 rcases ord2_mem (spR z0 x0) (spR z1 x1) with e|e
 all_goals rw[e]
 all_goals exact pad2 _ _ _ _ _
theorem valq2 {x0 x1:Rat}{z0 z1 out:Int}{data:List Int}(hg:jak [z0,z1] out data=true)(h0:Fq 40 x0)(h1:Fq 40 x1) :
  Cl 45 [.agg [.ints .i64 [z0,z1],.int .i64 out,.ints .i64 data,.ints .i64 [spB z0 x0,spB z1 x1],.ints .i64 (ord2 (spR z0 x0) (spR z1 x1)),slQ (fun k=>txq (wqN (rqN (spR z0 x0) (spR z1 x1) 0) (ord2 (spR z0 x0) (spR z1 x1)) 2 k)) 3]] (.tup [slQ (fun j=>txq (evQ [z0,z1] out data x0 x1 0 j)) out.toNat,.int .i64 0]):=by
 have og:=jaI hg
 have s0:=og.2.1 z0 (by simp)
 have f0:=jbX h0 (by decide) s0
 have b0:=jdT s0.1 x0
 have s1:=og.2.1 z1 (by simp)
 have f1:=jbX h1 (by decide) s1
 have b1:=jdT s1.1 x1
 have fr:∀ k,Fq 43 (rqN (spR z0 x0) (spR z1 x1) 0 k):=fq_rq f0 f1 jc5
 obtain⟨ol,ox,oc⟩:=corn2 (O:=(ord2 (spR z0 x0) (spR z1 x1))) (ord2_mem _ _) (spB z0 x0) (spB z1 x1)
 have oi:∀ k,k<3→okIdx [z0,z1] ((atK [spB z0 x0,spB z1 x1,0,0] (ord2 (spR z0 x0) (spR z1 x1)) k).take 2)=true:=by
  intro k hk
  obtain⟨i0,i1,e,hh⟩:=oc k hk
  rw[e]
  simp[okIdx]
  omega
 have g:=valU2 z0 z1 (spB z0 x0) (spB z1 x1) out data (ord2 (spR z0 x0) (spR z1 x1)) (rqN (spR z0 x0) (spR z1 x1) 0) fr (fun k=>slot data (pz ([z0,z1].zip ((atK [spB z0 x0,spB z1 x1,0,0] (ord2 (spR z0 x0) (spR z1 x1)) k).take 2))*out) out) og.1 (fun k hk=>⟨jcY hg (oi k hk),jcs og.2.2.2 _ _⟩) ol ox (fun k hk=>?_) (fun k hk=>?_)
 ·rw[show (fun j=>txq (evQ [z0,z1] out data x0 x1 0 j))=_ from funext fun j=>congrArg txq (ev2_sm s0.1 s1.1 out data j)]
  exact g
 ·obtain⟨i0,i1,e,hh⟩:=oc k (by omega)
  rw[e]
  refine inr9 ?_
  have:=jbG (l:=[i0,i1,0,0]) (p:=fun v=>0≤v∧v≤9) (by intro v hv;simp only[jiB,List.not_mem_nil,or_false] at hv;omega) (by omega) (((ord2 (spR z0 x0) (spR z1 x1)):List Int).getD k 0).toNat
  omega
 ·exact point2_t z0 z1 (spB z0 x0) (spB z1 x1) out data _ _ _ (fun k=>txq (wqN (rqN (spR z0 x0) (spR z1 x1) 0) (ord2 (spR z0 x0) (spR z1 x1)) 2 k)) (ja5 _ _ k rfl) (gat_at hg (oi k hk) (by simp) (by rw[jiF];omega))
theorem corn3 {O:List Int}(h:O=[0,1,2]∨O=[0,2,1]∨O=[1,0,2]∨O=[1,2,0]∨O=[2,0,1]∨O=[2,1,0])(b0 b1 b2:Int):O.length=3∧(∀ k,k<3→0≤O.getD k 0∧O.getD k 0<4) ∧ ∀ k,k<4 → ∃ i0 i1 i2:Int,atK [b0,b1,b2,0] O k=[i0,i1,i2,0]∧b0≤i0∧i0≤b0+1∧b1≤i1∧i1≤b1+1∧b2≤i2∧i2≤b2+1:=by
 rcases h with rfl|rfl|rfl|rfl|rfl|rfl
 ·refine⟨rfl,fun k hk=>?_,fun k hk=>?_⟩
  ·have h:k=0∨k=1∨k=2:=by omega
   rcases h with rfl|rfl|rfl<;>decide
  ·have h:k=0∨k=1∨k=2∨k=3:=by omega
   rcases h with rfl|rfl|rfl|rfl
   ·exact⟨b0,b1,b2,rfl,by omega⟩
   ·exact⟨b0+1,b1,b2,rfl,by omega⟩
   ·exact⟨b0+1,b1+1,b2,rfl,by omega⟩
   ·exact⟨b0+1,b1+1,b2+1,rfl,by omega⟩
 ·refine⟨rfl,fun k hk=>?_,fun k hk=>?_⟩
  ·have h:k=0∨k=1∨k=2:=by omega
   rcases h with rfl|rfl|rfl<;>decide
  ·have h:k=0∨k=1∨k=2∨k=3:=by omega
   rcases h with rfl|rfl|rfl|rfl
   ·exact⟨b0,b1,b2,rfl,by omega⟩
   ·exact⟨b0+1,b1,b2,rfl,by omega⟩
   ·exact⟨b0+1,b1,b2+1,rfl,by omega⟩
   ·exact⟨b0+1,b1+1,b2+1,rfl,by omega⟩
 ·refine⟨rfl,fun k hk=>?_,fun k hk=>?_⟩
  ·have h:k=0∨k=1∨k=2:=by omega
   rcases h with rfl|rfl|rfl<;>decide
  ·have h:k=0∨k=1∨k=2∨k=3:=by omega
   rcases h with rfl|rfl|rfl|rfl
   ·exact⟨b0,b1,b2,rfl,by omega⟩
   ·exact⟨b0,b1+1,b2,rfl,by omega⟩
   ·exact⟨b0+1,b1+1,b2,rfl,by omega⟩
   ·exact⟨b0+1,b1+1,b2+1,rfl,by omega⟩
 ·refine⟨rfl,fun k hk=>?_,fun k hk=>?_⟩
  ·have h:k=0∨k=1∨k=2:=by omega
   rcases h with rfl|rfl|rfl<;>decide
  ·have h:k=0∨k=1∨k=2∨k=3:=by omega
   rcases h with rfl|rfl|rfl|rfl
   ·exact⟨b0,b1,b2,rfl,by omega⟩
   ·exact⟨b0,b1+1,b2,rfl,by omega⟩
   ·exact⟨b0,b1+1,b2+1,rfl,by omega⟩
   ·exact⟨b0+1,b1+1,b2+1,rfl,by omega⟩
 ·refine⟨rfl,fun k hk=>?_,fun k hk=>?_⟩
  ·have h:k=0∨k=1∨k=2:=by omega
   rcases h with rfl|rfl|rfl<;>decide
  ·have h:k=0∨k=1∨k=2∨k=3:=by omega
   rcases h with rfl|rfl|rfl|rfl
   ·exact⟨b0,b1,b2,rfl,by omega⟩
   ·exact⟨b0,b1,b2+1,rfl,by omega⟩
   ·exact⟨b0+1,b1,b2+1,rfl,by omega⟩
   ·exact⟨b0+1,b1+1,b2+1,rfl,by omega⟩
 ·refine⟨rfl,fun k hk=>?_,fun k hk=>?_⟩
  ·have h:k=0∨k=1∨k=2:=by omega
   rcases h with rfl|rfl|rfl<;>decide
  ·have h:k=0∨k=1∨k=2∨k=3:=by omega
   rcases h with rfl|rfl|rfl|rfl
   ·exact⟨b0,b1,b2,rfl,by omega⟩
   ·exact⟨b0,b1,b2+1,rfl,by omega⟩
   ·exact⟨b0,b1+1,b2+1,rfl,by omega⟩
   ·exact⟨b0+1,b1+1,b2+1,rfl,by omega⟩
theorem ev3_sm {x0 x1 x2:Rat}{z0 z1 z2:Int}(s0:2≤z0)(s1:2≤z1)(s2:2≤z2)(out:Int)(data:List Int)(j:Nat):evQ [z0,z1,z2] out data x0 x1 x2 j=smF (fun k=>wqN (rqN (spR z0 x0) (spR z1 x1) (spR z2 x2)) (ord3 (spR z0 x0) (spR z1 x1) (spR z2 x2)) 3 k*(((slot data (pz ([z0,z1,z2].zip ((atK [spB z0 x0,spB z1 x1,spB z2 x2,0] (ord3 (spR z0 x0) (spR z1 x1) (spR z2 x2)) k).take 3))*out) out).getD j 0:Int):Rat)) 3/65535:=by
 unfold evQ
 refine congrArg (· / 65535) ?_
 show evF z0 z1 z2 (gvF [z0,z1,z2] out data j) x0 x1 x2=_
 unfold evF
 rcases ord3_mem (spR z0 x0) (spR z1 x1) (spR z2 x2) with e|e|e|e|e|e
 all_goals rw[e]
 all_goals exact rfl
theorem valq3 {x0 x1 x2:Rat}{z0 z1 z2 out:Int}{data:List Int}(hg:jak [z0,z1,z2] out data=true)(h0:Fq 40 x0)(h1:Fq 40 x1)(h2:Fq 40 x2) :
  Cl 45 [.agg [.ints .i64 [z0,z1,z2],.int .i64 out,.ints .i64 data,.ints .i64 [spB z0 x0,spB z1 x1,spB z2 x2],.ints .i64 (ord3 (spR z0 x0) (spR z1 x1) (spR z2 x2)),slQ (fun k=>txq (wqN (rqN (spR z0 x0) (spR z1 x1) (spR z2 x2)) (ord3 (spR z0 x0) (spR z1 x1) (spR z2 x2)) 3 k)) 4]] (.tup [slQ (fun j=>txq (evQ [z0,z1,z2] out data x0 x1 x2 j)) out.toNat,.int .i64 0]):=by
 have og:=jaI hg
 have s0:=og.2.1 z0 (by simp)
 have f0:=jbX h0 (by decide) s0
 have b0:=jdT s0.1 x0
 have s1:=og.2.1 z1 (by simp)
 have f1:=jbX h1 (by decide) s1
 have b1:=jdT s1.1 x1
 have s2:=og.2.1 z2 (by simp)
 have f2:=jbX h2 (by decide) s2
 have b2:=jdT s2.1 x2
 have fr:∀ k,Fq 43 (rqN (spR z0 x0) (spR z1 x1) (spR z2 x2) k):=fq_rq f0 f1 f2
 obtain⟨ol,ox,oc⟩:=corn3 (O:=(ord3 (spR z0 x0) (spR z1 x1) (spR z2 x2))) (ord3_mem _ _ _) (spB z0 x0) (spB z1 x1) (spB z2 x2)
 have oi:∀ k,k<4→okIdx [z0,z1,z2] ((atK [spB z0 x0,spB z1 x1,spB z2 x2,0] (ord3 (spR z0 x0) (spR z1 x1) (spR z2 x2)) k).take 3)=true:=by
  intro k hk
  obtain⟨i0,i1,i2,e,hh⟩:=oc k hk
  rw[e]
  simp[okIdx]
  omega
 have g:=valU3 z0 z1 z2 (spB z0 x0) (spB z1 x1) (spB z2 x2) out data (ord3 (spR z0 x0) (spR z1 x1) (spR z2 x2)) (rqN (spR z0 x0) (spR z1 x1) (spR z2 x2)) fr (fun k=>slot data (pz ([z0,z1,z2].zip ((atK [spB z0 x0,spB z1 x1,spB z2 x2,0] (ord3 (spR z0 x0) (spR z1 x1) (spR z2 x2)) k).take 3))*out) out) og.1 (fun k hk=>⟨jcY hg (oi k hk),jcs og.2.2.2 _ _⟩) ol ox (fun k hk=>?_) (fun k hk=>?_)
 ·rw[show (fun j=>txq (evQ [z0,z1,z2] out data x0 x1 x2 j))=_ from funext fun j=>congrArg txq (ev3_sm s0.1 s1.1 s2.1 out data j)]
  exact g
 ·obtain⟨i0,i1,i2,e,hh⟩:=oc k (by omega)
  rw[e]
  refine inr9 ?_
  have:=jbG (l:=[i0,i1,i2,0]) (p:=fun v=>0≤v∧v≤9) (by intro v hv;simp only[jiB,List.not_mem_nil,or_false] at hv;omega) (by omega) (((ord3 (spR z0 x0) (spR z1 x1) (spR z2 x2)):List Int).getD k 0).toNat
  omega
 ·exact point3_t z0 z1 z2 (spB z0 x0) (spB z1 x1) (spB z2 x2) out data _ _ _ (fun k=>txq (wqN (rqN (spR z0 x0) (spR z1 x1) (spR z2 x2)) (ord3 (spR z0 x0) (spR z1 x1) (spR z2 x2)) 3 k)) (ja5 _ _ k rfl) (gat_at hg (oi k hk) (by simp) (by rw[jiF];omega))
theorem zX20_0:type_of% @jh7∧type_of% @tn0∧type_of% @tn1∧type_of% @tn2∧type_of% @tn3∧type_of% @xt4:=⟨@jh7,@tn0,@tn1,@tn2,@tn3,@xt4⟩
theorem loc1_t (z0 out:Int)(data B O:List Int)(X:Nat→Tx)(m:Nat)(F:Nat→List D)(ck:Cl 37 [.agg [.ints .i64 [z0],.int .i64 out,.ints .i64 data]] (.int .i64 0))(fc:∀ k,k<1→Cl 78 [.agg [.str (X k).1,.str (X k).2]] (.int .i64 0))(fi:Cl 79 [.agg [.ints .i64 [z0],.int .i64 out,.ints .i64 data],V.sl2 1 [.str (X 0).1,.str (X 0).2]] (.tup [.agg [.ints .i64 [z0],.int .i64 out,.ints .i64 data,.ints .i64 B,.ints .i64 O,.slf 2 m F],.int .i64 0])) :
  Cl 44 [.agg [.ints .i64 [z0],.int .i64 out,.ints .i64 data],V.sl2 1 [.str (X 0).1,.str (X 0).2]] (.tup [.agg [.ints .i64 [z0],.int .i64 out,.ints .i64 data,.ints .i64 B,.ints .i64 O,.slf 2 m F],.int .i64 0]):=by
 refine V.en tbOk Tryz.func44 ?_
 refine V.r1 @jh7 ck ?_
 refine Cnd.split (CondB.mk (fun h=>absurd h (by simp)) (fun _=>?_))
 refine V.r0 @jh7 ?_
 refine jae (0) (fun k=>k≤1) (fun k=>1-k) (fun k=>[(25,.int .i64 k)]) (fun k=>[]) ?_ ?_ ?_
 ·exact V.wk
 ·exact jh4 _
 intro k hk
 have hk4:k=0∨k=1:=by omega
 rcases hk4 with e|e
 all_goals subst e
 ·simp only[k0]
  have c:=fc 0 (by omega)
  refine V.r1 (V.a3 zX20_0 @Bool.false_eq_true @if_false.{1}) c ?_
  exact⟨1,by omega,by omega,V.wk⟩
 ·simp only[k1]
  refine V.r1 @jh7 fi ?_
  exact Fin.of rfl
theorem loc2_t (z0 z1 out:Int)(data B O:List Int)(X:Nat→Tx)(m:Nat)(F:Nat→List D)(ck:Cl 37 [.agg [.ints .i64 [z0,z1],.int .i64 out,.ints .i64 data]] (.int .i64 0))(fc:∀ k,k<2→Cl 78 [.agg [.str (X k).1,.str (X k).2]] (.int .i64 0))(fi:Cl 79 [.agg [.ints .i64 [z0,z1],.int .i64 out,.ints .i64 data],V.sl2 2 [.str (X 0).1,.str (X 0).2,.str (X 1).1,.str (X 1).2]] (.tup [.agg [.ints .i64 [z0,z1],.int .i64 out,.ints .i64 data,.ints .i64 B,.ints .i64 O,.slf 2 m F],.int .i64 0])) :
  Cl 44 [.agg [.ints .i64 [z0,z1],.int .i64 out,.ints .i64 data],V.sl2 2 [.str (X 0).1,.str (X 0).2,.str (X 1).1,.str (X 1).2]] (.tup [.agg [.ints .i64 [z0,z1],.int .i64 out,.ints .i64 data,.ints .i64 B,.ints .i64 O,.slf 2 m F],.int .i64 0]):=by
 refine V.en tbOk Tryz.func44 ?_
 refine V.r1 @jh7 ck ?_
 refine Cnd.split (CondB.mk (fun h=>absurd h (by simp)) (fun _=>?_))
 refine V.r0 @jh7 ?_
 refine jae (0) (fun k=>k≤2) (fun k=>2-k) (fun k=>[(25,.int .i64 k)]) (fun k=>[]) ?_ ?_ ?_
 ·exact V.wk
 ·exact jh4 _
 intro k hk
 have hk4:k=0∨k=1∨k=2:=by omega
 rcases hk4 with e|e|e
 all_goals subst e
 ·simp only[k0]
  have c:=fc 0 (by omega)
  refine V.r1 (V.a3 zX20_0 @Bool.false_eq_true @if_false.{1}) c ?_
  exact⟨1,by omega,by omega,V.wk⟩
 ·simp only[k1]
  have c:=fc 1 (by omega)
  refine V.r1 (V.a3 zX20_0 @Bool.false_eq_true @if_false.{1}) c ?_
  exact⟨2,by omega,by omega,V.wk⟩
 ·simp only[k2]
  refine V.r1 @jh7 fi ?_
  exact Fin.of rfl
theorem loc3_t (z0 z1 z2 out:Int)(data B O:List Int)(X:Nat→Tx)(m:Nat)(F:Nat→List D)(ck:Cl 37 [.agg [.ints .i64 [z0,z1,z2],.int .i64 out,.ints .i64 data]] (.int .i64 0))(fc:∀ k,k<3→Cl 78 [.agg [.str (X k).1,.str (X k).2]] (.int .i64 0))(fi:Cl 79 [.agg [.ints .i64 [z0,z1,z2],.int .i64 out,.ints .i64 data],V.sl2 3 [.str (X 0).1,.str (X 0).2,.str (X 1).1,.str (X 1).2,.str (X 2).1,.str (X 2).2]] (.tup [.agg [.ints .i64 [z0,z1,z2],.int .i64 out,.ints .i64 data,.ints .i64 B,.ints .i64 O,.slf 2 m F],.int .i64 0])) :
  Cl 44 [.agg [.ints .i64 [z0,z1,z2],.int .i64 out,.ints .i64 data],V.sl2 3 [.str (X 0).1,.str (X 0).2,.str (X 1).1,.str (X 1).2,.str (X 2).1,.str (X 2).2]] (.tup [.agg [.ints .i64 [z0,z1,z2],.int .i64 out,.ints .i64 data,.ints .i64 B,.ints .i64 O,.slf 2 m F],.int .i64 0]):=by
 refine V.en tbOk Tryz.func44 ?_
 refine V.r1 @jh7 ck ?_
 refine Cnd.split (CondB.mk (fun h=>absurd h (by simp)) (fun _=>?_))
 refine V.r0 @jh7 ?_
 refine jae (0) (fun k=>k≤3) (fun k=>3-k) (fun k=>[(25,.int .i64 k)]) (fun k=>[]) ?_ ?_ ?_
 ·exact V.wk
 ·exact jh4 _
 intro k hk
 have hk4:k=0∨k=1∨k=2∨k=3:=by omega
 rcases hk4 with e|e|e|e
 all_goals subst e
 ·simp only[k0]
  have c:=fc 0 (by omega)
  refine V.r1 (V.a3 zX20_0 @Bool.false_eq_true @if_false.{1}) c ?_
  exact⟨1,by omega,by omega,V.wk⟩
 ·simp only[k1]
  have c:=fc 1 (by omega)
  refine V.r1 (V.a3 zX20_0 @Bool.false_eq_true @if_false.{1}) c ?_
  exact⟨2,by omega,by omega,V.wk⟩
 ·simp only[k2]
  have c:=fc 2 (by omega)
  refine V.r1 (V.a3 zX20_0 @Bool.false_eq_true @if_false.{1}) c ?_
  exact⟨3,by omega,by omega,V.wk⟩
 ·simp only[k3]
  refine V.r1 @jh7 fi ?_
  exact Fin.of rfl
theorem eval_t (zs data B O:List Int)(out:Int)(n m e0:Nat)(X F Y:Nat→List D)(lo:Cl 44 [.agg [.ints .i64 zs,.int .i64 out,.ints .i64 data],.slf 2 n X] (.tup [.agg [.ints .i64 zs,.int .i64 out,.ints .i64 data,.ints .i64 B,.ints .i64 O,.slf 2 m F],.int .i64 0]))(va:Cl 45 [.agg [.ints .i64 zs,.int .i64 out,.ints .i64 data,.ints .i64 B,.ints .i64 O,.slf 2 m F]] (.tup [.slf 2 e0 Y,.int .i64 0])) :
  Cl 15 [.agg [.ints .i64 zs,.int .i64 out,.ints .i64 data],.slf 2 n X] (.tup [.slf 2 e0 Y,.int .i64 0]):=by
 refine V.en tbOk Tryz.func15 ?_
 refine V.r2 @jh7 lo va ?_
 exact Fin.of rfl
theorem cell_t (zs data B O:List Int)(out:Int)(n m:Nat)(X F:Nat→List D)(lo:Cl 44 [.agg [.ints .i64 zs,.int .i64 out,.ints .i64 data],.slf 2 n X] (.tup [.agg [.ints .i64 zs,.int .i64 out,.ints .i64 data,.ints .i64 B,.ints .i64 O,.slf 2 m F],.int .i64 0])) :
  Cl 17 [.agg [.ints .i64 zs,.int .i64 out,.ints .i64 data],.slf 2 n X] (.tup [.ints .i64 B,.ints .i64 O,.slf 2 m F,.int .i64 0]):=by
 refine V.en tbOk Tryz.func17 ?_
 refine V.r1 @jh7 lo ?_
 refine⟨(V.tk [0,1,2,3,4,5,6,7,8,9] .done),[],V.pok,?_⟩
 refine jab [(4,.ints .i64 B),(5,.ints .i64 O),(6,.slf 2 m F),(7,.int .i64 0)] [] ?_ ?_
 ·exact V.d0 @jh7
 refine V.r0 @jh7 ?_
 exact Fin.of rfl
theorem loc_len (zs data:List Int)(out:Int)(n:Nat)(X:Nat→List D)(h:n≠zs.length)(ck:Cl 37 [.agg [.ints .i64 zs,.int .i64 out,.ints .i64 data]] (.int .i64 0)) :
  Cl 44 [.agg [.ints .i64 zs,.int .i64 out,.ints .i64 data],.slf 2 n X] (.tup [.agg [.nil,.int .i64 0,.nil,.nil,.nil,.nil],.int .i64 2]):=by
 refine V.en tbOk Tryz.func44 ?_
 refine V.r1 @jh7 ck ?_
 refine Cnd.split (CondB.mk (fun _=>?_) (fun g=>absurd (decide_eq_true (show ((n:Int)≠(zs.length:Int)) from by omega)) (by rw[g];decide)))
 refine V.r0 @jh7 ?_
 exact Fin.of rfl
theorem eval_e (zs data:List Int)(out e:Int)(he:e≠0)(n:Nat)(X:Nat→List D)(lo:Cl 44 [.agg [.ints .i64 zs,.int .i64 out,.ints .i64 data],.slf 2 n X] (.tup [.agg [.nil,.int .i64 0,.nil,.nil,.nil,.nil],.int .i64 e])) :
  Cl 15 [.agg [.ints .i64 zs,.int .i64 out,.ints .i64 data],.slf 2 n X] (.tup [.nil,.int .i64 e]):=by
 refine V.en tbOk Tryz.func15 ?_
 refine V.r1 @jh7 lo ?_
 refine Cnd.split (CondB.mk (fun _=>?_) (fun g=>absurd (decide_eq_true he) (by rw[g];decide)))
 refine V.r0 @jh7 ?_
 exact Fin.of rfl
theorem jcP {n:Nat}{q:Rat}(h:Fq n q)(h0:0<n∧n≤600):Cl 78 [frT q] (.int .i64 0):=by
 have o:=jbc (h.ok h0.1 h0.2)
 have b:=h.ok h0.1 h0.2
 unfold okF at b
 simp only[jh2,decide_eq_true_eq] at b
 have c:=fcheck_c (decZ q.num) (dec q.den) (by unfold decZ;split<;>(try simp only[jiN])<;>omega) (by omega)
 rw[o.1] at c
 exact c
theorem jdw {zs:List Int}{out:Int}{data:List Int}(hg:jak zs out data=true)(hl:zs.length≤4):Cl 37 [gridD zs out data] (.int .i64 0):=by
 have o:=jaI hg
 have c:=jdR zs out data (by omega) (by omega)
 rw[hg] at c
 exact c
theorem locq1 {x0:Rat}{z0 out:Int}{data:List Int}(hg:jak [z0] out data=true)(h0:Fq 40 x0):Cl 44 [gridD [z0] out data,slQ (fun i=>txq (rqN x0 0 0 i)) 1] (.tup [.agg [.ints .i64 [z0],.int .i64 out,.ints .i64 data,.ints .i64 [spB z0 x0],.ints .i64 [0],slQ (fun k=>txq (wqN (rqN (spR z0 x0) 0 0) [0] 1 k)) 2],.int .i64 0]):=by
 have og:=jaI hg
 have s0:=og.2.1 z0 (by simp)
 have fc:∀ k,k<1→Cl 78 [frT (rqN x0 0 0 k)] (.int .i64 0):=fun k hk=>by
  have h:k=0:=by omega
  subst h
  ·exact jcP h0 (by decide)
 exact loc1_t z0 out data _ _ (fun i=>txq (rqN x0 0 0 i)) _ _ (jdw hg (by simp)) fc (find1_q out data h0 s0)
theorem evalq1 {x0:Rat}{z0 out:Int}{data:List Int}(hg:jak [z0] out data=true)(h0:Fq 40 x0):Cl 15 [gridD [z0] out data,slQ (fun i=>txq (rqN x0 0 0 i)) 1] (.tup [slQ (fun j=>txq (evQ [z0] out data x0 0 0 j)) out.toNat,.int .i64 0]):=
 eval_t _ _ _ _ _ _ _ _ _ _ _ (locq1 hg h0) (valq1 hg h0)
theorem locq2 {x0 x1:Rat}{z0 z1 out:Int}{data:List Int}(hg:jak [z0,z1] out data=true)(h0:Fq 40 x0)(h1:Fq 40 x1):Cl 44 [gridD [z0,z1] out data,slQ (fun i=>txq (rqN x0 x1 0 i)) 2] (.tup [.agg [.ints .i64 [z0,z1],.int .i64 out,.ints .i64 data,.ints .i64 [spB z0 x0,spB z1 x1],.ints .i64 (ord2 (spR z0 x0) (spR z1 x1)),slQ (fun k=>txq (wqN (rqN (spR z0 x0) (spR z1 x1) 0) (ord2 (spR z0 x0) (spR z1 x1)) 2 k)) 3],.int .i64 0]):=by
 have og:=jaI hg
 have s0:=og.2.1 z0 (by simp)
 have s1:=og.2.1 z1 (by simp)
 have fc:∀ k,k<2→Cl 78 [frT (rqN x0 x1 0 k)] (.int .i64 0):=fun k hk=>by
  have h:k=0∨k=1:=by omega
  rcases h with rfl|rfl
  ·exact jcP h0 (by decide)
  ·exact jcP h1 (by decide)
 exact loc2_t z0 z1 out data _ _ (fun i=>txq (rqN x0 x1 0 i)) _ _ (jdw hg (by simp)) fc (find2_q out data h0 h1 s0 s1)
theorem evalq2 {x0 x1:Rat}{z0 z1 out:Int}{data:List Int}(hg:jak [z0,z1] out data=true)(h0:Fq 40 x0)(h1:Fq 40 x1):Cl 15 [gridD [z0,z1] out data,slQ (fun i=>txq (rqN x0 x1 0 i)) 2] (.tup [slQ (fun j=>txq (evQ [z0,z1] out data x0 x1 0 j)) out.toNat,.int .i64 0]):=
 eval_t _ _ _ _ _ _ _ _ _ _ _ (locq2 hg h0 h1) (valq2 hg h0 h1)
theorem cellq2 {x0 x1:Rat}{z0 z1 out:Int}{data:List Int}(hg:jak [z0,z1] out data=true)(h0:Fq 40 x0)(h1:Fq 40 x1):Cl 17 [gridD [z0,z1] out data,slQ (fun i=>txq (rqN x0 x1 0 i)) 2] (.tup [.ints .i64 [spB z0 x0,spB z1 x1],.ints .i64 (ord2 (spR z0 x0) (spR z1 x1)),slQ (fun k=>txq (wqN (rqN (spR z0 x0) (spR z1 x1) 0) (ord2 (spR z0 x0) (spR z1 x1)) 2 k)) 3,.int .i64 0]):=
 cell_t _ _ _ _ _ _ _ _ _ (locq2 hg h0 h1)
theorem locq3 {x0 x1 x2:Rat}{z0 z1 z2 out:Int}{data:List Int}(hg:jak [z0,z1,z2] out data=true)(h0:Fq 40 x0)(h1:Fq 40 x1)(h2:Fq 40 x2):Cl 44 [gridD [z0,z1,z2] out data,slQ (fun i=>txq (rqN x0 x1 x2 i)) 3] (.tup [.agg [.ints .i64 [z0,z1,z2],.int .i64 out,.ints .i64 data,.ints .i64 [spB z0 x0,spB z1 x1,spB z2 x2],.ints .i64 (ord3 (spR z0 x0) (spR z1 x1) (spR z2 x2)),slQ (fun k=>txq (wqN (rqN (spR z0 x0) (spR z1 x1) (spR z2 x2)) (ord3 (spR z0 x0) (spR z1 x1) (spR z2 x2)) 3 k)) 4],.int .i64 0]):=by
 have og:=jaI hg
 have s0:=og.2.1 z0 (by simp)
 have s1:=og.2.1 z1 (by simp)
 have s2:=og.2.1 z2 (by simp)
 have fc:∀ k,k<3→Cl 78 [frT (rqN x0 x1 x2 k)] (.int .i64 0):=fun k hk=>by
  have h:k=0∨k=1∨k=2:=by omega
  rcases h with rfl|rfl|rfl
  ·exact jcP h0 (by decide)
  ·exact jcP h1 (by decide)
  ·exact jcP h2 (by decide)
 exact loc3_t z0 z1 z2 out data _ _ (fun i=>txq (rqN x0 x1 x2 i)) _ _ (jdw hg (by simp)) fc (find3_q out data h0 h1 h2 s0 s1 s2)
theorem evalq3 {x0 x1 x2:Rat}{z0 z1 z2 out:Int}{data:List Int}(hg:jak [z0,z1,z2] out data=true)(h0:Fq 40 x0)(h1:Fq 40 x1)(h2:Fq 40 x2):Cl 15 [gridD [z0,z1,z2] out data,slQ (fun i=>txq (rqN x0 x1 x2 i)) 3] (.tup [slQ (fun j=>txq (evQ [z0,z1,z2] out data x0 x1 x2 j)) out.toNat,.int .i64 0]):=
 eval_t _ _ _ _ _ _ _ _ _ _ _ (locq3 hg h0 h1 h2) (valq3 hg h0 h1 h2)
theorem mul_sgn {k l d:Rat}(hk:0≤k)(hl:0≤l):0≤k*d*(l*d):=by
 have h1:=Rat.mul_nonneg hk hl
 have h2:0≤d*d:=by
  by_cases h:0≤d
  ·exact Rat.mul_nonneg h h
  ·have h3:0 ≤ -d:=by grind
   have h4:=Rat.mul_nonneg h3 h3
   grind
 have h3:=Rat.mul_nonneg h1 h2
 grind
theorem between {p q r k l:Rat}(hk:0≤k)(hl:0≤l)(h1:q-p=k*(r-p))(h2:r-q=l*(r-p)):0≤ordQ p q*ordQ q r:=by
 have h3:=mul_sgn (d:=r-p) hk hl
 rw[← h1,← h2] at h3
 unfold ordQ
 by_cases a:p<q
 ·by_cases b:q<r
  ·simp[a,b]
  ·by_cases c:q=r
   ·simp[c]
   ·exfalso
    have e1:0<q-p:=by grind
    have e2:0<q-r:=by grind
    have:=Rat.mul_pos e1 e2
    grind
 ·by_cases a2:p=q
  ·simp[a2]
  ·by_cases b:q<r
   ·exfalso
    have e1:0<p-q:=by grind
    have e2:0<r-q:=by grind
    have:=Rat.mul_pos e1 e2
    grind
   ·by_cases c:q=r
    ·simp[c]
    ·simp[a,a2,b,c]
def sw (w:Nat→Int)(s:Nat→Rat):Nat→Rat
 | 0=>0
 | k+1=>sw w s k+Rat.divInt (w k) 1*s k
theorem lof_c {n m:Int}(hn : -9223372036854775807≤n∧n≤9223372036854775807)(hm:1≤m∧m≤9223372036854775807):Cl 18 [.int .i64 n,.int .i64 m] (frT (Rat.divInt n m)):=by
 have c:=y_rof hn hm
 unfold frT at *
 generalize Rat.divInt n m=q at *
 refine V.en tbOk Tryz.func18 ?_
 (conv=>whnf)
 refine V.st ?_
 repeat ((try ((with_reducible refine .ext ?_);(conv=>whnf)));(with_reducible refine jaa (r:=?_) ?_ ?_);rotate_left;(focus (first|exact(c)));(conv=>whnf);refine V.st ?_)
 exact Fin.of rfl
theorem lfour_c:Cl 31 [] (gridD [2,2] 1 [0,13107,26214,65535]):=by
 refine V.en tbOk Tryz.func31 ?_
 refine V.r0 @jh7 ?_
 exact Fin.of rfl
theorem jhP:type_of% @jh7∧type_of% @tn0∧type_of% @tn1∧type_of% @tn2∧type_of% @tn3∧type_of% @xt4:=⟨@jh7,@tn0,@tn1,@tn2,@tn3,@xt4⟩
theorem eqf1 (Y:Nat→Tx):Cl 16 [V.sl2 1 [.str (Y 0).1,.str (Y 0).2],V.sl2 1 [.str (Y 0).1,.str (Y 0).2]] (.bool true):=by
 refine V.en tbOk Tryz.func16 ?_
 refine V.r0 @jh7 ?_
 refine jae (0) (fun k=>k≤1) (fun k=>1-k) (fun k=>[(13,.int .i64 k)]) (fun k=>[]) ?_ ?_ ?_
 ·exact V.wk
 ·exact jh4 _
 intro k hk
 have hk4:k=0∨k=1:=by omega
 rcases hk4 with e|e
 all_goals subst e
 ·simp only[k0]
  refine V.r0 jhP ?_
  refine⟨Pq19z,[],V.pok,?_⟩
  refine jab [(24,.bool false)] [] ?_ ?_
  ·exact V.d0 (V.a4 jhP @decide_true @Bool.and_self @Bool.not_true)
  refine V.r0 jhP ?_
  exact⟨1,by omega,by omega,V.wk⟩
 ·simp only[k1]
  refine V.r0 @jh7 ?_
  exact Fin.of rfl
theorem eqf2 (Y:Nat→Tx):Cl 16 [V.sl2 2 [.str (Y 0).1,.str (Y 0).2,.str (Y 1).1,.str (Y 1).2],V.sl2 2 [.str (Y 0).1,.str (Y 0).2,.str (Y 1).1,.str (Y 1).2]] (.bool true):=by
 refine V.en tbOk Tryz.func16 ?_
 refine V.r0 @jh7 ?_
 refine jae (0) (fun k=>k≤2) (fun k=>2-k) (fun k=>[(13,.int .i64 k)]) (fun k=>[]) ?_ ?_ ?_
 ·exact V.wk
 ·exact jh4 _
 intro k hk
 have hk4:k=0∨k=1∨k=2:=by omega
 rcases hk4 with e|e|e
 all_goals subst e
 ·simp only[k0]
  refine V.r0 jhP ?_
  refine⟨Pq19z,[],V.pok,?_⟩
  refine jab [(24,.bool false)] [] ?_ ?_
  ·exact V.d0 (V.a4 jhP @decide_true @Bool.and_self @Bool.not_true)
  refine V.r0 jhP ?_
  exact⟨1,by omega,by omega,V.wk⟩
 ·simp only[k1]
  refine V.r0 jhP ?_
  refine⟨Pq19z,[],V.pok,?_⟩
  refine jab [(24,.bool false)] [] ?_ ?_
  ·exact V.d0 (V.a4 jhP @decide_true @Bool.and_self @Bool.not_true)
  refine V.r0 jhP ?_
  exact⟨2,by omega,by omega,V.wk⟩
 ·simp only[k2]
  refine V.r0 @jh7 ?_
  exact Fin.of rfl
theorem eqf3 (Y:Nat→Tx):Cl 16 [V.sl2 3 [.str (Y 0).1,.str (Y 0).2,.str (Y 1).1,.str (Y 1).2,.str (Y 2).1,.str (Y 2).2],V.sl2 3 [.str (Y 0).1,.str (Y 0).2,.str (Y 1).1,.str (Y 1).2,.str (Y 2).1,.str (Y 2).2]] (.bool true):=by
 refine V.en tbOk Tryz.func16 ?_
 refine V.r0 @jh7 ?_
 refine jae (0) (fun k=>k≤3) (fun k=>3-k) (fun k=>[(13,.int .i64 k)]) (fun k=>[]) ?_ ?_ ?_
 ·exact V.wk
 ·exact jh4 _
 intro k hk
 have hk4:k=0∨k=1∨k=2∨k=3:=by omega
 rcases hk4 with e|e|e|e
 all_goals subst e
 ·simp only[k0]
  refine V.r0 jhP ?_
  refine⟨Pq19z,[],V.pok,?_⟩
  refine jab [(24,.bool false)] [] ?_ ?_
  ·exact V.d0 (V.a4 jhP @decide_true @Bool.and_self @Bool.not_true)
  refine V.r0 jhP ?_
  exact⟨1,by omega,by omega,V.wk⟩
 ·simp only[k1]
  refine V.r0 jhP ?_
  refine⟨Pq19z,[],V.pok,?_⟩
  refine jab [(24,.bool false)] [] ?_ ?_
  ·exact V.d0 (V.a4 jhP @decide_true @Bool.and_self @Bool.not_true)
  refine V.r0 jhP ?_
  exact⟨2,by omega,by omega,V.wk⟩
 ·simp only[k2]
  refine V.r0 jhP ?_
  refine⟨Pq19z,[],V.pok,?_⟩
  refine jab [(24,.bool false)] [] ?_ ?_
  ·exact V.d0 (V.a4 jhP @decide_true @Bool.and_self @Bool.not_true)
  refine V.r0 jhP ?_
  exact⟨3,by omega,by omega,V.wk⟩
 ·simp only[k3]
  refine V.r0 @jh7 ?_
  exact Fin.of rfl
theorem eqb1 (Y:Nat→Int×Int):Cl 35 [V.sl2 1 [.int .i64 (Y 0).1,.int .i64 (Y 0).2],V.sl2 1 [.int .i64 (Y 0).1,.int .i64 (Y 0).2]] (.bool true):=by
 refine V.en tbOk Tryz.func35 ?_
 refine V.r0 @jh7 ?_
 refine jae (0) (fun k=>k≤1) (fun k=>1-k) (fun k=>[(13,.int .i64 k)]) (fun k=>[]) ?_ ?_ ?_
 ·exact V.wk
 ·exact jh4 _
 intro k hk
 have hk4:k=0∨k=1:=by omega
 rcases hk4 with e|e
 all_goals subst e
 ·simp only[k0]
  refine V.r0 jhP ?_
  refine⟨Pq19z,[],V.pok,?_⟩
  refine jab [(24,.bool false)] [] ?_ ?_
  ·exact V.d0 (V.a4 jhP @decide_true @Bool.and_self @Bool.not_true)
  refine V.r0 jhP ?_
  exact⟨1,by omega,by omega,V.wk⟩
 ·simp only[k1]
  refine V.r0 @jh7 ?_
  exact Fin.of rfl
theorem jcJ (v:Int):0≤IntKind.wrap .u16 v∧IntKind.wrap .u16 v≤65535:=by
 have h:InR .u16 (IntKind.wrap .u16 v):=jbA _ _
 exact h
def clcW:Nat→List D
 | 0=>[.nil,.nil,.nil]
 | k+1=>[.bsl 21 0 (k+1) 2,.bsl 31 0 (k+1) 2,.bsl 44 0 (k+1) 2]
def clcH (A X C:Nat→Tx):Nat→Hp
 | 0=>[]
 | k+1=>[(21,.box (wce A (k+1))),(31,.box (wce X (k+1))),(44,.box (wce C (k+1)))]
theorem jhG:type_of% @jh7∧type_of% @tn0∧type_of% @tn1∧type_of% @tn2∧type_of% @tn3∧type_of% @xt4:=⟨@jh7,@tn0,@tn1,@tn2,@tn3,@xt4⟩
theorem color1_t (a z1 z2:Nat→Int)(b1 b2:Nat→Bool)(p1 p2:Nat→List Int)(A X:Nat→Tx)(C:Int→Tx)(ca:∀ i,i<4→Cl 18 [.int .i64 (a i),.int .i64 840] (.agg [.str (A i).1,.str (A i).2]))(cx:∀ i,i<4→Cl 43 [.agg [.bool (b1 i),.ints .u16 (p1 i),.int .u16 (z1 i),.bool (b2 i),.ints .u16 (p2 i),.int .u16 (z2 i)]] (.agg [.str (X i).1,.str (X i).2]))(cc:∀ v:Int,Cl 18 [.int .i64 (v%841),.int .i64 840] (.agg [.str (C v).1,.str (C v).2])) :
  Cl 13 [(colD a z1 z2 b1 b2 p1 p2),.int .i64 1] (.agg [slQ A 1,slQ X 1,slQ (fun i=>C (IntKind.wrap .u16 (a i))) 1]):=by
 refine V.en tbOk Tryz.func13 ?_
 refine V.r0 jhG ?_
 refine jae 0 (fun k=>k≤1) (fun k=>1-k) (fun k=>[(9,.int .i64 k)]) (fun k=>(5,.box (clcW k))::clcH A X (fun i=>C (IntKind.wrap .u16 (a i))) k) ?_ ?_ ?_
 ·exact V.wk
 ·exact jh4 _
 intro k hk
 have hk4:k=0∨k=1:=by omega
 rcases hk4 with e|e
 all_goals subst e
 ·simp only[k0,clcW,clcH]
  have c1:=ca 0 (by omega)
  have c2:=cx 0 (by omega)
  have hw:=jcJ (a 0)
  refine V.r0 jhG ?_
  refine⟨Pq24z,[],V.pok,?_⟩
  refine jab [(21,.bsl 21 0 1 2)] [(5,.box [.bsl 21 0 1 2,.nil,.nil]),(21,.box (wce A 1))] ?_ ?_
  ·exact V.d1 jhG c1
  refine V.r0 jhG ?_
  refine⟨Pq32z,[],V.pok,?_⟩
  refine jab [(31,.bsl 31 0 1 2)] [(5,.box [.bsl 21 0 1 2,.bsl 31 0 1 2,.nil]),(31,.box (wce X 1))] ?_ ?_
  ·exact V.d1 jhG c2
  refine V.r0 jhG ?_
  refine⟨Pq15z,[],V.pok,?_⟩
  refine jab [(44,.bsl 44 0 1 2)] [(5,.box [.bsl 21 0 1 2,.bsl 31 0 1 2,.bsl 44 0 1 2]),(44,.box (wce (fun i=>C (IntKind.wrap .u16 (a i))) 1))] ?_ ?_
  ·(conv=>whnf);(try simp only[jhG])
   repeat' (first|exact V.wk|((with_reducible refine And.intro ?_ jax);(conv=>whnf);(try simp only[jhG]))|((with_reducible first|refine jar ?_ ?_|refine jau ?_ ?_)<;>(conv=>whnf);(try simp only[jhG]))|((first|refine V.s1 ?_|((with_reducible refine jam ?_ ?_);(focus ((conv=>whnf);(try simp only[jhG]);(repeat ((first|refine V.s1 ?_|((refine Or.inr ?_);(conv=>whnf)));(try simp only[jhG])));exact⟨rfl⟩));(conv=>whnf))|((try ((with_reducible refine .ext ?_);(conv=>whnf);(try simp only[jhG])));(with_reducible refine jaa (r:=?_) ?_ ?_);rotate_left;(focus (first|exact(cc _)));(conv=>whnf))|((refine Or.inr ?_);(conv=>whnf)));(try simp only[jhG]))|(refine And.intro ?_ ?_<;>(conv=>whnf);(try simp only[jhG])))
  refine V.r0 jhG ?_
  exact⟨1,by omega,by omega,V.wk⟩
 ·simp only[k1,clcW,clcH]
  refine V.r0 @jh7 ?_
  exact Fin.of rfl
theorem color2_t (a z1 z2:Nat→Int)(b1 b2:Nat→Bool)(p1 p2:Nat→List Int)(A X:Nat→Tx)(C:Int→Tx)(ca:∀ i,i<4→Cl 18 [.int .i64 (a i),.int .i64 840] (.agg [.str (A i).1,.str (A i).2]))(cx:∀ i,i<4→Cl 43 [.agg [.bool (b1 i),.ints .u16 (p1 i),.int .u16 (z1 i),.bool (b2 i),.ints .u16 (p2 i),.int .u16 (z2 i)]] (.agg [.str (X i).1,.str (X i).2]))(cc:∀ v:Int,Cl 18 [.int .i64 (v%841),.int .i64 840] (.agg [.str (C v).1,.str (C v).2])) :
  Cl 13 [(colD a z1 z2 b1 b2 p1 p2),.int .i64 2] (.agg [slQ A 2,slQ X 2,slQ (fun i=>C (IntKind.wrap .u16 (a i))) 2]):=by
 refine V.en tbOk Tryz.func13 ?_
 refine V.r0 jhG ?_
 refine jae 0 (fun k=>k≤2) (fun k=>2-k) (fun k=>[(9,.int .i64 k)]) (fun k=>(5,.box (clcW k))::clcH A X (fun i=>C (IntKind.wrap .u16 (a i))) k) ?_ ?_ ?_
 ·exact V.wk
 ·exact jh4 _
 intro k hk
 have hk4:k=0∨k=1∨k=2:=by omega
 rcases hk4 with e|e|e
 all_goals subst e
 ·simp only[k0,clcW,clcH]
  have c1:=ca 0 (by omega)
  have c2:=cx 0 (by omega)
  have hw:=jcJ (a 0)
  refine V.r0 jhG ?_
  refine⟨Pq24z,[],V.pok,?_⟩
  refine jab [(21,.bsl 21 0 1 2)] [(5,.box [.bsl 21 0 1 2,.nil,.nil]),(21,.box (wce A 1))] ?_ ?_
  ·exact V.d1 jhG c1
  refine V.r0 jhG ?_
  refine⟨Pq32z,[],V.pok,?_⟩
  refine jab [(31,.bsl 31 0 1 2)] [(5,.box [.bsl 21 0 1 2,.bsl 31 0 1 2,.nil]),(31,.box (wce X 1))] ?_ ?_
  ·exact V.d1 jhG c2
  refine V.r0 jhG ?_
  refine⟨Pq15z,[],V.pok,?_⟩
  refine jab [(44,.bsl 44 0 1 2)] [(5,.box [.bsl 21 0 1 2,.bsl 31 0 1 2,.bsl 44 0 1 2]),(44,.box (wce (fun i=>C (IntKind.wrap .u16 (a i))) 1))] ?_ ?_
  ·(conv=>whnf);(try simp only[jhG])
   repeat' (first|exact V.wk|((with_reducible refine And.intro ?_ jax);(conv=>whnf);(try simp only[jhG]))|((with_reducible first|refine jar ?_ ?_|refine jau ?_ ?_)<;>(conv=>whnf);(try simp only[jhG]))|((first|refine V.s1 ?_|((with_reducible refine jam ?_ ?_);(focus ((conv=>whnf);(try simp only[jhG]);(repeat ((first|refine V.s1 ?_|((refine Or.inr ?_);(conv=>whnf)));(try simp only[jhG])));exact⟨rfl⟩));(conv=>whnf))|((try ((with_reducible refine .ext ?_);(conv=>whnf);(try simp only[jhG])));(with_reducible refine jaa (r:=?_) ?_ ?_);rotate_left;(focus (first|exact(cc _)));(conv=>whnf))|((refine Or.inr ?_);(conv=>whnf)));(try simp only[jhG]))|(refine And.intro ?_ ?_<;>(conv=>whnf);(try simp only[jhG])))
  refine V.r0 jhG ?_
  exact⟨1,by omega,by omega,V.wk⟩
 ·simp only[k1,clcW,clcH]
  have c1:=ca 1 (by omega)
  have c2:=cx 1 (by omega)
  have hw:=jcJ (a 1)
  refine V.r0 jhG ?_
  refine⟨Pq24z,[],V.pok,?_⟩
  refine jab [(21,.bsl 21 0 2 2)] [(5,.box [.bsl 21 0 2 2,.bsl 31 0 1 2,.bsl 44 0 1 2]),(21,.box (wce A 2))] ?_ ?_
  ·exact V.d1 jhG c1
  refine V.r0 jhG ?_
  refine⟨Pq32z,[],V.pok,?_⟩
  refine jab [(31,.bsl 31 0 2 2)] [(5,.box [.bsl 21 0 2 2,.bsl 31 0 2 2,.bsl 44 0 1 2]),(31,.box (wce X 2))] ?_ ?_
  ·exact V.d1 jhG c2
  refine V.r0 jhG ?_
  refine⟨Pq15z,[],V.pok,?_⟩
  refine jab [(44,.bsl 44 0 2 2)] [(5,.box [.bsl 21 0 2 2,.bsl 31 0 2 2,.bsl 44 0 2 2]),(44,.box (wce (fun i=>C (IntKind.wrap .u16 (a i))) 2))] ?_ ?_
  ·(conv=>whnf);(try simp only[jhG])
   repeat' (first|exact V.wk|((with_reducible refine And.intro ?_ jax);(conv=>whnf);(try simp only[jhG]))|((with_reducible first|refine jar ?_ ?_|refine jau ?_ ?_)<;>(conv=>whnf);(try simp only[jhG]))|((first|refine V.s1 ?_|((with_reducible refine jam ?_ ?_);(focus ((conv=>whnf);(try simp only[jhG]);(repeat ((first|refine V.s1 ?_|((refine Or.inr ?_);(conv=>whnf)));(try simp only[jhG])));exact⟨rfl⟩));(conv=>whnf))|((try ((with_reducible refine .ext ?_);(conv=>whnf);(try simp only[jhG])));(with_reducible refine jaa (r:=?_) ?_ ?_);rotate_left;(focus (first|exact(cc _)));(conv=>whnf))|((refine Or.inr ?_);(conv=>whnf)));(try simp only[jhG]))|(refine And.intro ?_ ?_<;>(conv=>whnf);(try simp only[jhG])))
  refine V.r0 jhG ?_
  exact⟨2,by omega,by omega,V.wk⟩
 ·simp only[k2,clcW,clcH]
  refine V.r0 @jh7 ?_
  exact Fin.of rfl
theorem color3_t (a z1 z2:Nat→Int)(b1 b2:Nat→Bool)(p1 p2:Nat→List Int)(A X:Nat→Tx)(C:Int→Tx)(ca:∀ i,i<4→Cl 18 [.int .i64 (a i),.int .i64 840] (.agg [.str (A i).1,.str (A i).2]))(cx:∀ i,i<4→Cl 43 [.agg [.bool (b1 i),.ints .u16 (p1 i),.int .u16 (z1 i),.bool (b2 i),.ints .u16 (p2 i),.int .u16 (z2 i)]] (.agg [.str (X i).1,.str (X i).2]))(cc:∀ v:Int,Cl 18 [.int .i64 (v%841),.int .i64 840] (.agg [.str (C v).1,.str (C v).2])) :
  Cl 13 [(colD a z1 z2 b1 b2 p1 p2),.int .i64 3] (.agg [slQ A 3,slQ X 3,slQ (fun i=>C (IntKind.wrap .u16 (a i))) 3]):=by
 refine V.en tbOk Tryz.func13 ?_
 refine V.r0 jhG ?_
 refine jae 0 (fun k=>k≤3) (fun k=>3-k) (fun k=>[(9,.int .i64 k)]) (fun k=>(5,.box (clcW k))::clcH A X (fun i=>C (IntKind.wrap .u16 (a i))) k) ?_ ?_ ?_
 ·exact V.wk
 ·exact jh4 _
 intro k hk
 have hk4:k=0∨k=1∨k=2∨k=3:=by omega
 rcases hk4 with e|e|e|e
 all_goals subst e
 ·simp only[k0,clcW,clcH]
  have c1:=ca 0 (by omega)
  have c2:=cx 0 (by omega)
  have hw:=jcJ (a 0)
  refine V.r0 jhG ?_
  refine⟨Pq24z,[],V.pok,?_⟩
  refine jab [(21,.bsl 21 0 1 2)] [(5,.box [.bsl 21 0 1 2,.nil,.nil]),(21,.box (wce A 1))] ?_ ?_
  ·exact V.d1 jhG c1
  refine V.r0 jhG ?_
  refine⟨Pq32z,[],V.pok,?_⟩
  refine jab [(31,.bsl 31 0 1 2)] [(5,.box [.bsl 21 0 1 2,.bsl 31 0 1 2,.nil]),(31,.box (wce X 1))] ?_ ?_
  ·exact V.d1 jhG c2
  refine V.r0 jhG ?_
  refine⟨Pq15z,[],V.pok,?_⟩
  refine jab [(44,.bsl 44 0 1 2)] [(5,.box [.bsl 21 0 1 2,.bsl 31 0 1 2,.bsl 44 0 1 2]),(44,.box (wce (fun i=>C (IntKind.wrap .u16 (a i))) 1))] ?_ ?_
  ·(conv=>whnf);(try simp only[jhG])
   repeat' (first|exact V.wk|((with_reducible refine And.intro ?_ jax);(conv=>whnf);(try simp only[jhG]))|((with_reducible first|refine jar ?_ ?_|refine jau ?_ ?_)<;>(conv=>whnf);(try simp only[jhG]))|((first|refine V.s1 ?_|((with_reducible refine jam ?_ ?_);(focus ((conv=>whnf);(try simp only[jhG]);(repeat ((first|refine V.s1 ?_|((refine Or.inr ?_);(conv=>whnf)));(try simp only[jhG])));exact⟨rfl⟩));(conv=>whnf))|((try ((with_reducible refine .ext ?_);(conv=>whnf);(try simp only[jhG])));(with_reducible refine jaa (r:=?_) ?_ ?_);rotate_left;(focus (first|exact(cc _)));(conv=>whnf))|((refine Or.inr ?_);(conv=>whnf)));(try simp only[jhG]))|(refine And.intro ?_ ?_<;>(conv=>whnf);(try simp only[jhG])))
  refine V.r0 jhG ?_
  exact⟨1,by omega,by omega,V.wk⟩
 ·simp only[k1,clcW,clcH]
  have c1:=ca 1 (by omega)
  have c2:=cx 1 (by omega)
  have hw:=jcJ (a 1)
  refine V.r0 jhG ?_
  refine⟨Pq24z,[],V.pok,?_⟩
  refine jab [(21,.bsl 21 0 2 2)] [(5,.box [.bsl 21 0 2 2,.bsl 31 0 1 2,.bsl 44 0 1 2]),(21,.box (wce A 2))] ?_ ?_
  ·exact V.d1 jhG c1
  refine V.r0 jhG ?_
  refine⟨Pq32z,[],V.pok,?_⟩
  refine jab [(31,.bsl 31 0 2 2)] [(5,.box [.bsl 21 0 2 2,.bsl 31 0 2 2,.bsl 44 0 1 2]),(31,.box (wce X 2))] ?_ ?_
  ·exact V.d1 jhG c2
  refine V.r0 jhG ?_
  refine⟨Pq15z,[],V.pok,?_⟩
  refine jab [(44,.bsl 44 0 2 2)] [(5,.box [.bsl 21 0 2 2,.bsl 31 0 2 2,.bsl 44 0 2 2]),(44,.box (wce (fun i=>C (IntKind.wrap .u16 (a i))) 2))] ?_ ?_
  ·(conv=>whnf);(try simp only[jhG])
   repeat' (first|exact V.wk|((with_reducible refine And.intro ?_ jax);(conv=>whnf);(try simp only[jhG]))|((with_reducible first|refine jar ?_ ?_|refine jau ?_ ?_)<;>(conv=>whnf);(try simp only[jhG]))|((first|refine V.s1 ?_|((with_reducible refine jam ?_ ?_);(focus ((conv=>whnf);(try simp only[jhG]);(repeat ((first|refine V.s1 ?_|((refine Or.inr ?_);(conv=>whnf)));(try simp only[jhG])));exact⟨rfl⟩));(conv=>whnf))|((try ((with_reducible refine .ext ?_);(conv=>whnf);(try simp only[jhG])));(with_reducible refine jaa (r:=?_) ?_ ?_);rotate_left;(focus (first|exact(cc _)));(conv=>whnf))|((refine Or.inr ?_);(conv=>whnf)));(try simp only[jhG]))|(refine And.intro ?_ ?_<;>(conv=>whnf);(try simp only[jhG])))
  refine V.r0 jhG ?_
  exact⟨2,by omega,by omega,V.wk⟩
 ·simp only[k2,clcW,clcH]
  have c1:=ca 2 (by omega)
  have c2:=cx 2 (by omega)
  have hw:=jcJ (a 2)
  refine V.r0 jhG ?_
  refine⟨Pq24z,[],V.pok,?_⟩
  refine jab [(21,.bsl 21 0 3 2)] [(5,.box [.bsl 21 0 3 2,.bsl 31 0 2 2,.bsl 44 0 2 2]),(21,.box (wce A 3))] ?_ ?_
  ·exact V.d1 jhG c1
  refine V.r0 jhG ?_
  refine⟨Pq32z,[],V.pok,?_⟩
  refine jab [(31,.bsl 31 0 3 2)] [(5,.box [.bsl 21 0 3 2,.bsl 31 0 3 2,.bsl 44 0 2 2]),(31,.box (wce X 3))] ?_ ?_
  ·exact V.d1 jhG c2
  refine V.r0 jhG ?_
  refine⟨Pq15z,[],V.pok,?_⟩
  refine jab [(44,.bsl 44 0 3 2)] [(5,.box [.bsl 21 0 3 2,.bsl 31 0 3 2,.bsl 44 0 3 2]),(44,.box (wce (fun i=>C (IntKind.wrap .u16 (a i))) 3))] ?_ ?_
  ·(conv=>whnf);(try simp only[jhG])
   repeat' (first|exact V.wk|((with_reducible refine And.intro ?_ jax);(conv=>whnf);(try simp only[jhG]))|((with_reducible first|refine jar ?_ ?_|refine jau ?_ ?_)<;>(conv=>whnf);(try simp only[jhG]))|((first|refine V.s1 ?_|((with_reducible refine jam ?_ ?_);(focus ((conv=>whnf);(try simp only[jhG]);(repeat ((first|refine V.s1 ?_|((refine Or.inr ?_);(conv=>whnf)));(try simp only[jhG])));exact⟨rfl⟩));(conv=>whnf))|((try ((with_reducible refine .ext ?_);(conv=>whnf);(try simp only[jhG])));(with_reducible refine jaa (r:=?_) ?_ ?_);rotate_left;(focus (first|exact(cc _)));(conv=>whnf))|((refine Or.inr ?_);(conv=>whnf)));(try simp only[jhG]))|(refine And.intro ?_ ?_<;>(conv=>whnf);(try simp only[jhG])))
  refine V.r0 jhG ?_
  exact⟨3,by omega,by omega,V.wk⟩
 ·simp only[k3,clcW,clcH]
  refine V.r0 @jh7 ?_
  exact Fin.of rfl
theorem value_t (zs data:List Int)(out:Int)(n:Nat)(X:Nat→List D)(Y:Nat→Tx)(ev:Cl 15 [.agg [.ints .i64 zs,.int .i64 out,.ints .i64 data],.slf 2 n X] (.tup [V.sl2 1 [.str (Y 0).1,.str (Y 0).2],.int .i64 0])) :
  Cl 26 [.agg [.ints .i64 zs,.int .i64 out,.ints .i64 data],.agg [.str (Y 0).1,.str (Y 0).2],.slf 2 n X] (.bool true):=by
 have q:=eqf1 Y
 refine V.en tbOk Tryz.func26 ?_
 refine V.r2 @jh7 ev q ?_
 exact Fin.of rfl
end Go.Proofs.YtgjgpdceghjajaaGreatDoor
end
section
namespace Go.Gr
def PR:List Nat→Nat
 | []=>1
 | n::r=>n*PR r
def ixl:List Nat→Nat→List Int
 | [],_=>[]
 | n::r,m=>((m/PR r%n:Nat):Int)::ixl r m
theorem jdC {ns:List Nat}(h:∀ n∈ns,0<n):0<PR ns:=by
 induction ns with
 | nil=>decide
 | cons n r ih=>exact Nat.mul_pos (h n (by simp)) (ih fun x hx=>h x (by simp[hx]))
theorem jao (ns:List Nat)(m:Nat):(ixl ns m).length=ns.length:=by
 induction ns with
 | nil=>rfl
 | cons n r ih=>simp[ixl,ih]
theorem jf3 (ns:List Nat)(m i n:Nat)(h:ns[i]? = some n):(ixl ns m)[i]? = some ((m/PR (ns.drop (i+1))%n:Nat):Int):=by
 induction ns generalizing i with
 | nil=>simp at h
 | cons a r ih=>
  cases i with
  | zero=>simp at h;subst h;simp[ixl]
  | succ i=>simpa [ixl] using ih i (by simpa using h)
theorem jhl (ns:List Nat)(hp:∀ n∈ns,0<n)(m:Nat):ixl ns (m%PR ns)=ixl ns m:=by
 induction ns generalizing m with
 | nil=>rfl
 | cons n r ih=>
  have hr:∀ x∈r,0<x:=fun x hx=>hp x (by simp[hx])
  have h1:=jdC hr
  simp only[ixl,PR]
  have e1:m%(n*PR r)/PR r%n=m/PR r%n:=by
   rw[jic,Nat.mod_mul_right_div_self,Nat.mod_mod]
  have e2:ixl r (m%(n*PR r))=ixl r m:=by
   rw[← ih hr (m%(n*PR r)),Nat.mod_mul_left_mod,ih hr]
  rw[e1,e2]
theorem jdr (ns:List Nat)(hp:∀ n∈ns,0<n)(m:Nat)(h:m%PR ns=PR ns-1):ixl ns m=ns.map fun n:Nat=>(n:Int)-1:=by
 induction ns generalizing m with
 | nil=>rfl
 | cons n r ih=>
  have hr:∀ x∈r,0<x:=fun x hx=>hp x (by simp[hx])
  have hn:0<n:=hp n (by simp)
  have h1:=jdC hr
  simp only[PR] at h
  rw[jic,Nat.mod_mul] at h
  have h2:=Nat.mod_lt m h1
  have h3:=Nat.mod_lt (m/PR r) hn
  have h4:PR r*(m/PR r%n)+m%PR r=PR r*(n-1)+(PR r-1):=by
   have:PR r*n=PR r*(n-1)+PR r:=by
    obtain⟨k,rfl⟩:∃ k,n=k+1:=⟨n-1,by omega⟩
    simp[Nat.mul_add]
   omega
  have h5:m/PR r%n=n-1:=by
   have e:=congrArg (· / PR r) h4
   simp only[Nat.mul_add_div h1] at e
   rw[Nat.div_eq_of_lt h2,Nat.div_eq_of_lt (by omega:PR r-1<PR r)] at e
   omega
  have h6:m%PR r=PR r-1:=by rw[h5] at h4;omega
  simp only[ixl,List.map_cons,h5,ih hr m h6]
  congr 1
  omega
theorem jdo (ns:List Nat)(hp:∀ n∈ns,0<n)(m:Nat)(h:ixl ns m=ns.map fun n:Nat=>(n:Int)-1):m%PR ns=PR ns-1:=by
 induction ns generalizing m with
 | nil=>simp[PR,Nat.mod_one]
 | cons n r ih=>
  have hr:∀ x∈r,0<x:=fun x hx=>hp x (by simp[hx])
  have hn:0<n:=hp n (by simp)
  have h1:=jdC hr
  simp only[ixl,List.map_cons,List.cons.injEq] at h
  have h2:=ih hr m h.2
  have h3:m/PR r%n=n-1:=by omega
  simp only[PR]
  rw[jic,Nat.mod_mul,h2,h3]
  obtain⟨k,rfl⟩:∃ k,n=k+1:=⟨n-1,by omega⟩
  simp[Nat.mul_add];omega
theorem jdY (ns:List Nat)(hp:∀ n∈ns,0<n)(m:Nat)(h:m%PR ns=0):ixl ns m=List.replicate ns.length 0:=by
 rw[← jhl ns hp m,h]
 clear h
 induction ns with
 | nil=>rfl
 | cons n r ih=>simp only[ixl,Nat.zero_div,Nat.zero_mod,jiN,List.replicate_succ,ih fun x hx=>hp x (by simp[hx])];rfl
theorem succ_div {m P:Nat}(hP:0<P)(h:m%P≠P-1):(m+1)/P=m/P:=by
 have h2:=Nat.mod_lt m hP
 have h3:=Nat.div_add_mod m P
 have:m+1=P*(m/P)+(m%P+1):=by omega
 rw[this,Nat.mul_add_div hP,Nat.div_eq_of_lt (by omega:m%P+1<P)]
 omega
theorem jfJ {m P:Nat}(hP:0<P)(h:m%P=P-1):(m+1)/P=m/P+1∧(m+1)%P=0:=by
 have h3:=Nat.div_add_mod m P
 have:m+1=P*(m/P+1):=by rw[Nat.mul_add];omega
 rw[this,Nat.mul_div_cancel_left _ hP,Nat.mul_mod_right]
 exact⟨rfl,rfl⟩
theorem mod_succ {a n:Nat}(hn:0<n)(h:a%n≠n-1):(a+1)%n=a%n+1:=by
 have h2:=Nat.mod_lt a hn
 have h3:=Nat.div_add_mod a n
 have:a+1=n*(a/n)+(a%n+1):=by omega
 rw[this,Nat.mul_add_mod,jid (by omega:a%n+1<n)]
theorem jee (ns:List Nat)(hp:∀ n∈ns,0<n)(m j n:Nat)(hj:ns[j]? = some n)(x:Int)(hx:(ixl ns m)[j]? = some x)
  (h1:(ixl ns m).drop (j+1)=(ns.drop (j+1)).map fun n:Nat=>(n:Int)-1) (h2:x≠(n:Int)-1):ixl ns (m+1)=(ixl ns m).take j++(x+1)::List.replicate (ns.length-(j+1)) 0:=by
 induction ns generalizing j with
 | nil=>simp at hj
 | cons a r ih=>
  have hr:∀ y∈r,0<y:=fun y hy=>hp y (by simp[hy])
  have ha:0<a:=hp a (by simp)
  have hP:=jdC hr
  cases j with
  | zero=>
   simp at hj hx
   subst hj
   simp[ixl] at h1 hx
   have h3:=jdo r hr m h1
   have h4:=jfJ hP h3
   have h5:=jdY r hr _ h4.2
   simp only[ixl,h4.1,h5]
   have h6:m/PR r%a≠a-1:=fun e=>by
    apply h2
    rw[← hx,← Int.natCast_ediv,← Int.natCast_emod,e]
    omega
   rw[mod_succ ha h6]
   subst hx
   simp
  | succ j=>
   have hj':r[j]? = some n:=by simpa using hj
   have hx':(ixl r m)[j]? = some x:=by simpa [ixl] using hx
   have h1':(ixl r m).drop (j+1)=(r.drop (j+1)).map fun n:Nat=>(n:Int)-1:=by simpa [ixl] using h1
   have h3:m%PR r≠PR r-1:=fun e=>by
    have:=jdr r hr m e
    rw[this] at hx'
    simp[hj'] at hx'
    omega
   have h4:=ih hr j hj' hx' h1'
   simp only[ixl,succ_div hP h3,h4,List.take_succ_cons,List.cons_append,jiN]
   congr 2
   simp
theorem jfg (ns:List Nat)(hp:∀ n∈ns,0<n)(m:Nat)(p:Int):((ns.map fun n:Nat=>(n:Int)).zip (ixl ns m)).foldl (fun p a=>p*a.1+a.2) p=p*(PR ns:Int)+((m%PR ns:Nat):Int):=by
 induction ns generalizing p with
 | nil=>simp[ixl,PR,Nat.mod_one]
 | cons n r ih=>
  have hr:∀ x∈r,0<x:=fun x hx=>hp x (by simp[hx])
  simp only[ixl,List.map_cons,List.zip_cons_cons,List.foldl_cons,PR]
  rw[ih hr,jic n,Nat.mod_mul]
  simp only[Int.natCast_add,jii,jit,jil]
  rw[jik (PR r:Int) (n:Int),jik (PR r:Int) _]
  omega
def swp (l:List Int)(a b:Nat):List Int:=(l.set a (l.getD b 0)).set b (l.getD a 0)
def swn (l:List Nat)(a b:Nat):List Nat:=(l.set a (l.getD b 0)).set b (l.getD a 0)
theorem jbp (l:List Int)(a b:Nat):(swp l a b).length=l.length:=by simp[swp]
theorem ja0 (l:List Nat)(a b:Nat):(swn l a b).length=l.length:=by simp[swn]
theorem jbO {l:List Int}{a b:Nat}(ha:a<l.length)(hb:b<l.length)(k:Nat):(swp l a b)[k]? = if k=b then l[a]? else if k=a then l[b]? else l[k]? := by
 unfold swp
 rw[List.getElem?_set,List.getElem?_set]
 by_cases e1:k=b
 ·subst e1
  simp[hb,ha,jiz]
 ·rw[if_neg (fun e=>e1 e.symm),if_neg e1]
  by_cases e2:k=a
  ·subst e2
   simp[ha,hb,jiz]
  ·rw[if_neg (fun e=>e2 e.symm),if_neg e2]
theorem jgR {l:List Nat}{a b:Nat}(ha:a<l.length)(hb:b<l.length)(k:Nat):(swn l a b)[k]? = if k=b then l[a]? else if k=a then l[b]? else l[k]? := by
 unfold swn
 rw[List.getElem?_set,List.getElem?_set]
 by_cases e1:k=b
 ·subst e1
  simp[hb,ha,jiz]
 ·rw[if_neg (fun e=>e1 e.symm),if_neg e1]
  by_cases e2:k=a
  ·subst e2
   simp[ha,hb,jiz]
  ·rw[if_neg (fun e=>e2 e.symm),if_neg e2]
theorem jdF {l:List Nat}{a b:Nat}(ha:a<l.length)(hb:b<l.length):swp (l.map fun n:Nat=>(n:Int)) a b=(swn l a b).map fun n:Nat=>(n:Int):=by
 refine List.ext_getElem? fun k=>?_
 rw[jbO (by simpa using ha) (by simpa using hb),List.getElem?_map,List.getElem?_map,List.getElem?_map,List.getElem?_map,jgR ha hb]
 by_cases e1:k=b
 ·simp[e1]
 ·by_cases e2:k=a
  ·subst e2;simp[e1]
  ·simp[e1,e2]
theorem jf0 {l:List Nat}{a b:Nat}(ha:a<l.length)(hb:b<l.length){n:Nat}(hn:n∈swn l a b):n∈l:=by
 obtain⟨k,hk⟩:=List.getElem?_of_mem hn
 rw[jgR ha hb] at hk
 split at hk
 ·exact jiD hk
 ·split at hk<;>exact jiD hk
theorem swp_app {l r:List Int}{a b:Nat}(ha:a<l.length)(hb:b<l.length):swp (l++r) a b=swp l a b++r:=by
 unfold swp
 have e1:(l++r).getD b 0=l.getD b 0:=by
  rw[jiz,jiz,jiH hb]
 have e2:(l++r).getD a 0=l.getD a 0:=by
  rw[jiz,jiz,jiH ha]
 rw[e1,e2,List.set_append_left _ _ ha,List.set_append_left _ _ (by simpa using hb)]
theorem swp_swp {l:List Int}{a b:Nat}(ha:a<l.length)(hb:b<l.length):swp (swp l a b) a b=l:=by
 refine List.ext_getElem? fun k=>?_
 rw[jbO (by rw[jbp];exact ha) (by rw[jbp];exact hb),jbO ha hb,jbO ha hb,jbO ha hb]
 by_cases e1:k=b
 ·subst e1
  by_cases e2:a=k
  ·subst e2;simp
  ·simp[e2]
 ·by_cases e2:k=a
  ·subst e2;simp[e1]
  ·simp[e1,e2]
theorem swp_comm {l:List Int}{a b:Nat}(ha:a<l.length)(hb:b<l.length):swp l a b=swp l b a:=by
 refine List.ext_getElem? fun k=>?_
 rw[jbO ha hb,jbO hb ha]
 by_cases e1:k=b
 ·subst e1
  by_cases e2:k=a
  ·subst e2;simp
  ·simp[e2]
 ·simp[e1]
theorem swp_bd {size l:List Int}{a b:Nat}(ha:a<size.length)(hb:b<size.length)(hl:l.length=size.length)(h:∀ (k:Nat) (n x:Int),(swp size a b)[k]? = some n→l[k]? = some x→0≤x∧x≤n-1) :
  ∀ (k:Nat) (n x:Int),size[k]? = some n→(swp l a b)[k]? = some x→0≤x∧x≤n-1:=by
 intro k n x hn hx
 rw[jbO (by omega) (by omega)] at hx
 split at hx
 ·rename_i e;subst e
  refine h a n x ?_ hx
  rw[jbO ha hb]
  split
  ·rename_i e;subst e;exact hn
  ·simp[hn]
 ·rename_i e1
  split at hx
  ·rename_i e2;subst e2
   refine h b n x ?_ hx
   rw[jbO ha hb];simp[hn]
  ·rename_i e2
   refine h k n x ?_ hx
   rw[jbO ha hb];simp[e1,e2,hn]
end Go.Gr
end
section
namespace Go.Proofs.YtgjgpdceghjajaaGreatDoor
open Go Go.V Go.Gr
def nz (ns:List Nat):List Int:=ns.map fun n:Nat=>(n:Int)
theorem jc0 (ns:List Nat):prod (nz ns)=(PR ns:Nat):=by
 have h:∀ (l:List Nat) (q:Int),(nz l).foldl (· * ·) q=q*(PR l:Nat):=by
  intro l
  induction l with
  | nil=>intro q;simp[nz,PR]
  | cons x l ih=>
   intro q
   have:=ih (q*x)
   simp only[nz,List.map_cons,List.foldl_cons,PR] at this ⊢
   rw[this,jii,jil]
 have:=h ns 1
 simpa [prod] using this
theorem jfz {l:List Nat}{a:Nat}{x y:Nat}(h:l[a]? = some x):PR (l.set a y)*x=PR l*y:=by
 induction l generalizing a with
 | nil=>simp at h
 | cons z l ih=>
  cases a with
  | zero=>simp at h;subst h;simp only[List.set_cons_zero,PR];rw[Nat.mul_assoc,jic,jic z,jic (PR l)]
  | succ a=>
   have:=ih (a:=a) (by simpa using h)
   simp only[List.set_cons_succ,PR]
   rw[Nat.mul_assoc,this,Nat.mul_assoc]
theorem PR_swn {l:List Nat}{a b:Nat}(ha:a<l.length)(hb:b<l.length):PR (swn l a b)=PR l:=by
 by_cases e:a=b
 ·subst e
  congr 1
  refine List.ext_getElem? fun k=>?_
  rw[jgR ha hb]
  split
  ·rename_i e;rw[e]
  ·rfl
 obtain⟨x,hx⟩:∃ x,l[a]? = some x:=⟨_,jiC ha⟩
 obtain⟨y,hy⟩:∃ y,l[b]? = some y:=⟨_,jiC hb⟩
 unfold swn
 rw[jiz,jiz,hx,hy]
 simp only[Option.getD_some]
 have h1:=jfz (y:=y) hx
 have h2:=jfz (l:=l.set a y) (a:=b) (x:=y) (y:=x) (by rw[List.getElem?_set];simp[e,hy])
 rcases jib x with hx0|hx0
 ·subst hx0
  have e1:PR l=0:=by
   have:=jfz (y:=1) hx
   simpa using this.symm
  have e2:PR ((l.set a y).set b 0)=0:=by
   have:((l.set a y).set b 0)[b]? = some 0:=by simp[List.getElem?_set,hb]
   have:=jfz (y:=1) this
   simpa using this.symm
  rw[e1,e2]
 ·rcases jib y with hy0|hy0
  ·subst hy0
   have e1:PR l=0:=by
    have:=jfz (y:=1) hy
    simpa using this.symm
   have e2:PR ((l.set a 0).set b x)=0:=by
    have:((l.set a 0).set b x)[a]? = some 0:=by
     rw[List.getElem?_set,if_neg (fun h=>e h.symm),List.getElem?_set];simp[ha]
    have:=jfz (y:=1) this
    simpa using this.symm
   rw[e1,e2]
  ·have h3:PR ((l.set a y).set b x)*(y*x)=PR l*(y*x):=by
    rw[← Nat.mul_assoc,h2,Nat.mul_assoc,jic x x,← Nat.mul_assoc,h1,Nat.mul_assoc]
   exact Nat.eq_of_mul_eq_mul_right (Nat.mul_pos hy0 hx0) h3
def rl (lt:Int→Int→Bool)(data:List Int)(w:Nat):Nat→List Int
 | 0=>slot data 0 w
 | i+1=>(rl lt data w i).set (i%w) (if lt (data.getD i 0) ((rl lt data w i).getD (i%w) 0) then data.getD i 0 else (rl lt data w i).getD (i%w) 0)
theorem jet {lt:Int→Int→Bool}{data:List Int}{w:Nat}(h:w≤data.length)(i:Nat):(rl lt data w i).length=w:=by
 induction i with
 | zero=>simp[rl,slot];omega
 | succ i ih=>simp[rl,ih]
def lastL (ns:List Nat):List Int:=ns.map fun n:Nat=>(n:Int)-1
def flat (ns:List Nat)(f:Nat→List Int)(m:Nat):List Int:=(List.range m).flatMap f
theorem jaX (ns:List Nat)(f:Nat→List Int)(m:Nat):flat ns f (m+1)=flat ns f m++f m:=by
 simp[flat,List.range_succ]
theorem jf5 {ns:List Nat}{f:Nat→List Int}{m:Nat}(h:∀ j,j<m→(f j).length≤4):(flat ns f m).length≤4*m:=by
 induction m with
 | zero=>simp[flat]
 | succ m ih=>
  rw[jaX,jiE]
  have h1:=ih fun j hj=>h j (by omega)
  have h2:=h m (by omega)
  omega
theorem PR_le {ns:List Nat}(h1:ns.length≤4)(h2:∀ n∈ns,2≤n∧n≤9):PR ns≤6561:=by
 have hb:∀ l:List Nat,(∀ n∈l,2≤n∧n≤9)→PR l≤9^l.length:=by
  intro l
  induction l with
  | nil=>intro _;decide
  | cons x l ih=>
   intro hl
   have h3:=ih fun n hn=>hl n (by simp[hn])
   have h4:=hl x (by simp)
   rw[PR,jiN,Nat.pow_succ,jic]
   exact Nat.mul_le_mul h3 h4.2
 exact jih (hb ns h2) (jio (by omega) h1)
theorem jf2 {ns:List Nat}(h1:1≤ns.length∧ns.length≤4)(h2:∀ n∈ns,2≤n∧n≤9):pad4 (ixl ns 0)=[0,0,0,0]:=by
 rw[jdY ns (fun n hn=>by have:=h2 n hn;omega) 0 (Nat.zero_mod _)]
 unfold pad4
 rw[List.length_replicate,← List.replicate_append_replicate.symm]
 have:ns.length+(4-ns.length)=4:=by omega
 simp[this]
theorem jea {a b:List Int}(h:a.length=b.length)(e:pad4 a=pad4 b):a=b:=(List.append_inj e h).1
theorem jbD {l:List Int}{p k:Nat}{x:Int}(h:l[p]? = some x)(hk:p<k)(hl:l.length≤4):(pad4 (l.take k)).getD p 0=x:=by
 have hp:=(jiI.1 h).1
 unfold pad4
 rw[jiz,jiH (by simp;omega),jiV hk,h]
 rfl
theorem jcz {l:List Int}{p:Nat}{x y:Int}(h:l[p]? = some x)(h1:p<l.length)(hl:l.length≤4):(pad4 (l.take (p+1))).set p y=pad4 (l.take p++y::List.replicate (l.length-(p+1)) 0):=by
 unfold pad4
 have e1:(l.take (p+1)).length=p+1:=by simp;omega
 have e2:(l.take p++y::List.replicate (l.length-(p+1)) 0).length=l.length:=by simp;omega
 have e4:(l.take p).length=p:=by simp;omega
 rw[e1,e2,List.set_append_left _ _ (by omega),jiW,h]
 have e3:(l.take p++(some x).toList).set p y=l.take p++[y]:=by
  rw[List.set_append_right _ _ (by omega),e4,Nat.sub_self]
  rfl
 rw[e3,jiG,jiG]
 congr 1
 rw[List.singleton_append,List.cons_append,List.replicate_append_replicate]
 congr 2
 omega
theorem jdl {l:List Int}{p:Nat}{x:Int}(h:l[p]? = some x)(hl:l.length≤4):(pad4 (l.take (p+1))).set p 0=pad4 (l.take p):=by
 have h1:=(jiI.1 h).1
 rw[jcz h h1 hl]
 unfold pad4
 have e2:(l.take p++(0:Int)::List.replicate (l.length-(p+1)) 0).length=l.length:=by simp;omega
 have e3:(l.take p).length=p:=by simp;omega
 rw[e2,e3,jiG]
 congr 1
 rw[← List.replicate_succ,List.replicate_append_replicate]
 congr 1
 omega
theorem jcV {ns:List Nat}{m p n:Nat}{x:Int}(hpos:∀ n∈ns,0<n)(hn:ns[p]? = some n)(hx:(ixl ns m)[p]? = some x):0≤x∧x≤(n:Int)-1:=by
 rw[jf3 ns m p n hn] at hx
 cases hx
 have:=Nat.mod_lt (m/PR (ns.drop (p+1))) (hpos n (jiD hn))
 omega
end Go.Proofs.YtgjgpdceghjajaaGreatDoor
end
section
namespace Go.Proofs.YtgjgpdceghjajaaGreatDoor
open Go Go.V Go.Nb Go.Gr
def cnP (out:Int)(ns:List Nat):Nat→Int
 | 0=>out
 | k+1=>cnP out ns k*(ns.getD k 1:Nat)
theorem cnP_bd {out:Int}{ns:List Nat}(ho:1≤out∧out≤4)(h2:∀ n∈ns,2≤n∧n≤9):∀ k,1≤cnP out ns k∧cnP out ns k≤4*9^k
 | 0=>by simp only[cnP];omega
 | k+1=>by
  have ih:=cnP_bd ho h2 k
  have hb:1≤ns.getD k 1∧ns.getD k 1≤9:=by
   rw[jiz]
   cases h:ns[k]? with
   | none=>simp
   | some n=>have:=h2 n (jiD h);simp;omega
  simp only[cnP,Int.pow_succ]
  generalize ns.getD k 1=b at hb
  generalize (9:Int)^k=p at ih
  have h1:cnP out ns k*1≤cnP out ns k*(b:Int):=jim (by omega) (by omega)
  have h3:cnP out ns k*(b:Int)≤cnP out ns k*9:=jim (by omega) (by omega)
  omega
theorem rpow9 (k:Nat)(h:k≤4):(4:Int)*9^k≤26244:=by
 have:k=0∨k=1∨k=2∨k=3∨k=4:=by omega
 rcases this with rfl|rfl|rfl|rfl|rfl<;>decide
theorem wce_at (Y:Nat→Tx):∀ n k,k<n→List.take 2 (List.drop (k*2) (wce Y n))=[.str (Y k).1,.str (Y k).2]
 | 0,k,h=>absurd h (Nat.not_lt_zero _)
 | n+1,k,h=>by
  have hl:∀ n,(wce Y n).length=n*2:=fun n=>by
   induction n with
   | zero=>rfl
   | succ n ih=>simp only[wce,jiE,ih];simp;omega
  rw[wce]
  rcases jig k n with g|g
  ·have ih:=wce_at Y n k g
   rw[jiM (by rw[hl];omega),jiL (by rw[jiU,hl];omega),ih]
  ·have:k=n:=by omega
   subst this
   rw[List.drop_append,jiP (by rw[hl];omega),hl,Nat.sub_self]
   rfl
theorem jg1 (sz:List Int):Cl 67 [.ints .i64 sz] (.fn 110 [] [.ref [.ints .i64 sz]]):=by
 refine V.en tbOk Tryz.func67 ?_
 refine V.r0 @jh7 ?_
 exact Fin.of rfl
theorem jfG (g:Nat→Int){o k:Nat}(h:k<o):((List.range o).map g).take (k+1)=((List.range o).map g).take k++[g k]:=by
 rw[jiW]
 congr 1
 simp[h]
theorem jhW:type_of% @jh9∧type_of% @jh7∧type_of% @tn0∧type_of% @tn1∧type_of% @tn2∧type_of% @tn3∧type_of% @xt4:=⟨@jh9,@jh7,@tn0,@tn1,@tn2,@tn3,@xt4⟩
theorem zX45_1:type_of% @jh9∧type_of% @jh7:=⟨@jh9,@jh7⟩
theorem zX45_2:type_of% @jh9∧type_of% @List.drop_zero.{0} ∧ type_of% @List.take_succ_cons.{0} ∧ type_of% @List.take_zero.{0} ∧ type_of% @jh7∧type_of% @tn0∧type_of% @tn1∧type_of% @tn2∧type_of% @tn3∧type_of% @xt4:=⟨@jh9,@List.drop_zero.{0},@List.take_succ_cons.{0},@List.take_zero.{0},@jh7,@tn0,@tn1,@tn2,@tn3,@xt4⟩
theorem refine2_t (zs data:List Int)(out:Int)(ns:List Nat)(X Y:Nat→Nat→Tx)(W:Nat→Nat→Int)(hl:zs.length=2)(hn:ns.length=2)(h2:∀ n∈ns,2≤n∧n≤9)(ho:1≤out∧out≤4)(hc:cnP out ns 2≤4096)
  (gr:Cl 37 [.agg [.ints .i64 zs,.int .i64 out,.ints .i64 data]] (.int .i64 0))
  (ov:∀ m i,m<PR ns→i<2→Cl 58 [.int .i64 ((pad4 (ixl ns m)).getD i 0),.int .i64 ((nz ns).getD i 0-1)] (.agg [.str (X m i).1,.str (X m i).2]))
  (ev:∀ m,m<PR ns→Cl 15 [.agg [.ints .i64 zs,.int .i64 out,.ints .i64 data],V.sl2 2 [.str (X m 0).1,.str (X m 0).2,.str (X m 1).1,.str (X m 1).2]] (.tup [.slf 2 out.toNat (fun j=>List.take 2 (List.drop (j*2) (wce (Y m) out.toNat))),.int .i64 0]))
  (nr:∀ m j,m<PR ns→j<out.toNat→Cl 68 [.agg [.str (Y m j).1,.str (Y m j).2],.int .i64 65535] (.tup [.int .i64 (W m j),.int .i64 0])) :
  Cl 33 [.agg [.ints .i64 zs,.int .i64 out,.ints .i64 data],.ints .i64 (nz ns)] (.tup [.agg [.ints .i64 (nz ns),.int .i64 out,.ints .i64 (flat ns (fun m=>(List.range out.toNat).map (W m)) (PR ns))],.int .i64 0]):=by
 have hlen:(nz ns).length=ns.length:=by simp[nz]
 have hlz:(nz ns).length=2:=by rw[hlen,hn]
 have hli:((nz ns).length:Int)=2:=by rw[hlz];rfl
 have hz:((zs.length:Nat):Int)=2:=by rw[hl];rfl
 have h1:1≤ns.length∧ns.length≤4:=by omega
 have po:=jg1 (nz ns)
 have cl:=clone_c (nz ns) (by omega)
 have hcb:=cnP_bd ho h2
 refine V.en tbOk Tryz.func33 ?_
 refine V.r1 jhW gr ?_
 refine Cnd.split (CondB.mk (fun h=>absurd h (by rw[hl,hlz];simp)) (fun _=>?_))
 refine V.r0 jhW ?_
 refine lp_go (ns.length) (fun k=>True) (fun k=>[(38,.int .i64 k),(7,.int .i64 (cnP out ns k))]) (fun k=>[]) V.wk ?_ ?_
 ·trivial
 intro k hk _
 have hck:=hcb k
 have hck1:=hcb (k+1)
 have hk9:(4:Int)*9^k≤26244:=rpow9 k (by omega)
 (conv=>whnf)
 refine V.st ?_
 refine V.br (fun h=>?_) (fun h=>?_)
 ·rw[hlen] at h
  simp only[decide_eq_true_eq] at h
  have hk1:k<ns.length:=by omega
  have hk91:(4:Int)*9^(k+1)≤26244:=rpow9 (k+1) (by omega)
  obtain⟨n,hnk⟩:∃ n,ns[k]? = some n:=⟨ns[k],jiC hk1⟩
  have hn0:=h2 n (jiD hnk)
  have en:(nz ns).getD k 0=n:=by simp[nz,jiz,hnk]
  have ec:cnP out ns (k+1)=cnP out ns k*(n:Int):=by simp[cnP,jiz,hnk]
  rw[ec] at hck1
  refine V.r0 (V.a2 jhW @en) ?_
  refine Cnd.split (CondB.mk (fun h=>absurd h (by simp;omega)) (fun _=>?_))
  (conv=>whnf)
  (try simp only[jhW,en,← ec])
  repeat ((first|refine V.s1 ?_);(try simp only[jhW,en,← ec]))
  exact⟨k+1,⟨by omega,trivial⟩,by omega,V.wk⟩
 ·rw[hlen] at h
  simp only[decide_eq_false_iff_not] at h
  have hk1:k=2:=by omega
  subst hk1
  clear hck hck1
  refine V.r0 jhW ?_
  refine Cnd.split (CondB.mk (fun h=>absurd h (by simp;omega)) (fun _=>?_))
  refine V.r0 jhW ?_
  refine⟨(V.tk [0,2,3] (.ev (.cons 1 [3,2] (V.tk [4] (V.e1 5 [4,3,2] (V.e1 6 [] .done))) (.cons 5 [3,2,0] (V.e1 1 [3,2] (V.tk [4] (V.e1 6 [] .done))) .nil)))),[],V.pok,?_⟩
  refine jab [(10,.box 10 0)] [(10,.box [.ints .i64 (nz ns),.int .i64 out,.nil])] ?_ ?_
  ·exact V.d1 jhW cl
  refine V.r1 jhW po ?_
  refine⟨_,_,⟨Tryz.func110,rfl,rfl,jh3 rfl⟩,?_⟩
  refine V.r0 @jh7 ?_
  refine lp_go (ns.length) (fun k=>True) (fun k=>[(10,.int .i64 k)]) (fun k=>[(122,.arr .i64 (pad4 ((lastL ns).take k)))]) V.wk ?_ ?_
  ·trivial
  intro k hk _
  (conv=>whnf)
  refine V.st ?_
  refine V.br (fun h=>?_) (fun h=>?_)
  ·rw[hlen] at h
   simp only[decide_eq_true_eq] at h
   have hk1:k<ns.length:=by omega
   obtain⟨n,hnk⟩:∃ n,ns[k]? = some n:=⟨ns[k],jiC hk1⟩
   have hn0:=h2 n (jiD hnk)
   have en:(nz ns).getD k 0=n:=by simp[nz,jiz,hnk]
   have hll:(lastL ns)[k]? = some ((n:Int)-1):=by simp[lastL,hnk]
   have hp4:(pad4 ((lastL ns).take k)).length=4:=jas (by simp[lastL];omega)
   have hps:=jd9 hll (by simp[lastL];omega)
   refine V.r0 (V.a3 zX45_1 @en hps) ?_
   exact⟨k+1,⟨by omega,trivial⟩,by omega,V.wk⟩
  ·rw[hlen] at h
   simp only[decide_eq_false_iff_not] at h
   have hk1:k=ns.length:=by omega
   subst hk1
   have e0:(lastL ns).take ns.length=lastL ns:=jiO (by simp[lastL])
   rw[e0]
   (conv=>whnf)
   refine V.st ?_
   refine Lp.ghostBox 279 10 2 .i64 (by decide) (by decide) ?_
   (conv=>whnf)
   have e1:=jf2 h1 h2
   have hpos:∀ n∈ns,0<n:=fun n hn=>by have:=h2 n hn;omega
   refine jae (0) (fun k=>k<PR ns) (fun k=>PR ns-k) (fun k=>[]) (fun k=>[(117,.lp none),(121,.arr .i64 (pad4 (ixl ns k))),(10,.box [.ints .i64 (nz ns),.int .i64 out,.osl 279 0 (flat ns (fun m=>(List.range out.toNat).map (W m)) k).length]),(279,.arr .i64 (flat ns (fun m=>(List.range out.toNat).map (W m)) k))]) ?_ ?_ ?_
   ·rw[e1]
    exact V.wk
   ·exact jdC hpos
   intro m hm
   have evm:=ev m hm
   have hlm:((List.range out.toNat).map (W m)).length=out.toNat:=by simp
   have hp4:(pad4 (ixl ns m)).length=4:=jas (by rw[jao];omega)
   have hp4l:(pad4 (lastL ns)).length=4:=jas (by simp[lastL];omega)
   have hfl:(flat ns (fun m=>(List.range out.toNat).map (W m)) m).length≤4*m:=jf5 (fun j hj=>by simp;omega)
   have hPR:=PR_le h1.2 h2
   have xb:∀ i n,ns[i]? = some n→(0≤(pad4 (ixl ns m)).getD i 0∧(pad4 (ixl ns m)).getD i 0≤8)∧(2≤(nz ns).getD i 0∧(nz ns).getD i 0≤9):=by
    intro i n h
    have e:=jf3 ns m i n h
    have b:=jcV hpos h e
    have b2:=h2 n (jiD h)
    have hi:=(jiI.1 h).1
    have e2:=jbD (k:=ns.length) e hi (by rw[jao];omega)
    rw[jiO (by rw[jao];omega)] at e2
    rw[e2]
    simp[nz,jiz,h]
    simp at b
    omega
   have i69:=fun i (hi:i<2)=>ns.getElem?_eq_getElem (show i<ns.length by omega)
   refine V.r0 (V.a2 jhW hli) ?_
   refine jae (0:Nat) (fun k=>k≤2) (fun k=>2-k) (fun k=>[(69,.int .i64 (k:Nat))]) (fun k=>[(232,.box (preD (2*k) [.str (X m 0).1,.str (X m 0).2,.str (X m 1).1,.str (X m 1).2]))]) ?_ ?_ ?_
   ·exact V.wk
   ·exact jh4 _
   intro k hk
   have hk4:k=0∨k=1∨k=2:=by omega
   rcases hk4 with e|e|e
   all_goals subst e
   ·simp only[k0]
    have c:=ov m 0 hm (by omega)
    have xb0:=xb 0 _ (i69 0 (by omega))
    refine V.r1 (V.a2 jhW hli) c ?_
    exact⟨1,by omega,by omega,V.wk⟩
   ·simp only[k1]
    have c:=ov m 1 hm (by omega)
    have xb1:=xb 1 _ (i69 1 (by omega))
    refine V.r1 (V.a2 jhW hli) c ?_
    exact⟨2,by omega,by omega,V.wk⟩
   ·simp only[k2]
    refine V.r1 (V.a2 jhW hli) evm ?_
    obtain⟨E,hE0,hEs,hEn,hEl⟩:∃ E:Nat→List Int,E 0=flat ns (fun m=>(List.range out.toNat).map (W m)) m∧(∀ k,k<out.toNat→E k++[W m k]=E (k+1))∧E out.toNat=flat ns (fun m=>(List.range out.toNat).map (W m)) (m+1) ∧ ∀ k,k≤out.toNat→(E k).length≤30000:=by
     refine⟨fun k=>flat ns (fun m=>(List.range out.toNat).map (W m)) m++((List.range out.toNat).map (W m)).take k,by simp,fun k hk=>?_,?_,fun k hk=>?_⟩
     ·show flat ns _ m++((List.range out.toNat).map (W m)).take k++[W m k]=flat ns _ m++((List.range out.toNat).map (W m)).take (k+1)
      rw[jfG _ hk,jiG]
     ·show flat _ _ _++_=_
      rw[jaX,jiO (by simp)]
     ·show (flat _ _ _++_).length≤_
      rw[jiE,jiF]
      omega
    rw[← hE0]
    refine lp_go (out.toNat) (fun k=>True) (fun k=>[(96,.int .i64 k)]) (fun k=>[(10,.box [.ints .i64 (nz ns),.int .i64 out,.osl 279 0 (E k).length]),(279,.arr .i64 (E k))]) V.wk ?_ ?_
    ·trivial
    intro k hk _
    (conv=>whnf)
    refine V.st ?_
    refine V.br (fun h=>?_) (fun h=>?_)
    ·simp only[decide_eq_true_eq] at h
     have hk1:k<out.toNat:=by omega
     have e:=wce_at (Y m) out.toNat k hk1
     have nrk:=nr m k hm hk1
     have hEk:=hEs k hk1
     have hEl1:=hEl k hk
     have hEl2:(E k).length+1=(E (k+1)).length:=by rw[← hEk];simp
     (conv=>whnf)
     (try simp only[zX45_2,hEk,hEl2,← jiE])
     repeat ((first|refine V.s1 ?_|((try ((with_reducible refine .ext ?_);(conv=>whnf);(try simp only[zX45_2,hEk,hEl2,← jiE])));(with_reducible refine jaa (r:=?_) ?_ ?_);rotate_left;(focus (first|exact(nrk)));(conv=>whnf))|((simp only[e]);(conv=>whnf)));(try simp only[zX45_2,hEk,hEl2,← jiE]))
     exact⟨k+1,⟨by omega,trivial⟩,by omega,V.wk⟩
    ·simp only[decide_eq_false_iff_not] at h
     have hk1:k=out.toNat:=by omega
     subst hk1
     rw[hEn]
     (conv=>whnf)
     refine V.st ?_
     refine V.br (fun hq=>?_) (fun hq=>?_)
     ·have hq2:ixl ns m≠lastL ns:=fun e=>by rw[e] at hq;simp at hq
      have hil:=jao ns m
      have hll:(lastL ns).length=ns.length:=by simp[lastL]
      (conv=>whnf)
      refine V.st ?_
      rw[hlen]
      have e2:(ixl ns m).take ns.length=ixl ns m:=jiO (by omega)
      refine jae (ns.length) (fun k=>(1≤k∧k≤ns.length)∧(ixl ns m).drop k=(lastL ns).drop k) (fun k=>k) (fun k=>[(7,.int .i64 ((k:Int)-1))]) (fun k=>[(121,.arr .i64 (pad4 ((ixl ns m).take k)))]) ?_ ?_ ?_
      ·rw[e2]
       exact V.wk
      ·exact⟨⟨h1.1,jia _⟩,by rw[jiP (by omega),jiP (by omega)]⟩
      rintro p ⟨⟨hp1,hp2⟩,hp3⟩
      obtain⟨p,rfl⟩:∃ q,p=q+1:=⟨p-1,by omega⟩
      obtain⟨x,hx⟩:∃ x,(ixl ns m)[p]? = some x:=⟨_,jiC (by omega)⟩
      obtain⟨n,hn⟩:∃ n,ns[p]? = some n:=⟨ns[p],jiC (by omega)⟩
      have hpx:=jbD hx (by omega:p<p+1) (by omega)
      have hpl:(lastL ns)[p]? = some ((n:Int)-1):=by simp[lastL,hn]
      have hpl2:=jbD (k:=4) hpl (by omega) (by omega)
      rw[jiO (by omega)] at hpl2
      have hp5:(pad4 ((ixl ns m).take (p+1))).length=4:=jas (by simp;omega)
      have e3:((p+1:Nat):Int)-1=(p:Int):=by omega
      have e4:=jdl hx (by omega)
      (conv=>whnf)
      refine V.st ?_
      refine⟨Pq28z,[],V.pok,.go (jad ?_)⟩
      refine V.r0 (V.a4 zX45_1 e3 hpx hpl2) ?_
      refine V.br (fun hc=>?_) (fun hc=>?_)
      ·simp only[decide_eq_true_eq] at hc
       have hd:(ixl ns m).drop p=(lastL ns).drop p:=by
        rw[jiR (by omega:p<(ixl ns m).length),jiR (by omega:p<(lastL ns).length),hp3,(jiI.1 hx).2,(jiI.1 hpl).2,hc]
       have hp0:1≤p:=by
        rcases jib p with e|e
        ·subst e;exact absurd (by simpa using hd) hq2
        ·exact e
       refine V.r0 (V.a3 zX45_1 e3 e4) ?_
       exact⟨p,⟨⟨hp0,by omega⟩,hd⟩,by omega,V.wk⟩
      ·simp only[decide_eq_false_iff_not] at hc
       have hsu:=jee ns hpos m p n hn x hx (by rw[hp3];simp[lastL]) hc
       have e5:=jcz (y:=x+1) hx (by omega) (by omega:(ixl ns m).length≤4)
       rw[hil,← hsu] at e5
       have hxb:=jcV hpos hn hx
       have hnb:=h2 n (jiD hn)
       have hm1:m+1<PR ns:=by
        rcases jig (m+1) (PR ns) with e|e
        ·exact e
        ·exfalso
         exact hq2 (jdr ns hpos m (by rw[jid hm];omega))
       refine V.r0 (V.a4 zX45_1 e3 hpx e5) ?_
       exact⟨m+1,hm1,by omega,V.wk⟩
     ·have hq2:ixl ns m=lastL ns:=jea (by rw[jao];simp[lastL]) (by simpa using hq)
      have hq3:=jdo ns hpos m hq2
      rw[jid hm] at hq3
      have hq4:m+1=PR ns:=by omega
      rw[hq4]
      (conv=>whnf)
      refine V.st ?_
      rw[jiO (jia _)]
      exact Fin.of rfl
def swX (X:Nat→Tx)(i k q:Nat):Tx:=if q=k then X i else if q=i then X k else X q
theorem jhH:type_of% @jh9∧type_of% @List.getD_cons_succ.{0} ∧ type_of% @List.getD_cons_zero.{0} ∧ type_of% @List.take_succ_cons.{0} ∧ type_of% @List.take_zero.{0} ∧ type_of% @jh7∧type_of% @tn0∧type_of% @tn1∧type_of% @tn2∧type_of% @tn3∧type_of% @xt4:=⟨@jh9,@List.getD_cons_succ.{0},@List.getD_cons_zero.{0},@List.take_succ_cons.{0},@List.take_zero.{0},@jh7,@tn0,@tn1,@tn2,@tn3,@xt4⟩
theorem swaps1_t (ds vals data zs2 data2:List Int)(oo out a b:Int)(sm:Bool)(at' z1 z2:Nat→Int)(b1 b2:Nat→Bool)(p1 p2:Nat→List Int)(s0:Nat)(F0 F1:Nat→List D)(X Y:Nat→Tx)(ha:0≤a∧a≤255)(hb:0≤b∧b≤255)
  (wk:Cl 10 [] (.bool true))
  (gd:Cl 11 [.agg [.ints .u8 ds,.int .u8 oo,.ints .u16 vals,.bool sm]] (.agg [.ints .i64 [(s0:Int)],.int .i64 out,.ints .i64 data]))
  (sw:Cl 12 [.agg [.ints .i64 [(s0:Int)],.int .i64 out,.ints .i64 data],.int .i64 (a%1),.int .i64 (b%1)] (.tup [.agg [.ints .i64 zs2,.int .i64 out,.ints .i64 data2],.int .i64 0]))
  (co:Cl 13 [(colD at' z1 z2 b1 b2 p1 p2),.int .i64 1] (.agg [.slf 2 1 F0,.slf 2 1 F1,V.sl2 1 [.str (X 0).1,.str (X 0).2]]))
  (e1:Cl 15 [.agg [.ints .i64 [(s0:Int)],.int .i64 out,.ints .i64 data],V.sl2 1 [.str (X 0).1,.str (X 0).2]] (.tup [V.sl2 out.toNat (wce Y out.toNat),.int .i64 0]))
  (e2:∀ i k:Nat,a%1=i→b%1=k→Cl 15 [.agg [.ints .i64 zs2,.int .i64 out,.ints .i64 data2],V.sl2 1 [.str (swX X i k 0).1,.str (swX X i k 0).2]] (.tup [V.sl2 out.toNat (wce Y out.toNat),.int .i64 0]))
  (eq:Cl 16 [V.sl2 out.toNat (wce Y out.toNat),V.sl2 out.toNat (wce Y out.toNat)] (.bool true)) :
  Cl 3 [.agg [.ints .u8 ds,.int .u8 oo,.ints .u16 vals,.bool sm],(colD at' z1 z2 b1 b2 p1 p2),.int .u8 a,.int .u8 b] (.bool true):=by
 have hsl:(([(s0:Int)].length:Nat):Int)=1:=rfl
 have ham:0≤a%1∧a%1<1:=by omega
 have hbm:0≤b%1∧b%1<1:=by omega
 refine V.en tbOk Tryz.func3 ?_
 refine V.r2 (V.a2 jhH hsl) wk gd ?_
 refine⟨Pq8z,[],V.pok,?_⟩
 refine jab [(10,.int .i64 (a%1)),(11,.int .i64 (b%1))] [] ?_ ?_
 ·exact V.d0 (V.a2 jhH hsl)
 (conv=>whnf)
 (try simp only[jhH,hsl])
 repeat ((first|refine V.s1 ?_|((try ((with_reducible refine .ext ?_);(conv=>whnf);(try simp only[jhH,hsl])));(with_reducible refine jaa (r:=?_) ?_ ?_);rotate_left;(focus (first|exact(sw)|exact(co)));(conv=>whnf))|((with_reducible refine .inl ?_);(conv=>whnf);(first|refine⟨0,_,_,⟨Tryz.func14,rfl,rfl,jh3 rfl⟩,?_⟩);(conv=>whnf)));(try simp only[jhH,hsl]))
 refine V.r0 (V.a2 jhH hsl) ?_
 have hi4:a%1=0:=by omega
 have hk4:b%1=0:=by omega
 have ea:=hi4
 have eb:=hk4
 simp only[ea,eb]
 ·have c:=e2 0 0 ea eb
  refine⟨Pq9z,[],V.pok,?_⟩
  refine jab [] [(100,.box [.str (swX X 0 0 0).1,.str (swX X 0 0 0).2])] ?_ ?_
  ·exact V.d0 (V.a2 jhH hsl)
  refine V.r3 (V.a2 jhH hsl) e1 c eq ?_
  exact Fin.of rfl
theorem swaps2_t (ds vals data zs2 data2:List Int)(oo out a b:Int)(sm:Bool)(at' z1 z2:Nat→Int)(b1 b2:Nat→Bool)(p1 p2:Nat→List Int)(s0 s1:Nat)(F0 F1:Nat→List D)(X Y:Nat→Tx)(ha:0≤a∧a≤255)(hb:0≤b∧b≤255)
  (wk:Cl 10 [] (.bool true))
  (gd:Cl 11 [.agg [.ints .u8 ds,.int .u8 oo,.ints .u16 vals,.bool sm]] (.agg [.ints .i64 [(s0:Int),(s1:Int)],.int .i64 out,.ints .i64 data]))
  (sw:Cl 12 [.agg [.ints .i64 [(s0:Int),(s1:Int)],.int .i64 out,.ints .i64 data],.int .i64 (a%2),.int .i64 (b%2)] (.tup [.agg [.ints .i64 zs2,.int .i64 out,.ints .i64 data2],.int .i64 0]))
  (co:Cl 13 [(colD at' z1 z2 b1 b2 p1 p2),.int .i64 2] (.agg [.slf 2 2 F0,.slf 2 2 F1,V.sl2 2 [.str (X 0).1,.str (X 0).2,.str (X 1).1,.str (X 1).2]]))
  (e1:Cl 15 [.agg [.ints .i64 [(s0:Int),(s1:Int)],.int .i64 out,.ints .i64 data],V.sl2 2 [.str (X 0).1,.str (X 0).2,.str (X 1).1,.str (X 1).2]] (.tup [V.sl2 out.toNat (wce Y out.toNat),.int .i64 0]))
  (e2:∀ i k:Nat,a%2=i→b%2=k→Cl 15 [.agg [.ints .i64 zs2,.int .i64 out,.ints .i64 data2],V.sl2 2 [.str (swX X i k 0).1,.str (swX X i k 0).2,.str (swX X i k 1).1,.str (swX X i k 1).2]] (.tup [V.sl2 out.toNat (wce Y out.toNat),.int .i64 0]))
  (eq:Cl 16 [V.sl2 out.toNat (wce Y out.toNat),V.sl2 out.toNat (wce Y out.toNat)] (.bool true)) :
  Cl 3 [.agg [.ints .u8 ds,.int .u8 oo,.ints .u16 vals,.bool sm],(colD at' z1 z2 b1 b2 p1 p2),.int .u8 a,.int .u8 b] (.bool true):=by
 have hsl:(([(s0:Int),(s1:Int)].length:Nat):Int)=2:=rfl
 have ham:0≤a%2∧a%2<2:=by omega
 have hbm:0≤b%2∧b%2<2:=by omega
 refine V.en tbOk Tryz.func3 ?_
 refine V.r2 (V.a2 jhH hsl) wk gd ?_
 refine⟨Pq8z,[],V.pok,?_⟩
 refine jab [(10,.int .i64 (a%2)),(11,.int .i64 (b%2))] [] ?_ ?_
 ·exact V.d0 (V.a2 jhH hsl)
 (conv=>whnf)
 (try simp only[jhH,hsl])
 repeat ((first|refine V.s1 ?_|((try ((with_reducible refine .ext ?_);(conv=>whnf);(try simp only[jhH,hsl])));(with_reducible refine jaa (r:=?_) ?_ ?_);rotate_left;(focus (first|exact(sw)|exact(co)));(conv=>whnf))|((with_reducible refine .inl ?_);(conv=>whnf);(first|refine⟨0,_,_,⟨Tryz.func14,rfl,rfl,jh3 rfl⟩,?_⟩);(conv=>whnf)));(try simp only[jhH,hsl]))
 refine V.r0 (V.a2 jhH hsl) ?_
 have hi4:a%2=0∨a%2=1:=by omega
 have hk4:b%2=0∨b%2=1:=by omega
 rcases hi4 with ea|ea<;>rcases hk4 with eb|eb<;>simp only[ea,eb]
 ·have c:=e2 0 0 ea eb
  refine⟨Pq9z,[],V.pok,?_⟩
  refine jab [] [(100,.box [.str (swX X 0 0 0).1,.str (swX X 0 0 0).2,.str (swX X 0 0 1).1,.str (swX X 0 0 1).2])] ?_ ?_
  ·exact V.d0 (V.a2 jhH hsl)
  refine V.r3 (V.a2 jhH hsl) e1 c eq ?_
  exact Fin.of rfl
 ·have c:=e2 0 1 ea eb
  refine⟨Pq9z,[],V.pok,?_⟩
  refine jab [] [(100,.box [.str (swX X 0 1 0).1,.str (swX X 0 1 0).2,.str (swX X 0 1 1).1,.str (swX X 0 1 1).2])] ?_ ?_
  ·exact V.d0 (V.a2 jhH hsl)
  refine V.r3 (V.a2 jhH hsl) e1 c eq ?_
  exact Fin.of rfl
 ·have c:=e2 1 0 ea eb
  refine⟨Pq9z,[],V.pok,?_⟩
  refine jab [] [(100,.box [.str (swX X 1 0 0).1,.str (swX X 1 0 0).2,.str (swX X 1 0 1).1,.str (swX X 1 0 1).2])] ?_ ?_
  ·exact V.d0 (V.a2 jhH hsl)
  refine V.r3 (V.a2 jhH hsl) e1 c eq ?_
  exact Fin.of rfl
 ·have c:=e2 1 1 ea eb
  refine⟨Pq9z,[],V.pok,?_⟩
  refine jab [] [(100,.box [.str (swX X 1 1 0).1,.str (swX X 1 1 0).2,.str (swX X 1 1 1).1,.str (swX X 1 1 1).2])] ?_ ?_
  ·exact V.d0 (V.a2 jhH hsl)
  refine V.r3 (V.a2 jhH hsl) e1 c eq ?_
  exact Fin.of rfl
theorem swaps3_t (ds vals data zs2 data2:List Int)(oo out a b:Int)(sm:Bool)(at' z1 z2:Nat→Int)(b1 b2:Nat→Bool)(p1 p2:Nat→List Int)(s0 s1 s2:Nat)(F0 F1:Nat→List D)(X Y:Nat→Tx)(ha:0≤a∧a≤255)(hb:0≤b∧b≤255)
  (wk:Cl 10 [] (.bool true))
  (gd:Cl 11 [.agg [.ints .u8 ds,.int .u8 oo,.ints .u16 vals,.bool sm]] (.agg [.ints .i64 [(s0:Int),(s1:Int),(s2:Int)],.int .i64 out,.ints .i64 data]))
  (sw:Cl 12 [.agg [.ints .i64 [(s0:Int),(s1:Int),(s2:Int)],.int .i64 out,.ints .i64 data],.int .i64 (a%3),.int .i64 (b%3)] (.tup [.agg [.ints .i64 zs2,.int .i64 out,.ints .i64 data2],.int .i64 0]))
  (co:Cl 13 [(colD at' z1 z2 b1 b2 p1 p2),.int .i64 3] (.agg [.slf 2 3 F0,.slf 2 3 F1,V.sl2 3 [.str (X 0).1,.str (X 0).2,.str (X 1).1,.str (X 1).2,.str (X 2).1,.str (X 2).2]]))
  (e1:Cl 15 [.agg [.ints .i64 [(s0:Int),(s1:Int),(s2:Int)],.int .i64 out,.ints .i64 data],V.sl2 3 [.str (X 0).1,.str (X 0).2,.str (X 1).1,.str (X 1).2,.str (X 2).1,.str (X 2).2]] (.tup [V.sl2 out.toNat (wce Y out.toNat),.int .i64 0]))
  (e2:∀ i k:Nat,a%3=i→b%3=k→Cl 15 [.agg [.ints .i64 zs2,.int .i64 out,.ints .i64 data2],V.sl2 3 [.str (swX X i k 0).1,.str (swX X i k 0).2,.str (swX X i k 1).1,.str (swX X i k 1).2,.str (swX X i k 2).1,.str (swX X i k 2).2]] (.tup [V.sl2 out.toNat (wce Y out.toNat),.int .i64 0]))
  (eq:Cl 16 [V.sl2 out.toNat (wce Y out.toNat),V.sl2 out.toNat (wce Y out.toNat)] (.bool true)) :
  Cl 3 [.agg [.ints .u8 ds,.int .u8 oo,.ints .u16 vals,.bool sm],(colD at' z1 z2 b1 b2 p1 p2),.int .u8 a,.int .u8 b] (.bool true):=by
 have hsl:(([(s0:Int),(s1:Int),(s2:Int)].length:Nat):Int)=3:=rfl
 have ham:0≤a%3∧a%3<3:=by omega
 have hbm:0≤b%3∧b%3<3:=by omega
 refine V.en tbOk Tryz.func3 ?_
 refine V.r2 (V.a2 jhH hsl) wk gd ?_
 refine⟨Pq8z,[],V.pok,?_⟩
 refine jab [(10,.int .i64 (a%3)),(11,.int .i64 (b%3))] [] ?_ ?_
 ·exact V.d0 (V.a2 jhH hsl)
 (conv=>whnf)
 (try simp only[jhH,hsl])
 repeat ((first|refine V.s1 ?_|((try ((with_reducible refine .ext ?_);(conv=>whnf);(try simp only[jhH,hsl])));(with_reducible refine jaa (r:=?_) ?_ ?_);rotate_left;(focus (first|exact(sw)|exact(co)));(conv=>whnf))|((with_reducible refine .inl ?_);(conv=>whnf);(first|refine⟨0,_,_,⟨Tryz.func14,rfl,rfl,jh3 rfl⟩,?_⟩);(conv=>whnf)));(try simp only[jhH,hsl]))
 refine V.r0 (V.a2 jhH hsl) ?_
 have hi4:a%3=0∨a%3=1∨a%3=2:=by omega
 have hk4:b%3=0∨b%3=1∨b%3=2:=by omega
 rcases hi4 with ea|ea|ea<;>rcases hk4 with eb|eb|eb<;>simp only[ea,eb]
 ·have c:=e2 0 0 ea eb
  refine⟨Pq9z,[],V.pok,?_⟩
  refine jab [] [(100,.box [.str (swX X 0 0 0).1,.str (swX X 0 0 0).2,.str (swX X 0 0 1).1,.str (swX X 0 0 1).2,.str (swX X 0 0 2).1,.str (swX X 0 0 2).2])] ?_ ?_
  ·exact V.d0 (V.a2 jhH hsl)
  refine V.r3 (V.a2 jhH hsl) e1 c eq ?_
  exact Fin.of rfl
 ·have c:=e2 0 1 ea eb
  refine⟨Pq9z,[],V.pok,?_⟩
  refine jab [] [(100,.box [.str (swX X 0 1 0).1,.str (swX X 0 1 0).2,.str (swX X 0 1 1).1,.str (swX X 0 1 1).2,.str (swX X 0 1 2).1,.str (swX X 0 1 2).2])] ?_ ?_
  ·exact V.d0 (V.a2 jhH hsl)
  refine V.r3 (V.a2 jhH hsl) e1 c eq ?_
  exact Fin.of rfl
 ·have c:=e2 0 2 ea eb
  refine⟨Pq9z,[],V.pok,?_⟩
  refine jab [] [(100,.box [.str (swX X 0 2 0).1,.str (swX X 0 2 0).2,.str (swX X 0 2 1).1,.str (swX X 0 2 1).2,.str (swX X 0 2 2).1,.str (swX X 0 2 2).2])] ?_ ?_
  ·exact V.d0 (V.a2 jhH hsl)
  refine V.r3 (V.a2 jhH hsl) e1 c eq ?_
  exact Fin.of rfl
 ·have c:=e2 1 0 ea eb
  refine⟨Pq9z,[],V.pok,?_⟩
  refine jab [] [(100,.box [.str (swX X 1 0 0).1,.str (swX X 1 0 0).2,.str (swX X 1 0 1).1,.str (swX X 1 0 1).2,.str (swX X 1 0 2).1,.str (swX X 1 0 2).2])] ?_ ?_
  ·exact V.d0 (V.a2 jhH hsl)
  refine V.r3 (V.a2 jhH hsl) e1 c eq ?_
  exact Fin.of rfl
 ·have c:=e2 1 1 ea eb
  refine⟨Pq9z,[],V.pok,?_⟩
  refine jab [] [(100,.box [.str (swX X 1 1 0).1,.str (swX X 1 1 0).2,.str (swX X 1 1 1).1,.str (swX X 1 1 1).2,.str (swX X 1 1 2).1,.str (swX X 1 1 2).2])] ?_ ?_
  ·exact V.d0 (V.a2 jhH hsl)
  refine V.r3 (V.a2 jhH hsl) e1 c eq ?_
  exact Fin.of rfl
 ·have c:=e2 1 2 ea eb
  refine⟨Pq9z,[],V.pok,?_⟩
  refine jab [] [(100,.box [.str (swX X 1 2 0).1,.str (swX X 1 2 0).2,.str (swX X 1 2 1).1,.str (swX X 1 2 1).2,.str (swX X 1 2 2).1,.str (swX X 1 2 2).2])] ?_ ?_
  ·exact V.d0 (V.a2 jhH hsl)
  refine V.r3 (V.a2 jhH hsl) e1 c eq ?_
  exact Fin.of rfl
 ·have c:=e2 2 0 ea eb
  refine⟨Pq9z,[],V.pok,?_⟩
  refine jab [] [(100,.box [.str (swX X 2 0 0).1,.str (swX X 2 0 0).2,.str (swX X 2 0 1).1,.str (swX X 2 0 1).2,.str (swX X 2 0 2).1,.str (swX X 2 0 2).2])] ?_ ?_
  ·exact V.d0 (V.a2 jhH hsl)
  refine V.r3 (V.a2 jhH hsl) e1 c eq ?_
  exact Fin.of rfl
 ·have c:=e2 2 1 ea eb
  refine⟨Pq9z,[],V.pok,?_⟩
  refine jab [] [(100,.box [.str (swX X 2 1 0).1,.str (swX X 2 1 0).2,.str (swX X 2 1 1).1,.str (swX X 2 1 1).2,.str (swX X 2 1 2).1,.str (swX X 2 1 2).2])] ?_ ?_
  ·exact V.d0 (V.a2 jhH hsl)
  refine V.r3 (V.a2 jhH hsl) e1 c eq ?_
  exact Fin.of rfl
 ·have c:=e2 2 2 ea eb
  refine⟨Pq9z,[],V.pok,?_⟩
  refine jab [] [(100,.box [.str (swX X 2 2 0).1,.str (swX X 2 2 0).2,.str (swX X 2 2 1).1,.str (swX X 2 2 1).2,.str (swX X 2 2 2).1,.str (swX X 2 2 2).2])] ?_ ?_
  ·exact V.d0 (V.a2 jhH hsl)
  refine V.r3 (V.a2 jhH hsl) e1 c eq ?_
  exact Fin.of rfl
end Go.Proofs.YtgjgpdceghjajaaGreatDoor
end
section
namespace Go.Proofs.YtgjgpdceghjajaaGreatDoor
open Go Go.V Go.Nb
def frT_o (x:Rat):D := .agg [.str (decZ x.num),.str (dec x.den)]
def fl (q:Rat):Int:=q.num/(q.den:Int)
def gtr (m x:Rat):Rat:=if m<x then x else m
theorem ordQ_lt {x y:Rat} : ordQ x y<0↔x<y:=by
 unfold ordQ
 by_cases a:x<y
 ·rw[if_pos a];exact⟨fun _=>a,fun _=>by omega⟩
 ·rw[if_neg a]
  by_cases b:x=y
  ·rw[if_pos b];exact⟨fun h=>by omega,fun h=>absurd h a⟩
  ·rw[if_neg b];exact⟨fun h=>by omega,fun h=>absurd h a⟩
theorem ordQ_gt {x y:Rat} : ordQ x y>0↔y<x:=by
 unfold ordQ
 by_cases a:x<y
 ·rw[if_pos a];exact⟨fun h=>by omega,fun h=>absurd h (Rat.not_lt.2 (Rat.le_of_lt a))⟩
 ·rw[if_neg a]
  by_cases b:x=y
  ·rw[if_pos b,b];exact⟨fun h=>by omega,fun h=>absurd h (Rat.lt_irrefl)⟩
  ·rw[if_neg b];exact⟨fun _=>Rat.lt_of_le_of_ne (Rat.not_lt.1 a) (Ne.symm b),fun _=>by omega⟩
def hasR (x:Rat)(p q:Int):Bool:=decide (ordQ x (unit p)≥0) && decide (ordQ x (unit q)≤0)
theorem jgF (n d:Int)(hd:0<d):(Rat.divInt n d).num*d=n*((Rat.divInt n d).den:Int):=by
 have h:=(Rat.divInt n d).den_pos
 rw[← Rat.divInt_eq_divInt_iff (by omega) (by omega),jix]
theorem divInt_lt' (n d:Int)(hd:0<d)(x:Rat):Rat.divInt n d<x↔n*x.den<x.num*d:=by
 have e:=jgF n d hd
 have hb:(0:Int)<((Rat.divInt n d).den:Int):=by have:=(Rat.divInt n d).den_pos;omega
 rw[Rat.lt_iff]
 generalize (Rat.divInt n d).num=a at *
 generalize ((Rat.divInt n d).den:Int)=b at *
 have e1:a*x.den*d=n*x.den*b:=by
  rw[Int.mul_right_comm,e,Int.mul_right_comm]
 have e2:x.num*b*d=x.num*d*b:=by rw[Int.mul_right_comm]
 constructor
 ·intro h
  have:=Int.mul_lt_mul_of_pos_right h hd
  rw[e1,e2] at this
  exact Int.lt_of_mul_lt_mul_right this (by omega)
 ·intro h
  have:=Int.mul_lt_mul_of_pos_right h hb
  rw[← e1,← e2] at this
  exact Int.lt_of_mul_lt_mul_right this (by omega)
theorem divInt_eq' (n d:Int)(hd:0<d)(x:Rat):x=Rat.divInt n d↔x.num*d=n*x.den:=by
 have hp:=x.den_pos
 conv=>lhs;rw[← jix x]
 exact Rat.divInt_eq_divInt_iff (by omega) (by omega)
theorem ord_ge (x y:Rat):ordQ x y≥0 ↔ ¬ x<y:=by
 have:=ordQ_lt (x:=x) (y:=y)
 constructor
 ·intro h h2;have:=this.2 h2;omega
 ·intro h
  rcases Int.lt_or_le (ordQ x y) 0 with h2|h2
  ·exact absurd (this.1 h2) h
  ·exact h2
theorem ord_le (x y:Rat):ordQ x y≤0 ↔ ¬ y<x:=by
 have:=ordQ_gt (x:=x) (y:=y)
 constructor
 ·intro h h2;have:=this.2 h2;omega
 ·intro h
  rcases Int.lt_or_le 0 (ordQ x y) with h2|h2
  ·exact absurd (this.1 h2) h
  ·exact h2
theorem jfE (m:Int)(x:Rat):unit m<x↔m*x.den<x.num*1000000000000:=divInt_lt' m _ (by decide) x
theorem jfF (m:Int)(x:Rat):x=unit m↔x.num*1000000000000=m*x.den:=divInt_eq' m _ (by decide) x
theorem jhd (m:Int)(x:Rat):x<unit m↔x.num*1000000000000<m*x.den:=by
 have h1:=jfE m x
 have h2:=jfF m x
 constructor
 ·intro h
  have a1:¬ unit m<x:=Rat.not_lt.2 (Rat.le_of_lt h)
  have a2:¬ x=unit m:=Rat.ne_of_lt h
  rw[h1] at a1
  rw[h2] at a2
  omega
 ·intro h
  have a1:¬ unit m<x:=fun g=>by have:=h1.1 g;omega
  have a2:¬ x=unit m:=fun g=>by have:=h2.1 g;omega
  exact Rat.lt_of_le_of_ne (Rat.not_lt.1 a1) a2
theorem jf4 (x:Rat)(p q:Int):hasR x p q=true↔p*x.den≤x.num*1000000000000∧x.num*1000000000000≤q*x.den:=by
 unfold hasR
 rw[jh2,decide_eq_true_eq,decide_eq_true_eq,ord_ge,ord_le,jhd,jfE]
 omega
theorem jhc (x:Rat):2*(nearZ x 1000000000000*x.den)≤2*(x.num*1000000000000)+x.den∧2*(x.num*1000000000000)+x.den<2*(nearZ x 1000000000000*x.den)+2*x.den:=by
 have hp:=x.den_pos
 unfold nearZ
 have h1:=jh5 (x.num*((1000000000000*2:Nat):Int)+x.den) ((x.den*2:Nat):Int)
 have h2:=Int.emod_nonneg (x.num*((1000000000000*2:Nat):Int)+x.den) (show ((x.den*2:Nat):Int)≠0 by omega)
 have h3:=jiq (x.num*((1000000000000*2:Nat):Int)+x.den) (show 0<((x.den*2:Nat):Int) by omega)
 generalize (x.num*((1000000000000*2:Nat):Int)+x.den)%((x.den*2:Nat):Int)=r at *
 generalize (x.num*((1000000000000*2:Nat):Int)+x.den)/((x.den*2:Nat):Int)=n at *
 have e:((x.den*2:Nat):Int)*n=2*(n*x.den):=by
  rw[show ((x.den*2:Nat):Int)=2*(x.den:Int) by omega,jil,jik (x.den:Int) n]
 rw[e] at h1
 generalize n*(x.den:Int)=y at *
 omega
theorem near_le (x:Rat)(K:Int)(h : -(K*x.den)≤x.num∧x.num≤K*x.den) : -(K*1000000000000)-1≤nearZ x 1000000000000∧nearZ x 1000000000000≤K*1000000000000+1:=by
 have hp:=x.den_pos
 obtain⟨b1,b2⟩:=jhc x
 generalize nearZ x 1000000000000=n at *
 have e:K*1000000000000*(x.den:Int)=1000000000000*(K*x.den):=by rw[Int.mul_right_comm,jik]
 constructor
 ·rcases Int.lt_or_le n (-(K*1000000000000)-1) with g|g
  ·exfalso
   have:=jie (show n ≤ -(K*1000000000000)-2 by omega) (show (0:Int)≤x.den by omega)
   rw[Int.sub_mul,Int.neg_mul,e] at this
   omega
  ·exact g
 ·rcases Int.lt_or_le (K*1000000000000+1) n with g|g
  ·exfalso
   have:=jie (show K*1000000000000+2≤n by omega) (show (0:Int)≤x.den by omega)
   rw[jit,e] at this
   omega
  ·exact g
theorem around_law (x:Rat)(h : -999999999999999999≤nearZ x 1000000000000∧nearZ x 1000000000000≤999999999999999999) :
  ∃ p q,jc7 x=(p,q,0)∧vb p q=true∧q-p≤1∧hasR x p q=true∧(p=q↔unit p=x):=by
 have hp:=x.den_pos
 obtain⟨b1,b2⟩:=jhc x
 unfold jc7
 rw[if_pos (jbz.2 (by omega))]
 generalize nearZ x 1000000000000=n at *
 have l1:=jhd n x
 have l2:=jfE n x
 have e1:(n + -1)*(x.den:Int)=n*x.den-x.den:=by rw[jit];omega
 have e2:(n+1)*(x.den:Int)=n*x.den+x.den:=by rw[jit];omega
 by_cases g1:x<unit n
 ·have o:ordQ x (unit n) = -1:=by unfold ordQ;rw[if_pos g1]
  rw[o,show min (-1:Int) 0 = -1 from rfl,show max (-1:Int) 0=0 from rfl,mk_ok (by omega),jir]
  have:=l1.1 g1
  refine⟨_,_,rfl,jbz.2 (by omega),by omega,(jf4 _ _ _).2 (by rw[e1];omega),⟨fun h=>by omega,fun h=>?_⟩⟩
  have:=(jfF (n + -1) x).1 h.symm
  rw[e1] at this
  omega
 ·by_cases g2:x=unit n
  ·have o:ordQ x (unit n)=0:=by unfold ordQ;rw[if_neg g1,if_pos g2]
   rw[o,show min (0:Int) 0=0 from rfl,show max (0:Int) 0=0 from rfl,mk_ok (by omega),jir]
   have:=(jfF n x).1 g2
   exact⟨_,_,rfl,jbz.2 (by omega),by omega,(jf4 _ _ _).2 (by omega),⟨fun _=>g2.symm,fun _=>rfl⟩⟩
  ·have o:ordQ x (unit n)=1:=by unfold ordQ;rw[if_neg g1,if_neg g2]
   rw[o,show min (1:Int) 0=0 from rfl,show max (1:Int) 0=1 from rfl,mk_ok (by omega),jir]
   have h3:unit n<x:=Rat.lt_of_le_of_ne (Rat.not_lt.1 g1) (Ne.symm g2)
   have:=l2.1 h3
   exact⟨_,_,rfl,jbz.2 (by omega),by omega,(jf4 _ _ _).2 (by rw[e2];omega),⟨fun h=>by omega,fun h=>absurd h.symm g2⟩⟩
theorem near_unit (m:Int):nearZ (unit m) 1000000000000=m:=by
 obtain⟨b1,b2⟩:=jhc (unit m)
 have h:=(jfF m (unit m)).1 rfl
 have hp:=(unit m).den_pos
 generalize nearZ (unit m) 1000000000000=n at *
 rw[h] at b1 b2
 generalize (unit m).den=d at *
 rcases Int.lt_trichotomy n m with g|g|g
 ·exfalso
  have:=jie (show n+1≤m by omega) (show (0:Int)≤d by omega)
  rw[jit] at this
  omega
 ·exact g
 ·exfalso
  have:=jie (show m+1≤n by omega) (show (0:Int)≤d by omega)
  rw[jit] at this
  omega
theorem je1 (m:Int)(h:vb m m=true):jc7 (unit m)=(m,m,0):=by
 unfold jc7
 rw[near_unit,if_pos h,show ordQ (unit m) (unit m)=0 by unfold ordQ;rw[if_neg Rat.lt_irrefl,if_pos rfl]]
 rw[show min (0:Int) 0=0 from rfl,show max (0:Int) 0=0 from rfl,jir]
 unfold mk
 rw[if_pos h]
theorem okF_40 {q:Rat}(h1:q.num.natAbs<10^40)(h2:q.den<10^40):okF q=true:=by
 unfold okF
 simp only[jh2,decide_eq_true_eq]
 exact⟨jih (jaU 40 _ (by omega) h1).1 (by omega),jih (jaU 40 _ (by omega) h2).1 (by omega)⟩
theorem divInt_40 (n d:Int)(hn : -10000000000000000000000000000000000000000<n∧n<10000000000000000000000000000000000000000)(hd:d≠0 ∧ -10000000000000000000000000000000000000000<d∧d<10000000000000000000000000000000000000000) :
  (Rat.divInt n d).num.natAbs<10^40∧(Rat.divInt n d).den<10^40:=by
 rcases (by omega:0<d∨d<0) with h|h
 ·obtain⟨k,rfl⟩:∃ k:Nat,d=k:=⟨d.toNat,by omega⟩
  have:=jeQ n k (by omega)
  constructor
  ·exact Nat.lt_of_le_of_lt this.1 (by omega)
  ·exact Nat.lt_of_le_of_lt this.2 (by omega)
 ·rw[← Rat.neg_divInt_neg]
  obtain⟨k,hk⟩:∃ k:Nat, -d=k:=⟨(-d).toNat,by omega⟩
  rw[hk]
  have:=jeQ (-n) k (by omega)
  constructor
  ·exact Nat.lt_of_le_of_lt this.1 (by omega)
  ·exact Nat.lt_of_le_of_lt this.2 (by omega)
theorem in01_c_o (s:List UInt8)(h:okW s=true):Cl 73 [.str s] (plD (wval s)):=by
 obtain⟨d,j,neg,S,e1,e2⟩:=sg_of s
 rw[e2]
 rw[e1] at h
 unfold okD at h
 simp only[jh2,Bool.not_eq_true',Bool.or_eq_false_iff,decide_eq_false_iff_not,jiy] at h
 exact in01_g s d j neg S h.1.2 (by omega) (by have:=S.hl;omega)
end Go.Proofs.YtgjgpdceghjajaaGreatDoor
end
