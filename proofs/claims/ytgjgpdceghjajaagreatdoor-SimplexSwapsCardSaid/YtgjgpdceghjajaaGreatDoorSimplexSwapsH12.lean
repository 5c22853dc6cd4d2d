/- What functions of the program answer at given values, part 12. Conditions: those that each theorem names. -/
import Derived.Test.YtgjgpdceghjajaaGreatDoorSimplexSwapsH11
import Derived.Test.YtgjgpdceghjajaaGreatDoorSimplexSwapsH7
import Derived.Test.YtgjgpdceghjajaaGreatDoorSimplexSwapsH6
set_option linter.unusedSimpArgs false
set_option linter.unusedVariables false
set_option maxHeartbeats 8000000
set_option maxRecDepth 100000
section
namespace Go.Proofs.YtgjgpdceghjajaaGreatDoor
open Go Go.V Go.Nb
theorem jhN:type_of% @jh7∧type_of% @tn0∧type_of% @tn1∧type_of% @tn2∧type_of% @tn3:=⟨@jh7,@tn0,@tn1,@tn2,@tn3⟩
theorem jhU:type_of% @jh9∧type_of% @jh7∧type_of% @tns:=⟨@jh9,@jh7,@tns⟩
theorem zX13b_2:type_of% @jiT ∧ type_of% @jh7:=⟨@jiT,@jh7⟩
theorem find2_t (z0 z1 out b0 b1:Int)(data:List Int)(x0 y0 x1 y1 o0 o1:List UInt8)(R Bf W:Nat→Tx)
  (sp0:Cl 124 [.agg [.str x0,.str y0],.int .i64 z0] (.tup [.int .i64 b0,.agg [.str (R 0).1,.str (R 0).2],.int .i64 0]))
  (sp1:Cl 124 [.agg [.str x1,.str y1],.int .i64 z1] (.tup [.int .i64 b1,.agg [.str (R 1).1,.str (R 1).2],.int .i64 0]))
  (io:Cl 86 [.int .i64 1] (.agg [.str o0,.str o1])) (w:Int→Int→Int) (cm:∀ a b:Nat,a<2→b<2→Cl 126 [.int .i64 a,.int .i64 b,.ref [V.sl2 2 [.str (R 0).1,.str (R 0).2,.str (R 1).1,.str (R 1).2]]] (.int .i64 (w a b)))
  (hBf0:Bf 0=(o0,o1)) (hBf:∀ k,k<2→Bf (k+1)=R ((isoK w [0,1] (2-1)).getD k 0).toNat) (sb:∀ k,k<2→Cl 99 [.agg [.str (Bf k).1,.str (Bf k).2],.agg [.str (R ((isoK w [0,1] (2-1)).getD k 0).toNat).1,.str (R ((isoK w [0,1] (2-1)).getD k 0).toNat).2]] (.tup [.agg [.str (W k).1,.str (W k).2],.int .i64 0])) :
  Cl 79 [.agg [.ints .i64 [z0,z1],.int .i64 out,.ints .i64 data],V.sl2 2 [.str x0,.str y0,.str x1,.str y1]] (.tup [.agg [.ints .i64 [z0,z1],.int .i64 out,.ints .i64 data,.ints .i64 [b0,b1],.ints .i64 (isoK w [0,1] (2-1)),V.sl2 3 [.str (W 0).1,.str (W 0).2,.str (W 1).1,.str (W 1).2,.str (Bf 2).1,.str (Bf 2).2]],.int .i64 0]):=by
  refine V.en tbOk Tryz.func79 ?_
  refine V.r0 @jh7 ?_
  refine⟨Pq47z,[],V.pok,?_⟩
  refine jab [(6,.box 6 0),(17,.osl 17 0 2),(20,.osl 20 0 2)] [(6,.box [.ints .i64 [z0,z1],.int .i64 out,.ints .i64 data,.osl 17 0 2,.osl 20 0 2,.nil]),(17,.arr .i64 [0,0]),(20,.arr .i64 [0,0])] ?_ ?_
  ·exact V.d0 @jh7
  refine V.r0 @jh7 ?_
  refine .inl ?_
  (conv=>whnf)
  refine⟨0,_,_,⟨Tryz.func82,rfl,rfl,jh3 rfl⟩,?_⟩
  refine V.r0 @jh7 ?_
  refine jae (0) (fun k=>k≤2) (fun k=>2-k) (fun k=>[(14,.int .i64 k)]) (fun k=>[(88,.box (preD (2*k) [.str (R 0).1,.str (R 0).2,.str (R 1).1,.str (R 1).2])),(17,.arr .i64 (preZ k [b0,b1])),(20,.arr .i64 (preZ k [0,1]))]) ?_ ?_ ?_
  ·exact V.wk
  ·exact jh4 _
  intro k hk
  have hk4:k=0∨k=1∨k=2:=by omega
  rcases hk4 with e|e|e
  all_goals subst e
  ·simp only[k0]
   have q1:(preZ 0 [b0,b1]).length=2:=rfl
   have q2:(preZ 0 [0,1]).length=2:=rfl
   refine V.r0 jhN ?_
   refine .inl ?_
   (conv=>whnf)
   refine⟨0,_,_,⟨Tryz.func123,rfl,rfl,jh3 rfl⟩,?_⟩
   refine V.r0 jhN ?_
   refine⟨Pq14z,[],V.pok,?_⟩
   refine jab [(8,.box 118 0),(7,.int .i64 b0),(9,.int .i64 0)] [(118,.box [.str (R 0).1,.str (R 0).2])] ?_ ?_
   ·exact V.d1 jhN sp0
   refine V.r0 jhN ?_
   refine⟨Pq18z,[],V.pok,?_⟩
   refine jab [] [(17,.arr .i64 (preZ 1 [b0,b1])),(20,.arr .i64 (preZ 1 [0,1]))] ?_ ?_
   ·exact V.d0 jhN
   refine V.r0 jhN ?_
   exact⟨1,by omega,by omega,V.wk⟩
  ·simp only[k1]
   have q1:(preZ 1 [b0,b1]).length=2:=rfl
   have q2:(preZ 1 [0,1]).length=2:=rfl
   refine V.r0 jhN ?_
   refine .inl ?_
   (conv=>whnf)
   refine⟨0,_,_,⟨Tryz.func123,rfl,rfl,jh3 rfl⟩,?_⟩
   refine V.r0 jhN ?_
   refine⟨Pq14z,[],V.pok,?_⟩
   refine jab [(8,.box 118 0),(7,.int .i64 b1),(9,.int .i64 0)] [(118,.box [.str (R 1).1,.str (R 1).2])] ?_ ?_
   ·exact V.d1 jhN sp1
   refine V.r0 jhN ?_
   refine⟨Pq18z,[],V.pok,?_⟩
   refine jab [] [(17,.arr .i64 (preZ 2 [b0,b1])),(20,.arr .i64 (preZ 2 [0,1]))] ?_ ?_
   ·exact V.d0 jhN
   refine V.r0 jhN ?_
   exact⟨2,by omega,by omega,V.wk⟩
  ·simp only[k2]
   (conv=>whnf)
   repeat ((fail_if_success (with_reducible refine Cnd.split ?_));refine V.s1 ?_;(try simp only[jh7]))
   refine V.s1 ?_
   (conv=>whnf)
   repeat ((fail_if_success (with_reducible refine Cnd.split ?_));refine V.s1 ?_;(try simp only[jh7]))
   refine jbn [(7,.ref [V.sl2 2 [.str (R 0).1,.str (R 0).2,.str (R 1).1,.str (R 1).2]]),(22,.any),(26,.any),(27,.any)] [(7,.gone),(88,.gone)] (CondB.mk (fun h=>absurd h (by decide)) (fun _=>?_)) ?_
   ·(conv=>whnf)
    refine Wk.pub 88 ?_
    (conv=>whnf)
    refine Wk.pub 7 ?_
    (conv=>whnf)
    simp only[jh7]
    exact V.wk
   refine V.r0 @jh7 ?_
   refine .inl ?_
   (conv=>whnf)
   refine⟨0,_,_,⟨Tryz.func125,rfl,rfl,jh3 rfl⟩,?_⟩
   refine V.r0 @jh7 ?_
   refine .inl ?_
   (conv=>whnf)
   refine⟨0,_,_,⟨Tryz.func163,rfl,rfl,jh3 rfl⟩,?_⟩
   refine V.r0 @jh7 ?_
   refine jae (0) (fun k=>k=0) (fun k=>k) (fun k=>[(7,.int .i64 0),(8,.int .i64 20)]) (fun k=>[]) ?_ ?_ ?_
   ·exact V.wk
   ·rfl
   intro k hk
   refine V.r0 @jh7 ?_
   refine .inl ?_
   (conv=>whnf)
   refine⟨0,_,_,⟨Tryz.func193,rfl,rfl,jh3 rfl⟩,?_⟩
   refine V.r0 @jh7 ?_
   refine jae (0) (fun k=>k+1≤2) (fun k=>2-k) (fun k=>[(8,.int .i64 ((k+1:Nat):Int))]) (fun k=>[(20,.arr .i64 (isoK w [0,1] k))]) ?_ ?_ ?_
   ·exact V.wk
   ·omega
   clear hk
   intro k hk
   have hB:=jgf w (n:=2) (xs:=[0,1]) ⟨rfl,fun i hi=>by
    have:i=0∨i=1∨i=2:=by omega
    rcases this with e|e|e<;>subst e<;>first|decide|omega⟩ k (by omega)
   refine V.r0 @jh7 ?_
   refine V.br (fun hq=>?_) (fun hq=>?_)
   ·have hk2:k+1<2:=by simp at hq;omega
    refine V.r0 @jh7 ?_
    refine jae ((k+1,isoK w [0,1] k):Nat×List Int) (fun s=>s.1≤k+1∧Bel 2 s.2∧insJ w s.1 s.2=isoK w [0,1] (k+1)) (fun s=>s.1) (fun s=>[(9,.int .i64 s.1)]) (fun s=>[(20,.arr .i64 s.2)]) ?_ ?_ ?_
    ·exact V.wk
    ·exact⟨jia _,hB,rfl⟩
    rintro⟨j,xs⟩ ⟨h1,h2,h3⟩
    dsimp only at h1 h2 h3 ⊢
    have hl:=h2.1
    refine V.r0 @jh7 ?_
    have c1:(decide ((j:Int)>0)=true)→Cl 126 [.int .i64 (xs.getD j 0),.int .i64 (xs.getD (j-1) 0),.ref [V.sl2 2 [.str (R 0).1,.str (R 0).2,.str (R 1).1,.str (R 1).2]]] (.int .i64 (w (xs.getD j 0) (xs.getD (j-1) 0))):=fun h=>by
     have hj:(j:Int)>0:=of_decide_eq_true h
     have g1:=h2.2 j (by omega)
     have g2:=h2.2 (j-1) (by omega)
     have c:=cm (xs.getD j 0).toNat (xs.getD (j-1) 0).toNat (by omega) (by omega)
     rw[jh8 g1.1,jh8 g2.1] at c
     exact c
    refine⟨Pq6z,[],V.pok,?_⟩
    refine jab [(34,.bool (decide ((j:Int)>0) && decide (w (xs.getD j 0) (xs.getD (j-1) 0)<0)))] [] ?_ ?_
    ·(conv=>whnf);(try simp only[jhU])
     repeat' (first|exact V.wk|((with_reducible refine And.intro ?_ jax);(conv=>whnf);(try simp only[jhU]))|((with_reducible first|refine jar ?_ ?_|refine jau ?_ ?_)<;>(conv=>whnf);(try simp only[jhU]))|((first|refine V.s1 ?_|((with_reducible refine jam ?_ ?_);(focus ((conv=>whnf);(try simp only[jhU]);(repeat ((first|refine V.s1 ?_|((refine⟨_,c1,?_⟩);(conv=>whnf)));(try simp only[jhU])));exact⟨rfl⟩));(conv=>whnf))|((try ((with_reducible refine .ext ?_);(conv=>whnf);(try simp only[jhU])));(with_reducible refine jaa (r:=?_) ?_ ?_);rotate_left;(focus (first|fail));(conv=>whnf))|((refine⟨_,c1,?_⟩);(conv=>whnf)));(try simp only[jhU]))|(refine And.intro ?_ ?_<;>(conv=>whnf);(try simp only[jhU])))
    refine V.r0 @jh7 ?_
    refine V.br (fun hq2=>?_) (fun hq2=>?_)
    ·have hj:0<j∧w (xs.getD j 0) (xs.getD (j-1) 0)<0:=by
      rw[jh2,decide_eq_true_eq,decide_eq_true_eq] at hq2
      omega
     obtain⟨i,rfl⟩:∃ i,j=i+1:=⟨j-1,by omega⟩
     rw[show i+1-1=i by omega] at hj
     have hw:=jei h2 (show i+1<2 by omega)
     have e1:((i+1:Nat):Int).toNat=i+1:=by omega
     have e2:(((i+1:Nat):Int)-1).toNat=i:=by omega
     have e3:((i+1:Nat):Int)-1=(i:Int):=by omega
     have e4:(i:Int).toNat=i:=by omega
     have h3':insJ w i ((xs.set (i+1) (xs.getD i 0)).set i (xs.getD (i+1) 0))=isoK w [0,1] (k+1):=by
      rw[← h3]
      simp only[insJ]
      rw[if_pos hj.2]
     refine V.r0 @jh7 ?_
     refine⟨Pq3z,[],V.pok,?_⟩
     refine jab [] [(20,.arr .i64 ((xs.set (i+1) (xs.getD i 0)).set i (xs.getD (i+1) 0)))] ?_ ?_
     ·exact V.d0 (V.a5 zX13b_2 @e1 e2 e3 e4)
     refine V.r0 (V.a2 @jh7 e3) ?_
     exact⟨(i,(xs.set (i+1) (xs.getD i 0)).set i (xs.getD (i+1) 0)),⟨by dsimp only;omega,hw,h3'⟩,by dsimp only;omega,V.wk⟩
    ·have hx:isoK w [0,1] (k+1)=xs:=by
      rw[← h3]
      cases j with
      | zero=>rfl
      | succ i=>
       simp only[insJ]
       rw[if_neg]
       intro h
       rw[Bool.and_eq_false_iff,decide_eq_false_iff_not,decide_eq_false_iff_not,show i+1-1=i by omega] at hq2
       omega
     refine V.r0 @jh7 ?_
     refine⟨k+1,by omega,by omega,?_⟩
     rw[hx]
     exact V.wk
   have hk2:k+1=2:=by simp at hq;omega
   have hk3:k=2-1:=by omega
   subst hk3
   refine V.r0 @jh7 ?_
   refine jae (0) (fun k=>k=0) (fun k=>k) (fun k=>[(6,.int .i64 20)]) (fun k=>[]) ?_ ?_ ?_
   ·exact V.wk
   ·rfl
   clear hk
   intro k hk
   refine V.r0 @jh7 ?_
   obtain⟨xs,hxs⟩:∃ xs,isoK w [0,1] (2-1)=xs:=⟨_,rfl⟩
   rw[hxs] at hB ⊢
   have hl:=hB.1
   refine V.r1 @jh7 io ?_
   have hr:∀ m,m<2→List.take 2 (List.drop (m*2) ([.str (R 0).1,.str (R 0).2,.str (R 1).1,.str (R 1).2]:List D))=[.str (R m).1,.str (R m).2]:=fun m hm=>by
    have:m=0∨m=1∨m=2:=by omega
    rcases this with e|e|e<;>subst e<;>first|rfl|omega
   have e0:=hr (xs.getD 0 0).toNat (by have:=hB.2 0 (by omega);omega)
   have g0:=hB.2 0 (by omega)
   have sb0:=sb 0 (by omega)
   have hb0:=hBf 0 (by omega)
   rw[hxs] at sb0 hb0
   have e1:=hr (xs.getD 1 0).toNat (by have:=hB.2 1 (by omega);omega)
   have g1:=hB.2 1 (by omega)
   have sb1:=sb 1 (by omega)
   have hb1:=hBf 1 (by omega)
   rw[hxs] at sb1 hb1
   have hb':(Bf 0).1=o0∧(Bf 0).2=o1:=by rw[hBf0];exact⟨rfl,rfl⟩
   refine jae 0 (fun k=>k≤2) (fun k=>2-k) (fun k=>[(41,.int .i64 k)]) (fun k=>(9,.box [.str (Bf k).1,.str (Bf k).2])::(6,.box [.ints .i64 [z0,z1],.int .i64 out,.ints .i64 data,.osl 17 0 2,.osl 20 0 2,wcl k])::wch W k) ?_ ?_ ?_
   ·rw[hb'.1,hb'.2]
    exact V.wk
   ·exact jh4 _
   clear hk
   intro k hk
   have hk4:k=0∨k=1∨k=2:=by omega
   rcases hk4 with e|e|e
   all_goals subst e
   ·simp only[k0,wcl,wch]
    refine V.r0 jhN ?_
    refine⟨Pq37z,[],V.pok,?_⟩
    refine jab [(12,.box 12 0),(13,.int .i64 0)] [(12,.box [.str (W 0).1,.str (W 0).2])] ?_ ?_
    ·(conv=>whnf);(try simp only[jh7])
     repeat' (first|exact V.wk|((with_reducible refine And.intro ?_ jax);(conv=>whnf);(try simp only[jh7]))|((with_reducible first|refine jar ?_ ?_|refine jau ?_ ?_)<;>(conv=>whnf);(try simp only[jh7]))|((first|refine V.s1 ?_|((with_reducible refine jam ?_ ?_);(focus ((conv=>whnf);(try simp only[jh7]);(repeat ((first|refine V.s1 ?_|((simp only[e0]);(conv=>whnf)));(try simp only[jh7])));exact⟨rfl⟩));(conv=>whnf))|((try ((with_reducible refine .ext ?_);(conv=>whnf);(try simp only[jh7])));(with_reducible refine jaa (r:=?_) ?_ ?_);rotate_left;(focus (first|exact(sb0)));(conv=>whnf))|((simp only[e0]);(conv=>whnf)));(try simp only[jh7]))|(refine And.intro ?_ ?_<;>(conv=>whnf);(try simp only[jh7])))
    (conv=>whnf)
    (try simp only[jh7])
    repeat ((first|refine V.s1 ?_|((try ((with_reducible refine .ext ?_);(conv=>whnf);(try simp only[jh7])));(with_reducible refine jaa (r:=?_) ?_ ?_);rotate_left;(focus (first|fail));(conv=>whnf))|((simp only[e0]);(conv=>whnf)));(try simp only[jh7]))
    refine⟨1,by omega,by omega,?_⟩
    rw[hb0]
    exact V.wk
   ·simp only[k1,wcl,wch]
    refine V.r0 jhN ?_
    refine⟨Pq37z,[],V.pok,?_⟩
    refine jab [(12,.box 12 0),(13,.int .i64 0)] [(12,.box [.str (W 1).1,.str (W 1).2])] ?_ ?_
    ·(conv=>whnf);(try simp only[jh7])
     repeat' (first|exact V.wk|((with_reducible refine And.intro ?_ jax);(conv=>whnf);(try simp only[jh7]))|((with_reducible first|refine jar ?_ ?_|refine jau ?_ ?_)<;>(conv=>whnf);(try simp only[jh7]))|((first|refine V.s1 ?_|((with_reducible refine jam ?_ ?_);(focus ((conv=>whnf);(try simp only[jh7]);(repeat ((first|refine V.s1 ?_|((simp only[e1]);(conv=>whnf)));(try simp only[jh7])));exact⟨rfl⟩));(conv=>whnf))|((try ((with_reducible refine .ext ?_);(conv=>whnf);(try simp only[jh7])));(with_reducible refine jaa (r:=?_) ?_ ?_);rotate_left;(focus (first|exact(sb1)));(conv=>whnf))|((simp only[e1]);(conv=>whnf)));(try simp only[jh7]))|(refine And.intro ?_ ?_<;>(conv=>whnf);(try simp only[jh7])))
    (conv=>whnf)
    (try simp only[jh7])
    repeat ((first|refine V.s1 ?_|((try ((with_reducible refine .ext ?_);(conv=>whnf);(try simp only[jh7])));(with_reducible refine jaa (r:=?_) ?_ ?_);rotate_left;(focus (first|fail));(conv=>whnf))|((simp only[e1]);(conv=>whnf)));(try simp only[jh7]))
    refine⟨2,by omega,by omega,?_⟩
    rw[hb1]
    exact V.wk
   ·simp only[k2,wcl,wch]
    have ht:List.take 2 xs=xs:=jiO (by omega)
    refine V.r0 (V.a2 @jh7 ht) ?_
    rw[← hxs]
    exact Fin.of rfl
theorem jhJ:type_of% @jh7∧type_of% @tn0∧type_of% @tn1∧type_of% @tn2∧type_of% @tn3:=⟨@jh7,@tn0,@tn1,@tn2,@tn3⟩
theorem jhT:type_of% @jh9∧type_of% @jh7∧type_of% @tns:=⟨@jh9,@jh7,@tns⟩
theorem zX13c_2:type_of% @jiT ∧ type_of% @jh7:=⟨@jiT,@jh7⟩
theorem find3_t (z0 z1 z2 out b0 b1 b2:Int)(data:List Int)(x0 y0 x1 y1 x2 y2 o0 o1:List UInt8)(R Bf W:Nat→Tx)
  (sp0:Cl 124 [.agg [.str x0,.str y0],.int .i64 z0] (.tup [.int .i64 b0,.agg [.str (R 0).1,.str (R 0).2],.int .i64 0]))
  (sp1:Cl 124 [.agg [.str x1,.str y1],.int .i64 z1] (.tup [.int .i64 b1,.agg [.str (R 1).1,.str (R 1).2],.int .i64 0]))
  (sp2:Cl 124 [.agg [.str x2,.str y2],.int .i64 z2] (.tup [.int .i64 b2,.agg [.str (R 2).1,.str (R 2).2],.int .i64 0]))
  (io:Cl 86 [.int .i64 1] (.agg [.str o0,.str o1])) (w:Int→Int→Int) (cm:∀ a b:Nat,a<3→b<3→Cl 126 [.int .i64 a,.int .i64 b,.ref [V.sl2 3 [.str (R 0).1,.str (R 0).2,.str (R 1).1,.str (R 1).2,.str (R 2).1,.str (R 2).2]]] (.int .i64 (w a b)))
  (hBf0:Bf 0=(o0,o1)) (hBf:∀ k,k<3→Bf (k+1)=R ((isoK w [0,1,2] (3-1)).getD k 0).toNat) (sb:∀ k,k<3→Cl 99 [.agg [.str (Bf k).1,.str (Bf k).2],.agg [.str (R ((isoK w [0,1,2] (3-1)).getD k 0).toNat).1,.str (R ((isoK w [0,1,2] (3-1)).getD k 0).toNat).2]] (.tup [.agg [.str (W k).1,.str (W k).2],.int .i64 0])) :
  Cl 79 [.agg [.ints .i64 [z0,z1,z2],.int .i64 out,.ints .i64 data],V.sl2 3 [.str x0,.str y0,.str x1,.str y1,.str x2,.str y2]] (.tup [.agg [.ints .i64 [z0,z1,z2],.int .i64 out,.ints .i64 data,.ints .i64 [b0,b1,b2],.ints .i64 (isoK w [0,1,2] (3-1)),V.sl2 4 [.str (W 0).1,.str (W 0).2,.str (W 1).1,.str (W 1).2,.str (W 2).1,.str (W 2).2,.str (Bf 3).1,.str (Bf 3).2]],.int .i64 0]):=by
  refine V.en tbOk Tryz.func79 ?_
  refine V.r0 @jh7 ?_
  refine⟨Pq47z,[],V.pok,?_⟩
  refine jab [(6,.box 6 0),(17,.osl 17 0 3),(20,.osl 20 0 3)] [(6,.box [.ints .i64 [z0,z1,z2],.int .i64 out,.ints .i64 data,.osl 17 0 3,.osl 20 0 3,.nil]),(17,.arr .i64 [0,0,0]),(20,.arr .i64 [0,0,0])] ?_ ?_
  ·exact V.d0 @jh7
  refine V.r0 @jh7 ?_
  refine .inl ?_
  (conv=>whnf)
  refine⟨0,_,_,⟨Tryz.func82,rfl,rfl,jh3 rfl⟩,?_⟩
  refine V.r0 @jh7 ?_
  refine jae (0) (fun k=>k≤3) (fun k=>3-k) (fun k=>[(14,.int .i64 k)]) (fun k=>[(88,.box (preD (2*k) [.str (R 0).1,.str (R 0).2,.str (R 1).1,.str (R 1).2,.str (R 2).1,.str (R 2).2])),(17,.arr .i64 (preZ k [b0,b1,b2])),(20,.arr .i64 (preZ k [0,1,2]))]) ?_ ?_ ?_
  ·exact V.wk
  ·exact jh4 _
  intro k hk
  have hk4:k=0∨k=1∨k=2∨k=3:=by omega
  rcases hk4 with e|e|e|e
  all_goals subst e
  ·simp only[k0]
   have q1:(preZ 0 [b0,b1,b2]).length=3:=rfl
   have q2:(preZ 0 [0,1,2]).length=3:=rfl
   refine V.r0 jhJ ?_
   refine .inl ?_
   (conv=>whnf)
   refine⟨0,_,_,⟨Tryz.func123,rfl,rfl,jh3 rfl⟩,?_⟩
   refine V.r0 jhJ ?_
   refine⟨Pq14z,[],V.pok,?_⟩
   refine jab [(8,.box 118 0),(7,.int .i64 b0),(9,.int .i64 0)] [(118,.box [.str (R 0).1,.str (R 0).2])] ?_ ?_
   ·exact V.d1 jhJ sp0
   refine V.r0 jhJ ?_
   refine⟨Pq18z,[],V.pok,?_⟩
   refine jab [] [(17,.arr .i64 (preZ 1 [b0,b1,b2])),(20,.arr .i64 (preZ 1 [0,1,2]))] ?_ ?_
   ·exact V.d0 jhJ
   refine V.r0 jhJ ?_
   exact⟨1,by omega,by omega,V.wk⟩
  ·simp only[k1]
   have q1:(preZ 1 [b0,b1,b2]).length=3:=rfl
   have q2:(preZ 1 [0,1,2]).length=3:=rfl
   refine V.r0 jhJ ?_
   refine .inl ?_
   (conv=>whnf)
   refine⟨0,_,_,⟨Tryz.func123,rfl,rfl,jh3 rfl⟩,?_⟩
   refine V.r0 jhJ ?_
   refine⟨Pq14z,[],V.pok,?_⟩
   refine jab [(8,.box 118 0),(7,.int .i64 b1),(9,.int .i64 0)] [(118,.box [.str (R 1).1,.str (R 1).2])] ?_ ?_
   ·exact V.d1 jhJ sp1
   refine V.r0 jhJ ?_
   refine⟨Pq18z,[],V.pok,?_⟩
   refine jab [] [(17,.arr .i64 (preZ 2 [b0,b1,b2])),(20,.arr .i64 (preZ 2 [0,1,2]))] ?_ ?_
   ·exact V.d0 jhJ
   refine V.r0 jhJ ?_
   exact⟨2,by omega,by omega,V.wk⟩
  ·simp only[k2]
   have q1:(preZ 2 [b0,b1,b2]).length=3:=rfl
   have q2:(preZ 2 [0,1,2]).length=3:=rfl
   refine V.r0 jhJ ?_
   refine .inl ?_
   (conv=>whnf)
   refine⟨0,_,_,⟨Tryz.func123,rfl,rfl,jh3 rfl⟩,?_⟩
   refine V.r0 jhJ ?_
   refine⟨Pq14z,[],V.pok,?_⟩
   refine jab [(8,.box 118 0),(7,.int .i64 b2),(9,.int .i64 0)] [(118,.box [.str (R 2).1,.str (R 2).2])] ?_ ?_
   ·exact V.d1 jhJ sp2
   refine V.r0 jhJ ?_
   refine⟨Pq18z,[],V.pok,?_⟩
   refine jab [] [(17,.arr .i64 (preZ 3 [b0,b1,b2])),(20,.arr .i64 (preZ 3 [0,1,2]))] ?_ ?_
   ·exact V.d0 jhJ
   refine V.r0 jhJ ?_
   exact⟨3,by omega,by omega,V.wk⟩
  ·simp only[k3]
   (conv=>whnf)
   repeat ((fail_if_success (with_reducible refine Cnd.split ?_));refine V.s1 ?_;(try simp only[jh7]))
   refine V.s1 ?_
   (conv=>whnf)
   repeat ((fail_if_success (with_reducible refine Cnd.split ?_));refine V.s1 ?_;(try simp only[jh7]))
   refine jbn [(7,.ref [V.sl2 3 [.str (R 0).1,.str (R 0).2,.str (R 1).1,.str (R 1).2,.str (R 2).1,.str (R 2).2]]),(22,.any),(26,.any),(27,.any)] [(7,.gone),(88,.gone)] (CondB.mk (fun h=>absurd h (by decide)) (fun _=>?_)) ?_
   ·(conv=>whnf)
    refine Wk.pub 88 ?_
    (conv=>whnf)
    refine Wk.pub 7 ?_
    (conv=>whnf)
    simp only[jh7]
    exact V.wk
   refine V.r0 @jh7 ?_
   refine .inl ?_
   (conv=>whnf)
   refine⟨0,_,_,⟨Tryz.func125,rfl,rfl,jh3 rfl⟩,?_⟩
   refine V.r0 @jh7 ?_
   refine .inl ?_
   (conv=>whnf)
   refine⟨0,_,_,⟨Tryz.func163,rfl,rfl,jh3 rfl⟩,?_⟩
   refine V.r0 @jh7 ?_
   refine jae (0) (fun k=>k=0) (fun k=>k) (fun k=>[(7,.int .i64 0),(8,.int .i64 20)]) (fun k=>[]) ?_ ?_ ?_
   ·exact V.wk
   ·rfl
   intro k hk
   refine V.r0 @jh7 ?_
   refine .inl ?_
   (conv=>whnf)
   refine⟨0,_,_,⟨Tryz.func193,rfl,rfl,jh3 rfl⟩,?_⟩
   refine V.r0 @jh7 ?_
   refine jae (0) (fun k=>k+1≤3) (fun k=>3-k) (fun k=>[(8,.int .i64 ((k+1:Nat):Int))]) (fun k=>[(20,.arr .i64 (isoK w [0,1,2] k))]) ?_ ?_ ?_
   ·exact V.wk
   ·omega
   clear hk
   intro k hk
   have hB:=jgf w (n:=3) (xs:=[0,1,2]) ⟨rfl,fun i hi=>by
    have:i=0∨i=1∨i=2:=by omega
    rcases this with e|e|e<;>subst e<;>first|decide|omega⟩ k (by omega)
   refine V.r0 @jh7 ?_
   refine V.br (fun hq=>?_) (fun hq=>?_)
   ·have hk2:k+1<3:=by simp at hq;omega
    refine V.r0 @jh7 ?_
    refine jae ((k+1,isoK w [0,1,2] k):Nat×List Int) (fun s=>s.1≤k+1∧Bel 3 s.2∧insJ w s.1 s.2=isoK w [0,1,2] (k+1)) (fun s=>s.1) (fun s=>[(9,.int .i64 s.1)]) (fun s=>[(20,.arr .i64 s.2)]) ?_ ?_ ?_
    ·exact V.wk
    ·exact⟨jia _,hB,rfl⟩
    rintro⟨j,xs⟩ ⟨h1,h2,h3⟩
    dsimp only at h1 h2 h3 ⊢
    have hl:=h2.1
    refine V.r0 @jh7 ?_
    have c1:(decide ((j:Int)>0)=true)→Cl 126 [.int .i64 (xs.getD j 0),.int .i64 (xs.getD (j-1) 0),.ref [V.sl2 3 [.str (R 0).1,.str (R 0).2,.str (R 1).1,.str (R 1).2,.str (R 2).1,.str (R 2).2]]] (.int .i64 (w (xs.getD j 0) (xs.getD (j-1) 0))):=fun h=>by
     have hj:(j:Int)>0:=of_decide_eq_true h
     have g1:=h2.2 j (by omega)
     have g2:=h2.2 (j-1) (by omega)
     have c:=cm (xs.getD j 0).toNat (xs.getD (j-1) 0).toNat (by omega) (by omega)
     rw[jh8 g1.1,jh8 g2.1] at c
     exact c
    refine⟨Pq6z,[],V.pok,?_⟩
    refine jab [(34,.bool (decide ((j:Int)>0) && decide (w (xs.getD j 0) (xs.getD (j-1) 0)<0)))] [] ?_ ?_
    ·(conv=>whnf);(try simp only[jhT])
     repeat' (first|exact V.wk|((with_reducible refine And.intro ?_ jax);(conv=>whnf);(try simp only[jhT]))|((with_reducible first|refine jar ?_ ?_|refine jau ?_ ?_)<;>(conv=>whnf);(try simp only[jhT]))|((first|refine V.s1 ?_|((with_reducible refine jam ?_ ?_);(focus ((conv=>whnf);(try simp only[jhT]);(repeat ((first|refine V.s1 ?_|((refine⟨_,c1,?_⟩);(conv=>whnf)));(try simp only[jhT])));exact⟨rfl⟩));(conv=>whnf))|((try ((with_reducible refine .ext ?_);(conv=>whnf);(try simp only[jhT])));(with_reducible refine jaa (r:=?_) ?_ ?_);rotate_left;(focus (first|fail));(conv=>whnf))|((refine⟨_,c1,?_⟩);(conv=>whnf)));(try simp only[jhT]))|(refine And.intro ?_ ?_<;>(conv=>whnf);(try simp only[jhT])))
    refine V.r0 @jh7 ?_
    refine V.br (fun hq2=>?_) (fun hq2=>?_)
    ·have hj:0<j∧w (xs.getD j 0) (xs.getD (j-1) 0)<0:=by
      rw[jh2,decide_eq_true_eq,decide_eq_true_eq] at hq2
      omega
     obtain⟨i,rfl⟩:∃ i,j=i+1:=⟨j-1,by omega⟩
     rw[show i+1-1=i by omega] at hj
     have hw:=jei h2 (show i+1<3 by omega)
     have e1:((i+1:Nat):Int).toNat=i+1:=by omega
     have e2:(((i+1:Nat):Int)-1).toNat=i:=by omega
     have e3:((i+1:Nat):Int)-1=(i:Int):=by omega
     have e4:(i:Int).toNat=i:=by omega
     have h3':insJ w i ((xs.set (i+1) (xs.getD i 0)).set i (xs.getD (i+1) 0))=isoK w [0,1,2] (k+1):=by
      rw[← h3]
      simp only[insJ]
      rw[if_pos hj.2]
     refine V.r0 @jh7 ?_
     refine⟨Pq3z,[],V.pok,?_⟩
     refine jab [] [(20,.arr .i64 ((xs.set (i+1) (xs.getD i 0)).set i (xs.getD (i+1) 0)))] ?_ ?_
     ·exact V.d0 (V.a5 zX13c_2 @e1 e2 e3 e4)
     refine V.r0 (V.a2 @jh7 e3) ?_
     exact⟨(i,(xs.set (i+1) (xs.getD i 0)).set i (xs.getD (i+1) 0)),⟨by dsimp only;omega,hw,h3'⟩,by dsimp only;omega,V.wk⟩
    ·have hx:isoK w [0,1,2] (k+1)=xs:=by
      rw[← h3]
      cases j with
      | zero=>rfl
      | succ i=>
       simp only[insJ]
       rw[if_neg]
       intro h
       rw[Bool.and_eq_false_iff,decide_eq_false_iff_not,decide_eq_false_iff_not,show i+1-1=i by omega] at hq2
       omega
     refine V.r0 @jh7 ?_
     refine⟨k+1,by omega,by omega,?_⟩
     rw[hx]
     exact V.wk
   have hk2:k+1=3:=by simp at hq;omega
   have hk3:k=3-1:=by omega
   subst hk3
   refine V.r0 @jh7 ?_
   refine jae (0) (fun k=>k=0) (fun k=>k) (fun k=>[(6,.int .i64 20)]) (fun k=>[]) ?_ ?_ ?_
   ·exact V.wk
   ·rfl
   clear hk
   intro k hk
   refine V.r0 @jh7 ?_
   obtain⟨xs,hxs⟩:∃ xs,isoK w [0,1,2] (3-1)=xs:=⟨_,rfl⟩
   rw[hxs] at hB ⊢
   have hl:=hB.1
   refine V.r1 @jh7 io ?_
   have hr:∀ m,m<3→List.take 2 (List.drop (m*2) ([.str (R 0).1,.str (R 0).2,.str (R 1).1,.str (R 1).2,.str (R 2).1,.str (R 2).2]:List D))=[.str (R m).1,.str (R m).2]:=fun m hm=>by
    have:m=0∨m=1∨m=2:=by omega
    rcases this with e|e|e<;>subst e<;>first|rfl|omega
   have e0:=hr (xs.getD 0 0).toNat (by have:=hB.2 0 (by omega);omega)
   have g0:=hB.2 0 (by omega)
   have sb0:=sb 0 (by omega)
   have hb0:=hBf 0 (by omega)
   rw[hxs] at sb0 hb0
   have e1:=hr (xs.getD 1 0).toNat (by have:=hB.2 1 (by omega);omega)
   have g1:=hB.2 1 (by omega)
   have sb1:=sb 1 (by omega)
   have hb1:=hBf 1 (by omega)
   rw[hxs] at sb1 hb1
   have e2:=hr (xs.getD 2 0).toNat (by have:=hB.2 2 (by omega);omega)
   have g2:=hB.2 2 (by omega)
   have sb2:=sb 2 (by omega)
   have hb2:=hBf 2 (by omega)
   rw[hxs] at sb2 hb2
   have hb':(Bf 0).1=o0∧(Bf 0).2=o1:=by rw[hBf0];exact⟨rfl,rfl⟩
   refine jae 0 (fun k=>k≤3) (fun k=>3-k) (fun k=>[(41,.int .i64 k)]) (fun k=>(9,.box [.str (Bf k).1,.str (Bf k).2])::(6,.box [.ints .i64 [z0,z1,z2],.int .i64 out,.ints .i64 data,.osl 17 0 3,.osl 20 0 3,wcl k])::wch W k) ?_ ?_ ?_
   ·rw[hb'.1,hb'.2]
    exact V.wk
   ·exact jh4 _
   clear hk
   intro k hk
   have hk4:k=0∨k=1∨k=2∨k=3:=by omega
   rcases hk4 with e|e|e|e
   all_goals subst e
   ·simp only[k0,wcl,wch]
    refine V.r0 jhJ ?_
    refine⟨Pq37z,[],V.pok,?_⟩
    refine jab [(12,.box 12 0),(13,.int .i64 0)] [(12,.box [.str (W 0).1,.str (W 0).2])] ?_ ?_
    ·(conv=>whnf);(try simp only[jh7])
     repeat' (first|exact V.wk|((with_reducible refine And.intro ?_ jax);(conv=>whnf);(try simp only[jh7]))|((with_reducible first|refine jar ?_ ?_|refine jau ?_ ?_)<;>(conv=>whnf);(try simp only[jh7]))|((first|refine V.s1 ?_|((with_reducible refine jam ?_ ?_);(focus ((conv=>whnf);(try simp only[jh7]);(repeat ((first|refine V.s1 ?_|((simp only[e0]);(conv=>whnf)));(try simp only[jh7])));exact⟨rfl⟩));(conv=>whnf))|((try ((with_reducible refine .ext ?_);(conv=>whnf);(try simp only[jh7])));(with_reducible refine jaa (r:=?_) ?_ ?_);rotate_left;(focus (first|exact(sb0)));(conv=>whnf))|((simp only[e0]);(conv=>whnf)));(try simp only[jh7]))|(refine And.intro ?_ ?_<;>(conv=>whnf);(try simp only[jh7])))
    (conv=>whnf)
    (try simp only[jh7])
    repeat ((first|refine V.s1 ?_|((try ((with_reducible refine .ext ?_);(conv=>whnf);(try simp only[jh7])));(with_reducible refine jaa (r:=?_) ?_ ?_);rotate_left;(focus (first|fail));(conv=>whnf))|((simp only[e0]);(conv=>whnf)));(try simp only[jh7]))
    refine⟨1,by omega,by omega,?_⟩
    rw[hb0]
    exact V.wk
   ·simp only[k1,wcl,wch]
    refine V.r0 jhJ ?_
    refine⟨Pq37z,[],V.pok,?_⟩
    refine jab [(12,.box 12 0),(13,.int .i64 0)] [(12,.box [.str (W 1).1,.str (W 1).2])] ?_ ?_
    ·(conv=>whnf);(try simp only[jh7])
     repeat' (first|exact V.wk|((with_reducible refine And.intro ?_ jax);(conv=>whnf);(try simp only[jh7]))|((with_reducible first|refine jar ?_ ?_|refine jau ?_ ?_)<;>(conv=>whnf);(try simp only[jh7]))|((first|refine V.s1 ?_|((with_reducible refine jam ?_ ?_);(focus ((conv=>whnf);(try simp only[jh7]);(repeat ((first|refine V.s1 ?_|((simp only[e1]);(conv=>whnf)));(try simp only[jh7])));exact⟨rfl⟩));(conv=>whnf))|((try ((with_reducible refine .ext ?_);(conv=>whnf);(try simp only[jh7])));(with_reducible refine jaa (r:=?_) ?_ ?_);rotate_left;(focus (first|exact(sb1)));(conv=>whnf))|((simp only[e1]);(conv=>whnf)));(try simp only[jh7]))|(refine And.intro ?_ ?_<;>(conv=>whnf);(try simp only[jh7])))
    (conv=>whnf)
    (try simp only[jh7])
    repeat ((first|refine V.s1 ?_|((try ((with_reducible refine .ext ?_);(conv=>whnf);(try simp only[jh7])));(with_reducible refine jaa (r:=?_) ?_ ?_);rotate_left;(focus (first|fail));(conv=>whnf))|((simp only[e1]);(conv=>whnf)));(try simp only[jh7]))
    refine⟨2,by omega,by omega,?_⟩
    rw[hb1]
    exact V.wk
   ·simp only[k2,wcl,wch]
    refine V.r0 jhJ ?_
    refine⟨Pq37z,[],V.pok,?_⟩
    refine jab [(12,.box 12 0),(13,.int .i64 0)] [(12,.box [.str (W 2).1,.str (W 2).2])] ?_ ?_
    ·(conv=>whnf);(try simp only[jh7])
     repeat' (first|exact V.wk|((with_reducible refine And.intro ?_ jax);(conv=>whnf);(try simp only[jh7]))|((with_reducible first|refine jar ?_ ?_|refine jau ?_ ?_)<;>(conv=>whnf);(try simp only[jh7]))|((first|refine V.s1 ?_|((with_reducible refine jam ?_ ?_);(focus ((conv=>whnf);(try simp only[jh7]);(repeat ((first|refine V.s1 ?_|((simp only[e2]);(conv=>whnf)));(try simp only[jh7])));exact⟨rfl⟩));(conv=>whnf))|((try ((with_reducible refine .ext ?_);(conv=>whnf);(try simp only[jh7])));(with_reducible refine jaa (r:=?_) ?_ ?_);rotate_left;(focus (first|exact(sb2)));(conv=>whnf))|((simp only[e2]);(conv=>whnf)));(try simp only[jh7]))|(refine And.intro ?_ ?_<;>(conv=>whnf);(try simp only[jh7])))
    (conv=>whnf)
    (try simp only[jh7])
    repeat ((first|refine V.s1 ?_|((try ((with_reducible refine .ext ?_);(conv=>whnf);(try simp only[jh7])));(with_reducible refine jaa (r:=?_) ?_ ?_);rotate_left;(focus (first|fail));(conv=>whnf))|((simp only[e2]);(conv=>whnf)));(try simp only[jh7]))
    refine⟨3,by omega,by omega,?_⟩
    rw[hb2]
    exact V.wk
   ·simp only[k3,wcl,wch]
    have ht:List.take 3 xs=xs:=jiO (by omega)
    refine V.r0 (V.a2 @jh7 ht) ?_
    rw[← hxs]
    exact Fin.of rfl
theorem jeb (p q:Rat):(ordQ p q<0)↔p<q:=by
 unfold ordQ
 by_cases h:p<q
 ·rw[if_pos h];exact⟨fun _=>h,fun _=>by decide⟩
 ·rw[if_neg h]
  by_cases g:p=q
  ·rw[if_pos g];exact⟨fun h'=>by omega,fun h'=>absurd h' h⟩
  ·rw[if_neg g];exact⟨fun h'=>by omega,fun h'=>absurd h' h⟩
def cmpW (r0 r1 r2:Rat)(a b:Int):Int:=ordQ (sel r0 r1 r2 b) (sel r0 r1 r2 a)
theorem iso1 (w:Int→Int→Int):isoK w [0] (1-1)=[0]:=rfl
theorem iso2 (r0 r1 r2:Rat):isoK (cmpW r0 r1 r2) [0,1] (2-1)=ord2 r0 r1:=by
 show insJ (cmpW r0 r1 r2) 1 [0,1]=_
 unfold ord2
 have e:(cmpW r0 r1 r2 1 0<0)↔r0<r1:=jeb _ _
 by_cases h:r0<r1
 ·rw[if_pos h]
  simp only[insJ]
  rw[if_pos (show cmpW r0 r1 r2 ([0,1].getD (0+1) 0) ([0,1].getD 0 0)<0 from e.2 h)]
  rfl
 ·rw[if_neg h]
  simp only[insJ]
  rw[if_neg (show ¬ cmpW r0 r1 r2 ([0,1].getD (0+1) 0) ([0,1].getD 0 0)<0 from fun g=>h (e.1 g))]
theorem jeG {w:Int→Int→Int}{j:Nat}{xs:List Int}(h:w (xs.getD (j+1) 0) (xs.getD j 0)<0):insJ w (j+1) xs=insJ w j ((xs.set (j+1) (xs.getD j 0)).set j (xs.getD (j+1) 0)):=by
 simp only[insJ];rw[if_pos h]
theorem jgx {w:Int→Int→Int}{j:Nat}{xs:List Int}(h:¬ w (xs.getD (j+1) 0) (xs.getD j 0)<0):insJ w (j+1) xs=xs:=by
 simp only[insJ];rw[if_neg h]
theorem iso3 (r0 r1 r2:Rat):isoK (cmpW r0 r1 r2) [0,1,2] (3-1)=ord3 r0 r1 r2:=by
 have e01:(cmpW r0 r1 r2 1 0<0)↔r0<r1:=jeb _ _
 have e02:(cmpW r0 r1 r2 2 0<0)↔r0<r2:=jeb _ _
 have e12:(cmpW r0 r1 r2 2 1<0)↔r1<r2:=jeb _ _
 show insJ (cmpW r0 r1 r2) 2 (insJ (cmpW r0 r1 r2) 1 [0,1,2])=_
 unfold ord3
 by_cases h01:r0<r1
 ·rw[if_pos h01,jeG (j:=0) (xs:=[0,1,2]) (e01.2 h01)]
  show insJ (cmpW r0 r1 r2) 2 [1,0,2]=_
  by_cases h02:r0<r2
  ·rw[if_pos h02,jeG (j:=1) (xs:=[1,0,2]) (e02.2 h02)]
   show insJ (cmpW r0 r1 r2) 1 [1,2,0]=_
   by_cases h12:r1<r2
   ·rw[if_pos h12,jeG (j:=0) (xs:=[1,2,0]) (e12.2 h12)]
    rfl
   ·rw[if_neg h12,jgx (j:=0) (xs:=[1,2,0]) fun g=>h12 (e12.1 g)]
  ·rw[if_neg h02,jgx (j:=1) (xs:=[1,0,2]) fun g=>h02 (e02.1 g)]
 ·rw[if_neg h01,jgx (j:=0) (xs:=[0,1,2]) fun g=>h01 (e01.1 g)]
  by_cases h12:r1<r2
  ·rw[if_pos h12,jeG (j:=1) (xs:=[0,1,2]) (e12.2 h12)]
   show insJ (cmpW r0 r1 r2) 1 [0,2,1]=_
   by_cases h02:r0<r2
   ·rw[if_pos h02,jeG (j:=0) (xs:=[0,2,1]) (e02.2 h02)]
    rfl
   ·rw[if_neg h02,jgx (j:=0) (xs:=[0,2,1]) fun g=>h02 (e02.1 g)]
  ·rw[if_neg h12,jgx (j:=1) (xs:=[0,1,2]) fun g=>h12 (e12.1 g)]
theorem jhK:type_of% @jh7∧type_of% @tn0∧type_of% @tn1∧type_of% @tn2:=⟨@jh7,@tn0,@tn1,@tn2⟩
theorem cmp1_00 (R:Nat→Tx)(w:Int)(c:Cl 127 [.agg [.str (R 0).1,.str (R 0).2],.agg [.str (R 0).1,.str (R 0).2]] (.tup [.int .i64 w,.int .i64 0]))(hw:InR .i64 w):Cl 126 [.int .i64 0,.int .i64 0,.ref [V.sl2 1 [.str (R 0).1,.str (R 0).2]]] (.int .i64 w):=by
 refine V.en tbOk Tryz.func126 ?_
 refine V.r0 jhK ?_
 refine⟨Pq20z,[],V.pok,?_⟩
 refine jab [(6,.int .i64 w)] [] ?_ ?_
 ·exact V.d1 jhK c
 refine V.r0 @jh7 ?_
 exact Fin.of rfl
theorem cmp1 (R:Nat→Tx)(w:Int→Int→Int)(hw:∀ a b,InR .i64 (w a b))(c:∀ a b:Nat,a<1→b<1→Cl 127 [.agg [.str (R b).1,.str (R b).2],.agg [.str (R a).1,.str (R a).2]] (.tup [.int .i64 (w a b),.int .i64 0])):∀ a b:Nat,a<1→b<1→Cl 126 [.int .i64 a,.int .i64 b,.ref [V.sl2 1 [.str (R 0).1,.str (R 0).2]]] (.int .i64 (w a b)):=fun a b ha hb=>by
 have h1:a=0:=by omega
 have h2:b=0:=by omega
 have k:=c a b ha hb
 subst h1 h2
 ·exact cmp1_00 R _ k (hw _ _)
theorem cmp2_00 (R:Nat→Tx)(w:Int)(c:Cl 127 [.agg [.str (R 0).1,.str (R 0).2],.agg [.str (R 0).1,.str (R 0).2]] (.tup [.int .i64 w,.int .i64 0]))(hw:InR .i64 w):Cl 126 [.int .i64 0,.int .i64 0,.ref [V.sl2 2 [.str (R 0).1,.str (R 0).2,.str (R 1).1,.str (R 1).2]]] (.int .i64 w):=by
 refine V.en tbOk Tryz.func126 ?_
 refine V.r0 jhK ?_
 refine⟨Pq20z,[],V.pok,?_⟩
 refine jab [(6,.int .i64 w)] [] ?_ ?_
 ·exact V.d1 jhK c
 refine V.r0 @jh7 ?_
 exact Fin.of rfl
theorem cmp2_01 (R:Nat→Tx)(w:Int)(c:Cl 127 [.agg [.str (R 1).1,.str (R 1).2],.agg [.str (R 0).1,.str (R 0).2]] (.tup [.int .i64 w,.int .i64 0]))(hw:InR .i64 w):Cl 126 [.int .i64 0,.int .i64 1,.ref [V.sl2 2 [.str (R 0).1,.str (R 0).2,.str (R 1).1,.str (R 1).2]]] (.int .i64 w):=by
 refine V.en tbOk Tryz.func126 ?_
 refine V.r0 jhK ?_
 refine⟨Pq20z,[],V.pok,?_⟩
 refine jab [(6,.int .i64 w)] [] ?_ ?_
 ·exact V.d1 jhK c
 refine V.r0 @jh7 ?_
 exact Fin.of rfl
theorem cmp2_10 (R:Nat→Tx)(w:Int)(c:Cl 127 [.agg [.str (R 0).1,.str (R 0).2],.agg [.str (R 1).1,.str (R 1).2]] (.tup [.int .i64 w,.int .i64 0]))(hw:InR .i64 w):Cl 126 [.int .i64 1,.int .i64 0,.ref [V.sl2 2 [.str (R 0).1,.str (R 0).2,.str (R 1).1,.str (R 1).2]]] (.int .i64 w):=by
 refine V.en tbOk Tryz.func126 ?_
 refine V.r0 jhK ?_
 refine⟨Pq20z,[],V.pok,?_⟩
 refine jab [(6,.int .i64 w)] [] ?_ ?_
 ·exact V.d1 jhK c
 refine V.r0 @jh7 ?_
 exact Fin.of rfl
theorem cmp2_11 (R:Nat→Tx)(w:Int)(c:Cl 127 [.agg [.str (R 1).1,.str (R 1).2],.agg [.str (R 1).1,.str (R 1).2]] (.tup [.int .i64 w,.int .i64 0]))(hw:InR .i64 w):Cl 126 [.int .i64 1,.int .i64 1,.ref [V.sl2 2 [.str (R 0).1,.str (R 0).2,.str (R 1).1,.str (R 1).2]]] (.int .i64 w):=by
 refine V.en tbOk Tryz.func126 ?_
 refine V.r0 jhK ?_
 refine⟨Pq20z,[],V.pok,?_⟩
 refine jab [(6,.int .i64 w)] [] ?_ ?_
 ·exact V.d1 jhK c
 refine V.r0 @jh7 ?_
 exact Fin.of rfl
theorem cmp2 (R:Nat→Tx)(w:Int→Int→Int)(hw:∀ a b,InR .i64 (w a b))(c:∀ a b:Nat,a<2→b<2→Cl 127 [.agg [.str (R b).1,.str (R b).2],.agg [.str (R a).1,.str (R a).2]] (.tup [.int .i64 (w a b),.int .i64 0])):∀ a b:Nat,a<2→b<2→Cl 126 [.int .i64 a,.int .i64 b,.ref [V.sl2 2 [.str (R 0).1,.str (R 0).2,.str (R 1).1,.str (R 1).2]]] (.int .i64 (w a b)):=fun a b ha hb=>by
 have h1:a=0∨a=1:=by omega
 have h2:b=0∨b=1:=by omega
 have k:=c a b ha hb
 rcases h1 with e|e<;>rcases h2 with g|g<;>subst e<;>subst g
 ·exact cmp2_00 R _ k (hw _ _)
 ·exact cmp2_01 R _ k (hw _ _)
 ·exact cmp2_10 R _ k (hw _ _)
 ·exact cmp2_11 R _ k (hw _ _)
theorem cmp3_00 (R:Nat→Tx)(w:Int)(c:Cl 127 [.agg [.str (R 0).1,.str (R 0).2],.agg [.str (R 0).1,.str (R 0).2]] (.tup [.int .i64 w,.int .i64 0]))(hw:InR .i64 w):Cl 126 [.int .i64 0,.int .i64 0,.ref [V.sl2 3 [.str (R 0).1,.str (R 0).2,.str (R 1).1,.str (R 1).2,.str (R 2).1,.str (R 2).2]]] (.int .i64 w):=by
 refine V.en tbOk Tryz.func126 ?_
 refine V.r0 jhK ?_
 refine⟨Pq20z,[],V.pok,?_⟩
 refine jab [(6,.int .i64 w)] [] ?_ ?_
 ·exact V.d1 jhK c
 refine V.r0 @jh7 ?_
 exact Fin.of rfl
theorem cmp3_01 (R:Nat→Tx)(w:Int)(c:Cl 127 [.agg [.str (R 1).1,.str (R 1).2],.agg [.str (R 0).1,.str (R 0).2]] (.tup [.int .i64 w,.int .i64 0]))(hw:InR .i64 w):Cl 126 [.int .i64 0,.int .i64 1,.ref [V.sl2 3 [.str (R 0).1,.str (R 0).2,.str (R 1).1,.str (R 1).2,.str (R 2).1,.str (R 2).2]]] (.int .i64 w):=by
 refine V.en tbOk Tryz.func126 ?_
 refine V.r0 jhK ?_
 refine⟨Pq20z,[],V.pok,?_⟩
 refine jab [(6,.int .i64 w)] [] ?_ ?_
 ·exact V.d1 jhK c
 refine V.r0 @jh7 ?_
 exact Fin.of rfl
theorem cmp3_02 (R:Nat→Tx)(w:Int)(c:Cl 127 [.agg [.str (R 2).1,.str (R 2).2],.agg [.str (R 0).1,.str (R 0).2]] (.tup [.int .i64 w,.int .i64 0]))(hw:InR .i64 w):Cl 126 [.int .i64 0,.int .i64 2,.ref [V.sl2 3 [.str (R 0).1,.str (R 0).2,.str (R 1).1,.str (R 1).2,.str (R 2).1,.str (R 2).2]]] (.int .i64 w):=by
 refine V.en tbOk Tryz.func126 ?_
 refine V.r0 jhK ?_
 refine⟨Pq20z,[],V.pok,?_⟩
 refine jab [(6,.int .i64 w)] [] ?_ ?_
 ·exact V.d1 jhK c
 refine V.r0 @jh7 ?_
 exact Fin.of rfl
theorem cmp3_10 (R:Nat→Tx)(w:Int)(c:Cl 127 [.agg [.str (R 0).1,.str (R 0).2],.agg [.str (R 1).1,.str (R 1).2]] (.tup [.int .i64 w,.int .i64 0]))(hw:InR .i64 w):Cl 126 [.int .i64 1,.int .i64 0,.ref [V.sl2 3 [.str (R 0).1,.str (R 0).2,.str (R 1).1,.str (R 1).2,.str (R 2).1,.str (R 2).2]]] (.int .i64 w):=by
 refine V.en tbOk Tryz.func126 ?_
 refine V.r0 jhK ?_
 refine⟨Pq20z,[],V.pok,?_⟩
 refine jab [(6,.int .i64 w)] [] ?_ ?_
 ·exact V.d1 jhK c
 refine V.r0 @jh7 ?_
 exact Fin.of rfl
theorem cmp3_11 (R:Nat→Tx)(w:Int)(c:Cl 127 [.agg [.str (R 1).1,.str (R 1).2],.agg [.str (R 1).1,.str (R 1).2]] (.tup [.int .i64 w,.int .i64 0]))(hw:InR .i64 w):Cl 126 [.int .i64 1,.int .i64 1,.ref [V.sl2 3 [.str (R 0).1,.str (R 0).2,.str (R 1).1,.str (R 1).2,.str (R 2).1,.str (R 2).2]]] (.int .i64 w):=by
 refine V.en tbOk Tryz.func126 ?_
 refine V.r0 jhK ?_
 refine⟨Pq20z,[],V.pok,?_⟩
 refine jab [(6,.int .i64 w)] [] ?_ ?_
 ·exact V.d1 jhK c
 refine V.r0 @jh7 ?_
 exact Fin.of rfl
theorem cmp3_12 (R:Nat→Tx)(w:Int)(c:Cl 127 [.agg [.str (R 2).1,.str (R 2).2],.agg [.str (R 1).1,.str (R 1).2]] (.tup [.int .i64 w,.int .i64 0]))(hw:InR .i64 w):Cl 126 [.int .i64 1,.int .i64 2,.ref [V.sl2 3 [.str (R 0).1,.str (R 0).2,.str (R 1).1,.str (R 1).2,.str (R 2).1,.str (R 2).2]]] (.int .i64 w):=by
 refine V.en tbOk Tryz.func126 ?_
 refine V.r0 jhK ?_
 refine⟨Pq20z,[],V.pok,?_⟩
 refine jab [(6,.int .i64 w)] [] ?_ ?_
 ·exact V.d1 jhK c
 refine V.r0 @jh7 ?_
 exact Fin.of rfl
theorem cmp3_20 (R:Nat→Tx)(w:Int)(c:Cl 127 [.agg [.str (R 0).1,.str (R 0).2],.agg [.str (R 2).1,.str (R 2).2]] (.tup [.int .i64 w,.int .i64 0]))(hw:InR .i64 w):Cl 126 [.int .i64 2,.int .i64 0,.ref [V.sl2 3 [.str (R 0).1,.str (R 0).2,.str (R 1).1,.str (R 1).2,.str (R 2).1,.str (R 2).2]]] (.int .i64 w):=by
 refine V.en tbOk Tryz.func126 ?_
 refine V.r0 jhK ?_
 refine⟨Pq20z,[],V.pok,?_⟩
 refine jab [(6,.int .i64 w)] [] ?_ ?_
 ·exact V.d1 jhK c
 refine V.r0 @jh7 ?_
 exact Fin.of rfl
theorem cmp3_21 (R:Nat→Tx)(w:Int)(c:Cl 127 [.agg [.str (R 1).1,.str (R 1).2],.agg [.str (R 2).1,.str (R 2).2]] (.tup [.int .i64 w,.int .i64 0]))(hw:InR .i64 w):Cl 126 [.int .i64 2,.int .i64 1,.ref [V.sl2 3 [.str (R 0).1,.str (R 0).2,.str (R 1).1,.str (R 1).2,.str (R 2).1,.str (R 2).2]]] (.int .i64 w):=by
 refine V.en tbOk Tryz.func126 ?_
 refine V.r0 jhK ?_
 refine⟨Pq20z,[],V.pok,?_⟩
 refine jab [(6,.int .i64 w)] [] ?_ ?_
 ·exact V.d1 jhK c
 refine V.r0 @jh7 ?_
 exact Fin.of rfl
theorem cmp3_22 (R:Nat→Tx)(w:Int)(c:Cl 127 [.agg [.str (R 2).1,.str (R 2).2],.agg [.str (R 2).1,.str (R 2).2]] (.tup [.int .i64 w,.int .i64 0]))(hw:InR .i64 w):Cl 126 [.int .i64 2,.int .i64 2,.ref [V.sl2 3 [.str (R 0).1,.str (R 0).2,.str (R 1).1,.str (R 1).2,.str (R 2).1,.str (R 2).2]]] (.int .i64 w):=by
 refine V.en tbOk Tryz.func126 ?_
 refine V.r0 jhK ?_
 refine⟨Pq20z,[],V.pok,?_⟩
 refine jab [(6,.int .i64 w)] [] ?_ ?_
 ·exact V.d1 jhK c
 refine V.r0 @jh7 ?_
 exact Fin.of rfl
theorem cmp3 (R:Nat→Tx)(w:Int→Int→Int)(hw:∀ a b,InR .i64 (w a b))(c:∀ a b:Nat,a<3→b<3→Cl 127 [.agg [.str (R b).1,.str (R b).2],.agg [.str (R a).1,.str (R a).2]] (.tup [.int .i64 (w a b),.int .i64 0])):∀ a b:Nat,a<3→b<3→Cl 126 [.int .i64 a,.int .i64 b,.ref [V.sl2 3 [.str (R 0).1,.str (R 0).2,.str (R 1).1,.str (R 1).2,.str (R 2).1,.str (R 2).2]]] (.int .i64 (w a b)):=fun a b ha hb=>by
 have h1:a=0∨a=1∨a=2:=by omega
 have h2:b=0∨b=1∨b=2:=by omega
 have k:=c a b ha hb
 rcases h1 with e|e|e<;>rcases h2 with g|g|g<;>subst e<;>subst g
 ·exact cmp3_00 R _ k (hw _ _)
 ·exact cmp3_01 R _ k (hw _ _)
 ·exact cmp3_02 R _ k (hw _ _)
 ·exact cmp3_10 R _ k (hw _ _)
 ·exact cmp3_11 R _ k (hw _ _)
 ·exact cmp3_12 R _ k (hw _ _)
 ·exact cmp3_20 R _ k (hw _ _)
 ·exact cmp3_21 R _ k (hw _ _)
 ·exact cmp3_22 R _ k (hw _ _)
def txq (q:Rat):Tx:=(decZ q.num,dec q.den)
def rqN (r0 r1 r2:Rat):Nat→Rat
 | 0=>r0
 | 1=>r1
 | _=>r2
def bqN (rq:Nat→Rat)(o:List Int):Nat→Rat
 | 0=>1
 | k+1=>rq (o.getD k 0).toNat
def wqN (rq:Nat→Rat)(o:List Int)(n k:Nat):Rat:=if k=n then bqN rq o n else bqN rq o k-bqN rq o (k+1)
def slQ (Y:Nat→Tx)(n:Nat):D:=V.sl2 n (wce Y n)
theorem sel_n (r0 r1 r2:Rat):∀ i:Nat,sel r0 r1 r2 (i:Int)=rqN r0 r1 r2 i
 | 0=>by unfold sel;rw[if_pos (by rfl)];rfl
 | 1=>by unfold sel;rw[if_neg (by decide),if_pos (by rfl)];rfl
 | k+2=>by unfold sel;rw[if_neg (by omega),if_neg (by omega)];rfl
theorem cmpW_n (r0 r1 r2:Rat)(a b:Nat):cmpW r0 r1 r2 (a:Int) (b:Int)=ordQ (rqN r0 r1 r2 b) (rqN r0 r1 r2 a):=by unfold cmpW;rw[sel_n,sel_n]
theorem jg7 (p q:Rat):InR .i64 (ordQ p q):=by
 unfold ordQ
 split
 ·exact⟨by decide,by decide⟩
 ·split<;>exact⟨by decide,by decide⟩
theorem jbX {n:Nat}{x:Rat}{s:Int}(h:Fq n x)(h0:0<n)(hs:2≤s∧s≤9):Fq (n+3) (spR s x):=by
 have fs:Fq 1 ((s-1:Int):Rat):=jaP (by omega) (by omega)
 have bb:=jdT hs.1 x
 have fi:Fq 1 ((spB s x:Int):Rat):=jaP (by omega) (by omega)
 exact((fq_cl h h0).mul fs).sub fi
theorem fq_rq {r0 r1 r2:Rat}(h0:Fq 43 r0)(h1:Fq 43 r1)(h2:Fq 43 r2):∀ k,Fq 43 (rqN r0 r1 r2 k)
 | 0=>h0
 | 1=>h1
 | _+2=>h2
theorem fq_one:Fq 43 1:=⟨by decide,by decide⟩
theorem jc5:Fq 43 0:=⟨by decide,by decide⟩
theorem fq_bq {rq:Nat→Rat}(h:∀ k,Fq 43 (rq k))(o:List Int):∀ k,Fq 43 (bqN rq o k)
 | 0=>fq_one
 | k+1=>h _
theorem fq_wq {rq:Nat→Rat}(h:∀ k,Fq 43 (rq k))(o:List Int)(n k:Nat):Fq 87 (wqN rq o n k):=by
 unfold wqN
 split
 ·exact(fq_bq h o n).mono (by decide)
 ·exact(fq_bq h o k).sub (fq_bq h o (k+1))
theorem find1_q {x0:Rat}{z0:Int}(out:Int)(data:List Int)(h0:Fq 40 x0)(s0:2≤z0∧z0≤9) :
  Cl 79 [.agg [.ints .i64 [z0],.int .i64 out,.ints .i64 data],slQ (fun i=>txq (rqN x0 0 0 i)) 1] (.tup [.agg [.ints .i64 [z0],.int .i64 out,.ints .i64 data,.ints .i64 [spB z0 x0],.ints .i64 [0],slQ (fun k=>txq (wqN (rqN (spR z0 x0) 0 0) [0] 1 k)) 2],.int .i64 0]):=by
 have p0:=jdG h0 (by decide) s0
 have f0:=jbX h0 (by decide) s0
 have io:=jaq (n:=1) (by omega)
 rw[show ((1:Int):Rat)=1 from rfl] at io
 have fr:∀ k,Fq 43 (rqN (spR z0 x0) 0 0 k):=fq_rq f0 jc5 jc5
 have cm:=cmp1 (fun i=>txq (rqN (spR z0 x0) 0 0 i)) (cmpW (spR z0 x0) 0 0) (fun a b=>jg7 _ _) (fun a b _ _=>by
  have c:=zcmp (fr b) (fr a) (by decide) (by decide)
  rw[← cmpW_n] at c
  exact c)
 have g:=find1_t z0 out (spB z0 x0) data _ _ _ _ (fun i=>txq (rqN (spR z0 x0) 0 0 i)) (fun k=>txq (bqN (rqN (spR z0 x0) 0 0) (isoK (cmpW (spR z0 x0) 0 0) [0] (1-1)) k)) (fun k=>txq (bqN (rqN (spR z0 x0) 0 0) (isoK (cmpW (spR z0 x0) 0 0) [0] (1-1)) k-bqN (rqN (spR z0 x0) 0 0) (isoK (cmpW (spR z0 x0) 0 0) [0] (1-1)) (k+1))) p0 io (cmpW (spR z0 x0) 0 0) cm rfl (fun k _=>rfl) (fun k _=>zsub (fq_bq fr _ k) (fq_bq fr _ (k+1)) (by decide) (by decide) (by decide))
 have e:isoK (cmpW (spR z0 x0) 0 0) [0] (1-1)=[0]:=iso1 _
 rw[e] at g
 exact g
theorem find2_q {x0 x1:Rat}{z0 z1:Int}(out:Int)(data:List Int)(h0:Fq 40 x0)(h1:Fq 40 x1)(s0:2≤z0∧z0≤9)(s1:2≤z1∧z1≤9) :
  Cl 79 [.agg [.ints .i64 [z0,z1],.int .i64 out,.ints .i64 data],slQ (fun i=>txq (rqN x0 x1 0 i)) 2] (.tup [.agg [.ints .i64 [z0,z1],.int .i64 out,.ints .i64 data,.ints .i64 [spB z0 x0,spB z1 x1],.ints .i64 (ord2 (spR z0 x0) (spR z1 x1)),slQ (fun k=>txq (wqN (rqN (spR z0 x0) (spR z1 x1) 0) (ord2 (spR z0 x0) (spR z1 x1)) 2 k)) 3],.int .i64 0]):=by
 have p0:=jdG h0 (by decide) s0
 have f0:=jbX h0 (by decide) s0
 have p1:=jdG h1 (by decide) s1
 have f1:=jbX h1 (by decide) s1
 have io:=jaq (n:=1) (by omega)
 rw[show ((1:Int):Rat)=1 from rfl] at io
 have fr:∀ k,Fq 43 (rqN (spR z0 x0) (spR z1 x1) 0 k):=fq_rq f0 f1 jc5
 have cm:=cmp2 (fun i=>txq (rqN (spR z0 x0) (spR z1 x1) 0 i)) (cmpW (spR z0 x0) (spR z1 x1) 0) (fun a b=>jg7 _ _) (fun a b _ _=>by
  have c:=zcmp (fr b) (fr a) (by decide) (by decide)
  rw[← cmpW_n] at c
  exact c)
 have g:=find2_t z0 z1 out (spB z0 x0) (spB z1 x1) data _ _ _ _ _ _ (fun i=>txq (rqN (spR z0 x0) (spR z1 x1) 0 i)) (fun k=>txq (bqN (rqN (spR z0 x0) (spR z1 x1) 0) (isoK (cmpW (spR z0 x0) (spR z1 x1) 0) [0,1] (2-1)) k)) (fun k=>txq (bqN (rqN (spR z0 x0) (spR z1 x1) 0) (isoK (cmpW (spR z0 x0) (spR z1 x1) 0) [0,1] (2-1)) k-bqN (rqN (spR z0 x0) (spR z1 x1) 0) (isoK (cmpW (spR z0 x0) (spR z1 x1) 0) [0,1] (2-1)) (k+1))) p0 p1 io (cmpW (spR z0 x0) (spR z1 x1) 0) cm rfl (fun k _=>rfl) (fun k _=>zsub (fq_bq fr _ k) (fq_bq fr _ (k+1)) (by decide) (by decide) (by decide))
 have e:isoK (cmpW (spR z0 x0) (spR z1 x1) 0) [0,1] (2-1)=(ord2 (spR z0 x0) (spR z1 x1)):=iso2 _ _ _
 rw[e] at g
 exact g
theorem find3_q {x0 x1 x2:Rat}{z0 z1 z2:Int}(out:Int)(data:List Int)(h0:Fq 40 x0)(h1:Fq 40 x1)(h2:Fq 40 x2)(s0:2≤z0∧z0≤9)(s1:2≤z1∧z1≤9)(s2:2≤z2∧z2≤9) :
  Cl 79 [.agg [.ints .i64 [z0,z1,z2],.int .i64 out,.ints .i64 data],slQ (fun i=>txq (rqN x0 x1 x2 i)) 3] (.tup [.agg [.ints .i64 [z0,z1,z2],.int .i64 out,.ints .i64 data,.ints .i64 [spB z0 x0,spB z1 x1,spB z2 x2],.ints .i64 (ord3 (spR z0 x0) (spR z1 x1) (spR z2 x2)),slQ (fun k=>txq (wqN (rqN (spR z0 x0) (spR z1 x1) (spR z2 x2)) (ord3 (spR z0 x0) (spR z1 x1) (spR z2 x2)) 3 k)) 4],.int .i64 0]):=by
 have p0:=jdG h0 (by decide) s0
 have f0:=jbX h0 (by decide) s0
 have p1:=jdG h1 (by decide) s1
 have f1:=jbX h1 (by decide) s1
 have p2:=jdG h2 (by decide) s2
 have f2:=jbX h2 (by decide) s2
 have io:=jaq (n:=1) (by omega)
 rw[show ((1:Int):Rat)=1 from rfl] at io
 have fr:∀ k,Fq 43 (rqN (spR z0 x0) (spR z1 x1) (spR z2 x2) k):=fq_rq f0 f1 f2
 have cm:=cmp3 (fun i=>txq (rqN (spR z0 x0) (spR z1 x1) (spR z2 x2) i)) (cmpW (spR z0 x0) (spR z1 x1) (spR z2 x2)) (fun a b=>jg7 _ _) (fun a b _ _=>by
  have c:=zcmp (fr b) (fr a) (by decide) (by decide)
  rw[← cmpW_n] at c
  exact c)
 have g:=find3_t z0 z1 z2 out (spB z0 x0) (spB z1 x1) (spB z2 x2) data _ _ _ _ _ _ _ _ (fun i=>txq (rqN (spR z0 x0) (spR z1 x1) (spR z2 x2) i)) (fun k=>txq (bqN (rqN (spR z0 x0) (spR z1 x1) (spR z2 x2)) (isoK (cmpW (spR z0 x0) (spR z1 x1) (spR z2 x2)) [0,1,2] (3-1)) k)) (fun k=>txq (bqN (rqN (spR z0 x0) (spR z1 x1) (spR z2 x2)) (isoK (cmpW (spR z0 x0) (spR z1 x1) (spR z2 x2)) [0,1,2] (3-1)) k-bqN (rqN (spR z0 x0) (spR z1 x1) (spR z2 x2)) (isoK (cmpW (spR z0 x0) (spR z1 x1) (spR z2 x2)) [0,1,2] (3-1)) (k+1))) p0 p1 p2 io (cmpW (spR z0 x0) (spR z1 x1) (spR z2 x2)) cm rfl (fun k _=>rfl) (fun k _=>zsub (fq_bq fr _ k) (fq_bq fr _ (k+1)) (by decide) (by decide) (by decide))
 have e:isoK (cmpW (spR z0 x0) (spR z1 x1) (spR z2 x2)) [0,1,2] (3-1)=(ord3 (spR z0 x0) (spR z1 x1) (spR z2 x2)):=iso3 _ _ _
 rw[e] at g
 exact g
end Go.Proofs.YtgjgpdceghjajaaGreatDoor
end
section
namespace Go.Proofs.YtgjgpdceghjajaaGreatDoor
open Go Go.V
theorem jc9 (n l h:Int):Cl 39 [.int .i64 n,.int .i64 l,.int .i64 h] (.bool (decide (l≤n) && decide (n≤h))):=by
 refine V.en tbOk Tryz.func39 ?_
 (conv=>whnf)
 refine V.st ?_
 exact Fin.same _
def prod (xs:List Int):Int:=xs.foldl (· * ·) 1
theorem jb2 {xs:List Int}{k:Nat}{x:Int}(h:xs[k]? = some x):prod (xs.take (k+1))=prod (xs.take k)*x:=by
 rw[jiW,h];simp[prod]
theorem product_c (xs:List Int)(hx:∀ k,k≤xs.length→InR .i64 (prod (xs.take k)))(hl:xs.length≤281474976710656):Cl 69 [.ints .i64 xs] (.int .i64 (prod xs)):=by
 refine V.en tbOk Tryz.func69 ?_
 (conv=>whnf)
 refine lp_go (xs.length) (fun k=>True) (fun k=>[(3,.int .i64 (prod (xs.take k))),(8,.int .i64 k)]) (fun k=>[]) V.wk ?_ ?_
 ·trivial
 intro k hk _
 (conv=>whnf)
 refine V.st ?_
 refine V.br (fun h=>?_) (fun h=>?_)
 ·simp only[decide_eq_true_eq] at h
  obtain⟨x,hx1,ex⟩:=getx (xs:=xs) (k:=k) (by omega)
  have hp:=jb2 hx1
  have hr:=hx (k+1) (by omega)
  (conv=>whnf)
  refine V.st ?_
  rw[ex,← hp]
  refine V.st ?_
  exact⟨k+1,⟨by omega,trivial⟩,by omega,V.wk⟩
 ·simp only[decide_eq_false_iff_not] at h
  (conv=>whnf)
  refine V.st ?_
  have:prod (xs.take k)=prod xs:=by rw[jiO (by omega)]
  rw[this]
  exact Fin.same _
theorem points_c (xs:List Int)(hx:∀ k,k≤xs.length→InR .i64 (prod (xs.take k)))(hl:xs.length≤281474976710656):Cl 70 [.ints .i64 xs] (.int .i64 (prod xs)):=by
 refine V.en tbOk Tryz.func70 ?_
 (conv=>whnf)
 refine lp_go (xs.length) (fun k=>True) (fun k=>[(3,.int .i64 (prod (xs.take k))),(4,.int .i64 k)]) (fun k=>[]) V.wk ?_ ?_
 ·trivial
 intro k hk _
 (conv=>whnf)
 refine V.st ?_
 refine V.br (fun h=>?_) (fun h=>?_)
 ·simp only[decide_eq_true_eq] at h
  obtain⟨x,hx1,ex⟩:=getx (xs:=xs) (k:=k) (by omega)
  have hp:=jb2 hx1
  have hr:=hx (k+1) (by omega)
  (conv=>whnf)
  refine V.st ?_
  rw[ex,← hp]
  refine V.st ?_
  exact⟨k+1,⟨by omega,trivial⟩,by omega,V.wk⟩
 ·simp only[decide_eq_false_iff_not] at h
  (conv=>whnf)
  refine V.st ?_
  have:prod (xs.take k)=prod xs:=by rw[jiO (by omega)]
  rw[this]
  exact Fin.same _
theorem jf8 (xs ys:List Int)(hl:xs.length≤281474976710656)(hm:ys.length≤281474976710656):Cl 34 [.ints .i64 xs,.ints .i64 ys] (.bool (decide (xs=ys))):=by
 refine V.en tbOk Tryz.func34 ?_
 (conv=>whnf)
 refine V.br (fun h=>?_) (fun h=>?_)
 ·have hne:xs≠ys:=fun e=>by subst e;simp at h
  (conv=>whnf)
  refine V.st ?_
  exact Fin.of (by simp[hne])
 have hle:xs.length=ys.length:=by simp at h;omega
 clear h
 (conv=>whnf)
 refine V.st ?_
 refine lp_go (xs.length) (fun k=>xs.take k=ys.take k) (fun k=>[(13,.int .i64 k)]) (fun k=>[]) V.wk ?_ ?_
 ·rfl
 intro k hk hI
 (conv=>whnf)
 refine V.st ?_
 refine V.br (fun h=>?_) (fun h=>?_)
 ·simp only[decide_eq_true_eq] at h
  obtain⟨x,hx1,ex⟩:=getx (xs:=xs) (k:=k) (by omega)
  obtain⟨y,hy1,ey⟩:=getx (xs:=ys) (k:=k) (by omega)
  (conv=>whnf)
  refine V.st ?_
  refine⟨Pq19z,[],V.pok,.go (jad ?_)⟩
  (conv=>whnf)
  refine V.st ?_
  rw[ex,ey]
  refine V.br (fun hb=>?_) (fun hb=>?_)
  ·have hne:xs≠ys:=fun e=>by subst e;rw[hx1] at hy1;cases hy1;simp at hb
   (conv=>whnf)
   refine V.st ?_
   exact Fin.of (by simp[hne])
  ·have hxy:x=y:=by simpa using hb
   (conv=>whnf)
   refine V.st ?_
   exact⟨k+1,⟨by omega,(by rw[jiW,jiW,hI,hx1,hy1,hxy])⟩,by omega,V.wk⟩
 ·simp only[decide_eq_false_iff_not] at h
  have:xs=ys:=by rw[← jiO (l:=xs) (i:=k) (by omega),← jiO (l:=ys) (i:=k) (by omega),hI]
  (conv=>whnf)
  refine V.st ?_
  exact Fin.of (by simp[this])
theorem clone_c (xs:List Int)(hl:xs.length≤17592186044416):Cl 19 [.ints .i64 xs] (.ints .i64 xs):=by
 refine V.en tbOk Tryz.func19 ?_
 (conv=>whnf)
 refine⟨fun h=>?_,fun _=>?_⟩
 ·have hx:=h rfl
  subst hx
  (conv=>whnf)
  refine V.st ?_
  exact Fin.nil _
 ·(conv=>whnf)
  refine⟨fun _=>⟨rfl,by simpa using hl⟩,?_⟩
  (conv=>whnf)
  exact Fin.of (by simp)
def gridD (size:List Int)(out:Int)(data:List Int):D := .agg [.ints .i64 size,.int .i64 out,.ints .i64 data]
def jak (size:List Int)(out:Int)(data:List Int):Bool:=
 decide (1≤size.length∧size.length≤4) && decide (1≤out∧out≤4) && size.all (fun n=>decide (2≤n∧n≤9)) && decide ((data.length:Int)≤4096∧(data.length:Int)=prod size*out) && data.all fun v=>decide (0≤v∧v≤65535)
theorem jg8 {size:List Int}{out:Int}{data:List Int}{k:Nat}{x:Int}(hx:size[k]? = some x)(h:¬ (2≤x∧x≤9)):jak size out data=false:=by
 have hm:x∈size:=jiD hx
 have:size.all (fun n=>decide (2≤n∧n≤9))=false:=by
  rw[List.all_eq_false];exact⟨x,hm,by simpa using h⟩
 unfold jak;rw[this];simp only[Bool.and_false,Bool.false_and]
theorem jg9 {size:List Int}{out:Int}{data:List Int}{k:Nat}{x:Int}(hx:data[k]? = some x)(h:¬ (0≤x∧x≤65535)):jak size out data=false:=by
 have hm:x∈data:=jiD hx
 have:data.all (fun v=>decide (0≤v∧v≤65535))=false:=by
  rw[List.all_eq_false];exact⟨x,hm,by simpa using h⟩
 unfold jak;rw[this];simp only[Bool.and_false,Bool.false_and]
theorem jfT {size:List Int}(hall:size.all (fun n=>decide (2≤n∧n≤9))=true)(k:Nat):0≤prod (size.take k)∧(size.length≤4→prod (size.take k)≤6561)∧(size.length≤4→InR .i64 (prod (size.take k))):=by
 have hb:∀ l:List Int,(∀ n∈l,2≤n∧n≤9) → ∀ a:Int,0≤a→0≤l.foldl (· * ·) a∧l.foldl (· * ·) a≤a*9^l.length:=by
  intro l
  induction l with
  | nil=>intro _ a ha;simp;exact ha
  | cons x l ih=>
   intro hl a ha
   have hx:=hl x (by simp)
   have h1:0≤a*x:=jh6 ha (by omega)
   have h2:=ih (fun n hn=>hl n (by simp[hn])) (a*x) h1
   refine⟨h2.1,Int.le_trans h2.2 ?_⟩
   have h3:a*x≤a*9:=jim hx.2 ha
   have h4:a*x*9^l.length≤a*9*9^l.length:=jie h3 (Int.pow_nonneg (by omega))
   have h5:a*9^(x::l).length=a*9*9^l.length:=by
    rw[jiN,Int.pow_succ,jik _ 9,← jil]
   rw[h5];exact h4
 simp only[jiy,decide_eq_true_eq] at hall
 have h1:=hb (size.take k) (fun n hn=>hall n (jiK hn)) 1 (by omega)
 have h2:size.length≤4→prod (size.take k)≤6561:=by
  intro h
  refine Int.le_trans h1.2 ?_
  have:(size.take k).length≤4:=by simp;omega
  generalize (size.take k).length=m at this
  match m,this with
  | 0,_=>decide
  | 1,_=>decide
  | 2,_=>decide
  | 3,_=>decide
  | 4,_=>decide
  | m+5,h=>omega
 refine⟨h1.1,h2,fun h=>?_⟩
 have h3:=h2 h
 have h4:=h1.1
 simp only[V.InR,lo,hi]
 simp only[prod] at *
 omega
theorem prodm_bd {size:List Int}{out:Int}(hall:size.all (fun n=>decide (2≤n∧n≤9))=true)(h1:size.length≤4)(h2:1≤out∧out≤4):InR .i64 (prod size*out):=by
 have h3:=jfT hall size.length
 rw[jiX] at h3
 have h4:prod size≤6561:=h3.2.1 h1
 have h5:0≤prod size*out:=jh6 h3.1 (by omega)
 have h6:prod size*out≤6561*4:=Int.mul_le_mul h4 h2.2 (by omega) (by omega)
 simp only[V.InR,lo,hi];omega
theorem jdR (size:List Int)(out:Int)(data:List Int)(hs:size.length≤281474976710656)(hd:data.length≤281474976710656) :
  Cl 37 [gridD size out data] (.int .i64 (if jak size out data then 0 else 100)):=by
 refine V.en tbOk Tryz.func37 ?_
 (conv=>whnf)
 refine V.st ?_
 repeat ((try ((with_reducible refine .ext ?_);(conv=>whnf)));(with_reducible refine jaa (r:=?_) ?_ ?_);rotate_left;(focus (first|exact(jc9 _ _ _)));(conv=>whnf);refine V.st ?_)
 refine V.br (fun h=>?_) (fun h=>?_)
 ·(conv=>whnf)
  refine V.st ?_
  refine Fin.of ?_
  have:jak size out data=false:=by
   simp only[jak]
   simp at h
   simp
   omega
  rw[this];rfl
 have h1:1≤size.length∧size.length≤4∧1≤out∧out≤4:=by
  simp at h;omega
 clear h
 (conv=>whnf)
 refine V.st ?_
 refine lp_inv size.length (fun k=>(size.take k).all (fun n=>decide (2≤n∧n≤9))=true) (fun k=>[(1,.box 1 0),(19,.ints .i64 size),(20,.int .i64 size.length),(21,.int .i64 k)]) (fun _=>[(1,.box [.ints .i64 size,.int .i64 out,.ints .i64 data])]) ?_ rfl ?_
 ·exact Wk.of ⟨rfl,rfl,rfl,rfl,trivial⟩ ⟨rfl,trivial⟩
 intro k hk hI
 (conv=>whnf)
 refine V.st ?_
 refine V.br (fun h=>?_) (fun h=>?_)
 ·simp only[decide_eq_true_eq] at h
  obtain⟨x,hx1⟩:∃ x,size[k]? = some x:=⟨size[k],jiC (by omega)⟩
  have ex:=V.getD_toNat size k x hx1
  (conv=>whnf)
  refine V.st ?_
  repeat ((try ((with_reducible refine .ext ?_);(conv=>whnf)));(with_reducible refine jaa (r:=?_) ?_ ?_);rotate_left;(focus (first|exact(jc9 _ _ _)));(conv=>whnf);refine V.st ?_)
  rw[ex]
  refine V.br (fun h=>?_) (fun h=>?_)
  ·(conv=>whnf)
   refine V.st ?_
   refine Fin.of ?_
   rw[jg8 hx1 (by simp at h;omega)];rfl
  ·(conv=>whnf)
   refine V.st ?_
   exact⟨k+1,⟨by omega,by rw[jiW,List.all_append,hI,hx1];simp at h ⊢; omega⟩,by omega,Wk.of ⟨rfl,rfl,rfl,rfl,trivial⟩ ⟨rfl,trivial⟩⟩
 ·(conv=>whnf)
  refine V.st ?_
  simp only[decide_eq_false_iff_not] at h
  have hall:size.all (fun n=>decide (2≤n∧n≤9))=true:=by rw[← hI,jiO (by omega)]
  have hp:=jfT hall
  have hm:=prodm_bd hall h1.2.1 h1.2.2
  refine⟨(V.tk [0,1,2,3,4,5,6,7,8,9,11,12] (V.e1 10 [12,11,7,6,5] (V.tk [13,14,15] .done))),[],V.pok,.go (jad ?_)⟩
  (conv=>whnf)
  refine V.st ?_
  repeat ((try ((with_reducible refine .ext ?_);(conv=>whnf)));(with_reducible refine jaa (r:=?_) ?_ ?_);rotate_left;(focus (first|exact(product_c _ (fun k _=>(hp k).2.2 h1.2.1) hs)));(conv=>whnf);refine V.st ?_)
  refine V.br (fun h=>?_) (fun h=>?_)
  ·(conv=>whnf)
   refine V.st ?_
   refine Fin.of ?_
   have:jak size out data=false:=by
    unfold jak
    have:(decide ((data.length:Int)≤4096∧(data.length:Int)=prod size*out))=false:=by simp at h ⊢; omega
    rw[this];simp
   rw[this];rfl
  have h2:(data.length:Int)≤4096∧(data.length:Int)=prod size*out:=by simp at h;omega
  clear h
  (conv=>whnf)
  refine V.st ?_
  refine lp_inv data.length (fun k=>(data.take k).all (fun v=>decide (0≤v∧v≤65535))=true) (fun k=>[(1,.box 1 0),(46,.ints .i64 data),(47,.int .i64 data.length),(48,.int .i64 k)]) (fun _=>[(1,.box [.ints .i64 size,.int .i64 out,.ints .i64 data])]) ?_ rfl ?_
  ·exact Wk.of ⟨rfl,rfl,rfl,rfl,trivial⟩ ⟨rfl,trivial⟩
  intro k hk hI
  (conv=>whnf)
  refine V.st ?_
  refine V.br (fun h=>?_) (fun h=>?_)
  ·simp only[decide_eq_true_eq] at h
   obtain⟨x,hx1⟩:∃ x,data[k]? = some x:=⟨data[k],jiC (by omega)⟩
   have ex:=V.getD_toNat data k x hx1
   (conv=>whnf)
   refine V.st ?_
   repeat ((try ((with_reducible refine .ext ?_);(conv=>whnf)));(with_reducible refine jaa (r:=?_) ?_ ?_);rotate_left;(focus (first|exact(jc9 _ _ _)));(conv=>whnf);refine V.st ?_)
   rw[ex]
   refine V.br (fun h=>?_) (fun h=>?_)
   ·(conv=>whnf)
    refine V.st ?_
    refine Fin.of ?_
    rw[jg9 hx1 (by simp at h;omega)];rfl
   ·(conv=>whnf)
    refine V.st ?_
    exact⟨k+1,⟨by omega,by rw[jiW,List.all_append,hI,hx1];simp at h ⊢; omega⟩,by omega,Wk.of ⟨rfl,rfl,rfl,rfl,trivial⟩ ⟨rfl,trivial⟩⟩
  ·(conv=>whnf)
   refine V.st ?_
   simp only[decide_eq_false_iff_not] at h
   have hall2:data.all (fun v=>decide (0≤v∧v≤65535))=true:=by rw[← hI,jiO (by omega)]
   have:jak size out data=true:=by
    unfold jak
    rw[hall,hall2];simp;omega
   refine Fin.of ?_
   rw[this];rfl
def pz (z:List (Int×Int)):Int:=z.foldl (fun p a=>p*a.1+a.2) 0
def okIdx (size xs:List Int):Bool:=decide (xs.length=size.length) && (size.zip xs).all fun a=>decide (0≤a.2∧a.2≤a.1-1)
def pad4 (xs:List Int):List Int:=xs++List.replicate (4-xs.length) 0
theorem jas {xs:List Int}(h:xs.length≤4):(pad4 xs).length=4:=by simp[pad4];omega
theorem jd9 {xs:List Int}{k:Nat}{x:Int}(h:xs[k]? = some x)(hl:xs.length≤4):(pad4 (xs.take k)).set k x=pad4 (xs.take (k+1)):=by
 have hk:k<xs.length:=(jiI.1 h).1
 refine List.ext_getElem? fun j=>?_
 rw[List.getElem?_set]
 have h1:(xs.take k).length=k:=by simp;omega
 have h2:(xs.take (k+1)).length=k+1:=by simp;omega
 have hp:(pad4 (xs.take k)).length=4:=jas (by omega)
 by_cases e:k=j
 ·subst e
  rw[if_pos rfl,if_pos (by omega)]
  unfold pad4
  rw[jiH (by omega),jiV (by omega),h]
 ·rw[if_neg e]
  unfold pad4
  rw[h1,h2]
  by_cases hj:j<k
  ·rw[jiH (by omega),jiH (by omega),jiV hj,jiV (by omega)]
  ·rw[List.getElem?_append_right (by omega),List.getElem?_append_right (by omega),h1,h2]
   simp only[List.getElem?_replicate]
   by_cases hj4:j<4
   ·rw[if_pos (by omega),if_pos (by omega)]
   ·rw[if_neg (by omega),if_neg (by omega)]
theorem pz_bd_aux (z:List (Int×Int)):∀ (p q:Int),(∀ a∈z,0≤a.2∧a.2≤a.1-1)→0≤p→p+1≤q →
  0≤z.foldl (fun p a=>p*a.1+a.2) p∧z.foldl (fun p a=>p*a.1+a.2) p+1≤(z.map (·.1)).foldl (· * ·) q:=by
 induction z with
 | nil=>intro p q _ h1 h2;exact⟨h1,h2⟩
 | cons a z ih=>
  intro p q h h1 h2
  have ha:=h a (by simp)
  simp only[List.foldl_cons,List.map_cons]
  have h3:0≤p*a.1:=jh6 h1 (by omega)
  have h4:(p+1)*a.1≤q*a.1:=jie h2 (by omega)
  rw[jit] at h4
  exact ih _ _ (fun b hb=>h b (by simp[hb])) (by omega) (by omega)
theorem pz_bd {z:List (Int×Int)}(h:∀ a∈z,0≤a.2∧a.2≤a.1-1):0≤pz z∧pz z+1≤prod (z.map (·.1)):=pz_bd_aux z 0 1 h (by omega) (by omega)
theorem jaV {size xs:List Int} : okIdx size xs=true↔xs.length=size.length ∧ ∀ (k:Nat) (n x:Int),size[k]? = some n→xs[k]? = some x→0≤x∧x≤n-1:=by
 unfold okIdx
 rw[jh2,decide_eq_true_eq,jiy]
 constructor
 ·rintro⟨h1,h2⟩
  refine⟨h1,fun k n x hn hx=>?_⟩
  have:=h2 (n,x) (jiD (i:=k) (by rw[List.getElem?_zip_eq_some];exact⟨hn,hx⟩))
  simpa using this
 ·rintro⟨h1,h2⟩
  refine⟨h1,fun a ha=>?_⟩
  obtain⟨k,hk⟩:=List.getElem?_of_mem ha
  rw[List.getElem?_zip_eq_some] at hk
  simpa using h2 k _ _ hk.1 hk.2
theorem ja2 {size:List Int}{out:Int}{data:List Int}(h:jak size out data=true):1≤size.length∧size.length≤4∧1≤out∧out≤4∧size.all (fun n=>decide (2≤n∧n≤9))=true∧(data.length:Int)≤4096∧(data.length:Int)=prod size*out∧data.all (fun v=>decide (0≤v∧v≤65535))=true:=by
 unfold jak at h
 simp only[jh2] at h
 obtain⟨⟨⟨⟨h1,h2⟩,h3⟩,h4⟩,h5⟩:=h
 simp only[decide_eq_true_eq] at h1 h2 h4
 exact⟨h1.1,h1.2,h2.1,h2.2,h3,h4.1,h4.2,h5⟩
theorem okIdx_step {size xs:List Int}{n x:Int}(h:okIdx size xs=true)(hl:size.length=xs.length)(hx:0≤x∧x≤n-1):okIdx (size++[n].toArray.toList) (xs++[x].toArray.toList)=true:=by
 unfold okIdx at *
 rw[List.zip_append hl]
 simp at *
 exact⟨by omega,h.2,by omega⟩
theorem find_c (size:List Int)(out:Int)(data xs:List Int)(hg:jak size out data=true)(hx:xs.length≤281474976710656) :
  Cl 47 [gridD size out data,.ints .i64 xs] (.tup [.iarr .i64 (if okIdx size xs then pad4 xs else [0,0,0,0]),.bool (okIdx size xs)]):=by
 have hG:=ja2 hg
 refine V.en tbOk Tryz.func47 ?_
 (conv=>whnf)
 refine V.st ?_
 refine V.br (fun h=>?_) (fun h=>?_)
 ·have:okIdx size xs=false:=by
   unfold okIdx
   simp at h;simp;omega
  (conv=>whnf)
  refine V.st ?_
  rw[this]
  exact Fin.of rfl
 have hl:xs.length=size.length:=by simp at h;omega
 clear h
 (conv=>whnf)
 refine V.st ?_
 refine lp_go (xs.length) (fun k=>okIdx (size.take k) (xs.take k)=true) (fun k=>[(19,.int .i64 k)]) (fun k=>[(6,.arr .i64 (pad4 (xs.take k)))]) V.wk ?_ ?_
 ·rfl
 intro k hk hI
 (conv=>whnf)
 refine V.st ?_
 refine V.br (fun h=>?_) (fun h=>?_)
 ·simp only[decide_eq_true_eq] at h
  obtain⟨x,hx1,ex⟩:=getx (xs:=xs) (k:=k) (by omega)
  obtain⟨n,hn1,en⟩:=getx (xs:=size) (k:=k) (by omega)
  have hnb:2≤n∧n≤9:=by
   have:=jiy.1 hG.2.2.2.2.1 n (jiD hn1)
   simpa using this
  (conv=>whnf)
  refine V.st ?_
  rw[en]
  refine V.st ?_
  repeat ((try ((with_reducible refine .ext ?_);(conv=>whnf)));(with_reducible refine jaa (r:=?_) ?_ ?_);rotate_left;(focus (first|exact(jc9 _ _ _)));(conv=>whnf);refine V.st ?_)
  rw[ex]
  refine V.br (fun h=>?_) (fun h=>?_)
  ·have:okIdx size xs=false:=by
    cases hb:okIdx size xs with
    | false=>rfl
    | true=>
     have:=(jaV.1 hb).2 k n x hn1 hx1
     simp at h;omega
   (conv=>whnf)
   refine V.st ?_
   rw[this]
   exact Fin.of rfl
  ·(conv=>whnf)
   refine V.st ?_
   simp only[jas (xs:=xs.take k) (by simp;omega)]
   refine V.st ?_
   simp only[jh7,jh9]
   rw[jd9 hx1 (by omega)]
   exact⟨k+1,⟨by omega,(by rw[jiW,jiW,hn1,hx1];exact okIdx_step (n:=n) (x:=x) hI (by simp[jiF];omega) (by simp at h;omega))⟩,by omega,V.wk⟩
 ·simp only[decide_eq_false_iff_not] at h
  rw[jiO (by omega),jiO (by omega)] at hI
  (conv=>whnf)
  refine V.st ?_
  have hp4:(pad4 xs).length=4:=jas (by omega)
  rw[jiO (by omega)]
  refine V.st ?_
  rw[hI]
  exact Fin.of rfl
theorem place_c (size:List Int)(out:Int)(data xs:List Int)(hg:jak size out data=true)(hx:xs.length=4)(hi:∀ (k:Nat) (n x:Int),size[k]? = some n→xs[k]? = some x→0≤x∧x≤n-1) :
  Cl 71 [gridD size out data,.iarr .i64 xs] (.int .i64 (pz (size.zip xs)*out)):=by
 have hG:=ja2 hg
 have hb:∀ k,k≤size.length→0≤pz ((size.zip xs).take k)∧pz ((size.zip xs).take k)+1≤6561:=fun k hk=>by
  have h1:=pz_bd (z:=(size.zip xs).take k) (fun a ha=>by
   obtain⟨j,hj⟩:=List.getElem?_of_mem (jiK ha)
   rw[List.getElem?_zip_eq_some] at hj
   exact hi j _ _ hj.1 hj.2)
  have h2:=(jfT hG.2.2.2.2.1 k).2.1 hG.2.1
  have h3:((size.zip xs).take k).map (·.1)=size.take k:=by
   rw[List.map_take,List.map_fst_zip (by omega)]
  rw[h3] at h1
  omega
 have hb2:=hb size.length (by omega)
 rw[jiO (by simp;omega)] at hb2
 refine V.en tbOk Tryz.func71 ?_
 (conv=>whnf)
 refine V.st ?_
 refine lp_go (size.length) (fun k=>True) (fun k=>[(5,.int .i64 (pz ((size.zip xs).take k))),(12,.int .i64 k)]) (fun k=>[]) V.wk ?_ ?_
 ·trivial
 intro k hk _
 (conv=>whnf)
 refine V.st ?_
 refine V.br (fun h=>?_) (fun h=>?_)
 ·simp only[decide_eq_true_eq] at h
  obtain⟨n,hn1,en⟩:=getx (xs:=size) (k:=k) (by omega)
  obtain⟨x,hx1,ex⟩:=getx (xs:=xs) (k:=k) (by omega)
  have hz:(size.zip xs)[k]? = some (n,x):=by rw[List.getElem?_zip_eq_some];exact⟨hn1,hx1⟩
  have hs:pz ((size.zip xs).take (k+1))=pz ((size.zip xs).take k)*n+x:=by
   rw[jiW,hz];simp[pz]
  have h1:=hb k (by omega)
  have h2:=hb (k+1) (by omega)
  have h3:=hi k n x hn1 hx1
  rw[hs] at h2
  have h4:0≤pz ((size.zip xs).take k)*n:=jh6 h1.1 (by omega)
  refine V.r0 (V.a3 @en ex @jh7) ?_
  rw[← hs]
  exact⟨k+1,⟨by omega,trivial⟩,by omega,V.wk⟩
 ·simp only[decide_eq_false_iff_not] at h
  rw[jiO (l:=size.zip xs) (by simp;omega)]
  have hm:InR .i64 (pz (size.zip xs)*out):=by
   have h5:0≤pz (size.zip xs)*out:=jh6 hb2.1 (by omega)
   have h6:pz (size.zip xs)*out≤6561*4:=Int.mul_le_mul (by omega) (by omega) (by omega) (by omega)
   simp only[V.InR,lo,V.hi];omega
  (conv=>whnf)
  refine V.st ?_
  exact Fin.same _
theorem pz_last {size:List Int}{out:Int}{data xs:List Int}(hg:jak size out data=true)(hx:size.length≤xs.length)(hi:∀ (k:Nat) (n x:Int),size[k]? = some n→xs[k]? = some x→0≤x∧x≤n-1) :
  0≤pz (size.zip xs)*out∧pz (size.zip xs)*out+out≤data.length:=by
 have hG:=ja2 hg
 have h1:=pz_bd (z:=size.zip xs) (fun a ha=>by
  obtain⟨j,hj⟩:=List.getElem?_of_mem ha
  rw[List.getElem?_zip_eq_some] at hj
  exact hi j _ _ hj.1 hj.2)
 rw[List.map_fst_zip (by omega)] at h1
 refine⟨jh6 h1.1 (by omega),?_⟩
 have h2:(pz (size.zip xs)+1)*out≤prod size*out:=jie h1.2 (by omega)
 rw[jit] at h2
 omega
def slot (data:List Int)(p out:Int):List Int:=(data.drop p.toNat).take out.toNat
theorem slot_copy {data:List Int}{p out:Int}(h1:0≤p)(h2:0≤out)(h3:p+out≤data.length) :
  List.take out.toNat (V.setAt (List.replicate out.toNat 0) 0 (List.take out.toNat (List.drop p.toNat (List.take (p+out).toNat data))))=slot data p out:=by
 have e1:List.take out.toNat (List.drop p.toNat (List.take (p+out).toNat data))=slot data p out:=by
  have:(p+out).toNat=p.toNat+out.toNat:=by omega
  rw[this,List.drop_take,List.take_take]
  simp[slot]
 rw[e1]
 have hl:(slot data p out).length=out.toNat:=by simp[slot];omega
 unfold V.setAt
 rw[List.take_zero,List.nil_append,jiL (by omega),jiO (by omega)]
theorem jfB (size:List Int)(out:Int)(data xs:List Int)(hg:jak size out data=true)(hx:xs.length=4)(hi:∀ (k:Nat) (n x:Int),size[k]? = some n→xs[k]? = some x→0≤x∧x≤n-1) :
  Cl 40 [gridD size out data,.iarr .i64 xs] (.ints .i64 (slot data (pz (size.zip xs)*out) out)):=by
 have hG:=ja2 hg
 have hp:=pz_last hg (by omega) hi
 refine V.en tbOk Tryz.func40 ?_
 (conv=>whnf)
 refine V.st ?_
 repeat ((try ((with_reducible refine .ext ?_);(conv=>whnf)));(with_reducible refine jaa (r:=?_) ?_ ?_);rotate_left;(focus (first|exact(place_c _ _ _ _ hg hx hi)));(conv=>whnf);refine V.st ?_)
 try refine And.intro (fun _=>⟨by omega,by simp⟩) ?_
 (conv=>whnf)
 refine V.st ?_
 exact Fin.of (by rw[slot_copy hp.1 (by omega) hp.2])
theorem jgT {data:List Int}{p out:Int}(h1:0≤p)(h2:0≤out)(h3:p+out≤data.length):(slot data p out).length=out.toNat:=by
 simp[slot];omega
theorem jdm {size xs:List Int}(h:okIdx size xs=true)(h4:size.length≤4):(pad4 xs).length=4 ∧ ∀ (k:Nat) (n x:Int),size[k]? = some n→(pad4 xs)[k]? = some x→0≤x∧x≤n-1:=by
 obtain⟨h1,h2⟩:=jaV.1 h
 refine⟨jas (by omega),fun k n x hn hx=>?_⟩
 have hk:=(jiI.1 hn).1
 unfold pad4 at hx
 rw[jiH (by omega)] at hx
 exact h2 k n x hn hx
theorem jgJ {size xs:List Int}(h:okIdx size xs=true):size.zip (pad4 xs)=size.zip xs:=by
 obtain⟨h1,h2⟩:=jaV.1 h
 unfold pad4
 have:=List.zip_append (l₁:=size) (r₁:=([]:List Int)) (l₂:=xs) (r₂:=List.replicate (4-xs.length) 0) h1.symm
 simpa using this
theorem gat_c (size:List Int)(out:Int)(data xs:List Int)(hs:size.length≤281474976710656)(hd:data.length≤281474976710656)(hx:xs.length≤281474976710656) :
  Cl 20 [gridD size out data,.ints .i64 xs] (.tup [.ints .i64 (if jak size out data && okIdx size xs then slot data (pz (size.zip xs)*out) out else []),.int .i64 (if jak size out data then (if okIdx size xs then 0 else 2) else 100)]):=by
 refine V.en tbOk Tryz.func20 ?_
 (conv=>whnf)
 refine V.st ?_
 repeat ((try ((with_reducible refine .ext ?_);(conv=>whnf)));(with_reducible refine jaa (r:=?_) ?_ ?_);rotate_left;(focus (first|exact(jdR _ _ _ hs hd)));(conv=>whnf);refine V.st ?_)
 cases hg:jak size out data with
 | false=>
  refine V.br (fun h=>?_) (fun h=>?_)
  ·(conv=>whnf)
   refine V.st ?_
   exact Fin.tup ⟨Fin.nil _,Fin.of rfl,trivial⟩
  ·simp at h
 | true=>
  have hG:=ja2 hg
  refine V.br (fun h=>?_) (fun h=>?_)
  ·simp at h
  have hpl:(if okIdx size xs=true then pad4 xs else [0,0,0,0]).length=4:=by
   split
   ·rename_i h;exact(jdm h hG.2.1).1
   ·rfl
  (conv=>whnf)
  refine V.st ?_
  repeat ((try ((with_reducible refine .ext ?_);(conv=>whnf)));(with_reducible refine jaa (r:=?_) ?_ ?_);rotate_left;(focus (first|exact(find_c _ _ _ _ hg hx)));(conv=>whnf);refine V.st ?_)
  refine V.br (fun hi=>?_) (fun hi=>?_)
  ·have hi2:okIdx size xs=false:=by simpa using hi
   (conv=>whnf)
   refine V.st ?_
   rw[hi2]
   exact Fin.tup ⟨Fin.nil _,Fin.of rfl,trivial⟩
  ·have hi2:okIdx size xs=true:=by simpa using hi
   obtain⟨hp1,hp2⟩:=jdm hi2 hG.2.1
   rw[hi2,if_pos rfl]
   (conv=>whnf)
   refine V.st ?_
   repeat ((try ((with_reducible refine .ext ?_);(conv=>whnf)));(with_reducible refine jaa (r:=?_) ?_ ?_);rotate_left;(focus (first|exact(jfB _ _ _ _ hg hp1 hp2)));(conv=>whnf);refine V.st ?_)
   rw[jgJ hi2]
   exact Fin.of rfl
end Go.Proofs.YtgjgpdceghjajaaGreatDoor
end
section
namespace Go.Proofs.YtgjgpdceghjajaaGreatDoor
open Go Go.V Go.Nb
def smF (P:Nat→Rat):Nat→Rat
 | 0=>P 0
 | k+1=>smF P k+P (k+1)
theorem fq_sm {P:Nat→Rat}{a:Nat}(h:∀ k,Fq a (P k)):∀ k,Fq ((k+1)*a+k) (smF P k)
 | 0=>(h 0).mono (by omega)
 | k+1=>((fq_sm h k).add (h (k+1))).mono (by rw[Nat.add_mul (k+1)];omega)
def gvF (zs:List Int)(out:Int)(data:List Int)(j:Nat)(i k l:Int):Rat:=(((slot data (pz (zs.zip ([i,k,l].take zs.length))*out) out).getD j 0:Int):Rat)
def evQ (zs:List Int)(out:Int)(data:List Int)(x0 x1 x2:Rat)(j:Nat):Rat:=evF (zs.getD 0 2) (zs.getD 1 2) (zs.getD 2 2) (gvF zs out data j) x0 x1 x2/65535
theorem jaI {zs:List Int}{out:Int}{data:List Int}(h:jak zs out data=true):(1≤out∧out≤4)∧(∀ z∈zs,2≤z∧z≤9)∧((data.length:Int)≤4096∧(data.length:Int)=prod zs*out) ∧ ∀ v∈data,0≤v∧v≤65535:=by
 unfold jak at h
 simp only[jh2,decide_eq_true_eq,jiy] at h
 exact⟨h.1.1.1.2,h.1.1.2,h.1.2,h.2⟩
theorem jbG {l:List Int}{p:Int→Prop}(h:∀ v∈l,p v)(h0:p 0)(j:Nat):p (l.getD j 0):=by
 by_cases hj:j<l.length
 ·rw[jiz,jiC hj]
  exact h _ (List.getElem_mem hj)
 ·rw[jiz,List.getElem?_eq_none (by omega)]
  exact h0
theorem jcs {data:List Int}(h:∀ v∈data,0≤v∧v≤65535)(p w:Int)(j:Nat):0≤(slot data p w).getD j 0∧(slot data p w).getD j 0≤65535:=
 jbG (p:=fun v=>0≤v∧v≤65535) (fun v hv=>h v (jiJ (jiK hv))) (by omega) j
theorem gat_at {zs:List Int}{out:Int}{data xs:List Int}(h:jak zs out data=true)(hi:okIdx zs xs=true)(hl:zs.length≤4)(hx:xs.length≤4):Cl 20 [gridD zs out data,.ints .i64 xs] (.tup [.ints .i64 (slot data (pz (zs.zip xs)*out) out),.int .i64 0]):=by
 have o:=jaI h
 have c:=gat_c zs out data xs (by omega) (by omega) (by omega)
 rw[h,hi] at c
 exact c
theorem jcY {zs:List Int}{out:Int}{data xs:List Int}(h:jak zs out data=true)(hi:okIdx zs xs=true):(slot data (pz (zs.zip xs)*out) out).length=out.toNat:=by
 have o:=jaI h
 unfold okIdx at hi
 simp only[jh2,decide_eq_true_eq,jiy] at hi
 have b:=pz_bd hi.2
 have e:(zs.zip xs).map (·.1)=zs:=List.map_fst_zip (by omega)
 rw[e] at b
 have h1:0≤pz (zs.zip xs)*out:=jh6 b.1 (by omega)
 have h2:pz (zs.zip xs)*out+out≤data.length:=by
  rw[o.2.2.1.2]
  have:=jie b.2 (show 0≤out by omega)
  rw[jit,jiu] at this
  exact this
 exact jgT h1 (by omega) h2
theorem ord3_mem (r0 r1 r2:Rat):ord3 r0 r1 r2=[0,1,2]∨ord3 r0 r1 r2=[0,2,1]∨ord3 r0 r1 r2=[1,0,2]∨ord3 r0 r1 r2=[1,2,0]∨ord3 r0 r1 r2=[2,0,1]∨ord3 r0 r1 r2=[2,1,0]:=by
 unfold ord3
 repeat' split
 all_goals simp
theorem ord2_mem (r0 r1:Rat):ord2 r0 r1=[0,1]∨ord2 r0 r1=[1,0]:=by
 unfold ord2
 split
 ·exact .inr rfl
 ·exact .inl rfl
theorem sp_20:spB 2 0=0∧spR 2 0=0:=by decide +kernel
theorem ord3_20 {r0 r1:Rat}(h0:0≤r0)(h1:0≤r1):ord3 r0 r1 0=ord2 r0 r1++[2]:=by
 have g0:¬ r0<0:=Rat.not_lt.2 h0
 have g1:¬ r1<0:=Rat.not_lt.2 h1
 unfold ord3 ord2
 by_cases h:r0<r1
 ·rw[if_pos h,if_neg g0,if_pos h];rfl
 ·rw[if_neg h,if_neg g1,if_neg h];rfl
theorem ord3_10 {r0:Rat}(h0:0≤r0):ord3 r0 0 0=[0,1,2]:=by
 have g0:¬ r0<0:=Rat.not_lt.2 h0
 unfold ord3
 rw[if_neg g0,if_neg (by decide +kernel)]
theorem spR_nn {s:Int}(hs:2≤s)(x:Rat):0≤spR s x:=by
 have h:=(Rat.le_floor_iff (x:=(gp s x).floor) (a:=gp s x)).1 (Int.le_refl _)
 have g:((spB s x:Int):Rat)≤(((gp s x).floor:Int):Rat):=Rat.intCast_le_intCast.2 (by unfold spB;omega)
 unfold spR
 grind
theorem jbk:(65535:Int).natAbs<10^5:=by decide
theorem jcO:((65535:Int):Rat).num≠0:=by decide
theorem valU1 (z0 b0 out:Int)(data O:List Int)(rq:Nat→Rat)(fr:∀ k,Fq 43 (rq k))(U:Nat→List Int)(ho:1≤out∧out≤4)(hU:∀ k,k<2→(U k).length=out.toNat ∧ ∀ j,0≤(U k).getD j 0∧(U k).getD j 0≤65535)(hl:O.length=1)(hx:∀ k,k<1→0≤O.getD k 0∧O.getD k 0<4)(hi:∀ k,k<1→InR .i64 ((atK [b0,0,0,0] O k).getD (O.getD k 0).toNat 0+1))
  (pt:∀ k,k<2→Cl 80 [.agg [.ints .i64 [z0],.int .i64 out,.ints .i64 data,.ints .i64 [b0],.ints .i64 O,slQ (fun k=>txq (wqN rq O 1 k)) 2],.iarr .i64 (atK [b0,0,0,0] O k)] (.tup [.ints .i64 (U k),.int .i64 0])) :
  Cl 45 [.agg [.ints .i64 [z0],.int .i64 out,.ints .i64 data,.ints .i64 [b0],.ints .i64 O,slQ (fun k=>txq (wqN rq O 1 k)) 2]] (.tup [slQ (fun j=>txq (smF (fun k=>wqN rq O 1 k*(((U k).getD j 0:Int):Rat)) 1/65535)) out.toNat,.int .i64 0]):=by
 have v1:∀ j:Nat,j<out.toNat→Cl 83 [.int .i64 (j:Int),.ref [.slf 1 2 (fun j=>List.take 1 (List.drop (j*1) [.ints .i64 (U 0),.ints .i64 (U 1)]))],.ref [slQ (fun k=>txq (wqN rq O 1 k)) 2]] (.tup [frT (smF (fun k=>wqN rq O 1 k*(((U k).getD j 0:Int):Rat)) 1/65535),.int .i64 0]):=by
  intro j hj
  have fu:=jaq (n:=65535) (by omega)
  have fm:∀ k,k<2→Fq 92 (wqN rq O 1 k*(((U k).getD j 0:Int):Rat)):=fun k hk=>(fq_wq fr O 1 k).mul (jaP (n:=5) (by have:=(hU k hk).2 j;omega) (by omega))
  have i0:=jaq (n:=(U 0).getD j 0) (by have:=(hU 0 (by omega)).2 j;omega)
  have u0:=zmul (fq_wq fr O 1 0) (jaP (n:=5) (z:=(U 0).getD j 0) (by have:=(hU 0 (by omega)).2 j;omega) (by omega)) (by decide) (by decide) (by decide)
  have m0:=prod2_0 (fun k=>txq (wqN rq O 1 k)) (fun k=>txq (wqN rq O 1 k*(((U k).getD j 0:Int):Rat))) U j _ _ (by rw[(hU 0 (by omega)).1];exact hj) i0 u0
  have i1:=jaq (n:=(U 1).getD j 0) (by have:=(hU 1 (by omega)).2 j;omega)
  have u1:=zmul (fq_wq fr O 1 1) (jaP (n:=5) (z:=(U 1).getD j 0) (by have:=(hU 1 (by omega)).2 j;omega) (by omega)) (by decide) (by decide) (by decide)
  have m1:=prod2_1 (fun k=>txq (wqN rq O 1 k)) (fun k=>txq (wqN rq O 1 k*(((U k).getD j 0:Int):Rat))) U j _ _ (by rw[(hU 1 (by omega)).1];exact hj) i1 u1
  have li:=list2_3 (fun k=>txq (wqN rq O 1 k*(((U k).getD j 0:Int):Rat))) m0 m1
  have s0:Fq 92 (smF (fun k=>wqN rq O 1 k*(((U k).getD j 0:Int):Rat)) 0):=fm 0 (by omega)
  have s1:Fq 185 (smF (fun k=>wqN rq O 1 k*(((U k).getD j 0:Int):Rat)) 1):=s0.add (fm 1 (by omega))
  have su:=sum2 (fun k=>txq (wqN rq O 1 k*(((U k).getD j 0:Int):Rat))) (fun k=>txq (smF (fun k=>wqN rq O 1 k*(((U k).getD j 0:Int):Rat)) k)) rfl (zadd s0 (fm 1 (by omega)) (by decide) (by decide) (by decide))
  have dv:=zdiv s1 (jaP (n:=5) (z:=65535) jbk (by decide)) jcO (by decide) (by decide) (by decide)
  rw[show ((65535:Int):Rat)=65535 from rfl] at fu dv
  exact val1_2 (fun k=>txq (wqN rq O 1 k)) (fun k=>txq (wqN rq O 1 k*(((U k).getD j 0:Int):Rat))) (fun k=>txq (smF (fun k=>wqN rq O 1 k*(((U k).getD j 0:Int):Rat)) k)) U j _ _ _ _ li su fu dv
 refine value1_t z0 b0 out data O (fun k=>txq (wqN rq O 1 k)) U _ _ hl hx hi pt ?_
 have h4:out=1∨out=2∨out=3∨out=4:=by omega
 rcases h4 with e|e|e|e<;>subst e
 ·exact jhk (z:=0) (fun j=>txq (smF (fun k=>wqN rq O 1 k*(((U k).getD j 0:Int):Rat)) 1/65535)) (v1 0 (by decide))
 ·exact jhj (z:=0) (fun j=>txq (smF (fun k=>wqN rq O 1 k*(((U k).getD j 0:Int):Rat)) 1/65535)) (v1 0 (by decide)) (v1 1 (by decide))
 ·exact jhi (z:=0) (fun j=>txq (smF (fun k=>wqN rq O 1 k*(((U k).getD j 0:Int):Rat)) 1/65535)) (v1 0 (by decide)) (v1 1 (by decide)) (v1 2 (by decide))
 ·exact jhh (z:=0) (fun j=>txq (smF (fun k=>wqN rq O 1 k*(((U k).getD j 0:Int):Rat)) 1/65535)) (v1 0 (by decide)) (v1 1 (by decide)) (v1 2 (by decide)) (v1 3 (by decide))
theorem valU2 (z0 z1 b0 b1 out:Int)(data O:List Int)(rq:Nat→Rat)(fr:∀ k,Fq 43 (rq k))(U:Nat→List Int)(ho:1≤out∧out≤4)(hU:∀ k,k<3→(U k).length=out.toNat ∧ ∀ j,0≤(U k).getD j 0∧(U k).getD j 0≤65535)(hl:O.length=2)(hx:∀ k,k<2→0≤O.getD k 0∧O.getD k 0<4)(hi:∀ k,k<2→InR .i64 ((atK [b0,b1,0,0] O k).getD (O.getD k 0).toNat 0+1))
  (pt:∀ k,k<3→Cl 80 [.agg [.ints .i64 [z0,z1],.int .i64 out,.ints .i64 data,.ints .i64 [b0,b1],.ints .i64 O,slQ (fun k=>txq (wqN rq O 2 k)) 3],.iarr .i64 (atK [b0,b1,0,0] O k)] (.tup [.ints .i64 (U k),.int .i64 0])) :
  Cl 45 [.agg [.ints .i64 [z0,z1],.int .i64 out,.ints .i64 data,.ints .i64 [b0,b1],.ints .i64 O,slQ (fun k=>txq (wqN rq O 2 k)) 3]] (.tup [slQ (fun j=>txq (smF (fun k=>wqN rq O 2 k*(((U k).getD j 0:Int):Rat)) 2/65535)) out.toNat,.int .i64 0]):=by
 have v1:∀ j:Nat,j<out.toNat→Cl 83 [.int .i64 (j:Int),.ref [.slf 1 3 (fun j=>List.take 1 (List.drop (j*1) [.ints .i64 (U 0),.ints .i64 (U 1),.ints .i64 (U 2)]))],.ref [slQ (fun k=>txq (wqN rq O 2 k)) 3]] (.tup [frT (smF (fun k=>wqN rq O 2 k*(((U k).getD j 0:Int):Rat)) 2/65535),.int .i64 0]):=by
  intro j hj
  have fu:=jaq (n:=65535) (by omega)
  have fm:∀ k,k<3→Fq 92 (wqN rq O 2 k*(((U k).getD j 0:Int):Rat)):=fun k hk=>(fq_wq fr O 2 k).mul (jaP (n:=5) (by have:=(hU k hk).2 j;omega) (by omega))
  have i0:=jaq (n:=(U 0).getD j 0) (by have:=(hU 0 (by omega)).2 j;omega)
  have u0:=zmul (fq_wq fr O 2 0) (jaP (n:=5) (z:=(U 0).getD j 0) (by have:=(hU 0 (by omega)).2 j;omega) (by omega)) (by decide) (by decide) (by decide)
  have m0:=prod3_0 (fun k=>txq (wqN rq O 2 k)) (fun k=>txq (wqN rq O 2 k*(((U k).getD j 0:Int):Rat))) U j _ _ (by rw[(hU 0 (by omega)).1];exact hj) i0 u0
  have i1:=jaq (n:=(U 1).getD j 0) (by have:=(hU 1 (by omega)).2 j;omega)
  have u1:=zmul (fq_wq fr O 2 1) (jaP (n:=5) (z:=(U 1).getD j 0) (by have:=(hU 1 (by omega)).2 j;omega) (by omega)) (by decide) (by decide) (by decide)
  have m1:=prod3_1 (fun k=>txq (wqN rq O 2 k)) (fun k=>txq (wqN rq O 2 k*(((U k).getD j 0:Int):Rat))) U j _ _ (by rw[(hU 1 (by omega)).1];exact hj) i1 u1
  have i2:=jaq (n:=(U 2).getD j 0) (by have:=(hU 2 (by omega)).2 j;omega)
  have u2:=zmul (fq_wq fr O 2 2) (jaP (n:=5) (z:=(U 2).getD j 0) (by have:=(hU 2 (by omega)).2 j;omega) (by omega)) (by decide) (by decide) (by decide)
  have m2:=prod3_2 (fun k=>txq (wqN rq O 2 k)) (fun k=>txq (wqN rq O 2 k*(((U k).getD j 0:Int):Rat))) U j _ _ (by rw[(hU 2 (by omega)).1];exact hj) i2 u2
  have li:=list3_3 (fun k=>txq (wqN rq O 2 k*(((U k).getD j 0:Int):Rat))) m0 m1 m2
  have s0:Fq 92 (smF (fun k=>wqN rq O 2 k*(((U k).getD j 0:Int):Rat)) 0):=fm 0 (by omega)
  have s1:Fq 185 (smF (fun k=>wqN rq O 2 k*(((U k).getD j 0:Int):Rat)) 1):=s0.add (fm 1 (by omega))
  have s2:Fq 278 (smF (fun k=>wqN rq O 2 k*(((U k).getD j 0:Int):Rat)) 2):=s1.add (fm 2 (by omega))
  have su:=sum3 (fun k=>txq (wqN rq O 2 k*(((U k).getD j 0:Int):Rat))) (fun k=>txq (smF (fun k=>wqN rq O 2 k*(((U k).getD j 0:Int):Rat)) k)) rfl (zadd s0 (fm 1 (by omega)) (by decide) (by decide) (by decide)) (zadd s1 (fm 2 (by omega)) (by decide) (by decide) (by decide))
  have dv:=zdiv s2 (jaP (n:=5) (z:=65535) jbk (by decide)) jcO (by decide) (by decide) (by decide)
  rw[show ((65535:Int):Rat)=65535 from rfl] at fu dv
  exact val1_3 (fun k=>txq (wqN rq O 2 k)) (fun k=>txq (wqN rq O 2 k*(((U k).getD j 0:Int):Rat))) (fun k=>txq (smF (fun k=>wqN rq O 2 k*(((U k).getD j 0:Int):Rat)) k)) U j _ _ _ _ li su fu dv
 refine value2_t z0 z1 b0 b1 out data O (fun k=>txq (wqN rq O 2 k)) U _ _ hl hx hi pt ?_
 have h4:out=1∨out=2∨out=3∨out=4:=by omega
 rcases h4 with e|e|e|e<;>subst e
 ·exact jhk (z:=0) (fun j=>txq (smF (fun k=>wqN rq O 2 k*(((U k).getD j 0:Int):Rat)) 2/65535)) (v1 0 (by decide))
 ·exact jhj (z:=0) (fun j=>txq (smF (fun k=>wqN rq O 2 k*(((U k).getD j 0:Int):Rat)) 2/65535)) (v1 0 (by decide)) (v1 1 (by decide))
 ·exact jhi (z:=0) (fun j=>txq (smF (fun k=>wqN rq O 2 k*(((U k).getD j 0:Int):Rat)) 2/65535)) (v1 0 (by decide)) (v1 1 (by decide)) (v1 2 (by decide))
 ·exact jhh (z:=0) (fun j=>txq (smF (fun k=>wqN rq O 2 k*(((U k).getD j 0:Int):Rat)) 2/65535)) (v1 0 (by decide)) (v1 1 (by decide)) (v1 2 (by decide)) (v1 3 (by decide))
theorem valU3 (z0 z1 z2 b0 b1 b2 out:Int)(data O:List Int)(rq:Nat→Rat)(fr:∀ k,Fq 43 (rq k))(U:Nat→List Int)(ho:1≤out∧out≤4)(hU:∀ k,k<4→(U k).length=out.toNat ∧ ∀ j,0≤(U k).getD j 0∧(U k).getD j 0≤65535)(hl:O.length=3)(hx:∀ k,k<3→0≤O.getD k 0∧O.getD k 0<4)(hi:∀ k,k<3→InR .i64 ((atK [b0,b1,b2,0] O k).getD (O.getD k 0).toNat 0+1))
  (pt:∀ k,k<4→Cl 80 [.agg [.ints .i64 [z0,z1,z2],.int .i64 out,.ints .i64 data,.ints .i64 [b0,b1,b2],.ints .i64 O,slQ (fun k=>txq (wqN rq O 3 k)) 4],.iarr .i64 (atK [b0,b1,b2,0] O k)] (.tup [.ints .i64 (U k),.int .i64 0])) :
  Cl 45 [.agg [.ints .i64 [z0,z1,z2],.int .i64 out,.ints .i64 data,.ints .i64 [b0,b1,b2],.ints .i64 O,slQ (fun k=>txq (wqN rq O 3 k)) 4]] (.tup [slQ (fun j=>txq (smF (fun k=>wqN rq O 3 k*(((U k).getD j 0:Int):Rat)) 3/65535)) out.toNat,.int .i64 0]):=by
 have v1:∀ j:Nat,j<out.toNat→Cl 83 [.int .i64 (j:Int),.ref [.slf 1 4 (fun j=>List.take 1 (List.drop (j*1) [.ints .i64 (U 0),.ints .i64 (U 1),.ints .i64 (U 2),.ints .i64 (U 3)]))],.ref [slQ (fun k=>txq (wqN rq O 3 k)) 4]] (.tup [frT (smF (fun k=>wqN rq O 3 k*(((U k).getD j 0:Int):Rat)) 3/65535),.int .i64 0]):=by
  intro j hj
  have fu:=jaq (n:=65535) (by omega)
  have fm:∀ k,k<4→Fq 92 (wqN rq O 3 k*(((U k).getD j 0:Int):Rat)):=fun k hk=>(fq_wq fr O 3 k).mul (jaP (n:=5) (by have:=(hU k hk).2 j;omega) (by omega))
  have i0:=jaq (n:=(U 0).getD j 0) (by have:=(hU 0 (by omega)).2 j;omega)
  have u0:=zmul (fq_wq fr O 3 0) (jaP (n:=5) (z:=(U 0).getD j 0) (by have:=(hU 0 (by omega)).2 j;omega) (by omega)) (by decide) (by decide) (by decide)
  have m0:=prod4_0 (fun k=>txq (wqN rq O 3 k)) (fun k=>txq (wqN rq O 3 k*(((U k).getD j 0:Int):Rat))) U j _ _ (by rw[(hU 0 (by omega)).1];exact hj) i0 u0
  have i1:=jaq (n:=(U 1).getD j 0) (by have:=(hU 1 (by omega)).2 j;omega)
  have u1:=zmul (fq_wq fr O 3 1) (jaP (n:=5) (z:=(U 1).getD j 0) (by have:=(hU 1 (by omega)).2 j;omega) (by omega)) (by decide) (by decide) (by decide)
  have m1:=prod4_1 (fun k=>txq (wqN rq O 3 k)) (fun k=>txq (wqN rq O 3 k*(((U k).getD j 0:Int):Rat))) U j _ _ (by rw[(hU 1 (by omega)).1];exact hj) i1 u1
  have i2:=jaq (n:=(U 2).getD j 0) (by have:=(hU 2 (by omega)).2 j;omega)
  have u2:=zmul (fq_wq fr O 3 2) (jaP (n:=5) (z:=(U 2).getD j 0) (by have:=(hU 2 (by omega)).2 j;omega) (by omega)) (by decide) (by decide) (by decide)
  have m2:=prod4_2 (fun k=>txq (wqN rq O 3 k)) (fun k=>txq (wqN rq O 3 k*(((U k).getD j 0:Int):Rat))) U j _ _ (by rw[(hU 2 (by omega)).1];exact hj) i2 u2
  have i3:=jaq (n:=(U 3).getD j 0) (by have:=(hU 3 (by omega)).2 j;omega)
  have u3:=zmul (fq_wq fr O 3 3) (jaP (n:=5) (z:=(U 3).getD j 0) (by have:=(hU 3 (by omega)).2 j;omega) (by omega)) (by decide) (by decide) (by decide)
  have m3:=prod4_3 (fun k=>txq (wqN rq O 3 k)) (fun k=>txq (wqN rq O 3 k*(((U k).getD j 0:Int):Rat))) U j _ _ (by rw[(hU 3 (by omega)).1];exact hj) i3 u3
  have li:=list4_3 (fun k=>txq (wqN rq O 3 k*(((U k).getD j 0:Int):Rat))) m0 m1 m2 m3
  have s0:Fq 92 (smF (fun k=>wqN rq O 3 k*(((U k).getD j 0:Int):Rat)) 0):=fm 0 (by omega)
  have s1:Fq 185 (smF (fun k=>wqN rq O 3 k*(((U k).getD j 0:Int):Rat)) 1):=s0.add (fm 1 (by omega))
  have s2:Fq 278 (smF (fun k=>wqN rq O 3 k*(((U k).getD j 0:Int):Rat)) 2):=s1.add (fm 2 (by omega))
  have s3:Fq 371 (smF (fun k=>wqN rq O 3 k*(((U k).getD j 0:Int):Rat)) 3):=s2.add (fm 3 (by omega))
  have su:=sum4 (fun k=>txq (wqN rq O 3 k*(((U k).getD j 0:Int):Rat))) (fun k=>txq (smF (fun k=>wqN rq O 3 k*(((U k).getD j 0:Int):Rat)) k)) rfl (zadd s0 (fm 1 (by omega)) (by decide) (by decide) (by decide)) (zadd s1 (fm 2 (by omega)) (by decide) (by decide) (by decide)) (zadd s2 (fm 3 (by omega)) (by decide) (by decide) (by decide))
  have dv:=zdiv s3 (jaP (n:=5) (z:=65535) jbk (by decide)) jcO (by decide) (by decide) (by decide)
  rw[show ((65535:Int):Rat)=65535 from rfl] at fu dv
  exact val1_4 (fun k=>txq (wqN rq O 3 k)) (fun k=>txq (wqN rq O 3 k*(((U k).getD j 0:Int):Rat))) (fun k=>txq (smF (fun k=>wqN rq O 3 k*(((U k).getD j 0:Int):Rat)) k)) U j _ _ _ _ li su fu dv
 refine value3_t z0 z1 z2 b0 b1 b2 out data O (fun k=>txq (wqN rq O 3 k)) U _ _ hl hx hi pt ?_
 have h4:out=1∨out=2∨out=3∨out=4:=by omega
 rcases h4 with e|e|e|e<;>subst e
 ·exact jhk (z:=0) (fun j=>txq (smF (fun k=>wqN rq O 3 k*(((U k).getD j 0:Int):Rat)) 3/65535)) (v1 0 (by decide))
 ·exact jhj (z:=0) (fun j=>txq (smF (fun k=>wqN rq O 3 k*(((U k).getD j 0:Int):Rat)) 3/65535)) (v1 0 (by decide)) (v1 1 (by decide))
 ·exact jhi (z:=0) (fun j=>txq (smF (fun k=>wqN rq O 3 k*(((U k).getD j 0:Int):Rat)) 3/65535)) (v1 0 (by decide)) (v1 1 (by decide)) (v1 2 (by decide))
 ·exact jhh (z:=0) (fun j=>txq (smF (fun k=>wqN rq O 3 k*(((U k).getD j 0:Int):Rat)) 3/65535)) (v1 0 (by decide)) (v1 1 (by decide)) (v1 2 (by decide)) (v1 3 (by decide))
end Go.Proofs.YtgjgpdceghjajaaGreatDoor
end
