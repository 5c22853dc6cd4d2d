/- What functions of the program answer at given values, part 8. Conditions: those that each theorem names. -/
import Derived.Test.YtbnghipgicmpdaaGreatDoorSimplexBandsH7
import Derived.Test.YtbnghipgicmpdaaGreatDoorSimplexBandsH5
import Derived.Test.YtbnghipgicmpdaaGreatDoorSimplexBandsH4
import Derived.Test.YtbnghipgicmpdaaGreatDoorSimplexBandsH6
set_option linter.unusedSimpArgs false
set_option linter.unusedVariables false
set_option maxHeartbeats 8000000
set_option maxRecDepth 100000
section
namespace Go.Proofs.YtbnghipgicmpdaaGreatDoor
open Go Go.V Go.Nb
theorem ji0:type_of% @jjC∧type_of% @tn0∧type_of% @tn1∧type_of% @tn2∧type_of% @tn3:=⟨@jjC,@tn0,@tn1,@tn2,@tn3⟩
theorem jjc:type_of% @jjF∧type_of% @jjC∧type_of% @tns:=⟨@jjF,@jjC,@tns⟩
theorem jjg:type_of% @jkw ∧ type_of% @jjC:=⟨@jkw,@jjC⟩
theorem find2_t (z0 z1 out b0 b1:Int)(data:List Int)(x0 y0 x1 y1 o0 o1:List UInt8)(R Bf W:Nat→Tx)
  (sp0:Cl 132 [.agg [.str x0,.str y0],Ji z0] (.tup [Ji b0,Jt (R 0),Ji 0]))
  (sp1:Cl 132 [.agg [.str x1,.str y1],Ji z1] (.tup [Ji b1,Jt (R 1),Ji 0]))
  (io:Cl 88 [Ji 1] (.agg [.str o0,.str o1])) (w:Int→Int→Int) (cm:∀ a b:Nat,a<2→b<2→Cl 134 [Ji a,Ji b,.ref [V.sl2 2 [.str (R 0).1,.str (R 0).2,.str (R 1).1,.str (R 1).2]]] (Ji (w a b)))
  (hBf0:Bf 0=(o0,o1)) (hBf:∀ k,k<2→Bf (k+1)=R ((isoK w [0,1] (2-1)).getD k 0).toNat) (sb:∀ k,k<2→Cl 104 [Jt (Bf k),.agg [.str (R ((isoK w [0,1] (2-1)).getD k 0).toNat).1,.str (R ((isoK w [0,1] (2-1)).getD k 0).toNat).2]] (.tup [Jt (W k),Ji 0])) :
  Cl 73 [.agg [Jj [z0,z1],Ji out,Jj data],V.sl2 2 [.str x0,.str y0,.str x1,.str y1]] (.tup [.agg [Jj [z0,z1],Ji out,Jj data,Jj [b0,b1],Jj (isoK w [0,1] (2-1)),V.sl2 3 [.str (W 0).1,.str (W 0).2,.str (W 1).1,.str (W 1).2,.str (Bf 2).1,.str (Bf 2).2]],Ji 0]):=by
  refine V.en tbOk Tryz.func73 ?_
  refine V.r0 @jjC ?_
  refine⟨Pq58z,[],V.pok,?_⟩
  refine jab [(6,.box 6 0),(17,.osl 17 0 2),(20,.osl 20 0 2)] [(6,.box [Jj [z0,z1],Ji out,Jj data,.osl 17 0 2,.osl 20 0 2,.nil]),(17,.arr .i64 [0,0]),(20,.arr .i64 [0,0])] ?_ ?_
  ·exact V.d0 @jjC
  refine V.r0 @jjC ?_
  refine V.il Tryz.func84 ?_
  refine V.r0 @jjC ?_
  refine jad (0) (fun k=>k≤2) (fun k=>2-k) (fun k=>[(14,Ji k)]) (fun k=>[(88,.box (preD (2*k) [.str (R 0).1,.str (R 0).2,.str (R 1).1,.str (R 1).2])),(17,.arr .i64 (preZ k [b0,b1])),(20,.arr .i64 (preZ k [0,1]))]) ?_ ?_ ?_
  ·exact V.wk
  ·exact jjx _
  intro k hk
  have hk4:k=0∨k=1∨k=2:=Jo
  rcases hk4 with e|e|e
  all_goals subst e
  ·simp only[k0]
   have q1:(preZ 0 [b0,b1]).length=2:=rfl
   have q2:(preZ 0 [0,1]).length=2:=rfl
   refine V.r0 ji0 ?_
   refine V.il Tryz.func131 ?_
   refine V.r0 ji0 ?_
   refine⟨Pq24z,[],V.pok,?_⟩
   refine jab [(8,.box 118 0),(7,Ji b0),(9,Ji 0)] [(118,.box [.str (R 0).1,.str (R 0).2])] ?_ ?_
   ·exact V.d1 ji0 sp0
   refine V.r0 ji0 ?_
   refine⟨Pq26z,[],V.pok,?_⟩
   refine jab [] [(17,.arr .i64 (preZ 1 [b0,b1])),(20,.arr .i64 (preZ 1 [0,1]))] ?_ ?_
   ·exact V.d0 ji0
   refine V.r0 ji0 ?_
   exact⟨1,Jo,Jo,V.wk⟩
  ·simp only[k1]
   have q1:(preZ 1 [b0,b1]).length=2:=rfl
   have q2:(preZ 1 [0,1]).length=2:=rfl
   refine V.r0 ji0 ?_
   refine V.il Tryz.func131 ?_
   refine V.r0 ji0 ?_
   refine⟨Pq24z,[],V.pok,?_⟩
   refine jab [(8,.box 118 0),(7,Ji b1),(9,Ji 0)] [(118,.box [.str (R 1).1,.str (R 1).2])] ?_ ?_
   ·exact V.d1 ji0 sp1
   refine V.r0 ji0 ?_
   refine⟨Pq26z,[],V.pok,?_⟩
   refine jab [] [(17,.arr .i64 (preZ 2 [b0,b1])),(20,.arr .i64 (preZ 2 [0,1]))] ?_ ?_
   ·exact V.d0 ji0
   refine V.r0 ji0 ?_
   exact⟨2,Jo,Jo,V.wk⟩
  ·simp only[k2]
   (conv=>whnf)
   repeat ((fail_if_success (with_reducible refine Cnd.split ?_));refine V.s1 ?_;(try simp only[jjC]))
   refine V.s1 ?_
   (conv=>whnf)
   repeat ((fail_if_success (with_reducible refine Cnd.split ?_));refine V.s1 ?_;(try simp only[jjC]))
   refine ja5 [(7,.ref [V.sl2 2 [.str (R 0).1,.str (R 0).2,.str (R 1).1,.str (R 1).2]]),(22,.any),(26,.any),(27,.any)] [(7,.gone),(88,.gone)] (CondB.mk (fun h=>absurd h Jd) (fun _=>?_)) ?_
   ·(conv=>whnf)
    refine Wk.pub 88 ?_
    (conv=>whnf)
    refine Wk.pub 7 ?_
    (conv=>whnf)
    simp only[jjC]
    exact V.wk
   refine V.r0 @jjC ?_
   refine V.il Tryz.func133 ?_
   refine V.r0 @jjC ?_
   refine V.il Tryz.func182 ?_
   refine V.r0 @jjC ?_
   refine jad (0) (fun k=>k=0) (fun k=>k) (fun k=>[(7,Ji 0),(8,Ji 20)]) (fun k=>[]) ?_ ?_ ?_
   ·exact V.wk
   ·rfl
   intro k hk
   refine V.r0 @jjC ?_
   refine V.il Tryz.func216 ?_
   refine V.r0 @jjC ?_
   refine jad (0) (fun k=>k+1≤2) (fun k=>2-k) (fun k=>[(8,Ji ((k+1:Nat):Int))]) (fun k=>[(20,.arr .i64 (isoK w [0,1] k))]) ?_ ?_ ?_
   ·exact V.wk
   ·omega
   clear hk
   intro k hk
   have hB:=jhe w (n:=2) (xs:=[0,1]) ⟨rfl,fun i hi=>by
    have:i=0∨i=1∨i=2:=Jo
    rcases this with e|e|e<;>subst e<;>first|decide|omega⟩ k Jo
   refine V.r0 @jjC ?_
   refine V.br (fun hq=>?_) (fun hq=>?_)
   ·have hk2:k+1<2:=by simp at hq;omega
    refine V.r0 @jjC ?_
    refine jad ((k+1,isoK w [0,1] k):Nat×List Int) (fun s=>s.1≤k+1∧Bel 2 s.2∧insJ w s.1 s.2=isoK w [0,1] (k+1)) (fun s=>s.1) (fun s=>[(9,Ji s.1)]) (fun s=>[(20,.arr .i64 s.2)]) ?_ ?_ ?_
    ·exact V.wk
    ·exact⟨jjG _,hB,rfl⟩
    rintro⟨j,xs⟩ ⟨h1,h2,h3⟩
    dsimp only at h1 h2 h3 ⊢
    have hl:=h2.1
    refine V.r0 @jjC ?_
    have c1:(decide ((j:Int)>0)=true)→Cl 134 [Ji (xs.getD j 0),Ji (xs.getD (j-1) 0),.ref [V.sl2 2 [.str (R 0).1,.str (R 0).2,.str (R 1).1,.str (R 1).2]]] (Ji (w (xs.getD j 0) (xs.getD (j-1) 0))):=fun h=>by
     have hj:(j:Int)>0:=of_decide_eq_true h
     have g1:=h2.2 j Jo
     have g2:=h2.2 (j-1) Jo
     have c:=cm (xs.getD j 0).toNat (xs.getD (j-1) 0).toNat Jo Jo
     rw[jjE g1.1,jjE g2.1] at c
     exact c
    refine⟨Pq11z,[],V.pok,?_⟩
    refine jab [(34,.bool (decide ((j:Int)>0) && decide (w (xs.getD j 0) (xs.getD (j-1) 0)<0)))] [] ?_ ?_
    ·(conv=>whnf);(try simp only[jjc])
     repeat' (first|exact V.wk|((with_reducible refine And.intro ?_ jaz);(conv=>whnf);(try simp only[jjc]))|((with_reducible first|refine jas ?_ ?_|refine jau ?_ ?_)<;>(conv=>whnf);(try simp only[jjc]))|((first|refine V.s1 ?_|((with_reducible refine jal ?_ ?_);(focus ((conv=>whnf);(try simp only[jjc]);(repeat ((first|refine V.s1 ?_|((refine⟨_,c1,?_⟩);(conv=>whnf)));(try simp only[jjc])));exact⟨rfl⟩));(conv=>whnf))|((try ((with_reducible refine .ext ?_);(conv=>whnf);(try simp only[jjc])));(with_reducible refine jaa (r:=?_) ?_ ?_);rotate_left;(focus (first|fail));(conv=>whnf))|((refine⟨_,c1,?_⟩);(conv=>whnf)));(try simp only[jjc]))|(refine And.intro ?_ ?_<;>(conv=>whnf);(try simp only[jjc])))
    refine V.r0 @jjC ?_
    refine V.br (fun hq2=>?_) (fun hq2=>?_)
    ·have hj:0<j∧w (xs.getD j 0) (xs.getD (j-1) 0)<0:=by
      rw[jjv,decide_eq_true_eq,decide_eq_true_eq] at hq2
      omega
     obtain⟨i,rfl⟩:∃ i,j=i+1:=⟨j-1,Jo⟩
     rw[show i+1-1=i by omega] at hj
     have hw:=jeQ h2 (show i+1<2 by omega)
     have e1:((i+1:Nat):Int).toNat=i+1:=Jo
     have e2:(((i+1:Nat):Int)-1).toNat=i:=Jo
     have e3:((i+1:Nat):Int)-1=(i:Int):=Jo
     have e4:(i:Int).toNat=i:=Jo
     have h3':insJ w i ((xs.set (i+1) (xs.getD i 0)).set i (xs.getD (i+1) 0))=isoK w [0,1] (k+1):=by
      rw[← h3]
      simp only[insJ]
      rw[if_pos hj.2]
     refine V.r0 @jjC ?_
     refine⟨Pq8z,[],V.pok,?_⟩
     refine jab [] [(20,.arr .i64 ((xs.set (i+1) (xs.getD i 0)).set i (xs.getD (i+1) 0)))] ?_ ?_
     ·(conv=>whnf);(try simp only[jjg,e1,e2,e3,e4])
      repeat' (first|exact V.wk|((with_reducible refine And.intro ?_ jaz);(conv=>whnf);(try simp only[jjg,e1,e2,e3,e4]))|((with_reducible first|refine jas ?_ ?_|refine jau ?_ ?_)<;>(conv=>whnf);(try simp only[jjg,e1,e2,e3,e4]))|((first|refine V.s1 ?_|((with_reducible refine jal ?_ ?_);(focus ((conv=>whnf);(try simp only[jjg,e1,e2,e3,e4]);(repeat ((first|refine V.s1 ?_);(try simp only[jjg,e1,e2,e3,e4])));exact⟨rfl⟩));(conv=>whnf)));(try simp only[jjg,e1,e2,e3,e4]))|(refine And.intro ?_ ?_<;>(conv=>whnf);(try simp only[jjg,e1,e2,e3,e4])))
     refine V.r0 (V.a2 @jjC e3) ?_
     exact⟨(i,(xs.set (i+1) (xs.getD i 0)).set i (xs.getD (i+1) 0)),⟨by dsimp only;omega,hw,h3'⟩,by dsimp only;omega,V.wk⟩
    ·have hx:isoK w [0,1] (k+1)=xs:=by
      rw[← h3]
      cases j with
      | zero=>rfl
      | succ i=>
       simp only[insJ]
       rw[if_neg]
       intro h
       rw[Bool.and_eq_false_iff,decide_eq_false_iff_not,decide_eq_false_iff_not,show i+1-1=i by omega] at hq2
       omega
     refine V.r0 @jjC ?_
     refine⟨k+1,Jo,Jo,?_⟩
     rw[hx]
     exact V.wk
   have hk2:k+1=2:=by simp at hq;omega
   have hk3:k=2-1:=Jo
   subst hk3
   refine V.r0 @jjC ?_
   refine jad (0) (fun k=>k=0) (fun k=>k) (fun k=>[(6,Ji 20)]) (fun k=>[]) ?_ ?_ ?_
   ·exact V.wk
   ·rfl
   clear hk
   intro k hk
   refine V.r0 @jjC ?_
   obtain⟨xs,hxs⟩:∃ xs,isoK w [0,1] (2-1)=xs:=⟨_,rfl⟩
   rw[hxs] at hB ⊢
   have hl:=hB.1
   refine V.r1 @jjC io ?_
   have hr:∀ m,m<2→List.take 2 (List.drop (m*2) ([.str (R 0).1,.str (R 0).2,.str (R 1).1,.str (R 1).2]:List D))=[.str (R m).1,.str (R m).2]:=fun m hm=>by
    have:m=0∨m=1∨m=2:=Jo
    rcases this with e|e|e<;>subst e<;>first|rfl|omega
   have e0:=hr (xs.getD 0 0).toNat (by have:=hB.2 0 Jo;omega)
   have g0:=hB.2 0 Jo
   have sb0:=sb 0 Jo
   have hb0:=hBf 0 Jo
   rw[hxs] at sb0 hb0
   have e1:=hr (xs.getD 1 0).toNat (by have:=hB.2 1 Jo;omega)
   have g1:=hB.2 1 Jo
   have sb1:=sb 1 Jo
   have hb1:=hBf 1 Jo
   rw[hxs] at sb1 hb1
   have hb':(Bf 0).1=o0∧(Bf 0).2=o1:=by rw[hBf0];exact⟨rfl,rfl⟩
   refine jad 0 (fun k=>k≤2) (fun k=>2-k) (fun k=>[(41,Ji k)]) (fun k=>(9,.box [.str (Bf k).1,.str (Bf k).2])::(6,.box [Jj [z0,z1],Ji out,Jj data,.osl 17 0 2,.osl 20 0 2,wcl k])::wch W k) ?_ ?_ ?_
   ·rw[hb'.1,hb'.2]
    exact V.wk
   ·exact jjx _
   clear hk
   intro k hk
   have hk4:k=0∨k=1∨k=2:=Jo
   rcases hk4 with e|e|e
   all_goals subst e
   ·simp only[k0,wcl,wch]
    refine V.r0 ji0 ?_
    refine⟨Pq45z,[],V.pok,?_⟩
    refine jab [(12,.box 12 0),(13,Ji 0)] [(12,.box [.str (W 0).1,.str (W 0).2])] ?_ ?_
    ·(conv=>whnf);(try simp only[jjC])
     repeat' (first|exact V.wk|((with_reducible refine And.intro ?_ jaz);(conv=>whnf);(try simp only[jjC]))|((with_reducible first|refine jas ?_ ?_|refine jau ?_ ?_)<;>(conv=>whnf);(try simp only[jjC]))|((first|refine V.s1 ?_|((with_reducible refine jal ?_ ?_);(focus ((conv=>whnf);(try simp only[jjC]);(repeat ((first|refine V.s1 ?_|((simp only[e0]);(conv=>whnf)));(try simp only[jjC])));exact⟨rfl⟩));(conv=>whnf))|((try ((with_reducible refine .ext ?_);(conv=>whnf);(try simp only[jjC])));(with_reducible refine jaa (r:=?_) ?_ ?_);rotate_left;(focus (first|exact(sb0)));(conv=>whnf))|((simp only[e0]);(conv=>whnf)));(try simp only[jjC]))|(refine And.intro ?_ ?_<;>(conv=>whnf);(try simp only[jjC])))
    (conv=>whnf)
    (try simp only[jjC])
    repeat ((first|refine V.s1 ?_|((try ((with_reducible refine .ext ?_);(conv=>whnf);(try simp only[jjC])));(with_reducible refine jaa (r:=?_) ?_ ?_);rotate_left;(focus (first|fail));(conv=>whnf))|((simp only[e0]);(conv=>whnf)));(try simp only[jjC]))
    refine⟨1,Jo,Jo,?_⟩
    rw[hb0]
    exact V.wk
   ·simp only[k1,wcl,wch]
    refine V.r0 ji0 ?_
    refine⟨Pq45z,[],V.pok,?_⟩
    refine jab [(12,.box 12 0),(13,Ji 0)] [(12,.box [.str (W 1).1,.str (W 1).2])] ?_ ?_
    ·(conv=>whnf);(try simp only[jjC])
     repeat' (first|exact V.wk|((with_reducible refine And.intro ?_ jaz);(conv=>whnf);(try simp only[jjC]))|((with_reducible first|refine jas ?_ ?_|refine jau ?_ ?_)<;>(conv=>whnf);(try simp only[jjC]))|((first|refine V.s1 ?_|((with_reducible refine jal ?_ ?_);(focus ((conv=>whnf);(try simp only[jjC]);(repeat ((first|refine V.s1 ?_|((simp only[e1]);(conv=>whnf)));(try simp only[jjC])));exact⟨rfl⟩));(conv=>whnf))|((try ((with_reducible refine .ext ?_);(conv=>whnf);(try simp only[jjC])));(with_reducible refine jaa (r:=?_) ?_ ?_);rotate_left;(focus (first|exact(sb1)));(conv=>whnf))|((simp only[e1]);(conv=>whnf)));(try simp only[jjC]))|(refine And.intro ?_ ?_<;>(conv=>whnf);(try simp only[jjC])))
    (conv=>whnf)
    (try simp only[jjC])
    repeat ((first|refine V.s1 ?_|((try ((with_reducible refine .ext ?_);(conv=>whnf);(try simp only[jjC])));(with_reducible refine jaa (r:=?_) ?_ ?_);rotate_left;(focus (first|fail));(conv=>whnf))|((simp only[e1]);(conv=>whnf)));(try simp only[jjC]))
    refine⟨2,Jo,Jo,?_⟩
    rw[hb1]
    exact V.wk
   ·simp only[k2,wcl,wch]
    have ht:List.take 2 xs=xs:=jko Jo
    refine V.r0 (V.a2 @jjC ht) ?_
    rw[← hxs]
    exact Fin.of rfl
theorem jiS:type_of% @jjC∧type_of% @tn0∧type_of% @tn1∧type_of% @tn2∧type_of% @tn3:=⟨@jjC,@tn0,@tn1,@tn2,@tn3⟩
theorem jjb:type_of% @jjF∧type_of% @jjC∧type_of% @tns:=⟨@jjF,@jjC,@tns⟩
theorem jjf:type_of% @jkw ∧ type_of% @jjC:=⟨@jkw,@jjC⟩
theorem find3_t (z0 z1 z2 out b0 b1 b2:Int)(data:List Int)(x0 y0 x1 y1 x2 y2 o0 o1:List UInt8)(R Bf W:Nat→Tx)
  (sp0:Cl 132 [.agg [.str x0,.str y0],Ji z0] (.tup [Ji b0,Jt (R 0),Ji 0]))
  (sp1:Cl 132 [.agg [.str x1,.str y1],Ji z1] (.tup [Ji b1,Jt (R 1),Ji 0]))
  (sp2:Cl 132 [.agg [.str x2,.str y2],Ji z2] (.tup [Ji b2,Jt (R 2),Ji 0]))
  (io:Cl 88 [Ji 1] (.agg [.str o0,.str o1])) (w:Int→Int→Int) (cm:∀ a b:Nat,a<3→b<3→Cl 134 [Ji a,Ji b,.ref [V.sl2 3 [.str (R 0).1,.str (R 0).2,.str (R 1).1,.str (R 1).2,.str (R 2).1,.str (R 2).2]]] (Ji (w a b)))
  (hBf0:Bf 0=(o0,o1)) (hBf:∀ k,k<3→Bf (k+1)=R ((isoK w [0,1,2] (3-1)).getD k 0).toNat) (sb:∀ k,k<3→Cl 104 [Jt (Bf k),.agg [.str (R ((isoK w [0,1,2] (3-1)).getD k 0).toNat).1,.str (R ((isoK w [0,1,2] (3-1)).getD k 0).toNat).2]] (.tup [Jt (W k),Ji 0])) :
  Cl 73 [.agg [Jj [z0,z1,z2],Ji out,Jj data],V.sl2 3 [.str x0,.str y0,.str x1,.str y1,.str x2,.str y2]] (.tup [.agg [Jj [z0,z1,z2],Ji out,Jj data,Jj [b0,b1,b2],Jj (isoK w [0,1,2] (3-1)),V.sl2 4 [.str (W 0).1,.str (W 0).2,.str (W 1).1,.str (W 1).2,.str (W 2).1,.str (W 2).2,.str (Bf 3).1,.str (Bf 3).2]],Ji 0]):=by
  refine V.en tbOk Tryz.func73 ?_
  refine V.r0 @jjC ?_
  refine⟨Pq58z,[],V.pok,?_⟩
  refine jab [(6,.box 6 0),(17,.osl 17 0 3),(20,.osl 20 0 3)] [(6,.box [Jj [z0,z1,z2],Ji out,Jj data,.osl 17 0 3,.osl 20 0 3,.nil]),(17,.arr .i64 [0,0,0]),(20,.arr .i64 [0,0,0])] ?_ ?_
  ·exact V.d0 @jjC
  refine V.r0 @jjC ?_
  refine V.il Tryz.func84 ?_
  refine V.r0 @jjC ?_
  refine jad (0) (fun k=>k≤3) (fun k=>3-k) (fun k=>[(14,Ji k)]) (fun k=>[(88,.box (preD (2*k) [.str (R 0).1,.str (R 0).2,.str (R 1).1,.str (R 1).2,.str (R 2).1,.str (R 2).2])),(17,.arr .i64 (preZ k [b0,b1,b2])),(20,.arr .i64 (preZ k [0,1,2]))]) ?_ ?_ ?_
  ·exact V.wk
  ·exact jjx _
  intro k hk
  have hk4:k=0∨k=1∨k=2∨k=3:=Jo
  rcases hk4 with e|e|e|e
  all_goals subst e
  ·simp only[k0]
   have q1:(preZ 0 [b0,b1,b2]).length=3:=rfl
   have q2:(preZ 0 [0,1,2]).length=3:=rfl
   refine V.r0 jiS ?_
   refine V.il Tryz.func131 ?_
   refine V.r0 jiS ?_
   refine⟨Pq24z,[],V.pok,?_⟩
   refine jab [(8,.box 118 0),(7,Ji b0),(9,Ji 0)] [(118,.box [.str (R 0).1,.str (R 0).2])] ?_ ?_
   ·exact V.d1 jiS sp0
   refine V.r0 jiS ?_
   refine⟨Pq26z,[],V.pok,?_⟩
   refine jab [] [(17,.arr .i64 (preZ 1 [b0,b1,b2])),(20,.arr .i64 (preZ 1 [0,1,2]))] ?_ ?_
   ·exact V.d0 jiS
   refine V.r0 jiS ?_
   exact⟨1,Jo,Jo,V.wk⟩
  ·simp only[k1]
   have q1:(preZ 1 [b0,b1,b2]).length=3:=rfl
   have q2:(preZ 1 [0,1,2]).length=3:=rfl
   refine V.r0 jiS ?_
   refine V.il Tryz.func131 ?_
   refine V.r0 jiS ?_
   refine⟨Pq24z,[],V.pok,?_⟩
   refine jab [(8,.box 118 0),(7,Ji b1),(9,Ji 0)] [(118,.box [.str (R 1).1,.str (R 1).2])] ?_ ?_
   ·exact V.d1 jiS sp1
   refine V.r0 jiS ?_
   refine⟨Pq26z,[],V.pok,?_⟩
   refine jab [] [(17,.arr .i64 (preZ 2 [b0,b1,b2])),(20,.arr .i64 (preZ 2 [0,1,2]))] ?_ ?_
   ·exact V.d0 jiS
   refine V.r0 jiS ?_
   exact⟨2,Jo,Jo,V.wk⟩
  ·simp only[k2]
   have q1:(preZ 2 [b0,b1,b2]).length=3:=rfl
   have q2:(preZ 2 [0,1,2]).length=3:=rfl
   refine V.r0 jiS ?_
   refine V.il Tryz.func131 ?_
   refine V.r0 jiS ?_
   refine⟨Pq24z,[],V.pok,?_⟩
   refine jab [(8,.box 118 0),(7,Ji b2),(9,Ji 0)] [(118,.box [.str (R 2).1,.str (R 2).2])] ?_ ?_
   ·exact V.d1 jiS sp2
   refine V.r0 jiS ?_
   refine⟨Pq26z,[],V.pok,?_⟩
   refine jab [] [(17,.arr .i64 (preZ 3 [b0,b1,b2])),(20,.arr .i64 (preZ 3 [0,1,2]))] ?_ ?_
   ·exact V.d0 jiS
   refine V.r0 jiS ?_
   exact⟨3,Jo,Jo,V.wk⟩
  ·simp only[k3]
   (conv=>whnf)
   repeat ((fail_if_success (with_reducible refine Cnd.split ?_));refine V.s1 ?_;(try simp only[jjC]))
   refine V.s1 ?_
   (conv=>whnf)
   repeat ((fail_if_success (with_reducible refine Cnd.split ?_));refine V.s1 ?_;(try simp only[jjC]))
   refine ja5 [(7,.ref [V.sl2 3 [.str (R 0).1,.str (R 0).2,.str (R 1).1,.str (R 1).2,.str (R 2).1,.str (R 2).2]]),(22,.any),(26,.any),(27,.any)] [(7,.gone),(88,.gone)] (CondB.mk (fun h=>absurd h Jd) (fun _=>?_)) ?_
   ·(conv=>whnf)
    refine Wk.pub 88 ?_
    (conv=>whnf)
    refine Wk.pub 7 ?_
    (conv=>whnf)
    simp only[jjC]
    exact V.wk
   refine V.r0 @jjC ?_
   refine V.il Tryz.func133 ?_
   refine V.r0 @jjC ?_
   refine V.il Tryz.func182 ?_
   refine V.r0 @jjC ?_
   refine jad (0) (fun k=>k=0) (fun k=>k) (fun k=>[(7,Ji 0),(8,Ji 20)]) (fun k=>[]) ?_ ?_ ?_
   ·exact V.wk
   ·rfl
   intro k hk
   refine V.r0 @jjC ?_
   refine V.il Tryz.func216 ?_
   refine V.r0 @jjC ?_
   refine jad (0) (fun k=>k+1≤3) (fun k=>3-k) (fun k=>[(8,Ji ((k+1:Nat):Int))]) (fun k=>[(20,.arr .i64 (isoK w [0,1,2] k))]) ?_ ?_ ?_
   ·exact V.wk
   ·omega
   clear hk
   intro k hk
   have hB:=jhe w (n:=3) (xs:=[0,1,2]) ⟨rfl,fun i hi=>by
    have:i=0∨i=1∨i=2:=Jo
    rcases this with e|e|e<;>subst e<;>first|decide|omega⟩ k Jo
   refine V.r0 @jjC ?_
   refine V.br (fun hq=>?_) (fun hq=>?_)
   ·have hk2:k+1<3:=by simp at hq;omega
    refine V.r0 @jjC ?_
    refine jad ((k+1,isoK w [0,1,2] k):Nat×List Int) (fun s=>s.1≤k+1∧Bel 3 s.2∧insJ w s.1 s.2=isoK w [0,1,2] (k+1)) (fun s=>s.1) (fun s=>[(9,Ji s.1)]) (fun s=>[(20,.arr .i64 s.2)]) ?_ ?_ ?_
    ·exact V.wk
    ·exact⟨jjG _,hB,rfl⟩
    rintro⟨j,xs⟩ ⟨h1,h2,h3⟩
    dsimp only at h1 h2 h3 ⊢
    have hl:=h2.1
    refine V.r0 @jjC ?_
    have c1:(decide ((j:Int)>0)=true)→Cl 134 [Ji (xs.getD j 0),Ji (xs.getD (j-1) 0),.ref [V.sl2 3 [.str (R 0).1,.str (R 0).2,.str (R 1).1,.str (R 1).2,.str (R 2).1,.str (R 2).2]]] (Ji (w (xs.getD j 0) (xs.getD (j-1) 0))):=fun h=>by
     have hj:(j:Int)>0:=of_decide_eq_true h
     have g1:=h2.2 j Jo
     have g2:=h2.2 (j-1) Jo
     have c:=cm (xs.getD j 0).toNat (xs.getD (j-1) 0).toNat Jo Jo
     rw[jjE g1.1,jjE g2.1] at c
     exact c
    refine⟨Pq11z,[],V.pok,?_⟩
    refine jab [(34,.bool (decide ((j:Int)>0) && decide (w (xs.getD j 0) (xs.getD (j-1) 0)<0)))] [] ?_ ?_
    ·(conv=>whnf);(try simp only[jjb])
     repeat' (first|exact V.wk|((with_reducible refine And.intro ?_ jaz);(conv=>whnf);(try simp only[jjb]))|((with_reducible first|refine jas ?_ ?_|refine jau ?_ ?_)<;>(conv=>whnf);(try simp only[jjb]))|((first|refine V.s1 ?_|((with_reducible refine jal ?_ ?_);(focus ((conv=>whnf);(try simp only[jjb]);(repeat ((first|refine V.s1 ?_|((refine⟨_,c1,?_⟩);(conv=>whnf)));(try simp only[jjb])));exact⟨rfl⟩));(conv=>whnf))|((try ((with_reducible refine .ext ?_);(conv=>whnf);(try simp only[jjb])));(with_reducible refine jaa (r:=?_) ?_ ?_);rotate_left;(focus (first|fail));(conv=>whnf))|((refine⟨_,c1,?_⟩);(conv=>whnf)));(try simp only[jjb]))|(refine And.intro ?_ ?_<;>(conv=>whnf);(try simp only[jjb])))
    refine V.r0 @jjC ?_
    refine V.br (fun hq2=>?_) (fun hq2=>?_)
    ·have hj:0<j∧w (xs.getD j 0) (xs.getD (j-1) 0)<0:=by
      rw[jjv,decide_eq_true_eq,decide_eq_true_eq] at hq2
      omega
     obtain⟨i,rfl⟩:∃ i,j=i+1:=⟨j-1,Jo⟩
     rw[show i+1-1=i by omega] at hj
     have hw:=jeQ h2 (show i+1<3 by omega)
     have e1:((i+1:Nat):Int).toNat=i+1:=Jo
     have e2:(((i+1:Nat):Int)-1).toNat=i:=Jo
     have e3:((i+1:Nat):Int)-1=(i:Int):=Jo
     have e4:(i:Int).toNat=i:=Jo
     have h3':insJ w i ((xs.set (i+1) (xs.getD i 0)).set i (xs.getD (i+1) 0))=isoK w [0,1,2] (k+1):=by
      rw[← h3]
      simp only[insJ]
      rw[if_pos hj.2]
     refine V.r0 @jjC ?_
     refine⟨Pq8z,[],V.pok,?_⟩
     refine jab [] [(20,.arr .i64 ((xs.set (i+1) (xs.getD i 0)).set i (xs.getD (i+1) 0)))] ?_ ?_
     ·(conv=>whnf);(try simp only[jjf,e1,e2,e3,e4])
      repeat' (first|exact V.wk|((with_reducible refine And.intro ?_ jaz);(conv=>whnf);(try simp only[jjf,e1,e2,e3,e4]))|((with_reducible first|refine jas ?_ ?_|refine jau ?_ ?_)<;>(conv=>whnf);(try simp only[jjf,e1,e2,e3,e4]))|((first|refine V.s1 ?_|((with_reducible refine jal ?_ ?_);(focus ((conv=>whnf);(try simp only[jjf,e1,e2,e3,e4]);(repeat ((first|refine V.s1 ?_);(try simp only[jjf,e1,e2,e3,e4])));exact⟨rfl⟩));(conv=>whnf)));(try simp only[jjf,e1,e2,e3,e4]))|(refine And.intro ?_ ?_<;>(conv=>whnf);(try simp only[jjf,e1,e2,e3,e4])))
     refine V.r0 (V.a2 @jjC e3) ?_
     exact⟨(i,(xs.set (i+1) (xs.getD i 0)).set i (xs.getD (i+1) 0)),⟨by dsimp only;omega,hw,h3'⟩,by dsimp only;omega,V.wk⟩
    ·have hx:isoK w [0,1,2] (k+1)=xs:=by
      rw[← h3]
      cases j with
      | zero=>rfl
      | succ i=>
       simp only[insJ]
       rw[if_neg]
       intro h
       rw[Bool.and_eq_false_iff,decide_eq_false_iff_not,decide_eq_false_iff_not,show i+1-1=i by omega] at hq2
       omega
     refine V.r0 @jjC ?_
     refine⟨k+1,Jo,Jo,?_⟩
     rw[hx]
     exact V.wk
   have hk2:k+1=3:=by simp at hq;omega
   have hk3:k=3-1:=Jo
   subst hk3
   refine V.r0 @jjC ?_
   refine jad (0) (fun k=>k=0) (fun k=>k) (fun k=>[(6,Ji 20)]) (fun k=>[]) ?_ ?_ ?_
   ·exact V.wk
   ·rfl
   clear hk
   intro k hk
   refine V.r0 @jjC ?_
   obtain⟨xs,hxs⟩:∃ xs,isoK w [0,1,2] (3-1)=xs:=⟨_,rfl⟩
   rw[hxs] at hB ⊢
   have hl:=hB.1
   refine V.r1 @jjC io ?_
   have hr:∀ m,m<3→List.take 2 (List.drop (m*2) ([.str (R 0).1,.str (R 0).2,.str (R 1).1,.str (R 1).2,.str (R 2).1,.str (R 2).2]:List D))=[.str (R m).1,.str (R m).2]:=fun m hm=>by
    have:m=0∨m=1∨m=2:=Jo
    rcases this with e|e|e<;>subst e<;>first|rfl|omega
   have e0:=hr (xs.getD 0 0).toNat (by have:=hB.2 0 Jo;omega)
   have g0:=hB.2 0 Jo
   have sb0:=sb 0 Jo
   have hb0:=hBf 0 Jo
   rw[hxs] at sb0 hb0
   have e1:=hr (xs.getD 1 0).toNat (by have:=hB.2 1 Jo;omega)
   have g1:=hB.2 1 Jo
   have sb1:=sb 1 Jo
   have hb1:=hBf 1 Jo
   rw[hxs] at sb1 hb1
   have e2:=hr (xs.getD 2 0).toNat (by have:=hB.2 2 Jo;omega)
   have g2:=hB.2 2 Jo
   have sb2:=sb 2 Jo
   have hb2:=hBf 2 Jo
   rw[hxs] at sb2 hb2
   have hb':(Bf 0).1=o0∧(Bf 0).2=o1:=by rw[hBf0];exact⟨rfl,rfl⟩
   refine jad 0 (fun k=>k≤3) (fun k=>3-k) (fun k=>[(41,Ji k)]) (fun k=>(9,.box [.str (Bf k).1,.str (Bf k).2])::(6,.box [Jj [z0,z1,z2],Ji out,Jj data,.osl 17 0 3,.osl 20 0 3,wcl k])::wch W k) ?_ ?_ ?_
   ·rw[hb'.1,hb'.2]
    exact V.wk
   ·exact jjx _
   clear hk
   intro k hk
   have hk4:k=0∨k=1∨k=2∨k=3:=Jo
   rcases hk4 with e|e|e|e
   all_goals subst e
   ·simp only[k0,wcl,wch]
    refine V.r0 jiS ?_
    refine⟨Pq45z,[],V.pok,?_⟩
    refine jab [(12,.box 12 0),(13,Ji 0)] [(12,.box [.str (W 0).1,.str (W 0).2])] ?_ ?_
    ·(conv=>whnf);(try simp only[jjC])
     repeat' (first|exact V.wk|((with_reducible refine And.intro ?_ jaz);(conv=>whnf);(try simp only[jjC]))|((with_reducible first|refine jas ?_ ?_|refine jau ?_ ?_)<;>(conv=>whnf);(try simp only[jjC]))|((first|refine V.s1 ?_|((with_reducible refine jal ?_ ?_);(focus ((conv=>whnf);(try simp only[jjC]);(repeat ((first|refine V.s1 ?_|((simp only[e0]);(conv=>whnf)));(try simp only[jjC])));exact⟨rfl⟩));(conv=>whnf))|((try ((with_reducible refine .ext ?_);(conv=>whnf);(try simp only[jjC])));(with_reducible refine jaa (r:=?_) ?_ ?_);rotate_left;(focus (first|exact(sb0)));(conv=>whnf))|((simp only[e0]);(conv=>whnf)));(try simp only[jjC]))|(refine And.intro ?_ ?_<;>(conv=>whnf);(try simp only[jjC])))
    (conv=>whnf)
    (try simp only[jjC])
    repeat ((first|refine V.s1 ?_|((try ((with_reducible refine .ext ?_);(conv=>whnf);(try simp only[jjC])));(with_reducible refine jaa (r:=?_) ?_ ?_);rotate_left;(focus (first|fail));(conv=>whnf))|((simp only[e0]);(conv=>whnf)));(try simp only[jjC]))
    refine⟨1,Jo,Jo,?_⟩
    rw[hb0]
    exact V.wk
   ·simp only[k1,wcl,wch]
    refine V.r0 jiS ?_
    refine⟨Pq45z,[],V.pok,?_⟩
    refine jab [(12,.box 12 0),(13,Ji 0)] [(12,.box [.str (W 1).1,.str (W 1).2])] ?_ ?_
    ·(conv=>whnf);(try simp only[jjC])
     repeat' (first|exact V.wk|((with_reducible refine And.intro ?_ jaz);(conv=>whnf);(try simp only[jjC]))|((with_reducible first|refine jas ?_ ?_|refine jau ?_ ?_)<;>(conv=>whnf);(try simp only[jjC]))|((first|refine V.s1 ?_|((with_reducible refine jal ?_ ?_);(focus ((conv=>whnf);(try simp only[jjC]);(repeat ((first|refine V.s1 ?_|((simp only[e1]);(conv=>whnf)));(try simp only[jjC])));exact⟨rfl⟩));(conv=>whnf))|((try ((with_reducible refine .ext ?_);(conv=>whnf);(try simp only[jjC])));(with_reducible refine jaa (r:=?_) ?_ ?_);rotate_left;(focus (first|exact(sb1)));(conv=>whnf))|((simp only[e1]);(conv=>whnf)));(try simp only[jjC]))|(refine And.intro ?_ ?_<;>(conv=>whnf);(try simp only[jjC])))
    (conv=>whnf)
    (try simp only[jjC])
    repeat ((first|refine V.s1 ?_|((try ((with_reducible refine .ext ?_);(conv=>whnf);(try simp only[jjC])));(with_reducible refine jaa (r:=?_) ?_ ?_);rotate_left;(focus (first|fail));(conv=>whnf))|((simp only[e1]);(conv=>whnf)));(try simp only[jjC]))
    refine⟨2,Jo,Jo,?_⟩
    rw[hb1]
    exact V.wk
   ·simp only[k2,wcl,wch]
    refine V.r0 jiS ?_
    refine⟨Pq45z,[],V.pok,?_⟩
    refine jab [(12,.box 12 0),(13,Ji 0)] [(12,.box [.str (W 2).1,.str (W 2).2])] ?_ ?_
    ·(conv=>whnf);(try simp only[jjC])
     repeat' (first|exact V.wk|((with_reducible refine And.intro ?_ jaz);(conv=>whnf);(try simp only[jjC]))|((with_reducible first|refine jas ?_ ?_|refine jau ?_ ?_)<;>(conv=>whnf);(try simp only[jjC]))|((first|refine V.s1 ?_|((with_reducible refine jal ?_ ?_);(focus ((conv=>whnf);(try simp only[jjC]);(repeat ((first|refine V.s1 ?_|((simp only[e2]);(conv=>whnf)));(try simp only[jjC])));exact⟨rfl⟩));(conv=>whnf))|((try ((with_reducible refine .ext ?_);(conv=>whnf);(try simp only[jjC])));(with_reducible refine jaa (r:=?_) ?_ ?_);rotate_left;(focus (first|exact(sb2)));(conv=>whnf))|((simp only[e2]);(conv=>whnf)));(try simp only[jjC]))|(refine And.intro ?_ ?_<;>(conv=>whnf);(try simp only[jjC])))
    (conv=>whnf)
    (try simp only[jjC])
    repeat ((first|refine V.s1 ?_|((try ((with_reducible refine .ext ?_);(conv=>whnf);(try simp only[jjC])));(with_reducible refine jaa (r:=?_) ?_ ?_);rotate_left;(focus (first|fail));(conv=>whnf))|((simp only[e2]);(conv=>whnf)));(try simp only[jjC]))
    refine⟨3,Jo,Jo,?_⟩
    rw[hb2]
    exact V.wk
   ·simp only[k3,wcl,wch]
    have ht:List.take 3 xs=xs:=jko Jo
    refine V.r0 (V.a2 @jjC ht) ?_
    rw[← hxs]
    exact Fin.of rfl
theorem jdO (p q:Rat):(ordQ p q<0)↔p<q:=by
 unfold ordQ
 by_cases h:p<q
 ·rw[if_pos h];exact⟨fun _=>h,fun _=>Jd⟩
 ·rw[if_neg h]
  by_cases g:p=q
  ·rw[if_pos g];exact⟨fun h'=>Jo,fun h'=>absurd h' h⟩
  ·rw[if_neg g];exact⟨fun h'=>Jo,fun h'=>absurd h' h⟩
def cmpW (r0 r1 r2:Rat)(a b:Int):Int:=ordQ (sel r0 r1 r2 b) (sel r0 r1 r2 a)
theorem iso1 (w:Int→Int→Int):isoK w [0] (1-1)=[0]:=rfl
theorem iso2 (r0 r1 r2:Rat):isoK (cmpW r0 r1 r2) [0,1] (2-1)=ord2 r0 r1:=by
 show insJ (cmpW r0 r1 r2) 1 [0,1]=_
 unfold ord2
 have e:(cmpW r0 r1 r2 1 0<0)↔r0<r1:=jdO _ _
 by_cases h:r0<r1
 ·rw[if_pos h]
  simp only[insJ]
  rw[if_pos (show cmpW r0 r1 r2 ([0,1].getD (0+1) 0) ([0,1].getD 0 0)<0 from e.2 h)]
  rfl
 ·rw[if_neg h]
  simp only[insJ]
  rw[if_neg (show ¬ cmpW r0 r1 r2 ([0,1].getD (0+1) 0) ([0,1].getD 0 0)<0 from fun g=>h (e.1 g))]
theorem jfs {w:Int→Int→Int}{j:Nat}{xs:List Int}(h:w (xs.getD (j+1) 0) (xs.getD j 0)<0):insJ w (j+1) xs=insJ w j ((xs.set (j+1) (xs.getD j 0)).set j (xs.getD (j+1) 0)):=by
 simp only[insJ];rw[if_pos h]
theorem jhD {w:Int→Int→Int}{j:Nat}{xs:List Int}(h:¬ w (xs.getD (j+1) 0) (xs.getD j 0)<0):insJ w (j+1) xs=xs:=by
 simp only[insJ];rw[if_neg h]
theorem iso3 (r0 r1 r2:Rat):isoK (cmpW r0 r1 r2) [0,1,2] (3-1)=ord3 r0 r1 r2:=by
 have e01:(cmpW r0 r1 r2 1 0<0)↔r0<r1:=jdO _ _
 have e02:(cmpW r0 r1 r2 2 0<0)↔r0<r2:=jdO _ _
 have e12:(cmpW r0 r1 r2 2 1<0)↔r1<r2:=jdO _ _
 show insJ (cmpW r0 r1 r2) 2 (insJ (cmpW r0 r1 r2) 1 [0,1,2])=_
 unfold ord3
 by_cases h01:r0<r1
 ·rw[if_pos h01,jfs (j:=0) (xs:=[0,1,2]) (e01.2 h01)]
  show insJ (cmpW r0 r1 r2) 2 [1,0,2]=_
  by_cases h02:r0<r2
  ·rw[if_pos h02,jfs (j:=1) (xs:=[1,0,2]) (e02.2 h02)]
   show insJ (cmpW r0 r1 r2) 1 [1,2,0]=_
   by_cases h12:r1<r2
   ·rw[if_pos h12,jfs (j:=0) (xs:=[1,2,0]) (e12.2 h12)]
    rfl
   ·rw[if_neg h12,jhD (j:=0) (xs:=[1,2,0]) fun g=>h12 (e12.1 g)]
  ·rw[if_neg h02,jhD (j:=1) (xs:=[1,0,2]) fun g=>h02 (e02.1 g)]
 ·rw[if_neg h01,jhD (j:=0) (xs:=[0,1,2]) fun g=>h01 (e01.1 g)]
  by_cases h12:r1<r2
  ·rw[if_pos h12,jfs (j:=1) (xs:=[0,1,2]) (e12.2 h12)]
   show insJ (cmpW r0 r1 r2) 1 [0,2,1]=_
   by_cases h02:r0<r2
   ·rw[if_pos h02,jfs (j:=0) (xs:=[0,2,1]) (e02.2 h02)]
    rfl
   ·rw[if_neg h02,jhD (j:=0) (xs:=[0,2,1]) fun g=>h02 (e02.1 g)]
  ·rw[if_neg h12,jhD (j:=1) (xs:=[0,1,2]) fun g=>h12 (e12.1 g)]
theorem jiT:type_of% @jjC∧type_of% @tn0∧type_of% @tn1∧type_of% @tn2:=⟨@jjC,@tn0,@tn1,@tn2⟩
theorem cmp1_00 (R:Nat→Tx)(w:Int)(c:Cl 135 [Jt (R 0),Jt (R 0)] (.tup [Ji w,Ji 0]))(hw:InR .i64 w):Cl 134 [Ji 0,Ji 0,.ref [V.sl2 1 [.str (R 0).1,.str (R 0).2]]] (Ji w):=by
 refine V.en tbOk Tryz.func134 ?_
 refine V.r0 jiT ?_
 refine⟨Pq29z,[],V.pok,?_⟩
 refine jab [(6,Ji w)] [] ?_ ?_
 ·exact V.d1 jiT c
 refine V.r0 @jjC ?_
 exact Fin.of rfl
theorem cmp1 (R:Nat→Tx)(w:Int→Int→Int)(hw:∀ a b,InR .i64 (w a b))(c:∀ a b:Nat,a<1→b<1→Cl 135 [Jt (R b),Jt (R a)] (.tup [Ji (w a b),Ji 0])):∀ a b:Nat,a<1→b<1→Cl 134 [Ji a,Ji b,.ref [V.sl2 1 [.str (R 0).1,.str (R 0).2]]] (Ji (w a b)):=fun a b ha hb=>by
 have h1:a=0:=Jo
 have h2:b=0:=Jo
 have k:=c a b ha hb
 subst h1 h2
 ·exact cmp1_00 R _ k (hw _ _)
theorem cmp2_00 (R:Nat→Tx)(w:Int)(c:Cl 135 [Jt (R 0),Jt (R 0)] (.tup [Ji w,Ji 0]))(hw:InR .i64 w):Cl 134 [Ji 0,Ji 0,.ref [V.sl2 2 [.str (R 0).1,.str (R 0).2,.str (R 1).1,.str (R 1).2]]] (Ji w):=by
 refine V.en tbOk Tryz.func134 ?_
 refine V.r0 jiT ?_
 refine⟨Pq29z,[],V.pok,?_⟩
 refine jab [(6,Ji w)] [] ?_ ?_
 ·exact V.d1 jiT c
 refine V.r0 @jjC ?_
 exact Fin.of rfl
theorem cmp2_01 (R:Nat→Tx)(w:Int)(c:Cl 135 [Jt (R 1),Jt (R 0)] (.tup [Ji w,Ji 0]))(hw:InR .i64 w):Cl 134 [Ji 0,Ji 1,.ref [V.sl2 2 [.str (R 0).1,.str (R 0).2,.str (R 1).1,.str (R 1).2]]] (Ji w):=by
 refine V.en tbOk Tryz.func134 ?_
 refine V.r0 jiT ?_
 refine⟨Pq29z,[],V.pok,?_⟩
 refine jab [(6,Ji w)] [] ?_ ?_
 ·exact V.d1 jiT c
 refine V.r0 @jjC ?_
 exact Fin.of rfl
theorem cmp2_10 (R:Nat→Tx)(w:Int)(c:Cl 135 [Jt (R 0),Jt (R 1)] (.tup [Ji w,Ji 0]))(hw:InR .i64 w):Cl 134 [Ji 1,Ji 0,.ref [V.sl2 2 [.str (R 0).1,.str (R 0).2,.str (R 1).1,.str (R 1).2]]] (Ji w):=by
 refine V.en tbOk Tryz.func134 ?_
 refine V.r0 jiT ?_
 refine⟨Pq29z,[],V.pok,?_⟩
 refine jab [(6,Ji w)] [] ?_ ?_
 ·exact V.d1 jiT c
 refine V.r0 @jjC ?_
 exact Fin.of rfl
theorem cmp2_11 (R:Nat→Tx)(w:Int)(c:Cl 135 [Jt (R 1),Jt (R 1)] (.tup [Ji w,Ji 0]))(hw:InR .i64 w):Cl 134 [Ji 1,Ji 1,.ref [V.sl2 2 [.str (R 0).1,.str (R 0).2,.str (R 1).1,.str (R 1).2]]] (Ji w):=by
 refine V.en tbOk Tryz.func134 ?_
 refine V.r0 jiT ?_
 refine⟨Pq29z,[],V.pok,?_⟩
 refine jab [(6,Ji w)] [] ?_ ?_
 ·exact V.d1 jiT c
 refine V.r0 @jjC ?_
 exact Fin.of rfl
theorem cmp2 (R:Nat→Tx)(w:Int→Int→Int)(hw:∀ a b,InR .i64 (w a b))(c:∀ a b:Nat,a<2→b<2→Cl 135 [Jt (R b),Jt (R a)] (.tup [Ji (w a b),Ji 0])):∀ a b:Nat,a<2→b<2→Cl 134 [Ji a,Ji b,.ref [V.sl2 2 [.str (R 0).1,.str (R 0).2,.str (R 1).1,.str (R 1).2]]] (Ji (w a b)):=fun a b ha hb=>by
 have h1:a=0∨a=1:=Jo
 have h2:b=0∨b=1:=Jo
 have k:=c a b ha hb
 rcases h1 with e|e<;>rcases h2 with g|g<;>subst e<;>subst g
 ·exact cmp2_00 R _ k (hw _ _)
 ·exact cmp2_01 R _ k (hw _ _)
 ·exact cmp2_10 R _ k (hw _ _)
 ·exact cmp2_11 R _ k (hw _ _)
theorem cmp3_00 (R:Nat→Tx)(w:Int)(c:Cl 135 [Jt (R 0),Jt (R 0)] (.tup [Ji w,Ji 0]))(hw:InR .i64 w):Cl 134 [Ji 0,Ji 0,.ref [V.sl2 3 [.str (R 0).1,.str (R 0).2,.str (R 1).1,.str (R 1).2,.str (R 2).1,.str (R 2).2]]] (Ji w):=by
 refine V.en tbOk Tryz.func134 ?_
 refine V.r0 jiT ?_
 refine⟨Pq29z,[],V.pok,?_⟩
 refine jab [(6,Ji w)] [] ?_ ?_
 ·exact V.d1 jiT c
 refine V.r0 @jjC ?_
 exact Fin.of rfl
theorem cmp3_01 (R:Nat→Tx)(w:Int)(c:Cl 135 [Jt (R 1),Jt (R 0)] (.tup [Ji w,Ji 0]))(hw:InR .i64 w):Cl 134 [Ji 0,Ji 1,.ref [V.sl2 3 [.str (R 0).1,.str (R 0).2,.str (R 1).1,.str (R 1).2,.str (R 2).1,.str (R 2).2]]] (Ji w):=by
 refine V.en tbOk Tryz.func134 ?_
 refine V.r0 jiT ?_
 refine⟨Pq29z,[],V.pok,?_⟩
 refine jab [(6,Ji w)] [] ?_ ?_
 ·exact V.d1 jiT c
 refine V.r0 @jjC ?_
 exact Fin.of rfl
theorem cmp3_02 (R:Nat→Tx)(w:Int)(c:Cl 135 [Jt (R 2),Jt (R 0)] (.tup [Ji w,Ji 0]))(hw:InR .i64 w):Cl 134 [Ji 0,Ji 2,.ref [V.sl2 3 [.str (R 0).1,.str (R 0).2,.str (R 1).1,.str (R 1).2,.str (R 2).1,.str (R 2).2]]] (Ji w):=by
 refine V.en tbOk Tryz.func134 ?_
 refine V.r0 jiT ?_
 refine⟨Pq29z,[],V.pok,?_⟩
 refine jab [(6,Ji w)] [] ?_ ?_
 ·exact V.d1 jiT c
 refine V.r0 @jjC ?_
 exact Fin.of rfl
theorem cmp3_10 (R:Nat→Tx)(w:Int)(c:Cl 135 [Jt (R 0),Jt (R 1)] (.tup [Ji w,Ji 0]))(hw:InR .i64 w):Cl 134 [Ji 1,Ji 0,.ref [V.sl2 3 [.str (R 0).1,.str (R 0).2,.str (R 1).1,.str (R 1).2,.str (R 2).1,.str (R 2).2]]] (Ji w):=by
 refine V.en tbOk Tryz.func134 ?_
 refine V.r0 jiT ?_
 refine⟨Pq29z,[],V.pok,?_⟩
 refine jab [(6,Ji w)] [] ?_ ?_
 ·exact V.d1 jiT c
 refine V.r0 @jjC ?_
 exact Fin.of rfl
theorem cmp3_11 (R:Nat→Tx)(w:Int)(c:Cl 135 [Jt (R 1),Jt (R 1)] (.tup [Ji w,Ji 0]))(hw:InR .i64 w):Cl 134 [Ji 1,Ji 1,.ref [V.sl2 3 [.str (R 0).1,.str (R 0).2,.str (R 1).1,.str (R 1).2,.str (R 2).1,.str (R 2).2]]] (Ji w):=by
 refine V.en tbOk Tryz.func134 ?_
 refine V.r0 jiT ?_
 refine⟨Pq29z,[],V.pok,?_⟩
 refine jab [(6,Ji w)] [] ?_ ?_
 ·exact V.d1 jiT c
 refine V.r0 @jjC ?_
 exact Fin.of rfl
theorem cmp3_12 (R:Nat→Tx)(w:Int)(c:Cl 135 [Jt (R 2),Jt (R 1)] (.tup [Ji w,Ji 0]))(hw:InR .i64 w):Cl 134 [Ji 1,Ji 2,.ref [V.sl2 3 [.str (R 0).1,.str (R 0).2,.str (R 1).1,.str (R 1).2,.str (R 2).1,.str (R 2).2]]] (Ji w):=by
 refine V.en tbOk Tryz.func134 ?_
 refine V.r0 jiT ?_
 refine⟨Pq29z,[],V.pok,?_⟩
 refine jab [(6,Ji w)] [] ?_ ?_
 ·exact V.d1 jiT c
 refine V.r0 @jjC ?_
 exact Fin.of rfl
theorem cmp3_20 (R:Nat→Tx)(w:Int)(c:Cl 135 [Jt (R 0),Jt (R 2)] (.tup [Ji w,Ji 0]))(hw:InR .i64 w):Cl 134 [Ji 2,Ji 0,.ref [V.sl2 3 [.str (R 0).1,.str (R 0).2,.str (R 1).1,.str (R 1).2,.str (R 2).1,.str (R 2).2]]] (Ji w):=by
 refine V.en tbOk Tryz.func134 ?_
 refine V.r0 jiT ?_
 refine⟨Pq29z,[],V.pok,?_⟩
 refine jab [(6,Ji w)] [] ?_ ?_
 ·exact V.d1 jiT c
 refine V.r0 @jjC ?_
 exact Fin.of rfl
theorem cmp3_21 (R:Nat→Tx)(w:Int)(c:Cl 135 [Jt (R 1),Jt (R 2)] (.tup [Ji w,Ji 0]))(hw:InR .i64 w):Cl 134 [Ji 2,Ji 1,.ref [V.sl2 3 [.str (R 0).1,.str (R 0).2,.str (R 1).1,.str (R 1).2,.str (R 2).1,.str (R 2).2]]] (Ji w):=by
 refine V.en tbOk Tryz.func134 ?_
 refine V.r0 jiT ?_
 refine⟨Pq29z,[],V.pok,?_⟩
 refine jab [(6,Ji w)] [] ?_ ?_
 ·exact V.d1 jiT c
 refine V.r0 @jjC ?_
 exact Fin.of rfl
theorem cmp3_22 (R:Nat→Tx)(w:Int)(c:Cl 135 [Jt (R 2),Jt (R 2)] (.tup [Ji w,Ji 0]))(hw:InR .i64 w):Cl 134 [Ji 2,Ji 2,.ref [V.sl2 3 [.str (R 0).1,.str (R 0).2,.str (R 1).1,.str (R 1).2,.str (R 2).1,.str (R 2).2]]] (Ji w):=by
 refine V.en tbOk Tryz.func134 ?_
 refine V.r0 jiT ?_
 refine⟨Pq29z,[],V.pok,?_⟩
 refine jab [(6,Ji w)] [] ?_ ?_
 ·exact V.d1 jiT c
 refine V.r0 @jjC ?_
 exact Fin.of rfl
theorem cmp3 (R:Nat→Tx)(w:Int→Int→Int)(hw:∀ a b,InR .i64 (w a b))(c:∀ a b:Nat,a<3→b<3→Cl 135 [Jt (R b),Jt (R a)] (.tup [Ji (w a b),Ji 0])):∀ a b:Nat,a<3→b<3→Cl 134 [Ji a,Ji b,.ref [V.sl2 3 [.str (R 0).1,.str (R 0).2,.str (R 1).1,.str (R 1).2,.str (R 2).1,.str (R 2).2]]] (Ji (w a b)):=fun a b ha hb=>by
 have h1:a=0∨a=1∨a=2:=Jo
 have h2:b=0∨b=1∨b=2:=Jo
 have k:=c a b ha hb
 rcases h1 with e|e|e<;>rcases h2 with g|g|g<;>subst e<;>subst g
 ·exact cmp3_00 R _ k (hw _ _)
 ·exact cmp3_01 R _ k (hw _ _)
 ·exact cmp3_02 R _ k (hw _ _)
 ·exact cmp3_10 R _ k (hw _ _)
 ·exact cmp3_11 R _ k (hw _ _)
 ·exact cmp3_12 R _ k (hw _ _)
 ·exact cmp3_20 R _ k (hw _ _)
 ·exact cmp3_21 R _ k (hw _ _)
 ·exact cmp3_22 R _ k (hw _ _)
def txq (q:Rat):Tx:=(decZ q.num,dec q.den)
def rqN (r0 r1 r2:Rat):Nat→Rat
 | 0=>r0
 | 1=>r1
 | _=>r2
def bqN (rq:Nat→Rat)(o:List Int):Nat→Rat
 | 0=>1
 | k+1=>rq (o.getD k 0).toNat
def wqN (rq:Nat→Rat)(o:List Int)(n k:Nat):Rat:=if k=n then bqN rq o n else bqN rq o k-bqN rq o (k+1)
def slQ (Y:Nat→Tx)(n:Nat):D:=V.sl2 n (wce Y n)
theorem sel_n (r0 r1 r2:Rat):∀ i:Nat,sel r0 r1 r2 (i:Int)=rqN r0 r1 r2 i
 | 0=>by unfold sel;rw[if_pos (by rfl)];rfl
 | 1=>by unfold sel;rw[if_neg Jd,if_pos (by rfl)];rfl
 | k+2=>by unfold sel;rw[if_neg Jo,if_neg Jo];rfl
theorem cmpW_n (r0 r1 r2:Rat)(a b:Nat):cmpW r0 r1 r2 (a:Int) (b:Int)=ordQ (rqN r0 r1 r2 b) (rqN r0 r1 r2 a):=by unfold cmpW;rw[sel_n,sel_n]
theorem jie (p q:Rat):InR .i64 (ordQ p q):=by
 unfold ordQ
 split
 ·exact⟨Jd,Jd⟩
 ·split<;>exact⟨Jd,Jd⟩
theorem ja0 {n:Nat}{x:Rat}{s:Int}(h:Fq n x)(h0:0<n)(hs:2≤s∧s≤9):Fq (n+3) (spR s x):=by
 have fs:Fq 1 ((s-1:Int):Rat):=jav Jo Jo
 have bb:=jb5 hs.1 x
 have fi:Fq 1 ((spB s x:Int):Rat):=jav Jo Jo
 exact((fq_cl h h0).mul fs).sub fi
theorem fq_rq {r0 r1 r2:Rat}(h0:Fq 43 r0)(h1:Fq 43 r1)(h2:Fq 43 r2):∀ k,Fq 43 (rqN r0 r1 r2 k)
 | 0=>h0
 | 1=>h1
 | _+2=>h2
theorem fq_one:Fq 43 1:=⟨Jd,Jd⟩
theorem jbd:Fq 43 0:=⟨Jd,Jd⟩
theorem fq_bq {rq:Nat→Rat}(h:∀ k,Fq 43 (rq k))(o:List Int):∀ k,Fq 43 (bqN rq o k)
 | 0=>fq_one
 | k+1=>h _
theorem fq_wq {rq:Nat→Rat}(h:∀ k,Fq 43 (rq k))(o:List Int)(n k:Nat):Fq 87 (wqN rq o n k):=by
 unfold wqN
 split
 ·exact(fq_bq h o n).mono Jd
 ·exact(fq_bq h o k).sub (fq_bq h o (k+1))
theorem find1_q {x0:Rat}{z0:Int}(out:Int)(data:List Int)(h0:Fq 40 x0)(s0:2≤z0∧z0≤9) :
  Cl 73 [.agg [Jj [z0],Ji out,Jj data],slQ (fun i=>txq (rqN x0 0 0 i)) 1] (.tup [.agg [Jj [z0],Ji out,Jj data,Jj [spB z0 x0],Jj [0],slQ (fun k=>txq (wqN (rqN (spR z0 x0) 0 0) [0] 1 k)) 2],Ji 0]):=by
 have p0:=jd9 h0 Jd s0
 have f0:=ja0 h0 Jd s0
 have io:=jap (n:=1) Jo
 rw[show ((1:Int):Rat)=1 from rfl] at io
 have fr:∀ k,Fq 43 (rqN (spR z0 x0) 0 0 k):=fq_rq f0 jbd jbd
 have cm:=cmp1 (fun i=>txq (rqN (spR z0 x0) 0 0 i)) (cmpW (spR z0 x0) 0 0) (fun a b=>jie _ _) (fun a b _ _=>by
  have c:=zcmp (fr b) (fr a) Jd Jd
  rw[← cmpW_n] at c
  exact c)
 have g:=find1_t z0 out (spB z0 x0) data _ _ _ _ (fun i=>txq (rqN (spR z0 x0) 0 0 i)) (fun k=>txq (bqN (rqN (spR z0 x0) 0 0) (isoK (cmpW (spR z0 x0) 0 0) [0] (1-1)) k)) (fun k=>txq (bqN (rqN (spR z0 x0) 0 0) (isoK (cmpW (spR z0 x0) 0 0) [0] (1-1)) k-bqN (rqN (spR z0 x0) 0 0) (isoK (cmpW (spR z0 x0) 0 0) [0] (1-1)) (k+1))) p0 io (cmpW (spR z0 x0) 0 0) cm rfl (fun k _=>rfl) (fun k _=>zsub (fq_bq fr _ k) (fq_bq fr _ (k+1)) Jd Jd Jd)
 have e:isoK (cmpW (spR z0 x0) 0 0) [0] (1-1)=[0]:=iso1 _
 rw[e] at g
 exact g
theorem find2_q {x0 x1:Rat}{z0 z1:Int}(out:Int)(data:List Int)(h0:Fq 40 x0)(h1:Fq 40 x1)(s0:2≤z0∧z0≤9)(s1:2≤z1∧z1≤9) :
  Cl 73 [.agg [Jj [z0,z1],Ji out,Jj data],slQ (fun i=>txq (rqN x0 x1 0 i)) 2] (.tup [.agg [Jj [z0,z1],Ji out,Jj data,Jj [spB z0 x0,spB z1 x1],Jj (ord2 (spR z0 x0) (spR z1 x1)),slQ (fun k=>txq (wqN (rqN (spR z0 x0) (spR z1 x1) 0) (ord2 (spR z0 x0) (spR z1 x1)) 2 k)) 3],Ji 0]):=by
 have p0:=jd9 h0 Jd s0
 have f0:=ja0 h0 Jd s0
 have p1:=jd9 h1 Jd s1
 have f1:=ja0 h1 Jd s1
 have io:=jap (n:=1) Jo
 rw[show ((1:Int):Rat)=1 from rfl] at io
 have fr:∀ k,Fq 43 (rqN (spR z0 x0) (spR z1 x1) 0 k):=fq_rq f0 f1 jbd
 have cm:=cmp2 (fun i=>txq (rqN (spR z0 x0) (spR z1 x1) 0 i)) (cmpW (spR z0 x0) (spR z1 x1) 0) (fun a b=>jie _ _) (fun a b _ _=>by
  have c:=zcmp (fr b) (fr a) Jd Jd
  rw[← cmpW_n] at c
  exact c)
 have g:=find2_t z0 z1 out (spB z0 x0) (spB z1 x1) data _ _ _ _ _ _ (fun i=>txq (rqN (spR z0 x0) (spR z1 x1) 0 i)) (fun k=>txq (bqN (rqN (spR z0 x0) (spR z1 x1) 0) (isoK (cmpW (spR z0 x0) (spR z1 x1) 0) [0,1] (2-1)) k)) (fun k=>txq (bqN (rqN (spR z0 x0) (spR z1 x1) 0) (isoK (cmpW (spR z0 x0) (spR z1 x1) 0) [0,1] (2-1)) k-bqN (rqN (spR z0 x0) (spR z1 x1) 0) (isoK (cmpW (spR z0 x0) (spR z1 x1) 0) [0,1] (2-1)) (k+1))) p0 p1 io (cmpW (spR z0 x0) (spR z1 x1) 0) cm rfl (fun k _=>rfl) (fun k _=>zsub (fq_bq fr _ k) (fq_bq fr _ (k+1)) Jd Jd Jd)
 have e:isoK (cmpW (spR z0 x0) (spR z1 x1) 0) [0,1] (2-1)=(ord2 (spR z0 x0) (spR z1 x1)):=iso2 _ _ _
 rw[e] at g
 exact g
theorem find3_q {x0 x1 x2:Rat}{z0 z1 z2:Int}(out:Int)(data:List Int)(h0:Fq 40 x0)(h1:Fq 40 x1)(h2:Fq 40 x2)(s0:2≤z0∧z0≤9)(s1:2≤z1∧z1≤9)(s2:2≤z2∧z2≤9) :
  Cl 73 [.agg [Jj [z0,z1,z2],Ji out,Jj data],slQ (fun i=>txq (rqN x0 x1 x2 i)) 3] (.tup [.agg [Jj [z0,z1,z2],Ji out,Jj data,Jj [spB z0 x0,spB z1 x1,spB z2 x2],Jj (ord3 (spR z0 x0) (spR z1 x1) (spR z2 x2)),slQ (fun k=>txq (wqN (rqN (spR z0 x0) (spR z1 x1) (spR z2 x2)) (ord3 (spR z0 x0) (spR z1 x1) (spR z2 x2)) 3 k)) 4],Ji 0]):=by
 have p0:=jd9 h0 Jd s0
 have f0:=ja0 h0 Jd s0
 have p1:=jd9 h1 Jd s1
 have f1:=ja0 h1 Jd s1
 have p2:=jd9 h2 Jd s2
 have f2:=ja0 h2 Jd s2
 have io:=jap (n:=1) Jo
 rw[show ((1:Int):Rat)=1 from rfl] at io
 have fr:∀ k,Fq 43 (rqN (spR z0 x0) (spR z1 x1) (spR z2 x2) k):=fq_rq f0 f1 f2
 have cm:=cmp3 (fun i=>txq (rqN (spR z0 x0) (spR z1 x1) (spR z2 x2) i)) (cmpW (spR z0 x0) (spR z1 x1) (spR z2 x2)) (fun a b=>jie _ _) (fun a b _ _=>by
  have c:=zcmp (fr b) (fr a) Jd Jd
  rw[← cmpW_n] at c
  exact c)
 have g:=find3_t z0 z1 z2 out (spB z0 x0) (spB z1 x1) (spB z2 x2) data _ _ _ _ _ _ _ _ (fun i=>txq (rqN (spR z0 x0) (spR z1 x1) (spR z2 x2) i)) (fun k=>txq (bqN (rqN (spR z0 x0) (spR z1 x1) (spR z2 x2)) (isoK (cmpW (spR z0 x0) (spR z1 x1) (spR z2 x2)) [0,1,2] (3-1)) k)) (fun k=>txq (bqN (rqN (spR z0 x0) (spR z1 x1) (spR z2 x2)) (isoK (cmpW (spR z0 x0) (spR z1 x1) (spR z2 x2)) [0,1,2] (3-1)) k-bqN (rqN (spR z0 x0) (spR z1 x1) (spR z2 x2)) (isoK (cmpW (spR z0 x0) (spR z1 x1) (spR z2 x2)) [0,1,2] (3-1)) (k+1))) p0 p1 p2 io (cmpW (spR z0 x0) (spR z1 x1) (spR z2 x2)) cm rfl (fun k _=>rfl) (fun k _=>zsub (fq_bq fr _ k) (fq_bq fr _ (k+1)) Jd Jd Jd)
 have e:isoK (cmpW (spR z0 x0) (spR z1 x1) (spR z2 x2)) [0,1,2] (3-1)=(ord3 (spR z0 x0) (spR z1 x1) (spR z2 x2)):=iso3 _ _ _
 rw[e] at g
 exact g
end Go.Proofs.YtbnghipgicmpdaaGreatDoor
end
section
namespace Go.Proofs.YtbnghipgicmpdaaGreatDoor
open Go Go.V
theorem jeA (n l h:Int):Cl 112 [Ji n,Ji l,Ji h] (.bool (decide (l≤n) && decide (n≤h))):=by
 refine V.en tbOk Tryz.func112 ?_
 (conv=>whnf)
 refine V.st ?_
 exact Fin.same _
theorem jdE (n l h:Int):Cl 74 [Ji n,Ji l,Ji h] (.bool (decide (l≤n) && decide (n≤h))):=by
 refine V.en tbOk Tryz.func74 ?_
 (conv=>whnf)
 refine V.st ?_
 exact Fin.same _
def prod (xs:List Int):Int:=xs.foldl (· * ·) 1
theorem jce {xs:List Int}{k:Nat}{x:Int}(h:xs[k]? = some x):prod (xs.take (k+1))=prod (xs.take k)*x:=by
 rw[jky,h];simp[prod]
theorem product_c (xs:List Int)(hx:∀ k,k≤xs.length→InR .i64 (prod (xs.take k)))(hl:xs.length≤281474976710656):Cl 113 [Jj xs] (Ji (prod xs)):=by
 refine V.en tbOk Tryz.func113 ?_
 (conv=>whnf)
 refine lp_go (xs.length) (fun k=>True) (fun k=>[(3,Ji (prod (xs.take k))),(8,Ji k)]) (fun k=>[]) V.wk ?_ ?_
 ·trivial
 intro k hk _
 (conv=>whnf)
 refine V.st ?_
 refine V.br (fun h=>?_) (fun h=>?_)
 ·simp only[decide_eq_true_eq] at h
  obtain⟨x,hx1,ex⟩:=getx (xs:=xs) (k:=k) Jo
  have hp:=jce hx1
  have hr:=hx (k+1) Jo
  (conv=>whnf)
  refine V.st ?_
  rw[ex,← hp]
  refine V.st ?_
  exact⟨k+1,⟨Jo,trivial⟩,Jo,V.wk⟩
 ·simp only[decide_eq_false_iff_not] at h
  (conv=>whnf)
  refine V.st ?_
  have:prod (xs.take k)=prod xs:=by rw[jko Jo]
  rw[this]
  exact Fin.same _
theorem jgL (xs:List Int)(hx:∀ k,k≤xs.length→InR .i64 (prod (xs.take k)))(hl:xs.length≤281474976710656):Cl 62 [Jj xs] (Ji (prod xs)):=by
 refine V.en tbOk Tryz.func62 ?_
 (conv=>whnf)
 refine lp_go (xs.length) (fun k=>True) (fun k=>[(3,Ji (prod (xs.take k))),(4,Ji k)]) (fun k=>[]) V.wk ?_ ?_
 ·trivial
 intro k hk _
 (conv=>whnf)
 refine V.st ?_
 refine V.br (fun h=>?_) (fun h=>?_)
 ·simp only[decide_eq_true_eq] at h
  obtain⟨x,hx1,ex⟩:=getx (xs:=xs) (k:=k) Jo
  have hp:=jce hx1
  have hr:=hx (k+1) Jo
  (conv=>whnf)
  refine V.st ?_
  rw[ex,← hp]
  refine V.st ?_
  exact⟨k+1,⟨Jo,trivial⟩,Jo,V.wk⟩
 ·simp only[decide_eq_false_iff_not] at h
  (conv=>whnf)
  refine V.st ?_
  have:prod (xs.take k)=prod xs:=by rw[jko Jo]
  rw[this]
  exact Fin.same _
theorem jg5 (xs ys:List Int)(hl:xs.length≤281474976710656)(hm:ys.length≤281474976710656):Cl 15 [Jj xs,Jj ys] (.bool (decide (xs=ys))):=by
 refine V.en tbOk Tryz.func15 ?_
 (conv=>whnf)
 refine V.br (fun h=>?_) (fun h=>?_)
 ·have hne:xs≠ys:=fun e=>by subst e;simp at h
  (conv=>whnf)
  refine V.st ?_
  exact Fin.of (by simp[hne])
 have hle:xs.length=ys.length:=by simp at h;omega
 clear h
 (conv=>whnf)
 refine V.st ?_
 refine lp_go (xs.length) (fun k=>xs.take k=ys.take k) (fun k=>[(13,Ji k)]) (fun k=>[]) V.wk ?_ ?_
 ·rfl
 intro k hk hI
 (conv=>whnf)
 refine V.st ?_
 refine V.br (fun h=>?_) (fun h=>?_)
 ·simp only[decide_eq_true_eq] at h
  obtain⟨x,hx1,ex⟩:=getx (xs:=xs) (k:=k) Jo
  obtain⟨y,hy1,ey⟩:=getx (xs:=ys) (k:=k) Jo
  (conv=>whnf)
  refine V.st ?_
  refine⟨Pq27z,[],V.pok,.go (jac ?_)⟩
  (conv=>whnf)
  refine V.st ?_
  rw[ex,ey]
  refine V.br (fun hb=>?_) (fun hb=>?_)
  ·have hne:xs≠ys:=fun e=>by subst e;rw[hx1] at hy1;cases hy1;simp at hb
   (conv=>whnf)
   refine V.st ?_
   exact Fin.of (by simp[hne])
  ·have hxy:x=y:=by simpa using hb
   (conv=>whnf)
   refine V.st ?_
   exact⟨k+1,⟨Jo,(by rw[jky,jky,hI,hx1,hy1,hxy])⟩,Jo,V.wk⟩
 ·simp only[decide_eq_false_iff_not] at h
  have:xs=ys:=by rw[← jko (l:=xs) (i:=k) Jo,← jko (l:=ys) (i:=k) Jo,hI]
  (conv=>whnf)
  refine V.st ?_
  exact Fin.of (by simp[this])
theorem clone_c (xs:List Int)(hl:xs.length≤17592186044416):Cl 25 [Jj xs] (Jj xs):=by
 refine V.en tbOk Tryz.func25 ?_
 (conv=>whnf)
 refine⟨fun h=>?_,fun _=>?_⟩
 ·have hx:=h rfl
  subst hx
  (conv=>whnf)
  refine V.st ?_
  exact Fin.nil _
 ·(conv=>whnf)
  refine⟨fun _=>⟨rfl,by simpa using hl⟩,?_⟩
  (conv=>whnf)
  exact Fin.of Js
def gridD (size:List Int)(out:Int)(data:List Int):D := .agg [Jj size,Ji out,Jj data]
def jaf (size:List Int)(out:Int)(data:List Int):Bool:=
 decide (1≤size.length∧size.length≤4) && decide (1≤out∧out≤4) && size.all (fun n=>decide (2≤n∧n≤9)) && decide ((data.length:Int)≤4096∧(data.length:Int)=prod size*out) && data.all fun v=>decide (0≤v∧v≤65535)
theorem jfj {size:List Int}{out:Int}{data:List Int}{k:Nat}{x:Int}(hx:size[k]? = some x)(h:¬ (2≤x∧x≤9)):jaf size out data=false:=by
 have hm:x∈size:=jkc hx
 have:size.all (fun n=>decide (2≤n∧n≤9))=false:=by
  rw[List.all_eq_false];exact⟨x,hm,by simpa using h⟩
 unfold jaf;rw[this];simp only[Bool.and_false,jj3]
theorem jfk {size:List Int}{out:Int}{data:List Int}{k:Nat}{x:Int}(hx:data[k]? = some x)(h:¬ (0≤x∧x≤65535)):jaf size out data=false:=by
 have hm:x∈data:=jkc hx
 have:data.all (fun v=>decide (0≤v∧v≤65535))=false:=by
  rw[List.all_eq_false];exact⟨x,hm,by simpa using h⟩
 unfold jaf;rw[this];simp only[Bool.and_false,jj3]
theorem jdq {size:List Int}(hall:size.all (fun n=>decide (2≤n∧n≤9))=true)(k:Nat):0≤prod (size.take k)∧(size.length≤4→prod (size.take k)≤6561)∧(size.length≤4→InR .i64 (prod (size.take k))):=by
 have hb:∀ l:List Int,(∀ n∈l,2≤n∧n≤9) → ∀ a:Int,0≤a→0≤l.foldl (· * ·) a∧l.foldl (· * ·) a≤a*9^l.length:=by
  intro l
  induction l with
  | nil=>intro _ a ha;simp;exact ha
  | cons x l ih=>
   intro hl a ha
   have hx:=hl x Js
   have h1:0≤a*x:=jjB ha Jo
   have h2:=ih (fun n hn=>hl n (by simp[hn])) (a*x) h1
   refine⟨h2.1,Int.le_trans h2.2 ?_⟩
   have h3:a*x≤a*9:=jjU hx.2 ha
   have h4:a*x*9^l.length≤a*9*9^l.length:=jjM h3 (Int.pow_nonneg Jo)
   have h5:a*9^(x::l).length=a*9*9^l.length:=by
    rw[jkn,Int.pow_succ,jjS _ 9,← jjT]
   rw[h5];exact h4
 simp only[jj7,decide_eq_true_eq] at hall
 have h1:=hb (size.take k) (fun n hn=>hall n (jkj hn)) 1 Jo
 have h2:size.length≤4→prod (size.take k)≤6561:=by
  intro h
  refine Int.le_trans h1.2 ?_
  have:(size.take k).length≤4:=by simp;omega
  generalize (size.take k).length=m at this
  match m,this with
  | 0,_=>decide
  | 1,_=>decide
  | 2,_=>decide
  | 3,_=>decide
  | 4,_=>decide
  | m+5,h=>omega
 refine⟨h1.1,h2,fun h=>?_⟩
 have h3:=h2 h
 have h4:=h1.1
 simp only[V.InR,lo,hi]
 simp only[prod] at *
 omega
theorem prodm_bd {size:List Int}{out:Int}(hall:size.all (fun n=>decide (2≤n∧n≤9))=true)(h1:size.length≤4)(h2:1≤out∧out≤4):InR .i64 (prod size*out):=by
 have h3:=jdq hall size.length
 rw[jkz] at h3
 have h4:prod size≤6561:=h3.2.1 h1
 have h5:0≤prod size*out:=jjB h3.1 Jo
 have h6:prod size*out≤6561*4:=Int.mul_le_mul h4 h2.2 Jo Jo
 simp only[V.InR,lo,hi];omega
theorem jfJ (size:List Int)(out:Int)(data:List Int)(hs:size.length≤281474976710656)(hd:data.length≤281474976710656) :
  Cl 58 [gridD size out data] (Ji (if jaf size out data then 0 else 100)):=by
 refine V.en tbOk Tryz.func58 ?_
 (conv=>whnf)
 refine V.st ?_
 repeat ((try ((with_reducible refine .ext ?_);(conv=>whnf)));(with_reducible refine jaa (r:=?_) ?_ ?_);rotate_left;(focus (first|exact(jeA _ _ _)));(conv=>whnf);refine V.st ?_)
 refine V.br (fun h=>?_) (fun h=>?_)
 ·(conv=>whnf)
  refine V.st ?_
  refine Fin.of ?_
  have:jaf size out data=false:=by
   simp only[jaf]
   simp at h
   simp
   omega
  rw[this];rfl
 have h1:1≤size.length∧size.length≤4∧1≤out∧out≤4:=by
  simp at h;omega
 clear h
 (conv=>whnf)
 refine V.st ?_
 refine lp_inv size.length (fun k=>(size.take k).all (fun n=>decide (2≤n∧n≤9))=true) (fun k=>[(1,.box 1 0),(19,Jj size),(20,Ji size.length),(21,Ji k)]) (fun _=>[(1,.box [Jj size,Ji out,Jj data])]) ?_ rfl ?_
 ·exact Wk.of ⟨rfl,rfl,rfl,rfl,trivial⟩ ⟨rfl,trivial⟩
 intro k hk hI
 (conv=>whnf)
 refine V.st ?_
 refine V.br (fun h=>?_) (fun h=>?_)
 ·simp only[decide_eq_true_eq] at h
  obtain⟨x,hx1⟩:∃ x,size[k]? = some x:=⟨size[k],jkb Jo⟩
  have ex:=V.getD_toNat size k x hx1
  (conv=>whnf)
  refine V.st ?_
  repeat ((try ((with_reducible refine .ext ?_);(conv=>whnf)));(with_reducible refine jaa (r:=?_) ?_ ?_);rotate_left;(focus (first|exact(jeA _ _ _)));(conv=>whnf);refine V.st ?_)
  rw[ex]
  refine V.br (fun h=>?_) (fun h=>?_)
  ·(conv=>whnf)
   refine V.st ?_
   refine Fin.of ?_
   rw[jfj hx1 (by simp at h;omega)];rfl
  ·(conv=>whnf)
   refine V.st ?_
   exact⟨k+1,⟨Jo,by rw[jky,List.all_append,hI,hx1];simp at h ⊢; omega⟩,Jo,Wk.of ⟨rfl,rfl,rfl,rfl,trivial⟩ ⟨rfl,trivial⟩⟩
 ·(conv=>whnf)
  refine V.st ?_
  simp only[decide_eq_false_iff_not] at h
  have hall:size.all (fun n=>decide (2≤n∧n≤9))=true:=by rw[← hI,jko Jo]
  have hp:=jdq hall
  have hm:=prodm_bd hall h1.2.1 h1.2.2
  refine⟨(V.tk [0,1,2,3,4,5,6,7,8,9,11,12] (V.e1 10 [12,11,7,6,5] (V.tk [13,14,15] .done))),[],V.pok,.go (jac ?_)⟩
  (conv=>whnf)
  refine V.st ?_
  repeat ((try ((with_reducible refine .ext ?_);(conv=>whnf)));(with_reducible refine jaa (r:=?_) ?_ ?_);rotate_left;(focus (first|exact(product_c _ (fun k _=>(hp k).2.2 h1.2.1) hs)));(conv=>whnf);refine V.st ?_)
  refine V.br (fun h=>?_) (fun h=>?_)
  ·(conv=>whnf)
   refine V.st ?_
   refine Fin.of ?_
   have:jaf size out data=false:=by
    unfold jaf
    have:(decide ((data.length:Int)≤4096∧(data.length:Int)=prod size*out))=false:=by simp at h ⊢; omega
    rw[this];simp
   rw[this];rfl
  have h2:(data.length:Int)≤4096∧(data.length:Int)=prod size*out:=by simp at h;omega
  clear h
  (conv=>whnf)
  refine V.st ?_
  refine lp_inv data.length (fun k=>(data.take k).all (fun v=>decide (0≤v∧v≤65535))=true) (fun k=>[(1,.box 1 0),(46,Jj data),(47,Ji data.length),(48,Ji k)]) (fun _=>[(1,.box [Jj size,Ji out,Jj data])]) ?_ rfl ?_
  ·exact Wk.of ⟨rfl,rfl,rfl,rfl,trivial⟩ ⟨rfl,trivial⟩
  intro k hk hI
  (conv=>whnf)
  refine V.st ?_
  refine V.br (fun h=>?_) (fun h=>?_)
  ·simp only[decide_eq_true_eq] at h
   obtain⟨x,hx1⟩:∃ x,data[k]? = some x:=⟨data[k],jkb Jo⟩
   have ex:=V.getD_toNat data k x hx1
   (conv=>whnf)
   refine V.st ?_
   repeat ((try ((with_reducible refine .ext ?_);(conv=>whnf)));(with_reducible refine jaa (r:=?_) ?_ ?_);rotate_left;(focus (first|exact(jeA _ _ _)));(conv=>whnf);refine V.st ?_)
   rw[ex]
   refine V.br (fun h=>?_) (fun h=>?_)
   ·(conv=>whnf)
    refine V.st ?_
    refine Fin.of ?_
    rw[jfk hx1 (by simp at h;omega)];rfl
   ·(conv=>whnf)
    refine V.st ?_
    exact⟨k+1,⟨Jo,by rw[jky,List.all_append,hI,hx1];simp at h ⊢; omega⟩,Jo,Wk.of ⟨rfl,rfl,rfl,rfl,trivial⟩ ⟨rfl,trivial⟩⟩
  ·(conv=>whnf)
   refine V.st ?_
   simp only[decide_eq_false_iff_not] at h
   have hall2:data.all (fun v=>decide (0≤v∧v≤65535))=true:=by rw[← hI,jko Jo]
   have:jaf size out data=true:=by
    unfold jaf
    rw[hall,hall2];simp;omega
   refine Fin.of ?_
   rw[this];rfl
theorem jcS (size:List Int)(out:Int)(data:List Int)(hs:size.length≤281474976710656)(hd:data.length≤281474976710656) :
  Cl 35 [gridD size out data] (.bool (jaf size out data)):=by
 refine V.en tbOk Tryz.func35 ?_
 (conv=>whnf)
 refine V.st ?_
 repeat ((try ((with_reducible refine .ext ?_);(conv=>whnf)));(with_reducible refine jaa (r:=?_) ?_ ?_);rotate_left;(focus (first|exact(jdE _ _ _)));(conv=>whnf);refine V.st ?_)
 refine V.br (fun h=>?_) (fun h=>?_)
 ·(conv=>whnf)
  refine V.st ?_
  refine Fin.of ?_
  have:jaf size out data=false:=by
   simp only[jaf]
   simp at h
   simp
   omega
  rw[this]
 have h1:1≤size.length∧size.length≤4∧1≤out∧out≤4:=by
  simp at h;omega
 clear h
 (conv=>whnf)
 refine V.st ?_
 refine lp_go (size.length) (fun k=>(size.take k).all (fun n=>decide (2≤n∧n≤9))=true) (fun k=>[(3,Ji k)]) (fun k=>[]) V.wk ?_ ?_
 ·rfl
 intro k hk hI
 (conv=>whnf)
 refine V.st ?_
 refine V.br (fun h=>?_) (fun h=>?_)
 ·simp only[decide_eq_true_eq] at h
  obtain⟨x,hx1,ex⟩:=getx (xs:=size) (k:=k) Jo
  (conv=>whnf)
  refine V.st ?_
  repeat ((try ((with_reducible refine .ext ?_);(conv=>whnf)));(with_reducible refine jaa (r:=?_) ?_ ?_);rotate_left;(focus (first|exact(jdE _ _ _)));(conv=>whnf);refine V.st ?_)
  rw[ex]
  refine V.br (fun h=>?_) (fun h=>?_)
  ·(conv=>whnf)
   refine V.st ?_
   refine Fin.of ?_
   rw[jfj hx1 (by simp at h;omega)]
  ·(conv=>whnf)
   refine V.st ?_
   exact⟨k+1,⟨Jo,(by rw[jky,List.all_append,hI,hx1];simp at h ⊢; omega)⟩,Jo,V.wk⟩
 ·(conv=>whnf)
  refine V.st ?_
  simp only[decide_eq_false_iff_not] at h
  have hall:size.all (fun n=>decide (2≤n∧n≤9))=true:=by rw[← hI,jko Jo]
  have hp:=jdq hall
  have hm:=prodm_bd hall h1.2.1 h1.2.2
  refine⟨(V.tk [0,1,2,3,4,6,7] (V.e1 5 [7,6,2,1,0] (V.tk [8,9,10,11,12,13,14,15] .done))),[],V.pok,.go (jac ?_)⟩
  (conv=>whnf)
  refine V.st ?_
  repeat ((try ((with_reducible refine .ext ?_);(conv=>whnf)));(with_reducible refine jaa (r:=?_) ?_ ?_);rotate_left;(focus (first|exact(jgL _ (fun k _=>(hp k).2.2 h1.2.1) hs)));(conv=>whnf);refine V.st ?_)
  refine V.br (fun h=>?_) (fun h=>?_)
  ·(conv=>whnf)
   refine V.st ?_
   refine Fin.of ?_
   have:jaf size out data=false:=by
    unfold jaf
    have:(decide ((data.length:Int)≤4096∧(data.length:Int)=prod size*out))=false:=by simp at h ⊢; omega
    rw[this];simp
   rw[this]
  have h2:(data.length:Int)≤4096∧(data.length:Int)=prod size*out:=by simp at h;omega
  clear h
  (conv=>whnf)
  refine V.st ?_
  refine lp_go (data.length) (fun k=>(data.take k).all (fun v=>decide (0≤v∧v≤65535))=true) (fun k=>[(4,Ji k)]) (fun k=>[]) V.wk ?_ ?_
  ·rfl
  intro k hk hI
  (conv=>whnf)
  refine V.st ?_
  refine V.br (fun h=>?_) (fun h=>?_)
  ·simp only[decide_eq_true_eq] at h
   obtain⟨x,hx1,ex⟩:=getx (xs:=data) (k:=k) Jo
   (conv=>whnf)
   refine V.st ?_
   repeat ((try ((with_reducible refine .ext ?_);(conv=>whnf)));(with_reducible refine jaa (r:=?_) ?_ ?_);rotate_left;(focus (first|exact(jdE _ _ _)));(conv=>whnf);refine V.st ?_)
   rw[ex]
   refine V.br (fun h=>?_) (fun h=>?_)
   ·(conv=>whnf)
    refine V.st ?_
    refine Fin.of ?_
    rw[jfk hx1 (by simp at h;omega)]
   ·(conv=>whnf)
    refine V.st ?_
    exact⟨k+1,⟨Jo,(by rw[jky,List.all_append,hI,hx1];simp at h ⊢; omega)⟩,Jo,V.wk⟩
  ·(conv=>whnf)
   refine V.st ?_
   simp only[decide_eq_false_iff_not] at h
   have hall2:data.all (fun v=>decide (0≤v∧v≤65535))=true:=by rw[← hI,jko Jo]
   have:jaf size out data=true:=by
    unfold jaf
    rw[hall,hall2];simp;omega
   refine Fin.of ?_
   rw[this]
def pz (z:List (Int×Int)):Int:=z.foldl (fun p a=>p*a.1+a.2) 0
def okIdx (size xs:List Int):Bool:=decide (xs.length=size.length) && (size.zip xs).all fun a=>decide (0≤a.2∧a.2≤a.1-1)
def pad4 (xs:List Int):List Int:=xs++List.replicate (4-xs.length) 0
theorem jaG {xs:List Int}(h:xs.length≤4):(pad4 xs).length=4:=by simp[pad4];omega
theorem jgO {xs:List Int}{k:Nat}{x:Int}(h:xs[k]? = some x)(hl:xs.length≤4):(pad4 (xs.take k)).set k x=pad4 (xs.take (k+1)):=by
 have hk:k<xs.length:=(jkh.1 h).1
 refine List.ext_getElem? fun j=>?_
 rw[List.getElem?_set]
 have h1:(xs.take k).length=k:=by simp;omega
 have h2:(xs.take (k+1)).length=k+1:=by simp;omega
 have hp:(pad4 (xs.take k)).length=4:=jaG Jo
 by_cases e:k=j
 ·subst e
  rw[if_pos rfl,if_pos Jo]
  unfold pad4
  rw[jkg Jo,jkx Jo,h]
 ·rw[if_neg e]
  unfold pad4
  rw[h1,h2]
  by_cases hj:j<k
  ·rw[jkg Jo,jkg Jo,jkx hj,jkx Jo]
  ·rw[jkp Jo,jkp Jo,h1,h2]
   simp only[List.getElem?_replicate]
   by_cases hj4:j<4
   ·rw[if_pos Jo,if_pos Jo]
   ·rw[if_neg Jo,if_neg Jo]
theorem pz_bd_aux (z:List (Int×Int)):∀ (p q:Int),(∀ a∈z,0≤a.2∧a.2≤a.1-1)→0≤p→p+1≤q →
  0≤z.foldl (fun p a=>p*a.1+a.2) p∧z.foldl (fun p a=>p*a.1+a.2) p+1≤(z.map (·.1)).foldl (· * ·) q:=by
 induction z with
 | nil=>intro p q _ h1 h2;exact⟨h1,h2⟩
 | cons a z ih=>
  intro p q h h1 h2
  have ha:=h a Js
  simp only[List.foldl_cons,List.map_cons]
  have h3:0≤p*a.1:=jjB h1 Jo
  have h4:(p+1)*a.1≤q*a.1:=jjM h2 Jo
  rw[jj1] at h4
  exact ih _ _ (fun b hb=>h b (by simp[hb])) Jo Jo
theorem pz_bd {z:List (Int×Int)}(h:∀ a∈z,0≤a.2∧a.2≤a.1-1):0≤pz z∧pz z+1≤prod (z.map (·.1)):=pz_bd_aux z 0 1 h Jo Jo
theorem ja7 {size xs:List Int} : okIdx size xs=true↔xs.length=size.length ∧ ∀ (k:Nat) (n x:Int),size[k]? = some n→xs[k]? = some x→0≤x∧x≤n-1:=by
 unfold okIdx
 rw[jjv,decide_eq_true_eq,jj7]
 constructor
 ·rintro⟨h1,h2⟩
  refine⟨h1,fun k n x hn hx=>?_⟩
  have:=h2 (n,x) (jkc (i:=k) (by rw[List.getElem?_zip_eq_some];exact⟨hn,hx⟩))
  simpa using this
 ·rintro⟨h1,h2⟩
  refine⟨h1,fun a ha=>?_⟩
  obtain⟨k,hk⟩:=List.getElem?_of_mem ha
  rw[List.getElem?_zip_eq_some] at hk
  simpa using h2 k _ _ hk.1 hk.2
theorem jaT {size:List Int}{out:Int}{data:List Int}(h:jaf size out data=true):1≤size.length∧size.length≤4∧1≤out∧out≤4∧size.all (fun n=>decide (2≤n∧n≤9))=true∧(data.length:Int)≤4096∧(data.length:Int)=prod size*out∧data.all (fun v=>decide (0≤v∧v≤65535))=true:=by
 unfold jaf at h
 simp only[jjv] at h
 obtain⟨⟨⟨⟨h1,h2⟩,h3⟩,h4⟩,h5⟩:=h
 simp only[decide_eq_true_eq] at h1 h2 h4
 exact⟨h1.1,h1.2,h2.1,h2.2,h3,h4.1,h4.2,h5⟩
theorem jf9 {size xs:List Int}{n x:Int}(h:okIdx size xs=true)(hl:size.length=xs.length)(hx:0≤x∧x≤n-1):okIdx (size++[n].toArray.toList) (xs++[x].toArray.toList)=true:=by
 unfold okIdx at *
 rw[List.zip_append hl]
 simp at *
 exact⟨Jo,h.2,Jo⟩
theorem find_c (size:List Int)(out:Int)(data xs:List Int)(hg:jaf size out data=true)(hx:xs.length≤281474976710656) :
  Cl 186 [gridD size out data,Jj xs] (.tup [.iarr .i64 (if okIdx size xs then pad4 xs else [0,0,0,0]),.bool (okIdx size xs)]):=by
 have hG:=jaT hg
 refine V.en tbOk Tryz.func186 ?_
 (conv=>whnf)
 refine V.st ?_
 refine V.br (fun h=>?_) (fun h=>?_)
 ·have:okIdx size xs=false:=by
   unfold okIdx
   simp at h;simp;omega
  (conv=>whnf)
  refine V.st ?_
  rw[this]
  exact Fin.of rfl
 have hl:xs.length=size.length:=by simp at h;omega
 clear h
 (conv=>whnf)
 refine V.st ?_
 refine lp_go (xs.length) (fun k=>okIdx (size.take k) (xs.take k)=true) (fun k=>[(19,Ji k)]) (fun k=>[(6,.arr .i64 (pad4 (xs.take k)))]) V.wk ?_ ?_
 ·rfl
 intro k hk hI
 (conv=>whnf)
 refine V.st ?_
 refine V.br (fun h=>?_) (fun h=>?_)
 ·simp only[decide_eq_true_eq] at h
  obtain⟨x,hx1,ex⟩:=getx (xs:=xs) (k:=k) Jo
  obtain⟨n,hn1,en⟩:=getx (xs:=size) (k:=k) Jo
  have hnb:2≤n∧n≤9:=by
   have:=jj7.1 hG.2.2.2.2.1 n (jkc hn1)
   simpa using this
  (conv=>whnf)
  refine V.st ?_
  rw[en]
  refine V.st ?_
  repeat ((try ((with_reducible refine .ext ?_);(conv=>whnf)));(with_reducible refine jaa (r:=?_) ?_ ?_);rotate_left;(focus (first|exact(jeA _ _ _)));(conv=>whnf);refine V.st ?_)
  rw[ex]
  refine V.br (fun h=>?_) (fun h=>?_)
  ·have:okIdx size xs=false:=by
    cases hb:okIdx size xs with
    | false=>rfl
    | true=>
     have:=(ja7.1 hb).2 k n x hn1 hx1
     simp at h;omega
   (conv=>whnf)
   refine V.st ?_
   rw[this]
   exact Fin.of rfl
  ·(conv=>whnf)
   refine V.st ?_
   simp only[jaG (xs:=xs.take k) (by simp;omega)]
   refine V.st ?_
   simp only[jjC,jjF]
   rw[jgO hx1 Jo]
   exact⟨k+1,⟨Jo,(by rw[jky,jky,hn1,hx1];exact jf9 (n:=n) (x:=x) hI (by simp[jke];omega) (by simp at h;omega))⟩,Jo,V.wk⟩
 ·simp only[decide_eq_false_iff_not] at h
  rw[jko Jo,jko Jo] at hI
  (conv=>whnf)
  refine V.st ?_
  have hp4:(pad4 xs).length=4:=jaG Jo
  rw[jko Jo]
  refine V.st ?_
  rw[hI]
  exact Fin.of rfl
theorem place_c (size:List Int)(out:Int)(data xs:List Int)(hg:jaf size out data=true)(hx:xs.length=4)(hi:∀ (k:Nat) (n x:Int),size[k]? = some n→xs[k]? = some x→0≤x∧x≤n-1) :
  Cl 189 [gridD size out data,.iarr .i64 xs] (Ji (pz (size.zip xs)*out)):=by
 have hG:=jaT hg
 have hb:∀ k,k≤size.length→0≤pz ((size.zip xs).take k)∧pz ((size.zip xs).take k)+1≤6561:=fun k hk=>by
  have h1:=pz_bd (z:=(size.zip xs).take k) (fun a ha=>by
   obtain⟨j,hj⟩:=List.getElem?_of_mem (jkj ha)
   rw[List.getElem?_zip_eq_some] at hj
   exact hi j _ _ hj.1 hj.2)
  have h2:=(jdq hG.2.2.2.2.1 k).2.1 hG.2.1
  have h3:((size.zip xs).take k).map (·.1)=size.take k:=by
   rw[List.map_take,List.map_fst_zip Jo]
  rw[h3] at h1
  omega
 have hb2:=hb size.length Jo
 rw[jko (by simp;omega)] at hb2
 refine V.en tbOk Tryz.func189 ?_
 (conv=>whnf)
 refine V.st ?_
 refine lp_go (size.length) (fun k=>True) (fun k=>[(5,Ji (pz ((size.zip xs).take k))),(12,Ji k)]) (fun k=>[]) V.wk ?_ ?_
 ·trivial
 intro k hk _
 (conv=>whnf)
 refine V.st ?_
 refine V.br (fun h=>?_) (fun h=>?_)
 ·simp only[decide_eq_true_eq] at h
  obtain⟨n,hn1,en⟩:=getx (xs:=size) (k:=k) Jo
  obtain⟨x,hx1,ex⟩:=getx (xs:=xs) (k:=k) Jo
  have hz:(size.zip xs)[k]? = some (n,x):=by rw[List.getElem?_zip_eq_some];exact⟨hn1,hx1⟩
  have hs:pz ((size.zip xs).take (k+1))=pz ((size.zip xs).take k)*n+x:=by
   rw[jky,hz];simp[pz]
  have h1:=hb k Jo
  have h2:=hb (k+1) Jo
  have h3:=hi k n x hn1 hx1
  rw[hs] at h2
  have h4:0≤pz ((size.zip xs).take k)*n:=jjB h1.1 Jo
  refine V.r0 (V.a3 @en ex @jjC) ?_
  rw[← hs]
  exact⟨k+1,⟨Jo,trivial⟩,Jo,V.wk⟩
 ·simp only[decide_eq_false_iff_not] at h
  rw[jko (l:=size.zip xs) (by simp;omega)]
  have hm:InR .i64 (pz (size.zip xs)*out):=by
   have h5:0≤pz (size.zip xs)*out:=jjB hb2.1 Jo
   have h6:pz (size.zip xs)*out≤6561*4:=Int.mul_le_mul Jo Jo Jo Jo
   simp only[V.InR,lo,V.hi];omega
  (conv=>whnf)
  refine V.st ?_
  exact Fin.same _
theorem pz_last {size:List Int}{out:Int}{data xs:List Int}(hg:jaf size out data=true)(hx:size.length≤xs.length)(hi:∀ (k:Nat) (n x:Int),size[k]? = some n→xs[k]? = some x→0≤x∧x≤n-1) :
  0≤pz (size.zip xs)*out∧pz (size.zip xs)*out+out≤data.length:=by
 have hG:=jaT hg
 have h1:=pz_bd (z:=size.zip xs) (fun a ha=>by
  obtain⟨j,hj⟩:=List.getElem?_of_mem ha
  rw[List.getElem?_zip_eq_some] at hj
  exact hi j _ _ hj.1 hj.2)
 rw[List.map_fst_zip Jo] at h1
 refine⟨jjB h1.1 Jo,?_⟩
 have h2:(pz (size.zip xs)+1)*out≤prod size*out:=jjM h1.2 Jo
 rw[jj1] at h2
 omega
def slot (data:List Int)(p out:Int):List Int:=(data.drop p.toNat).take out.toNat
theorem slot_copy {data:List Int}{p out:Int}(h1:0≤p)(h2:0≤out)(h3:p+out≤data.length) :
  List.take out.toNat (V.setAt (List.replicate out.toNat 0) 0 (List.take out.toNat (List.drop p.toNat (List.take (p+out).toNat data))))=slot data p out:=by
 have e1:List.take out.toNat (List.drop p.toNat (List.take (p+out).toNat data))=slot data p out:=by
  have:(p+out).toNat=p.toNat+out.toNat:=Jo
  rw[this,List.drop_take,List.take_take]
  simp[slot]
 rw[e1]
 have hl:(slot data p out).length=out.toNat:=by simp[slot];omega
 unfold V.setAt
 rw[List.take_zero,jkk,jkl Jo,jko Jo]
theorem values_c (size:List Int)(out:Int)(data xs:List Int)(hg:jaf size out data=true)(hx:xs.length=4)(hi:∀ (k:Nat) (n x:Int),size[k]? = some n→xs[k]? = some x→0≤x∧x≤n-1) :
  Cl 149 [gridD size out data,.iarr .i64 xs] (Jj (slot data (pz (size.zip xs)*out) out)):=by
 have hG:=jaT hg
 have hp:=pz_last hg Jo hi
 refine V.en tbOk Tryz.func149 ?_
 (conv=>whnf)
 refine V.st ?_
 repeat ((try ((with_reducible refine .ext ?_);(conv=>whnf)));(with_reducible refine jaa (r:=?_) ?_ ?_);rotate_left;(focus (first|exact(place_c _ _ _ _ hg hx hi)));(conv=>whnf);refine V.st ?_)
 try refine And.intro (fun _=>⟨Jo,Js⟩) ?_
 (conv=>whnf)
 refine V.st ?_
 exact Fin.of (by rw[slot_copy hp.1 Jo hp.2])
theorem jh1 {data:List Int}{p out:Int}(h1:0≤p)(h2:0≤out)(h3:p+out≤data.length):(slot data p out).length=out.toNat:=by
 simp[slot];omega
theorem jfi {size xs:List Int}(h:okIdx size xs=true)(h4:size.length≤4):(pad4 xs).length=4 ∧ ∀ (k:Nat) (n x:Int),size[k]? = some n→(pad4 xs)[k]? = some x→0≤x∧x≤n-1:=by
 obtain⟨h1,h2⟩:=ja7.1 h
 refine⟨jaG Jo,fun k n x hn hx=>?_⟩
 have hk:=(jkh.1 hn).1
 unfold pad4 at hx
 rw[jkg Jo] at hx
 exact h2 k n x hn hx
theorem zip_pad {size xs:List Int}(h:okIdx size xs=true):size.zip (pad4 xs)=size.zip xs:=by
 obtain⟨h1,h2⟩:=ja7.1 h
 unfold pad4
 have:=List.zip_append (l₁:=size) (r₁:=([]:List Int)) (l₂:=xs) (r₂:=List.replicate (4-xs.length) 0) h1.symm
 simpa using this
theorem gat_c (size:List Int)(out:Int)(data xs:List Int)(hs:size.length≤281474976710656)(hd:data.length≤281474976710656)(hx:xs.length≤281474976710656) :
  Cl 140 [gridD size out data,Jj xs] (.tup [Jj (if jaf size out data && okIdx size xs then slot data (pz (size.zip xs)*out) out else []),Ji (if jaf size out data then (if okIdx size xs then 0 else 2) else 100)]):=by
 refine V.en tbOk Tryz.func140 ?_
 (conv=>whnf)
 refine V.st ?_
 repeat ((try ((with_reducible refine .ext ?_);(conv=>whnf)));(with_reducible refine jaa (r:=?_) ?_ ?_);rotate_left;(focus (first|exact(jfJ _ _ _ hs hd)));(conv=>whnf);refine V.st ?_)
 cases hg:jaf size out data with
 | false=>
  refine V.br (fun h=>?_) (fun h=>?_)
  ·(conv=>whnf)
   refine V.st ?_
   exact Fin.tup ⟨Fin.nil _,Fin.of rfl,trivial⟩
  ·simp at h
 | true=>
  have hG:=jaT hg
  refine V.br (fun h=>?_) (fun h=>?_)
  ·simp at h
  have hpl:(if okIdx size xs=true then pad4 xs else [0,0,0,0]).length=4:=by
   split
   ·rename_i h;exact(jfi h hG.2.1).1
   ·rfl
  (conv=>whnf)
  refine V.st ?_
  repeat ((try ((with_reducible refine .ext ?_);(conv=>whnf)));(with_reducible refine jaa (r:=?_) ?_ ?_);rotate_left;(focus (first|exact(find_c _ _ _ _ hg hx)));(conv=>whnf);refine V.st ?_)
  refine V.br (fun hi=>?_) (fun hi=>?_)
  ·have hi2:okIdx size xs=false:=by simpa using hi
   (conv=>whnf)
   refine V.st ?_
   rw[hi2]
   exact Fin.tup ⟨Fin.nil _,Fin.of rfl,trivial⟩
  ·have hi2:okIdx size xs=true:=by simpa using hi
   obtain⟨hp1,hp2⟩:=jfi hi2 hG.2.1
   rw[hi2,if_pos rfl]
   (conv=>whnf)
   refine V.st ?_
   repeat ((try ((with_reducible refine .ext ?_);(conv=>whnf)));(with_reducible refine jaa (r:=?_) ?_ ?_);rotate_left;(focus (first|exact(values_c _ _ _ _ hg hp1 hp2)));(conv=>whnf);refine V.st ?_)
   rw[zip_pad hi2]
   exact Fin.of rfl
theorem okIdx_take {size xs:List Int}(h:okIdx size xs=true):∀ a∈size.zip xs,0≤a.2∧a.2≤a.1-1:=fun a ha=>by
 unfold okIdx at h
 simp only[jjv,jj7,decide_eq_true_eq] at h
 exact h.2 a ha
theorem take_zip2 {α β:Type}(a:List α)(b:List β)(j:Nat):(a.zip b).take j=(a.take j).zip (b.take j):=by
 simp[List.zip_eq_zipWith,List.take_zipWith]
theorem rplace_c (size:List Int)(out:Int)(data xs:List Int)(hg:jaf size out data=true)(hx:xs.length≤281474976710656) :
  Cl 148 [gridD size out data,Jj xs] (.tup [Ji (if okIdx size xs then pz (size.zip xs)*out else 0),.bool (okIdx size xs)]):=by
 have hG:=jaT hg
 refine V.en tbOk Tryz.func148 ?_
 (conv=>whnf)
 refine V.st ?_
 refine V.br (fun h=>?_) (fun h=>?_)
 ·have:okIdx size xs=false:=by
   unfold okIdx
   simp at h;simp;omega
  (conv=>whnf)
  refine V.st ?_
  rw[this]
  exact Fin.of rfl
 have hl:xs.length=size.length:=by simp at h;omega
 clear h
 (conv=>whnf)
 refine V.st ?_
 refine lp_go (xs.length) (fun k=>okIdx (size.take k) (xs.take k)=true) (fun k=>[(6,Ji (pz ((size.zip xs).take k))),(7,Ji k)]) (fun k=>[]) V.wk ?_ ?_
 ·rfl
 intro k hk hI
 have hb:∀ j,okIdx (size.take j) (xs.take j)=true→0≤pz ((size.zip xs).take j)∧pz ((size.zip xs).take j)+1≤6561:=fun j hj=>by
  have h1:=pz_bd (okIdx_take hj)
  have h2:=(jdq hG.2.2.2.2.1 j).2.1 hG.2.1
  rw[List.map_fst_zip (by simp;omega)] at h1
  rw[← take_zip2] at h1
  omega
 (conv=>whnf)
 refine V.st ?_
 refine V.br (fun h=>?_) (fun h=>?_)
 ·simp only[decide_eq_true_eq] at h
  obtain⟨x,hx1,ex⟩:=getx (xs:=xs) (k:=k) Jo
  obtain⟨n,hn1,en⟩:=getx (xs:=size) (k:=k) Jo
  have hnb:2≤n∧n≤9:=by
   have:=jj7.1 hG.2.2.2.2.1 n (jkc hn1)
   simpa using this
  (conv=>whnf)
  refine V.st ?_
  refine⟨(V.tk [0,1,2,3,4,5,6,7,8,9] (V.e1 10 [] (V.tk [11] .done))),[],V.pok,.go (jac ?_)⟩
  (conv=>whnf)
  (try simp only[ex,en])
  repeat ((first|refine V.s1 ?_|((try ((with_reducible refine .ext ?_);(conv=>whnf);(try simp only[ex,en])));(with_reducible refine jaa (r:=?_) ?_ ?_);rotate_left;(focus (first|exact(jdE _ _ _)));(conv=>whnf)));(try simp only[ex,en]))
  refine V.br (fun h=>?_) (fun h=>?_)
  ·have:okIdx size xs=false:=by
    cases hb:okIdx size xs with
    | false=>rfl
    | true=>
     have:=(ja7.1 hb).2 k n x hn1 hx1
     simp at h;omega
   (conv=>whnf)
   refine V.st ?_
   rw[this]
   exact Fin.of rfl
  ·have hI2:okIdx (size.take (k+1)) (xs.take (k+1))=true:=by
    rw[jky,jky,hn1,hx1];exact jf9 (n:=n) (x:=x) hI (by simp[jke];omega) (by simp at h;omega)
   have hz:(size.zip xs)[k]? = some (n,x):=by rw[List.getElem?_zip_eq_some];exact⟨hn1,hx1⟩
   have hs:pz ((size.zip xs).take (k+1))=pz ((size.zip xs).take k)*n+x:=by
    rw[jky,hz];simp[pz]
   have h1:=hb k hI
   have h2:=hb (k+1) hI2
   rw[hs] at h2
   have h4:0≤pz ((size.zip xs).take k)*n:=jjB h1.1 Jo
   simp at h
   (conv=>whnf)
   refine V.st ?_
   refine⟨(V.tk [0,1,2,3,4,5,6,7,8,9,10,11] (V.e1 12 [] .done)),[],V.pok,.go (jac ?_)⟩
   refine V.r0 (V.a2 ex @en) ?_
   rw[← hs]
   exact⟨k+1,⟨Jo,hI2⟩,Jo,V.wk⟩
 ·simp only[decide_eq_false_iff_not] at h
  rw[jko Jo,jko Jo] at hI
  have hb2:=hb size.length (by rw[jkz,jko Jo];exact hI)
  rw[jko (by simp;omega)] at hb2
  rw[jko (l:=size.zip xs) (by simp;omega)]
  have hm:InR .i64 (pz (size.zip xs)*out):=by
   have h5:0≤pz (size.zip xs)*out:=jjB hb2.1 Jo
   have h6:pz (size.zip xs)*out≤6561*4:=Int.mul_le_mul Jo Jo Jo Jo
   simp only[V.InR,lo,V.hi];omega
  (conv=>whnf)
  refine V.st ?_
  rw[hI]
  exact Fin.of rfl
theorem jc8 (size:List Int)(out:Int)(data xs:List Int)(hs:size.length≤281474976710656)(hd:data.length≤281474976710656)(hx:xs.length≤281474976710656) :
  Cl 91 [gridD size out data,Jj xs] (.tup [Ji (if jaf size out data && okIdx size xs then pz (size.zip xs)*out else 0),Ji (if jaf size out data then (if okIdx size xs then 0 else 2) else 100)]):=by
 refine V.en tbOk Tryz.func91 ?_
 (conv=>whnf)
 refine V.st ?_
 repeat ((try ((with_reducible refine .ext ?_);(conv=>whnf)));(with_reducible refine jaa (r:=?_) ?_ ?_);rotate_left;(focus (first|exact(jcS _ _ _ hs hd)));(conv=>whnf);refine V.st ?_)
 refine V.br (fun hg=>?_) (fun hg=>?_)
 ·have hg:jaf size out data=false:=by simpa using hg
  (conv=>whnf)
  refine V.st ?_
  rw[hg]
  exact Fin.of rfl
 ·have hg:jaf size out data=true:=by simpa using hg
  (conv=>whnf)
  refine V.st ?_
  repeat ((try ((with_reducible refine .ext ?_);(conv=>whnf)));(with_reducible refine jaa (r:=?_) ?_ ?_);rotate_left;(focus (first|exact(rplace_c _ _ _ _ hg hx)));(conv=>whnf);refine V.st ?_)
  refine V.br (fun hi=>?_) (fun hi=>?_)
  ·have hi:okIdx size xs=false:=by simpa using hi
   (conv=>whnf)
   refine V.st ?_
   rw[hg,hi]
   exact Fin.of rfl
  ·have hi:okIdx size xs=true:=by simpa using hi
   (conv=>whnf)
   refine V.st ?_
   rw[hg,hi]
   exact Fin.of rfl
end Go.Proofs.YtbnghipgicmpdaaGreatDoor
end
section
namespace Go.Proofs.YtbnghipgicmpdaaGreatDoor
open Go Go.V Go.Nb
def smF (P:Nat→Rat):Nat→Rat
 | 0=>P 0
 | k+1=>smF P k+P (k+1)
theorem fq_sm {P:Nat→Rat}{a:Nat}(h:∀ k,Fq a (P k)):∀ k,Fq ((k+1)*a+k) (smF P k)
 | 0=>(h 0).mono Jo
 | k+1=>((fq_sm h k).add (h (k+1))).mono (by rw[Nat.add_mul (k+1)];omega)
def gvF (zs:List Int)(out:Int)(data:List Int)(j:Nat)(i k l:Int):Rat:=(((slot data (pz (zs.zip ([i,k,l].take zs.length))*out) out).getD j 0:Int):Rat)
def evQ (zs:List Int)(out:Int)(data:List Int)(x0 x1 x2:Rat)(j:Nat):Rat:=evF (zs.getD 0 2) (zs.getD 1 2) (zs.getD 2 2) (gvF zs out data j) x0 x1 x2/65535
theorem jaq {zs:List Int}{out:Int}{data:List Int}(h:jaf zs out data=true):(1≤out∧out≤4)∧(∀ z∈zs,2≤z∧z≤9)∧((data.length:Int)≤4096∧(data.length:Int)=prod zs*out) ∧ ∀ v∈data,0≤v∧v≤65535:=by
 unfold jaf at h
 simp only[jjv,decide_eq_true_eq,jj7] at h
 exact⟨h.1.1.1.2,h.1.1.2,h.1.2,h.2⟩
theorem jaR {l:List Int}{p:Int→Prop}(h:∀ v∈l,p v)(h0:p 0)(j:Nat):p (l.getD j 0):=by
 by_cases hj:j<l.length
 ·rw[jj8,jkb hj]
  exact h _ (List.getElem_mem hj)
 ·rw[jj8,List.getElem?_eq_none Jo]
  exact h0
theorem jaS {data:List Int}(h:∀ v∈data,0≤v∧v≤65535)(p w:Int)(j:Nat):0≤(slot data p w).getD j 0∧(slot data p w).getD j 0≤65535:=
 jaR (p:=fun v=>0≤v∧v≤65535) (fun v hv=>h v (jki (jkj hv))) Jo j
theorem gat_at {zs:List Int}{out:Int}{data xs:List Int}(h:jaf zs out data=true)(hi:okIdx zs xs=true)(hl:zs.length≤4)(hx:xs.length≤4):Cl 140 [gridD zs out data,Jj xs] (.tup [Jj (slot data (pz (zs.zip xs)*out) out),Ji 0]):=by
 have o:=jaq h
 have c:=gat_c zs out data xs Jo Jo Jo
 rw[h,hi] at c
 exact c
theorem ja6 {zs:List Int}{out:Int}{data xs:List Int}(h:jaf zs out data=true)(hi:okIdx zs xs=true):(slot data (pz (zs.zip xs)*out) out).length=out.toNat:=by
 have o:=jaq h
 unfold okIdx at hi
 simp only[jjv,decide_eq_true_eq,jj7] at hi
 have b:=pz_bd hi.2
 have e:(zs.zip xs).map (·.1)=zs:=List.map_fst_zip Jo
 rw[e] at b
 have h1:0≤pz (zs.zip xs)*out:=jjB b.1 Jo
 have h2:pz (zs.zip xs)*out+out≤data.length:=by
  rw[o.2.2.1.2]
  have:=jjM b.2 (show 0≤out by omega)
  rw[jj1,jj2] at this
  exact this
 exact jh1 h1 Jo h2
theorem jeF (r0 r1 r2:Rat):ord3 r0 r1 r2=[0,1,2]∨ord3 r0 r1 r2=[0,2,1]∨ord3 r0 r1 r2=[1,0,2]∨ord3 r0 r1 r2=[1,2,0]∨ord3 r0 r1 r2=[2,0,1]∨ord3 r0 r1 r2=[2,1,0]:=by
 unfold ord3
 repeat' split
 all_goals simp
theorem jeG (r0 r1:Rat):ord2 r0 r1=[0,1]∨ord2 r0 r1=[1,0]:=by
 unfold ord2
 split
 ·exact .inr rfl
 ·exact .inl rfl
theorem sp_20:spB 2 0=0∧spR 2 0=0:=by decide +kernel
theorem ord3_20 {r0 r1:Rat}(h0:0≤r0)(h1:0≤r1):ord3 r0 r1 0=ord2 r0 r1++[2]:=by
 have g0:¬ r0<0:=Rat.not_lt.2 h0
 have g1:¬ r1<0:=Rat.not_lt.2 h1
 unfold ord3 ord2
 by_cases h:r0<r1
 ·rw[if_pos h,if_neg g0,if_pos h];rfl
 ·rw[if_neg h,if_neg g1,if_neg h];rfl
theorem ord3_10 {r0:Rat}(h0:0≤r0):ord3 r0 0 0=[0,1,2]:=by
 have g0:¬ r0<0:=Rat.not_lt.2 h0
 unfold ord3
 rw[if_neg g0,if_neg (by decide +kernel)]
theorem spR_nn {s:Int}(hs:2≤s)(x:Rat):0≤spR s x:=by
 have h:=(Rat.le_floor_iff (x:=(gp s x).floor) (a:=gp s x)).1 (Int.le_refl _)
 have g:((spB s x:Int):Rat)≤(((gp s x).floor:Int):Rat):=Rat.intCast_le_intCast.2 (by unfold spB;omega)
 unfold spR
 grind
theorem jaC:(65535:Int).natAbs<10^5:=Jd
theorem jaX:((65535:Int):Rat).num≠0:=Jd
theorem valU1 (z0 b0 out:Int)(data O:List Int)(rq:Nat→Rat)(fr:∀ k,Fq 43 (rq k))(U:Nat→List Int)(ho:1≤out∧out≤4)(hU:∀ k,k<2→(U k).length=out.toNat ∧ ∀ j,0≤(U k).getD j 0∧(U k).getD j 0≤65535)(hl:O.length=1)(hx:∀ k,k<1→0≤O.getD k 0∧O.getD k 0<4)(hi:∀ k,k<1→InR .i64 ((atK [b0,0,0,0] O k).getD (O.getD k 0).toNat 0+1))
  (pt:∀ k,k<2→Cl 82 [.agg [Jj [z0],Ji out,Jj data,Jj [b0],Jj O,slQ (fun k=>txq (wqN rq O 1 k)) 2],.iarr .i64 (atK [b0,0,0,0] O k)] (.tup [Jj (U k),Ji 0])) :
  Cl 43 [.agg [Jj [z0],Ji out,Jj data,Jj [b0],Jj O,slQ (fun k=>txq (wqN rq O 1 k)) 2]] (.tup [slQ (fun j=>txq (smF (fun k=>wqN rq O 1 k*(((U k).getD j 0:Int):Rat)) 1/65535)) out.toNat,Ji 0]):=by
 have v1:∀ j:Nat,j<out.toNat→Cl 85 [Ji (j:Int),.ref [.slf 1 2 (fun j=>List.take 1 (List.drop (j*1) [Jj (U 0),Jj (U 1)]))],.ref [slQ (fun k=>txq (wqN rq O 1 k)) 2]] (.tup [frT (smF (fun k=>wqN rq O 1 k*(((U k).getD j 0:Int):Rat)) 1/65535),Ji 0]):=by
  intro j hj
  have fu:=jap (n:=65535) Jo
  have fm:∀ k,k<2→Fq 92 (wqN rq O 1 k*(((U k).getD j 0:Int):Rat)):=fun k hk=>(fq_wq fr O 1 k).mul (jav (n:=5) (by have:=(hU k hk).2 j;omega) Jo)
  have i0:=jap (n:=(U 0).getD j 0) (by have:=(hU 0 Jo).2 j;omega)
  have u0:=zmul (fq_wq fr O 1 0) (jav (n:=5) (z:=(U 0).getD j 0) (by have:=(hU 0 Jo).2 j;omega) Jo) Jd Jd Jd
  have m0:=prod2_0 (fun k=>txq (wqN rq O 1 k)) (fun k=>txq (wqN rq O 1 k*(((U k).getD j 0:Int):Rat))) U j _ _ (by rw[(hU 0 Jo).1];exact hj) i0 u0
  have i1:=jap (n:=(U 1).getD j 0) (by have:=(hU 1 Jo).2 j;omega)
  have u1:=zmul (fq_wq fr O 1 1) (jav (n:=5) (z:=(U 1).getD j 0) (by have:=(hU 1 Jo).2 j;omega) Jo) Jd Jd Jd
  have m1:=prod2_1 (fun k=>txq (wqN rq O 1 k)) (fun k=>txq (wqN rq O 1 k*(((U k).getD j 0:Int):Rat))) U j _ _ (by rw[(hU 1 Jo).1];exact hj) i1 u1
  have li:=list2_3 (fun k=>txq (wqN rq O 1 k*(((U k).getD j 0:Int):Rat))) m0 m1
  have s0:Fq 92 (smF (fun k=>wqN rq O 1 k*(((U k).getD j 0:Int):Rat)) 0):=fm 0 Jo
  have s1:Fq 185 (smF (fun k=>wqN rq O 1 k*(((U k).getD j 0:Int):Rat)) 1):=s0.add (fm 1 Jo)
  have su:=sum2 (fun k=>txq (wqN rq O 1 k*(((U k).getD j 0:Int):Rat))) (fun k=>txq (smF (fun k=>wqN rq O 1 k*(((U k).getD j 0:Int):Rat)) k)) rfl (zadd s0 (fm 1 Jo) Jd Jd Jd)
  have dv:=zdiv s1 (jav (n:=5) (z:=65535) jaC Jd) jaX Jd Jd Jd
  rw[show ((65535:Int):Rat)=65535 from rfl] at fu dv
  exact val1_2 (fun k=>txq (wqN rq O 1 k)) (fun k=>txq (wqN rq O 1 k*(((U k).getD j 0:Int):Rat))) (fun k=>txq (smF (fun k=>wqN rq O 1 k*(((U k).getD j 0:Int):Rat)) k)) U j _ _ _ _ li su fu dv
 refine value1_t z0 b0 out data O (fun k=>txq (wqN rq O 1 k)) U _ _ hl hx hi pt ?_
 have h4:out=1∨out=2∨out=3∨out=4:=Jo
 rcases h4 with e|e|e|e<;>subst e
 ·exact jim (z:=0) (fun j=>txq (smF (fun k=>wqN rq O 1 k*(((U k).getD j 0:Int):Rat)) 1/65535)) (v1 0 Jd)
 ·exact jil (z:=0) (fun j=>txq (smF (fun k=>wqN rq O 1 k*(((U k).getD j 0:Int):Rat)) 1/65535)) (v1 0 Jd) (v1 1 Jd)
 ·exact jik (z:=0) (fun j=>txq (smF (fun k=>wqN rq O 1 k*(((U k).getD j 0:Int):Rat)) 1/65535)) (v1 0 Jd) (v1 1 Jd) (v1 2 Jd)
 ·exact jij (z:=0) (fun j=>txq (smF (fun k=>wqN rq O 1 k*(((U k).getD j 0:Int):Rat)) 1/65535)) (v1 0 Jd) (v1 1 Jd) (v1 2 Jd) (v1 3 Jd)
theorem valU2 (z0 z1 b0 b1 out:Int)(data O:List Int)(rq:Nat→Rat)(fr:∀ k,Fq 43 (rq k))(U:Nat→List Int)(ho:1≤out∧out≤4)(hU:∀ k,k<3→(U k).length=out.toNat ∧ ∀ j,0≤(U k).getD j 0∧(U k).getD j 0≤65535)(hl:O.length=2)(hx:∀ k,k<2→0≤O.getD k 0∧O.getD k 0<4)(hi:∀ k,k<2→InR .i64 ((atK [b0,b1,0,0] O k).getD (O.getD k 0).toNat 0+1))
  (pt:∀ k,k<3→Cl 82 [.agg [Jj [z0,z1],Ji out,Jj data,Jj [b0,b1],Jj O,slQ (fun k=>txq (wqN rq O 2 k)) 3],.iarr .i64 (atK [b0,b1,0,0] O k)] (.tup [Jj (U k),Ji 0])) :
  Cl 43 [.agg [Jj [z0,z1],Ji out,Jj data,Jj [b0,b1],Jj O,slQ (fun k=>txq (wqN rq O 2 k)) 3]] (.tup [slQ (fun j=>txq (smF (fun k=>wqN rq O 2 k*(((U k).getD j 0:Int):Rat)) 2/65535)) out.toNat,Ji 0]):=by
 have v1:∀ j:Nat,j<out.toNat→Cl 85 [Ji (j:Int),.ref [.slf 1 3 (fun j=>List.take 1 (List.drop (j*1) [Jj (U 0),Jj (U 1),Jj (U 2)]))],.ref [slQ (fun k=>txq (wqN rq O 2 k)) 3]] (.tup [frT (smF (fun k=>wqN rq O 2 k*(((U k).getD j 0:Int):Rat)) 2/65535),Ji 0]):=by
  intro j hj
  have fu:=jap (n:=65535) Jo
  have fm:∀ k,k<3→Fq 92 (wqN rq O 2 k*(((U k).getD j 0:Int):Rat)):=fun k hk=>(fq_wq fr O 2 k).mul (jav (n:=5) (by have:=(hU k hk).2 j;omega) Jo)
  have i0:=jap (n:=(U 0).getD j 0) (by have:=(hU 0 Jo).2 j;omega)
  have u0:=zmul (fq_wq fr O 2 0) (jav (n:=5) (z:=(U 0).getD j 0) (by have:=(hU 0 Jo).2 j;omega) Jo) Jd Jd Jd
  have m0:=prod3_0 (fun k=>txq (wqN rq O 2 k)) (fun k=>txq (wqN rq O 2 k*(((U k).getD j 0:Int):Rat))) U j _ _ (by rw[(hU 0 Jo).1];exact hj) i0 u0
  have i1:=jap (n:=(U 1).getD j 0) (by have:=(hU 1 Jo).2 j;omega)
  have u1:=zmul (fq_wq fr O 2 1) (jav (n:=5) (z:=(U 1).getD j 0) (by have:=(hU 1 Jo).2 j;omega) Jo) Jd Jd Jd
  have m1:=prod3_1 (fun k=>txq (wqN rq O 2 k)) (fun k=>txq (wqN rq O 2 k*(((U k).getD j 0:Int):Rat))) U j _ _ (by rw[(hU 1 Jo).1];exact hj) i1 u1
  have i2:=jap (n:=(U 2).getD j 0) (by have:=(hU 2 Jo).2 j;omega)
  have u2:=zmul (fq_wq fr O 2 2) (jav (n:=5) (z:=(U 2).getD j 0) (by have:=(hU 2 Jo).2 j;omega) Jo) Jd Jd Jd
  have m2:=prod3_2 (fun k=>txq (wqN rq O 2 k)) (fun k=>txq (wqN rq O 2 k*(((U k).getD j 0:Int):Rat))) U j _ _ (by rw[(hU 2 Jo).1];exact hj) i2 u2
  have li:=list3_3 (fun k=>txq (wqN rq O 2 k*(((U k).getD j 0:Int):Rat))) m0 m1 m2
  have s0:Fq 92 (smF (fun k=>wqN rq O 2 k*(((U k).getD j 0:Int):Rat)) 0):=fm 0 Jo
  have s1:Fq 185 (smF (fun k=>wqN rq O 2 k*(((U k).getD j 0:Int):Rat)) 1):=s0.add (fm 1 Jo)
  have s2:Fq 278 (smF (fun k=>wqN rq O 2 k*(((U k).getD j 0:Int):Rat)) 2):=s1.add (fm 2 Jo)
  have su:=sum3 (fun k=>txq (wqN rq O 2 k*(((U k).getD j 0:Int):Rat))) (fun k=>txq (smF (fun k=>wqN rq O 2 k*(((U k).getD j 0:Int):Rat)) k)) rfl (zadd s0 (fm 1 Jo) Jd Jd Jd) (zadd s1 (fm 2 Jo) Jd Jd Jd)
  have dv:=zdiv s2 (jav (n:=5) (z:=65535) jaC Jd) jaX Jd Jd Jd
  rw[show ((65535:Int):Rat)=65535 from rfl] at fu dv
  exact val1_3 (fun k=>txq (wqN rq O 2 k)) (fun k=>txq (wqN rq O 2 k*(((U k).getD j 0:Int):Rat))) (fun k=>txq (smF (fun k=>wqN rq O 2 k*(((U k).getD j 0:Int):Rat)) k)) U j _ _ _ _ li su fu dv
 refine value2_t z0 z1 b0 b1 out data O (fun k=>txq (wqN rq O 2 k)) U _ _ hl hx hi pt ?_
 have h4:out=1∨out=2∨out=3∨out=4:=Jo
 rcases h4 with e|e|e|e<;>subst e
 ·exact jim (z:=0) (fun j=>txq (smF (fun k=>wqN rq O 2 k*(((U k).getD j 0:Int):Rat)) 2/65535)) (v1 0 Jd)
 ·exact jil (z:=0) (fun j=>txq (smF (fun k=>wqN rq O 2 k*(((U k).getD j 0:Int):Rat)) 2/65535)) (v1 0 Jd) (v1 1 Jd)
 ·exact jik (z:=0) (fun j=>txq (smF (fun k=>wqN rq O 2 k*(((U k).getD j 0:Int):Rat)) 2/65535)) (v1 0 Jd) (v1 1 Jd) (v1 2 Jd)
 ·exact jij (z:=0) (fun j=>txq (smF (fun k=>wqN rq O 2 k*(((U k).getD j 0:Int):Rat)) 2/65535)) (v1 0 Jd) (v1 1 Jd) (v1 2 Jd) (v1 3 Jd)
theorem valU3 (z0 z1 z2 b0 b1 b2 out:Int)(data O:List Int)(rq:Nat→Rat)(fr:∀ k,Fq 43 (rq k))(U:Nat→List Int)(ho:1≤out∧out≤4)(hU:∀ k,k<4→(U k).length=out.toNat ∧ ∀ j,0≤(U k).getD j 0∧(U k).getD j 0≤65535)(hl:O.length=3)(hx:∀ k,k<3→0≤O.getD k 0∧O.getD k 0<4)(hi:∀ k,k<3→InR .i64 ((atK [b0,b1,b2,0] O k).getD (O.getD k 0).toNat 0+1))
  (pt:∀ k,k<4→Cl 82 [.agg [Jj [z0,z1,z2],Ji out,Jj data,Jj [b0,b1,b2],Jj O,slQ (fun k=>txq (wqN rq O 3 k)) 4],.iarr .i64 (atK [b0,b1,b2,0] O k)] (.tup [Jj (U k),Ji 0])) :
  Cl 43 [.agg [Jj [z0,z1,z2],Ji out,Jj data,Jj [b0,b1,b2],Jj O,slQ (fun k=>txq (wqN rq O 3 k)) 4]] (.tup [slQ (fun j=>txq (smF (fun k=>wqN rq O 3 k*(((U k).getD j 0:Int):Rat)) 3/65535)) out.toNat,Ji 0]):=by
 have v1:∀ j:Nat,j<out.toNat→Cl 85 [Ji (j:Int),.ref [.slf 1 4 (fun j=>List.take 1 (List.drop (j*1) [Jj (U 0),Jj (U 1),Jj (U 2),Jj (U 3)]))],.ref [slQ (fun k=>txq (wqN rq O 3 k)) 4]] (.tup [frT (smF (fun k=>wqN rq O 3 k*(((U k).getD j 0:Int):Rat)) 3/65535),Ji 0]):=by
  intro j hj
  have fu:=jap (n:=65535) Jo
  have fm:∀ k,k<4→Fq 92 (wqN rq O 3 k*(((U k).getD j 0:Int):Rat)):=fun k hk=>(fq_wq fr O 3 k).mul (jav (n:=5) (by have:=(hU k hk).2 j;omega) Jo)
  have i0:=jap (n:=(U 0).getD j 0) (by have:=(hU 0 Jo).2 j;omega)
  have u0:=zmul (fq_wq fr O 3 0) (jav (n:=5) (z:=(U 0).getD j 0) (by have:=(hU 0 Jo).2 j;omega) Jo) Jd Jd Jd
  have m0:=prod4_0 (fun k=>txq (wqN rq O 3 k)) (fun k=>txq (wqN rq O 3 k*(((U k).getD j 0:Int):Rat))) U j _ _ (by rw[(hU 0 Jo).1];exact hj) i0 u0
  have i1:=jap (n:=(U 1).getD j 0) (by have:=(hU 1 Jo).2 j;omega)
  have u1:=zmul (fq_wq fr O 3 1) (jav (n:=5) (z:=(U 1).getD j 0) (by have:=(hU 1 Jo).2 j;omega) Jo) Jd Jd Jd
  have m1:=prod4_1 (fun k=>txq (wqN rq O 3 k)) (fun k=>txq (wqN rq O 3 k*(((U k).getD j 0:Int):Rat))) U j _ _ (by rw[(hU 1 Jo).1];exact hj) i1 u1
  have i2:=jap (n:=(U 2).getD j 0) (by have:=(hU 2 Jo).2 j;omega)
  have u2:=zmul (fq_wq fr O 3 2) (jav (n:=5) (z:=(U 2).getD j 0) (by have:=(hU 2 Jo).2 j;omega) Jo) Jd Jd Jd
  have m2:=prod4_2 (fun k=>txq (wqN rq O 3 k)) (fun k=>txq (wqN rq O 3 k*(((U k).getD j 0:Int):Rat))) U j _ _ (by rw[(hU 2 Jo).1];exact hj) i2 u2
  have i3:=jap (n:=(U 3).getD j 0) (by have:=(hU 3 Jo).2 j;omega)
  have u3:=zmul (fq_wq fr O 3 3) (jav (n:=5) (z:=(U 3).getD j 0) (by have:=(hU 3 Jo).2 j;omega) Jo) Jd Jd Jd
  have m3:=prod4_3 (fun k=>txq (wqN rq O 3 k)) (fun k=>txq (wqN rq O 3 k*(((U k).getD j 0:Int):Rat))) U j _ _ (by rw[(hU 3 Jo).1];exact hj) i3 u3
  have li:=list4_3 (fun k=>txq (wqN rq O 3 k*(((U k).getD j 0:Int):Rat))) m0 m1 m2 m3
  have s0:Fq 92 (smF (fun k=>wqN rq O 3 k*(((U k).getD j 0:Int):Rat)) 0):=fm 0 Jo
  have s1:Fq 185 (smF (fun k=>wqN rq O 3 k*(((U k).getD j 0:Int):Rat)) 1):=s0.add (fm 1 Jo)
  have s2:Fq 278 (smF (fun k=>wqN rq O 3 k*(((U k).getD j 0:Int):Rat)) 2):=s1.add (fm 2 Jo)
  have s3:Fq 371 (smF (fun k=>wqN rq O 3 k*(((U k).getD j 0:Int):Rat)) 3):=s2.add (fm 3 Jo)
  have su:=sum4 (fun k=>txq (wqN rq O 3 k*(((U k).getD j 0:Int):Rat))) (fun k=>txq (smF (fun k=>wqN rq O 3 k*(((U k).getD j 0:Int):Rat)) k)) rfl (zadd s0 (fm 1 Jo) Jd Jd Jd) (zadd s1 (fm 2 Jo) Jd Jd Jd) (zadd s2 (fm 3 Jo) Jd Jd Jd)
  have dv:=zdiv s3 (jav (n:=5) (z:=65535) jaC Jd) jaX Jd Jd Jd
  rw[show ((65535:Int):Rat)=65535 from rfl] at fu dv
  exact val1_4 (fun k=>txq (wqN rq O 3 k)) (fun k=>txq (wqN rq O 3 k*(((U k).getD j 0:Int):Rat))) (fun k=>txq (smF (fun k=>wqN rq O 3 k*(((U k).getD j 0:Int):Rat)) k)) U j _ _ _ _ li su fu dv
 refine value3_t z0 z1 z2 b0 b1 b2 out data O (fun k=>txq (wqN rq O 3 k)) U _ _ hl hx hi pt ?_
 have h4:out=1∨out=2∨out=3∨out=4:=Jo
 rcases h4 with e|e|e|e<;>subst e
 ·exact jim (z:=0) (fun j=>txq (smF (fun k=>wqN rq O 3 k*(((U k).getD j 0:Int):Rat)) 3/65535)) (v1 0 Jd)
 ·exact jil (z:=0) (fun j=>txq (smF (fun k=>wqN rq O 3 k*(((U k).getD j 0:Int):Rat)) 3/65535)) (v1 0 Jd) (v1 1 Jd)
 ·exact jik (z:=0) (fun j=>txq (smF (fun k=>wqN rq O 3 k*(((U k).getD j 0:Int):Rat)) 3/65535)) (v1 0 Jd) (v1 1 Jd) (v1 2 Jd)
 ·exact jij (z:=0) (fun j=>txq (smF (fun k=>wqN rq O 3 k*(((U k).getD j 0:Int):Rat)) 3/65535)) (v1 0 Jd) (v1 1 Jd) (v1 2 Jd) (v1 3 Jd)
theorem pad2 (a b c d e:Rat):a+b+(c-0)*d+0*e=a+b+c*d:=by grind
theorem pad1 (a c d e f:Rat):a+(c-0)*d+(0-0)*e+0*f=a+c*d:=by grind
theorem inr9 {z:Int}(h:0≤z∧z≤100):InR .i64 z:=⟨by show (-9223372036854775808:Int)≤z;omega,by show z≤9223372036854775807;omega⟩
theorem corn1 {O:List Int}(h:O=[0])(b0:Int):O.length=1∧(∀ k,k<1→0≤O.getD k 0∧O.getD k 0<4) ∧ ∀ k,k<2 → ∃ i0:Int,atK [b0,0,0,0] O k=[i0,0,0,0]∧b0≤i0∧i0≤b0+1:=by
 subst h
 ·refine⟨rfl,fun k hk=>?_,fun k hk=>?_⟩
  ·have h:k=0:=Jo
   subst h
   decide
  ·have h:k=0∨k=1:=Jo
   rcases h with rfl|rfl
   ·exact⟨b0,rfl,Jo⟩
   ·exact⟨b0+1,rfl,Jo⟩
theorem ev1_sm {x0:Rat}{z0:Int}(s0:2≤z0)(out:Int)(data:List Int)(j:Nat):evQ [z0] out data x0 0 0 j=smF (fun k=>wqN (rqN (spR z0 x0) 0 0) [0] 1 k*(((slot data (pz ([z0].zip ((atK [spB z0 x0,0,0,0] [0] k).take 1))*out) out).getD j 0:Int):Rat)) 1/65535:=by
 unfold evQ
 refine congrArg (· / 65535) ?_
 show evF z0 2 2 (gvF [z0] out data j) x0 0 0=_
 unfold evF
 rw[sp_20.1,sp_20.2,ord3_10 (spR_nn s0 x0)]
 all_goals exact pad1 _ _ _ _ _
theorem valq1 {x0:Rat}{z0 out:Int}{data:List Int}(hg:jaf [z0] out data=true)(h0:Fq 40 x0) :
  Cl 43 [.agg [Jj [z0],Ji out,Jj data,Jj [spB z0 x0],Jj [0],slQ (fun k=>txq (wqN (rqN (spR z0 x0) 0 0) [0] 1 k)) 2]] (.tup [slQ (fun j=>txq (evQ [z0] out data x0 0 0 j)) out.toNat,Ji 0]):=by
 have og:=jaq hg
 have s0:=og.2.1 z0 Js
 have f0:=ja0 h0 Jd s0
 have b0:=jb5 s0.1 x0
 have fr:∀ k,Fq 43 (rqN (spR z0 x0) 0 0 k):=fq_rq f0 jbd jbd
 obtain⟨ol,ox,oc⟩:=corn1 (O:=[0]) rfl (spB z0 x0)
 have oi:∀ k,k<2→okIdx [z0] ((atK [spB z0 x0,0,0,0] [0] k).take 1)=true:=by
  intro k hk
  obtain⟨i0,e,hh⟩:=oc k hk
  rw[e]
  simp[okIdx]
  omega
 have g:=valU1 z0 (spB z0 x0) out data [0] (rqN (spR z0 x0) 0 0) fr (fun k=>slot data (pz ([z0].zip ((atK [spB z0 x0,0,0,0] [0] k).take 1))*out) out) og.1 (fun k hk=>⟨ja6 hg (oi k hk),jaS og.2.2.2 _ _⟩) ol ox (fun k hk=>?_) (fun k hk=>?_)
 ·rw[show (fun j=>txq (evQ [z0] out data x0 0 0 j))=_ from funext fun j=>congrArg txq (ev1_sm s0.1 out data j)]
  exact g
 ·obtain⟨i0,e,hh⟩:=oc k Jo
  rw[e]
  refine inr9 ?_
  have:=jaR (l:=[i0,0,0,0]) (p:=fun v=>0≤v∧v≤9) (by intro v hv;simp only[jka,List.not_mem_nil,or_false] at hv;omega) Jo (([0]:List Int).getD k 0).toNat
  omega
 ·exact point1_t z0 (spB z0 x0) out data _ _ _ (fun k=>txq (wqN (rqN (spR z0 x0) 0 0) [0] 1 k)) (jbe _ _ k rfl) (gat_at hg (oi k hk) Js (by rw[jke];omega))
theorem corn2 {O:List Int}(h:O=[0,1]∨O=[1,0])(b0 b1:Int):O.length=2∧(∀ k,k<2→0≤O.getD k 0∧O.getD k 0<4) ∧ ∀ k,k<3 → ∃ i0 i1:Int,atK [b0,b1,0,0] O k=[i0,i1,0,0]∧b0≤i0∧i0≤b0+1∧b1≤i1∧i1≤b1+1:=by
 rcases h with rfl|rfl
 ·refine⟨rfl,fun k hk=>?_,fun k hk=>?_⟩
  ·have h:k=0∨k=1:=Jo
   rcases h with rfl|rfl<;>decide
  ·have h:k=0∨k=1∨k=2:=Jo
   rcases h with rfl|rfl|rfl
   ·exact⟨b0,b1,rfl,Jo⟩
   ·exact⟨b0+1,b1,rfl,Jo⟩
   ·exact⟨b0+1,b1+1,rfl,Jo⟩
 ·refine⟨rfl,fun k hk=>?_,fun k hk=>?_⟩
  ·have h:k=0∨k=1:=Jo
   rcases h with rfl|rfl<;>decide
  ·have h:k=0∨k=1∨k=2:=Jo
   rcases h with rfl|rfl|rfl
   ·exact⟨b0,b1,rfl,Jo⟩
   ·exact⟨b0,b1+1,rfl,Jo⟩
   ·exact⟨b0+1,b1+1,rfl,Jo⟩
theorem ev2_sm {x0 x1:Rat}{z0 z1:Int}(s0:2≤z0)(s1:2≤z1)(out:Int)(data:List Int)(j:Nat):evQ [z0,z1] out data x0 x1 0 j=smF (fun k=>wqN (rqN (spR z0 x0) (spR z1 x1) 0) (ord2 (spR z0 x0) (spR z1 x1)) 2 k*(((slot data (pz ([z0,z1].zip ((atK [spB z0 x0,spB z1 x1,0,0] (ord2 (spR z0 x0) (spR z1 x1)) k).take 2))*out) out).getD j 0:Int):Rat)) 2/65535:=by
 unfold evQ
 refine congrArg (· / 65535) ?_
 show evF z0 z1 2 (gvF [z0,z1] out data j) x0 x1 0=_
 unfold evF
 rw[sp_20.1,sp_20.2,ord3_20 (spR_nn s0 x0) (spR_nn s1 x1)]
 rcases jeG (spR z0 x0) (spR z1 x1) with e|e
 all_goals rw[e]
 all_goals exact pad2 _ _ _ _ _
theorem valq2 {x0 x1:Rat}{z0 z1 out:Int}{data:List Int}(hg:jaf [z0,z1] out data=true)(h0:Fq 40 x0)(h1:Fq 40 x1) :
  Cl 43 [.agg [Jj [z0,z1],Ji out,Jj data,Jj [spB z0 x0,spB z1 x1],Jj (ord2 (spR z0 x0) (spR z1 x1)),slQ (fun k=>txq (wqN (rqN (spR z0 x0) (spR z1 x1) 0) (ord2 (spR z0 x0) (spR z1 x1)) 2 k)) 3]] (.tup [slQ (fun j=>txq (evQ [z0,z1] out data x0 x1 0 j)) out.toNat,Ji 0]):=by
 have og:=jaq hg
 have s0:=og.2.1 z0 Js
 have f0:=ja0 h0 Jd s0
 have b0:=jb5 s0.1 x0
 have s1:=og.2.1 z1 Js
 have f1:=ja0 h1 Jd s1
 have b1:=jb5 s1.1 x1
 have fr:∀ k,Fq 43 (rqN (spR z0 x0) (spR z1 x1) 0 k):=fq_rq f0 f1 jbd
 obtain⟨ol,ox,oc⟩:=corn2 (O:=(ord2 (spR z0 x0) (spR z1 x1))) (jeG _ _) (spB z0 x0) (spB z1 x1)
 have oi:∀ k,k<3→okIdx [z0,z1] ((atK [spB z0 x0,spB z1 x1,0,0] (ord2 (spR z0 x0) (spR z1 x1)) k).take 2)=true:=by
  intro k hk
  obtain⟨i0,i1,e,hh⟩:=oc k hk
  rw[e]
  simp[okIdx]
  omega
 have g:=valU2 z0 z1 (spB z0 x0) (spB z1 x1) out data (ord2 (spR z0 x0) (spR z1 x1)) (rqN (spR z0 x0) (spR z1 x1) 0) fr (fun k=>slot data (pz ([z0,z1].zip ((atK [spB z0 x0,spB z1 x1,0,0] (ord2 (spR z0 x0) (spR z1 x1)) k).take 2))*out) out) og.1 (fun k hk=>⟨ja6 hg (oi k hk),jaS og.2.2.2 _ _⟩) ol ox (fun k hk=>?_) (fun k hk=>?_)
 ·rw[show (fun j=>txq (evQ [z0,z1] out data x0 x1 0 j))=_ from funext fun j=>congrArg txq (ev2_sm s0.1 s1.1 out data j)]
  exact g
 ·obtain⟨i0,i1,e,hh⟩:=oc k Jo
  rw[e]
  refine inr9 ?_
  have:=jaR (l:=[i0,i1,0,0]) (p:=fun v=>0≤v∧v≤9) (by intro v hv;simp only[jka,List.not_mem_nil,or_false] at hv;omega) Jo (((ord2 (spR z0 x0) (spR z1 x1)):List Int).getD k 0).toNat
  omega
 ·exact point2_t z0 z1 (spB z0 x0) (spB z1 x1) out data _ _ _ (fun k=>txq (wqN (rqN (spR z0 x0) (spR z1 x1) 0) (ord2 (spR z0 x0) (spR z1 x1)) 2 k)) (jbe _ _ k rfl) (gat_at hg (oi k hk) Js (by rw[jke];omega))
theorem corn3 {O:List Int}(h:O=[0,1,2]∨O=[0,2,1]∨O=[1,0,2]∨O=[1,2,0]∨O=[2,0,1]∨O=[2,1,0])(b0 b1 b2:Int):O.length=3∧(∀ k,k<3→0≤O.getD k 0∧O.getD k 0<4) ∧ ∀ k,k<4 → ∃ i0 i1 i2:Int,atK [b0,b1,b2,0] O k=[i0,i1,i2,0]∧b0≤i0∧i0≤b0+1∧b1≤i1∧i1≤b1+1∧b2≤i2∧i2≤b2+1:=by
 rcases h with rfl|rfl|rfl|rfl|rfl|rfl
 ·refine⟨rfl,fun k hk=>?_,fun k hk=>?_⟩
  ·have h:k=0∨k=1∨k=2:=Jo
   rcases h with rfl|rfl|rfl<;>decide
  ·have h:k=0∨k=1∨k=2∨k=3:=Jo
   rcases h with rfl|rfl|rfl|rfl
   ·exact⟨b0,b1,b2,rfl,Jo⟩
   ·exact⟨b0+1,b1,b2,rfl,Jo⟩
   ·exact⟨b0+1,b1+1,b2,rfl,Jo⟩
   ·exact⟨b0+1,b1+1,b2+1,rfl,Jo⟩
 ·refine⟨rfl,fun k hk=>?_,fun k hk=>?_⟩
  ·have h:k=0∨k=1∨k=2:=Jo
   rcases h with rfl|rfl|rfl<;>decide
  ·have h:k=0∨k=1∨k=2∨k=3:=Jo
   rcases h with rfl|rfl|rfl|rfl
   ·exact⟨b0,b1,b2,rfl,Jo⟩
   ·exact⟨b0+1,b1,b2,rfl,Jo⟩
   ·exact⟨b0+1,b1,b2+1,rfl,Jo⟩
   ·exact⟨b0+1,b1+1,b2+1,rfl,Jo⟩
 ·refine⟨rfl,fun k hk=>?_,fun k hk=>?_⟩
  ·have h:k=0∨k=1∨k=2:=Jo
   rcases h with rfl|rfl|rfl<;>decide
  ·have h:k=0∨k=1∨k=2∨k=3:=Jo
   rcases h with rfl|rfl|rfl|rfl
   ·exact⟨b0,b1,b2,rfl,Jo⟩
   ·exact⟨b0,b1+1,b2,rfl,Jo⟩
   ·exact⟨b0+1,b1+1,b2,rfl,Jo⟩
   ·exact⟨b0+1,b1+1,b2+1,rfl,Jo⟩
 ·refine⟨rfl,fun k hk=>?_,fun k hk=>?_⟩
  ·have h:k=0∨k=1∨k=2:=Jo
   rcases h with rfl|rfl|rfl<;>decide
  ·have h:k=0∨k=1∨k=2∨k=3:=Jo
   rcases h with rfl|rfl|rfl|rfl
   ·exact⟨b0,b1,b2,rfl,Jo⟩
   ·exact⟨b0,b1+1,b2,rfl,Jo⟩
   ·exact⟨b0,b1+1,b2+1,rfl,Jo⟩
   ·exact⟨b0+1,b1+1,b2+1,rfl,Jo⟩
 ·refine⟨rfl,fun k hk=>?_,fun k hk=>?_⟩
  ·have h:k=0∨k=1∨k=2:=Jo
   rcases h with rfl|rfl|rfl<;>decide
  ·have h:k=0∨k=1∨k=2∨k=3:=Jo
   rcases h with rfl|rfl|rfl|rfl
   ·exact⟨b0,b1,b2,rfl,Jo⟩
   ·exact⟨b0,b1,b2+1,rfl,Jo⟩
   ·exact⟨b0+1,b1,b2+1,rfl,Jo⟩
   ·exact⟨b0+1,b1+1,b2+1,rfl,Jo⟩
 ·refine⟨rfl,fun k hk=>?_,fun k hk=>?_⟩
  ·have h:k=0∨k=1∨k=2:=Jo
   rcases h with rfl|rfl|rfl<;>decide
  ·have h:k=0∨k=1∨k=2∨k=3:=Jo
   rcases h with rfl|rfl|rfl|rfl
   ·exact⟨b0,b1,b2,rfl,Jo⟩
   ·exact⟨b0,b1,b2+1,rfl,Jo⟩
   ·exact⟨b0,b1+1,b2+1,rfl,Jo⟩
   ·exact⟨b0+1,b1+1,b2+1,rfl,Jo⟩
theorem ev3_sm {x0 x1 x2:Rat}{z0 z1 z2:Int}(s0:2≤z0)(s1:2≤z1)(s2:2≤z2)(out:Int)(data:List Int)(j:Nat):evQ [z0,z1,z2] out data x0 x1 x2 j=smF (fun k=>wqN (rqN (spR z0 x0) (spR z1 x1) (spR z2 x2)) (ord3 (spR z0 x0) (spR z1 x1) (spR z2 x2)) 3 k*(((slot data (pz ([z0,z1,z2].zip ((atK [spB z0 x0,spB z1 x1,spB z2 x2,0] (ord3 (spR z0 x0) (spR z1 x1) (spR z2 x2)) k).take 3))*out) out).getD j 0:Int):Rat)) 3/65535:=by
 unfold evQ
 refine congrArg (· / 65535) ?_
 show evF z0 z1 z2 (gvF [z0,z1,z2] out data j) x0 x1 x2=_
 unfold evF
 rcases jeF (spR z0 x0) (spR z1 x1) (spR z2 x2) with e|e|e|e|e|e
 all_goals rw[e]
 all_goals exact rfl
theorem valq3 {x0 x1 x2:Rat}{z0 z1 z2 out:Int}{data:List Int}(hg:jaf [z0,z1,z2] out data=true)(h0:Fq 40 x0)(h1:Fq 40 x1)(h2:Fq 40 x2) :
  Cl 43 [.agg [Jj [z0,z1,z2],Ji out,Jj data,Jj [spB z0 x0,spB z1 x1,spB z2 x2],Jj (ord3 (spR z0 x0) (spR z1 x1) (spR z2 x2)),slQ (fun k=>txq (wqN (rqN (spR z0 x0) (spR z1 x1) (spR z2 x2)) (ord3 (spR z0 x0) (spR z1 x1) (spR z2 x2)) 3 k)) 4]] (.tup [slQ (fun j=>txq (evQ [z0,z1,z2] out data x0 x1 x2 j)) out.toNat,Ji 0]):=by
 have og:=jaq hg
 have s0:=og.2.1 z0 Js
 have f0:=ja0 h0 Jd s0
 have b0:=jb5 s0.1 x0
 have s1:=og.2.1 z1 Js
 have f1:=ja0 h1 Jd s1
 have b1:=jb5 s1.1 x1
 have s2:=og.2.1 z2 Js
 have f2:=ja0 h2 Jd s2
 have b2:=jb5 s2.1 x2
 have fr:∀ k,Fq 43 (rqN (spR z0 x0) (spR z1 x1) (spR z2 x2) k):=fq_rq f0 f1 f2
 obtain⟨ol,ox,oc⟩:=corn3 (O:=(ord3 (spR z0 x0) (spR z1 x1) (spR z2 x2))) (jeF _ _ _) (spB z0 x0) (spB z1 x1) (spB z2 x2)
 have oi:∀ k,k<4→okIdx [z0,z1,z2] ((atK [spB z0 x0,spB z1 x1,spB z2 x2,0] (ord3 (spR z0 x0) (spR z1 x1) (spR z2 x2)) k).take 3)=true:=by
  intro k hk
  obtain⟨i0,i1,i2,e,hh⟩:=oc k hk
  rw[e]
  simp[okIdx]
  omega
 have g:=valU3 z0 z1 z2 (spB z0 x0) (spB z1 x1) (spB z2 x2) out data (ord3 (spR z0 x0) (spR z1 x1) (spR z2 x2)) (rqN (spR z0 x0) (spR z1 x1) (spR z2 x2)) fr (fun k=>slot data (pz ([z0,z1,z2].zip ((atK [spB z0 x0,spB z1 x1,spB z2 x2,0] (ord3 (spR z0 x0) (spR z1 x1) (spR z2 x2)) k).take 3))*out) out) og.1 (fun k hk=>⟨ja6 hg (oi k hk),jaS og.2.2.2 _ _⟩) ol ox (fun k hk=>?_) (fun k hk=>?_)
 ·rw[show (fun j=>txq (evQ [z0,z1,z2] out data x0 x1 x2 j))=_ from funext fun j=>congrArg txq (ev3_sm s0.1 s1.1 s2.1 out data j)]
  exact g
 ·obtain⟨i0,i1,i2,e,hh⟩:=oc k Jo
  rw[e]
  refine inr9 ?_
  have:=jaR (l:=[i0,i1,i2,0]) (p:=fun v=>0≤v∧v≤9) (by intro v hv;simp only[jka,List.not_mem_nil,or_false] at hv;omega) Jo (((ord3 (spR z0 x0) (spR z1 x1) (spR z2 x2)):List Int).getD k 0).toNat
  omega
 ·exact point3_t z0 z1 z2 (spB z0 x0) (spB z1 x1) (spB z2 x2) out data _ _ _ (fun k=>txq (wqN (rqN (spR z0 x0) (spR z1 x1) (spR z2 x2)) (ord3 (spR z0 x0) (spR z1 x1) (spR z2 x2)) 3 k)) (jbe _ _ k rfl) (gat_at hg (oi k hk) Js (by rw[jke];omega))
theorem jjp:type_of% @jjC∧type_of% @tn0∧type_of% @tn1∧type_of% @tn2∧type_of% @tn3∧type_of% @xt4:=⟨@jjC,@tn0,@tn1,@tn2,@tn3,@xt4⟩
theorem loc1_t (z0 out:Int)(data B O:List Int)(X:Nat→Tx)(m:Nat)(F:Nat→List D)(ck:Cl 58 [.agg [Jj [z0],Ji out,Jj data]] (Ji 0))(fc:∀ k,k<1→Cl 72 [Jt (X k)] (Ji 0))(fi:Cl 73 [.agg [Jj [z0],Ji out,Jj data],V.sl2 1 [.str (X 0).1,.str (X 0).2]] (.tup [.agg [Jj [z0],Ji out,Jj data,Jj B,Jj O,.slf 2 m F],Ji 0])) :
  Cl 34 [.agg [Jj [z0],Ji out,Jj data],V.sl2 1 [.str (X 0).1,.str (X 0).2]] (.tup [.agg [Jj [z0],Ji out,Jj data,Jj B,Jj O,.slf 2 m F],Ji 0]):=by
 refine V.en tbOk Tryz.func34 ?_
 refine V.r1 @jjC ck ?_
 refine Cnd.split (CondB.mk (fun h=>absurd h Js) (fun _=>?_))
 refine V.r0 @jjC ?_
 refine jad (0) (fun k=>k≤1) (fun k=>1-k) (fun k=>[(25,Ji k)]) (fun k=>[]) ?_ ?_ ?_
 ·exact V.wk
 ·exact jjx _
 intro k hk
 have hk4:k=0∨k=1:=Jo
 rcases hk4 with e|e
 all_goals subst e
 ·simp only[k0]
  have c:=fc 0 Jo
  refine V.r1 (V.a3 jjp @Bool.false_eq_true @if_false.{1}) c ?_
  exact⟨1,Jo,Jo,V.wk⟩
 ·simp only[k1]
  refine V.r1 @jjC fi ?_
  exact Fin.of rfl
theorem loc2_t (z0 z1 out:Int)(data B O:List Int)(X:Nat→Tx)(m:Nat)(F:Nat→List D)(ck:Cl 58 [.agg [Jj [z0,z1],Ji out,Jj data]] (Ji 0))(fc:∀ k,k<2→Cl 72 [Jt (X k)] (Ji 0))(fi:Cl 73 [.agg [Jj [z0,z1],Ji out,Jj data],V.sl2 2 [.str (X 0).1,.str (X 0).2,.str (X 1).1,.str (X 1).2]] (.tup [.agg [Jj [z0,z1],Ji out,Jj data,Jj B,Jj O,.slf 2 m F],Ji 0])) :
  Cl 34 [.agg [Jj [z0,z1],Ji out,Jj data],V.sl2 2 [.str (X 0).1,.str (X 0).2,.str (X 1).1,.str (X 1).2]] (.tup [.agg [Jj [z0,z1],Ji out,Jj data,Jj B,Jj O,.slf 2 m F],Ji 0]):=by
 refine V.en tbOk Tryz.func34 ?_
 refine V.r1 @jjC ck ?_
 refine Cnd.split (CondB.mk (fun h=>absurd h Js) (fun _=>?_))
 refine V.r0 @jjC ?_
 refine jad (0) (fun k=>k≤2) (fun k=>2-k) (fun k=>[(25,Ji k)]) (fun k=>[]) ?_ ?_ ?_
 ·exact V.wk
 ·exact jjx _
 intro k hk
 have hk4:k=0∨k=1∨k=2:=Jo
 rcases hk4 with e|e|e
 all_goals subst e
 ·simp only[k0]
  have c:=fc 0 Jo
  refine V.r1 (V.a3 jjp @Bool.false_eq_true @if_false.{1}) c ?_
  exact⟨1,Jo,Jo,V.wk⟩
 ·simp only[k1]
  have c:=fc 1 Jo
  refine V.r1 (V.a3 jjp @Bool.false_eq_true @if_false.{1}) c ?_
  exact⟨2,Jo,Jo,V.wk⟩
 ·simp only[k2]
  refine V.r1 @jjC fi ?_
  exact Fin.of rfl
theorem loc3_t (z0 z1 z2 out:Int)(data B O:List Int)(X:Nat→Tx)(m:Nat)(F:Nat→List D)(ck:Cl 58 [.agg [Jj [z0,z1,z2],Ji out,Jj data]] (Ji 0))(fc:∀ k,k<3→Cl 72 [Jt (X k)] (Ji 0))(fi:Cl 73 [.agg [Jj [z0,z1,z2],Ji out,Jj data],V.sl2 3 [.str (X 0).1,.str (X 0).2,.str (X 1).1,.str (X 1).2,.str (X 2).1,.str (X 2).2]] (.tup [.agg [Jj [z0,z1,z2],Ji out,Jj data,Jj B,Jj O,.slf 2 m F],Ji 0])) :
  Cl 34 [.agg [Jj [z0,z1,z2],Ji out,Jj data],V.sl2 3 [.str (X 0).1,.str (X 0).2,.str (X 1).1,.str (X 1).2,.str (X 2).1,.str (X 2).2]] (.tup [.agg [Jj [z0,z1,z2],Ji out,Jj data,Jj B,Jj O,.slf 2 m F],Ji 0]):=by
 refine V.en tbOk Tryz.func34 ?_
 refine V.r1 @jjC ck ?_
 refine Cnd.split (CondB.mk (fun h=>absurd h Js) (fun _=>?_))
 refine V.r0 @jjC ?_
 refine jad (0) (fun k=>k≤3) (fun k=>3-k) (fun k=>[(25,Ji k)]) (fun k=>[]) ?_ ?_ ?_
 ·exact V.wk
 ·exact jjx _
 intro k hk
 have hk4:k=0∨k=1∨k=2∨k=3:=Jo
 rcases hk4 with e|e|e|e
 all_goals subst e
 ·simp only[k0]
  have c:=fc 0 Jo
  refine V.r1 (V.a3 jjp @Bool.false_eq_true @if_false.{1}) c ?_
  exact⟨1,Jo,Jo,V.wk⟩
 ·simp only[k1]
  have c:=fc 1 Jo
  refine V.r1 (V.a3 jjp @Bool.false_eq_true @if_false.{1}) c ?_
  exact⟨2,Jo,Jo,V.wk⟩
 ·simp only[k2]
  have c:=fc 2 Jo
  refine V.r1 (V.a3 jjp @Bool.false_eq_true @if_false.{1}) c ?_
  exact⟨3,Jo,Jo,V.wk⟩
 ·simp only[k3]
  refine V.r1 @jjC fi ?_
  exact Fin.of rfl
theorem eval_t (zs data B O:List Int)(out:Int)(n m e0:Nat)(X F Y:Nat→List D)(lo:Cl 34 [.agg [Jj zs,Ji out,Jj data],.slf 2 n X] (.tup [.agg [Jj zs,Ji out,Jj data,Jj B,Jj O,.slf 2 m F],Ji 0]))(va:Cl 43 [.agg [Jj zs,Ji out,Jj data,Jj B,Jj O,.slf 2 m F]] (.tup [.slf 2 e0 Y,Ji 0])) :
  Cl 13 [.agg [Jj zs,Ji out,Jj data],.slf 2 n X] (.tup [.slf 2 e0 Y,Ji 0]):=by
 refine V.en tbOk Tryz.func13 ?_
 refine V.r2 @jjC lo va ?_
 exact Fin.of rfl
theorem cell_t (zs data B O:List Int)(out:Int)(n m:Nat)(X F:Nat→List D)(lo:Cl 34 [.agg [Jj zs,Ji out,Jj data],.slf 2 n X] (.tup [.agg [Jj zs,Ji out,Jj data,Jj B,Jj O,.slf 2 m F],Ji 0])) :
  Cl 11 [.agg [Jj zs,Ji out,Jj data],.slf 2 n X] (.tup [Jj B,Jj O,.slf 2 m F,Ji 0]):=by
 refine V.en tbOk Tryz.func11 ?_
 refine V.r1 @jjC lo ?_
 refine⟨(V.tk [0,1,2,3,4,5,6,7,8,9] .done),[],V.pok,?_⟩
 refine jab [(4,Jj B),(5,Jj O),(6,.slf 2 m F),(7,Ji 0)] [] ?_ ?_
 ·exact V.d0 @jjC
 refine V.r0 @jjC ?_
 exact Fin.of rfl
theorem loc_len (zs data:List Int)(out:Int)(n:Nat)(X:Nat→List D)(h:n≠zs.length)(ck:Cl 58 [.agg [Jj zs,Ji out,Jj data]] (Ji 0)) :
  Cl 34 [.agg [Jj zs,Ji out,Jj data],.slf 2 n X] (.tup [.agg [.nil,Ji 0,.nil,.nil,.nil,.nil],Ji 2]):=by
 refine V.en tbOk Tryz.func34 ?_
 refine V.r1 @jjC ck ?_
 refine Cnd.split (CondB.mk (fun _=>?_) (fun g=>absurd (decide_eq_true (show ((n:Int)≠(zs.length:Int)) from Jo)) (by rw[g];decide)))
 refine V.r0 @jjC ?_
 exact Fin.of rfl
theorem eval_e (zs data:List Int)(out e:Int)(he:e≠0)(n:Nat)(X:Nat→List D)(lo:Cl 34 [.agg [Jj zs,Ji out,Jj data],.slf 2 n X] (.tup [.agg [.nil,Ji 0,.nil,.nil,.nil,.nil],Ji e])) :
  Cl 13 [.agg [Jj zs,Ji out,Jj data],.slf 2 n X] (.tup [.nil,Ji e]):=by
 refine V.en tbOk Tryz.func13 ?_
 refine V.r1 @jjC lo ?_
 refine Cnd.split (CondB.mk (fun _=>?_) (fun g=>absurd (decide_eq_true he) (by rw[g];decide)))
 refine V.r0 @jjC ?_
 exact Fin.of rfl
theorem jdg {n:Nat}{q:Rat}(h:Fq n q)(h0:0<n∧n≤600):Cl 72 [frT q] (Ji 0):=by
 have o:=jaE (h.ok h0.1 h0.2)
 have b:=h.ok h0.1 h0.2
 unfold okF at b
 simp only[jjv,decide_eq_true_eq] at b
 have c:=fcheck_c (decZ q.num) (dec q.den) (by unfold decZ;split<;>(try simp only[jkn])<;>omega) Jo
 rw[o.1] at c
 exact c
theorem jb2 {zs:List Int}{out:Int}{data:List Int}(hg:jaf zs out data=true)(hl:zs.length≤4):Cl 58 [gridD zs out data] (Ji 0):=by
 have o:=jaq hg
 have c:=jfJ zs out data Jo Jo
 rw[hg] at c
 exact c
theorem locq1 {x0:Rat}{z0 out:Int}{data:List Int}(hg:jaf [z0] out data=true)(h0:Fq 40 x0):Cl 34 [gridD [z0] out data,slQ (fun i=>txq (rqN x0 0 0 i)) 1] (.tup [.agg [Jj [z0],Ji out,Jj data,Jj [spB z0 x0],Jj [0],slQ (fun k=>txq (wqN (rqN (spR z0 x0) 0 0) [0] 1 k)) 2],Ji 0]):=by
 have og:=jaq hg
 have s0:=og.2.1 z0 Js
 have fc:∀ k,k<1→Cl 72 [frT (rqN x0 0 0 k)] (Ji 0):=fun k hk=>by
  have h:k=0:=Jo
  subst h
  ·exact jdg h0 Jd
 exact loc1_t z0 out data _ _ (fun i=>txq (rqN x0 0 0 i)) _ _ (jb2 hg Js) fc (find1_q out data h0 s0)
theorem evalq1 {x0:Rat}{z0 out:Int}{data:List Int}(hg:jaf [z0] out data=true)(h0:Fq 40 x0):Cl 13 [gridD [z0] out data,slQ (fun i=>txq (rqN x0 0 0 i)) 1] (.tup [slQ (fun j=>txq (evQ [z0] out data x0 0 0 j)) out.toNat,Ji 0]):=
 eval_t _ _ _ _ _ _ _ _ _ _ _ (locq1 hg h0) (valq1 hg h0)
theorem locq2 {x0 x1:Rat}{z0 z1 out:Int}{data:List Int}(hg:jaf [z0,z1] out data=true)(h0:Fq 40 x0)(h1:Fq 40 x1):Cl 34 [gridD [z0,z1] out data,slQ (fun i=>txq (rqN x0 x1 0 i)) 2] (.tup [.agg [Jj [z0,z1],Ji out,Jj data,Jj [spB z0 x0,spB z1 x1],Jj (ord2 (spR z0 x0) (spR z1 x1)),slQ (fun k=>txq (wqN (rqN (spR z0 x0) (spR z1 x1) 0) (ord2 (spR z0 x0) (spR z1 x1)) 2 k)) 3],Ji 0]):=by
 have og:=jaq hg
 have s0:=og.2.1 z0 Js
 have s1:=og.2.1 z1 Js
 have fc:∀ k,k<2→Cl 72 [frT (rqN x0 x1 0 k)] (Ji 0):=fun k hk=>by
  have h:k=0∨k=1:=Jo
  rcases h with rfl|rfl
  ·exact jdg h0 Jd
  ·exact jdg h1 Jd
 exact loc2_t z0 z1 out data _ _ (fun i=>txq (rqN x0 x1 0 i)) _ _ (jb2 hg Js) fc (find2_q out data h0 h1 s0 s1)
theorem evalq2 {x0 x1:Rat}{z0 z1 out:Int}{data:List Int}(hg:jaf [z0,z1] out data=true)(h0:Fq 40 x0)(h1:Fq 40 x1):Cl 13 [gridD [z0,z1] out data,slQ (fun i=>txq (rqN x0 x1 0 i)) 2] (.tup [slQ (fun j=>txq (evQ [z0,z1] out data x0 x1 0 j)) out.toNat,Ji 0]):=
 eval_t _ _ _ _ _ _ _ _ _ _ _ (locq2 hg h0 h1) (valq2 hg h0 h1)
theorem cellq2 {x0 x1:Rat}{z0 z1 out:Int}{data:List Int}(hg:jaf [z0,z1] out data=true)(h0:Fq 40 x0)(h1:Fq 40 x1):Cl 11 [gridD [z0,z1] out data,slQ (fun i=>txq (rqN x0 x1 0 i)) 2] (.tup [Jj [spB z0 x0,spB z1 x1],Jj (ord2 (spR z0 x0) (spR z1 x1)),slQ (fun k=>txq (wqN (rqN (spR z0 x0) (spR z1 x1) 0) (ord2 (spR z0 x0) (spR z1 x1)) 2 k)) 3,Ji 0]):=
 cell_t _ _ _ _ _ _ _ _ _ (locq2 hg h0 h1)
theorem locq3 {x0 x1 x2:Rat}{z0 z1 z2 out:Int}{data:List Int}(hg:jaf [z0,z1,z2] out data=true)(h0:Fq 40 x0)(h1:Fq 40 x1)(h2:Fq 40 x2):Cl 34 [gridD [z0,z1,z2] out data,slQ (fun i=>txq (rqN x0 x1 x2 i)) 3] (.tup [.agg [Jj [z0,z1,z2],Ji out,Jj data,Jj [spB z0 x0,spB z1 x1,spB z2 x2],Jj (ord3 (spR z0 x0) (spR z1 x1) (spR z2 x2)),slQ (fun k=>txq (wqN (rqN (spR z0 x0) (spR z1 x1) (spR z2 x2)) (ord3 (spR z0 x0) (spR z1 x1) (spR z2 x2)) 3 k)) 4],Ji 0]):=by
 have og:=jaq hg
 have s0:=og.2.1 z0 Js
 have s1:=og.2.1 z1 Js
 have s2:=og.2.1 z2 Js
 have fc:∀ k,k<3→Cl 72 [frT (rqN x0 x1 x2 k)] (Ji 0):=fun k hk=>by
  have h:k=0∨k=1∨k=2:=Jo
  rcases h with rfl|rfl|rfl
  ·exact jdg h0 Jd
  ·exact jdg h1 Jd
  ·exact jdg h2 Jd
 exact loc3_t z0 z1 z2 out data _ _ (fun i=>txq (rqN x0 x1 x2 i)) _ _ (jb2 hg Js) fc (find3_q out data h0 h1 h2 s0 s1 s2)
theorem evalq3 {x0 x1 x2:Rat}{z0 z1 z2 out:Int}{data:List Int}(hg:jaf [z0,z1,z2] out data=true)(h0:Fq 40 x0)(h1:Fq 40 x1)(h2:Fq 40 x2):Cl 13 [gridD [z0,z1,z2] out data,slQ (fun i=>txq (rqN x0 x1 x2 i)) 3] (.tup [slQ (fun j=>txq (evQ [z0,z1,z2] out data x0 x1 x2 j)) out.toNat,Ji 0]):=
 eval_t _ _ _ _ _ _ _ _ _ _ _ (locq3 hg h0 h1 h2) (valq3 hg h0 h1 h2)
theorem mul_sgn {k l d:Rat}(hk:0≤k)(hl:0≤l):0≤k*d*(l*d):=by
 have h1:=Rat.mul_nonneg hk hl
 have h2:0≤d*d:=by
  by_cases h:0≤d
  ·exact Rat.mul_nonneg h h
  ·have h3:0 ≤ -d:=by grind
   have h4:=Rat.mul_nonneg h3 h3
   grind
 have h3:=Rat.mul_nonneg h1 h2
 grind
theorem between {p q r k l:Rat}(hk:0≤k)(hl:0≤l)(h1:q-p=k*(r-p))(h2:r-q=l*(r-p)):0≤ordQ p q*ordQ q r:=by
 have h3:=mul_sgn (d:=r-p) hk hl
 rw[← h1,← h2] at h3
 unfold ordQ
 by_cases a:p<q
 ·by_cases b:q<r
  ·simp[a,b]
  ·by_cases c:q=r
   ·simp[c]
   ·exfalso
    have e1:0<q-p:=by grind
    have e2:0<q-r:=by grind
    have:=Rat.mul_pos e1 e2
    grind
 ·by_cases a2:p=q
  ·simp[a2]
  ·by_cases b:q<r
   ·exfalso
    have e1:0<p-q:=by grind
    have e2:0<r-q:=by grind
    have:=Rat.mul_pos e1 e2
    grind
   ·by_cases c:q=r
    ·simp[c]
    ·simp[a,a2,b,c]
theorem zrcmp {a b:Nat}{p q:Rat}(h:Fq a p)(g:Fq b q)(ha:0<a∧a≤600)(hb:0<b∧b≤600):Cl 80 [frT p,frT q] (.tup [Ji (ordQ p q),Ji 0]):=by
 obtain⟨o1,e1⟩:=jaE (h.ok ha.1 ha.2)
 obtain⟨o2,e2⟩:=jaE (g.ok hb.1 hb.2)
 have r1:=jaZ _ _ (jaH o1).1 (jaH o1).2
 have r2:=jaZ _ _ (jaH o2).1 (jaH o2).2
 rw[o1] at r1
 rw[o2] at r2
 have i1:=jc1 _ _ o1
 have i2:=jc1 _ _ o2
 rw[e1] at i1
 rw[e2] at i2
 have q1:=q4_qv o1
 have q2:=q4_qv o2
 rw[e1] at q1
 rw[e2] at q2
 have od:=jdP p q (q1.mono Jo) (q2.mono Jo)
 unfold frT
 generalize ordQ p q=w at *
 refine V.en tbOk Tryz.func80 ?_
 refine V.u2 r1 r2 ?_
 refine⟨(V.tk [0,2] (V.e1 1 [2] (V.e1 3 [] (V.e1 4 [] (V.tk [5,6] .done))))),[],V.pok,.go (jac ?_)⟩
 refine V.u3 i1 i2 od ?_
 exact Fin.of rfl
theorem lof_c {n m:Int}(hn : -9223372036854775807≤n∧n≤9223372036854775807)(hm:1≤m∧m≤9223372036854775807):Cl 30 [Ji n,Ji m] (frT (Rat.divInt n m)):=by
 have c:=y_rof hn hm
 unfold frT at *
 generalize Rat.divInt n m=q at *
 refine V.en tbOk Tryz.func30 ?_
 refine V.u1 c ?_
 exact Fin.of rfl
theorem lfour_c:Cl 29 [] (gridD [2,2] 1 [0,13107,26214,65535]):=by
 refine V.en tbOk Tryz.func29 ?_
 refine V.r0 @jjC ?_
 exact Fin.of rfl
theorem ji6:type_of% @jjC∧type_of% @tn0∧type_of% @tn1∧type_of% @tn2∧type_of% @tn3∧type_of% @xt4:=⟨@jjC,@tn0,@tn1,@tn2,@tn3,@xt4⟩
theorem eqf1 (Y:Nat→Tx):Cl 16 [V.sl2 1 [.str (Y 0).1,.str (Y 0).2],V.sl2 1 [.str (Y 0).1,.str (Y 0).2]] (.bool true):=by
 refine V.en tbOk Tryz.func16 ?_
 refine V.r0 @jjC ?_
 refine jad (0) (fun k=>k≤1) (fun k=>1-k) (fun k=>[(13,Ji k)]) (fun k=>[]) ?_ ?_ ?_
 ·exact V.wk
 ·exact jjx _
 intro k hk
 have hk4:k=0∨k=1:=Jo
 rcases hk4 with e|e
 all_goals subst e
 ·simp only[k0]
  refine V.r0 ji6 ?_
  refine⟨Pq27z,[],V.pok,?_⟩
  refine jab [(24,.bool false)] [] ?_ ?_
  ·exact V.d0 (V.a4 ji6 @decide_true @Bool.and_self @Bool.not_true)
  refine V.r0 ji6 ?_
  exact⟨1,Jo,Jo,V.wk⟩
 ·simp only[k1]
  refine V.r0 @jjC ?_
  exact Fin.of rfl
theorem eqf3 (Y:Nat→Tx):Cl 16 [V.sl2 3 [.str (Y 0).1,.str (Y 0).2,.str (Y 1).1,.str (Y 1).2,.str (Y 2).1,.str (Y 2).2],V.sl2 3 [.str (Y 0).1,.str (Y 0).2,.str (Y 1).1,.str (Y 1).2,.str (Y 2).1,.str (Y 2).2]] (.bool true):=by
 refine V.en tbOk Tryz.func16 ?_
 refine V.r0 @jjC ?_
 refine jad (0) (fun k=>k≤3) (fun k=>3-k) (fun k=>[(13,Ji k)]) (fun k=>[]) ?_ ?_ ?_
 ·exact V.wk
 ·exact jjx _
 intro k hk
 have hk4:k=0∨k=1∨k=2∨k=3:=Jo
 rcases hk4 with e|e|e|e
 all_goals subst e
 ·simp only[k0]
  refine V.r0 ji6 ?_
  refine⟨Pq27z,[],V.pok,?_⟩
  refine jab [(24,.bool false)] [] ?_ ?_
  ·exact V.d0 (V.a4 ji6 @decide_true @Bool.and_self @Bool.not_true)
  refine V.r0 ji6 ?_
  exact⟨1,Jo,Jo,V.wk⟩
 ·simp only[k1]
  refine V.r0 ji6 ?_
  refine⟨Pq27z,[],V.pok,?_⟩
  refine jab [(24,.bool false)] [] ?_ ?_
  ·exact V.d0 (V.a4 ji6 @decide_true @Bool.and_self @Bool.not_true)
  refine V.r0 ji6 ?_
  exact⟨2,Jo,Jo,V.wk⟩
 ·simp only[k2]
  refine V.r0 ji6 ?_
  refine⟨Pq27z,[],V.pok,?_⟩
  refine jab [(24,.bool false)] [] ?_ ?_
  ·exact V.d0 (V.a4 ji6 @decide_true @Bool.and_self @Bool.not_true)
  refine V.r0 ji6 ?_
  exact⟨3,Jo,Jo,V.wk⟩
 ·simp only[k3]
  refine V.r0 @jjC ?_
  exact Fin.of rfl
theorem eqb1 (Y:Nat→Int×Int):Cl 21 [V.sl2 1 [Ji (Y 0).1,Ji (Y 0).2],V.sl2 1 [Ji (Y 0).1,Ji (Y 0).2]] (.bool true):=by
 refine V.en tbOk Tryz.func21 ?_
 refine V.r0 @jjC ?_
 refine jad (0) (fun k=>k≤1) (fun k=>1-k) (fun k=>[(13,Ji k)]) (fun k=>[]) ?_ ?_ ?_
 ·exact V.wk
 ·exact jjx _
 intro k hk
 have hk4:k=0∨k=1:=Jo
 rcases hk4 with e|e
 all_goals subst e
 ·simp only[k0]
  refine V.r0 ji6 ?_
  refine⟨Pq27z,[],V.pok,?_⟩
  refine jab [(24,.bool false)] [] ?_ ?_
  ·exact V.d0 (V.a4 ji6 @decide_true @Bool.and_self @Bool.not_true)
  refine V.r0 ji6 ?_
  exact⟨1,Jo,Jo,V.wk⟩
 ·simp only[k1]
  refine V.r0 @jjC ?_
  exact Fin.of rfl
theorem jgH {q:Rat}(h:okF q=true):Cl 75 [frT q] (.bool true):=by
 obtain⟨o,e⟩:=jaE h
 have c:=jaZ (decZ q.num) (dec q.den) (jaH o).1 (jaH o).2
 rw[o] at c
 exact c
theorem rin_f {q:Rat}(h:okF q=true):Cl 77 [frT q] (raD q):=by
 obtain⟨o,e⟩:=jaE h
 have c:=jc1 (decZ q.num) (dec q.den) o
 rw[e] at c
 exact c
theorem rq4_f {q:Rat}(h:okF q=true):Q4 30000000 q:=by
 obtain⟨o,e⟩:=jaE h
 have c:=q4_qv o
 rw[e] at c
 exact c.mono Jo
theorem ord_tri (q p:Rat):q<p∨q=p∨p<q:=by
 rcases Rat.le_total (a:=q) (b:=p) with h|h
 ·by_cases e:q=p
  ·exact .inr (.inl e)
  ·exact .inl (Rat.lt_of_le_of_ne h e)
 ·by_cases e:q=p
  ·exact .inr (.inl e)
  ·exact .inr (.inr (Rat.lt_of_le_of_ne h (Ne.symm e)))
theorem rclamp_f {q:Rat}(h:okF q=true):Cl 78 [frT q,frT 0,frT 1] (.tup [frT (clQ q),Ji 0]):=by
 have h0:okF 0=true:=by decide +kernel
 have h1:okF 1=true:=by decide +kernel
 have r:=jgH h
 have r0:=jgH h0
 have r1:=jgH h1
 have i:=rin_f h
 have i0:=rin_f h0
 have i1:=rin_f h1
 have q4:=rq4_f h
 have z4:=rq4_f h0
 have o4:=rq4_f h1
 have o01:=jdP 0 1 (z4.mono Jo) (o4.mono Jo)
 have oq0:=jdP q 0 (q4.mono Jo) (z4.mono Jo)
 have oq1:=jdP q 1 (q4.mono Jo) (o4.mono Jo)
 have e01:ordQ 0 1 = -1:=by decide +kernel
 rw[e01] at o01
 have e0:decide (ordQ q 0<0)=decide (q<0):=by
  rw[decide_eq_decide]
  unfold ordQ
  split
  ·rename_i h;simp[h]
  ·split
   ·rename_i h h2;subst h2;simp[Rat.lt_irrefl]
   ·rename_i h h2;simp[h]
 have e1:decide (0<ordQ q 1)=decide (1<q):=by
  rw[decide_eq_decide]
  unfold ordQ
  have t:=ord_tri q 1
  split
  ·rename_i h;simp[Rat.not_lt.2 (Rat.le_of_lt h)]
  ·split
   ·rename_i h h2;subst h2;simp[Rat.lt_irrefl]
   ·rename_i h h2;rcases t with t|t|t<;>first|exact absurd t h|exact absurd t h2|simp[t]
 have hcl:clQ q=if q<0 then 0 else if 1<q then 1 else q:=by
  unfold clQ
  by_cases g:q<0
  ·rw[if_pos g,if_pos g,if_neg (by decide +kernel)]
  ·rw[if_neg g,if_neg g]
 rw[hcl]
 unfold frT at *
 generalize ordQ q 0=z at *
 generalize ordQ q 1=y at *
 by_cases g0:q<0
 ·rw[if_pos g0]
  rw[decide_eq_true g0] at e0
  generalize (0:Rat)=zz at *
  generalize (1:Rat)=oo at *
  refine V.en tbOk Tryz.func78 ?_
  refine V.r3 e0 r r0 r1 ?_
  refine⟨Pq81z,[],V.pok,.go (jac ?_)⟩
  refine V.r3 e0 i0 i1 o01 ?_
  refine⟨Pq81z,[],V.pok,.go (jac ?_)⟩
  refine V.r3 e0 i i0 oq0 ?_
  exact Fin.of rfl
 ·rw[if_neg g0]
  rw[decide_eq_false g0] at e0
  by_cases g1:1<q
  ·rw[if_pos g1]
   rw[decide_eq_true g1] at e1
   generalize (0:Rat)=zz at *
   generalize (1:Rat)=oo at *
   refine V.en tbOk Tryz.func78 ?_
   (conv=>whnf)
   (conv=>whnf)
   (try simp only[e0,e1])
   repeat ((first|refine V.s1 ?_|((try ((with_reducible refine .ext ?_);(conv=>whnf);(try simp only[e0,e1])));(with_reducible refine jaa (r:=?_) ?_ ?_);rotate_left;(focus (first|exact(r)|exact(r0)|exact(r1)));(conv=>whnf)));(try simp only[e0,e1]))
   refine⟨Pq81z,[],V.pok,.go (jac ?_)⟩
   (conv=>whnf)
   (try simp only[e0,e1])
   repeat ((first|refine V.s1 ?_|((try ((with_reducible refine .ext ?_);(conv=>whnf);(try simp only[e0,e1])));(with_reducible refine jaa (r:=?_) ?_ ?_);rotate_left;(focus (first|exact(i0)|exact(i1)|exact(o01)));(conv=>whnf)));(try simp only[e0,e1]))
   refine⟨Pq81z,[],V.pok,.go (jac ?_)⟩
   (conv=>whnf)
   (try simp only[e0,e1])
   repeat ((first|refine V.s1 ?_|((try ((with_reducible refine .ext ?_);(conv=>whnf);(try simp only[e0,e1])));(with_reducible refine jaa (r:=?_) ?_ ?_);rotate_left;(focus (first|exact(i)|exact(i0)|exact(oq0)));(conv=>whnf)));(try simp only[e0,e1]))
   refine⟨Pq81z,[],V.pok,.go (jac ?_)⟩
   (conv=>whnf)
   (try simp only[e0,e1])
   repeat ((first|refine V.s1 ?_|((try ((with_reducible refine .ext ?_);(conv=>whnf);(try simp only[e0,e1])));(with_reducible refine jaa (r:=?_) ?_ ?_);rotate_left;(focus (first|exact(i)|exact(i1)|exact(oq1)));(conv=>whnf)));(try simp only[e0,e1]))
   exact Fin.of rfl
  ·rw[if_neg g1]
   rw[decide_eq_false g1] at e1
   generalize (0:Rat)=zz at *
   generalize (1:Rat)=oo at *
   refine V.en tbOk Tryz.func78 ?_
   (conv=>whnf)
   (conv=>whnf)
   (try simp only[e0,e1])
   repeat ((first|refine V.s1 ?_|((try ((with_reducible refine .ext ?_);(conv=>whnf);(try simp only[e0,e1])));(with_reducible refine jaa (r:=?_) ?_ ?_);rotate_left;(focus (first|exact(r)|exact(r0)|exact(r1)));(conv=>whnf)));(try simp only[e0,e1]))
   refine⟨Pq81z,[],V.pok,.go (jac ?_)⟩
   (conv=>whnf)
   (try simp only[e0,e1])
   repeat ((first|refine V.s1 ?_|((try ((with_reducible refine .ext ?_);(conv=>whnf);(try simp only[e0,e1])));(with_reducible refine jaa (r:=?_) ?_ ?_);rotate_left;(focus (first|exact(i0)|exact(i1)|exact(o01)));(conv=>whnf)));(try simp only[e0,e1]))
   refine⟨Pq81z,[],V.pok,.go (jac ?_)⟩
   (conv=>whnf)
   (try simp only[e0,e1])
   repeat ((first|refine V.s1 ?_|((try ((with_reducible refine .ext ?_);(conv=>whnf);(try simp only[e0,e1])));(with_reducible refine jaa (r:=?_) ?_ ?_);rotate_left;(focus (first|exact(i)|exact(i0)|exact(oq0)));(conv=>whnf)));(try simp only[e0,e1]))
   refine⟨Pq81z,[],V.pok,.go (jac ?_)⟩
   (conv=>whnf)
   (try simp only[e0,e1])
   repeat ((first|refine V.s1 ?_|((try ((with_reducible refine .ext ?_);(conv=>whnf);(try simp only[e0,e1])));(with_reducible refine jaa (r:=?_) ?_ ?_);rotate_left;(focus (first|exact(i)|exact(i1)|exact(oq1)));(conv=>whnf)));(try simp only[e0,e1]))
   exact Fin.of rfl
theorem r9clamp_c {q:Rat}(h:okF q=true):Cl 38 [frT q] (frT (clQ q)):=by
 have z:Cl 79 [Ji 0,Ji 1] (frT 0):=by
  have c:=y_rof (n:=0) (m:=1) Jo Jo
  rw[show Rat.divInt 0 1=0 from rfl] at c
  unfold frT at *
  generalize (0:Rat)=q at *
  refine V.en tbOk Tryz.func79 ?_
  refine V.u1 c ?_
  exact Fin.of rfl
 have o:Cl 79 [Ji 1,Ji 1] (frT 1):=by
  have c:=y_rof (n:=1) (m:=1) Jo Jo
  rw[show Rat.divInt 1 1=1 from rfl] at c
  unfold frT at *
  generalize (1:Rat)=q at *
  refine V.en tbOk Tryz.func79 ?_
  refine V.u1 c ?_
  exact Fin.of rfl
 have c:=rclamp_f h
 unfold frT at *
 generalize (0:Rat)=a at *
 generalize (1:Rat)=b at *
 generalize clQ q=d at *
 refine V.en tbOk Tryz.func38 ?_
 refine V.u3 z o c ?_
 refine⟨(V.tk [0] (.ev (.cons 1 [0] (.ev (.cons 2 [0] (.ev (.cons 3 [] (V.tk [4,5,6] (V.e1 7 [6,5,4] (V.e1 8 [6] (V.tk [9] .done)))) (.cons 7 [0] (V.e1 3 [] (V.tk [4,5,6] (V.e1 8 [6] (V.tk [9] .done)))) .nil))) (.cons 7 [0] (V.e1 2 [0] (V.e1 3 [] (V.tk [4,5,6] (V.e1 8 [6] (V.tk [9] .done))))) .nil))) (.cons 7 [0] (V.e1 1 [0] (V.e1 2 [0] (V.e1 3 [] (V.tk [4,5,6] (V.e1 8 [6] (V.tk [9] .done)))))) .nil)))),[],V.pok,?_⟩
 refine jab [(3,.box 3 0)] [(3,.box [.str (decZ d.num),.str (dec d.den)])] ?_ ?_
 ·exact V.d3 @jjC z o c
 refine V.r0 @jjC ?_
 exact Fin.of rfl
theorem jcT {n m:Int}(hn : -9223372036854775807≤n∧n≤9223372036854775807)(hm:1≤m∧m≤9223372036854775807):Cl 39 [Ji n,Ji m] (frT (Rat.divInt n m)):=by
 have c:=y_rof hn hm
 unfold frT at *
 generalize Rat.divInt n m=q at *
 refine V.en tbOk Tryz.func39 ?_
 refine V.u1 c ?_
 exact Fin.of rfl
theorem jbz {n:Int}(hn : -9223372036854775807≤n∧n≤9223372036854775807):Cl 39 [Ji n,Ji 1] (frT (n:Rat)):=by
 have c:=jcT (n:=n) (m:=1) hn Jo
 rw[int_q] at c
 exact c
theorem jhs {a b:Nat}{p q:Rat}(h:Fq a p)(g:Fq b q)(ha:0<a∧a≤600)(hb:0<b∧b≤600):Cl 40 [frT p,frT q] (.bool (decide (p<q))):=by
 have c:=zrcmp h g ha hb
 have e:decide (ordQ p q<0)=decide (p<q):=by rw[decide_eq_decide];exact jdO p q
 rw[← e]
 unfold frT at *
 generalize ordQ p q=r at *
 refine V.en tbOk Tryz.func40 ?_
 refine V.u1 c ?_
 exact Fin.of rfl
def rIns (p:Int→Bool)(i:Int)(l:List Int):List Int:=l.takeWhile p++i::l.dropWhile p
def rS (r:Nat→Rat):Nat→List Int
 | 0=>[]
 | i+1=>rIns (fun o => !decide (r o.toNat<r i)) i (rS r i)
theorem rS1 (r:Nat→Rat):rS r 1=[0]:=rfl
theorem rS2 (r0 r1 r2:Rat):rS (rqN r0 r1 r2) 2=ord2 r0 r1:=by
 unfold ord2
 by_cases h:r0<r1
 ·rw[if_pos h]
  simp[rS,rIns,rqN,h]
 ·rw[if_neg h]
  simp[rS,rIns,rqN,h]
theorem rS3 (r0 r1 r2:Rat):rS (rqN r0 r1 r2) 3=ord3 r0 r1 r2:=by
 have t:r0<r1→r1<r2→r0<r2:=by grind
 have v:¬ r0<r1→r0<r2→r1<r2:=by grind
 unfold ord3
 by_cases h:r0<r1<;>by_cases g:r0<r2<;>by_cases k:r1<r2<;>simp_all [rS,rIns,rqN]
theorem spB_step {s b:Int}(x:Rat):(b<s-2 ∧ ¬ gp s x<((b+1:Int):Rat))↔b+1≤spB s x:=by
 unfold spB
 rw[Rat.not_lt,← Rat.le_floor_iff]
 omega
theorem tw_at (p:Int→Bool):∀ (l:List Int) (at_:Nat),at_≤l.length→(∀ j,j<at_→p (l.getD j 0)=true)→(at_<l.length→p (l.getD at_ 0)=false)→l.take at_=l.takeWhile p∧l.drop at_=l.dropWhile p
 | [],at_,h,_,_=>by
  obtain rfl:at_=0:=by simpa using h
  exact⟨rfl,rfl⟩
 | x::l,0,_,_,h2=>by
  have h:=h2 Js
  have h:p x=false:=h
  simp[h]
 | x::l,at_+1,h,h1,h2=>by
  have hx:p x=true:=h1 0 Jo
  have ih:=tw_at p l at_ (by simpa using h) (fun j hj=>h1 (j+1) Jo) (fun g=>h2 (by simpa using g))
  simp only[List.take_succ_cons,List.drop_succ_cons,List.takeWhile_cons,List.dropWhile_cons,hx,if_true,ih]
  exact⟨trivial,trivial⟩
theorem rS_len (r:Nat→Rat):∀ n,(rS r n).length=n
 | 0=>rfl
 | n+1=>by
  have h:=rS_len r n
  show (rIns _ _ _).length=_
  unfold rIns
  have e:=congrArg List.length (List.takeWhile_append_dropWhile (p:=fun o:Int => !decide (r o.toNat<r n)) (l:=rS r n))
  rw[jkd] at e
  rw[jkd,jkn]
  omega
theorem rS_mem (r:Nat→Rat):∀ n, ∀ o∈rS r n,0≤o∧o<n
 | 0,o,h=>by cases h
 | n+1,o,h=>by
  have ih:=rS_mem r n
  have h:o∈rIns (fun o => !decide (r o.toNat<r n)) n (rS r n):=h
  unfold rIns at h
  rcases List.mem_append.1 h with h|h
  ·have:=ih o ((List.takeWhile_sublist _).subset h);omega
  ·rcases jka.1 h with rfl|h
   ·omega
   ·have:=ih o ((List.dropWhile_sublist _).subset h);omega
theorem rS_get (r:Nat→Rat){n j:Nat}(h:j<n):0≤(rS r n).getD j 0∧(rS r n).getD j 0<n:=by
 have hl:=rS_len r n
 refine rS_mem r n _ ?_
 rw[jj8,jkb Jo]
 exact List.getElem_mem _
theorem jja:type_of% @jjF∧type_of% @jjC:=⟨@jjF,@jjC⟩
theorem sorted_t {n:Nat}(hn:1≤n∧n≤4)(Y:Nat→Tx)(r:Nat→Rat)(lc:∀ i j,i<n→j<n→Cl 40 [Jt (Y i),Jt (Y j)] (.bool (decide (r i<r j)))) :
  Cl 42 [.slf 2 n (fun j=>[.str (Y j).1,.str (Y j).2])] (Jj (rS r n)):=by
 refine V.en tbOk Tryz.func42 ?_
 refine V.r0 jja ?_
 refine Lp.ghostSlot 47 3  .i64 Jd ?_
 (conv=>whnf)
 refine jad (0:Nat) (fun k=>k≤n) (fun k=>n-k) (fun k=>[(3,.osl 47 0 k),(4,Ji (k:Nat))]) (fun k=>[(47,.arr .i64 (rS r k))]) ?_ ?_ ?_
 ·exact V.wk
 ·exact jjx _
 intro k hk
 try dsimp only at hk ⊢
 obtain⟨l,hl⟩:∃ l,rS r k=l:=⟨_,rfl⟩
 have hll:l.length=k:=by rw[← hl];exact rS_len r _
 have hget:∀ j,j<k→0≤l.getD j 0∧l.getD j 0<(k:Nat):=fun j hj=>by rw[← hl];exact rS_get r hj
 have hnext:∀ y:Nat,l.take y=l.takeWhile (fun o => !decide (r o.toNat<r k))→l.drop y=l.dropWhile (fun o => !decide (r o.toNat<r k))→rS r (k+1)=l.take y++[((k:Nat):Int)]++l.drop y:=fun y h1 h2=>by
  show rIns _ _ (rS r k)=_
  rw[hl,h1,h2]
  unfold rIns
  simp
 rw[hl]
 by_cases hkn:k<n
 ·have hlt:decide ((k:Int)<n)=true:=decide_eq_true Jo
  have hkc:((k:Int)+1)=((k+1:Nat):Int):=Jo
  refine V.r0 (V.a2 jja hlt) ?_
  refine jbn (β:=Nat) 2 (fun y=>y≤k∧l.take y=l.takeWhile (fun o => !decide (r o.toNat<r k))∧l.drop y=l.dropWhile (fun o => !decide (r o.toNat<r k))) (fun y=>[(5,Ji (y:Nat))]) (fun _=>[]) ?_ ?_
  ·refine jad (0:Nat) (fun j=>j≤k ∧ ∀ i,i<j→(!decide (r (l.getD i 0).toNat<r k))=true) (fun j=>k-j) (fun j=>[(5,Ji (j:Nat))]) (fun _=>[]) ?_ ?_ ?_
   ·exact V.wk
   ·exact⟨jjx _,fun i hi=>absurd hi (Nat.not_lt_zero _)⟩
   rintro j ⟨hj,hp⟩
   by_cases hjk:j<k
   ·have hlt2:decide ((j:Int)<(k:Nat))=true:=decide_eq_true Jo
    obtain⟨o,ho⟩:∃ o,l.getD j 0=o:=⟨_,rfl⟩
    have hob:=hget j hjk
    rw[ho] at hob
    have c:=lc o.toNat k Jo hkn
    have hjc:((j:Int)+1)=((j+1:Nat):Int):=Jo
    refine V.r0 (V.a3 jja hlt2 ho) ?_
    refine⟨Pq6z,[],V.pok,.go (jac ?_)⟩
    (conv=>whnf)
    (try simp only[jja,hlt2,ho])
    repeat ((first|refine V.s1 ?_|((try ((with_reducible refine .ext ?_);(conv=>whnf);(try simp only[jja,hlt2,ho])));(with_reducible refine jaa (r:=?_) ?_ ?_);rotate_left;(focus (first|fail));(conv=>whnf))|((refine⟨_,fun _=>c,?_⟩);(conv=>whnf)));(try simp only[jja,hlt2,ho]))
    refine V.br (fun hq=>?_) (fun hq=>?_)
    ·refine V.r0 (V.a2 hjc @jjF) ?_
     refine⟨j+1,⟨Jo,fun i hi=>?_⟩,Jo,V.wk⟩
     rcases jjO i j with g|g
     ·exact hp i g
     ·obtain rfl:i=j:=Jo
      rw[ho]
      exact hq
    ·refine V.r0 @jjF ?_
     exact⟨j,⟨hj,tw_at _ l j Jo hp (fun _=>by rw[ho];exact hq)⟩,V.wk⟩
   ·have hlt2:decide ((j:Int)<(k:Nat))=false:=decide_eq_false Jo
    refine V.r0 (V.a2 jja hlt2) ?_
    refine⟨Pq6z,[],V.pok,.go (jac ?_)⟩
    (conv=>whnf)
    (try simp only[jja,hlt2])
    repeat ((first|refine V.s1 ?_|((try ((with_reducible refine .ext ?_);(conv=>whnf);(try simp only[jja,hlt2])));(with_reducible refine jaa (r:=?_) ?_ ?_);rotate_left;(focus (first|fail));(conv=>whnf))|((refine⟨.bool false,(fun h=>by cases h),?_⟩);(conv=>whnf))|((refine And.intro (fun h=>by cases h) ?_);(conv=>whnf)));(try simp only[jja,hlt2]))
    exact⟨j,⟨hj,tw_at _ l j Jo hp (fun g=>absurd g Jo)⟩,V.wk⟩
  ·rintro y ⟨hy,h1,h2⟩
   try dsimp only at hy h1 h2 ⊢
   have e:=hnext y h1 h2
   refine V.r0 (V.a2 jja hkc) ?_
   refine⟨k+1,Jo,Jo,?_⟩
   try dsimp only
   have e1:(List.take y (List.drop 0 l)).length+(List.take 1 (List.drop 0 [(k:Int)])).length+(List.take (k-y) (List.drop y l)).length=k+1:=by
    simp only[jku,jke,jkt,jkn,List.length_nil,hll];omega
   have e2:List.take y (List.drop 0 l)++List.take 1 (List.drop 0 [(k:Int)])++List.take (k-y) (List.drop y l)=rS r (k+1):=by
    rw[e,jku,jko (l:=List.drop y l) (by rw[jkt];omega)]
    rfl
   simp only[e1,e2]
   exact V.wk
 ·obtain rfl:n=k:=Jo
  have hlt:decide (((n:Nat):Int)<((n:Nat):Int))=false:=decide_eq_false Jo
  refine V.r0 (V.a2 jja hlt) ?_
  rw[hl]
  exact Fin.of (by rw[jko Jo])
theorem jho (lo hi:Int):Cl 110 [bA lo hi] (.bool (vb lo hi)):=by
 refine V.en tbOk Tryz.func110 ?_
 (conv=>whnf)
 refine V.st ?_
 exact Fin.of rfl
def fl (q:Rat):Int:=q.num/(q.den:Int)
def oneE:Rat:=Rat.divInt 1000000000000 1
def tightR (x y:Rat):Int×Int×Int:=mk (fl (x*oneE)) (0-fl (-(y*oneE)))
theorem sm_fl {k:Nat}{q:Rat}(h:Q4 k q):Sm k (fl q):=h.1.le (by
 unfold fl
 exact jbh _ _)
theorem mk_no {a b:Int}(h:¬ (-1000000000000000000≤a∧a≤b∧b≤1000000000000000000)):mk a b=(0,0,6):=by
 unfold mk
 rw[if_neg (fun e=>h (jbC.1 e))]
theorem tight_c (x y:Rat)(hx:Q4 1000 x)(hy:Q4 1000 y):Cl 157 [raD x,raD y] (bD (tightR x y)):=by
 have q1:=quick_c 1000000000000 1 (by constructor<;>decide) (by constructor<;>decide) Jd
 have y1:Sm 5 1000000000000:=Sm.lit Jd
 have y2:Sm 5 1:=Sm.lit Jd
 have hE:Q4 5 oneE:=Q4.of y1 y2 Jd
 have t1:=je0 x oneE (hx.mono Jo) (hE.mono Jo)
 have t2:=je0 y oneE (hy.mono Jo) (hE.mono Jo)
 have z1:=hx.mul hE
 have z2:=hy.mul hE
 have d1:=down_c (x*oneE) (z1.mono Jo)
 have n2:=turn02_c (y*oneE) (z2.mono Jo)
 have d2:=down_c (-(y*oneE)) (z2.neg.mono Jo)
 have i1:=jgd (fl (x*oneE)) ((sm_fl z1).mono Jo)
 have i2:=jgd (fl (-(y*oneE))) ((sm_fl z2.neg).mono Jo)
 rw[show Rat.divInt 1000000000000 1=oneE from rfl] at q1
 rw[show (x*oneE).num/((x*oneE).den:Int)=fl (x*oneE) from rfl] at d1
 rw[show (-(y*oneE)).num/((-(y*oneE)).den:Int)=fl (-(y*oneE)) from rfl] at d2
 unfold tightR
 generalize fl (x*oneE)=a at *
 generalize fl (-(y*oneE))=b at *
 have r:=jho a (0-b)
 by_cases h1 : -9223372036854775808≤a∧a≤9223372036854775807
 ·rw[if_pos h1,if_pos h1] at i1
  by_cases h2 : -9223372036854775808≤b∧b≤9223372036854775807
  ·rw[if_pos h2,if_pos h2] at i2
   by_cases h3:b = -9223372036854775808
   ·rw[mk_no Jo]
    subst h3
    refine V.en tbOk Tryz.func157 ?_
    (conv=>whnf)
    refine V.st ?_
    repeat ((try ((with_reducible refine .ext ?_);(conv=>whnf)));(with_reducible refine jaa (r:=?_) ?_ ?_);rotate_left;(focus (first|exact(q1)|exact(t1)|exact(d1)|exact(i1)|exact(t2)|exact(n2)|exact(d2)|exact(i2)));(conv=>whnf);refine V.st ?_)
    refine .inl ⟨fun h=>by simp at h,?_⟩
    (conv=>whnf)
    refine V.st ?_
    refine⟨.bool false,fun h=>by simp at h,?_⟩
    (conv=>whnf)
    refine V.st ?_
    exact Fin.of rfl
   ·unfold mk
    generalize hv:vb a (0-b)=v at *
    have h3d:decide (b = -9223372036854775808)=false:=decide_eq_false h3
    refine V.en tbOk Tryz.func157 ?_
    (conv=>whnf)
    (conv=>whnf)
    (try simp only[h3d])
    repeat ((first|refine V.s1 ?_|((try ((with_reducible refine .ext ?_);(conv=>whnf);(try simp only[h3d])));(with_reducible refine jaa (r:=?_) ?_ ?_);rotate_left;(focus (first|exact(q1)|exact(t1)|exact(d1)|exact(i1)|exact(t2)|exact(n2)|exact(d2)|exact(i2)|exact(r)));(conv=>whnf)));(try simp only[h3d]))
    refine V.br (fun hq=>?_) (fun hq=>?_)
    ·simp at hq
     subst hq
     rw[if_neg Js]
     refine V.r0 h3d ?_
     exact Fin.of rfl
    ·simp at hq
     subst hq
     rw[if_pos rfl]
     refine V.r0 h3d ?_
     exact Fin.of rfl
  ·rw[if_neg h2,if_neg h2] at i2
   rw[mk_no Jo]
   refine V.en tbOk Tryz.func157 ?_
   (conv=>whnf)
   refine V.st ?_
   repeat ((try ((with_reducible refine .ext ?_);(conv=>whnf)));(with_reducible refine jaa (r:=?_) ?_ ?_);rotate_left;(focus (first|exact(q1)|exact(t1)|exact(d1)|exact(i1)|exact(t2)|exact(n2)|exact(d2)|exact(i2)));(conv=>whnf);refine V.st ?_)
   refine⟨.bool false,fun h=>by simp at h,?_⟩
   (conv=>whnf)
   refine V.st ?_
   exact Fin.of rfl
 ·rw[if_neg h1,if_neg h1] at i1
  rw[mk_no Jo]
  generalize (if -9223372036854775808≤b∧b≤9223372036854775807 then b else 0)=b1 at *
  generalize (if -9223372036854775808≤b∧b≤9223372036854775807 then (0:Int) else 6)=b2 at *
  refine V.en tbOk Tryz.func157 ?_
  (conv=>whnf)
  refine V.st ?_
  repeat ((try ((with_reducible refine .ext ?_);(conv=>whnf)));(with_reducible refine jaa (r:=?_) ?_ ?_);rotate_left;(focus (first|exact(q1)|exact(t1)|exact(d1)|exact(i1)|exact(t2)|exact(n2)|exact(d2)|exact(i2)));(conv=>whnf);refine V.st ?_)
  refine .inl ⟨fun h=>by simp at h,?_⟩
  (conv=>whnf)
  refine V.st ?_
  refine⟨.bool false,fun h=>by simp at h,?_⟩
  (conv=>whnf)
  refine V.st ?_
  refine V.br (fun hq=>?_) (fun hq=>?_)
  ·(conv=>whnf)
   refine V.st ?_
   exact Fin.of rfl
  ·simp at hq
def gtr (m x:Rat):Rat:=if m<x then x else m
theorem ordQ_lt {x y:Rat} : ordQ x y<0↔x<y:=by
 unfold ordQ
 by_cases a:x<y
 ·rw[if_pos a];exact⟨fun _=>a,fun _=>Jo⟩
 ·rw[if_neg a]
  by_cases b:x=y
  ·rw[if_pos b];exact⟨fun h=>Jo,fun h=>absurd h a⟩
  ·rw[if_neg b];exact⟨fun h=>Jo,fun h=>absurd h a⟩
theorem ordQ_gt {x y:Rat} : ordQ x y>0↔y<x:=by
 unfold ordQ
 by_cases a:x<y
 ·rw[if_pos a];exact⟨fun h=>Jo,fun h=>absurd h (Rat.not_lt.2 (Rat.le_of_lt a))⟩
 ·rw[if_neg a]
  by_cases b:x=y
  ·rw[if_pos b,b];exact⟨fun h=>Jo,fun h=>absurd h (Rat.lt_irrefl)⟩
  ·rw[if_neg b];exact⟨fun _=>Rat.lt_of_le_of_ne (Rat.not_lt.1 a) (Ne.symm b),fun _=>Jo⟩
theorem jhJ (n d:Int)(hd:0<d):fl (Rat.divInt n d)=n/d:=by
 unfold fl
 rw[Rat.num_divInt,Rat.den_divInt,if_neg Jo,jj5 hd,jj2]
 have hg:0<d.gcd n:=Int.gcd_pos_of_ne_zero_left _ Jo
 obtain⟨a,ha⟩:=Int.gcd_dvd_right d n
 obtain⟨b,hb⟩:=Int.gcd_dvd_left d n
 generalize d.gcd n=g at *
 have e1:n/(g:Int)=a:=by rw[ha,Int.mul_ediv_cancel_left _ Jo]
 have e2:((d.natAbs/g:Nat):Int)=b:=by
  rw[Int.natCast_ediv,show (d.natAbs:Int)=d by omega,hb,Int.mul_ediv_cancel_left _ Jo]
 rw[e1,e2,ha,hb,Int.mul_ediv_mul_of_pos _ _ Jo]
theorem fl_any (n d:Int)(hd:d≠0):fl (Rat.divInt n d)=flo n d:=by
 unfold flo
 by_cases h:0<d
 ·rw[if_pos h,jhJ n d h]
 ·rw[if_neg h,← Rat.neg_divInt_neg,jhJ _ _ Jo]
def loE (x:Rat):Int:=fl (x*oneE)
def hiE (x:Rat):Int:=0-fl (-(x*oneE))
theorem tightR_eq (x y:Rat):tightR x y=mk (loE x) (hiE y):=rfl
theorem mul_oneE (n d:Int):Rat.divInt n d*oneE=Rat.divInt (n*1000000000000) d:=by
 unfold oneE;rw[Rat.divInt_mul_divInt,Int.mul_one]
theorem loE_divInt (n d:Int)(hd:d≠0):loE (Rat.divInt n d)=flo (n*1000000000000) d:=by
 unfold loE;rw[mul_oneE,fl_any _ _ hd]
theorem hiE_divInt (n d:Int)(hd:d≠0):hiE (Rat.divInt n d)=cei (n*1000000000000) d:=by
 unfold hiE cei;rw[mul_oneE,Rat.neg_divInt,fl_any _ _ hd];omega
def hasR (x:Rat)(p q:Int):Bool:=decide (ordQ x (unit p)≥0) && decide (ordQ x (unit q)≤0)
theorem jhM (n d:Int)(hd:0<d):(Rat.divInt n d).num*d=n*((Rat.divInt n d).den:Int):=by
 have h:=(Rat.divInt n d).den_pos
 rw[← Rat.divInt_eq_divInt_iff Jo Jo,jj6]
theorem divInt_lt' (n d:Int)(hd:0<d)(x:Rat):Rat.divInt n d<x↔n*x.den<x.num*d:=by
 have e:=jhM n d hd
 have hb:(0:Int)<((Rat.divInt n d).den:Int):=by have:=(Rat.divInt n d).den_pos;omega
 rw[Rat.lt_iff]
 generalize (Rat.divInt n d).num=a at *
 generalize ((Rat.divInt n d).den:Int)=b at *
 have e1:a*x.den*d=n*x.den*b:=by
  rw[Int.mul_right_comm,e,Int.mul_right_comm]
 have e2:x.num*b*d=x.num*d*b:=by rw[Int.mul_right_comm]
 constructor
 ·intro h
  have:=Int.mul_lt_mul_of_pos_right h hd
  rw[e1,e2] at this
  exact Int.lt_of_mul_lt_mul_right this Jo
 ·intro h
  have:=Int.mul_lt_mul_of_pos_right h hb
  rw[← e1,← e2] at this
  exact Int.lt_of_mul_lt_mul_right this Jo
theorem divInt_eq' (n d:Int)(hd:0<d)(x:Rat):x=Rat.divInt n d↔x.num*d=n*x.den:=by
 have hp:=x.den_pos
 conv=>lhs;rw[← jj6 x]
 exact Rat.divInt_eq_divInt_iff Jo Jo
theorem ord_ge (x y:Rat):ordQ x y≥0 ↔ ¬ x<y:=by
 have:=ordQ_lt (x:=x) (y:=y)
 constructor
 ·intro h h2;have:=this.2 h2;omega
 ·intro h
  rcases Int.lt_or_le (ordQ x y) 0 with h2|h2
  ·exact absurd (this.1 h2) h
  ·exact h2
theorem ord_le (x y:Rat):ordQ x y≤0 ↔ ¬ y<x:=by
 have:=ordQ_gt (x:=x) (y:=y)
 constructor
 ·intro h h2;have:=this.2 h2;omega
 ·intro h
  rcases Int.lt_or_le 0 (ordQ x y) with h2|h2
  ·exact absurd (this.1 h2) h
  ·exact h2
theorem jeX (m:Int)(x:Rat):unit m<x↔m*x.den<x.num*1000000000000:=divInt_lt' m _ Jd x
theorem jeZ (m:Int)(x:Rat):x=unit m↔x.num*1000000000000=m*x.den:=divInt_eq' m _ Jd x
theorem jgX (m:Int)(x:Rat):x<unit m↔x.num*1000000000000<m*x.den:=by
 have h1:=jeX m x
 have h2:=jeZ m x
 constructor
 ·intro h
  have a1:¬ unit m<x:=Rat.not_lt.2 (Rat.le_of_lt h)
  have a2:¬ x=unit m:=Rat.ne_of_lt h
  rw[h1] at a1
  rw[h2] at a2
  omega
 ·intro h
  have a1:¬ unit m<x:=fun g=>by have:=h1.1 g;omega
  have a2:¬ x=unit m:=fun g=>by have:=h2.1 g;omega
  exact Rat.lt_of_le_of_ne (Rat.not_lt.1 a1) a2
theorem jg3 (x:Rat)(p q:Int):hasR x p q=true↔p*x.den≤x.num*1000000000000∧x.num*1000000000000≤q*x.den:=by
 unfold hasR
 rw[jjv,decide_eq_true_eq,decide_eq_true_eq,ord_ge,ord_le,jgX,jeX]
 omega
theorem jgS (x:Rat):2*(nearZ x 1000000000000*x.den)≤2*(x.num*1000000000000)+x.den∧2*(x.num*1000000000000)+x.den<2*(nearZ x 1000000000000*x.den)+2*x.den:=by
 have hp:=x.den_pos
 unfold nearZ
 have h1:=jjA (x.num*((1000000000000*2:Nat):Int)+x.den) ((x.den*2:Nat):Int)
 have h2:=jjz (x.num*((1000000000000*2:Nat):Int)+x.den) (show ((x.den*2:Nat):Int)≠0 by omega)
 have h3:=jjY (x.num*((1000000000000*2:Nat):Int)+x.den) (show 0<((x.den*2:Nat):Int) by omega)
 generalize (x.num*((1000000000000*2:Nat):Int)+x.den)%((x.den*2:Nat):Int)=r at *
 generalize (x.num*((1000000000000*2:Nat):Int)+x.den)/((x.den*2:Nat):Int)=n at *
 have e:((x.den*2:Nat):Int)*n=2*(n*x.den):=by
  rw[show ((x.den*2:Nat):Int)=2*(x.den:Int) by omega,jjT,jjS (x.den:Int) n]
 rw[e] at h1
 generalize n*(x.den:Int)=y at *
 omega
theorem near_le (x:Rat)(K:Int)(h : -(K*x.den)≤x.num∧x.num≤K*x.den) : -(K*1000000000000)-1≤nearZ x 1000000000000∧nearZ x 1000000000000≤K*1000000000000+1:=by
 have hp:=x.den_pos
 obtain⟨b1,b2⟩:=jgS x
 generalize nearZ x 1000000000000=n at *
 have e:K*1000000000000*(x.den:Int)=1000000000000*(K*x.den):=by rw[Int.mul_right_comm,jjS]
 constructor
 ·rcases Int.lt_or_le n (-(K*1000000000000)-1) with g|g
  ·exfalso
   have:=jjM (show n ≤ -(K*1000000000000)-2 by omega) (show (0:Int)≤x.den by omega)
   rw[Int.sub_mul,Int.neg_mul,e] at this
   omega
  ·exact g
 ·rcases Int.lt_or_le (K*1000000000000+1) n with g|g
  ·exfalso
   have:=jjM (show K*1000000000000+2≤n by omega) (show (0:Int)≤x.den by omega)
   rw[jj1,e] at this
   omega
  ·exact g
theorem around_law (x:Rat)(h : -999999999999999999≤nearZ x 1000000000000∧nearZ x 1000000000000≤999999999999999999) :
  ∃ p q,jcI x=(p,q,0)∧vb p q=true∧q-p≤1∧hasR x p q=true∧(p=q↔unit p=x):=by
 have hp:=x.den_pos
 obtain⟨b1,b2⟩:=jgS x
 unfold jcI
 rw[if_pos (jbC.2 Jo)]
 generalize nearZ x 1000000000000=n at *
 have l1:=jgX n x
 have l2:=jeX n x
 have e1:(n + -1)*(x.den:Int)=n*x.den-x.den:=by rw[jj1];omega
 have e2:(n+1)*(x.den:Int)=n*x.den+x.den:=by rw[jj1];omega
 by_cases g1:x<unit n
 ·have o:ordQ x (unit n) = -1:=by unfold ordQ;rw[if_pos g1]
  rw[o,show min (-1:Int) 0 = -1 from rfl,show max (-1:Int) 0=0 from rfl,mk_ok Jo,jjZ]
  have:=l1.1 g1
  refine⟨_,_,rfl,jbC.2 Jo,Jo,(jg3 _ _ _).2 (by rw[e1];omega),⟨fun h=>Jo,fun h=>?_⟩⟩
  have:=(jeZ (n + -1) x).1 h.symm
  rw[e1] at this
  omega
 ·by_cases g2:x=unit n
  ·have o:ordQ x (unit n)=0:=by unfold ordQ;rw[if_neg g1,if_pos g2]
   rw[o,show min (0:Int) 0=0 from rfl,show max (0:Int) 0=0 from rfl,mk_ok Jo,jjZ]
   have:=(jeZ n x).1 g2
   exact⟨_,_,rfl,jbC.2 Jo,Jo,(jg3 _ _ _).2 Jo,⟨fun _=>g2.symm,fun _=>rfl⟩⟩
  ·have o:ordQ x (unit n)=1:=by unfold ordQ;rw[if_neg g1,if_neg g2]
   rw[o,show min (1:Int) 0=0 from rfl,show max (1:Int) 0=1 from rfl,mk_ok Jo,jjZ]
   have h3:unit n<x:=Rat.lt_of_le_of_ne (Rat.not_lt.1 g1) (Ne.symm g2)
   have:=l2.1 h3
   exact⟨_,_,rfl,jbC.2 Jo,Jo,(jg3 _ _ _).2 (by rw[e2];omega),⟨fun h=>Jo,fun h=>absurd h.symm g2⟩⟩
theorem near_unit (m:Int):nearZ (unit m) 1000000000000=m:=by
 obtain⟨b1,b2⟩:=jgS (unit m)
 have h:=(jeZ m (unit m)).1 rfl
 have hp:=(unit m).den_pos
 generalize nearZ (unit m) 1000000000000=n at *
 rw[h] at b1 b2
 generalize (unit m).den=d at *
 rcases Int.lt_trichotomy n m with g|g|g
 ·exfalso
  have:=jjM (show n+1≤m by omega) (show (0:Int)≤d by omega)
  rw[jj1] at this
  omega
 ·exact g
 ·exfalso
  have:=jjM (show m+1≤n by omega) (show (0:Int)≤d by omega)
  rw[jj1] at this
  omega
theorem jfN (m:Int)(h:vb m m=true):jcI (unit m)=(m,m,0):=by
 unfold jcI
 rw[near_unit,if_pos h,show ordQ (unit m) (unit m)=0 by unfold ordQ;rw[if_neg Rat.lt_irrefl,if_pos rfl]]
 rw[show min (0:Int) 0=0 from rfl,show max (0:Int) 0=0 from rfl,jjZ]
 unfold mk
 rw[if_pos h]
end Go.Proofs.YtbnghipgicmpdaaGreatDoor
end
