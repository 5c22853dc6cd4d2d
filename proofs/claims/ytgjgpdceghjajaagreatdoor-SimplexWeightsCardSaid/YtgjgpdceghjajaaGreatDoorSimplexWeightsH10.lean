/- What functions of the program answer at given values, part 10. Conditions: those that each theorem names. -/
import Derived.Test.YtgjgpdceghjajaaGreatDoorSimplexWeightsH8
import Derived.Test.YtgjgpdceghjajaaGreatDoorSimplexWeightsH9
import Derived.Test.YtgjgpdceghjajaaGreatDoorSimplexWeightsH4
import Derived.Test.YtgjgpdceghjajaaGreatDoorSimplexWeightsH7
import Derived.Test.YtgjgpdceghjajaaGreatDoorSimplexWeightsH3
set_option linter.unusedSimpArgs false
set_option linter.unusedVariables false
set_option maxHeartbeats 8000000
set_option maxRecDepth 100000
section
namespace Go.Proofs.YtgjgpdceghjajaaGreatDoor
open Go Go.V Go.Nb Go.Gr
theorem wdec31 (s:List UInt8):decide (s=s)=true:=by simp
def jgC:List Nd:=[⟨[0,3,6,8,9,10],[1,2,4,5],.ev (.cons 0 [1,2,4,5] (.goto 9) (.cons 3 [4,5] (.goto 6) (.cons 6 [1,2] (.goto 1) (.nil))))⟩,⟨[0,3,8,9,10],[1,2],.ev (.cons 0 [1,2] (.goto 4) (.cons 3 [] (.goto 2) (.nil)))⟩,⟨[0,8,9,10],[],.ev (.cons 0 [] (.goto 3) (.nil))⟩,⟨[8,9,10],[],.ev (.cons 8 [] (.take 9 (.take 10 (.done))) (.nil))⟩,⟨[3,8,9,10],[1,2],.ev (.cons 3 [] (.goto 3) (.cons 8 [1,2] (.goto 5) (.nil)))⟩,⟨[3,9,10],[1,2],.ev (.cons 3 [] (.take 9 (.take 10 (.done))) (.nil))⟩,⟨[0,6,8,9,10],[4,5],.ev (.cons 0 [4,5] (.goto 7) (.cons 6 [] (.goto 2) (.nil)))⟩,⟨[6,8,9,10],[4,5],.ev (.cons 6 [] (.goto 3) (.cons 8 [4,5] (.take 9 (.goto 8)) (.nil)))⟩,⟨[6,10],[4,5,9],.ev (.cons 6 [9] (.take 10 (.done)) (.nil))⟩,⟨[3,6,8,9,10],[1,2,4,5],.ev (.cons 3 [4,5] (.goto 7) (.cons 6 [1,2] (.goto 4) (.cons 8 [1,2,4,5] (.goto 10) (.nil))))⟩,⟨[3,6,9,10],[1,2,4,5],.ev (.cons 3 [4,5] (.take 9 (.goto 8)) (.cons 6 [1,2] (.goto 5) (.nil)))⟩,⟨[0,3,7,8,9,10],[1,2],.ev (.cons 0 [1,2] (.goto 14) (.cons 3 [] (.goto 12) (.cons 7 [1,2] (.goto 1) (.nil))))⟩,⟨[0,7,8,9,10],[],.ev (.cons 0 [] (.goto 13) (.cons 7 [] (.goto 2) (.nil)))⟩,⟨[7,8,9,10],[],.ev (.cons 7 [] (.goto 3) (.nil))⟩,⟨[3,7,8,9,10],[1,2],.ev (.cons 3 [] (.goto 13) (.cons 7 [1,2] (.goto 4) (.nil)))⟩,⟨[0,6,7,8,9,10],[4,5],.ev (.cons 0 [4,5] (.goto 16) (.cons 6 [] (.goto 12) (.cons 7 [4,5] (.goto 6) (.nil))))⟩,⟨[6,7,8,9,10],[4,5],.ev (.cons 6 [] (.goto 13) (.cons 7 [4,5] (.goto 7) (.nil)))⟩,⟨[3,6,7,8,9,10],[1,2,4,5],.ev (.cons 3 [4,5] (.goto 16) (.cons 6 [1,2] (.goto 14) (.cons 7 [1,2,4,5] (.goto 9) (.nil))))⟩]
theorem jh3:type_of% @jiK∧type_of% @jjB ∧ type_of% @jjC ∧ type_of% @jiI∧type_of% @tn0∧type_of% @tn1∧type_of% @tn2∧type_of% @tn3∧type_of% @xt4:=⟨@jiK,@jjB,@jjC,@jiI,@tn0,@tn1,@tn2,@tn3,@xt4⟩
theorem jiv:type_of% @jiK∧type_of% @jjB ∧ type_of% @jjC ∧ type_of% @jiI∧type_of% @tn0∧type_of% @tn1∧type_of% @tn2∧type_of% @tn3∧type_of% @wdec31∧type_of% @xt4:=⟨@jiK,@jjB,@jjC,@jiI,@tn0,@tn1,@tn2,@tn3,@wdec31,@xt4⟩
theorem jg2 (ds vals data O:List Int)(oo:Int)(sm:Bool)(at' z1 z2:Nat→Int)(b1 b2:Nat→Bool)(p1 p2:Nat→List Int)(s0 s1 s2:Nat)(e0 e1 e2:Int)(F0 F1:Nat→List D)(C W Y SU XF:Nat→Tx)(PL MN AF TA VF TV:Nat→Nat→Tx)(PD V':Nat→List Int)
  (hO:O.length=3) (hq:∀ k,k<3→0≤O.getD k 0∧O.getD k 0<3) (hb:∀ k,k<4 → ∀ i,0≤(atK [e0,e1,e2] O k).getD i 0∧(atK [e0,e1,e2] O k).getD i 0≤100) (hV:∀ k,k<4→(V' k).length=1) (hPD:∀ k,(PD k).length=4) (hs:(2≤s0∧s0≤9)∧(2≤s1∧s1≤9)∧(2≤s2∧s2≤9)) (hbb:(0≤e0∧e0≤9)∧(0≤e1∧e1≤9)∧(0≤e2∧e2≤9))
  (zp:∀ i,PL 0 i=SU 0) (zm:∀ i,MN 0 i=SU 0) (hend:atK [e0,e1,e2] O 3=[e0+1,e1+1,e2+1]) (hy:∀ j,MN 4 j=Y j)
  (wk:Cl 10 [] (.bool true))
  (gd:Cl 11 [.agg [.ints .u8 ds,.int .u8 oo,.ints .u16 vals,.bool sm]] (.agg [.ints .i64 [(s0:Int),(s1:Int),(s2:Int)],.int .i64 1,.ints .i64 data]))
  (co:Cl 13 [(colD at' z1 z2 b1 b2 p1 p2),.int .i64 3] (.agg [.slf 2 3 F0,.slf 2 3 F1,V.sl2 3 [.str (C 0).1,.str (C 0).2,.str (C 1).1,.str (C 1).2,.str (C 2).1,.str (C 2).2]]))
  (ce:Cl 17 [.agg [.ints .i64 [(s0:Int),(s1:Int),(s2:Int)],.int .i64 1,.ints .i64 data],V.sl2 3 [.str (C 0).1,.str (C 0).2,.str (C 1).1,.str (C 1).2,.str (C 2).1,.str (C 2).2]] (.tup [.ints .i64 [e0,e1,e2],.ints .i64 O,V.sl2 4 [.str (W 0).1,.str (W 0).2,.str (W 1).1,.str (W 1).2,.str (W 2).1,.str (W 2).2,.str (W 3).1,.str (W 3).2],.int .i64 0]))
  (ev:Cl 15 [.agg [.ints .i64 [(s0:Int),(s1:Int),(s2:Int)],.int .i64 1,.ints .i64 data],V.sl2 3 [.str (C 0).1,.str (C 0).2,.str (C 1).1,.str (C 1).2,.str (C 2).1,.str (C 2).2]] (.tup [V.sl2 1 [.str (Y 0).1,.str (Y 0).2],.int .i64 0]))
  (zf:Cl 18 [.int .i64 0,.int .i64 1] (.agg [.str (SU 0).1,.str (SU 0).2]))
  (ck:Cl 37 [.agg [.ints .i64 [(s0:Int),(s1:Int),(s2:Int)],.int .i64 1,.ints .i64 data]] (.int .i64 0))
  (fi:∀ k,k<4→Cl 47 [.agg [.ints .i64 [(s0:Int),(s1:Int),(s2:Int)],.int .i64 1,.ints .i64 data],.ints .i64 (atK [e0,e1,e2] O k)] (.tup [.iarr .i64 (PD k),.bool true]))
  (vl:∀ k,k<4→Cl 40 [.agg [.ints .i64 [(s0:Int),(s1:Int),(s2:Int)],.int .i64 1,.ints .i64 data],.iarr .i64 (PD k)] (.ints .i64 (V' k)))
  (le:∀ k,k<4→Cl 21 [.agg [.str (W k).1,.str (W k).2],.agg [.str (SU 0).1,.str (SU 0).2]] (.bool false))
  (su:∀ k,k<4→Cl 22 [.agg [.str (SU k).1,.str (SU k).2],.agg [.str (W k).1,.str (W k).2]] (.agg [.str (SU (k+1)).1,.str (SU (k+1)).2]))
  (af:∀ k i,k<4→i<3→Cl 18 [.int .i64 ((atK [e0,e1,e2] O k).getD i 0),.int .i64 1] (.agg [.str (AF k i).1,.str (AF k i).2]))
  (ta:∀ k i,k<4→i<3→Cl 23 [.agg [.str (W k).1,.str (W k).2],.agg [.str (AF k i).1,.str (AF k i).2]] (.agg [.str (TA k i).1,.str (TA k i).2]))
  (pa:∀ k i,k<4→i<3→Cl 22 [.agg [.str (PL k i).1,.str (PL k i).2],.agg [.str (TA k i).1,.str (TA k i).2]] (.agg [.str (PL (k+1) i).1,.str (PL (k+1) i).2]))
  (vf:∀ k i,k<4→i<1→Cl 18 [.int .i64 ((V' k).getD i 0),.int .i64 65535] (.agg [.str (VF k i).1,.str (VF k i).2]))
  (tv:∀ k i,k<4→i<1→Cl 23 [.agg [.str (W k).1,.str (W k).2],.agg [.str (VF k i).1,.str (VF k i).2]] (.agg [.str (TV k i).1,.str (TV k i).2]))
  (pm:∀ k i,k<4→i<1→Cl 22 [.agg [.str (MN k i).1,.str (MN k i).2],.agg [.str (TV k i).1,.str (TV k i).2]] (.agg [.str (MN (k+1) i).1,.str (MN (k+1) i).2]))
  (xf:∀ i,i<3→Cl 18 [.int .i64 (([(s0:Int),(s1:Int),(s2:Int)]:List Int).getD i 0-1),.int .i64 1] (.agg [.str (XF i).1,.str (XF i).2]))
  (tx:∀ i,i<3→Cl 23 [.agg [.str (C i).1,.str (C i).2],.agg [.str (XF i).1,.str (XF i).2]] (.agg [.str (PL 4 i).1,.str (PL 4 i).2]))
  (o1:Cl 18 [.int .i64 1,.int .i64 1] (.agg [.str (SU 4).1,.str (SU 4).2])) :
  Cl 4 [.agg [.ints .u8 ds,.int .u8 oo,.ints .u16 vals,.bool sm],(colD at' z1 z2 b1 b2 p1 p2)] (.bool true):=by
 have eq:=eqf1 Y
 have hOl:((O.length:Nat):Int)=3:=by rw[hO];rfl
 have hal:∀ k,(atK [e0,e1,e2] O k).length=3:=fun k=>by
  induction k with
  | zero=>rfl
  | succ k ih=>rw[atK,jjw,ih]
 refine V.en tbOk Tryz.func4 ?_
 refine V.r5 jh3 wk gd co ce ev ?_
 refine V.cnd_to [(5,.box 5 0),(6,V.sl2 3 [.str (C 0).1,.str (C 0).2,.str (C 1).1,.str (C 1).2,.str (C 2).1,.str (C 2).2]),(7,.ints .i64 [e0,e1,e2]),(8,.ints .i64 O),(9,V.sl2 4 [.str (W 0).1,.str (W 0).2,.str (W 1).1,.str (W 1).2,.str (W 2).1,.str (W 2).2,.str (W 3).1,.str (W 3).2]),(11,V.sl2 1 [.str (Y 0).1,.str (Y 0).2])] [(5,.box [.ints .i64 [(s0:Int),(s1:Int),(s2:Int)],.int .i64 1,.ints .i64 data])] (CondB.mk (fun h=>absurd h (by simp[hO])) (fun _=>?_)) ?_
 ·(conv=>whnf)
  exact V.wk
 refine V.r0 jh3 ?_
 refine⟨Pq82z,jgC,V.pok,?_⟩
 refine jbL [(14,.bsl 88 0 3 2),(15,.bsl 91 0 1 2),(13,.box 13 0),(88,.bsl 88 0 3 2),(91,.bsl 91 0 1 2)] [(13,.box [.str (SU 0).1,.str (SU 0).2]),(88,.box [.str [],.str [],.str [],.str [],.str [],.str []]),(91,.box [.str [],.str []])] [(0,[(85,.agg [.str (SU 0).1,.str (SU 0).2])],[]),(1,[(86,V.sl2 3 [.str (C 0).1,.str (C 0).2,.str (C 1).1,.str (C 1).2,.str (C 2).1,.str (C 2).2])],[]),(2,[(87,.int .i64 3)],[]),(3,[(88,.bsl 88 0 3 2)],[(88,.box [.str [],.str [],.str [],.str [],.str [],.str []])]),(4,[(89,.box 5 1)],[]),(5,[(90,.int .i64 1)],[]),(6,[(91,.bsl 91 0 1 2)],[(91,.box [.str [],.str []])]),(7,[(13,.box 13 0)],[(13,.box [.str [],.str []])]),(8,[],[(13,.box [.str (SU 0).1,.str (SU 0).2])]),(9,[(14,.bsl 88 0 3 2)],[]),(10,[(15,.bsl 91 0 1 2)],[])] ?_ ?_ ?_
 ·exact V.d1 jh3 zf
 ·exact V.d1 jh3 zf
 refine V.r0 jh3 ?_
 refine jac (0:Nat) (fun k=>k≤3) (fun k=>3-k) (fun k=>[(94,.int .i64 (k:Nat))]) (fun k=>[(88,.box (preD (2*k) [.str (SU 0).1,.str (SU 0).2,.str (SU 0).1,.str (SU 0).2,.str (SU 0).1,.str (SU 0).2]))]) ?_ ?_ ?_
 ·exact V.wk
 ·exact jiF _
 intro k hk
 have hk4:k=0∨k=1∨k=2∨k=3:=by omega
 rcases hk4 with e|e|e|e
 all_goals subst e
 ·simp only[k0]
  refine V.r1 jh3 zf ?_
  exact⟨1,by omega,by omega,V.wk⟩
 ·simp only[k1]
  refine V.r1 jh3 zf ?_
  exact⟨2,by omega,by omega,V.wk⟩
 ·simp only[k2]
  refine V.r1 jh3 zf ?_
  exact⟨3,by omega,by omega,V.wk⟩
 ·simp only[k3]
  refine V.r0 jh3 ?_
  refine jac (0:Nat) (fun k=>k≤1) (fun k=>1-k) (fun k=>[(104,.int .i64 (k:Nat))]) (fun k=>[(91,.box (preD (2*k) [.str (SU 0).1,.str (SU 0).2]))]) ?_ ?_ ?_
  ·exact V.wk
  ·exact jiF _
  intro k hk
  have hk4:k=0∨k=1:=by omega
  rcases hk4 with e|e
  all_goals subst e
  ·simp only[k0]
   refine V.r1 jh3 zf ?_
   exact⟨1,by omega,by omega,V.wk⟩
  ·simp only[k1]
   refine V.r0 jh3 ?_
   refine .inl ?_
   (conv=>whnf)
   refine⟨100,_,_,⟨Tryz.func19,rfl,rfl,jiE rfl⟩,?_⟩
   refine V.r0 jh3 ?_
   refine⟨fun h=>absurd (h rfl) (by simp),fun _=>?_⟩
   refine V.r0 jh3 ?_
   refine Lp.renSlot 365 18 18 3 (k := .i64) (xs:=[e0,e1,e2]) (by decide) (by decide) rfl rfl ?_
   (conv=>whnf)
   refine jac (0:Nat) (fun k=>k≤4) (fun k=>4-k) (fun k=>[(116,.int .i64 (k:Nat)),(113,.any)]) (fun k=>[(13,.box [.str (SU k).1,.str (SU k).2]),(88,.box [.str (PL k 0).1,.str (PL k 0).2,.str (PL k 1).1,.str (PL k 1).2,.str (PL k 2).1,.str (PL k 2).2]),(91,.box [.str (MN k 0).1,.str (MN k 0).2]),(18,.arr .i64 (atK [e0,e1,e2] O (min k 3)))]) ?_ ?_ ?_
   ·simp only[zp,zm]
    exact V.wk
   ·exact jiF _
   intro k hk
   have hlat:=hal (min k 3)
   (conv=>whnf)
   refine V.st ?_
   refine V.br (fun h=>?_) (fun h=>?_)
   ·simp only[decide_eq_true_eq] at h
    have hk1:k<4:=by omega
    have hmin:min k 3=k:=by omega
    have hVl:(((V' k).length:Nat):Int)=1:=by rw[hV k hk1];rfl
    have e:(List.take 2 (List.drop (k*2) [.str (W 0).1,.str (W 0).2,.str (W 1).1,.str (W 1).2,.str (W 2).1,.str (W 2).2,.str (W 3).1,.str (W 3).2]):List D)=[.str (W k).1,.str (W k).2]:=jcD W 4 k hk1
    have gak:=fi k hk1
    have vlk:=vl k hk1
    have hPk:=hPD k
    have etk:List.take ([e0,e1,e2]:List Int).length (atK [e0,e1,e2] O k)=atK [e0,e1,e2] O k:=jjr (by rw[hal k];exact jiL _)
    rw[← etk] at gak
    have lek:=le k hk1
    have suk:=su k hk1
    have hbk:=hb k hk1
    rw[hmin] at hlat
    rw[hmin]
    (conv=>whnf)
    (try simp only[jh3])
    repeat ((first|refine V.s1 ?_|((try ((with_reducible refine .ext ?_);(conv=>whnf);(try simp only[jh3])));(with_reducible refine jaa (r:=?_) ?_ ?_);rotate_left;(focus (first|fail));(conv=>whnf))|((simp only[e]);(conv=>whnf)));(try simp only[jh3]))
    refine .inl ?_
    (conv=>whnf)
    refine⟨0,_,_,⟨Tryz.func20,rfl,rfl,jiE rfl⟩,?_⟩
    refine V.r1 jh3 ck ?_
    refine .len ?_
    (conv=>whnf)
    refine⟨18,?_⟩
    (conv=>whnf)
    refine jaa (r:=?_) ?_ ?_
    rotate_left
    (focus exact gak)
    refine V.r1 (V.a2 jh3 hVl) vlk ?_
    refine⟨Pq11z,[],V.pok,?_⟩
    refine jab [(140,.bool false)] [] ?_ ?_
    ·exact V.d2 (V.a2 jh3 hVl) zf lek
    refine V.r1 jh3 suk ?_
    refine jac (0:Nat) (fun i=>i≤3) (fun i=>3-i) (fun i=>[(146,.int .i64 (i:Nat))]) (fun i=>[(88,.box (wce (fun i=>PL (k+1) i) i++List.drop (2*i) (wce (fun i=>PL k i) 3)))]) ?_ ?_ ?_
    ·exact V.wk
    ·exact jiF _
    intro i hi
    have hi4:i=0∨i=1∨i=2∨i=3:=by omega
    rcases hi4 with e|e|e|e
    all_goals subst e
    ·simp only[k0]
     have c1:=af k 0 hk1 (by omega)
     have c2:=ta k 0 hk1 (by omega)
     have c3:=pa k 0 hk1 (by omega)
     have hbi:=hbk 0
     refine V.r0 jh3 ?_
     refine⟨Pq13z,[],V.pok,?_⟩
     refine jab [] [(88,.box [.str (PL (k+1) 0).1,.str (PL (k+1) 0).2,.str (PL k 1).1,.str (PL k 1).2,.str (PL k 2).1,.str (PL k 2).2])] ?_ ?_
     ·exact V.d3 jh3 c1 c2 c3
     refine V.r0 jh3 ?_
     exact⟨1,by omega,by omega,V.wk⟩
    ·simp only[k1]
     have c1:=af k 1 hk1 (by omega)
     have c2:=ta k 1 hk1 (by omega)
     have c3:=pa k 1 hk1 (by omega)
     have hbi:=hbk 1
     refine V.r0 jh3 ?_
     refine⟨Pq13z,[],V.pok,?_⟩
     refine jab [] [(88,.box [.str (PL (k+1) 0).1,.str (PL (k+1) 0).2,.str (PL (k+1) 1).1,.str (PL (k+1) 1).2,.str (PL k 2).1,.str (PL k 2).2])] ?_ ?_
     ·exact V.d3 jh3 c1 c2 c3
     refine V.r0 jh3 ?_
     exact⟨2,by omega,by omega,V.wk⟩
    ·simp only[k2]
     have c1:=af k 2 hk1 (by omega)
     have c2:=ta k 2 hk1 (by omega)
     have c3:=pa k 2 hk1 (by omega)
     have hbi:=hbk 2
     refine V.r0 jh3 ?_
     refine⟨Pq13z,[],V.pok,?_⟩
     refine jab [] [(88,.box [.str (PL (k+1) 0).1,.str (PL (k+1) 0).2,.str (PL (k+1) 1).1,.str (PL (k+1) 1).2,.str (PL (k+1) 2).1,.str (PL (k+1) 2).2])] ?_ ?_
     ·exact V.d3 jh3 c1 c2 c3
     refine V.r0 jh3 ?_
     exact⟨3,by omega,by omega,V.wk⟩
    ·simp only[k3]
     refine V.r0 jh3 ?_
     refine jac (0:Nat) (fun i=>i≤1) (fun i=>1-i) (fun i=>[(167,.int .i64 (i:Nat))]) (fun i=>[(91,.box (wce (fun i=>MN (k+1) i) i++List.drop (2*i) (wce (fun i=>MN k i) 1)))]) ?_ ?_ ?_
     ·exact V.wk
     ·exact jiF _
     intro i hi
     have hi4:i=0∨i=1:=by omega
     rcases hi4 with e|e
     all_goals subst e
     ·simp only[k0]
      have c1:=vf k 0 hk1 (by omega)
      have c2:=tv k 0 hk1 (by omega)
      have c3:=pm k 0 hk1 (by omega)
      refine V.r0 jh3 ?_
      refine⟨Pq13z,[],V.pok,?_⟩
      refine jab [] [(91,.box [.str (MN (k+1) 0).1,.str (MN (k+1) 0).2])] ?_ ?_
      ·exact V.d3 (V.a2 jh3 hVl) c1 c2 c3
      refine V.r0 jh3 ?_
      exact⟨1,by omega,by omega,V.wk⟩
     ·simp only[k1]
      refine V.r0 (V.a2 jh3 hOl) ?_
      refine V.br (fun h2=>?_) (fun h2=>?_)
      ·simp only[decide_eq_true_eq] at h2
       have hk2:k<3:=by omega
       have hqk:=hq k hk2
       have hbq:=hbk (O.getD k 0).toNat
       have eAt:(atK [e0,e1,e2] O k).set (O.getD k 0).toNat ((atK [e0,e1,e2] O k).getD (O.getD k 0).toNat 0+1)=atK [e0,e1,e2] O (min (k+1) 3):=by
        rw[show min (k+1) 3=k+1 by omega]
        rfl
       refine V.r0 jh3 ?_
       refine Cnd.split (CondB.mk (fun h=>absurd h (by rw[jiT,decide_eq_true_eq,decide_eq_true_eq];(try simp only[jjq,List.length_nil]);omega)) (fun _=>?_))
       refine V.r0 (V.a2 jh3 eAt) ?_
       exact⟨k+1,by omega,by omega,V.wk⟩
      ·simp only[decide_eq_false_iff_not] at h2
       have hm2:min (k+1) 3=k:=by omega
       refine V.r0 jh3 ?_
       refine⟨k+1,by omega,by omega,?_⟩
       simp only[hm2]
       exact V.wk
   ·simp only[decide_eq_false_iff_not] at h
    have hk1:k=4:=by omega
    subst hk1
    rw[show min 4 3=3 from rfl,hend]
    simp only[hy]
    refine V.r0 jh3 ?_
    refine jac (0:Nat) (fun i=>i≤3) (fun i=>3-i) (fun i=>[(216,.int .i64 (i:Nat))]) (fun _=>[]) ?_ ?_ ?_
    ·exact V.wk
    ·exact jiF _
    intro i hi
    have hi4:i=0∨i=1∨i=2∨i=3:=by omega
    rcases hi4 with e|e|e|e
    all_goals subst e
    ·simp only[k0]
     have c1:=xf 0 (by omega)
     have c2:=tx 0 (by omega)
     refine V.r0 jh3 ?_
     refine⟨Pq5z,[],V.pok,?_⟩
     refine jab [(247,.bool false)] [] ?_ ?_
     ·(conv=>whnf);(try simp only[jiv,decide_true,jiV,jjb,Bool.not_true,ne_eq,not_true_eq_false,decide_false,Bool.or_self])
      repeat' (first|exact V.wk|((with_reducible refine And.intro ?_ jay);(conv=>whnf);(try simp only[jiv,decide_true,jiV,jjb,Bool.not_true,ne_eq,not_true_eq_false,decide_false,Bool.or_self]))|((with_reducible first|refine jaq ?_ ?_|refine jau ?_ ?_)<;>(conv=>whnf);(try simp only[jiv,decide_true,jiV,jjb,Bool.not_true,ne_eq,not_true_eq_false,decide_false,Bool.or_self]))|((first|refine V.s1 ?_|((with_reducible refine jak ?_ ?_);(focus ((conv=>whnf);(try simp only[jiv,decide_true,jiV,jjb,Bool.not_true,ne_eq,not_true_eq_false,decide_false,Bool.or_self]);(repeat ((first|refine V.s1 ?_);(try simp only[jiv,decide_true,jiV,jjb,Bool.not_true,ne_eq,not_true_eq_false,decide_false,Bool.or_self])));exact⟨rfl⟩));(conv=>whnf))|((try ((with_reducible refine .ext ?_);(conv=>whnf);(try simp only[jiv,decide_true,jiV,jjb,Bool.not_true,ne_eq,not_true_eq_false,decide_false,Bool.or_self])));(with_reducible refine jaa (r:=?_) ?_ ?_);rotate_left;(focus (first|exact(c1)|exact(c2)));(conv=>whnf)));(try simp only[jiv,decide_true,jiV,jjb,Bool.not_true,ne_eq,not_true_eq_false,decide_false,Bool.or_self]))|(refine And.intro ?_ ?_<;>(conv=>whnf);(try simp only[jiv,decide_true,jiV,jjb,Bool.not_true,ne_eq,not_true_eq_false,decide_false,Bool.or_self])))
     refine V.r0 jh3 ?_
     exact⟨1,by omega,by omega,V.wk⟩
    ·simp only[k1]
     have c1:=xf 1 (by omega)
     have c2:=tx 1 (by omega)
     refine V.r0 jh3 ?_
     refine⟨Pq5z,[],V.pok,?_⟩
     refine jab [(247,.bool false)] [] ?_ ?_
     ·(conv=>whnf);(try simp only[jiv,decide_true,jiV,jjb,Bool.not_true,ne_eq,not_true_eq_false,decide_false,Bool.or_self])
      repeat' (first|exact V.wk|((with_reducible refine And.intro ?_ jay);(conv=>whnf);(try simp only[jiv,decide_true,jiV,jjb,Bool.not_true,ne_eq,not_true_eq_false,decide_false,Bool.or_self]))|((with_reducible first|refine jaq ?_ ?_|refine jau ?_ ?_)<;>(conv=>whnf);(try simp only[jiv,decide_true,jiV,jjb,Bool.not_true,ne_eq,not_true_eq_false,decide_false,Bool.or_self]))|((first|refine V.s1 ?_|((with_reducible refine jak ?_ ?_);(focus ((conv=>whnf);(try simp only[jiv,decide_true,jiV,jjb,Bool.not_true,ne_eq,not_true_eq_false,decide_false,Bool.or_self]);(repeat ((first|refine V.s1 ?_);(try simp only[jiv,decide_true,jiV,jjb,Bool.not_true,ne_eq,not_true_eq_false,decide_false,Bool.or_self])));exact⟨rfl⟩));(conv=>whnf))|((try ((with_reducible refine .ext ?_);(conv=>whnf);(try simp only[jiv,decide_true,jiV,jjb,Bool.not_true,ne_eq,not_true_eq_false,decide_false,Bool.or_self])));(with_reducible refine jaa (r:=?_) ?_ ?_);rotate_left;(focus (first|exact(c1)|exact(c2)));(conv=>whnf)));(try simp only[jiv,decide_true,jiV,jjb,Bool.not_true,ne_eq,not_true_eq_false,decide_false,Bool.or_self]))|(refine And.intro ?_ ?_<;>(conv=>whnf);(try simp only[jiv,decide_true,jiV,jjb,Bool.not_true,ne_eq,not_true_eq_false,decide_false,Bool.or_self])))
     refine V.r0 jh3 ?_
     exact⟨2,by omega,by omega,V.wk⟩
    ·simp only[k2]
     have c1:=xf 2 (by omega)
     have c2:=tx 2 (by omega)
     refine V.r0 jh3 ?_
     refine⟨Pq5z,[],V.pok,?_⟩
     refine jab [(247,.bool false)] [] ?_ ?_
     ·(conv=>whnf);(try simp only[jiv,decide_true,jiV,jjb,Bool.not_true,ne_eq,not_true_eq_false,decide_false,Bool.or_self])
      repeat' (first|exact V.wk|((with_reducible refine And.intro ?_ jay);(conv=>whnf);(try simp only[jiv,decide_true,jiV,jjb,Bool.not_true,ne_eq,not_true_eq_false,decide_false,Bool.or_self]))|((with_reducible first|refine jaq ?_ ?_|refine jau ?_ ?_)<;>(conv=>whnf);(try simp only[jiv,decide_true,jiV,jjb,Bool.not_true,ne_eq,not_true_eq_false,decide_false,Bool.or_self]))|((first|refine V.s1 ?_|((with_reducible refine jak ?_ ?_);(focus ((conv=>whnf);(try simp only[jiv,decide_true,jiV,jjb,Bool.not_true,ne_eq,not_true_eq_false,decide_false,Bool.or_self]);(repeat ((first|refine V.s1 ?_);(try simp only[jiv,decide_true,jiV,jjb,Bool.not_true,ne_eq,not_true_eq_false,decide_false,Bool.or_self])));exact⟨rfl⟩));(conv=>whnf))|((try ((with_reducible refine .ext ?_);(conv=>whnf);(try simp only[jiv,decide_true,jiV,jjb,Bool.not_true,ne_eq,not_true_eq_false,decide_false,Bool.or_self])));(with_reducible refine jaa (r:=?_) ?_ ?_);rotate_left;(focus (first|exact(c1)|exact(c2)));(conv=>whnf)));(try simp only[jiv,decide_true,jiV,jjb,Bool.not_true,ne_eq,not_true_eq_false,decide_false,Bool.or_self]))|(refine And.intro ?_ ?_<;>(conv=>whnf);(try simp only[jiv,decide_true,jiV,jjb,Bool.not_true,ne_eq,not_true_eq_false,decide_false,Bool.or_self])))
     refine V.r0 jh3 ?_
     exact⟨3,by omega,by omega,V.wk⟩
    ·simp only[k3]
     refine V.r0 jh3 ?_
     refine⟨Pq81z,[],V.pok,?_⟩
     refine jab [(4,.bool true),(15,.any),(91,.any),(102,.any),(165,.any),(170,.any),(172,.any),(184,.any)] [(91,.gone)] ?_ ?_
     ·exact V.d2 (V.a4 jiv @decide_true @jiV @jjb) o1 eq
     refine V.r0 jh3 ?_
     exact Fin.of rfl
theorem wdec32 (s:List UInt8):decide (s=s)=true:=by simp
def jgB:List Nd:=[⟨[0,3,6,8,9,10],[1,2,4,5],.ev (.cons 0 [1,2,4,5] (.goto 9) (.cons 3 [4,5] (.goto 6) (.cons 6 [1,2] (.goto 1) (.nil))))⟩,⟨[0,3,8,9,10],[1,2],.ev (.cons 0 [1,2] (.goto 4) (.cons 3 [] (.goto 2) (.nil)))⟩,⟨[0,8,9,10],[],.ev (.cons 0 [] (.goto 3) (.nil))⟩,⟨[8,9,10],[],.ev (.cons 8 [] (.take 9 (.take 10 (.done))) (.nil))⟩,⟨[3,8,9,10],[1,2],.ev (.cons 3 [] (.goto 3) (.cons 8 [1,2] (.goto 5) (.nil)))⟩,⟨[3,9,10],[1,2],.ev (.cons 3 [] (.take 9 (.take 10 (.done))) (.nil))⟩,⟨[0,6,8,9,10],[4,5],.ev (.cons 0 [4,5] (.goto 7) (.cons 6 [] (.goto 2) (.nil)))⟩,⟨[6,8,9,10],[4,5],.ev (.cons 6 [] (.goto 3) (.cons 8 [4,5] (.take 9 (.goto 8)) (.nil)))⟩,⟨[6,10],[4,5,9],.ev (.cons 6 [9] (.take 10 (.done)) (.nil))⟩,⟨[3,6,8,9,10],[1,2,4,5],.ev (.cons 3 [4,5] (.goto 7) (.cons 6 [1,2] (.goto 4) (.cons 8 [1,2,4,5] (.goto 10) (.nil))))⟩,⟨[3,6,9,10],[1,2,4,5],.ev (.cons 3 [4,5] (.take 9 (.goto 8)) (.cons 6 [1,2] (.goto 5) (.nil)))⟩,⟨[0,3,7,8,9,10],[1,2],.ev (.cons 0 [1,2] (.goto 14) (.cons 3 [] (.goto 12) (.cons 7 [1,2] (.goto 1) (.nil))))⟩,⟨[0,7,8,9,10],[],.ev (.cons 0 [] (.goto 13) (.cons 7 [] (.goto 2) (.nil)))⟩,⟨[7,8,9,10],[],.ev (.cons 7 [] (.goto 3) (.nil))⟩,⟨[3,7,8,9,10],[1,2],.ev (.cons 3 [] (.goto 13) (.cons 7 [1,2] (.goto 4) (.nil)))⟩,⟨[0,6,7,8,9,10],[4,5],.ev (.cons 0 [4,5] (.goto 16) (.cons 6 [] (.goto 12) (.cons 7 [4,5] (.goto 6) (.nil))))⟩,⟨[6,7,8,9,10],[4,5],.ev (.cons 6 [] (.goto 13) (.cons 7 [4,5] (.goto 7) (.nil)))⟩,⟨[3,6,7,8,9,10],[1,2,4,5],.ev (.cons 3 [4,5] (.goto 16) (.cons 6 [1,2] (.goto 14) (.cons 7 [1,2,4,5] (.goto 9) (.nil))))⟩]
theorem jh1:type_of% @jiK∧type_of% @jjB ∧ type_of% @jjC ∧ type_of% @jiI∧type_of% @tn0∧type_of% @tn1∧type_of% @tn2∧type_of% @tn3∧type_of% @xt4:=⟨@jiK,@jjB,@jjC,@jiI,@tn0,@tn1,@tn2,@tn3,@xt4⟩
theorem jiu:type_of% @jiK∧type_of% @jjB ∧ type_of% @jjC ∧ type_of% @jiI∧type_of% @tn0∧type_of% @tn1∧type_of% @tn2∧type_of% @tn3∧type_of% @wdec32∧type_of% @xt4:=⟨@jiK,@jjB,@jjC,@jiI,@tn0,@tn1,@tn2,@tn3,@wdec32,@xt4⟩
theorem jg1 (ds vals data O:List Int)(oo:Int)(sm:Bool)(at' z1 z2:Nat→Int)(b1 b2:Nat→Bool)(p1 p2:Nat→List Int)(s0 s1 s2:Nat)(e0 e1 e2:Int)(F0 F1:Nat→List D)(C W Y SU XF:Nat→Tx)(PL MN AF TA VF TV:Nat→Nat→Tx)(PD V':Nat→List Int)
  (hO:O.length=3) (hq:∀ k,k<3→0≤O.getD k 0∧O.getD k 0<3) (hb:∀ k,k<4 → ∀ i,0≤(atK [e0,e1,e2] O k).getD i 0∧(atK [e0,e1,e2] O k).getD i 0≤100) (hV:∀ k,k<4→(V' k).length=2) (hPD:∀ k,(PD k).length=4) (hs:(2≤s0∧s0≤9)∧(2≤s1∧s1≤9)∧(2≤s2∧s2≤9)) (hbb:(0≤e0∧e0≤9)∧(0≤e1∧e1≤9)∧(0≤e2∧e2≤9))
  (zp:∀ i,PL 0 i=SU 0) (zm:∀ i,MN 0 i=SU 0) (hend:atK [e0,e1,e2] O 3=[e0+1,e1+1,e2+1]) (hy:∀ j,MN 4 j=Y j)
  (wk:Cl 10 [] (.bool true))
  (gd:Cl 11 [.agg [.ints .u8 ds,.int .u8 oo,.ints .u16 vals,.bool sm]] (.agg [.ints .i64 [(s0:Int),(s1:Int),(s2:Int)],.int .i64 2,.ints .i64 data]))
  (co:Cl 13 [(colD at' z1 z2 b1 b2 p1 p2),.int .i64 3] (.agg [.slf 2 3 F0,.slf 2 3 F1,V.sl2 3 [.str (C 0).1,.str (C 0).2,.str (C 1).1,.str (C 1).2,.str (C 2).1,.str (C 2).2]]))
  (ce:Cl 17 [.agg [.ints .i64 [(s0:Int),(s1:Int),(s2:Int)],.int .i64 2,.ints .i64 data],V.sl2 3 [.str (C 0).1,.str (C 0).2,.str (C 1).1,.str (C 1).2,.str (C 2).1,.str (C 2).2]] (.tup [.ints .i64 [e0,e1,e2],.ints .i64 O,V.sl2 4 [.str (W 0).1,.str (W 0).2,.str (W 1).1,.str (W 1).2,.str (W 2).1,.str (W 2).2,.str (W 3).1,.str (W 3).2],.int .i64 0]))
  (ev:Cl 15 [.agg [.ints .i64 [(s0:Int),(s1:Int),(s2:Int)],.int .i64 2,.ints .i64 data],V.sl2 3 [.str (C 0).1,.str (C 0).2,.str (C 1).1,.str (C 1).2,.str (C 2).1,.str (C 2).2]] (.tup [V.sl2 2 [.str (Y 0).1,.str (Y 0).2,.str (Y 1).1,.str (Y 1).2],.int .i64 0]))
  (zf:Cl 18 [.int .i64 0,.int .i64 1] (.agg [.str (SU 0).1,.str (SU 0).2]))
  (ck:Cl 37 [.agg [.ints .i64 [(s0:Int),(s1:Int),(s2:Int)],.int .i64 2,.ints .i64 data]] (.int .i64 0))
  (fi:∀ k,k<4→Cl 47 [.agg [.ints .i64 [(s0:Int),(s1:Int),(s2:Int)],.int .i64 2,.ints .i64 data],.ints .i64 (atK [e0,e1,e2] O k)] (.tup [.iarr .i64 (PD k),.bool true]))
  (vl:∀ k,k<4→Cl 40 [.agg [.ints .i64 [(s0:Int),(s1:Int),(s2:Int)],.int .i64 2,.ints .i64 data],.iarr .i64 (PD k)] (.ints .i64 (V' k)))
  (le:∀ k,k<4→Cl 21 [.agg [.str (W k).1,.str (W k).2],.agg [.str (SU 0).1,.str (SU 0).2]] (.bool false))
  (su:∀ k,k<4→Cl 22 [.agg [.str (SU k).1,.str (SU k).2],.agg [.str (W k).1,.str (W k).2]] (.agg [.str (SU (k+1)).1,.str (SU (k+1)).2]))
  (af:∀ k i,k<4→i<3→Cl 18 [.int .i64 ((atK [e0,e1,e2] O k).getD i 0),.int .i64 1] (.agg [.str (AF k i).1,.str (AF k i).2]))
  (ta:∀ k i,k<4→i<3→Cl 23 [.agg [.str (W k).1,.str (W k).2],.agg [.str (AF k i).1,.str (AF k i).2]] (.agg [.str (TA k i).1,.str (TA k i).2]))
  (pa:∀ k i,k<4→i<3→Cl 22 [.agg [.str (PL k i).1,.str (PL k i).2],.agg [.str (TA k i).1,.str (TA k i).2]] (.agg [.str (PL (k+1) i).1,.str (PL (k+1) i).2]))
  (vf:∀ k i,k<4→i<2→Cl 18 [.int .i64 ((V' k).getD i 0),.int .i64 65535] (.agg [.str (VF k i).1,.str (VF k i).2]))
  (tv:∀ k i,k<4→i<2→Cl 23 [.agg [.str (W k).1,.str (W k).2],.agg [.str (VF k i).1,.str (VF k i).2]] (.agg [.str (TV k i).1,.str (TV k i).2]))
  (pm:∀ k i,k<4→i<2→Cl 22 [.agg [.str (MN k i).1,.str (MN k i).2],.agg [.str (TV k i).1,.str (TV k i).2]] (.agg [.str (MN (k+1) i).1,.str (MN (k+1) i).2]))
  (xf:∀ i,i<3→Cl 18 [.int .i64 (([(s0:Int),(s1:Int),(s2:Int)]:List Int).getD i 0-1),.int .i64 1] (.agg [.str (XF i).1,.str (XF i).2]))
  (tx:∀ i,i<3→Cl 23 [.agg [.str (C i).1,.str (C i).2],.agg [.str (XF i).1,.str (XF i).2]] (.agg [.str (PL 4 i).1,.str (PL 4 i).2]))
  (o1:Cl 18 [.int .i64 1,.int .i64 1] (.agg [.str (SU 4).1,.str (SU 4).2])) :
  Cl 4 [.agg [.ints .u8 ds,.int .u8 oo,.ints .u16 vals,.bool sm],(colD at' z1 z2 b1 b2 p1 p2)] (.bool true):=by
 have eq:=eqf2 Y
 have hOl:((O.length:Nat):Int)=3:=by rw[hO];rfl
 have hal:∀ k,(atK [e0,e1,e2] O k).length=3:=fun k=>by
  induction k with
  | zero=>rfl
  | succ k ih=>rw[atK,jjw,ih]
 refine V.en tbOk Tryz.func4 ?_
 refine V.r5 jh1 wk gd co ce ev ?_
 refine V.cnd_to [(5,.box 5 0),(6,V.sl2 3 [.str (C 0).1,.str (C 0).2,.str (C 1).1,.str (C 1).2,.str (C 2).1,.str (C 2).2]),(7,.ints .i64 [e0,e1,e2]),(8,.ints .i64 O),(9,V.sl2 4 [.str (W 0).1,.str (W 0).2,.str (W 1).1,.str (W 1).2,.str (W 2).1,.str (W 2).2,.str (W 3).1,.str (W 3).2]),(11,V.sl2 2 [.str (Y 0).1,.str (Y 0).2,.str (Y 1).1,.str (Y 1).2])] [(5,.box [.ints .i64 [(s0:Int),(s1:Int),(s2:Int)],.int .i64 2,.ints .i64 data])] (CondB.mk (fun h=>absurd h (by simp[hO])) (fun _=>?_)) ?_
 ·(conv=>whnf)
  exact V.wk
 refine V.r0 jh1 ?_
 refine⟨Pq82z,jgB,V.pok,?_⟩
 refine jbL [(14,.bsl 88 0 3 2),(15,.bsl 91 0 2 2),(13,.box 13 0),(88,.bsl 88 0 3 2),(91,.bsl 91 0 2 2)] [(13,.box [.str (SU 0).1,.str (SU 0).2]),(88,.box [.str [],.str [],.str [],.str [],.str [],.str []]),(91,.box [.str [],.str [],.str [],.str []])] [(0,[(85,.agg [.str (SU 0).1,.str (SU 0).2])],[]),(1,[(86,V.sl2 3 [.str (C 0).1,.str (C 0).2,.str (C 1).1,.str (C 1).2,.str (C 2).1,.str (C 2).2])],[]),(2,[(87,.int .i64 3)],[]),(3,[(88,.bsl 88 0 3 2)],[(88,.box [.str [],.str [],.str [],.str [],.str [],.str []])]),(4,[(89,.box 5 1)],[]),(5,[(90,.int .i64 2)],[]),(6,[(91,.bsl 91 0 2 2)],[(91,.box [.str [],.str [],.str [],.str []])]),(7,[(13,.box 13 0)],[(13,.box [.str [],.str []])]),(8,[],[(13,.box [.str (SU 0).1,.str (SU 0).2])]),(9,[(14,.bsl 88 0 3 2)],[]),(10,[(15,.bsl 91 0 2 2)],[])] ?_ ?_ ?_
 ·exact V.d1 jh1 zf
 ·exact V.d1 jh1 zf
 refine V.r0 jh1 ?_
 refine jac (0:Nat) (fun k=>k≤3) (fun k=>3-k) (fun k=>[(94,.int .i64 (k:Nat))]) (fun k=>[(88,.box (preD (2*k) [.str (SU 0).1,.str (SU 0).2,.str (SU 0).1,.str (SU 0).2,.str (SU 0).1,.str (SU 0).2]))]) ?_ ?_ ?_
 ·exact V.wk
 ·exact jiF _
 intro k hk
 have hk4:k=0∨k=1∨k=2∨k=3:=by omega
 rcases hk4 with e|e|e|e
 all_goals subst e
 ·simp only[k0]
  refine V.r1 jh1 zf ?_
  exact⟨1,by omega,by omega,V.wk⟩
 ·simp only[k1]
  refine V.r1 jh1 zf ?_
  exact⟨2,by omega,by omega,V.wk⟩
 ·simp only[k2]
  refine V.r1 jh1 zf ?_
  exact⟨3,by omega,by omega,V.wk⟩
 ·simp only[k3]
  refine V.r0 jh1 ?_
  refine jac (0:Nat) (fun k=>k≤2) (fun k=>2-k) (fun k=>[(104,.int .i64 (k:Nat))]) (fun k=>[(91,.box (preD (2*k) [.str (SU 0).1,.str (SU 0).2,.str (SU 0).1,.str (SU 0).2]))]) ?_ ?_ ?_
  ·exact V.wk
  ·exact jiF _
  intro k hk
  have hk4:k=0∨k=1∨k=2:=by omega
  rcases hk4 with e|e|e
  all_goals subst e
  ·simp only[k0]
   refine V.r1 jh1 zf ?_
   exact⟨1,by omega,by omega,V.wk⟩
  ·simp only[k1]
   refine V.r1 jh1 zf ?_
   exact⟨2,by omega,by omega,V.wk⟩
  ·simp only[k2]
   refine V.r0 jh1 ?_
   refine .inl ?_
   (conv=>whnf)
   refine⟨100,_,_,⟨Tryz.func19,rfl,rfl,jiE rfl⟩,?_⟩
   refine V.r0 jh1 ?_
   refine⟨fun h=>absurd (h rfl) (by simp),fun _=>?_⟩
   refine V.r0 jh1 ?_
   refine Lp.renSlot 365 18 18 3 (k := .i64) (xs:=[e0,e1,e2]) (by decide) (by decide) rfl rfl ?_
   (conv=>whnf)
   refine jac (0:Nat) (fun k=>k≤4) (fun k=>4-k) (fun k=>[(116,.int .i64 (k:Nat)),(113,.any)]) (fun k=>[(13,.box [.str (SU k).1,.str (SU k).2]),(88,.box [.str (PL k 0).1,.str (PL k 0).2,.str (PL k 1).1,.str (PL k 1).2,.str (PL k 2).1,.str (PL k 2).2]),(91,.box [.str (MN k 0).1,.str (MN k 0).2,.str (MN k 1).1,.str (MN k 1).2]),(18,.arr .i64 (atK [e0,e1,e2] O (min k 3)))]) ?_ ?_ ?_
   ·simp only[zp,zm]
    exact V.wk
   ·exact jiF _
   intro k hk
   have hlat:=hal (min k 3)
   (conv=>whnf)
   refine V.st ?_
   refine V.br (fun h=>?_) (fun h=>?_)
   ·simp only[decide_eq_true_eq] at h
    have hk1:k<4:=by omega
    have hmin:min k 3=k:=by omega
    have hVl:(((V' k).length:Nat):Int)=2:=by rw[hV k hk1];rfl
    have e:(List.take 2 (List.drop (k*2) [.str (W 0).1,.str (W 0).2,.str (W 1).1,.str (W 1).2,.str (W 2).1,.str (W 2).2,.str (W 3).1,.str (W 3).2]):List D)=[.str (W k).1,.str (W k).2]:=jcD W 4 k hk1
    have gak:=fi k hk1
    have vlk:=vl k hk1
    have hPk:=hPD k
    have etk:List.take ([e0,e1,e2]:List Int).length (atK [e0,e1,e2] O k)=atK [e0,e1,e2] O k:=jjr (by rw[hal k];exact jiL _)
    rw[← etk] at gak
    have lek:=le k hk1
    have suk:=su k hk1
    have hbk:=hb k hk1
    rw[hmin] at hlat
    rw[hmin]
    (conv=>whnf)
    (try simp only[jh1])
    repeat ((first|refine V.s1 ?_|((try ((with_reducible refine .ext ?_);(conv=>whnf);(try simp only[jh1])));(with_reducible refine jaa (r:=?_) ?_ ?_);rotate_left;(focus (first|fail));(conv=>whnf))|((simp only[e]);(conv=>whnf)));(try simp only[jh1]))
    refine .inl ?_
    (conv=>whnf)
    refine⟨0,_,_,⟨Tryz.func20,rfl,rfl,jiE rfl⟩,?_⟩
    refine V.r1 jh1 ck ?_
    refine .len ?_
    (conv=>whnf)
    refine⟨18,?_⟩
    (conv=>whnf)
    refine jaa (r:=?_) ?_ ?_
    rotate_left
    (focus exact gak)
    refine V.r1 (V.a2 jh1 hVl) vlk ?_
    refine⟨Pq11z,[],V.pok,?_⟩
    refine jab [(140,.bool false)] [] ?_ ?_
    ·exact V.d2 (V.a2 jh1 hVl) zf lek
    refine V.r1 jh1 suk ?_
    refine jac (0:Nat) (fun i=>i≤3) (fun i=>3-i) (fun i=>[(146,.int .i64 (i:Nat))]) (fun i=>[(88,.box (wce (fun i=>PL (k+1) i) i++List.drop (2*i) (wce (fun i=>PL k i) 3)))]) ?_ ?_ ?_
    ·exact V.wk
    ·exact jiF _
    intro i hi
    have hi4:i=0∨i=1∨i=2∨i=3:=by omega
    rcases hi4 with e|e|e|e
    all_goals subst e
    ·simp only[k0]
     have c1:=af k 0 hk1 (by omega)
     have c2:=ta k 0 hk1 (by omega)
     have c3:=pa k 0 hk1 (by omega)
     have hbi:=hbk 0
     refine V.r0 jh1 ?_
     refine⟨Pq13z,[],V.pok,?_⟩
     refine jab [] [(88,.box [.str (PL (k+1) 0).1,.str (PL (k+1) 0).2,.str (PL k 1).1,.str (PL k 1).2,.str (PL k 2).1,.str (PL k 2).2])] ?_ ?_
     ·exact V.d3 jh1 c1 c2 c3
     refine V.r0 jh1 ?_
     exact⟨1,by omega,by omega,V.wk⟩
    ·simp only[k1]
     have c1:=af k 1 hk1 (by omega)
     have c2:=ta k 1 hk1 (by omega)
     have c3:=pa k 1 hk1 (by omega)
     have hbi:=hbk 1
     refine V.r0 jh1 ?_
     refine⟨Pq13z,[],V.pok,?_⟩
     refine jab [] [(88,.box [.str (PL (k+1) 0).1,.str (PL (k+1) 0).2,.str (PL (k+1) 1).1,.str (PL (k+1) 1).2,.str (PL k 2).1,.str (PL k 2).2])] ?_ ?_
     ·exact V.d3 jh1 c1 c2 c3
     refine V.r0 jh1 ?_
     exact⟨2,by omega,by omega,V.wk⟩
    ·simp only[k2]
     have c1:=af k 2 hk1 (by omega)
     have c2:=ta k 2 hk1 (by omega)
     have c3:=pa k 2 hk1 (by omega)
     have hbi:=hbk 2
     refine V.r0 jh1 ?_
     refine⟨Pq13z,[],V.pok,?_⟩
     refine jab [] [(88,.box [.str (PL (k+1) 0).1,.str (PL (k+1) 0).2,.str (PL (k+1) 1).1,.str (PL (k+1) 1).2,.str (PL (k+1) 2).1,.str (PL (k+1) 2).2])] ?_ ?_
     ·exact V.d3 jh1 c1 c2 c3
     refine V.r0 jh1 ?_
     exact⟨3,by omega,by omega,V.wk⟩
    ·simp only[k3]
     refine V.r0 jh1 ?_
     refine jac (0:Nat) (fun i=>i≤2) (fun i=>2-i) (fun i=>[(167,.int .i64 (i:Nat))]) (fun i=>[(91,.box (wce (fun i=>MN (k+1) i) i++List.drop (2*i) (wce (fun i=>MN k i) 2)))]) ?_ ?_ ?_
     ·exact V.wk
     ·exact jiF _
     intro i hi
     have hi4:i=0∨i=1∨i=2:=by omega
     rcases hi4 with e|e|e
     all_goals subst e
     ·simp only[k0]
      have c1:=vf k 0 hk1 (by omega)
      have c2:=tv k 0 hk1 (by omega)
      have c3:=pm k 0 hk1 (by omega)
      refine V.r0 jh1 ?_
      refine⟨Pq13z,[],V.pok,?_⟩
      refine jab [] [(91,.box [.str (MN (k+1) 0).1,.str (MN (k+1) 0).2,.str (MN k 1).1,.str (MN k 1).2])] ?_ ?_
      ·exact V.d3 (V.a2 jh1 hVl) c1 c2 c3
      refine V.r0 jh1 ?_
      exact⟨1,by omega,by omega,V.wk⟩
     ·simp only[k1]
      have c1:=vf k 1 hk1 (by omega)
      have c2:=tv k 1 hk1 (by omega)
      have c3:=pm k 1 hk1 (by omega)
      refine V.r0 jh1 ?_
      refine⟨Pq13z,[],V.pok,?_⟩
      refine jab [] [(91,.box [.str (MN (k+1) 0).1,.str (MN (k+1) 0).2,.str (MN (k+1) 1).1,.str (MN (k+1) 1).2])] ?_ ?_
      ·exact V.d3 (V.a2 jh1 hVl) c1 c2 c3
      refine V.r0 jh1 ?_
      exact⟨2,by omega,by omega,V.wk⟩
     ·simp only[k2]
      refine V.r0 (V.a2 jh1 hOl) ?_
      refine V.br (fun h2=>?_) (fun h2=>?_)
      ·simp only[decide_eq_true_eq] at h2
       have hk2:k<3:=by omega
       have hqk:=hq k hk2
       have hbq:=hbk (O.getD k 0).toNat
       have eAt:(atK [e0,e1,e2] O k).set (O.getD k 0).toNat ((atK [e0,e1,e2] O k).getD (O.getD k 0).toNat 0+1)=atK [e0,e1,e2] O (min (k+1) 3):=by
        rw[show min (k+1) 3=k+1 by omega]
        rfl
       refine V.r0 jh1 ?_
       refine Cnd.split (CondB.mk (fun h=>absurd h (by rw[jiT,decide_eq_true_eq,decide_eq_true_eq];(try simp only[jjq,List.length_nil]);omega)) (fun _=>?_))
       refine V.r0 (V.a2 jh1 eAt) ?_
       exact⟨k+1,by omega,by omega,V.wk⟩
      ·simp only[decide_eq_false_iff_not] at h2
       have hm2:min (k+1) 3=k:=by omega
       refine V.r0 jh1 ?_
       refine⟨k+1,by omega,by omega,?_⟩
       simp only[hm2]
       exact V.wk
   ·simp only[decide_eq_false_iff_not] at h
    have hk1:k=4:=by omega
    subst hk1
    rw[show min 4 3=3 from rfl,hend]
    simp only[hy]
    refine V.r0 jh1 ?_
    refine jac (0:Nat) (fun i=>i≤3) (fun i=>3-i) (fun i=>[(216,.int .i64 (i:Nat))]) (fun _=>[]) ?_ ?_ ?_
    ·exact V.wk
    ·exact jiF _
    intro i hi
    have hi4:i=0∨i=1∨i=2∨i=3:=by omega
    rcases hi4 with e|e|e|e
    all_goals subst e
    ·simp only[k0]
     have c1:=xf 0 (by omega)
     have c2:=tx 0 (by omega)
     refine V.r0 jh1 ?_
     refine⟨Pq5z,[],V.pok,?_⟩
     refine jab [(247,.bool false)] [] ?_ ?_
     ·(conv=>whnf);(try simp only[jiu,decide_true,jiV,jjb,Bool.not_true,ne_eq,not_true_eq_false,decide_false,Bool.or_self])
      repeat' (first|exact V.wk|((with_reducible refine And.intro ?_ jay);(conv=>whnf);(try simp only[jiu,decide_true,jiV,jjb,Bool.not_true,ne_eq,not_true_eq_false,decide_false,Bool.or_self]))|((with_reducible first|refine jaq ?_ ?_|refine jau ?_ ?_)<;>(conv=>whnf);(try simp only[jiu,decide_true,jiV,jjb,Bool.not_true,ne_eq,not_true_eq_false,decide_false,Bool.or_self]))|((first|refine V.s1 ?_|((with_reducible refine jak ?_ ?_);(focus ((conv=>whnf);(try simp only[jiu,decide_true,jiV,jjb,Bool.not_true,ne_eq,not_true_eq_false,decide_false,Bool.or_self]);(repeat ((first|refine V.s1 ?_);(try simp only[jiu,decide_true,jiV,jjb,Bool.not_true,ne_eq,not_true_eq_false,decide_false,Bool.or_self])));exact⟨rfl⟩));(conv=>whnf))|((try ((with_reducible refine .ext ?_);(conv=>whnf);(try simp only[jiu,decide_true,jiV,jjb,Bool.not_true,ne_eq,not_true_eq_false,decide_false,Bool.or_self])));(with_reducible refine jaa (r:=?_) ?_ ?_);rotate_left;(focus (first|exact(c1)|exact(c2)));(conv=>whnf)));(try simp only[jiu,decide_true,jiV,jjb,Bool.not_true,ne_eq,not_true_eq_false,decide_false,Bool.or_self]))|(refine And.intro ?_ ?_<;>(conv=>whnf);(try simp only[jiu,decide_true,jiV,jjb,Bool.not_true,ne_eq,not_true_eq_false,decide_false,Bool.or_self])))
     refine V.r0 jh1 ?_
     exact⟨1,by omega,by omega,V.wk⟩
    ·simp only[k1]
     have c1:=xf 1 (by omega)
     have c2:=tx 1 (by omega)
     refine V.r0 jh1 ?_
     refine⟨Pq5z,[],V.pok,?_⟩
     refine jab [(247,.bool false)] [] ?_ ?_
     ·(conv=>whnf);(try simp only[jiu,decide_true,jiV,jjb,Bool.not_true,ne_eq,not_true_eq_false,decide_false,Bool.or_self])
      repeat' (first|exact V.wk|((with_reducible refine And.intro ?_ jay);(conv=>whnf);(try simp only[jiu,decide_true,jiV,jjb,Bool.not_true,ne_eq,not_true_eq_false,decide_false,Bool.or_self]))|((with_reducible first|refine jaq ?_ ?_|refine jau ?_ ?_)<;>(conv=>whnf);(try simp only[jiu,decide_true,jiV,jjb,Bool.not_true,ne_eq,not_true_eq_false,decide_false,Bool.or_self]))|((first|refine V.s1 ?_|((with_reducible refine jak ?_ ?_);(focus ((conv=>whnf);(try simp only[jiu,decide_true,jiV,jjb,Bool.not_true,ne_eq,not_true_eq_false,decide_false,Bool.or_self]);(repeat ((first|refine V.s1 ?_);(try simp only[jiu,decide_true,jiV,jjb,Bool.not_true,ne_eq,not_true_eq_false,decide_false,Bool.or_self])));exact⟨rfl⟩));(conv=>whnf))|((try ((with_reducible refine .ext ?_);(conv=>whnf);(try simp only[jiu,decide_true,jiV,jjb,Bool.not_true,ne_eq,not_true_eq_false,decide_false,Bool.or_self])));(with_reducible refine jaa (r:=?_) ?_ ?_);rotate_left;(focus (first|exact(c1)|exact(c2)));(conv=>whnf)));(try simp only[jiu,decide_true,jiV,jjb,Bool.not_true,ne_eq,not_true_eq_false,decide_false,Bool.or_self]))|(refine And.intro ?_ ?_<;>(conv=>whnf);(try simp only[jiu,decide_true,jiV,jjb,Bool.not_true,ne_eq,not_true_eq_false,decide_false,Bool.or_self])))
     refine V.r0 jh1 ?_
     exact⟨2,by omega,by omega,V.wk⟩
    ·simp only[k2]
     have c1:=xf 2 (by omega)
     have c2:=tx 2 (by omega)
     refine V.r0 jh1 ?_
     refine⟨Pq5z,[],V.pok,?_⟩
     refine jab [(247,.bool false)] [] ?_ ?_
     ·(conv=>whnf);(try simp only[jiu,decide_true,jiV,jjb,Bool.not_true,ne_eq,not_true_eq_false,decide_false,Bool.or_self])
      repeat' (first|exact V.wk|((with_reducible refine And.intro ?_ jay);(conv=>whnf);(try simp only[jiu,decide_true,jiV,jjb,Bool.not_true,ne_eq,not_true_eq_false,decide_false,Bool.or_self]))|((with_reducible first|refine jaq ?_ ?_|refine jau ?_ ?_)<;>(conv=>whnf);(try simp only[jiu,decide_true,jiV,jjb,Bool.not_true,ne_eq,not_true_eq_false,decide_false,Bool.or_self]))|((first|refine V.s1 ?_|((with_reducible refine jak ?_ ?_);(focus ((conv=>whnf);(try simp only[jiu,decide_true,jiV,jjb,Bool.not_true,ne_eq,not_true_eq_false,decide_false,Bool.or_self]);(repeat ((first|refine V.s1 ?_);(try simp only[jiu,decide_true,jiV,jjb,Bool.not_true,ne_eq,not_true_eq_false,decide_false,Bool.or_self])));exact⟨rfl⟩));(conv=>whnf))|((try ((with_reducible refine .ext ?_);(conv=>whnf);(try simp only[jiu,decide_true,jiV,jjb,Bool.not_true,ne_eq,not_true_eq_false,decide_false,Bool.or_self])));(with_reducible refine jaa (r:=?_) ?_ ?_);rotate_left;(focus (first|exact(c1)|exact(c2)));(conv=>whnf)));(try simp only[jiu,decide_true,jiV,jjb,Bool.not_true,ne_eq,not_true_eq_false,decide_false,Bool.or_self]))|(refine And.intro ?_ ?_<;>(conv=>whnf);(try simp only[jiu,decide_true,jiV,jjb,Bool.not_true,ne_eq,not_true_eq_false,decide_false,Bool.or_self])))
     refine V.r0 jh1 ?_
     exact⟨3,by omega,by omega,V.wk⟩
    ·simp only[k3]
     refine V.r0 jh1 ?_
     refine⟨Pq81z,[],V.pok,?_⟩
     refine jab [(4,.bool true),(15,.any),(91,.any),(102,.any),(165,.any),(170,.any),(172,.any),(184,.any)] [(91,.gone)] ?_ ?_
     ·exact V.d2 (V.a4 jiu @decide_true @jiV @jjb) o1 eq
     refine V.r0 jh1 ?_
     exact Fin.of rfl
theorem wdec33 (s:List UInt8):decide (s=s)=true:=by simp
def jgA:List Nd:=[⟨[0,3,6,8,9,10],[1,2,4,5],.ev (.cons 0 [1,2,4,5] (.goto 9) (.cons 3 [4,5] (.goto 6) (.cons 6 [1,2] (.goto 1) (.nil))))⟩,⟨[0,3,8,9,10],[1,2],.ev (.cons 0 [1,2] (.goto 4) (.cons 3 [] (.goto 2) (.nil)))⟩,⟨[0,8,9,10],[],.ev (.cons 0 [] (.goto 3) (.nil))⟩,⟨[8,9,10],[],.ev (.cons 8 [] (.take 9 (.take 10 (.done))) (.nil))⟩,⟨[3,8,9,10],[1,2],.ev (.cons 3 [] (.goto 3) (.cons 8 [1,2] (.goto 5) (.nil)))⟩,⟨[3,9,10],[1,2],.ev (.cons 3 [] (.take 9 (.take 10 (.done))) (.nil))⟩,⟨[0,6,8,9,10],[4,5],.ev (.cons 0 [4,5] (.goto 7) (.cons 6 [] (.goto 2) (.nil)))⟩,⟨[6,8,9,10],[4,5],.ev (.cons 6 [] (.goto 3) (.cons 8 [4,5] (.take 9 (.goto 8)) (.nil)))⟩,⟨[6,10],[4,5,9],.ev (.cons 6 [9] (.take 10 (.done)) (.nil))⟩,⟨[3,6,8,9,10],[1,2,4,5],.ev (.cons 3 [4,5] (.goto 7) (.cons 6 [1,2] (.goto 4) (.cons 8 [1,2,4,5] (.goto 10) (.nil))))⟩,⟨[3,6,9,10],[1,2,4,5],.ev (.cons 3 [4,5] (.take 9 (.goto 8)) (.cons 6 [1,2] (.goto 5) (.nil)))⟩,⟨[0,3,7,8,9,10],[1,2],.ev (.cons 0 [1,2] (.goto 14) (.cons 3 [] (.goto 12) (.cons 7 [1,2] (.goto 1) (.nil))))⟩,⟨[0,7,8,9,10],[],.ev (.cons 0 [] (.goto 13) (.cons 7 [] (.goto 2) (.nil)))⟩,⟨[7,8,9,10],[],.ev (.cons 7 [] (.goto 3) (.nil))⟩,⟨[3,7,8,9,10],[1,2],.ev (.cons 3 [] (.goto 13) (.cons 7 [1,2] (.goto 4) (.nil)))⟩,⟨[0,6,7,8,9,10],[4,5],.ev (.cons 0 [4,5] (.goto 16) (.cons 6 [] (.goto 12) (.cons 7 [4,5] (.goto 6) (.nil))))⟩,⟨[6,7,8,9,10],[4,5],.ev (.cons 6 [] (.goto 13) (.cons 7 [4,5] (.goto 7) (.nil)))⟩,⟨[3,6,7,8,9,10],[1,2,4,5],.ev (.cons 3 [4,5] (.goto 16) (.cons 6 [1,2] (.goto 14) (.cons 7 [1,2,4,5] (.goto 9) (.nil))))⟩]
theorem jh0:type_of% @jiK∧type_of% @jjB ∧ type_of% @jjC ∧ type_of% @jiI∧type_of% @tn0∧type_of% @tn1∧type_of% @tn2∧type_of% @tn3∧type_of% @xt4:=⟨@jiK,@jjB,@jjC,@jiI,@tn0,@tn1,@tn2,@tn3,@xt4⟩
theorem jit:type_of% @jiK∧type_of% @jjB ∧ type_of% @jjC ∧ type_of% @jiI∧type_of% @tn0∧type_of% @tn1∧type_of% @tn2∧type_of% @tn3∧type_of% @wdec33∧type_of% @xt4:=⟨@jiK,@jjB,@jjC,@jiI,@tn0,@tn1,@tn2,@tn3,@wdec33,@xt4⟩
theorem jg0 (ds vals data O:List Int)(oo:Int)(sm:Bool)(at' z1 z2:Nat→Int)(b1 b2:Nat→Bool)(p1 p2:Nat→List Int)(s0 s1 s2:Nat)(e0 e1 e2:Int)(F0 F1:Nat→List D)(C W Y SU XF:Nat→Tx)(PL MN AF TA VF TV:Nat→Nat→Tx)(PD V':Nat→List Int)
  (hO:O.length=3) (hq:∀ k,k<3→0≤O.getD k 0∧O.getD k 0<3) (hb:∀ k,k<4 → ∀ i,0≤(atK [e0,e1,e2] O k).getD i 0∧(atK [e0,e1,e2] O k).getD i 0≤100) (hV:∀ k,k<4→(V' k).length=3) (hPD:∀ k,(PD k).length=4) (hs:(2≤s0∧s0≤9)∧(2≤s1∧s1≤9)∧(2≤s2∧s2≤9)) (hbb:(0≤e0∧e0≤9)∧(0≤e1∧e1≤9)∧(0≤e2∧e2≤9))
  (zp:∀ i,PL 0 i=SU 0) (zm:∀ i,MN 0 i=SU 0) (hend:atK [e0,e1,e2] O 3=[e0+1,e1+1,e2+1]) (hy:∀ j,MN 4 j=Y j)
  (wk:Cl 10 [] (.bool true))
  (gd:Cl 11 [.agg [.ints .u8 ds,.int .u8 oo,.ints .u16 vals,.bool sm]] (.agg [.ints .i64 [(s0:Int),(s1:Int),(s2:Int)],.int .i64 3,.ints .i64 data]))
  (co:Cl 13 [(colD at' z1 z2 b1 b2 p1 p2),.int .i64 3] (.agg [.slf 2 3 F0,.slf 2 3 F1,V.sl2 3 [.str (C 0).1,.str (C 0).2,.str (C 1).1,.str (C 1).2,.str (C 2).1,.str (C 2).2]]))
  (ce:Cl 17 [.agg [.ints .i64 [(s0:Int),(s1:Int),(s2:Int)],.int .i64 3,.ints .i64 data],V.sl2 3 [.str (C 0).1,.str (C 0).2,.str (C 1).1,.str (C 1).2,.str (C 2).1,.str (C 2).2]] (.tup [.ints .i64 [e0,e1,e2],.ints .i64 O,V.sl2 4 [.str (W 0).1,.str (W 0).2,.str (W 1).1,.str (W 1).2,.str (W 2).1,.str (W 2).2,.str (W 3).1,.str (W 3).2],.int .i64 0]))
  (ev:Cl 15 [.agg [.ints .i64 [(s0:Int),(s1:Int),(s2:Int)],.int .i64 3,.ints .i64 data],V.sl2 3 [.str (C 0).1,.str (C 0).2,.str (C 1).1,.str (C 1).2,.str (C 2).1,.str (C 2).2]] (.tup [V.sl2 3 [.str (Y 0).1,.str (Y 0).2,.str (Y 1).1,.str (Y 1).2,.str (Y 2).1,.str (Y 2).2],.int .i64 0]))
  (zf:Cl 18 [.int .i64 0,.int .i64 1] (.agg [.str (SU 0).1,.str (SU 0).2]))
  (ck:Cl 37 [.agg [.ints .i64 [(s0:Int),(s1:Int),(s2:Int)],.int .i64 3,.ints .i64 data]] (.int .i64 0))
  (fi:∀ k,k<4→Cl 47 [.agg [.ints .i64 [(s0:Int),(s1:Int),(s2:Int)],.int .i64 3,.ints .i64 data],.ints .i64 (atK [e0,e1,e2] O k)] (.tup [.iarr .i64 (PD k),.bool true]))
  (vl:∀ k,k<4→Cl 40 [.agg [.ints .i64 [(s0:Int),(s1:Int),(s2:Int)],.int .i64 3,.ints .i64 data],.iarr .i64 (PD k)] (.ints .i64 (V' k)))
  (le:∀ k,k<4→Cl 21 [.agg [.str (W k).1,.str (W k).2],.agg [.str (SU 0).1,.str (SU 0).2]] (.bool false))
  (su:∀ k,k<4→Cl 22 [.agg [.str (SU k).1,.str (SU k).2],.agg [.str (W k).1,.str (W k).2]] (.agg [.str (SU (k+1)).1,.str (SU (k+1)).2]))
  (af:∀ k i,k<4→i<3→Cl 18 [.int .i64 ((atK [e0,e1,e2] O k).getD i 0),.int .i64 1] (.agg [.str (AF k i).1,.str (AF k i).2]))
  (ta:∀ k i,k<4→i<3→Cl 23 [.agg [.str (W k).1,.str (W k).2],.agg [.str (AF k i).1,.str (AF k i).2]] (.agg [.str (TA k i).1,.str (TA k i).2]))
  (pa:∀ k i,k<4→i<3→Cl 22 [.agg [.str (PL k i).1,.str (PL k i).2],.agg [.str (TA k i).1,.str (TA k i).2]] (.agg [.str (PL (k+1) i).1,.str (PL (k+1) i).2]))
  (vf:∀ k i,k<4→i<3→Cl 18 [.int .i64 ((V' k).getD i 0),.int .i64 65535] (.agg [.str (VF k i).1,.str (VF k i).2]))
  (tv:∀ k i,k<4→i<3→Cl 23 [.agg [.str (W k).1,.str (W k).2],.agg [.str (VF k i).1,.str (VF k i).2]] (.agg [.str (TV k i).1,.str (TV k i).2]))
  (pm:∀ k i,k<4→i<3→Cl 22 [.agg [.str (MN k i).1,.str (MN k i).2],.agg [.str (TV k i).1,.str (TV k i).2]] (.agg [.str (MN (k+1) i).1,.str (MN (k+1) i).2]))
  (xf:∀ i,i<3→Cl 18 [.int .i64 (([(s0:Int),(s1:Int),(s2:Int)]:List Int).getD i 0-1),.int .i64 1] (.agg [.str (XF i).1,.str (XF i).2]))
  (tx:∀ i,i<3→Cl 23 [.agg [.str (C i).1,.str (C i).2],.agg [.str (XF i).1,.str (XF i).2]] (.agg [.str (PL 4 i).1,.str (PL 4 i).2]))
  (o1:Cl 18 [.int .i64 1,.int .i64 1] (.agg [.str (SU 4).1,.str (SU 4).2])) :
  Cl 4 [.agg [.ints .u8 ds,.int .u8 oo,.ints .u16 vals,.bool sm],(colD at' z1 z2 b1 b2 p1 p2)] (.bool true):=by
 have eq:=eqf3 Y
 have hOl:((O.length:Nat):Int)=3:=by rw[hO];rfl
 have hal:∀ k,(atK [e0,e1,e2] O k).length=3:=fun k=>by
  induction k with
  | zero=>rfl
  | succ k ih=>rw[atK,jjw,ih]
 refine V.en tbOk Tryz.func4 ?_
 refine V.r5 jh0 wk gd co ce ev ?_
 refine V.cnd_to [(5,.box 5 0),(6,V.sl2 3 [.str (C 0).1,.str (C 0).2,.str (C 1).1,.str (C 1).2,.str (C 2).1,.str (C 2).2]),(7,.ints .i64 [e0,e1,e2]),(8,.ints .i64 O),(9,V.sl2 4 [.str (W 0).1,.str (W 0).2,.str (W 1).1,.str (W 1).2,.str (W 2).1,.str (W 2).2,.str (W 3).1,.str (W 3).2]),(11,V.sl2 3 [.str (Y 0).1,.str (Y 0).2,.str (Y 1).1,.str (Y 1).2,.str (Y 2).1,.str (Y 2).2])] [(5,.box [.ints .i64 [(s0:Int),(s1:Int),(s2:Int)],.int .i64 3,.ints .i64 data])] (CondB.mk (fun h=>absurd h (by simp[hO])) (fun _=>?_)) ?_
 ·(conv=>whnf)
  exact V.wk
 refine V.r0 jh0 ?_
 refine⟨Pq82z,jgA,V.pok,?_⟩
 refine jbL [(14,.bsl 88 0 3 2),(15,.bsl 91 0 3 2),(13,.box 13 0),(88,.bsl 88 0 3 2),(91,.bsl 91 0 3 2)] [(13,.box [.str (SU 0).1,.str (SU 0).2]),(88,.box [.str [],.str [],.str [],.str [],.str [],.str []]),(91,.box [.str [],.str [],.str [],.str [],.str [],.str []])] [(0,[(85,.agg [.str (SU 0).1,.str (SU 0).2])],[]),(1,[(86,V.sl2 3 [.str (C 0).1,.str (C 0).2,.str (C 1).1,.str (C 1).2,.str (C 2).1,.str (C 2).2])],[]),(2,[(87,.int .i64 3)],[]),(3,[(88,.bsl 88 0 3 2)],[(88,.box [.str [],.str [],.str [],.str [],.str [],.str []])]),(4,[(89,.box 5 1)],[]),(5,[(90,.int .i64 3)],[]),(6,[(91,.bsl 91 0 3 2)],[(91,.box [.str [],.str [],.str [],.str [],.str [],.str []])]),(7,[(13,.box 13 0)],[(13,.box [.str [],.str []])]),(8,[],[(13,.box [.str (SU 0).1,.str (SU 0).2])]),(9,[(14,.bsl 88 0 3 2)],[]),(10,[(15,.bsl 91 0 3 2)],[])] ?_ ?_ ?_
 ·exact V.d1 jh0 zf
 ·exact V.d1 jh0 zf
 refine V.r0 jh0 ?_
 refine jac (0:Nat) (fun k=>k≤3) (fun k=>3-k) (fun k=>[(94,.int .i64 (k:Nat))]) (fun k=>[(88,.box (preD (2*k) [.str (SU 0).1,.str (SU 0).2,.str (SU 0).1,.str (SU 0).2,.str (SU 0).1,.str (SU 0).2]))]) ?_ ?_ ?_
 ·exact V.wk
 ·exact jiF _
 intro k hk
 have hk4:k=0∨k=1∨k=2∨k=3:=by omega
 rcases hk4 with e|e|e|e
 all_goals subst e
 ·simp only[k0]
  refine V.r1 jh0 zf ?_
  exact⟨1,by omega,by omega,V.wk⟩
 ·simp only[k1]
  refine V.r1 jh0 zf ?_
  exact⟨2,by omega,by omega,V.wk⟩
 ·simp only[k2]
  refine V.r1 jh0 zf ?_
  exact⟨3,by omega,by omega,V.wk⟩
 ·simp only[k3]
  refine V.r0 jh0 ?_
  refine jac (0:Nat) (fun k=>k≤3) (fun k=>3-k) (fun k=>[(104,.int .i64 (k:Nat))]) (fun k=>[(91,.box (preD (2*k) [.str (SU 0).1,.str (SU 0).2,.str (SU 0).1,.str (SU 0).2,.str (SU 0).1,.str (SU 0).2]))]) ?_ ?_ ?_
  ·exact V.wk
  ·exact jiF _
  intro k hk
  have hk4:k=0∨k=1∨k=2∨k=3:=by omega
  rcases hk4 with e|e|e|e
  all_goals subst e
  ·simp only[k0]
   refine V.r1 jh0 zf ?_
   exact⟨1,by omega,by omega,V.wk⟩
  ·simp only[k1]
   refine V.r1 jh0 zf ?_
   exact⟨2,by omega,by omega,V.wk⟩
  ·simp only[k2]
   refine V.r1 jh0 zf ?_
   exact⟨3,by omega,by omega,V.wk⟩
  ·simp only[k3]
   refine V.r0 jh0 ?_
   refine .inl ?_
   (conv=>whnf)
   refine⟨100,_,_,⟨Tryz.func19,rfl,rfl,jiE rfl⟩,?_⟩
   refine V.r0 jh0 ?_
   refine⟨fun h=>absurd (h rfl) (by simp),fun _=>?_⟩
   refine V.r0 jh0 ?_
   refine Lp.renSlot 365 18 18 3 (k := .i64) (xs:=[e0,e1,e2]) (by decide) (by decide) rfl rfl ?_
   (conv=>whnf)
   refine jac (0:Nat) (fun k=>k≤4) (fun k=>4-k) (fun k=>[(116,.int .i64 (k:Nat)),(113,.any)]) (fun k=>[(13,.box [.str (SU k).1,.str (SU k).2]),(88,.box [.str (PL k 0).1,.str (PL k 0).2,.str (PL k 1).1,.str (PL k 1).2,.str (PL k 2).1,.str (PL k 2).2]),(91,.box [.str (MN k 0).1,.str (MN k 0).2,.str (MN k 1).1,.str (MN k 1).2,.str (MN k 2).1,.str (MN k 2).2]),(18,.arr .i64 (atK [e0,e1,e2] O (min k 3)))]) ?_ ?_ ?_
   ·simp only[zp,zm]
    exact V.wk
   ·exact jiF _
   intro k hk
   have hlat:=hal (min k 3)
   (conv=>whnf)
   refine V.st ?_
   refine V.br (fun h=>?_) (fun h=>?_)
   ·simp only[decide_eq_true_eq] at h
    have hk1:k<4:=by omega
    have hmin:min k 3=k:=by omega
    have hVl:(((V' k).length:Nat):Int)=3:=by rw[hV k hk1];rfl
    have e:(List.take 2 (List.drop (k*2) [.str (W 0).1,.str (W 0).2,.str (W 1).1,.str (W 1).2,.str (W 2).1,.str (W 2).2,.str (W 3).1,.str (W 3).2]):List D)=[.str (W k).1,.str (W k).2]:=jcD W 4 k hk1
    have gak:=fi k hk1
    have vlk:=vl k hk1
    have hPk:=hPD k
    have etk:List.take ([e0,e1,e2]:List Int).length (atK [e0,e1,e2] O k)=atK [e0,e1,e2] O k:=jjr (by rw[hal k];exact jiL _)
    rw[← etk] at gak
    have lek:=le k hk1
    have suk:=su k hk1
    have hbk:=hb k hk1
    rw[hmin] at hlat
    rw[hmin]
    (conv=>whnf)
    (try simp only[jh0])
    repeat ((first|refine V.s1 ?_|((try ((with_reducible refine .ext ?_);(conv=>whnf);(try simp only[jh0])));(with_reducible refine jaa (r:=?_) ?_ ?_);rotate_left;(focus (first|fail));(conv=>whnf))|((simp only[e]);(conv=>whnf)));(try simp only[jh0]))
    refine .inl ?_
    (conv=>whnf)
    refine⟨0,_,_,⟨Tryz.func20,rfl,rfl,jiE rfl⟩,?_⟩
    refine V.r1 jh0 ck ?_
    refine .len ?_
    (conv=>whnf)
    refine⟨18,?_⟩
    (conv=>whnf)
    refine jaa (r:=?_) ?_ ?_
    rotate_left
    (focus exact gak)
    refine V.r1 (V.a2 jh0 hVl) vlk ?_
    refine⟨Pq11z,[],V.pok,?_⟩
    refine jab [(140,.bool false)] [] ?_ ?_
    ·exact V.d2 (V.a2 jh0 hVl) zf lek
    refine V.r1 jh0 suk ?_
    refine jac (0:Nat) (fun i=>i≤3) (fun i=>3-i) (fun i=>[(146,.int .i64 (i:Nat))]) (fun i=>[(88,.box (wce (fun i=>PL (k+1) i) i++List.drop (2*i) (wce (fun i=>PL k i) 3)))]) ?_ ?_ ?_
    ·exact V.wk
    ·exact jiF _
    intro i hi
    have hi4:i=0∨i=1∨i=2∨i=3:=by omega
    rcases hi4 with e|e|e|e
    all_goals subst e
    ·simp only[k0]
     have c1:=af k 0 hk1 (by omega)
     have c2:=ta k 0 hk1 (by omega)
     have c3:=pa k 0 hk1 (by omega)
     have hbi:=hbk 0
     refine V.r0 jh0 ?_
     refine⟨Pq13z,[],V.pok,?_⟩
     refine jab [] [(88,.box [.str (PL (k+1) 0).1,.str (PL (k+1) 0).2,.str (PL k 1).1,.str (PL k 1).2,.str (PL k 2).1,.str (PL k 2).2])] ?_ ?_
     ·exact V.d3 jh0 c1 c2 c3
     refine V.r0 jh0 ?_
     exact⟨1,by omega,by omega,V.wk⟩
    ·simp only[k1]
     have c1:=af k 1 hk1 (by omega)
     have c2:=ta k 1 hk1 (by omega)
     have c3:=pa k 1 hk1 (by omega)
     have hbi:=hbk 1
     refine V.r0 jh0 ?_
     refine⟨Pq13z,[],V.pok,?_⟩
     refine jab [] [(88,.box [.str (PL (k+1) 0).1,.str (PL (k+1) 0).2,.str (PL (k+1) 1).1,.str (PL (k+1) 1).2,.str (PL k 2).1,.str (PL k 2).2])] ?_ ?_
     ·exact V.d3 jh0 c1 c2 c3
     refine V.r0 jh0 ?_
     exact⟨2,by omega,by omega,V.wk⟩
    ·simp only[k2]
     have c1:=af k 2 hk1 (by omega)
     have c2:=ta k 2 hk1 (by omega)
     have c3:=pa k 2 hk1 (by omega)
     have hbi:=hbk 2
     refine V.r0 jh0 ?_
     refine⟨Pq13z,[],V.pok,?_⟩
     refine jab [] [(88,.box [.str (PL (k+1) 0).1,.str (PL (k+1) 0).2,.str (PL (k+1) 1).1,.str (PL (k+1) 1).2,.str (PL (k+1) 2).1,.str (PL (k+1) 2).2])] ?_ ?_
     ·exact V.d3 jh0 c1 c2 c3
     refine V.r0 jh0 ?_
     exact⟨3,by omega,by omega,V.wk⟩
    ·simp only[k3]
     refine V.r0 jh0 ?_
     refine jac (0:Nat) (fun i=>i≤3) (fun i=>3-i) (fun i=>[(167,.int .i64 (i:Nat))]) (fun i=>[(91,.box (wce (fun i=>MN (k+1) i) i++List.drop (2*i) (wce (fun i=>MN k i) 3)))]) ?_ ?_ ?_
     ·exact V.wk
     ·exact jiF _
     intro i hi
     have hi4:i=0∨i=1∨i=2∨i=3:=by omega
     rcases hi4 with e|e|e|e
     all_goals subst e
     ·simp only[k0]
      have c1:=vf k 0 hk1 (by omega)
      have c2:=tv k 0 hk1 (by omega)
      have c3:=pm k 0 hk1 (by omega)
      refine V.r0 jh0 ?_
      refine⟨Pq13z,[],V.pok,?_⟩
      refine jab [] [(91,.box [.str (MN (k+1) 0).1,.str (MN (k+1) 0).2,.str (MN k 1).1,.str (MN k 1).2,.str (MN k 2).1,.str (MN k 2).2])] ?_ ?_
      ·exact V.d3 (V.a2 jh0 hVl) c1 c2 c3
      refine V.r0 jh0 ?_
      exact⟨1,by omega,by omega,V.wk⟩
     ·simp only[k1]
      have c1:=vf k 1 hk1 (by omega)
      have c2:=tv k 1 hk1 (by omega)
      have c3:=pm k 1 hk1 (by omega)
      refine V.r0 jh0 ?_
      refine⟨Pq13z,[],V.pok,?_⟩
      refine jab [] [(91,.box [.str (MN (k+1) 0).1,.str (MN (k+1) 0).2,.str (MN (k+1) 1).1,.str (MN (k+1) 1).2,.str (MN k 2).1,.str (MN k 2).2])] ?_ ?_
      ·exact V.d3 (V.a2 jh0 hVl) c1 c2 c3
      refine V.r0 jh0 ?_
      exact⟨2,by omega,by omega,V.wk⟩
     ·simp only[k2]
      have c1:=vf k 2 hk1 (by omega)
      have c2:=tv k 2 hk1 (by omega)
      have c3:=pm k 2 hk1 (by omega)
      refine V.r0 jh0 ?_
      refine⟨Pq13z,[],V.pok,?_⟩
      refine jab [] [(91,.box [.str (MN (k+1) 0).1,.str (MN (k+1) 0).2,.str (MN (k+1) 1).1,.str (MN (k+1) 1).2,.str (MN (k+1) 2).1,.str (MN (k+1) 2).2])] ?_ ?_
      ·exact V.d3 (V.a2 jh0 hVl) c1 c2 c3
      refine V.r0 jh0 ?_
      exact⟨3,by omega,by omega,V.wk⟩
     ·simp only[k3]
      refine V.r0 (V.a2 jh0 hOl) ?_
      refine V.br (fun h2=>?_) (fun h2=>?_)
      ·simp only[decide_eq_true_eq] at h2
       have hk2:k<3:=by omega
       have hqk:=hq k hk2
       have hbq:=hbk (O.getD k 0).toNat
       have eAt:(atK [e0,e1,e2] O k).set (O.getD k 0).toNat ((atK [e0,e1,e2] O k).getD (O.getD k 0).toNat 0+1)=atK [e0,e1,e2] O (min (k+1) 3):=by
        rw[show min (k+1) 3=k+1 by omega]
        rfl
       refine V.r0 jh0 ?_
       refine Cnd.split (CondB.mk (fun h=>absurd h (by rw[jiT,decide_eq_true_eq,decide_eq_true_eq];(try simp only[jjq,List.length_nil]);omega)) (fun _=>?_))
       refine V.r0 (V.a2 jh0 eAt) ?_
       exact⟨k+1,by omega,by omega,V.wk⟩
      ·simp only[decide_eq_false_iff_not] at h2
       have hm2:min (k+1) 3=k:=by omega
       refine V.r0 jh0 ?_
       refine⟨k+1,by omega,by omega,?_⟩
       simp only[hm2]
       exact V.wk
   ·simp only[decide_eq_false_iff_not] at h
    have hk1:k=4:=by omega
    subst hk1
    rw[show min 4 3=3 from rfl,hend]
    simp only[hy]
    refine V.r0 jh0 ?_
    refine jac (0:Nat) (fun i=>i≤3) (fun i=>3-i) (fun i=>[(216,.int .i64 (i:Nat))]) (fun _=>[]) ?_ ?_ ?_
    ·exact V.wk
    ·exact jiF _
    intro i hi
    have hi4:i=0∨i=1∨i=2∨i=3:=by omega
    rcases hi4 with e|e|e|e
    all_goals subst e
    ·simp only[k0]
     have c1:=xf 0 (by omega)
     have c2:=tx 0 (by omega)
     refine V.r0 jh0 ?_
     refine⟨Pq5z,[],V.pok,?_⟩
     refine jab [(247,.bool false)] [] ?_ ?_
     ·(conv=>whnf);(try simp only[jit,decide_true,jiV,jjb,Bool.not_true,ne_eq,not_true_eq_false,decide_false,Bool.or_self])
      repeat' (first|exact V.wk|((with_reducible refine And.intro ?_ jay);(conv=>whnf);(try simp only[jit,decide_true,jiV,jjb,Bool.not_true,ne_eq,not_true_eq_false,decide_false,Bool.or_self]))|((with_reducible first|refine jaq ?_ ?_|refine jau ?_ ?_)<;>(conv=>whnf);(try simp only[jit,decide_true,jiV,jjb,Bool.not_true,ne_eq,not_true_eq_false,decide_false,Bool.or_self]))|((first|refine V.s1 ?_|((with_reducible refine jak ?_ ?_);(focus ((conv=>whnf);(try simp only[jit,decide_true,jiV,jjb,Bool.not_true,ne_eq,not_true_eq_false,decide_false,Bool.or_self]);(repeat ((first|refine V.s1 ?_);(try simp only[jit,decide_true,jiV,jjb,Bool.not_true,ne_eq,not_true_eq_false,decide_false,Bool.or_self])));exact⟨rfl⟩));(conv=>whnf))|((try ((with_reducible refine .ext ?_);(conv=>whnf);(try simp only[jit,decide_true,jiV,jjb,Bool.not_true,ne_eq,not_true_eq_false,decide_false,Bool.or_self])));(with_reducible refine jaa (r:=?_) ?_ ?_);rotate_left;(focus (first|exact(c1)|exact(c2)));(conv=>whnf)));(try simp only[jit,decide_true,jiV,jjb,Bool.not_true,ne_eq,not_true_eq_false,decide_false,Bool.or_self]))|(refine And.intro ?_ ?_<;>(conv=>whnf);(try simp only[jit,decide_true,jiV,jjb,Bool.not_true,ne_eq,not_true_eq_false,decide_false,Bool.or_self])))
     refine V.r0 jh0 ?_
     exact⟨1,by omega,by omega,V.wk⟩
    ·simp only[k1]
     have c1:=xf 1 (by omega)
     have c2:=tx 1 (by omega)
     refine V.r0 jh0 ?_
     refine⟨Pq5z,[],V.pok,?_⟩
     refine jab [(247,.bool false)] [] ?_ ?_
     ·(conv=>whnf);(try simp only[jit,decide_true,jiV,jjb,Bool.not_true,ne_eq,not_true_eq_false,decide_false,Bool.or_self])
      repeat' (first|exact V.wk|((with_reducible refine And.intro ?_ jay);(conv=>whnf);(try simp only[jit,decide_true,jiV,jjb,Bool.not_true,ne_eq,not_true_eq_false,decide_false,Bool.or_self]))|((with_reducible first|refine jaq ?_ ?_|refine jau ?_ ?_)<;>(conv=>whnf);(try simp only[jit,decide_true,jiV,jjb,Bool.not_true,ne_eq,not_true_eq_false,decide_false,Bool.or_self]))|((first|refine V.s1 ?_|((with_reducible refine jak ?_ ?_);(focus ((conv=>whnf);(try simp only[jit,decide_true,jiV,jjb,Bool.not_true,ne_eq,not_true_eq_false,decide_false,Bool.or_self]);(repeat ((first|refine V.s1 ?_);(try simp only[jit,decide_true,jiV,jjb,Bool.not_true,ne_eq,not_true_eq_false,decide_false,Bool.or_self])));exact⟨rfl⟩));(conv=>whnf))|((try ((with_reducible refine .ext ?_);(conv=>whnf);(try simp only[jit,decide_true,jiV,jjb,Bool.not_true,ne_eq,not_true_eq_false,decide_false,Bool.or_self])));(with_reducible refine jaa (r:=?_) ?_ ?_);rotate_left;(focus (first|exact(c1)|exact(c2)));(conv=>whnf)));(try simp only[jit,decide_true,jiV,jjb,Bool.not_true,ne_eq,not_true_eq_false,decide_false,Bool.or_self]))|(refine And.intro ?_ ?_<;>(conv=>whnf);(try simp only[jit,decide_true,jiV,jjb,Bool.not_true,ne_eq,not_true_eq_false,decide_false,Bool.or_self])))
     refine V.r0 jh0 ?_
     exact⟨2,by omega,by omega,V.wk⟩
    ·simp only[k2]
     have c1:=xf 2 (by omega)
     have c2:=tx 2 (by omega)
     refine V.r0 jh0 ?_
     refine⟨Pq5z,[],V.pok,?_⟩
     refine jab [(247,.bool false)] [] ?_ ?_
     ·(conv=>whnf);(try simp only[jit,decide_true,jiV,jjb,Bool.not_true,ne_eq,not_true_eq_false,decide_false,Bool.or_self])
      repeat' (first|exact V.wk|((with_reducible refine And.intro ?_ jay);(conv=>whnf);(try simp only[jit,decide_true,jiV,jjb,Bool.not_true,ne_eq,not_true_eq_false,decide_false,Bool.or_self]))|((with_reducible first|refine jaq ?_ ?_|refine jau ?_ ?_)<;>(conv=>whnf);(try simp only[jit,decide_true,jiV,jjb,Bool.not_true,ne_eq,not_true_eq_false,decide_false,Bool.or_self]))|((first|refine V.s1 ?_|((with_reducible refine jak ?_ ?_);(focus ((conv=>whnf);(try simp only[jit,decide_true,jiV,jjb,Bool.not_true,ne_eq,not_true_eq_false,decide_false,Bool.or_self]);(repeat ((first|refine V.s1 ?_);(try simp only[jit,decide_true,jiV,jjb,Bool.not_true,ne_eq,not_true_eq_false,decide_false,Bool.or_self])));exact⟨rfl⟩));(conv=>whnf))|((try ((with_reducible refine .ext ?_);(conv=>whnf);(try simp only[jit,decide_true,jiV,jjb,Bool.not_true,ne_eq,not_true_eq_false,decide_false,Bool.or_self])));(with_reducible refine jaa (r:=?_) ?_ ?_);rotate_left;(focus (first|exact(c1)|exact(c2)));(conv=>whnf)));(try simp only[jit,decide_true,jiV,jjb,Bool.not_true,ne_eq,not_true_eq_false,decide_false,Bool.or_self]))|(refine And.intro ?_ ?_<;>(conv=>whnf);(try simp only[jit,decide_true,jiV,jjb,Bool.not_true,ne_eq,not_true_eq_false,decide_false,Bool.or_self])))
     refine V.r0 jh0 ?_
     exact⟨3,by omega,by omega,V.wk⟩
    ·simp only[k3]
     refine V.r0 jh0 ?_
     refine⟨Pq81z,[],V.pok,?_⟩
     refine jab [(4,.bool true),(15,.any),(91,.any),(102,.any),(165,.any),(170,.any),(172,.any),(184,.any)] [(91,.gone)] ?_ ?_
     ·exact V.d2 (V.a4 jit @decide_true @jiV @jjb) o1 eq
     refine V.r0 jh0 ?_
     exact Fin.of rfl
end Go.Proofs.YtgjgpdceghjajaaGreatDoor
end
section
namespace Go.Proofs.YtgjgpdceghjajaaGreatDoor
open Go Go.V Go.Nb
def frT_o (x:Rat):D := .agg [.str (decZ x.num),.str (dec x.den)]
def fl (q:Rat):Int:=q.num/(q.den:Int)
def gtr (m x:Rat):Rat:=if m<x then x else m
theorem ordQ_lt {x y:Rat} : ordQ x y<0↔x<y:=by
 unfold ordQ
 by_cases a:x<y
 ·rw[if_pos a];exact⟨fun _=>a,fun _=>by omega⟩
 ·rw[if_neg a]
  by_cases b:x=y
  ·rw[if_pos b];exact⟨fun h=>by omega,fun h=>absurd h a⟩
  ·rw[if_neg b];exact⟨fun h=>by omega,fun h=>absurd h a⟩
theorem ordQ_gt {x y:Rat} : ordQ x y>0↔y<x:=by
 unfold ordQ
 by_cases a:x<y
 ·rw[if_pos a];exact⟨fun h=>by omega,fun h=>absurd h (Rat.not_lt.2 (Rat.le_of_lt a))⟩
 ·rw[if_neg a]
  by_cases b:x=y
  ·rw[if_pos b,b];exact⟨fun h=>by omega,fun h=>absurd h (Rat.lt_irrefl)⟩
  ·rw[if_neg b];exact⟨fun _=>Rat.lt_of_le_of_ne (Rat.not_lt.1 a) (Ne.symm b),fun _=>by omega⟩
def hasR (x:Rat)(p q:Int):Bool:=decide (ordQ x (unit p)≥0) && decide (ordQ x (unit q)≤0)
theorem jgU (n d:Int)(hd:0<d):(Rat.divInt n d).num*d=n*((Rat.divInt n d).den:Int):=by
 have h:=(Rat.divInt n d).den_pos
 rw[← Rat.divInt_eq_divInt_iff (by omega) (by omega),jjc]
theorem divInt_lt' (n d:Int)(hd:0<d)(x:Rat):Rat.divInt n d<x↔n*x.den<x.num*d:=by
 have e:=jgU n d hd
 have hb:(0:Int)<((Rat.divInt n d).den:Int):=by have:=(Rat.divInt n d).den_pos;omega
 rw[Rat.lt_iff]
 generalize (Rat.divInt n d).num=a at *
 generalize ((Rat.divInt n d).den:Int)=b at *
 have e1:a*x.den*d=n*x.den*b:=by
  rw[Int.mul_right_comm,e,Int.mul_right_comm]
 have e2:x.num*b*d=x.num*d*b:=by rw[Int.mul_right_comm]
 constructor
 ·intro h
  have:=Int.mul_lt_mul_of_pos_right h hd
  rw[e1,e2] at this
  exact Int.lt_of_mul_lt_mul_right this (by omega)
 ·intro h
  have:=Int.mul_lt_mul_of_pos_right h hb
  rw[← e1,← e2] at this
  exact Int.lt_of_mul_lt_mul_right this (by omega)
theorem divInt_eq' (n d:Int)(hd:0<d)(x:Rat):x=Rat.divInt n d↔x.num*d=n*x.den:=by
 have hp:=x.den_pos
 conv=>lhs;rw[← jjc x]
 exact Rat.divInt_eq_divInt_iff (by omega) (by omega)
theorem ord_ge (x y:Rat):ordQ x y≥0 ↔ ¬ x<y:=by
 have:=ordQ_lt (x:=x) (y:=y)
 constructor
 ·intro h h2;have:=this.2 h2;omega
 ·intro h
  rcases Int.lt_or_le (ordQ x y) 0 with h2|h2
  ·exact absurd (this.1 h2) h
  ·exact h2
theorem ord_le (x y:Rat):ordQ x y≤0 ↔ ¬ y<x:=by
 have:=ordQ_gt (x:=x) (y:=y)
 constructor
 ·intro h h2;have:=this.2 h2;omega
 ·intro h
  rcases Int.lt_or_le 0 (ordQ x y) with h2|h2
  ·exact absurd (this.1 h2) h
  ·exact h2
theorem jfK (m:Int)(x:Rat):unit m<x↔m*x.den<x.num*1000000000000:=divInt_lt' m _ (by decide) x
theorem jfL (m:Int)(x:Rat):x=unit m↔x.num*1000000000000=m*x.den:=divInt_eq' m _ (by decide) x
theorem jhx (m:Int)(x:Rat):x<unit m↔x.num*1000000000000<m*x.den:=by
 have h1:=jfK m x
 have h2:=jfL m x
 constructor
 ·intro h
  have a1:¬ unit m<x:=Rat.not_lt.2 (Rat.le_of_lt h)
  have a2:¬ x=unit m:=Rat.ne_of_lt h
  rw[h1] at a1
  rw[h2] at a2
  omega
 ·intro h
  have a1:¬ unit m<x:=fun g=>by have:=h1.1 g;omega
  have a2:¬ x=unit m:=fun g=>by have:=h2.1 g;omega
  exact Rat.lt_of_le_of_ne (Rat.not_lt.1 a1) a2
theorem jga (x:Rat)(p q:Int):hasR x p q=true↔p*x.den≤x.num*1000000000000∧x.num*1000000000000≤q*x.den:=by
 unfold hasR
 rw[jiD,decide_eq_true_eq,decide_eq_true_eq,ord_ge,ord_le,jhx,jfK]
 omega
theorem jhw (x:Rat):2*(nearZ x 1000000000000*x.den)≤2*(x.num*1000000000000)+x.den∧2*(x.num*1000000000000)+x.den<2*(nearZ x 1000000000000*x.den)+2*x.den:=by
 have hp:=x.den_pos
 unfold nearZ
 have h1:=jiG (x.num*((1000000000000*2:Nat):Int)+x.den) ((x.den*2:Nat):Int)
 have h2:=Int.emod_nonneg (x.num*((1000000000000*2:Nat):Int)+x.den) (show ((x.den*2:Nat):Int)≠0 by omega)
 have h3:=ji4 (x.num*((1000000000000*2:Nat):Int)+x.den) (show 0<((x.den*2:Nat):Int) by omega)
 generalize (x.num*((1000000000000*2:Nat):Int)+x.den)%((x.den*2:Nat):Int)=r at *
 generalize (x.num*((1000000000000*2:Nat):Int)+x.den)/((x.den*2:Nat):Int)=n at *
 have e:((x.den*2:Nat):Int)*n=2*(n*x.den):=by
  rw[show ((x.den*2:Nat):Int)=2*(x.den:Int) by omega,jiZ,jiY (x.den:Int) n]
 rw[e] at h1
 generalize n*(x.den:Int)=y at *
 omega
theorem near_le (x:Rat)(K:Int)(h : -(K*x.den)≤x.num∧x.num≤K*x.den) : -(K*1000000000000)-1≤nearZ x 1000000000000∧nearZ x 1000000000000≤K*1000000000000+1:=by
 have hp:=x.den_pos
 obtain⟨b1,b2⟩:=jhw x
 generalize nearZ x 1000000000000=n at *
 have e:K*1000000000000*(x.den:Int)=1000000000000*(K*x.den):=by rw[Int.mul_right_comm,jiY]
 constructor
 ·rcases Int.lt_or_le n (-(K*1000000000000)-1) with g|g
  ·exfalso
   have:=jiP (show n ≤ -(K*1000000000000)-2 by omega) (show (0:Int)≤x.den by omega)
   rw[Int.sub_mul,Int.neg_mul,e] at this
   omega
  ·exact g
 ·rcases Int.lt_or_le (K*1000000000000+1) n with g|g
  ·exfalso
   have:=jiP (show K*1000000000000+2≤n by omega) (show (0:Int)≤x.den by omega)
   rw[ji7,e] at this
   omega
  ·exact g
theorem around_law (x:Rat)(h : -999999999999999999≤nearZ x 1000000000000∧nearZ x 1000000000000≤999999999999999999) :
  ∃ p q,jde x=(p,q,0)∧vb p q=true∧q-p≤1∧hasR x p q=true∧(p=q↔unit p=x):=by
 have hp:=x.den_pos
 obtain⟨b1,b2⟩:=jhw x
 unfold jde
 rw[if_pos (jbD.2 (by omega))]
 generalize nearZ x 1000000000000=n at *
 have l1:=jhx n x
 have l2:=jfK n x
 have e1:(n + -1)*(x.den:Int)=n*x.den-x.den:=by rw[ji7];omega
 have e2:(n+1)*(x.den:Int)=n*x.den+x.den:=by rw[ji7];omega
 by_cases g1:x<unit n
 ·have o:ordQ x (unit n) = -1:=by unfold ordQ;rw[if_pos g1]
  rw[o,show min (-1:Int) 0 = -1 from rfl,show max (-1:Int) 0=0 from rfl,mk_ok (by omega),ji5]
  have:=l1.1 g1
  refine⟨_,_,rfl,jbD.2 (by omega),by omega,(jga _ _ _).2 (by rw[e1];omega),⟨fun h=>by omega,fun h=>?_⟩⟩
  have:=(jfL (n + -1) x).1 h.symm
  rw[e1] at this
  omega
 ·by_cases g2:x=unit n
  ·have o:ordQ x (unit n)=0:=by unfold ordQ;rw[if_neg g1,if_pos g2]
   rw[o,show min (0:Int) 0=0 from rfl,show max (0:Int) 0=0 from rfl,mk_ok (by omega),ji5]
   have:=(jfL n x).1 g2
   exact⟨_,_,rfl,jbD.2 (by omega),by omega,(jga _ _ _).2 (by omega),⟨fun _=>g2.symm,fun _=>rfl⟩⟩
  ·have o:ordQ x (unit n)=1:=by unfold ordQ;rw[if_neg g1,if_neg g2]
   rw[o,show min (1:Int) 0=0 from rfl,show max (1:Int) 0=1 from rfl,mk_ok (by omega),ji5]
   have h3:unit n<x:=Rat.lt_of_le_of_ne (Rat.not_lt.1 g1) (Ne.symm g2)
   have:=l2.1 h3
   exact⟨_,_,rfl,jbD.2 (by omega),by omega,(jga _ _ _).2 (by rw[e2];omega),⟨fun h=>by omega,fun h=>absurd h.symm g2⟩⟩
theorem near_unit (m:Int):nearZ (unit m) 1000000000000=m:=by
 obtain⟨b1,b2⟩:=jhw (unit m)
 have h:=(jfL m (unit m)).1 rfl
 have hp:=(unit m).den_pos
 generalize nearZ (unit m) 1000000000000=n at *
 rw[h] at b1 b2
 generalize (unit m).den=d at *
 rcases Int.lt_trichotomy n m with g|g|g
 ·exfalso
  have:=jiP (show n+1≤m by omega) (show (0:Int)≤d by omega)
  rw[ji7] at this
  omega
 ·exact g
 ·exfalso
  have:=jiP (show m+1≤n by omega) (show (0:Int)≤d by omega)
  rw[ji7] at this
  omega
theorem je7 (m:Int)(h:vb m m=true):jde (unit m)=(m,m,0):=by
 unfold jde
 rw[near_unit,if_pos h,show ordQ (unit m) (unit m)=0 by unfold ordQ;rw[if_neg Rat.lt_irrefl,if_pos rfl]]
 rw[show min (0:Int) 0=0 from rfl,show max (0:Int) 0=0 from rfl,ji5]
 unfold mk
 rw[if_pos h]
def flU (x:Rat):Int:=(x*1000000000000).floor
def clU (x:Rat):Int := -((-(x*1000000000000)).floor)
theorem jgl (m:Int):unit m=(m:Rat)/1000000000000:=by
 unfold unit
 rw[Rat.divInt_eq_div]
 rfl
theorem jes {x:Rat}{m:Int} : unit m≤x↔(m:Rat)≤x*1000000000000:=by
 rw[jgl]
 constructor<;>intro h<;>grind
theorem jeI {x:Rat}{m:Int} : x≤unit m↔x*1000000000000≤(m:Rat):=by
 rw[jgl]
 constructor<;>intro h<;>grind
theorem jfx {x:Rat}{m:Int} : m≤flU x↔(m:Rat)≤x*1000000000000:=Rat.le_floor_iff
theorem jfB {x:Rat}{m:Int} : clU x≤m↔x*1000000000000≤(m:Rat):=by
 unfold clU
 have:=Rat.le_floor_iff (x := -m) (a := -(x*1000000000000))
 rw[Rat.intCast_neg] at this
 constructor
 ·intro h
  have:=this.1 (by omega)
  grind
 ·intro h
  have:=this.2 (by grind)
  omega
theorem flU_mono {x y:Rat}(h:x≤y):flU x≤flU y:=jfx.2 (by
 have:=jfx.1 (Int.le_refl (flU x))
 grind)
theorem clU_mono {x y:Rat}(h:x≤y):clU x≤clU y:=jfB.2 (by
 have:=jfB.1 (Int.le_refl (clU y))
 grind)
theorem fl_cl {x y:Rat}(h:x≤y):flU x≤clU y:=by
 have h1:=jfx.1 (Int.le_refl (flU x))
 have h2:=jfB.1 (Int.le_refl (clU y))
 have h3:((flU x:Int):Rat)≤((clU y:Int):Rat):=by grind
 exact Rat.intCast_le_intCast.1 h3
theorem around_fl {x:Rat}(h : -100000≤x∧x≤100000):jde x=(flU x,clU x,0)∧(-100000000000000001≤nearZ x 1000000000000∧nearZ x 1000000000000≤100000000000000001):=by
 have hd:=x.den_pos
 have k1:x.num≤100000*x.den:=by
  have:=(Rat.le_iff (a:=x) (b:=100000)).1 h.2
  rw[show (100000:Rat).num=100000 from rfl,show (100000:Rat).den=1 from rfl] at this
  omega
 have k2 : -(100000*(x.den:Int))≤x.num:=by
  have:=(Rat.le_iff (a := -100000) (b:=x)).1 h.1
  rw[show (-100000:Rat).num = -100000 from rfl,show (-100000:Rat).den=1 from rfl] at this
  omega
 have nl:=near_le x 100000 ⟨k2,k1⟩
 refine⟨?_,by omega⟩
 obtain⟨p,q,e,hv,hq,hh,hu⟩:=around_law x (by omega)
 have hb:=(jga x p q).1 hh
 have p1:unit p≤x:=Rat.not_lt.1 fun g=>by have:=(jhx p x).1 g;omega
 have q1:x≤unit q:=Rat.not_lt.1 fun g=>by have:=(jfK q x).1 g;omega
 have vi:=jbD.1 hv
 have f1:p≤flU x:=jfx.2 (jes.1 p1)
 have c1:clU x≤q:=jfB.2 (jeI.1 q1)
 have f2:flU x≤p:=by
  have g1:=jfx.1 (Int.le_refl (flU x))
  rcases Int.lt_or_le p (flU x) with g|g
  ·have e2:flU x≤q:=Int.le_trans (fl_cl Rat.le_refl) c1
   have e3:flU x=q:=by omega
   have e4:unit q=x:=Rat.le_antisymm (jes.2 (by rw[← e3];exact g1)) q1
   have e5:=je7 q (jbD.2 (by omega))
   rw[e4,e] at e5
   have:p=q:=congrArg Prod.fst e5
   omega
  ·exact g
 have c2:q≤clU x:=by
  have g1:=jfB.1 (Int.le_refl (clU x))
  rcases Int.lt_or_le (clU x) q with g|g
  ·have e2:p≤clU x:=Int.le_trans f1 (fl_cl Rat.le_refl)
   have e3:clU x=p:=by omega
   have e4:unit p=x:=Rat.le_antisymm p1 (jeI.2 (by rw[← e3];exact g1))
   have e5:=je7 p (jbD.2 (by omega))
   rw[e4,e] at e5
   have:q=p:=congrArg (fun r=>r.2.1) e5
   omega
  ·exact g
 rw[e,show p=flU x from by omega,show q=clU x from by omega]
theorem jen {n:Nat}{x:Rat}(h:Fq n x)(h0:0<n∧n≤600)(hb : -100000≤x∧x≤100000):Cl 102 [frT x] (.tup [.agg [.int .i64 (flU x),.int .i64 (clU x)],.int .i64 0]):=by
 have o:=jaL (h.ok h0.1 h0.2)
 have a:=around_fl hb
 have c:=around_b (decZ x.num) (dec x.den) o.1 (by rw[o.2];omega)
 rw[o.2,a.1] at c
 exact c
def preI (k:Nat)(l:List D):List D:=l.take k++List.replicate (l.length-k) (.int .i64 0)
theorem jij:type_of% @jiI∧type_of% @tn0∧type_of% @tn1∧type_of% @tn2∧type_of% @tn3∧type_of% @xt4:=⟨@jiI,@tn0,@tn1,@tn2,@tn3,@xt4⟩
theorem blist2a {F:Nat}{e0 n0:Nat}{f0:Nat→List D}(T:Nat→Int×Int)(c0:Cl F (.int .i64 0::[.ref [.slf e0 n0 f0]]) (.tup [.agg [.int .i64 (T 0).1,.int .i64 (T 0).2],.int .i64 0]))(c1:Cl F (.int .i64 1::[.ref [.slf e0 n0 f0]]) (.tup [.agg [.int .i64 (T 1).1,.int .i64 (T 1).2],.int .i64 0])) :
  Cl 55 [.int .i64 2,.fn F [] [.ref [.slf e0 n0 f0]]] (.tup [V.sl2 2 [.int .i64 (T 0).1,.int .i64 (T 0).2,.int .i64 (T 1).1,.int .i64 (T 1).2],.int .i64 0]):=by
 refine V.en tbOk Tryz.func55 ?_
 refine V.r0 @jiI ?_
 refine jac (0) (fun k=>k≤2) (fun k=>2-k) (fun k=>[(14,.int .i64 k)]) (fun k=>[(11,.box (preI (2*k) [.int .i64 (T 0).1,.int .i64 (T 0).2,.int .i64 (T 1).1,.int .i64 (T 1).2]))]) ?_ ?_ ?_
 ·exact V.wk
 ·exact jiF _
 intro k hk
 have hk4:k=0∨k=1∨k=2:=by omega
 rcases hk4 with e|e|e
 all_goals subst e
 ·simp only[k0]
  refine V.r1 jij c0 ?_
  exact⟨1,by omega,by omega,V.wk⟩
 ·simp only[k1]
  refine V.r1 jij c1 ?_
  exact⟨2,by omega,by omega,V.wk⟩
 ·simp only[k2]
  refine V.r0 @jiI ?_
  exact Fin.of rfl
theorem blist4b {F:Nat}{p0 p1 p2 p3 q0 q1 q2 q3:List UInt8}(T:Nat→Int×Int)(c0:Cl F (.int .i64 0::[.ref [.str p0,.str q0],.ref [.str p1,.str q1],.ref [.str p2,.str q2],.ref [.str p3,.str q3]]) (.tup [.agg [.int .i64 (T 0).1,.int .i64 (T 0).2],.int .i64 0]))(c1:Cl F (.int .i64 1::[.ref [.str p0,.str q0],.ref [.str p1,.str q1],.ref [.str p2,.str q2],.ref [.str p3,.str q3]]) (.tup [.agg [.int .i64 (T 1).1,.int .i64 (T 1).2],.int .i64 0]))(c2:Cl F (.int .i64 2::[.ref [.str p0,.str q0],.ref [.str p1,.str q1],.ref [.str p2,.str q2],.ref [.str p3,.str q3]]) (.tup [.agg [.int .i64 (T 2).1,.int .i64 (T 2).2],.int .i64 0]))(c3:Cl F (.int .i64 3::[.ref [.str p0,.str q0],.ref [.str p1,.str q1],.ref [.str p2,.str q2],.ref [.str p3,.str q3]]) (.tup [.agg [.int .i64 (T 3).1,.int .i64 (T 3).2],.int .i64 0])) :
  Cl 55 [.int .i64 4,.fn F [] [.ref [.str p0,.str q0],.ref [.str p1,.str q1],.ref [.str p2,.str q2],.ref [.str p3,.str q3]]] (.tup [V.sl2 4 [.int .i64 (T 0).1,.int .i64 (T 0).2,.int .i64 (T 1).1,.int .i64 (T 1).2,.int .i64 (T 2).1,.int .i64 (T 2).2,.int .i64 (T 3).1,.int .i64 (T 3).2],.int .i64 0]):=by
 refine V.en tbOk Tryz.func55 ?_
 refine V.r0 @jiI ?_
 refine jac (0) (fun k=>k≤4) (fun k=>4-k) (fun k=>[(14,.int .i64 k)]) (fun k=>[(11,.box (preI (2*k) [.int .i64 (T 0).1,.int .i64 (T 0).2,.int .i64 (T 1).1,.int .i64 (T 1).2,.int .i64 (T 2).1,.int .i64 (T 2).2,.int .i64 (T 3).1,.int .i64 (T 3).2]))]) ?_ ?_ ?_
 ·exact V.wk
 ·exact jiF _
 intro k hk
 have hk4:k=0∨k=1∨k=2∨k=3∨k=4:=by omega
 rcases hk4 with e|e|e|e|e
 all_goals subst e
 ·simp only[k0]
  refine V.r1 jij c0 ?_
  exact⟨1,by omega,by omega,V.wk⟩
 ·simp only[k1]
  refine V.r1 jij c1 ?_
  exact⟨2,by omega,by omega,V.wk⟩
 ·simp only[k2]
  refine V.r1 jij c2 ?_
  exact⟨3,by omega,by omega,V.wk⟩
 ·simp only[k3]
  refine V.r1 jij c3 ?_
  exact⟨4,by omega,by omega,V.wk⟩
 ·simp only[xk4]
  refine V.r0 @jiI ?_
  exact Fin.of rfl
theorem blist1c {F:Nat}{e0 n0 e1 n1 e2 n2:Nat}{f0 f1 f2:Nat→List D}{g0 g1:List Int}(T:Nat→Int×Int)(c0:Cl F (.int .i64 0::[.ref [.slf e0 n0 f0],.ref [.slf e1 n1 f1],.ref [.slf e2 n2 f2],.ref [.ints .i64 g0],.ref [.ints .i64 g1]]) (.tup [.agg [.int .i64 (T 0).1,.int .i64 (T 0).2],.int .i64 0])) :
  Cl 55 [.int .i64 1,.fn F [] [.ref [.slf e0 n0 f0],.ref [.slf e1 n1 f1],.ref [.slf e2 n2 f2],.ref [.ints .i64 g0],.ref [.ints .i64 g1]]] (.tup [V.sl2 1 [.int .i64 (T 0).1,.int .i64 (T 0).2],.int .i64 0]):=by
 refine V.en tbOk Tryz.func55 ?_
 refine V.r0 @jiI ?_
 refine jac (0) (fun k=>k≤1) (fun k=>1-k) (fun k=>[(14,.int .i64 k)]) (fun k=>[(11,.box (preI (2*k) [.int .i64 (T 0).1,.int .i64 (T 0).2]))]) ?_ ?_ ?_
 ·exact V.wk
 ·exact jiF _
 intro k hk
 have hk4:k=0∨k=1:=by omega
 rcases hk4 with e|e
 all_goals subst e
 ·simp only[k0]
  refine V.r1 jij c0 ?_
  exact⟨1,by omega,by omega,V.wk⟩
 ·simp only[k1]
  refine V.r0 @jiI ?_
  exact Fin.of rfl
theorem conf1_0 (p0 p1 p2 p3 q0 q1 q2 q3:List UInt8)(b:Int×Int)(c:Cl 102 [.agg [.str p0,.str q0]] (.tup [.agg [.int .i64 b.1,.int .i64 b.2],.int .i64 0])):Cl 101 (.int .i64 0::[.ref [.str p0,.str q0],.ref [.str p1,.str q1],.ref [.str p2,.str q2],.ref [.str p3,.str q3]]) (.tup [.agg [.int .i64 b.1,.int .i64 b.2],.int .i64 0]):=by
 refine V.en tbOk Tryz.func101 ?_
 refine V.r1 jij c ?_
 exact Fin.of rfl
theorem conf1_1 (p0 p1 p2 p3 q0 q1 q2 q3:List UInt8)(b:Int×Int)(c:Cl 102 [.agg [.str p1,.str q1]] (.tup [.agg [.int .i64 b.1,.int .i64 b.2],.int .i64 0])):Cl 101 (.int .i64 1::[.ref [.str p0,.str q0],.ref [.str p1,.str q1],.ref [.str p2,.str q2],.ref [.str p3,.str q3]]) (.tup [.agg [.int .i64 b.1,.int .i64 b.2],.int .i64 0]):=by
 refine V.en tbOk Tryz.func101 ?_
 refine V.r1 jij c ?_
 exact Fin.of rfl
theorem conf1_2 (p0 p1 p2 p3 q0 q1 q2 q3:List UInt8)(b:Int×Int)(c:Cl 102 [.agg [.str p2,.str q2]] (.tup [.agg [.int .i64 b.1,.int .i64 b.2],.int .i64 0])):Cl 101 (.int .i64 2::[.ref [.str p0,.str q0],.ref [.str p1,.str q1],.ref [.str p2,.str q2],.ref [.str p3,.str q3]]) (.tup [.agg [.int .i64 b.1,.int .i64 b.2],.int .i64 0]):=by
 refine V.en tbOk Tryz.func101 ?_
 refine V.r1 jij c ?_
 exact Fin.of rfl
theorem conf1_3 (p0 p1 p2 p3 q0 q1 q2 q3:List UInt8)(b:Int×Int)(c:Cl 102 [.agg [.str p3,.str q3]] (.tup [.agg [.int .i64 b.1,.int .i64 b.2],.int .i64 0])):Cl 101 (.int .i64 3::[.ref [.str p0,.str q0],.ref [.str p1,.str q1],.ref [.str p2,.str q2],.ref [.str p3,.str q3]]) (.tup [.agg [.int .i64 b.1,.int .i64 b.2],.int .i64 0]):=by
 refine V.en tbOk Tryz.func101 ?_
 refine V.r1 jij c ?_
 exact Fin.of rfl
theorem bands1_20 (X:Nat→Int×Int)(b:Int×Int)(c:Cl 57 [.agg [.int .i64 (X 0).1,.int .i64 (X 0).2],.int .i64 0,.int .i64 1000000000000] (.tup [.agg [.int .i64 b.1,.int .i64 b.2],.int .i64 0])):Cl 56 (.int .i64 0::[.ref [V.sl2 2 [.int .i64 (X 0).1,.int .i64 (X 0).2,.int .i64 (X 1).1,.int .i64 (X 1).2]]]) (.tup [.agg [.int .i64 b.1,.int .i64 b.2],.int .i64 0]):=by
 refine V.en tbOk Tryz.func56 ?_
 refine V.r1 jij c ?_
 exact Fin.of rfl
theorem bands1_21 (X:Nat→Int×Int)(b:Int×Int)(c:Cl 57 [.agg [.int .i64 (X 1).1,.int .i64 (X 1).2],.int .i64 0,.int .i64 1000000000000] (.tup [.agg [.int .i64 b.1,.int .i64 b.2],.int .i64 0])):Cl 56 (.int .i64 1::[.ref [V.sl2 2 [.int .i64 (X 0).1,.int .i64 (X 0).2,.int .i64 (X 1).1,.int .i64 (X 1).2]]]) (.tup [.agg [.int .i64 b.1,.int .i64 b.2],.int .i64 0]):=by
 refine V.en tbOk Tryz.func56 ?_
 refine V.r1 jij c ?_
 exact Fin.of rfl
def grd (data:List Int)(s z:Int)(a:Nat):Int:=(z-1)*max (data.getD ((a:Int)+s).toNat 0-data.getD a 0) (data.getD a 0-data.getD ((a:Int)+s).toNat 0)
def stp (data:List Int)(out s z:Int)(i:Nat)(w:Nat→List Int)(a:Nat)(r:Nat):List Int:=
 if (a:Int)/s%z=z-1 then w r else if (a:Int)%out=r then (w r).set i (max ((w r).getD i 0) (grd data s z a)) else w r
def inS (data:List Int)(out s z:Int)(i:Nat)(w:Nat→List Int):Nat→Nat→List Int
 | 0=>w
 | a+1=>stp data out s z i (inS data out s z i w a) a
def strd (zs:List Int)(out:Int):Nat→Int
 | 0=>out
 | k+1=>strd zs out k*zs.getD (zs.length-1-k) 0
def outS (zs data:List Int)(out:Int):Nat→Nat→List Int
 | 0=>fun _=>List.replicate zs.length 0
 | k+1=>inS data out (strd zs out k) (zs.getD (zs.length-1-k) 0) (zs.length-1-k) (outS zs data out k) data.length
def rowOk (n:Nat)(l:List Int):Prop:=l.length=n ∧ ∀ j,0≤l.getD j 0∧l.getD j 0≤600000
theorem grd_bd {data:List Int}{s z:Int}{a:Nat}(hd:∀ v∈data,0≤v∧v≤65535)(hz:2≤z∧z≤9):0≤grd data s z a∧grd data s z a≤600000:=by
 have h1:=jbK (p:=fun v=>0≤v∧v≤65535) hd (by omega) a
 have h2:=jbK (p:=fun v=>0≤v∧v≤65535) hd (by omega) ((a:Int)+s).toNat
 unfold grd
 generalize hx:max (data.getD ((a:Int)+s).toNat 0-data.getD a 0) (data.getD a 0-data.getD ((a:Int)+s).toNat 0)=x
 have hx2:0≤x∧x≤65535:=by omega
 constructor
 ·exact jiH (by omega) hx2.1
 ·have:=Int.mul_le_mul (show z-1≤8 by omega) hx2.2 hx2.1 (by omega)
  omega
theorem rowOk_set {n:Nat}{l:List Int}{i:Nat}{v:Int}(h:rowOk n l)(hv:0≤v∧v≤600000):rowOk n (l.set i v):=by
 refine⟨by rw[jjw];exact h.1,fun j=>?_⟩
 by_cases hi:i<l.length
 ·rw[jeO l i j v hi]
  split
  ·exact hv
  ·exact h.2 j
 ·rw[List.set_eq_of_length_le (by omega)]
  exact h.2 j
theorem inS_ok {data:List Int}{out s z:Int}{i n:Nat}{w:Nat→List Int}(hd:∀ v∈data,0≤v∧v≤65535)(hz:2≤z∧z≤9)(hw:∀ r,rowOk n (w r)):∀ a r,rowOk n (inS data out s z i w a r)
 | 0,r=>hw r
 | a+1,r=>by
  have h:=inS_ok (out:=out) (s:=s) (z:=z) (i:=i) hd hz hw a r
  have g:=grd_bd (s:=s) (a:=a) hd hz
  simp only[inS,stp]
  split
  ·exact h
  ·split
   ·refine rowOk_set h ?_
    have:=h.2 i
    omega
   ·exact h
theorem jcN {l:List Int}{p:Int→Prop}(h:∀ v∈l,p v){j:Nat}(hj:j<l.length):p (l.getD j 0):=by
 rw[jje,jjh hj]
 exact h _ (List.getElem_mem hj)
theorem jhq {zs data : List Int} {out : Int} (hd : ∀ v ∈ data, 0 ≤ v ∧ v ≤ 65535) (hz : ∀ z ∈ zs, 2 ≤ z ∧ z ≤ 9) : ∀ k, k ≤ zs.length → ∀ r, rowOk zs.length (outS zs data out k r)
  | 0, _, r => ⟨by simp [outS], fun j => by
      have := jbK (l := List.replicate zs.length (0 : Int)) (p := fun v => v = 0) (fun v hv => List.eq_of_mem_replicate hv) rfl j
      show 0 ≤ (List.replicate zs.length (0 : Int)).getD j 0 ∧ (List.replicate zs.length (0 : Int)).getD j 0 ≤ 600000
      omega⟩
  | k + 1, hk, r => inS_ok hd (jcN (l := zs) (p := fun z => 2 ≤ z ∧ z ≤ 9) hz (by omega)) (jhq hd hz k (by omega)) _ r
theorem strd_pos {zs:List Int}{out:Int}(ho:1≤out∧out≤4)(hz:∀ z∈zs,2≤z∧z≤9):∀ k,k≤zs.length→0<strd zs out k∧strd zs out k≤4*9^k
 | 0,_=>by simp only[strd];omega
 | k+1,hk=>by
  have h:=strd_pos ho hz k (by omega)
  have g:=jcN (p:=fun z=>2≤z∧z≤9) hz (j:=zs.length-1-k) (by omega)
  simp only[strd]
  constructor
  ·exact Int.mul_pos h.1 (by omega)
  ·have:=Int.mul_le_mul h.2 g.2 (by omega) (jiH (by decide) (Int.pow_nonneg (by decide)))
   rw[Int.pow_succ]
   omega
theorem jgn {zs:List Int}{out:Int} : ∀ k,k≤zs.length→prod zs*out=prod (zs.take (zs.length-k))*strd zs out k
 | 0,_=>by simp only[strd,Nat.sub_zero,jjA]
 | k+1,hk=>by
  have h:=jgn (zs:=zs) (out:=out) k (by omega)
  have e0:zs[zs.length-(k+1)]? = some (zs.getD (zs.length-1-k) 0):=by
   rw[show zs.length-1-k=zs.length-(k+1) from by omega,jje,jjh (show zs.length-(k+1)<zs.length from by omega)]
   rfl
  rw[h,show zs.length-k=(zs.length-(k+1))+1 from by omega,jb8 e0]
  simp only[strd]
  rw[jiZ,jiY (zs.getD (zs.length-1-k) 0)]
theorem pow9 (k:Nat)(h:k≤4):(4:Int)*9^k≤26244:=by
 have g:k=0∨k=1∨k=2∨k=3∨k=4:=by omega
 rcases g with rfl|rfl|rfl|rfl|rfl<;>decide
theorem stp_in {s z q:Int}{a:Nat}{len:Int}(hs:0<s)(hz:0<z)(hl:len=q*(s*z))(ha:(a:Int)<len)(h:¬ (a:Int)/s%z=z-1):(a:Int)+s<len:=by
 have h1:=Int.emod_nonneg ((a:Int)/s) (show z≠0 by omega)
 have h2:=ji4 ((a:Int)/s) hz
 have h3:(a:Int)/s<q*z:=(Int.ediv_lt_iff_lt_mul hs).2 (by rw[jiZ,jiY z s,← hl];exact ha)
 have h4:=Int.mul_ediv_add_emod ((a:Int)/s) z
 have h5:=Int.mul_ediv_add_emod (a:Int) s
 have h6:=ji4 (a:Int) hs
 have h7:(a:Int)/s/z<q:=(Int.ediv_lt_iff_lt_mul hz).2 h3
 have h8:(a:Int)/s+2≤q*z:=by
  have:=ji0 (show (a:Int)/s/z+1≤q by omega) (show 0≤z by omega)
  rw[jiX,Int.mul_one,jiY z q] at this
  omega
 have h9:=ji0 h8 (show 0≤s by omega)
 rw[jiX] at h9
 have h10:s*(q*z)=len:=by rw[hl,Int.mul_left_comm]
 omega
def stB1 (n:Nat):Nat→Hp
 | 0=>[(21,.box [.nil])]
 | _=>[(21,.box [.osl 200 0 n]),(200,.arr .i64 (List.replicate n 0))]
theorem jik:type_of% @jiK∧type_of% @jiI∧type_of% @tn0∧type_of% @tn1∧type_of% @tn2∧type_of% @tn3∧type_of% @xt4:=⟨@jiK,@jiI,@tn0,@tn1,@tn2,@tn3,@xt4⟩
theorem steep1_t (zs data:List Int)(T:Nat→List Int)(hg:jao zs 1 data=true)(hl:zs.length≤4)(hT:outS zs data 1 zs.length=T):Cl 32 [.agg [.ints .i64 zs,.int .i64 1,.ints .i64 data]] (.tup [.slf 1 1 (fun j=>List.take 1 (List.drop (j*1) [.ints .i64 (T 0)])),.int .i64 0]):=by
 have ck:Cl 37 [.agg [.ints .i64 zs,.int .i64 1,.ints .i64 data]] (.int .i64 0):=jdz hg hl
 have og:=jaF hg
 refine V.en tbOk Tryz.func32 ?_
 refine V.r1 jik ck ?_
 refine jac 0 (fun k=>k≤1) (fun k=>1-k) (fun k=>[(24,.int .i64 k)]) (fun k=>stB1 zs.length k) ?_ ?_ ?_
 ·simp only[stB1]
  exact V.wk
 ·exact jiF _
 intro k hk
 have hk4:k=0∨k=1:=by omega
 rcases hk4 with e|e
 all_goals subst e
 ·simp only[k0,stB1]
  refine V.r0 jik ?_
  refine⟨1,by omega,by omega,?_⟩
  simp only[stB1]
  refine Wk.renBox 32 200 21 0 zs.length (by decide) (by decide) (by decide) rfl rfl rfl ?_
  exact V.wk
 ·simp only[k1,stB1]
  refine V.r0 jik ?_
  refine jhy (β:=Unit) 2 (fun _=>True) (fun _=>[(5,.slf 1 1 (fun j=>List.take 1 (List.drop (j*1) [.ints .i64 (T 0)]))),(7,.any),(8,.any),(21,.any),(22,.any)]) (fun _=>[(21,.gone),(200,.gone)]) ?_ ?_
  rotate_left
  ·intro _ _
   refine V.r0 @jiI ?_
   exact Fin.of rfl
  refine jac ((0,(zs.length:Int)-1,1,outS zs data 1 0):Nat×Int×Int×(Nat→List Int)) (fun y=>y.1≤zs.length∧y.2.1=(zs.length:Int)-1-y.1∧y.2.2.1=strd zs 1 y.1∧y.2.2.2=outS zs data 1 y.1) (fun y=>zs.length-y.1) (fun y=>[(8,.int .i64 y.2.1),(7,.int .i64 y.2.2.1)]) (fun y=>[(200,.arr .i64 (y.2.2.2 0))]) ?_ ?_ ?_
  ·exact V.wk
  ·exact⟨jiF _,(by show (zs.length:Int)-1=(zs.length:Int)-1-((0:Nat):Int);omega),rfl,rfl⟩
  rintro⟨k,x8,s,w⟩ ⟨hk,h8,hs,hw⟩
  dsimp only at hk h8 hs hw ⊢
  have wo:∀ r,rowOk zs.length (w r):=fun r=>by rw[hw];exact jhq og.2.2.2 og.2.1 k hk r
  refine V.r0 jik ?_
  refine V.br (fun h=>?_) (fun h=>?_)
  ·have hx:=of_decide_eq_true h
   obtain⟨i,rfl⟩:∃ i:Nat,x8=i:=⟨x8.toNat,by omega⟩
   have hi:i=zs.length-1-k:=by omega
   obtain⟨z,hz⟩:∃ z,zs.getD i 0=z:=⟨_,rfl⟩
   have zb:2≤z∧z≤9:=by rw[← hz];exact jcN og.2.1 (by omega)
   have sp:=strd_pos og.1 og.2.1 k hk
   refine V.r0 (V.a2 jik hz) ?_
   have s0:0<s:=by rw[hs];exact sp.1
   have pp:=jgn (zs:=zs) (out:=1) (k+1) (by omega)
   have hlen:(data.length:Int)=prod (zs.take (zs.length-(k+1)))*(s*z):=by rw[og.2.2.1.2,pp,hs,← hz,hi];rfl
   have sm:s≤26244:=by
    have:=pow9 k (by omega)
    omega
   have io:=inS_ok (out:=1) (s:=s) (z:=z) (i:=i) og.2.2.2 zb wo
   refine jac (0:Nat) (fun a=>a≤data.length) (fun a=>data.length-a) (fun a=>[(53,.int .i64 (a:Nat))]) (fun a=>[(200,.arr .i64 (inS data 1 s z i w a 0))]) ?_ ?_ ?_
   ·exact V.wk
   ·exact jiF _
   intro a ha
   have b0:=jbK (p:=fun v=>0≤v∧v≤65535) og.2.2.2 (by omega) a
   have r0:=io a 0
   have q0:=r0.2 i
   have l0:=r0.1
   refine V.r0 jik ?_
   refine V.br (fun c=>?_) (fun c=>?_)
   ·have hx2:=of_decide_eq_true c
    have hq:0≤(a:Int)/s:=Int.ediv_nonneg (by omega) (by omega)
    refine V.r0 jik ?_
    refine V.br (fun f=>?_) (fun f=>?_)
    ·have he:=of_decide_eq_true f
     have e0:inS data 1 s z i w (a+1) 0=inS data 1 s z i w a 0:=if_pos he
     refine V.r0 jik ?_
     refine⟨a+1,by omega,by omega,?_⟩
     simp only[e0]
     exact V.wk
    ·have he:=of_decide_eq_false f
     have hin:=stp_in s0 (by omega) hlen hx2 he
     have b1:=jbK (p:=fun v=>0≤v∧v≤65535) og.2.2.2 (by omega) ((a:Int)+s).toNat
     have gb:=grd_bd (s:=s) (a:=a) og.2.2.2 zb
     unfold grd at gb
     have hm:InR .i64 ((z-1)*max (data.getD ((a:Int)+s).toNat 0-data.getD a 0) (data.getD a 0-data.getD ((a:Int)+s).toNat 0)):=⟨Int.le_trans (by decide) gb.1,Int.le_trans gb.2 (by decide)⟩
     have g:(a:Int)%1=0:=by omega
     ·have u0:inS data 1 s z i w (a+1) 0=(inS data 1 s z i w a 0).set i (max ((inS data 1 s z i w a 0).getD i 0) (grd data s z a)):=(if_neg he).trans (if_pos (show (a:Int)%1=((0:Nat):Int) from g))
      (conv=>whnf)
      (try simp only[jik])
      repeat ((first|refine V.s1 ?_|((try ((with_reducible refine .ext ?_);(conv=>whnf);(try simp only[jik])));(with_reducible refine jaa (r:=?_) ?_ ?_);rotate_left;(focus (first|fail));(conv=>whnf))|((simp only[g]);(conv=>whnf)));(try simp only[jik]))
      refine⟨a+1,by omega,by omega,?_⟩
      simp only[u0]
      exact V.wk
   ·have hx2:=of_decide_eq_false c
    obtain rfl:a=data.length:=by omega
    have hsz0:=Int.mul_le_mul sm zb.2 (by omega) (by decide)
    have hsz1:=jiH (show 0≤s by omega) (show 0≤z by omega)
    have hsz:InR .i64 (s*z):=⟨Int.le_trans (by decide) hsz1,Int.le_trans hsz0 (by decide)⟩
    refine V.r0 jik ?_
    refine⟨(k+1,(i:Int)-1,s*z,inS data 1 s z i w data.length),⟨by show k+1≤zs.length;omega,by show (i:Int)-1=(zs.length:Int)-1-((k+1:Nat):Int);omega,?_,?_⟩,by show zs.length-(k+1)<zs.length-k;omega,?_⟩
    ·show s*z=strd zs 1 k*zs.getD (zs.length-1-k) 0
     rw[hs,← hz,hi]
    ·show _=inS data 1 (strd zs 1 k) (zs.getD (zs.length-1-k) 0) (zs.length-1-k) (outS zs data 1 k) data.length
     rw[← hs,← hw,← hi,hz]
    ·dsimp only
     exact V.wk
  ·have hx:=of_decide_eq_false h
   have hkn:k=zs.length:=by omega
   have hwT:w=T:=by rw[hw,hkn,hT]
   subst hwT
   refine V.r0 @jiI ?_
   refine⟨(),trivial,?_⟩
   have t0:(w 0).take zs.length=w 0:=jjr (Nat.le_of_eq (wo 0).1)
   refine Wk.pub 200 ?_
   (conv=>whnf)
   simp only[t0]
   refine Wk.pub 21 ?_
   (conv=>whnf)
   simp only[jiI]
   exact V.wk
theorem jii:type_of% @jiI∧type_of% @tn0∧type_of% @tn1∧type_of% @tn2∧type_of% @tn3∧type_of% @xt4:=⟨@jiI,@tn0,@tn1,@tn2,@tn3,@xt4⟩
theorem list2_i {F e1 n1:Nat}{f1:Nat→List D}{g0:List Int}(T:Nat→Tx)(c0:Cl F (.int .i64 0::[.ref [.ints .i64 g0],.ref [.slf e1 n1 f1]]) (.tup [.agg [.str (T 0).1,.str (T 0).2],.int .i64 0]))(c1:Cl F (.int .i64 1::[.ref [.ints .i64 g0],.ref [.slf e1 n1 f1]]) (.tup [.agg [.str (T 1).1,.str (T 1).2],.int .i64 0])) :
  Cl 82 [.int .i64 2,.fn F [] [.ref [.ints .i64 g0],.ref [.slf e1 n1 f1]]] (.tup [V.sl2 2 [.str (T 0).1,.str (T 0).2,.str (T 1).1,.str (T 1).2],.int .i64 0]):=by
 refine V.en tbOk Tryz.func82 ?_
 refine V.r0 @jiI ?_
 refine jac (0) (fun k=>k≤2) (fun k=>2-k) (fun k=>[(14,.int .i64 k)]) (fun k=>[(11,.box (preD (2*k) [.str (T 0).1,.str (T 0).2,.str (T 1).1,.str (T 1).2]))]) ?_ ?_ ?_
 ·exact V.wk
 ·exact jiF _
 intro k hk
 have hk4:k=0∨k=1∨k=2:=by omega
 rcases hk4 with e|e|e
 all_goals subst e
 ·simp only[k0]
  refine V.r1 jii c0 ?_
  exact⟨1,by omega,by omega,V.wk⟩
 ·simp only[k1]
  refine V.r1 jii c1 ?_
  exact⟨2,by omega,by omega,V.wk⟩
 ·simp only[k2]
  refine V.r0 @jiI ?_
  exact Fin.of rfl
theorem spr1_20 (st:List Int)(H:Nat→Tx)(g0 g1 m0 m1:List UInt8)(hl:st.length=2)(ig:Cl 86 [.int .i64 (st.getD 0 0)] (.agg [.str g0,.str g1]))(mu:Cl 85 [.agg [.str g0,.str g1],.agg [.str (H 0).1,.str (H 0).2]] (.tup [.agg [.str m0,.str m1],.int .i64 0])) :
  Cl 98 [.int .i64 0,.ref [.ints .i64 st],.ref [V.sl2 2 [.str (H 0).1,.str (H 0).2,.str (H 1).1,.str (H 1).2]]] (.tup [.agg [.str m0,.str m1],.int .i64 0]):=by
 refine V.en tbOk Tryz.func98 ?_
 refine V.r0 jii ?_
 refine⟨Pq44z,[],V.pok,?_⟩
 refine jab [(5,.int .i64 0)] [(4,.box [.str m0,.str m1])] ?_ ?_
 ·exact V.d2 jii ig mu
 refine V.r0 @jiI ?_
 exact Fin.of rfl
theorem spr1_21 (st:List Int)(H:Nat→Tx)(g0 g1 m0 m1:List UInt8)(hl:st.length=2)(ig:Cl 86 [.int .i64 (st.getD 1 0)] (.agg [.str g0,.str g1]))(mu:Cl 85 [.agg [.str g0,.str g1],.agg [.str (H 1).1,.str (H 1).2]] (.tup [.agg [.str m0,.str m1],.int .i64 0])) :
  Cl 98 [.int .i64 1,.ref [.ints .i64 st],.ref [V.sl2 2 [.str (H 0).1,.str (H 0).2,.str (H 1).1,.str (H 1).2]]] (.tup [.agg [.str m0,.str m1],.int .i64 0]):=by
 refine V.en tbOk Tryz.func98 ?_
 refine V.r0 jii ?_
 refine⟨Pq44z,[],V.pok,?_⟩
 refine jab [(5,.int .i64 0)] [(4,.box [.str m0,.str m1])] ?_ ?_
 ·exact V.d2 jii ig mu
 refine V.r0 @jiI ?_
 exact Fin.of rfl
theorem spr_2 (st:List Int)(H M:Nat→Tx)(u0 u1 f0 f1 y0 y1:List UInt8)(hl:st.length=2)(li:Cl 82 [.int .i64 2,.fn 98 [] [.ref [.ints .i64 st],.ref [V.sl2 2 [.str (H 0).1,.str (H 0).2,.str (H 1).1,.str (H 1).2]]]] (.tup [V.sl2 2 [.str (M 0).1,.str (M 0).2,.str (M 1).1,.str (M 1).2],.int .i64 0]))
  (su:Cl 87 [V.sl2 2 [.str (M 0).1,.str (M 0).2,.str (M 1).1,.str (M 1).2]] (.tup [.agg [.str u0,.str u1],.int .i64 0])) (fu:Cl 86 [.int .i64 65535] (.agg [.str f0,.str f1])) (dv:Cl 88 [.agg [.str u0,.str u1],.agg [.str f0,.str f1]] (.tup [.agg [.str y0,.str y1],.int .i64 0])) :
  Cl 60 [.ints .i64 st,V.sl2 2 [.str (H 0).1,.str (H 0).2,.str (H 1).1,.str (H 1).2]] (.tup [.agg [.str y0,.str y1],.int .i64 0]):=by
 have hi:((st.length:Nat):Int)=2:=by rw[hl];rfl
 refine V.en tbOk Tryz.func60 ?_
 refine V.r2 (V.a2 @jiI @hi) li su ?_
 refine⟨Pq80z,[],V.pok,?_⟩
 refine jab [(5,.int .i64 0)] [(4,.box [.str y0,.str y1])] ?_ ?_
 ·exact V.d2 @jiI fu dv
 refine V.r0 @jiI ?_
 exact Fin.of rfl
theorem confined_t (p0 p1 p2 p3 q0 q1 q2 q3 s0 s1 a0 a1:List UInt8)(T:Nat→Int×Int)(h o:Int×Int)(sb:Cl 99 [.agg [.str p0,.str q0],.agg [.str p1,.str q1]] (.tup [.agg [.str s0,.str s1],.int .i64 0]))(ad:Cl 100 [.agg [.str p0,.str q0],.agg [.str p1,.str q1]] (.tup [.agg [.str a0,.str a1],.int .i64 0]))
  (li:Cl 55 [.int .i64 4,.fn 101 [] [.ref [.str s0,.str s1],.ref [.str a0,.str a1],.ref [.str p2,.str q2],.ref [.str p3,.str q3]]] (.tup [V.sl2 4 [.int .i64 (T 0).1,.int .i64 (T 0).2,.int .i64 (T 1).1,.int .i64 (T 1).2,.int .i64 (T 2).1,.int .i64 (T 2).2,.int .i64 (T 3).1,.int .i64 (T 3).2],.int .i64 0]))
  (hu:Cl 103 [.agg [.int .i64 (T 0).1,.int .i64 (T 0).2],.agg [.int .i64 (T 1).1,.int .i64 (T 1).2]] (.tup [.agg [.int .i64 h.1,.int .i64 h.2],.int .i64 0])) (ob:Cl 104 [.int .i64 (max h.1 (T 2).1),.int .i64 (min h.2 (T 3).2)] (.tup [.agg [.int .i64 o.1,.int .i64 o.2],.int .i64 0])) :
  Cl 61 [.agg [.str p0,.str q0],.agg [.str p1,.str q1],.agg [.str p2,.str q2],.agg [.str p3,.str q3]] (.tup [.agg [.int .i64 o.1,.int .i64 o.2],.int .i64 0]):=by
 refine V.en tbOk Tryz.func61 ?_
 refine V.r3 jii sb ad li ?_
 refine⟨(V.tk [0,1,2,3,4,5] (.ev (.cons 6 [] (V.tk [7,8,9] (V.e1 10 [9,8,7] (V.e1 11 [9] (V.tk [12] .done)))) (.cons 10 [5,4,3,2,1,0] (V.e1 6 [] (V.tk [7,8,9] (V.e1 11 [9] (V.tk [12] .done)))) .nil)))),[],V.pok,?_⟩
 refine jab [(14,.box 14 0),(11,.int .i64 0)] [(14,.box [.int .i64 h.1,.int .i64 h.2])] ?_ ?_
 ·exact V.d1 jii hu
 refine V.r0 jii ?_
 refine⟨(V.tk [0,1,2,3,4,5,6,7,8,9,10,11,12,13] (V.e1 14 [] (V.tk [15,16] (V.e1 17 [] (V.tk [18] .done))))),[],V.pok,?_⟩
 refine jab [(9,.int .i64 0)] [(8,.box [.int .i64 o.1,.int .i64 o.2])] ?_ ?_
 ·exact V.d1 jii ob
 refine V.r0 @jiI ?_
 exact Fin.of rfl
theorem bands2_210 (T:Nat→List Int)(H Y:Nat→Tx)(lo hi:List Int)(d0 d1 l0 l1 h0 h1:List UInt8)(b:Int×Int)(hlo:lo.length=1)(hhi:hi.length=1)(sp:Cl 60 [.ints .i64 (T 0),V.sl2 2 [.str (H 0).1,.str (H 0).2,.str (H 1).1,.str (H 1).2]] (.tup [.agg [.str d0,.str d1],.int .i64 0]))(o1:Cl 58 [.int .i64 (lo.getD 0 0),.int .i64 65535] (.agg [.str l0,.str l1]))(o2:Cl 58 [.int .i64 (hi.getD 0 0),.int .i64 65535] (.agg [.str h0,.str h1]))
  (cf:Cl 61 [.agg [.str (Y 0).1,.str (Y 0).2],.agg [.str d0,.str d1],.agg [.str l0,.str l1],.agg [.str h0,.str h1]] (.tup [.agg [.int .i64 b.1,.int .i64 b.2],.int .i64 0])) :
  Cl 59 (.int .i64 0::[.ref [.slf 1 1 (fun j=>List.take 1 (List.drop (j*1) [.ints .i64 (T 0)]))],.ref [V.sl2 2 [.str (H 0).1,.str (H 0).2,.str (H 1).1,.str (H 1).2]],.ref [V.sl2 1 [.str (Y 0).1,.str (Y 0).2]],.ref [.ints .i64 lo],.ref [.ints .i64 hi]]) (.tup [.agg [.int .i64 b.1,.int .i64 b.2],.int .i64 0]):=by
 refine V.en tbOk Tryz.func59 ?_
 refine V.r0 jii ?_
 refine⟨Pq38z,[],V.pok,?_⟩
 refine jab [(9,.box 9 0),(10,.int .i64 0)] [(9,.box [.str d0,.str d1])] ?_ ?_
 ·exact V.d1 jii sp
 refine V.r0 jii ?_
 refine⟨(V.tk [0,1,2,3,4,5,6,7,8,10,11,12,13] (V.e1 9 [13,12,11,10,4,3,2,1,0] (V.e1 14 [4,3,2,1,0] (V.e1 15 [] (V.tk [16,17] (V.e1 18 [] (V.tk [19] .done))))))),[],V.pok,?_⟩
 refine jab [(8,.int .i64 0)] [(7,.box [.int .i64 b.1,.int .i64 b.2])] ?_ ?_
 ·exact V.d3 jii o1 o2 cf
 refine V.r0 @jiI ?_
 exact Fin.of rfl
theorem jip:type_of% @jiI∧type_of% @tn0∧type_of% @tn1∧type_of% @tn2∧type_of% @tn3∧type_of% @xt4:=⟨@jiI,@tn0,@tn1,@tn2,@tn3,@xt4⟩
theorem bands2_t (zs data lo hi:List Int)(out:Int)(X I:Nat→Int×Int)(MD HV:Nat→Tx)(o e o2:Nat)(Y B S:Nat→List D)(hl:zs.length=2)(hI:∀ i,i<2→(0≤(I i).1∧(I i).1≤1000000000000)∧(0≤(I i).2∧(I i).2≤1000000000000))(gr:Cl 25 [.agg [.ints .i64 zs,.int .i64 out,.ints .i64 data]] (.tup [.ints .i64 lo,.ints .i64 hi,.int .i64 0]))
  (li:Cl 55 [.int .i64 2,.fn 56 [] [.ref [V.sl2 2 [.int .i64 (X 0).1,.int .i64 (X 0).2,.int .i64 (X 1).1,.int .i64 (X 1).2]]]] (.tup [V.sl2 2 [.int .i64 (I 0).1,.int .i64 (I 0).2,.int .i64 (I 1).1,.int .i64 (I 1).2],.int .i64 0]))
  (om:∀ i,i<2→Cl 58 [.int .i64 ((I i).1+(I i).2),.int .i64 2000000000000] (.agg [.str (MD i).1,.str (MD i).2])) (oh:∀ i,i<2→Cl 58 [.int .i64 ((I i).2-(I i).1),.int .i64 2000000000000] (.agg [.str (HV i).1,.str (HV i).2]))
  (ev:Cl 15 [.agg [.ints .i64 zs,.int .i64 out,.ints .i64 data],V.sl2 2 [.str (MD 0).1,.str (MD 0).2,.str (MD 1).1,.str (MD 1).2]] (.tup [.slf 2 o Y,.int .i64 0])) (st:Cl 32 [.agg [.ints .i64 zs,.int .i64 out,.ints .i64 data]] (.tup [.slf 1 o2 S,.int .i64 0]))
  (l2:Cl 55 [.int .i64 out,.fn 59 [] [.ref [.slf 1 o2 S],.ref [V.sl2 2 [.str (HV 0).1,.str (HV 0).2,.str (HV 1).1,.str (HV 1).2]],.ref [.slf 2 o Y],.ref [.ints .i64 lo],.ref [.ints .i64 hi]]] (.tup [.slf 2 e B,.int .i64 0])) :
  Cl 29 [.agg [.ints .i64 zs,.int .i64 out,.ints .i64 data],V.sl2 2 [.int .i64 (X 0).1,.int .i64 (X 0).2,.int .i64 (X 1).1,.int .i64 (X 1).2]] (.tup [.slf 2 e B,.int .i64 0]):=by
 have hz:((zs.length:Nat):Int)=2:=by rw[hl];rfl
 refine V.en tbOk Tryz.func29 ?_
 refine V.r1 jip gr ?_
 refine Cnd.split (CondB.mk (fun h=>absurd h (by rw[hl];decide)) (fun _=>?_))
 refine V.r1 jip li ?_
 refine jhy (β:=Unit) 0 (fun _=>True) (fun _=>[(46,.any),(49,.any)]) (fun _=>[(43,.box [.str (MD 0).1,.str (MD 0).2,.str (MD 1).1,.str (MD 1).2]),(46,.gone),(11,.box [V.sl2 2 [.str (HV 0).1,.str (HV 0).2,.str (HV 1).1,.str (HV 1).2]])]) ?_ ?_
 rotate_left
 ·intro _ _
  refine V.r3 jip ev st l2 ?_
  exact Fin.of rfl
 refine jac (0) (fun k=>k≤2) (fun k=>2-k) (fun k=>[(49,.int .i64 k)]) (fun k=>[(43,.box (preD (2*k) [.str (MD 0).1,.str (MD 0).2,.str (MD 1).1,.str (MD 1).2])),(46,.box (preD (2*k) [.str (HV 0).1,.str (HV 0).2,.str (HV 1).1,.str (HV 1).2]))]) ?_ ?_ ?_
 ·exact V.wk
 ·exact jiF _
 intro k hk
 have hk4:k=0∨k=1∨k=2:=by omega
 rcases hk4 with e1|e1|e1
 all_goals subst e1
 ·simp only[k0]
  have c1:=om 0 (by omega)
  have c2:=oh 0 (by omega)
  have hh:=hI 0 (by omega)
  refine V.r1 jip c1 ?_
  refine⟨Pq26z,[],V.pok,?_⟩
  refine jab [] [(46,.box (preD (2*1) [.str (HV 0).1,.str (HV 0).2,.str (HV 1).1,.str (HV 1).2]))] ?_ ?_
  ·exact V.d1 jip c2
  refine V.r0 jip ?_
  exact⟨1,by omega,by omega,V.wk⟩
 ·simp only[k1]
  have c1:=om 1 (by omega)
  have c2:=oh 1 (by omega)
  have hh:=hI 1 (by omega)
  refine V.r1 jip c1 ?_
  refine⟨Pq26z,[],V.pok,?_⟩
  refine jab [] [(46,.box (preD (2*2) [.str (HV 0).1,.str (HV 0).2,.str (HV 1).1,.str (HV 1).2]))] ?_ ?_
  ·exact V.d1 jip c2
  refine V.r0 jip ?_
  exact⟨2,by omega,by omega,V.wk⟩
 ·simp only[k2]
  refine V.r0 jip ?_
  refine⟨(),trivial,?_⟩
  refine Wk.pub 46 ?_
  (conv=>whnf)
  simp only[jiI]
  exact V.wk
def confB (y d l h:Rat):Int×Int:=(max (flU (y-d)) (flU l),min (clU (y+d)) (clU h))
theorem flU_bd {x:Rat}(h : -100000≤x∧x≤100000) : -100000000000000000≤flU x∧flU x≤clU x∧clU x≤100000000000000000:=
 ⟨jfx.2 (by rw[show ((-100000000000000000:Int):Rat) = -100000*1000000000000 from by decide +kernel];grind),fl_cl Rat.le_refl,jfB.2 (by rw[show ((100000000000000000:Int):Rat)=100000*1000000000000 from by decide +kernel];grind)⟩
theorem hull_q {p q p2 q2:Int}(h1 : -100000000000000000≤p∧p≤q∧q≤100000000000000000)(h2 : -100000000000000000≤p2∧p2≤q2∧q2≤100000000000000000):Cl 103 [.agg [.int .i64 p,.int .i64 q],.agg [.int .i64 p2,.int .i64 q2]] (.tup [.agg [.int .i64 (min p p2),.int .i64 (max q q2)],.int .i64 0]):=by
 have c:=hull_b p q p2 q2
 have e:(if vb p q=true∧vb p2 q2=true then (if p=p2∧q=q2 then (p,q,(0:Int)) else if max q q2<min p p2 then (0,0,4) else (min p p2,max q q2,0)) else (0,0,30))=(min p p2,max q q2,0):=by
  rw[if_pos ⟨jbD.2 (by omega),jbD.2 (by omega)⟩]
  split
  ·rename_i g
   rw[g.1,g.2,Int.min_self,Int.max_self]
  ·rw[if_neg (by omega)]
 rw[e] at c
 exact c
theorem conf_q {y d l h:Rat}(fy:Fq 376 y)(fd:Fq 70 d)(fl:Fq 10 l)(fh:Fq 10 h)(d0:0≤d∧d≤50000)(l0:0≤l∧l≤y)(h0:y≤h∧h≤1) :
  Cl 61 [frT y,frT d,frT l,frT h] (.tup [.agg [.int .i64 (confB y d l h).1,.int .i64 (confB y d l h).2],.int .i64 0]):=by
 have b0 : -100000≤y-d∧y-d≤100000:=by constructor<;>grind
 have b1 : -100000≤y+d∧y+d≤100000:=by constructor<;>grind
 have b2 : -100000≤l∧l≤100000:=by constructor<;>grind
 have b3 : -100000≤h∧h≤100000:=by constructor<;>grind
 have u0:=flU_bd b0
 have u1:=flU_bd b1
 have u2:=flU_bd b2
 have u3:=flU_bd b3
 have sb:=zsub fy fd (by decide) (by decide) (by decide)
 have ad:=zadd fy fd (by decide) (by decide) (by decide)
 have a0:=jen (fy.sub fd) (by decide) b0
 have a1:=jen (fy.add fd) (by decide) b1
 have a2:=jen fl (by decide) b2
 have a3:=jen fh (by decide) b3
 have m1:flU (y-d)≤flU (y+d):=flU_mono (by grind)
 have m2:clU (y-d)≤clU (y+d):=clU_mono (by grind)
 have m3:flU (y-d)≤clU h:=fl_cl (by grind)
 have m4:flU l≤clU (y+d):=fl_cl (by grind)
 have m5:flU l≤clU h:=fl_cl (by grind)
 have m6:flU (y-d)≤clU (y+d):=fl_cl (by grind)
 have hu:=hull_q u0 u1
 rw[show min (flU (y-d)) (flU (y+d))=flU (y-d) from by omega,show max (clU (y-d)) (clU (y+d))=clU (y+d) from by omega] at hu
 have ob:=of_b (max (flU (y-d)) (flU l)) (min (clU (y+d)) (clU h))
 rw[if_pos (jbD.2 (by omega))] at ob
 let T:Nat→Int×Int:=fun i=>match i with|0=>(flU (y-d),clU (y-d))|1=>(flU (y+d),clU (y+d))|2=>(flU l,clU l)|_=>(flU h,clU h)
 have li:=blist4b (F:=101) T (conf1_0 _ _ _ _ _ _ _ _ (T 0) a0) (conf1_1 _ _ _ _ _ _ _ _ (T 1) a1) (conf1_2 _ _ _ _ _ _ _ _ (T 2) a2) (conf1_3 _ _ _ _ _ _ _ _ (T 3) a3)
 exact confined_t _ _ _ _ _ _ _ _ _ _ _ _ T (flU (y-d),clU (y+d)) (confB y d l h) sb ad li hu ob
theorem spr_q2 {st:List Int}{H:Nat→Rat}(hs:rowOk 2 st)(hf:∀ i,i<2→Fq 14 (H i)):Cl 60 [.ints .i64 st,slQ (fun i=>txq (H i)) 2] (.tup [frT (smF (fun i=>((st.getD i 0:Int):Rat)*H i) 1/65535),.int .i64 0])∧Fq 70 (smF (fun i=>((st.getD i 0:Int):Rat)*H i) 1/65535):=by
 have w0:Fq 6 ((st.getD 0 0:Int):Rat):=jaS (by have:=hs.2 0;omega) (by decide)
 have i0:=jap (n:=st.getD 0 0) (by have:=hs.2 0;omega)
 have u0:=zmul w0 (hf 0 (by decide)) (by decide) (by decide) (by decide)
 have m0:=spr1_20 st (fun i=>txq (H i)) _ _ _ _ hs.1 i0 u0
 have w1:Fq 6 ((st.getD 1 0:Int):Rat):=jaS (by have:=hs.2 1;omega) (by decide)
 have i1:=jap (n:=st.getD 1 0) (by have:=hs.2 1;omega)
 have u1:=zmul w1 (hf 1 (by decide)) (by decide) (by decide) (by decide)
 have m1:=spr1_21 st (fun i=>txq (H i)) _ _ _ _ hs.1 i1 u1
 have li:=list2_i (fun i=>txq (((st.getD i 0:Int):Rat)*H i)) m0 m1
 have s0:Fq 20 (smF (fun i=>((st.getD i 0:Int):Rat)*H i) 0):=w0.mul (hf 0 (by decide))
 have s1:Fq 41 (smF (fun i=>((st.getD i 0:Int):Rat)*H i) 1):=s0.add (w1.mul (hf 1 (by decide)))
 have su:=sum2 (fun i=>txq (((st.getD i 0:Int):Rat)*H i)) (fun i=>txq (smF (fun i=>((st.getD i 0:Int):Rat)*H i) i)) rfl (zadd s0 (w1.mul (hf 1 (by decide))) (by decide) (by decide) (by decide))
 have fu:=jap (n:=65535) (by omega)
 have f5:=jaS (n:=5) (z:=65535) jbo (by decide)
 have dv:=zdiv s1 f5 jcY (by decide) (by decide) (by decide)
 have fd:=(s1.div f5 jcY).mono (show _≤70 by decide)
 rw[show ((65535:Int):Rat)=65535 from rfl] at fu dv fd
 exact⟨spr_2 st (fun i=>txq (H i)) (fun i=>txq (((st.getD i 0:Int):Rat)*H i)) _ _ _ _ _ _ hs.1 li su fu dv,fd⟩
end Go.Proofs.YtgjgpdceghjajaaGreatDoor
end
section
namespace Go.Proofs.YtgjgpdceghjajaaGreatDoor
open Go Go.V Go.Gr
theorem index_step {ns:List Nat}{m p n:Nat}(hn:ns[p]? = some n)(hp:p<ns.length) :
  (List.replicate (p+1) (0:Int)++(ixl ns m).drop (p+1)).set p ((m/PR (ns.drop (p+1))%n:Nat):Int)=List.replicate p 0++(ixl ns m).drop p∧m/PR (ns.drop (p+1))/n=m/PR (ns.drop p):=by
 have hx:=jf9 ns m p n hn
 constructor
 ·rw[List.set_append_left _ _ (by simp),List.replicate_succ',List.set_append_right _ _ (by simp)]
  rw[jju (i:=p) (by rw[jat];exact hp)]
  have:=(jjn.1 hx).2
  rw[this]
  simp
 ·have hd:ns.drop p=n::ns.drop (p+1):=by
   rw[jju hp]
   rw[(jjn.1 hn).2]
  rw[hd,PR,Nat.div_div_eq_div_mul,jiN]
theorem rindex_c (ns:List Nat)(m:Nat)(hp:∀ n∈ns,0<n∧n≤1000000)(hl:ns.length≤10000)(hm:m≤1000000000):Cl 24 [.ints .i64 (nz ns),.int .i64 m] (.ints .i64 (ixl ns m)):=by
 have hlen:(nz ns).length=ns.length:=by simp[nz]
 refine V.en tbOk Tryz.func24 ?_
 refine V.r0 (V.a2 hlen @jiK) ?_
 have e0:List.replicate ns.length (0:Int)=List.replicate ns.length 0++(ixl ns m).drop ns.length:=by
  rw[jjs (by rw[jat];omega),List.append_nil]
 have e1:(m:Int)=((m/PR (ns.drop ns.length):Nat):Int):=by simp[PR]
 refine jac (ns.length) (fun k=>k≤ns.length) (fun k=>k) (fun k=>[(1,.int .i64 ((m/PR (ns.drop k):Nat):Int)),(6,.int .i64 ((k:Int)-1))]) (fun k=>[(9,.arr .i64 (List.replicate k 0++(ixl ns m).drop k))]) ?_ ?_ ?_
 ·rw[← e0,← e1]
  exact V.wk
 ·exact jiL _
 intro p hpl
 (conv=>whnf)
 refine V.st ?_
 refine V.br (fun h=>?_) (fun h=>?_)
 ·have hp0:0<p:=by simp at h;omega
  obtain⟨p,rfl⟩:∃ q,p=q+1:=⟨p-1,by omega⟩
  have hp1:p<ns.length:=by omega
  obtain⟨n,hn⟩:∃ n,ns[p]? = some n:=⟨ns[p],jjh hp1⟩
  have hn0:=hp n (jji hn)
  have en:(nz ns).getD p 0=n:=by simp[nz,jje,hn]
  have e2:(((p+1:Nat):Int)-1)=(p:Int):=by omega
  have hst:=index_step (m:=m) hn hp1
  have e3:((m/PR (ns.drop (p+1)):Nat):Int)%(n:Int)=((m/PR (ns.drop (p+1))%n:Nat):Int):=by simp
  have e4:((m/PR (ns.drop (p+1)):Nat):Int)/(n:Int)=((m/PR (ns.drop p):Nat):Int):=by rw[← hst.2];simp
  have hl2:(List.replicate (p+1) (0:Int)++(ixl ns m).drop (p+1)).length=ns.length:=by simp[jat];omega
  have hl3:m/PR (ns.drop (p+1))≤m:=ji3 _ _
  generalize hq:m/PR (ns.drop (p+1))=q at *
  refine V.r0 (V.a5 hlen e2 @en @jiK @jiI) ?_
  rw[e3,hst.1]
  refine V.st ?_
  rw[e4]
  exact⟨p,by omega,by omega,V.wk⟩
 ·have hp0:p=0:=by simp at h;omega
  subst hp0
  (conv=>whnf)
  refine V.st ?_
  have h0:(List.replicate 0 (0:Int)++(ixl ns m).drop 0)=ixl ns m:=by simp
  have hli:=jat ns m
  rw[h0]
  refine Fin.of ?_
  rw[jjr (by rw[hli];simp)]
def mkV0 (vals:List Int)(w m k:Nat):Int:=if 0<vals.length then vals.getD ((m*w+k)%vals.length) 0 else 0
def mkV (vals:List Int)(sm:Bool)(ns:List Nat)(w m k:Nat):Int:=
 if sm then 60000*(ixl ns m).getD (k%ns.length) 0/((nz ns).getD (k%ns.length) 0-1)+mkV0 vals w m k%5000 else mkV0 vals w m k
def mkF (vals:List Int)(sm:Bool)(ns:List Nat)(w m:Nat):List Int:=(List.range w).map (mkV vals sm ns w m)
theorem getD_mem {xs:List Int}{i:Nat}(h:i<xs.length):xs.getD i 0∈xs:=by
 rw[jje,jjh h];simp
theorem mkV0_bd {vals:List Int}{w m k:Nat}(hv:∀ v∈vals,0≤v∧v≤65535):0≤mkV0 vals w m k∧mkV0 vals w m k≤65535:=by
 unfold mkV0
 split
 ·rename_i h
  exact hv _ (getD_mem (Nat.mod_lt _ h))
 ·omega
theorem mk_sm {ns:List Nat}{m k:Nat}(h1:1≤ns.length)(h2:∀ n∈ns,2≤n∧n≤9):0≤(ixl ns m).getD (k%ns.length) 0∧(ixl ns m).getD (k%ns.length) 0≤8∧1≤(nz ns).getD (k%ns.length) 0-1∧(nz ns).getD (k%ns.length) 0-1≤8 ∧
  0≤60000*(ixl ns m).getD (k%ns.length) 0/((nz ns).getD (k%ns.length) 0-1)∧60000*(ixl ns m).getD (k%ns.length) 0/((nz ns).getD (k%ns.length) 0-1)≤60000:=by
 have hlt:k%ns.length<ns.length:=Nat.mod_lt _ (by omega)
 generalize k%ns.length=i at *
 obtain⟨n,hn⟩:∃ n,ns[i]? = some n:=⟨_,jjh hlt⟩
 obtain⟨x,hx⟩:∃ x,(ixl ns m)[i]? = some x:=⟨_,jjh (by rw[jat];exact hlt)⟩
 have hnb:=h2 n (jji hn)
 have hxb:=jeJ (fun n hn=>by have:=h2 n hn;omega) hn hx
 have e1:(nz ns).getD i 0=n:=by simp[nz,jje,hn]
 have e2:(ixl ns m).getD i 0=x:=by rw[jje,hx];rfl
 rw[e1,e2]
 refine⟨hxb.1,by omega,by omega,by omega,Int.ediv_nonneg (by omega) (by omega),?_⟩
 exact Int.ediv_le_of_le_mul (by omega) (by omega)
theorem mkV_bd {vals:List Int}{sm:Bool}{ns:List Nat}{w m k:Nat}(hv:∀ v∈vals,0≤v∧v≤65535)(h1:1≤ns.length)(h2:∀ n∈ns,2≤n∧n≤9):0≤mkV vals sm ns w m k∧mkV vals sm ns w m k≤65535:=by
 have h3:=mkV0_bd (w:=w) (m:=m) (k:=k) hv
 have h4:=mk_sm (m:=m) (k:=k) h1 h2
 unfold mkV
 split<;>omega
theorem made_c (ds:List Int)(o:Int)(vals:List Int)(sm:Bool)(ns:List Nat)(w:Nat)(hv:∀ v∈vals,0≤v∧v≤65535)(hvl:vals.length≤281474976710656)(h1:1≤ns.length∧ns.length≤4)(h2:∀ n∈ns,2≤n∧n≤9)(hw:1≤w∧w≤4) :
  Cl 38 [.agg [.ints .u8 ds,.int .u8 o,.ints .u16 vals,.bool sm],.ints .i64 (nz ns),.int .i64 w] (gridD (nz ns) w (flat ns (mkF vals sm ns w) (PR ns))):=by
 have hlen:(nz ns).length=ns.length:=by simp[nz]
 have hPR:=PR_le h1.2 h2
 have hprod:prod (nz ns)=(PR ns:Nat):=jez ns
 have hpz:∀ k,InR .i64 (prod ((nz ns).take k)):=fun k=>(jfX (size:=nz ns) (by
  rw[jjd]
  intro x hx
  obtain⟨n,hn,rfl⟩:=List.mem_map.1 hx
  have:=h2 n hn
  simp;omega) k).2.2 (by omega)
 have hfl:∀ j,(mkF vals sm ns w j).length≤4:=fun j=>by simp[mkF];omega
 refine V.en tbOk Tryz.func38 ?_
 refine V.r0 @jiI ?_
 refine Lp.ghostBox 72 7 2 .i64 (by decide) (by decide) ?_
 (conv=>whnf)
 refine jac (0) (fun k=>k≤PR ns) (fun k=>PR ns-k) (fun k=>[(8,.int .i64 k)]) (fun k=>[(7,.box [.ints .i64 (nz ns),.int .i64 w,.osl 72 0 (flat ns (mkF vals sm ns w) k).length]),(72,.arr .i64 (flat ns (mkF vals sm ns w) k))]) ?_ ?_ ?_
 ·exact V.wk
 ·exact jiF _
 intro m hm
 have hfm:=flat_len (ns:=ns) (m:=m) (fun j _=>hfl j)
 (conv=>whnf)
 (try simp only[hprod])
 repeat ((first|refine V.s1 ?_|((try ((with_reducible refine .ext ?_);(conv=>whnf);(try simp only[hprod])));(with_reducible refine jaa (r:=?_) ?_ ?_);rotate_left;(focus (first|exact(points_c _ (fun k _=>hpz k) (by omega))));(conv=>whnf)));(try simp only[hprod]))
 refine V.br (fun hq=>?_) (fun hq=>?_)
 ·rw[decide_eq_true_eq] at hq
  have hm1:m<PR ns:=by omega
  (conv=>whnf)
  refine V.st ?_
  repeat ((try ((with_reducible refine .ext ?_);(conv=>whnf)));(with_reducible refine jaa (r:=?_) ?_ ?_);rotate_left;(focus (first|exact(rindex_c ns m (fun n hn=>by have:=h2 n hn;omega) (by omega) (by omega))));(conv=>whnf);refine V.st ?_)
  refine jac (0) (fun k=>k≤w) (fun k=>w-k) (fun k=>[(10,.int .i64 k)]) (fun k=>[(7,.box [.ints .i64 (nz ns),.int .i64 w,.osl 72 0 (flat ns (mkF vals sm ns w) m++(List.range k).map (mkV vals sm ns w m)).length]),(72,.arr .i64 (flat ns (mkF vals sm ns w) m++(List.range k).map (mkV vals sm ns w m)))]) ?_ ?_ ?_
  ·simp only[List.range_zero,List.map_nil,List.append_nil]
   exact V.wk
  ·exact jiF _
  intro k hk
  have hb0:=mkV0_bd (w:=w) (m:=m) (k:=k) hv
  have hbs:=mk_sm (m:=m) (k:=k) h1.1 h2
  have hmw:(m:Int)*w=((m*w:Nat):Int):=by simp
  have hmw2:m*w≤6561*4:=Nat.mul_le_mul (by omega) (by omega)
  (conv=>whnf)
  refine V.st ?_
  refine V.br (fun hq2=>?_) (fun hq2=>?_)
  ·rw[decide_eq_true_eq] at hq2
   (conv=>whnf)
   refine V.st ?_
   refine jbd [(11,.int .i64 (mkV0 vals w m k))] [] (CondB.mk (fun hq3=>?_) (fun hq3=>?_)) ?_
   ·rw[decide_eq_true_eq] at hq3
    have hvp:0<vals.length:=by omega
    have e1:((((m*w:Nat):Int)+k)%vals.length).toNat=(m*w+k)%vals.length:=by
     rw[← Int.natCast_add,← Int.natCast_emod,jiK]
    have e2:vals.getD ((m*w+k)%vals.length) 0=mkV0 vals w m k:=by unfold mkV0;rw[if_pos hvp]
    have e3:=Int.emod_nonneg (((m*w:Nat):Int)+k) (b:=vals.length) (by omega)
    have e4:=ji4 (((m*w:Nat):Int)+k) (b:=vals.length) (by omega)
    (conv=>whnf)
    refine V.st ?_
    refine⟨(V.tk [0,1,2,3,4,5,6,7,8,9,10,11,12,13,14] .done),[],V.pok,.go (jad ?_)⟩
    refine V.r0 (V.a3 hmw @e1 e2) ?_
    exact V.wk
   ·rw[decide_eq_false_iff_not] at hq3
    have e2:mkV0 vals w m k=0:=by unfold mkV0;rw[if_neg (by omega)]
    rw[e2]
    (conv=>whnf)
    refine V.st ?_
    exact V.wk
   (conv=>whnf)
   refine V.st ?_
   refine jbd [(11,.int .i64 (mkV vals sm ns w m k))] [] (CondB.mk (fun hq3=>?_) (fun hq3=>?_)) ?_
   ·have hli:=jat ns m
    have hki:(k:Int)%(ns.length:Int)=((k%ns.length:Nat):Int):=by simp
    have hkl:k%ns.length<ns.length:=Nat.mod_lt _ (by omega)
    have e2:mkV vals sm ns w m k=60000*(ixl ns m).getD (k%ns.length) 0/((nz ns).getD (k%ns.length) 0-1)+mkV0 vals w m k%5000:=by unfold mkV;rw[hq3];rfl
    rw[e2]
    generalize mkV0 vals w m k=v0 at *
    generalize hgi:k%ns.length=i at *
    refine V.r0 (V.a3 hlen hki @jiK) ?_
    refine⟨(V.tk [0,1,2,3,4,5,6,7,8,9,10,11,12,13] (V.e1 14 [] .done)),[],V.pok,.go (jad ?_)⟩
    refine V.r0 (V.a3 hlen hki @jiK) ?_
    exact V.wk
   ·have e2:mkV vals sm ns w m k=mkV0 vals w m k:=by unfold mkV;rw[hq3];rfl
    rw[e2]
    (conv=>whnf)
    refine V.st ?_
    exact V.wk
   have hst:flat ns (mkF vals sm ns w) m++(List.range k).map (mkV vals sm ns w m)++[mkV vals sm ns w m k]=flat ns (mkF vals sm ns w) m++(List.range (k+1)).map (mkV vals sm ns w m):=by
    rw[List.range_succ];simp
   have hst2:(flat ns (mkF vals sm ns w) m++(List.range k).map (mkV vals sm ns w m)).length+1=(flat ns (mkF vals sm ns w) m++(List.range (k+1)).map (mkV vals sm ns w m)).length:=by rw[← hst];simp;omega
   (conv=>whnf)
   refine V.st ?_
   try refine And.intro (fun _=>⟨rfl,by simp;omega⟩) ?_
   refine V.r0 (V.a8 @jiI @List.drop_zero.{0} @List.take_succ_cons.{0} @List.take_zero.{0} @jjq @List.length_nil.{0} hst hst2) ?_
   exact⟨k+1,by omega,by omega,V.wk⟩
  ·rw[decide_eq_false_iff_not] at hq2
   have hkw:k=w:=by omega
   subst hkw
   have hfs:flat ns (mkF vals sm ns k) m++(List.range k).map (mkV vals sm ns k m)=flat ns (mkF vals sm ns k) (m+1):=(jdB _ _ _).symm
   rw[hfs]
   (conv=>whnf)
   refine V.st ?_
   exact⟨m+1,by omega,by omega,V.wk⟩
 ·rw[decide_eq_false_iff_not] at hq
  have hm1:m=PR ns:=by omega
  subst hm1
  (conv=>whnf)
  refine V.st ?_
  rw[jjr (jiL _)]
  exact Fin.of rfl
def nsD (ds:List Int):List Nat:=if ds=[] then [2] else (ds.take 3).map fun x=>(2+x%3).toNat
def wD (o:Int):Nat:=(1+o%3).toNat
def draftD (ds:List Int)(o:Int)(vals:List Int)(sm:Bool):D := .agg [.ints .u8 ds,.int .u8 o,.ints .u16 vals,.bool sm]
def dData (ds:List Int)(o:Int)(vals:List Int)(sm:Bool):List Int:=flat (nsD ds) (mkF vals sm (nsD ds) (wD o)) (PR (nsD ds))
theorem nsD_bd (ds:List Int):(1≤(nsD ds).length∧(nsD ds).length≤3) ∧ ∀ n∈nsD ds,2≤n∧n≤4:=by
 unfold nsD
 split
 ·simp
 ·rename_i h
  have:0<ds.length:=List.length_pos_iff.2 h
  refine⟨by simp;omega,fun n hn=>?_⟩
  obtain⟨x,_,rfl⟩:=List.mem_map.1 hn
  omega
theorem wD_bd (o:Int):1≤wD o∧wD o≤3:=by unfold wD;omega
theorem nz_nsD {ds:List Int}(h:ds≠[]):(ds.take 3).map (fun x=>2+x%3)=nz (nsD ds):=by
 unfold nsD nz
 rw[if_neg h,List.map_map]
 refine List.map_congr_left fun x _=>?_
 simp
 omega
theorem draft_c (ds:List Int)(o:Int)(vals:List Int)(sm:Bool)(hd:∀ v∈ds,0≤v∧v≤255)(hdl:ds.length≤281474976710656)(ho:0≤o∧o≤255)(hv:∀ v∈vals,0≤v∧v≤65535)(hvl:vals.length≤281474976710656) :
  Cl 11 [draftD ds o vals sm] (gridD (nz (nsD ds)) (wD o) (dData ds o vals sm)):=by
 have hb:=nsD_bd ds
 have hwb:=wD_bd o
 have hmade:=made_c ds o vals sm (nsD ds) (wD o) hv hvl (by omega) (fun n hn=>by have:=hb.2 n hn;omega) (by omega)
 have hwD:1+o%3=(wD o:Int):=by unfold wD;omega
 refine V.en tbOk Tryz.func11 ?_
 refine V.r0 @jiI ?_
 refine Lp.ghostSlot 26 3 .i64 (by decide) ?_
 (conv=>whnf)
 refine jac (0) (fun k=>k≤ds.length∧k≤3) (fun k=>3-k) (fun k=>[(4,.int .i64 k),(3,.osl 26 0 ((ds.take k).map fun x=>2+x%3).length)]) (fun k=>[(26,.arr .i64 ((ds.take k).map fun x=>2+x%3))]) ?_ ?_ ?_
 ·exact V.wk
 ·omega
 intro k hk
 (conv=>whnf)
 refine V.st ?_
 refine V.br (fun hq=>?_) (fun hq=>?_)
 ·simp only[jiD,decide_eq_true_eq] at hq
  obtain⟨x,hx,ex⟩:=getxn (xs:=ds) (k:=k) (by omega)
  have hxb:=hd x (jji hx)
  have hst:(ds.take k).map (fun x=>2+x%3)++[2+x%3]=(ds.take (k+1)).map fun x=>2+x%3:=by
   rw[jjz,hx];simp
  have hst2:((ds.take k).map fun x=>2+x%3).length+1=((ds.take (k+1)).map fun x=>2+x%3).length:=by rw[← hst];simp
  have hml:((ds.take k).map fun x=>2+x%3).length≤3:=by simp;omega
  refine V.r0 (V.a2 @jiK ex) ?_
  try refine And.intro (fun _=>⟨trivial,by simp;omega⟩) ?_
  refine V.r0 (V.a8 @jiI @List.drop_zero.{0} @List.take_succ_cons.{0} @List.take_zero.{0} @jjq @List.length_nil.{0} hst hst2) ?_
  exact⟨k+1,by omega,by omega,V.wk⟩
 ·have hq2:¬ ((k:Int)<ds.length∧(k:Int)<3):=by
   intro h
   rw[decide_eq_true h.1,decide_eq_true h.2] at hq
   cases hq
  have htk:ds.take k=ds.take 3:=by
   rcases jiR k 3 with h|h
   ·rw[jjr (by omega),jjr (by omega)]
   ·congr 1;omega
  have hml:((ds.take 3).map fun x=>2+x%3).length≤3:=by simp;omega
  rw[htk]
  (conv=>whnf)
  refine V.st ?_
  by_cases hds:ds=[]
  ·subst hds
   have hnd:nsD []=[2]:=rfl
   refine V.br (fun hq3=>?_) (fun hq3=>?_)
   ·refine V.r1 (V.a5 hwD @List.take_succ_cons.{0} @List.take_zero.{0} @jiI @List.drop_zero.{0}) hmade ?_
    exact Fin.of rfl
   ·simp at hq3
  ·have hnd:=nz_nsD hds
   have hlp:0<ds.length:=List.length_pos_iff.2 hds
   refine V.br (fun hq3=>?_) (fun hq3=>?_)
   ·simp at hq3
    exact absurd hq3 hds
   ·rw[hnd] at hml ⊢
    refine V.r1 (V.a2 hwD @jjA) hmade ?_
    exact Fin.of rfl
theorem jhL {ns:List Nat}{f:Nat→List Int}{w m:Nat}(h:∀ j,(f j).length=w):(flat ns f m).length=m*w:=by
 induction m with
 | zero=>simp[flat]
 | succ m ih=>rw[jdB,jjj,ih,h,Nat.add_mul,Nat.one_mul]
theorem mem_flat {ns:List Nat}{f:Nat→List Int}{m:Nat}{x:Int}(h:x∈flat ns f m):∃ j,j<m∧x∈f j:=by
 unfold flat at h
 rw[List.mem_flatMap] at h
 obtain⟨j,h1,h2⟩:=h
 exact⟨j,List.mem_range.1 h1,h2⟩
theorem draft_ok (ds:List Int)(o:Int)(vals:List Int)(sm:Bool)(hv:∀ v∈vals,0≤v∧v≤65535):jao (nz (nsD ds)) (wD o) (dData ds o vals sm)=true:=by
 have hb:=nsD_bd ds
 have hwb:=wD_bd o
 have hl:(dData ds o vals sm).length=PR (nsD ds)*wD o:=jhL fun j=>by simp[mkF]
 have hP:PR (nsD ds)≤64:=by
  have hbb:∀ l:List Nat,(∀ n∈l,2≤n∧n≤4)→PR l≤4^l.length:=by
   intro l
   induction l with
   | nil=>intro _;decide
   | cons x l ih=>
    intro hl
    have h3:=ih fun n hn=>hl n (by simp[hn])
    have h4:=hl x (by simp)
    rw[PR,jjq,Nat.pow_succ,jiN]
    exact Nat.mul_le_mul h3 h4.2
  exact jiS (hbb _ hb.2) (ji2 (by omega) hb.1.2)
 have hl2:PR (nsD ds)*wD o≤64*3:=Nat.mul_le_mul hP hwb.2
 unfold jao
 have e1:(nz (nsD ds)).length=(nsD ds).length:=by simp[nz]
 have e2:(nz (nsD ds)).all (fun n=>decide (2≤n∧n≤9))=true:=by
  rw[jjd]
  intro x hx
  obtain⟨n,hn,rfl⟩:=List.mem_map.1 hx
  have:=hb.2 n hn
  simp;omega
 have e3:(dData ds o vals sm).all (fun v=>decide (0≤v∧v≤65535))=true:=by
  rw[jjd]
  intro x hx
  obtain⟨j,_,hj⟩:=mem_flat hx
  unfold mkF at hj
  obtain⟨k,_,rfl⟩:=List.mem_map.1 hj
  have:=mkV_bd (sm:=sm) (w:=wD o) (m:=j) (k:=k) hv hb.1.1 (fun n hn=>by have:=hb.2 n hn;omega)
  simpa using this
 rw[e2,e3,jez]
 simp only[jiV,jiD,decide_eq_true_eq]
 refine⟨⟨by omega,by omega⟩,by omega,?_⟩
 rw[hl];simp
theorem all_c (xs:List Int):Cl 72 [.ints .i64 xs] (.fn 116 [] [.ref [.ints .i64 xs]]):=by
 refine V.en tbOk Tryz.func72 ?_
 (conv=>whnf)
 refine V.st ?_
 exact Fin.same _
theorem nz_of {size:List Int}(h:size.all (fun n=>decide (2≤n∧n≤9))=true):∃ ns:List Nat,size=nz ns∧size.map Int.toNat=ns ∧ ∀ n∈ns,2≤n∧n≤9:=by
 rw[jjd] at h
 refine⟨size.map Int.toNat,?_,rfl,fun n hn=>?_⟩
 ·unfold nz
  rw[List.map_map]
  refine List.ext_getElem (by simp) fun k h1 h2=>?_
  have:=h size[k] (List.getElem_mem h1)
  simp at this ⊢
  omega
 ·obtain⟨x,hx,rfl⟩:=List.mem_map.1 hn
  have:=h x hx
  simp at this
  omega
def upd (lt:Int→Int→Bool)(o v:List Int):List Int:=List.zipWith (fun a b=>if lt b a then b else a) o v
def mst (lt:Int→Int→Bool)(data:List Int)(w:Nat):Nat→List Int
 | 0=>slot data 0 w
 | m+1=>upd lt (mst lt data w m) (slot data ((m*w:Nat):Int) w)
theorem lt_c (a b:Int):Cl 53 [.int .i64 a,.int .i64 b] (.bool (decide (a<b))):=by
 refine V.en tbOk Tryz.func53 ?_
 (conv=>whnf)
 refine V.st ?_
 exact Fin.of rfl
theorem gt_c (a b:Int):Cl 54 [.int .i64 a,.int .i64 b] (.bool (decide (a>b))):=by
 refine V.en tbOk Tryz.func54 ?_
 (conv=>whnf)
 refine V.st ?_
 exact Fin.of rfl
theorem tpoints_c (size:List Int)(out:Int)(data:List Int):Cl 52 [gridD size out data] (.fn 92 [] [.ref [.ints .i64 size,.int .i64 out,.ints .i64 data],.ref [.fn 40 [gridD size out data] []]]):=by
 refine V.en tbOk Tryz.func52 ?_
 (conv=>whnf)
 refine V.st ?_
 exact Fin.of rfl
theorem jgq {data:List Int}{w m n:Nat}(h:data.length=n*w)(hm:m<n):(slot data ((m*w:Nat):Int) w).length=w:=by
 unfold slot
 rw[jiK,jiK]
 simp
 have:(m+1)*w≤n*w:=Nat.mul_le_mul_right w hm
 rw[Nat.add_mul] at this
 omega
theorem jcV {lt:Int→Int→Bool}{data:List Int}{w m n:Nat}(h:data.length=n*w)(hm:m≤n)(hn:0<n):(mst lt data w m).length=w:=by
 induction m with
 | zero=>have:=jgq (m:=0) h hn;simpa [mst] using this
 | succ m ih=>
  unfold mst upd
  rw[List.length_zipWith,ih (by omega),jgq h (by omega)]
  omega
theorem jfJ {lt:Int→Int→Bool}{o v:List Int}{k:Nat}{a b:Int}(ha:o[k]? = some a)(hb:v[k]? = some b)(hl:o.length=v.length) :
  ((upd lt o v).take k++o.drop k).set k (if lt b a then b else a)=(upd lt o v).take (k+1)++o.drop (k+1):=by
 have h1:=(jjn.1 ha)
 have h2:=(jjn.1 hb)
 have hul:(upd lt o v).length=o.length:=by unfold upd;rw[List.length_zipWith];omega
 have h3:((upd lt o v).take k).length=k:=by have:=h1.1;rw[jjk];omega
 have h4:(upd lt o v)[k]? = some (if lt b a then b else a):=by
  unfold upd
  rw[List.getElem?_zipWith,ha,hb]
 rw[List.set_append_right _ _ (by omega),h3,Nat.sub_self,jju h1.1,List.set_cons_zero,jjz,h4]
 simp
theorem jhb {lt:Int→Int→Bool}{o v:List Int}{k:Nat}{a:Int}(ha:o[k]? = some a)(hl:o.length=v.length):((upd lt o v).take k++o.drop k).getD k 0=a:=by
 have h1:=(jjn.1 ha)
 have hul:(upd lt o v).length=o.length:=by unfold upd;rw[List.length_zipWith];omega
 have h3:((upd lt o v).take k).length=k:=by have:=h1.1;rw[jjk];omega
 rw[jje,List.getElem?_append_right (by omega),h3,Nat.sub_self,List.getElem?_drop,Nat.add_zero,ha]
 rfl
theorem upd_same {lt:Int→Int→Bool}{o v:List Int}{k:Nat}{a b:Int}(ha:o[k]? = some a)(hb:v[k]? = some b)(hl:o.length=v.length)(h:lt b a=false) :
  (upd lt o v).take k++o.drop k=(upd lt o v).take (k+1)++o.drop (k+1):=by
 rw[← jfJ ha hb hl,h]
 have h1:=(jjn.1 ha)
 have hul:(upd lt o v).length=o.length:=by unfold upd;rw[List.length_zipWith];omega
 have h3:((upd lt o v).take k).length=k:=by have:=h1.1;rw[jjk];omega
 rw[List.set_append_right _ _ (by omega),h3,Nat.sub_self,jju h1.1,List.set_cons_zero,h1.2]
 rfl
theorem jig:type_of% @jiK∧type_of% @jiI:=⟨@jiK,@jiI⟩
theorem most_c (size : List Int) (w : Nat) (data : List Int) (g : Nat) (lt : Int → Int → Bool) (hg : jao size w data = true) (hf : ∀ a b, Cl g [.int .i64 a, .int .i64 b] (.bool (lt a b))) (hirr : ∀ a, lt a a = false) :
    Cl 51 [.fn 92 [] [.ref [.ints .i64 size, .int .i64 w, .ints .i64 data], .ref [.fn 40 [gridD size w data] []]], .fn g [] []] (.ints .i64 (mst lt data w (PR (size.map Int.toNat)))) := by
  have hG := jbv hg
  obtain ⟨ns, hn0, hn1, hn2⟩ := nz_of hG.2.2.2.2.1
  have hsl : size.length = ns.length := by rw [hn0]; simp [nz]
  have hpos : ∀ n ∈ ns, 0 < n := fun n hn => by have := hn2 n hn; omega
  have hPR := PR_le (by omega) hn2
  have hPP := je9 hpos
  have hprod : prod size = (PR ns : Nat) := by rw [hn0, jez]
  have hdl : data.length = PR ns * w := by
    have := hG.2.2.2.2.2.2.1
    rw [hprod, ← jiW] at this
    omega
  rw [hn1]
  have h1 : 1 ≤ ns.length ∧ ns.length ≤ 4 := by omega
  have hok : ∀ m, okIdx size (ixl ns m) = true := fun m => jaX.2 ⟨by rw [jat]; omega, fun k n x h1 h2 => by
    rw [hn0] at h1
    simp only [nz, List.getElem?_map, Option.map_eq_some_iff] at h1
    obtain ⟨n', h3, rfl⟩ := h1
    exact jeJ hpos h3 h2⟩
  have hvc : ∀ m, m < PR ns → Cl 40 [gridD size w data, .iarr .i64 (pad4 (ixl ns m))] (.ints .i64 (slot data ((m * w : Nat) : Int) w)) := fun m hm => by
    have hpad := jbn (hok m) hG.2.1
    have := jdh size w data _ hg hpad.1 hpad.2
    have hpz : pz (size.zip (pad4 (ixl ns m))) = (m : Int) := by
      rw [jeq (hok m), hn0]
      have := pz_ixl_aux ns hpos m 0
      rw [jiO hm] at this
      unfold pz nz
      simpa using this
    rw [hpz, ← jiW] at this
    exact this
  have hlen : size.length = ns.length := hsl
  refine V.en tbOk Tryz.func51 ?_
  (conv => whnf)
  refine V.st ?_
  refine ⟨_, _, ⟨Tryz.func92, rfl, rfl, jiE rfl⟩, ?_⟩
  (conv => whnf)
  refine V.st ?_
  repeat ((try ((with_reducible refine .ext ?_); (conv => whnf))); (with_reducible refine jaa (r := ?_) ?_ ?_); rotate_left; (focus (first | exact (all_c _))); (conv => whnf); refine V.st ?_)
  refine ⟨_, _, ⟨Tryz.func116, rfl, rfl, jiE rfl⟩, ?_⟩
  refine V.r0 @jiI ?_
  refine lp_go (ns.length) (fun k => True) (fun k => [(10, .int .i64 k)]) (fun k => [(57, .arr .i64 (pad4 ((lastL ns).take k)))]) V.wk ?_ ?_
  · trivial
  intro k hk _
  (conv => whnf)
  refine V.st ?_
  refine V.br (fun h => ?_) (fun h => ?_)
  · rw [hlen] at h
    simp only [decide_eq_true_eq] at h
    have hk1 : k < ns.length := by omega
    obtain ⟨n, hn⟩ : ∃ n, ns[k]? = some n := ⟨ns[k], jjh hk1⟩
    have hnb := hn2 n (jji hn)
    have en : size.getD k 0 = n := by rw [hn0]; simp [nz, jje, hn]
    have hll : (lastL ns)[k]? = some ((n : Int) - 1) := by simp [lastL, hn]
    have hp4 : (pad4 ((lastL ns).take k)).length = 4 := jan (by simp [lastL]; omega)
    have hps := jf0 hll (by simp [lastL]; omega)
    refine V.r0 (V.a3 jig @en hps) ?_
    exact ⟨k + 1, ⟨by omega, trivial⟩, by omega, V.wk⟩
  · rw [hlen] at h
    simp only [decide_eq_false_iff_not] at h
    have hk1 : k = ns.length := by omega
    subst hk1
    have e0 : (lastL ns).take ns.length = lastL ns := jjr (by simp [lastL])
    rw [e0]
    (conv => whnf)
    refine V.st ?_
    have e1 := ixl_pad0 h1 hn2
    have hp4l : (pad4 (lastL ns)).length = 4 := jan (by simp [lastL]; omega)
    refine jac 0 (fun k => k < PR ns) (fun k => PR ns - k) (fun k => []) (fun k => match k with
      | 0 => [(56, .arr .i64 (pad4 (ixl ns 0))), (5, .box [.nil])]
      | m + 1 => [(56, .arr .i64 (pad4 (ixl ns (m + 1)))), (5, .box [.osl 159 0 w]), (159, .arr .i64 (mst lt data w (m + 1)))]) ?_ hPP ?_
    · simp only [e1]
      exact V.wk
    intro m hm
    have hvm := hvc m hm
    have hp4 : (pad4 (ixl ns m)).length = 4 := jan (by rw [jat]; omega)
    have hvl := jgq hdl hm
    have hml := jcV (lt := lt) hdl (Nat.le_of_lt hm) hPP
    have hul : (upd lt (mst lt data w m) (slot data ((m * w : Nat) : Int) w)).length = w := by unfold upd; rw [List.length_zipWith]; omega
    cases m with
    | zero =>
      have hm0 : slot data ((0 * w : Nat) : Int) w = mst lt data w 0 := by simp [mst]
      rw [hm0] at hvm hvl hul
      have hvf : upd lt (mst lt data w 0) (mst lt data w 0) = mst lt data w 1 := by
        conv => rhs; unfold mst
        rw [hm0]
      generalize hv : mst lt data w 0 = vs at *
      (conv => whnf)
      refine V.st ?_
      repeat ((try ((with_reducible refine .ext ?_); (conv => whnf))); (with_reducible refine jaa (r := ?_) ?_ ?_); rotate_left; (focus (first | exact (hvm))); (conv => whnf); refine V.st ?_)
      refine ⟨(V.tk [0,1,2] (V.e1 3 [0] (V.e1 4 [] (V.tk [5] .done)))), [], V.pok, .go (jad ?_)⟩
      (conv => whnf)
      refine V.st ?_
      repeat ((try ((with_reducible refine .ext ?_); (conv => whnf))); (with_reducible refine jaa (r := ?_) ?_ ?_); rotate_left; (focus (first | exact (hvm))); (conv => whnf); refine V.st ?_)
      refine .inl ?_
      (conv => whnf)
      refine ⟨0, _, _, ⟨Tryz.func19, rfl, rfl, jiE rfl⟩, ?_⟩
      (conv => whnf)
      refine AnyB.mk (fun h => ?_) (fun _ => ?_)
      · have := h rfl
        rw [this] at hvl
        simp at hvl
        omega
      (conv => whnf)
      try refine And.intro (fun _ => ⟨rfl, by simp; omega⟩) ?_
      have hol : vs.length = w := hml
      have he0 : vs = (upd lt vs vs).take 0 ++ vs.drop 0 := by simp
      refine V.r0 (V.a4 @jiI @Nat.add_zero @List.nil_append.{0} hvl) ?_
      refine lp_go w (fun _ => True) (fun k => [(17, .int .i64 k)]) (fun k => [(159, .arr .i64 ((upd lt vs vs).take k ++ vs.drop k))]) ?_ trivial ?_
      · rw [← he0]
        exact V.wk
      intro k hk _
      (conv => whnf)
      refine V.st ?_
      refine V.br (fun hq => ?_) (fun hq => ?_)
      · rw [decide_eq_true_eq] at hq
        have hk1 : k < w := by omega
        obtain ⟨v, hv1, ev⟩ := getxn (xs := vs) (k := k) (by omega)
        obtain ⟨o, ho1, eo⟩ := getxn (xs := vs) (k := k) (by omega)
        have hug := jhb (lt := lt) (v := vs) ho1 (by omega)
        have hus := jfJ (lt := lt) ho1 hv1 (by omega)
        have hul2 : ((upd lt vs vs).take k ++ vs.drop k).length = w := by simp; omega
        refine V.r0 (V.a2 jig ev) ?_
        refine ⟨(V.tk [0,1,2,3,4,5] (V.e1 6 [] .done)), [], V.pok, .go (jad ?_)⟩
        (conv => whnf)
        (try simp only [jig, ev, hug])
        repeat ((first | refine V.s1 ?_ | ((try ((with_reducible refine .ext ?_); (conv => whnf); (try simp only [jig, ev, hug]))); (with_reducible refine jaa (r := ?_) ?_ ?_); rotate_left; (focus (first | exact (hf _ _))); (conv => whnf))); (try simp only [jig, ev, hug]))
        refine jbd [] [(159, .arr .i64 ((upd lt vs vs).take (k + 1) ++ vs.drop (k + 1)))] (CondB.mk (fun hc => ?_) (fun hc => ?_)) ?_
        · rw [hc, if_pos rfl] at hus
          refine V.r0 (V.a3 jig ev hus) ?_
          exact V.wk
        · have hsm := upd_same ho1 hv1 (by omega) hc
          rw [← hsm]
          (conv => whnf)
          refine V.st ?_
          exact V.wk
        (conv => whnf)
        refine V.st ?_
        exact ⟨k + 1, ⟨by omega, trivial⟩, by omega, V.wk⟩
      · rw [decide_eq_false_iff_not] at hq
        have hk1 : k = w := by omega
        subst hk1
        have hfin : (upd lt vs vs).take k ++ vs.drop k = mst lt data k 1 := by
          rw [jjr (by omega), jjs (by omega), List.append_nil]
          exact hvf
        rw [hfin]
        (conv => whnf)
        refine V.st ?_
        refine V.br (fun hq => ?_) (fun hq => ?_)
        · rw [decide_eq_true_eq] at hq
          have hq2 : ixl ns (0) = lastL ns := jf1 (by rw [jat]; simp [lastL]) hq
          have hq3 := jef ns hpos (0) hq2
          rw [jiO hm] at hq3
          have hq4 : 1 = PR ns := by omega
          have hml3 := jcV (lt := lt) hdl (Nat.le_of_eq hq4) hPP
          (conv => whnf)
          refine V.st ?_
          rw [jjr (by omega), hq4]
          exact Fin.of rfl
        · rw [decide_eq_false_iff_not] at hq
          have hq2 : ixl ns (0) ≠ lastL ns := fun e => hq (by rw [← e])
          have hil := jat ns (0)
          have hll : (lastL ns).length = ns.length := by simp [lastL]
          (conv => whnf)
          refine V.st ?_
          rw [hlen]
          have e2 : (ixl ns (0)).take ns.length = ixl ns (0) := jjr (by omega)
          refine jac (ns.length) (fun k => (1 ≤ k ∧ k ≤ ns.length) ∧ (ixl ns (0)).drop k = (lastL ns).drop k) (fun k => k) (fun k => [(7, .int .i64 ((k : Int) - 1))]) (fun k => [(56, .arr .i64 (pad4 ((ixl ns (0)).take k)))]) ?_ ?_ ?_
          · rw [e2]
            exact V.wk
          · exact ⟨⟨h1.1, jiL _⟩, by rw [jjs (by omega), jjs (by omega)]⟩
          rintro p ⟨⟨hp1, hp2⟩, hp3⟩
          obtain ⟨p, rfl⟩ : ∃ q, p = q + 1 := ⟨p - 1, by omega⟩
          obtain ⟨x, hx⟩ : ∃ x, (ixl ns (0))[p]? = some x := ⟨_, jjh (by omega)⟩
          obtain ⟨n, hn⟩ : ∃ n, ns[p]? = some n := ⟨ns[p], jjh (by omega)⟩
          have hpx := jcu hx (by omega : p < p + 1) (by omega)
          have hpl : (lastL ns)[p]? = some ((n : Int) - 1) := by simp [lastL, hn]
          have hpl2 := jcu (k := 4) hpl (by omega) (by omega)
          rw [jjr (by omega)] at hpl2
          have hp5 : (pad4 ((ixl ns (0)).take (p + 1))).length = 4 := jan (by simp; omega)
          have e3 : ((p + 1 : Nat) : Int) - 1 = (p : Int) := by omega
          have e4 := jeA hx (by omega)
          (conv => whnf)
          refine V.st ?_
          refine ⟨(V.tk [0,1,2,3,4,5,6] .done), [], V.pok, .go (jad ?_)⟩
          refine V.r0 (V.a4 jig e3 hpx hpl2) ?_
          refine V.br (fun hc => ?_) (fun hc => ?_)
          · rw [decide_eq_true_eq] at hc
            have hd : (ixl ns (0)).drop p = (lastL ns).drop p := by
              rw [jju (by omega : p < (ixl ns (0)).length), jju (by omega : p < (lastL ns).length), hp3, (jjn.1 hx).2, (jjn.1 hpl).2, hc]
            have hp0 : 1 ≤ p := by
              rcases jiM p with e | e
              · subst e; exact absurd (by simpa using hd) hq2
              · exact e
            refine V.r0 (V.a3 jig e3 e4) ?_
            exact ⟨p, ⟨⟨hp0, by omega⟩, hd⟩, by omega, V.wk⟩
          · rw [decide_eq_false_iff_not] at hc
            have hsu := jf8 ns hpos (0) p n hn x hx (by rw [hp3]; simp [lastL]) hc
            have e5 := jdt (y := x + 1) hx (by omega) (by omega : (ixl ns (0)).length ≤ 4)
            rw [hil, ← hsu] at e5
            have hxb := jeJ hpos hn hx
            have hnb := hn2 n (jji hn)
            have hm1 : 1 < PR ns := by
              rcases jiR (1) (PR ns) with e | e
              · exact e
              · exfalso
                exact hq2 (jeh ns hpos (0) (by rw [jiO hm]; omega))
            refine V.r0 (V.a4 jig e3 hpx e5) ?_
            exact ⟨1, hm1, by omega, V.wk⟩
    | succ m =>
      have hvf : upd lt (mst lt data w (m + 1)) (slot data (((m + 1) * w : Nat) : Int) w) = mst lt data w (m + 2) := by
        conv => rhs; unfold mst
      generalize hv : mst lt data w (m + 1) = vs at *
      generalize hv2 : slot data (((m + 1) * w : Nat) : Int) w = ws at *
      (conv => whnf)
      refine V.st ?_
      repeat ((try ((with_reducible refine .ext ?_); (conv => whnf))); (with_reducible refine jaa (r := ?_) ?_ ?_); rotate_left; (focus (first | exact (hvm))); (conv => whnf); refine V.st ?_)
      refine ⟨(V.tk [0,1,2] (V.e1 3 [0] (V.e1 4 [] (V.tk [5] .done)))), [], V.pok, .go (jad ?_)⟩
      (conv => whnf)
      refine V.st ?_
      repeat ((try ((with_reducible refine .ext ?_); (conv => whnf))); (with_reducible refine jaa (r := ?_) ?_ ?_); rotate_left; (focus (first | exact (hvm))); (conv => whnf); refine V.st ?_)
      have hol : vs.length = w := hml
      have he0 : vs = (upd lt vs ws).take 0 ++ vs.drop 0 := by simp
      refine V.r0 (V.a4 @jiI @Nat.add_zero @List.nil_append.{0} hvl) ?_
      refine lp_go w (fun _ => True) (fun k => [(17, .int .i64 k)]) (fun k => [(159, .arr .i64 ((upd lt vs ws).take k ++ vs.drop k))]) ?_ trivial ?_
      · rw [← he0, ← hv]
        exact V.wk
      intro k hk _
      (conv => whnf)
      refine V.st ?_
      refine V.br (fun hq => ?_) (fun hq => ?_)
      · rw [decide_eq_true_eq] at hq
        have hk1 : k < w := by omega
        obtain ⟨v, hv1, ev⟩ := getxn (xs := ws) (k := k) (by omega)
        obtain ⟨o, ho1, eo⟩ := getxn (xs := vs) (k := k) (by omega)
        have hug := jhb (lt := lt) (v := ws) ho1 (by omega)
        have hus := jfJ (lt := lt) ho1 hv1 (by omega)
        have hul2 : ((upd lt vs ws).take k ++ vs.drop k).length = w := by simp; omega
        refine V.r0 (V.a2 jig ev) ?_
        refine ⟨(V.tk [0,1,2,3,4,5] (V.e1 6 [] .done)), [], V.pok, .go (jad ?_)⟩
        (conv => whnf)
        (try simp only [jig, ev, hug])
        repeat ((first | refine V.s1 ?_ | ((try ((with_reducible refine .ext ?_); (conv => whnf); (try simp only [jig, ev, hug]))); (with_reducible refine jaa (r := ?_) ?_ ?_); rotate_left; (focus (first | exact (hf _ _))); (conv => whnf))); (try simp only [jig, ev, hug]))
        refine jbd [] [(159, .arr .i64 ((upd lt vs ws).take (k + 1) ++ vs.drop (k + 1)))] (CondB.mk (fun hc => ?_) (fun hc => ?_)) ?_
        · rw [hc, if_pos rfl] at hus
          refine V.r0 (V.a3 jig ev hus) ?_
          exact V.wk
        · have hsm := upd_same ho1 hv1 (by omega) hc
          rw [← hsm]
          (conv => whnf)
          refine V.st ?_
          exact V.wk
        (conv => whnf)
        refine V.st ?_
        exact ⟨k + 1, ⟨by omega, trivial⟩, by omega, V.wk⟩
      · rw [decide_eq_false_iff_not] at hq
        have hk1 : k = w := by omega
        subst hk1
        have hfin : (upd lt vs ws).take k ++ vs.drop k = mst lt data k (m + 2) := by
          rw [jjr (by omega), jjs (by omega), List.append_nil]
          exact hvf
        rw [hfin]
        (conv => whnf)
        refine V.st ?_
        refine V.br (fun hq => ?_) (fun hq => ?_)
        · rw [decide_eq_true_eq] at hq
          have hq2 : ixl ns (m + 1) = lastL ns := jf1 (by rw [jat]; simp [lastL]) hq
          have hq3 := jef ns hpos (m + 1) hq2
          rw [jiO hm] at hq3
          have hq4 : m + 2 = PR ns := by omega
          have hml3 := jcV (lt := lt) hdl (Nat.le_of_eq hq4) hPP
          (conv => whnf)
          refine V.st ?_
          rw [jjr (by omega), hq4]
          exact Fin.of rfl
        · rw [decide_eq_false_iff_not] at hq
          have hq2 : ixl ns (m + 1) ≠ lastL ns := fun e => hq (by rw [← e])
          have hil := jat ns (m + 1)
          have hll : (lastL ns).length = ns.length := by simp [lastL]
          (conv => whnf)
          refine V.st ?_
          rw [hlen]
          have e2 : (ixl ns (m + 1)).take ns.length = ixl ns (m + 1) := jjr (by omega)
          refine jac (ns.length) (fun k => (1 ≤ k ∧ k ≤ ns.length) ∧ (ixl ns (m + 1)).drop k = (lastL ns).drop k) (fun k => k) (fun k => [(7, .int .i64 ((k : Int) - 1))]) (fun k => [(56, .arr .i64 (pad4 ((ixl ns (m + 1)).take k)))]) ?_ ?_ ?_
          · rw [e2]
            exact V.wk
          · exact ⟨⟨h1.1, jiL _⟩, by rw [jjs (by omega), jjs (by omega)]⟩
          rintro p ⟨⟨hp1, hp2⟩, hp3⟩
          obtain ⟨p, rfl⟩ : ∃ q, p = q + 1 := ⟨p - 1, by omega⟩
          obtain ⟨x, hx⟩ : ∃ x, (ixl ns (m + 1))[p]? = some x := ⟨_, jjh (by omega)⟩
          obtain ⟨n, hn⟩ : ∃ n, ns[p]? = some n := ⟨ns[p], jjh (by omega)⟩
          have hpx := jcu hx (by omega : p < p + 1) (by omega)
          have hpl : (lastL ns)[p]? = some ((n : Int) - 1) := by simp [lastL, hn]
          have hpl2 := jcu (k := 4) hpl (by omega) (by omega)
          rw [jjr (by omega)] at hpl2
          have hp5 : (pad4 ((ixl ns (m + 1)).take (p + 1))).length = 4 := jan (by simp; omega)
          have e3 : ((p + 1 : Nat) : Int) - 1 = (p : Int) := by omega
          have e4 := jeA hx (by omega)
          (conv => whnf)
          refine V.st ?_
          refine ⟨(V.tk [0,1,2,3,4,5,6] .done), [], V.pok, .go (jad ?_)⟩
          refine V.r0 (V.a4 jig e3 hpx hpl2) ?_
          refine V.br (fun hc => ?_) (fun hc => ?_)
          · rw [decide_eq_true_eq] at hc
            have hd : (ixl ns (m + 1)).drop p = (lastL ns).drop p := by
              rw [jju (by omega : p < (ixl ns (m + 1)).length), jju (by omega : p < (lastL ns).length), hp3, (jjn.1 hx).2, (jjn.1 hpl).2, hc]
            have hp0 : 1 ≤ p := by
              rcases jiM p with e | e
              · subst e; exact absurd (by simpa using hd) hq2
              · exact e
            refine V.r0 (V.a3 jig e3 e4) ?_
            exact ⟨p, ⟨⟨hp0, by omega⟩, hd⟩, by omega, V.wk⟩
          · rw [decide_eq_false_iff_not] at hc
            have hsu := jf8 ns hpos (m + 1) p n hn x hx (by rw [hp3]; simp [lastL]) hc
            have e5 := jdt (y := x + 1) hx (by omega) (by omega : (ixl ns (m + 1)).length ≤ 4)
            rw [hil, ← hsu] at e5
            have hxb := jeJ hpos hn hx
            have hnb := hn2 n (jji hn)
            have hm1 : m + 2 < PR ns := by
              rcases jiR (m + 2) (PR ns) with e | e
              · exact e
              · exfalso
                exact hq2 (jeh ns hpos (m + 1) (by rw [jiO hm]; omega))
            refine V.r0 (V.a4 jig e3 hpx e5) ?_
            exact ⟨m + 2, hm1, by omega, V.wk⟩
theorem rl_mst {lt:Int→Int→Bool}{data:List Int}{w n:Nat}(h:data.length=n*w)(hw:0<w):∀ m,m≤n→rl lt data w (m*w)=mst lt data w m:=by
 intro m
 induction m with
 | zero=>intro _;simp[rl,mst]
 | succ m ih=>
  intro hm
  have ih:=ih (by omega)
  have hwl:w≤data.length:=by rw[h];exact Nat.le_mul_of_pos_left _ (by omega)
  have hR:=jev (lt:=lt) hwl (m*w)
  have hS:=jgq h (by omega:m<n)
  have key:∀ k,k≤w→rl lt data w (m*w+k)=(upd lt (rl lt data w (m*w)) (slot data ((m*w:Nat):Int) w)).take k++(rl lt data w (m*w)).drop k:=by
   intro k
   induction k with
   | zero=>intro _;simp
   | succ k ihk=>
    intro hk
    have ihk:=ihk (by omega)
    have e1:(m*w+k)%w=k:=by
     rw[Nat.add_comm,Nat.add_mul_mod_self_right,jiO (by omega)]
    obtain⟨a,ha⟩:∃ a,(rl lt data w (m*w))[k]? = some a:=⟨_,jjh (by omega)⟩
    obtain⟨b,hb⟩:∃ b,(slot data ((m*w:Nat):Int) w)[k]? = some b:=⟨_,jjh (by omega)⟩
    have hb2:data.getD (m*w+k) 0=b:=by
     have:=hb
     unfold slot at this
     rw[jiK,jiK,jjy (by omega),List.getElem?_drop] at this
     rw[jje,this];rfl
    have hug:=jhb (lt:=lt) (v:=slot data ((m*w:Nat):Int) w) ha (by omega)
    have hus:=jfJ (lt:=lt) ha hb (by omega)
    rw[← hus,← Nat.add_assoc]
    conv=>lhs;unfold rl
    rw[e1,ihk,hb2,hug]
  have hk:=key w (jiL _)
  have hul:(upd lt (rl lt data w (m*w)) (slot data ((m*w:Nat):Int) w)).length=w:=by unfold upd;rw[List.length_zipWith];omega
  rw[Nat.add_mul,Nat.one_mul,hk,jjr (by omega),jjs (by omega),List.append_nil,ih]
  rfl
theorem range_c (size:List Int)(out:Int)(data:List Int)(hs:size.length≤281474976710656)(hd:data.length≤281474976710656) :
  Cl 25 [gridD size out data] (.tup [.ints .i64 (if jao size out data then rl (fun a b=>decide (a<b)) data out.toNat data.length else []),.ints .i64 (if jao size out data then rl (fun a b=>decide (a>b)) data out.toNat data.length else []),.int .i64 (if jao size out data then 0 else 100)]):=by
 refine V.en tbOk Tryz.func25 ?_
 (conv=>whnf)
 refine V.st ?_
 repeat ((try ((with_reducible refine .ext ?_);(conv=>whnf)));(with_reducible refine jaa (r:=?_) ?_ ?_);rotate_left;(focus (first|exact(jcR _ _ _ hs hd)));(conv=>whnf);refine V.st ?_)
 cases hg:jao size out data with
 | false=>
  refine V.br (fun h=>?_) (fun h=>?_)
  ·(conv=>whnf)
   refine V.st ?_
   exact Fin.tup ⟨Fin.nil _,Fin.nil _,Fin.of rfl,trivial⟩
  ·simp at h
 | true=>
  have hG:=jbv hg
  obtain⟨w,rfl⟩:∃ w:Nat,out=w:=⟨out.toNat,by omega⟩
  obtain⟨ns,hn0,hn1,hn2⟩:=nz_of hG.2.2.2.2.1
  have hprod:prod size=(PR ns:Nat):=by rw[hn0,jez]
  have hdl:data.length=PR ns*w:=by
   have:=hG.2.2.2.2.2.2.1
   rw[hprod,← jiW] at this
   omega
  have e1:=rl_mst (lt:=fun a b=>decide (a<b)) hdl (by omega) (PR ns) (jiL _)
  have e2:=rl_mst (lt:=fun a b=>decide (a>b)) hdl (by omega) (PR ns) (jiL _)
  rw[← hdl] at e1 e2
  have m1:=most_c size w data 53 (fun a b=>decide (a<b)) hg lt_c (fun a=>by simp)
  have m2:=most_c size w data 54 (fun a b=>decide (a>b)) hg gt_c (fun a=>by simp)
  rw[hn1,← e1] at m1
  rw[hn1,← e2] at m2
  refine V.br (fun h=>?_) (fun h=>?_)
  ·simp at h
  (conv=>whnf)
  refine V.st ?_
  repeat ((try ((with_reducible refine .ext ?_);(conv=>whnf)));(with_reducible refine jaa (r:=?_) ?_ ?_);rotate_left;(focus (first|exact(tpoints_c _ _ _)|exact(m1)|exact(m2)));(conv=>whnf);refine V.st ?_)
  exact Fin.of rfl
theorem pzf (ns:List Nat)(x:List Int)(p:Int):x.length=ns.length→((nz ns).zip x).foldl (fun p a=>p*a.1+a.2) p=p*(PR ns:Int)+pz ((nz ns).zip x):=by
 induction ns generalizing x p with
 | nil=>intro _;simp[pz,nz,PR]
 | cons n r ih=>
  intro hl
  cases x with
  | nil=>simp at hl
  | cons a s=>
   have hl':s.length=r.length:=by simpa using hl
   simp only[nz,List.map_cons,List.zip_cons_cons,List.foldl_cons,pz,PR]
   have e1:=ih s (p*(n:Int)+a) hl'
   have e2:=ih s (0*(n:Int)+a) hl'
   simp only[nz] at e1 e2
   rw[e1,e2]
   simp only[jiW,ji7,jiZ,Int.zero_mul,Int.zero_add]
   omega
theorem pz_cons (n:Nat)(r:List Nat)(a:Int)(s:List Int)(h:s.length=r.length):pz ((nz (n::r)).zip (a::s))=a*(PR r:Int)+pz ((nz r).zip s):=by
 have:=pzf r s a h
 unfold pz at this ⊢
 simp only[nz,List.map_cons,List.zip_cons_cons,List.foldl_cons,Int.zero_mul,Int.zero_add] at this ⊢
 exact this
theorem ixl_pz:∀ (ns:List Nat) (x:List Int),okIdx (nz ns) x=true→(0≤pz ((nz ns).zip x)∧pz ((nz ns).zip x)<PR ns)∧ixl ns (pz ((nz ns).zip x)).toNat=x
 | [],x,h=>by
  have h1:=(jaX.1 h).1
  simp[nz] at h1
  subst h1
  simp[pz,nz,PR,ixl]
 | n::r,[],h=>by
  have h1:=(jaX.1 h).1
  simp[nz] at h1
 | n::r,a::s,h=>by
  obtain⟨h1,h2⟩:=jaX.1 h
  have hl:s.length=r.length:=by simpa [nz] using h1
  have ha:=h2 0 n a (by simp[nz]) rfl
  have hr:okIdx (nz r) s=true:=jaX.2 ⟨by simpa [nz] using hl,fun k n' x' g1 g2=>h2 (k+1) n' x' (by simpa [nz] using g1) (by simpa using g2)⟩
  obtain⟨⟨i1,i2⟩,i3⟩:=ixl_pz r s hr
  rw[pz_cons n r a s hl]
  have hpos:∀ y∈r,0<y:=fun y hy=>by
   obtain⟨k,hk⟩:=List.getElem?_of_mem hy
   have hk2:k<s.length:=by have:=(jjn.1 hk).1;omega
   have:=h2 (k+1) y s[k] (by simp[nz,hk]) (by simp[hk2])
   omega
  have hP:=je9 hpos
  generalize pz ((nz r).zip s)=q at *
  obtain⟨q,rfl⟩:∃ m:Nat,q=m:=⟨q.toNat,by omega⟩
  obtain⟨a,rfl⟩:∃ m:Nat,a=m:=⟨a.toNat,by omega⟩
  have e:((a:Int)*(PR r:Int)+(q:Int))=((a*PR r+q:Nat):Int):=by simp
  have hq:q<PR r:=by omega
  have han:a<n:=by omega
  rw[e,jiK] at *
  refine⟨⟨by omega,?_⟩,?_⟩
  ·have:a*PR r+q<(a+1)*PR r:=by rw[Nat.add_mul];omega
   have h5:(a+1)*PR r≤n*PR r:=Nat.mul_le_mul_right _ han
   rw[PR]
   omega
  ·have e1:(a*PR r+q)/PR r=a:=by
    rw[jiN,Nat.mul_add_div hP,Nat.div_eq_of_lt hq,Nat.add_zero]
   have e2:ixl r (a*PR r+q)=s:=by
    rw[← jhF r hpos,jiN,Nat.mul_add_mod,jhF r hpos]
    exact i3
   simp only[ixl,e1,e2,jiO han]
structure Ord (lt:Int→Int→Bool):Prop where
 irr:∀ a,lt a a=false
 tr:∀ a b c,lt b a=false→lt c b=false→lt c a=false
 anti:∀ a b,lt a b=false→lt b a=false→a=b
 asym:∀ a b,lt a b=true→lt b a=false
theorem ord_lt:Ord fun a b=>decide (a<b):=⟨fun a=>by simp,fun a b c h1 h2=>by simp at *; omega,fun a b h1 h2=>by simp at *; omega,fun a b h=>by simp at *; omega⟩
theorem ord_gt:Ord fun a b=>decide (a>b):=⟨fun a=>by simp,fun a b c h1 h2=>by simp at *; omega,fun a b h1 h2=>by simp at *; omega,fun a b h=>by simp at *; omega⟩
def col (data:List Int)(w m k:Nat):Int:=(slot data ((m*w:Nat):Int) w).getD k 0
theorem updGet {lt:Int→Int→Bool}{o v:List Int}{k:Nat}(h1:k<o.length)(h2:k<v.length):(upd lt o v).getD k 0=if lt (v.getD k 0) (o.getD k 0) then v.getD k 0 else o.getD k 0:=by
 unfold upd
 simp[jje,List.getElem?_zipWith,h1,h2]
theorem mst_spec {lt:Int→Int→Bool}(O:Ord lt){data:List Int}{w n:Nat}(h:data.length=n*w){k:Nat}(hk:k<w):∀ m,m≤n→0<n →
  (∀ j,j<m→lt (col data w j k) ((mst lt data w m).getD k 0)=false) ∧ ∃ j,j<max m 1∧(mst lt data w m).getD k 0=col data w j k:=by
 intro m
 induction m with
 | zero=>intro _ _;exact⟨fun j hj=>by omega,0,by omega,by simp[mst,col]⟩
 | succ m ih=>
  intro hm hn
  obtain⟨h1,j,hj,h2⟩:=ih (by omega) hn
  have hl1:=jcV (lt:=lt) h (by omega:m≤n) hn
  have hl2:=jgq h (by omega:m<n)
  have hu:=updGet (lt:=lt) (o:=mst lt data w m) (v:=slot data ((m*w:Nat):Int) w) (k:=k) (by omega) (by omega)
  have hc:(slot data ((m*w:Nat):Int) w).getD k 0=col data w m k:=rfl
  rw[hc] at hu
  simp only[mst]
  rw[hu]
  cases hb:lt (col data w m k) ((mst lt data w m).getD k 0) with
  | true=>
   rw[if_pos rfl]
   refine⟨fun i hi=>?_,m,by omega,rfl⟩
   by_cases him:i=m
   ·subst him;exact O.irr _
   ·have h3:=h1 i (by omega)
    cases hc2:lt (col data w i k) (col data w m k) with
    | false=>rfl
    | true=>
     have h4:=O.asym _ _ hb
     rw[O.tr _ _ _ h4 h3] at hc2
     cases hc2
  | false=>
   rw[if_neg (by simp)]
   refine⟨fun i hi=>?_,j,by omega,h2⟩
   by_cases him:i=m
   ·subst him;exact hb
   ·exact h1 i (by omega)
def sg (ns:List Nat)(a b m:Nat):Nat:=(pz ((nz ns).zip (swp (ixl (swn ns a b) m) a b))).toNat
end Go.Proofs.YtgjgpdceghjajaaGreatDoor
end
