/- What functions of the program answer at given values, part 14. Conditions: those that each theorem names. -/
import Derived.Test.YtbhpaandigaanaaGreatDoorLocateBackH13
import Derived.Test.YtbhpaandigaanaaGreatDoorLocateBackH10
import Derived.Test.YtbhpaandigaanaaGreatDoorLocateBackH12
import Derived.Test.YtbhpaandigaanaaGreatDoorLocateBackH11
import Derived.Test.YtbhpaandigaanaaGreatDoorLocateBackH6
set_option linter.unusedSimpArgs false
set_option linter.unusedVariables false
set_option maxHeartbeats 8000000
set_option maxRecDepth 100000
section
namespace Go.Proofs.YtbhpaandigaanaaGreatDoor
open Go Go.V Go.Nb
def fl7 (k:Nat):List Int:=List.replicate k 7++cubeL.drop k
theorem fl7_len {k:Nat}(h:k≤24):(fl7 k).length=24:=by
 unfold fl7
 simp[cubeL]
 omega
theorem fl7_set {k:Nat}(h:k<24):(fl7 k).set k 7=fl7 (k+1):=by
 unfold fl7
 rw[List.set_append_right _ _ (by simp),List.length_replicate,jhq,List.replicate_succ',jhM]
 congr 1
 have hl:k<cubeL.length:=by simpa [cubeL] using h
 rw[List.drop_eq_getElem_cons hl]
 rfl
theorem ex_none:locR (sz3 2 2 2) 3 (fl7 24) [7,7,7] = .tup [.nil,.int .i64 0,.int .i64 4]:=
 jdX (t:=(7,7,7)) (by decide +kernel) (by decide +kernel)
theorem ex_a:locR (sz3 2 2 2) 3 cubeL [0,0,65536] = .tup [.nil,.int .i64 0,.int .i64 2]:=by
 have h:chk (sz3 2 2 2) 3 cubeL [0,0,65536]=2:=by decide +kernel
 rw[jgj (by rw[h];decide),h]
theorem ex_b:locR (sz3 2 2 2) 3 cubeL [0,0] = .tup [.nil,.int .i64 0,.int .i64 2]:=by
 have h:chk (sz3 2 2 2) 3 cubeL [0,0]=2:=by decide +kernel
 rw[jgj (by rw[h];decide),h]
theorem ex_n:hdsR (sz3 2 2 2) 3 cubeL [0,0,0] = .tup [.int .i64 6,.int .i64 0]:=by
 have h:=jgm (s0:=2) (s1:=2) (s2:=2) (data:=cubeL) (t:=(0,0,0)) (by decide +kernel)
 have e:cntN cubeL 2 2 (6*jaW 2 2 2) (0,0,0)=6:=by decide +kernel
 rw[e] at h
 exact h
theorem jgr {s0 s1 s2 n:Nat}{data:List Int}{t:V3}{a b e d:Int}{q0 q1 q2:Rat}(h:chk (sz3 s0 s1 s2) 3 data (v3L t)=0)(hf:fndN data s0 s1 s2 t=some n)(hr:hldN data s1 s2 n t=some (a,b,e,d))
  (h0:frq (cellN s1 s2 n).1 (rs3 (n%6) a b e).1 d s0=q0) (h1:frq (cellN s1 s2 n).2.1 (rs3 (n%6) a b e).2.1 d s1=q1) (h2:frq (cellN s1 s2 n).2.2 (rs3 (n%6) a b e).2.2 d s2=q2) :
  locR (sz3 s0 s1 s2) 3 data (v3L t) = .tup [.slf 2 3 (frF q0 q1 q2),.int .i64 n,.int .i64 0]:=by
 rw[jdW h hf hr]
 unfold resF
 rw[h0,h1,h2]
theorem ex_f1:locR (sz3 2 2 2) 3 cubeL (v3L (13107,26214,39321)) = .tup [.slf 2 3 (frF (Rat.divInt 1 5) (Rat.divInt 2 5) (Rat.divInt 3 5)),.int .i64 (5:Nat),.int .i64 0]:=
 jgr (a:=56292418401075) (b:=56292418401075) (e:=56292418401075) (d:=281462092005375) (by decide +kernel) (by decide +kernel) (by decide +kernel) (by decide +kernel) (by decide +kernel) (by decide +kernel)
theorem ex_f2:locR (sz3 2 2 2) 3 cubeL (v3L (0,0,0)) = .tup [.slf 2 3 (frF (Rat.divInt 0 1) (Rat.divInt 0 1) (Rat.divInt 0 1)),.int .i64 (0:Nat),.int .i64 0]:=
 jgr (a:=0) (b:=0) (e:=0) (d:=281462092005375) (by decide +kernel) (by decide +kernel) (by decide +kernel) (by decide +kernel) (by decide +kernel) (by decide +kernel)
theorem ex_f3:locR (sz3 2 2 2) 3 cubeL (v3L (65535,1,0)) = .tup [.slf 2 3 (frF (Rat.divInt 1 1) (Rat.divInt 1 65535) (Rat.divInt 0 1)),.int .i64 (0:Nat),.int .i64 0]:=
 jgr (a:=281457797169150) (b:=4294836225) (e:=0) (d:=281462092005375) (by decide +kernel) (by decide +kernel) (by decide +kernel) (by decide +kernel) (by decide +kernel) (by decide +kernel)
theorem jgO:type_of% @jhD ∧ type_of% @jhW ∧ type_of% @jhS ∧ type_of% @List.length_nil.{0} ∧ type_of% @jhR ∧ type_of% @List.take_succ_cons.{0} ∧ type_of% @List.take_zero.{0} ∧ type_of% @jg8:=⟨@jhD,@jhW,@jhS,@List.length_nil.{0},@jhR,@List.take_succ_cons.{0},@List.take_zero.{0},@jg8⟩
theorem jgU:type_of% @jhW ∧ type_of% @jg8∧type_of% @tn0∧type_of% @tn1∧type_of% @tn2∧type_of% @tn3:=⟨@jhW,@jg8,@tn0,@tn1,@tn2,@tn3⟩
theorem works_c:Cl 4 [] (.bool true):=by
 have hcube:=cube_c
 have l24:=fl7_len (k:=24) (jhb _)
 have f1:=jd6 (t:=(13107,26214,39321)) (dt' := .agg [.int .i64 13107,.int .i64 26214,.int .i64 39321]) .agg (by decide) (by decide) ex_f1
 have f2:=jd6 (t:=(0,0,0)) (dt' := .agg [.int .i64 0,.int .i64 0,.int .i64 0]) .agg (by decide) (by decide) ex_f2
 have f3:=jd6 (t:=(65535,1,0)) (dt' := .agg [.int .i64 65535,.int .i64 1,.int .i64 0]) .agg (by decide) (by decide) ex_f3
 have o15:=ja6 1 5 (by omega) (by omega)
 have o25:=ja6 2 5 (by omega) (by omega)
 have o35:=ja6 3 5 (by omega) (by omega)
 have o01:=ja6 0 1 (by omega) (by omega)
 have o11:=ja6 1 1 (by omega) (by omega)
 have o1m:=ja6 1 65535 (by omega) (by omega)
 have g1:=jcS (sz3 2 2 2) 3 (fl7 24) [7,7,7] (by decide) (by omega) (by decide)
 rw[ex_none] at g1
 have g2:=jcS (sz3 2 2 2) 3 cubeL [0,0,65536] (by decide) (by decide) (by decide)
 rw[ex_a] at g2
 have g3:=jcS (sz3 2 2 2) 3 cubeL [0,0] (by decide) (by decide) (by decide)
 rw[ex_b] at g3
 have g4:=holds_c (sz3 2 2 2) 3 cubeL [0,0,0] (by decide) (by decide) (by decide)
 rw[ex_n] at g4
 generalize Rat.divInt 1 5=q15 at *
 generalize Rat.divInt 2 5=q25 at *
 generalize Rat.divInt 3 5=q35 at *
 generalize Rat.divInt 0 1=q01 at *
 generalize Rat.divInt 1 1=q11 at *
 generalize Rat.divInt 1 65535=q1m at *
 unfold frF frC at f1 f2 f3
 unfold frC at o15 o25 o35 o01 o11 o1m
 simp only[jhD,jhR] at f1 f2 f3
 have hset:=@fl7_set
 have hlen:=@fl7_len
 have h0:cubeL=fl7 0:=rfl
 unfold gridD sz3 at hcube g1 g2 g3 g4 f1 f2 f3
 obtain⟨c24,hc24⟩:∃ c,cubeL=c:=⟨_,rfl⟩
 rw[hc24] at hcube g2 g3 g4 f1 f2 f3
 refine V.en tbOk Tryz.func4 ?_
 refine V.r0 @jg8 ?_
 refine .ext ?_
 (conv=>whnf)
 refine jaa (r:=?_) ?_ ?_
 rotate_left
 ·exact hcube
 refine V.r0 @jg8 ?_
 refine .inl ?_
 (conv=>whnf)
 refine⟨0,_,_,⟨Tryz.func13,rfl,rfl,jg1 rfl⟩,?_⟩
 refine V.r0 @jg8 ?_
 refine Lp.ghostBox 124 104 2 .i64 (by decide) (by decide) ?_
 (conv=>whnf)
 refine jae (0) (fun k=>k≤8) (fun k=>8-k) (fun k=>[(5,.int .i64 k)]) (fun k=>[(104,.box [.osl 106 0 3,.int .i64 3,.osl 124 0 (3*k)]),(124,.arr .i64 (cubeK k))]) ?_ ?_ ?_
 ·exact V.wk
 ·exact jg2 _
 intro k hk
 have hk9:k=0∨k=1∨k=2∨k=3∨k=4∨k=5∨k=6∨k=7∨k=8:=by omega
 rcases hk9 with e|e|e|e|e|e|e|e|e
 ·subst e
  rw[show cubeK 0=([]:List Int) from rfl,show 3*0=0 from rfl]
  simp only[k0]
  refine V.r0 jgO ?_
  try refine And.intro (fun _=>⟨rfl,by simp⟩) ?_
  refine V.r0 jgO ?_
  exact⟨1,by omega,by omega,V.wk⟩
 ·subst e
  rw[show cubeK 1=[0,0,0] from rfl,show 3*1=3 from rfl]
  simp only[k1]
  refine V.r0 jgO ?_
  try refine And.intro (fun _=>⟨rfl,by simp⟩) ?_
  refine V.r0 jgO ?_
  exact⟨2,by omega,by omega,V.wk⟩
 ·subst e
  rw[show cubeK 2=[0,0,0,0,0,65535] from rfl,show 3*2=6 from rfl]
  simp only[k2]
  refine V.r0 jgO ?_
  try refine And.intro (fun _=>⟨rfl,by simp⟩) ?_
  refine V.r0 jgO ?_
  exact⟨3,by omega,by omega,V.wk⟩
 ·subst e
  rw[show cubeK 3=[0,0,0,0,0,65535,0,65535,0] from rfl,show 3*3=9 from rfl]
  simp only[k3]
  refine V.r0 jgO ?_
  try refine And.intro (fun _=>⟨rfl,by simp⟩) ?_
  refine V.r0 jgO ?_
  exact⟨4,by omega,by omega,V.wk⟩
 ·subst e
  rw[show cubeK 4=[0,0,0,0,0,65535,0,65535,0,0,65535,65535] from rfl,show 3*4=12 from rfl]
  simp only[k4]
  refine V.r0 jgO ?_
  try refine And.intro (fun _=>⟨rfl,by simp⟩) ?_
  refine V.r0 jgO ?_
  exact⟨5,by omega,by omega,V.wk⟩
 ·subst e
  rw[show cubeK 5=[0,0,0,0,0,65535,0,65535,0,0,65535,65535,65535,0,0] from rfl,show 3*5=15 from rfl]
  simp only[k5]
  refine V.r0 jgO ?_
  try refine And.intro (fun _=>⟨rfl,by simp⟩) ?_
  refine V.r0 jgO ?_
  exact⟨6,by omega,by omega,V.wk⟩
 ·subst e
  rw[show cubeK 6=[0,0,0,0,0,65535,0,65535,0,0,65535,65535,65535,0,0,65535,0,65535] from rfl,show 3*6=18 from rfl]
  simp only[k6]
  refine V.r0 jgO ?_
  try refine And.intro (fun _=>⟨rfl,by simp⟩) ?_
  refine V.r0 jgO ?_
  exact⟨7,by omega,by omega,V.wk⟩
 ·subst e
  rw[show cubeK 7=[0,0,0,0,0,65535,0,65535,0,0,65535,65535,65535,0,0,65535,0,65535,65535,65535,0] from rfl,show 3*7=21 from rfl]
  simp only[k7]
  refine V.r0 jgO ?_
  try refine And.intro (fun _=>⟨rfl,by simp⟩) ?_
  refine V.r0 jgO ?_
  exact⟨8,by omega,by omega,V.wk⟩
 subst e
 have e8:cubeK 8=fl7 0:=rfl
 rw[e8]
 refine V.r0 (V.a2 @jg8 @k8) ?_
 refine jae (0) (fun k=>k≤24) (fun k=>24-k) (fun k=>[(21,.int .i64 k)]) (fun k=>[(124,.arr .i64 (fl7 k))]) ?_ ?_ ?_
 ·exact V.wk
 ·exact jg2 _
 intro k hk
 have hlk:=hlen hk
 refine V.r0 @jg8 ?_
 refine V.br (fun hq=>?_) (fun hq=>?_)
 ·have hk2:k<24:=by
   simp at hq
   omega
  have hs:=hset hk2
  refine V.r0 (V.a3 @jg8 @jha hs) ?_
  exact⟨k+1,by omega,by omega,V.wk⟩
 have hk2:k=24:=by
  simp at hq
  omega
 subst hk2
 have ht1:List.take 24 (fl7 24)=fl7 24:=jhT (by omega)
 have ht2:List.take (3*8) (fl7 24)=fl7 24:=jhT (by omega)
 refine V.r4 (V.a3 jgU ht1 ht2) g1 g2 g3 g4 ?_
 refine⟨(V.tk [0,1] (V.e1 2 [1,0] (V.e1 3 [1,0] (V.e1 4 [1,0] (V.e1 5 [1,0] (V.e1 6 [] (V.tk [7,8,9] (V.e1 10 [9,8] (V.e1 11 [9,8] (V.e1 12 [9,8] (V.e1 13 [9,8] (V.e1 14 [] (V.tk [15,16,17,18] (V.e1 19 [18,17] (V.e1 20 [18,17] (V.e1 21 [18,17] (V.e1 22 [18,17] (V.e1 23 [] (V.tk [24,25] .done))))))))))))))))))),[],V.pok,?_⟩
 refine jad [(15,.bool true)] [] ?_ ?_
 ·(conv=>whnf);(try simp only[jgU,ht1,ht2])
  repeat' (first|exact V.wk|((with_reducible refine And.intro ?_ jaS);(conv=>whnf);(try simp only[jgU,ht1,ht2]))|((with_reducible first|refine jaF ?_ ?_|refine jaP ?_ ?_)<;>(conv=>whnf);(try simp only[jgU,ht1,ht2]))|((first|refine V.s1 ?_|((with_reducible refine jat ?_ ?_);(focus ((conv=>whnf);(try simp only[jgU,ht1,ht2]);(repeat ((first|refine V.s1 ?_);(try simp only[jgU,ht1,ht2])));exact⟨rfl⟩));(conv=>whnf))|((try ((with_reducible refine .ext ?_);(conv=>whnf);(try simp only[jgU,ht1,ht2])));(with_reducible refine jaa (r:=?_) ?_ ?_);rotate_left;(focus (first|exact(o15)|exact(o25)|exact(o35)|exact(o01)|exact(o11)|exact(o1m)|exact(f1)|exact(f2)|exact(f3)));(conv=>whnf)));(try simp only[jgU,ht1,ht2]))|(refine And.intro ?_ ?_<;>(conv=>whnf);(try simp only[jgU,ht1,ht2])))
 refine V.r0 @jg8 ?_
 exact Fin.of rfl
end Go.Proofs.YtbhpaandigaanaaGreatDoor
end
section
namespace Go.Proofs.YtbhpaandigaanaaGreatDoor
open Go Go.V
theorem cnt_none {data:List Int}{s1 s2 m:Nat}{t:V3}(h:∀ n,n<m→hldN data s1 s2 n t=none):cntN data s1 s2 m t=0:=by
 unfold cntN
 rw[jhG,List.filter_eq_nil_iff]
 intro n hn
 rw[h n (List.mem_range.1 hn)]
 simp
end Go.Proofs.YtbhpaandigaanaaGreatDoor
end
section
namespace Go.Proofs.YtbhpaandigaanaaGreatDoor
open Go Go.V Go.Nb Go.Gr
theorem cu_ok {s0 s1 s2:Nat}{data:List Int}(C:Cu s0 s1 s2 data):jaw (sz3 s0 s1 s2) 3 data=true:=by
 have h0:=C.h0
 have h1:=C.h1
 have h2:=C.h2
 have hl:=C.hl
 have e:prod (sz3 s0 s1 s2)=((s0*s1*s2:Nat):Int):=by
  show (1*(s0:Int))*s1*s2=_
  simp only[jhz,jho]
 have b:s0*s1*s2≤9*9*9:=jhj (jhj h0.2 h1.2) h2.2
 unfold jaw
 simp only[jg0,decide_eq_true_eq,jhE]
 refine⟨⟨⟨⟨by show 1≤3∧3≤4;omega,by omega⟩,fun n hn=>?_⟩,?_⟩,C.hd⟩
 ·simp only[sz3,jhH,List.not_mem_nil,or_false] at hn
  omega
 ·rw[e];omega
theorem beval_c {s0 s1 s2:Nat}{data:List Int}{t:V3}{q0 q1 q2:Rat}(C:Cu s0 s1 s2 data)(hq:Fq 40 q0∧Fq 40 q1∧Fq 40 q2)(ht:∀ j,j<3→evQ (sz3 s0 s1 s2) 3 data q0 q1 q2 j=Rat.divInt (cp3 j t) 65535) :
  Cl 10 [gridD (sz3 s0 s1 s2) 3 data,.slf 2 3 (frF q0 q1 q2)] (.tup [.slf 2 3 (frF (Rat.divInt t.1 65535) (Rat.divInt t.2.1 65535) (Rat.divInt t.2.2 65535)),.int .i64 0]):=by
 have c:=evalq3 (z0:=(s0:Int)) (z1:=s1) (z2:=s2) (out:=3) (data:=data) (cu_ok C) hq.1 hq.2.1 hq.2.2
 have w:wce (fun j=>txq (evQ [(s0:Int),(s1:Int),(s2:Int)] 3 data q0 q1 q2 j)) 3=frC (Rat.divInt t.1 65535)++frC (Rat.divInt t.2.1 65535)++frC (Rat.divInt t.2.2 65535):=by
  have e0:=ht 0 (by omega)
  have e1:=ht 1 (by omega)
  have e2:=ht 2 (by omega)
  unfold sz3 at e0 e1 e2
  simp only[wce,e0,e1,e2]
  rfl
 unfold slQ at c
 rw[show (3:Int).toNat=3 from rfl,w] at c
 exact c
theorem zrcmp22 {a b:Nat}{p q:Rat}(h:Fq a p)(g:Fq b q)(ha:0<a∧a≤600)(hb:0<b∧b≤600):Cl 11 [frT p,frT q] (.tup [.int .i64 (ordQ p q),.int .i64 0]):=by
 obtain⟨o1,e1⟩:=ja0 (h.ok ha.1 ha.2)
 obtain⟨o2,e2⟩:=ja0 (g.ok hb.1 hb.2)
 have r1:=jfu _ _ (je9 o1).1 (je9 o1).2
 have r2:=jfu _ _ (je9 o2).1 (je9 o2).2
 rw[o1] at r1
 rw[o2] at r2
 have i1:=in02_c _ _ o1
 have i2:=in02_c _ _ o2
 rw[e1] at i1
 rw[e2] at i2
 have q1:=q4_qv o1
 have q2:=q4_qv o2
 rw[e1] at q1
 rw[e2] at q2
 have od:=order02_c p q (q1.mono (by omega)) (q2.mono (by omega))
 unfold frT
 generalize ordQ p q=w at *
 refine V.en tbOk Tryz.func11 ?_
 (conv=>whnf)
 refine V.st ?_
 repeat ((try ((with_reducible refine .ext ?_);(conv=>whnf)));(with_reducible refine jaa (r:=?_) ?_ ?_);rotate_left;(focus (first|exact(r1)|exact(r2)));(conv=>whnf);refine V.st ?_)
 refine⟨(V.tk [0,2] (V.e1 1 [2] (V.e1 3 [] (V.e1 4 [] (V.tk [5,6] .done))))),[],V.pok,.go (jab ?_)⟩
 (conv=>whnf)
 refine V.st ?_
 repeat ((try ((with_reducible refine .ext ?_);(conv=>whnf)));(with_reducible refine jaa (r:=?_) ?_ ?_);rotate_left;(focus (first|exact(i1)|exact(i2)|exact(od)));(conv=>whnf);refine V.st ?_)
 exact Fin.of rfl
theorem jdg {q:Rat}(h:Fq 40 q)(h0:0≤q):∃ a:Int,0≤a∧Cl 11 [.agg (frC q),.agg (frC (Rat.divInt 0 1))] (.tup [.int .i64 a,.int .i64 0]):=by
 have g:Fq 1 (Rat.divInt 0 1):=⟨by decide +kernel,by decide +kernel⟩
 refine⟨ordQ q (Rat.divInt 0 1),?_,zrcmp22 h g (by decide) (by decide)⟩
 unfold ordQ
 rw[if_neg (by rw[show Rat.divInt 0 1=0 from rfl];exact Rat.not_lt.2 h0)]
 split<;>omega
theorem jdf {q:Rat}(h:Fq 40 q)(h0:q≤1):∃ a:Int,a≤0∧Cl 11 [.agg (frC q),.agg (frC (Rat.divInt 1 1))] (.tup [.int .i64 a,.int .i64 0]):=by
 have g:Fq 1 (Rat.divInt 1 1):=⟨by decide +kernel,by decide +kernel⟩
 refine⟨ordQ q (Rat.divInt 1 1),?_,zrcmp22 h g (by decide) (by decide)⟩
 unfold ordQ
 rw[show Rat.divInt 1 1=1 from rfl]
 by_cases e:q<1
 ·rw[if_pos e];omega
 ·rw[if_neg e,if_pos (Rat.le_antisymm h0 (Rat.not_lt.1 e))];omega
theorem fnd_in {data:List Int}{s0 s1 s2 n:Nat}{t:V3}(h:fndN data s0 s1 s2 t=some n):n<6*jaW s0 s1 s2∧(∃ a b e d,hldN data s1 s2 n t=some (a,b,e,d))∧1≤cntN data s1 s2 (6*jaW s0 s1 s2) t:=by
 unfold fndN at h
 have h1:=List.find?_some h
 have h2:=List.mem_range.1 (List.mem_of_find?_eq_some h)
 refine⟨h2,?_,?_⟩
 ·cases e:hldN data s1 s2 n t with
  | none=>rw[e] at h1;cases h1
  | some r=>exact⟨r.1,r.2.1,r.2.2.1,r.2.2.2,rfl⟩
 ·unfold cntN
  refine List.length_pos_of_mem (a:=n) (jhX.2 ⟨List.mem_range.2 h2,h1⟩)
theorem th_cu (ds vals:List Int)(sm:Bool)(hv:∀ v∈vals,0≤v∧v≤65535):Cu (th1 ds 0) (th1 ds 1) (th1 ds 2) (jew ds vals sm):=by
 have b0:=jex ds 0
 have b1:=jex ds 1
 have b2:=jex ds 2
 refine⟨by omega,by omega,by omega,?_,fun v h=>?_⟩
 ·unfold jew
  rw[jgp (w:=3) fun j=>by simp[mkF]]
  simp only[thrD,PR,Nat.mul_one]
  rw[jhf,Nat.mul_assoc]
 ·unfold jew at h
  obtain⟨j,_,hj⟩:=mem_flat h
  obtain⟨k,_,rfl⟩:=List.mem_map.1 hj
  refine mkV_bd hv (by simp[thrD]) fun n hn=>?_
  simp only[thrD,jhH,List.not_mem_nil,or_false] at hn
  rcases hn with rfl|rfl|rfl<;>omega
theorem cg_cu (a b c:Int)(m off:List Int):Cu (s3 a) (s3 b) (s3 c) (cbL m off (s3 b) (s3 c) (s3 a*s3 b*s3 c*3)):=by
 have b0:=s3_bd a
 have b1:=s3_bd b
 have b2:=s3_bd c
 exact⟨by omega,by omega,by omega,by rw[cbL_len,jhf],cbL_bd _ _ _ _ _⟩
theorem cells_e {s0 s1 s2:Nat}{data:List Int}(C:Cu s0 s1 s2 data):((6*jaW s0 s1 s2:Nat):Int)=6*((s0:Int)-1)*((s1:Int)-1)*((s2:Int)-1):=by
 have h0:=C.h0
 have h1:=C.h1
 have h2:=C.h2
 unfold jaW
 rw[jho,jho,jho,Int.natCast_sub (by omega),Int.natCast_sub (by omega),Int.natCast_sub (by omega)]
 grind
theorem cells_b {s0 s1 s2:Nat}{data:List Int}(C:Cu s0 s1 s2 data):((0≤6*((s0:Int)-1)∧6*((s0:Int)-1)≤48)∧0≤6*((s0:Int)-1)*((s1:Int)-1)∧6*((s0:Int)-1)*((s1:Int)-1)≤384)∧0≤6*((s0:Int)-1)*((s1:Int)-1)*((s2:Int)-1)∧6*((s0:Int)-1)*((s1:Int)-1)*((s2:Int)-1)≤3072:=by
 have h0:=C.h0
 have h1:=C.h1
 have h2:=C.h2
 have a:0≤6*((s0:Int)-1)∧6*((s0:Int)-1)≤48:=by omega
 have b:0≤6*((s0:Int)-1)*((s1:Int)-1)∧6*((s0:Int)-1)*((s1:Int)-1)≤48*8:=⟨jg4 a.1 (by omega),Int.mul_le_mul a.2 (by omega) (by omega) (by omega)⟩
 exact⟨⟨a,b⟩,jg4 b.1 (by omega),Int.mul_le_mul b.2 (show (s2:Int)-1≤8 by omega) (by omega) (by omega)⟩
structure Bk (g l:D)(t:V3)(m:Int)(q0 q1 q2:Rat)(n c:Int):Prop where
 b0:0≤q0∧q0≤1
 b1:0≤q1∧q1≤1
 b2:0≤q2∧q2≤1
 f0:Fq 40 q0
 f1:Fq 40 q1
 f2:Fq 40 q2
 n0:0≤n∧n<m
 c0:1≤c
 loc:Cl 8 [g,l] (.tup [.slf 2 3 (frF q0 q1 q2),.int .i64 n,.int .i64 0])
 hds:Cl 9 [g,l] (.tup [.int .i64 c,.int .i64 0])
 ev:Cl 10 [g,.slf 2 3 (frF q0 q1 q2)] (.tup [.slf 2 3 (frF (Rat.divInt t.1 65535) (Rat.divInt t.2.1 65535) (Rat.divInt t.2.2 65535)),.int .i64 0])
theorem back_w {s0 s1 s2:Nat}{data:List Int}{t:V3}(C:Cu s0 s1 s2 data)(vt:Vl t) :
  (Cl 8 [gridD (sz3 s0 s1 s2) 3 data,.ints .i64 (v3L t)] (.tup [.nil,.int .i64 0,.int .i64 4])∧Cl 9 [gridD (sz3 s0 s1 s2) 3 data,.ints .i64 (v3L t)] (.tup [.int .i64 0,.int .i64 0])) ∨
   ∃ q0 q1 q2 n c,Bk (gridD (sz3 s0 s1 s2) 3 data) (.ints .i64 (v3L t)) t (6*jaW s0 s1 s2:Nat) q0 q1 q2 n c:=by
 have hl:=C.hl
 have b:s0*s1*s2≤9*9*9:=jhj (jhj C.h0.2 C.h1.2) C.h2.2
 have h1:=jcS (sz3 s0 s1 s2) 3 data (v3L t) (by simp[sz3]) (by omega) (by simp[v3L])
 have h2:=holds_c (sz3 s0 s1 s2) 3 data (v3L t) (by simp[sz3]) (by omega) (by simp[v3L])
 have hc:chk (sz3 s0 s1 s2) 3 data (v3L t)=0:=by
  unfold chk
  rw[cu_ok C,if_pos rfl,if_pos ⟨rfl,rfl,rfl⟩,if_pos (show okT (v3L t)=true from (okT3 _ _ _).2 vt)]
 rw[jgm hc] at h2
 cases hf:fndN data s0 s1 s2 t with
 | none=>
  rw[jdX hc hf] at h1
  have z:cntN data s1 s2 (6*jaW s0 s1 s2) t=0:=cnt_none fun n hn=>by
   unfold fndN at hf
   have:=List.find?_eq_none.1 hf n (List.mem_range.2 hn)
   cases e:hldN data s1 s2 n t with
   | none=>rfl
   | some r=>rw[e] at this;simp at this
  rw[z] at h2
  exact .inl ⟨h1,h2⟩
 | some n=>
  obtain⟨hn,⟨a,b,e,d,hh⟩,hm⟩:=fnd_in hf
  rw[jdW hc hf hh] at h1
  obtain⟨⟨b0,b1,b2⟩,f,ev⟩:=loc_back C hn vt hh rfl rfl rfl
  exact .inr ⟨_,_,_,(n:Int),_,b0,b1,b2,f.1,f.2.1,f.2.2,⟨by omega,by omega⟩,by omega,h1,h2,beval_c C f ev⟩
def clL (v0 v1 v2 w0 w1 w2:Int):Nat→List Int
 | 0=>[v0,v1,v2]
 | 1=>[w0,v1,v2]
 | 2=>[w0,w1,v2]
 | _=>[w0,w1,w2]
theorem jgF:type_of% @jhw∧type_of% @Int.zero_add∧type_of% @jg8∧type_of% @g3_0∧type_of% @g3_1∧type_of% @g3_2∧type_of% @g4_0∧type_of% @g4_1∧type_of% @g4_2∧type_of% @g4_3∧type_of% @i3_0∧type_of% @i3_1∧type_of% @i3_2∧type_of% @i4_0∧type_of% @i4_1∧type_of% @i4_2∧type_of% @i4_3∧type_of% @s3_0∧type_of% @s3_1∧type_of% @s3_2∧type_of% @tn0∧type_of% @tn1∧type_of% @tn2∧type_of% @tn3:=⟨@jhw,@Int.zero_add,@jg8,@g3_0,@g3_1,@g3_2,@g4_0,@g4_1,@g4_2,@g4_3,@i3_0,@i3_1,@i3_2,@i4_0,@i4_1,@i4_2,@i4_3,@s3_0,@s3_1,@s3_2,@tn0,@tn1,@tn2,@tn3⟩
theorem jgR:type_of% @jhw∧type_of% @Int.zero_add∧type_of% @jg8∧type_of% @g3_0∧type_of% @g3_1∧type_of% @g3_2∧type_of% @i3_0∧type_of% @i3_1∧type_of% @i3_2∧type_of% @s3_0∧type_of% @s3_1∧type_of% @s3_2∧type_of% @tn0∧type_of% @tn1∧type_of% @tn2∧type_of% @tn3:=⟨@jhw,@Int.zero_add,@jg8,@g3_0,@g3_1,@g3_2,@i3_0,@i3_1,@i3_2,@s3_0,@s3_1,@s3_2,@tn0,@tn1,@tn2,@tn3⟩
theorem jgY:type_of% @jg8∧type_of% @g3_0∧type_of% @g3_1∧type_of% @g3_2∧type_of% @i3_0∧type_of% @i3_1∧type_of% @i3_2∧type_of% @s3_0∧type_of% @s3_1∧type_of% @s3_2∧type_of% @tn0∧type_of% @tn1∧type_of% @tn2:=⟨@jg8,@g3_0,@g3_1,@g3_2,@i3_0,@i3_1,@i3_2,@s3_0,@s3_1,@s3_2,@tn0,@tn1,@tn2⟩
theorem jgX:type_of% @jg8∧type_of% @g3_0∧type_of% @g3_1∧type_of% @g3_2∧type_of% @i3_0∧type_of% @i3_1∧type_of% @i3_2∧type_of% @tn0∧type_of% @tn1∧type_of% @tn2:=⟨@jg8,@g3_0,@g3_1,@g3_2,@i3_0,@i3_1,@i3_2,@tn0,@tn1,@tn2⟩
theorem jgQ:type_of% @jg8∧type_of% @tn0∧type_of% @tn1∧type_of% @tn2:=⟨@jg8,@tn0,@tn1,@tn2⟩
theorem back_c (a b c m0 m1 m2 m3 m4 m5 m6 m7 m8:Int)(off:List Int)(ha:0≤a∧a≤255)(hb:0≤b∧b≤255)(hc:0≤c∧c≤255)(hm:∀ x∈[m0,m1,m2,m3,m4,m5,m6,m7,m8],0≤x∧x≤65535)(ho:∀ x∈off, -32768≤x∧x≤32767)(hol:off.length≤281474976710656)
  (ds:List Int) (dout:Int) (vals:List Int) (sm:Bool) (hds:∀ v∈ds,0≤v∧v≤255) (hdl:ds.length≤281474976710656) (hdo:0≤dout∧dout≤255) (hv:∀ v∈vals,0≤v∧v≤65535) (hvl:vals.length≤281474976710656)
  (a0 a1 a2 a3 o0 o1 o2:Int) (hat:(0≤a0∧a0≤255)∧(0≤a1∧a1≤255)∧(0≤a2∧a2≤255)∧(0≤a3∧a3≤255)) (hof:(-32768≤o0∧o0≤32767)∧(-32768≤o1∧o1≤32767)∧(-32768≤o2∧o2≤32767)) :
  Cl 3 [cubeD a b c m0 m1 m2 m3 m4 m5 m6 m7 m8 off,draftD ds dout vals sm,.iarr .u8 [a0,a1,a2,a3],.iarr .i16 [o0,o1,o2]] (.bool true):=by
 have hown:=cgrid_c a b c m0 m1 m2 m3 m4 m5 m6 m7 m8 off ha hb hc hm ho hol
 have C1:=cg_cu a b c [m0,m1,m2,m3,m4,m5,m6,m7,m8] off
 generalize cbL [m0,m1,m2,m3,m4,m5,m6,m7,m8] off (s3 b) (s3 c) (s3 a*s3 b*s3 c*3)=D1 at *
 generalize s3 a=A1 at *
 generalize s3 b=B1 at *
 generalize s3 c=E1 at *
 have hthree:=three_c ds dout vals sm hds hdl hdo hv hvl
 have C2:=th_cu ds vals sm hv
 have hz:nz (thrD ds)=[(th1 ds 0:Int),(th1 ds 1:Int),(th1 ds 2:Int)]:=rfl
 rw[hz] at hthree
 generalize jew ds vals sm=D2 at *
 generalize th1 ds 0=A2 at *
 generalize th1 ds 1=B2 at *
 generalize th1 ds 2=E2 at *
 clear hz
 have hworks:=works_c
 have ho:=hof
 have ha:=hat
 have lz:=ja6 0 1 (by omega) (by omega)
 have lo:=ja6 1 1 (by omega) (by omega)
 unfold frC at lz lo
 unfold cubeD at hown ⊢
 unfold draftD at hthree ⊢
 unfold gridD sz3 at hown
 unfold gridD at hthree
 refine V.en tbOk Tryz.func3 ?_
 refine V.r1 @jg8 hworks ?_
 refine⟨(V.tk [0,2,5] (V.e1 1 [5,2] (V.e1 3 [5] (V.tk [4] .done)))),[],V.pok,.go (jab ?_)⟩
 refine V.r2 @jg8 hown hthree ?_
 refine jae (0) (fun k=>k≤2) (fun k=>2-k) (fun k=>[(32,.int .i64 k)]) (fun k=>[]) ?_ ?_ ?_
 ·exact V.wk
 ·exact jg2 _
 intro k hk
 have hk4:k=0∨k=1∨k=2:=by omega
 rcases hk4 with e|e|e
 all_goals subst e
 ·obtain⟨n,hn⟩:∃ n,n=A1*B1*E1:=⟨_,rfl⟩
  have C:=C1
  have hnl:D1.length=3*n:=by rw[hn];exact C.hl
  have hn1:8≤n∧n≤729:=by
   rw[hn]
   exact⟨jhj (jhj C.h0.1 C.h1.1) C.h2.1,jhj (jhj C.h0.2 C.h1.2) C.h2.2⟩
  clear hn
  generalize D1=data at *
  have hx:∀ a (k:Nat),0≤a→0≤nrI data n a k∧nrI data n a k≤65535:=fun a k _=>by
   unfold nrI
   rw[jhF]
   cases h:data[(3*(a%(n:Int))+(k:Int)).toNat]? with
   | none=>simp
   | some v=>exact C.hd v (jhJ h)
  have hr:∀ a,0≤a→0≤a%(n:Int)∧a%(n:Int)<n:=fun a h=>⟨Int.emod_nonneg _ (by omega),jhv _ (by omega)⟩
  have hl1:(data.length:Int)/3=(n:Int):=by omega
  have hl2:(data.length:Int).tdiv 3=(n:Int):=by rw[jg5 (by omega)];omega
  have ht0:=m4_0 (n:=(n:Int)) ha.1.1
  have ht1:=m4_0 (n:=(n:Int)) ha.2.1.1
  have ht2:=m4_0 (n:=(n:Int)) ha.2.2.1.1
  have ht3:=m4_0 (n:=(n:Int)) ha.2.2.2.1
  obtain⟨v0,e0⟩:∃ v,nrV data n a0 a1 a2 a3 0 o0=v:=⟨_,rfl⟩
  obtain⟨v1,e1⟩:∃ v,nrV data n a0 a1 a2 a3 1 o1=v:=⟨_,rfl⟩
  obtain⟨v2,e2⟩:∃ v,nrV data n a0 a1 a2 a3 2 o2=v:=⟨_,rfl⟩
  obtain⟨w0,hw0⟩:∃ w,min (max v0 0) 65535=w:=⟨_,rfl⟩
  obtain⟨w1,hw1⟩:∃ w,min (max v1 0) 65535=w:=⟨_,rfl⟩
  obtain⟨w2,hw2⟩:∃ w,min (max v2 0) 65535=w:=⟨_,rfl⟩
  have bw:=back_w C (t:=(w0,w1,w2)) (by unfold Vl;dsimp only;omega)
  unfold v3L gridD sz3 at bw
  simp only[k0]
  refine V.r0 @jg8 ?_
  refine .inl ?_
  (conv=>whnf)
  refine⟨0,_,_,⟨Tryz.func7,rfl,rfl,jg1 rfl⟩,?_⟩
  refine V.r0 (V.a3 @jg8 hl1 hl2) ?_
  refine jae (0) (fun k=>k≤3) (fun k=>3-k) (fun k=>[(19,.int .i64 k)]) (fun k=>[(195,.arr .i64 (nrL v0 v1 v2 k))]) ?_ ?_ ?_
  ·exact V.wk
  ·exact jg2 _
  intro k hk
  have hk4:k=0∨k=1∨k=2∨k=3:=by omega
  rcases hk4 with e|e|e|e
  all_goals subst e
  ·simp only[nrL,k0]
   refine V.r0 @jg8 ?_
   refine jae (0) (fun k=>k≤4) (fun k=>4-k) (fun k=>[(23,.int .i64 k)]) (fun k=>[(195,.arr .i64 (nrP v0 v1 (nrS data n a0 a1 a2 a3 0 k) 0))]) ?_ ?_ ?_
   exact V.wk
   exact jg2 _
   intro m hm
   have hm5:m=0∨m=1∨m=2∨m=3∨m=4:=by omega
   rcases hm5 with e|e|e|e|e
   ·subst e
    have b0:=hx a0 0 ha.1.1
    have b1:=hx a1 0 ha.2.1.1
    have b2:=hx a2 0 ha.2.2.1.1
    have b3:=hx a3 0 ha.2.2.2.1
    have q0:=hr a0 ha.1.1
    simp only[nrP,nrS,k0]
    unfold nrI at *
    simp only[k0,jhw] at b0 b1 b2 b3 ⊢
    refine V.r0 (V.a7 jgF hl1 hl2 ht0 ht1 ht2 ht3) ?_
    refine⟨Pq3z,[],V.pok,.go (jab ?_)⟩
    refine V.r0 (V.a7 jgF hl1 hl2 ht0 ht1 ht2 ht3) ?_
    exact⟨1,by omega,by omega,V.wk⟩
   ·subst e
    have b0:=hx a0 0 ha.1.1
    have b1:=hx a1 0 ha.2.1.1
    have b2:=hx a2 0 ha.2.2.1.1
    have b3:=hx a3 0 ha.2.2.2.1
    have q0:=hr a1 ha.2.1.1
    simp only[nrP,nrS,k1]
    unfold nrI at *
    simp only[k0,jhw] at b0 b1 b2 b3 ⊢
    refine V.r0 (V.a7 jgF hl1 hl2 ht0 ht1 ht2 ht3) ?_
    refine⟨Pq3z,[],V.pok,.go (jab ?_)⟩
    refine V.r0 (V.a7 jgF hl1 hl2 ht0 ht1 ht2 ht3) ?_
    exact⟨2,by omega,by omega,V.wk⟩
   ·subst e
    have b0:=hx a0 0 ha.1.1
    have b1:=hx a1 0 ha.2.1.1
    have b2:=hx a2 0 ha.2.2.1.1
    have b3:=hx a3 0 ha.2.2.2.1
    have q0:=hr a2 ha.2.2.1.1
    simp only[nrP,nrS,k2]
    unfold nrI at *
    simp only[k0,jhw] at b0 b1 b2 b3 ⊢
    refine V.r0 (V.a7 jgF hl1 hl2 ht0 ht1 ht2 ht3) ?_
    refine⟨Pq3z,[],V.pok,.go (jab ?_)⟩
    refine V.r0 (V.a7 jgF hl1 hl2 ht0 ht1 ht2 ht3) ?_
    exact⟨3,by omega,by omega,V.wk⟩
   ·subst e
    have b0:=hx a0 0 ha.1.1
    have b1:=hx a1 0 ha.2.1.1
    have b2:=hx a2 0 ha.2.2.1.1
    have b3:=hx a3 0 ha.2.2.2.1
    have q0:=hr a3 ha.2.2.2.1
    simp only[nrP,nrS,k3]
    unfold nrI at *
    simp only[k0,jhw] at b0 b1 b2 b3 ⊢
    refine V.r0 (V.a7 jgF hl1 hl2 ht0 ht1 ht2 ht3) ?_
    refine⟨Pq3z,[],V.pok,.go (jab ?_)⟩
    refine V.r0 (V.a7 jgF hl1 hl2 ht0 ht1 ht2 ht3) ?_
    exact⟨4,by omega,by omega,V.wk⟩
   ·subst e
    have b0:=hx a0 0 ha.1.1
    have b1:=hx a1 0 ha.2.1.1
    have b2:=hx a2 0 ha.2.2.1.1
    have b3:=hx a3 0 ha.2.2.2.1
    have ev:=e0
    unfold nrV at ev
    simp only[nrP,nrS] at ev ⊢
    unfold nrI at *
    simp only[k0,jhw] at b0 b1 b2 b3 ev ⊢
    obtain⟨S,hS⟩:∃ S,data.getD (3*(a0%(n:Int))+0).toNat 0+data.getD (3*(a1%(n:Int))+0).toNat 0+data.getD (3*(a2%(n:Int))+0).toNat 0+data.getD (3*(a3%(n:Int))+0).toNat 0=S:=⟨_,rfl⟩
    try simp only[jhw] at hS
    have hSb:0≤S∧S≤262140:=by omega
    rw[hS] at ev ⊢
    have hq1:S.tdiv 4=S/4:=jg5 hSb.1
    refine V.r0 jgR ?_
    refine⟨Pq10z,[],V.pok,.go (jab ?_)⟩
    refine V.r0 (V.a3 jgR hq1 ev) ?_
    exact⟨1,by omega,by omega,V.wk⟩
  ·simp only[nrL,k1]
   refine V.r0 @jg8 ?_
   refine jae (0) (fun k=>k≤4) (fun k=>4-k) (fun k=>[(23,.int .i64 k)]) (fun k=>[(195,.arr .i64 (nrP v0 v1 (nrS data n a0 a1 a2 a3 1 k) 1))]) ?_ ?_ ?_
   exact V.wk
   exact jg2 _
   intro m hm
   have hm5:m=0∨m=1∨m=2∨m=3∨m=4:=by omega
   rcases hm5 with e|e|e|e|e
   ·subst e
    have b0:=hx a0 1 ha.1.1
    have b1:=hx a1 1 ha.2.1.1
    have b2:=hx a2 1 ha.2.2.1.1
    have b3:=hx a3 1 ha.2.2.2.1
    have q0:=hr a0 ha.1.1
    simp only[nrP,nrS,k0]
    unfold nrI at *
    simp only[k1,jhw] at b0 b1 b2 b3 ⊢
    refine V.r0 (V.a7 jgF hl1 hl2 ht0 ht1 ht2 ht3) ?_
    refine⟨Pq3z,[],V.pok,.go (jab ?_)⟩
    refine V.r0 (V.a7 jgF hl1 hl2 ht0 ht1 ht2 ht3) ?_
    exact⟨1,by omega,by omega,V.wk⟩
   ·subst e
    have b0:=hx a0 1 ha.1.1
    have b1:=hx a1 1 ha.2.1.1
    have b2:=hx a2 1 ha.2.2.1.1
    have b3:=hx a3 1 ha.2.2.2.1
    have q0:=hr a1 ha.2.1.1
    simp only[nrP,nrS,k1]
    unfold nrI at *
    simp only[k1,jhw] at b0 b1 b2 b3 ⊢
    refine V.r0 (V.a7 jgF hl1 hl2 ht0 ht1 ht2 ht3) ?_
    refine⟨Pq3z,[],V.pok,.go (jab ?_)⟩
    refine V.r0 (V.a7 jgF hl1 hl2 ht0 ht1 ht2 ht3) ?_
    exact⟨2,by omega,by omega,V.wk⟩
   ·subst e
    have b0:=hx a0 1 ha.1.1
    have b1:=hx a1 1 ha.2.1.1
    have b2:=hx a2 1 ha.2.2.1.1
    have b3:=hx a3 1 ha.2.2.2.1
    have q0:=hr a2 ha.2.2.1.1
    simp only[nrP,nrS,k2]
    unfold nrI at *
    simp only[k1,jhw] at b0 b1 b2 b3 ⊢
    refine V.r0 (V.a7 jgF hl1 hl2 ht0 ht1 ht2 ht3) ?_
    refine⟨Pq3z,[],V.pok,.go (jab ?_)⟩
    refine V.r0 (V.a7 jgF hl1 hl2 ht0 ht1 ht2 ht3) ?_
    exact⟨3,by omega,by omega,V.wk⟩
   ·subst e
    have b0:=hx a0 1 ha.1.1
    have b1:=hx a1 1 ha.2.1.1
    have b2:=hx a2 1 ha.2.2.1.1
    have b3:=hx a3 1 ha.2.2.2.1
    have q0:=hr a3 ha.2.2.2.1
    simp only[nrP,nrS,k3]
    unfold nrI at *
    simp only[k1,jhw] at b0 b1 b2 b3 ⊢
    refine V.r0 (V.a7 jgF hl1 hl2 ht0 ht1 ht2 ht3) ?_
    refine⟨Pq3z,[],V.pok,.go (jab ?_)⟩
    refine V.r0 (V.a7 jgF hl1 hl2 ht0 ht1 ht2 ht3) ?_
    exact⟨4,by omega,by omega,V.wk⟩
   ·subst e
    have b0:=hx a0 1 ha.1.1
    have b1:=hx a1 1 ha.2.1.1
    have b2:=hx a2 1 ha.2.2.1.1
    have b3:=hx a3 1 ha.2.2.2.1
    have ev:=e1
    unfold nrV at ev
    simp only[nrP,nrS] at ev ⊢
    unfold nrI at *
    simp only[k1,jhw] at b0 b1 b2 b3 ev ⊢
    obtain⟨S,hS⟩:∃ S,data.getD (3*(a0%(n:Int))+1).toNat 0+data.getD (3*(a1%(n:Int))+1).toNat 0+data.getD (3*(a2%(n:Int))+1).toNat 0+data.getD (3*(a3%(n:Int))+1).toNat 0=S:=⟨_,rfl⟩
    try simp only[jhw] at hS
    have hSb:0≤S∧S≤262140:=by omega
    rw[hS] at ev ⊢
    have hq1:S.tdiv 4=S/4:=jg5 hSb.1
    refine V.r0 jgR ?_
    refine⟨Pq10z,[],V.pok,.go (jab ?_)⟩
    refine V.r0 (V.a3 jgR hq1 ev) ?_
    exact⟨2,by omega,by omega,V.wk⟩
  ·simp only[nrL,k2]
   refine V.r0 @jg8 ?_
   refine jae (0) (fun k=>k≤4) (fun k=>4-k) (fun k=>[(23,.int .i64 k)]) (fun k=>[(195,.arr .i64 (nrP v0 v1 (nrS data n a0 a1 a2 a3 2 k) 2))]) ?_ ?_ ?_
   exact V.wk
   exact jg2 _
   intro m hm
   have hm5:m=0∨m=1∨m=2∨m=3∨m=4:=by omega
   rcases hm5 with e|e|e|e|e
   ·subst e
    have b0:=hx a0 2 ha.1.1
    have b1:=hx a1 2 ha.2.1.1
    have b2:=hx a2 2 ha.2.2.1.1
    have b3:=hx a3 2 ha.2.2.2.1
    have q0:=hr a0 ha.1.1
    simp only[nrP,nrS,k0]
    unfold nrI at *
    simp only[k2,jhw] at b0 b1 b2 b3 ⊢
    refine V.r0 (V.a7 jgF hl1 hl2 ht0 ht1 ht2 ht3) ?_
    refine⟨Pq3z,[],V.pok,.go (jab ?_)⟩
    refine V.r0 (V.a7 jgF hl1 hl2 ht0 ht1 ht2 ht3) ?_
    exact⟨1,by omega,by omega,V.wk⟩
   ·subst e
    have b0:=hx a0 2 ha.1.1
    have b1:=hx a1 2 ha.2.1.1
    have b2:=hx a2 2 ha.2.2.1.1
    have b3:=hx a3 2 ha.2.2.2.1
    have q0:=hr a1 ha.2.1.1
    simp only[nrP,nrS,k1]
    unfold nrI at *
    simp only[k2,jhw] at b0 b1 b2 b3 ⊢
    refine V.r0 (V.a7 jgF hl1 hl2 ht0 ht1 ht2 ht3) ?_
    refine⟨Pq3z,[],V.pok,.go (jab ?_)⟩
    refine V.r0 (V.a7 jgF hl1 hl2 ht0 ht1 ht2 ht3) ?_
    exact⟨2,by omega,by omega,V.wk⟩
   ·subst e
    have b0:=hx a0 2 ha.1.1
    have b1:=hx a1 2 ha.2.1.1
    have b2:=hx a2 2 ha.2.2.1.1
    have b3:=hx a3 2 ha.2.2.2.1
    have q0:=hr a2 ha.2.2.1.1
    simp only[nrP,nrS,k2]
    unfold nrI at *
    simp only[k2,jhw] at b0 b1 b2 b3 ⊢
    refine V.r0 (V.a7 jgF hl1 hl2 ht0 ht1 ht2 ht3) ?_
    refine⟨Pq3z,[],V.pok,.go (jab ?_)⟩
    refine V.r0 (V.a7 jgF hl1 hl2 ht0 ht1 ht2 ht3) ?_
    exact⟨3,by omega,by omega,V.wk⟩
   ·subst e
    have b0:=hx a0 2 ha.1.1
    have b1:=hx a1 2 ha.2.1.1
    have b2:=hx a2 2 ha.2.2.1.1
    have b3:=hx a3 2 ha.2.2.2.1
    have q0:=hr a3 ha.2.2.2.1
    simp only[nrP,nrS,k3]
    unfold nrI at *
    simp only[k2,jhw] at b0 b1 b2 b3 ⊢
    refine V.r0 (V.a7 jgF hl1 hl2 ht0 ht1 ht2 ht3) ?_
    refine⟨Pq3z,[],V.pok,.go (jab ?_)⟩
    refine V.r0 (V.a7 jgF hl1 hl2 ht0 ht1 ht2 ht3) ?_
    exact⟨4,by omega,by omega,V.wk⟩
   ·subst e
    have b0:=hx a0 2 ha.1.1
    have b1:=hx a1 2 ha.2.1.1
    have b2:=hx a2 2 ha.2.2.1.1
    have b3:=hx a3 2 ha.2.2.2.1
    have ev:=e2
    unfold nrV at ev
    simp only[nrP,nrS] at ev ⊢
    unfold nrI at *
    simp only[k2,jhw] at b0 b1 b2 b3 ev ⊢
    obtain⟨S,hS⟩:∃ S,data.getD (3*(a0%(n:Int))+2).toNat 0+data.getD (3*(a1%(n:Int))+2).toNat 0+data.getD (3*(a2%(n:Int))+2).toNat 0+data.getD (3*(a3%(n:Int))+2).toNat 0=S:=⟨_,rfl⟩
    try simp only[jhw] at hS
    have hSb:0≤S∧S≤262140:=by omega
    rw[hS] at ev ⊢
    have hq1:S.tdiv 4=S/4:=jg5 hSb.1
    refine V.r0 jgR ?_
    refine⟨Pq10z,[],V.pok,.go (jab ?_)⟩
    refine V.r0 (V.a3 jgR hq1 ev) ?_
    exact⟨3,by omega,by omega,V.wk⟩
  simp only[nrL,k3]
  refine V.r0 @jg8 ?_
  refine jae (0) (fun k=>k≤3) (fun k=>3-k) (fun k=>[(41,.int .i64 k)]) (fun k=>[(195,.arr .i64 (clL v0 v1 v2 w0 w1 w2 k))]) ?_ ?_ ?_
  ·exact V.wk
  ·exact jg2 _
  intro k hk
  have hk4:k=0∨k=1∨k=2∨k=3:=by omega
  rcases hk4 with e|e|e|e
  all_goals subst e
  ·simp only[clL,k0]
   refine V.r0 (V.a4 jgY hw0 hw1 hw2) ?_
   exact⟨1,by omega,by omega,V.wk⟩
  ·simp only[clL,k1]
   refine V.r0 (V.a4 jgY hw0 hw1 hw2) ?_
   exact⟨2,by omega,by omega,V.wk⟩
  ·simp only[clL,k2]
   refine V.r0 (V.a4 jgY hw0 hw1 hw2) ?_
   exact⟨3,by omega,by omega,V.wk⟩
  simp only[clL,k3]
  refine V.r0 @jg8 ?_
  rcases bw with⟨l1,l2⟩|⟨q0,q1,q2,nn,cc,K⟩
  ·refine .len ?_
   (conv=>whnf)
   refine⟨195,?_⟩
   (conv=>whnf)
   refine jaa (r:=?_) ?_ ?_
   rotate_left
   ·exact l1
   refine V.r0 @jg8 ?_
   refine .len ?_
   (conv=>whnf)
   refine⟨195,?_⟩
   (conv=>whnf)
   refine jaa (r:=?_) ?_ ?_
   rotate_left
   ·exact l2
   refine V.r0 @jg8 ?_
   exact⟨1,by omega,by omega,V.wk⟩
  ·have l1:=K.loc
   have l2:=K.hds
   have l3:=K.ev
   have n0:=K.n0
   have c0:=K.c0
   have b0:=K.b0
   have b1:=K.b1
   have b2:=K.b2
   have f0:=K.f0
   have f1:=K.f1
   have f2:=K.f2
   clear K
   rw[cells_e C] at n0
   obtain⟨⟨p1,p2⟩,p3⟩:=cells_b C
   refine .len ?_
   (conv=>whnf)
   refine⟨195,?_⟩
   (conv=>whnf)
   refine jaa (r:=?_) ?_ ?_
   rotate_left
   ·exact l1
   refine V.r0 @jg8 ?_
   refine .len ?_
   (conv=>whnf)
   refine⟨195,?_⟩
   (conv=>whnf)
   refine jaa (r:=?_) ?_ ?_
   rotate_left
   ·exact l2
   refine V.r0 @jg8 ?_
   refine V.r1 @jg8 l3 ?_
   refine⟨Pq0z,[],V.pok,.go (jab ?_)⟩
   refine V.r0 jgX ?_
   refine Cnd.no (by simp only[jhk,decide_eq_false_iff_not];omega) ?_
   refine V.r0 @jg8 ?_
   refine jae (0) (fun k=>k≤3) (fun k=>3-k) (fun k=>[(133,.int .i64 k)]) (fun k=>[]) ?_ ?_ ?_
   ·exact V.wk
   ·exact jg2 _
   intro k hk
   have hk4:k=0∨k=1∨k=2∨k=3:=by omega
   rcases hk4 with e|e|e|e
   all_goals subst e
   ·obtain⟨ca,ha2,ca0⟩:=jdg f0 b0.1
    obtain⟨cb,hb2,cb0⟩:=jdf f0 b0.2
    have ow:=ja6 w0 65535 (by omega) (by omega)
    unfold frC at ca0 cb0 ow
    simp only[k0]
    refine V.r0 @jg8 ?_
    refine⟨Pq36z,[],V.pok,.go (jab ?_)⟩
    refine V.r3 jgQ lz lo ca0 ?_
    refine⟨Pq36z,[],V.pok,.go (jab ?_)⟩
    refine V.r2 jgQ lo cb0 ?_
    refine⟨Pq21z,[],V.pok,.go (jab ?_)⟩
    refine V.r1 jgX ow ?_
    refine Cnd.no (by simp;omega) ?_
    refine V.r0 @jg8 ?_
    exact⟨1,by omega,by omega,V.wk⟩
   ·obtain⟨ca,ha2,ca0⟩:=jdg f1 b1.1
    obtain⟨cb,hb2,cb0⟩:=jdf f1 b1.2
    have ow:=ja6 w1 65535 (by omega) (by omega)
    unfold frC at ca0 cb0 ow
    simp only[k1]
    refine V.r0 @jg8 ?_
    refine⟨Pq36z,[],V.pok,.go (jab ?_)⟩
    refine V.r3 jgQ lz lo ca0 ?_
    refine⟨Pq36z,[],V.pok,.go (jab ?_)⟩
    refine V.r2 jgQ lo cb0 ?_
    refine⟨Pq21z,[],V.pok,.go (jab ?_)⟩
    refine V.r1 jgX ow ?_
    refine Cnd.no (by simp;omega) ?_
    refine V.r0 @jg8 ?_
    exact⟨2,by omega,by omega,V.wk⟩
   ·obtain⟨ca,ha2,ca0⟩:=jdg f2 b2.1
    obtain⟨cb,hb2,cb0⟩:=jdf f2 b2.2
    have ow:=ja6 w2 65535 (by omega) (by omega)
    unfold frC at ca0 cb0 ow
    simp only[k2]
    refine V.r0 @jg8 ?_
    refine⟨Pq36z,[],V.pok,.go (jab ?_)⟩
    refine V.r3 jgQ lz lo ca0 ?_
    refine⟨Pq36z,[],V.pok,.go (jab ?_)⟩
    refine V.r2 jgQ lo cb0 ?_
    refine⟨Pq21z,[],V.pok,.go (jab ?_)⟩
    refine V.r1 jgX ow ?_
    refine Cnd.no (by simp;omega) ?_
    refine V.r0 @jg8 ?_
    exact⟨3,by omega,by omega,V.wk⟩
   simp only[k3]
   refine V.r0 @jg8 ?_
   exact⟨1,by omega,by omega,V.wk⟩
 ·obtain⟨n,hn⟩:∃ n,n=A2*B2*E2:=⟨_,rfl⟩
  have C:=C2
  have hnl:D2.length=3*n:=by rw[hn];exact C.hl
  have hn1:8≤n∧n≤729:=by
   rw[hn]
   exact⟨jhj (jhj C.h0.1 C.h1.1) C.h2.1,jhj (jhj C.h0.2 C.h1.2) C.h2.2⟩
  clear hn
  generalize D2=data at *
  have hx:∀ a (k:Nat),0≤a→0≤nrI data n a k∧nrI data n a k≤65535:=fun a k _=>by
   unfold nrI
   rw[jhF]
   cases h:data[(3*(a%(n:Int))+(k:Int)).toNat]? with
   | none=>simp
   | some v=>exact C.hd v (jhJ h)
  have hr:∀ a,0≤a→0≤a%(n:Int)∧a%(n:Int)<n:=fun a h=>⟨Int.emod_nonneg _ (by omega),jhv _ (by omega)⟩
  have hl1:(data.length:Int)/3=(n:Int):=by omega
  have hl2:(data.length:Int).tdiv 3=(n:Int):=by rw[jg5 (by omega)];omega
  have ht0:=m4_0 (n:=(n:Int)) ha.1.1
  have ht1:=m4_0 (n:=(n:Int)) ha.2.1.1
  have ht2:=m4_0 (n:=(n:Int)) ha.2.2.1.1
  have ht3:=m4_0 (n:=(n:Int)) ha.2.2.2.1
  obtain⟨v0,e0⟩:∃ v,nrV data n a0 a1 a2 a3 0 o0=v:=⟨_,rfl⟩
  obtain⟨v1,e1⟩:∃ v,nrV data n a0 a1 a2 a3 1 o1=v:=⟨_,rfl⟩
  obtain⟨v2,e2⟩:∃ v,nrV data n a0 a1 a2 a3 2 o2=v:=⟨_,rfl⟩
  obtain⟨w0,hw0⟩:∃ w,min (max v0 0) 65535=w:=⟨_,rfl⟩
  obtain⟨w1,hw1⟩:∃ w,min (max v1 0) 65535=w:=⟨_,rfl⟩
  obtain⟨w2,hw2⟩:∃ w,min (max v2 0) 65535=w:=⟨_,rfl⟩
  have bw:=back_w C (t:=(w0,w1,w2)) (by unfold Vl;dsimp only;omega)
  unfold v3L gridD sz3 at bw
  simp only[k1]
  refine V.r0 @jg8 ?_
  refine .inl ?_
  (conv=>whnf)
  refine⟨0,_,_,⟨Tryz.func7,rfl,rfl,jg1 rfl⟩,?_⟩
  refine V.r0 (V.a3 @jg8 hl1 hl2) ?_
  refine jae (0) (fun k=>k≤3) (fun k=>3-k) (fun k=>[(19,.int .i64 k)]) (fun k=>[(195,.arr .i64 (nrL v0 v1 v2 k))]) ?_ ?_ ?_
  ·exact V.wk
  ·exact jg2 _
  intro k hk
  have hk4:k=0∨k=1∨k=2∨k=3:=by omega
  rcases hk4 with e|e|e|e
  all_goals subst e
  ·simp only[nrL,k0]
   refine V.r0 @jg8 ?_
   refine jae (0) (fun k=>k≤4) (fun k=>4-k) (fun k=>[(23,.int .i64 k)]) (fun k=>[(195,.arr .i64 (nrP v0 v1 (nrS data n a0 a1 a2 a3 0 k) 0))]) ?_ ?_ ?_
   exact V.wk
   exact jg2 _
   intro m hm
   have hm5:m=0∨m=1∨m=2∨m=3∨m=4:=by omega
   rcases hm5 with e|e|e|e|e
   ·subst e
    have b0:=hx a0 0 ha.1.1
    have b1:=hx a1 0 ha.2.1.1
    have b2:=hx a2 0 ha.2.2.1.1
    have b3:=hx a3 0 ha.2.2.2.1
    have q0:=hr a0 ha.1.1
    simp only[nrP,nrS,k0]
    unfold nrI at *
    simp only[k0,jhw] at b0 b1 b2 b3 ⊢
    refine V.r0 (V.a7 jgF hl1 hl2 ht0 ht1 ht2 ht3) ?_
    refine⟨Pq3z,[],V.pok,.go (jab ?_)⟩
    refine V.r0 (V.a7 jgF hl1 hl2 ht0 ht1 ht2 ht3) ?_
    exact⟨1,by omega,by omega,V.wk⟩
   ·subst e
    have b0:=hx a0 0 ha.1.1
    have b1:=hx a1 0 ha.2.1.1
    have b2:=hx a2 0 ha.2.2.1.1
    have b3:=hx a3 0 ha.2.2.2.1
    have q0:=hr a1 ha.2.1.1
    simp only[nrP,nrS,k1]
    unfold nrI at *
    simp only[k0,jhw] at b0 b1 b2 b3 ⊢
    refine V.r0 (V.a7 jgF hl1 hl2 ht0 ht1 ht2 ht3) ?_
    refine⟨Pq3z,[],V.pok,.go (jab ?_)⟩
    refine V.r0 (V.a7 jgF hl1 hl2 ht0 ht1 ht2 ht3) ?_
    exact⟨2,by omega,by omega,V.wk⟩
   ·subst e
    have b0:=hx a0 0 ha.1.1
    have b1:=hx a1 0 ha.2.1.1
    have b2:=hx a2 0 ha.2.2.1.1
    have b3:=hx a3 0 ha.2.2.2.1
    have q0:=hr a2 ha.2.2.1.1
    simp only[nrP,nrS,k2]
    unfold nrI at *
    simp only[k0,jhw] at b0 b1 b2 b3 ⊢
    refine V.r0 (V.a7 jgF hl1 hl2 ht0 ht1 ht2 ht3) ?_
    refine⟨Pq3z,[],V.pok,.go (jab ?_)⟩
    refine V.r0 (V.a7 jgF hl1 hl2 ht0 ht1 ht2 ht3) ?_
    exact⟨3,by omega,by omega,V.wk⟩
   ·subst e
    have b0:=hx a0 0 ha.1.1
    have b1:=hx a1 0 ha.2.1.1
    have b2:=hx a2 0 ha.2.2.1.1
    have b3:=hx a3 0 ha.2.2.2.1
    have q0:=hr a3 ha.2.2.2.1
    simp only[nrP,nrS,k3]
    unfold nrI at *
    simp only[k0,jhw] at b0 b1 b2 b3 ⊢
    refine V.r0 (V.a7 jgF hl1 hl2 ht0 ht1 ht2 ht3) ?_
    refine⟨Pq3z,[],V.pok,.go (jab ?_)⟩
    refine V.r0 (V.a7 jgF hl1 hl2 ht0 ht1 ht2 ht3) ?_
    exact⟨4,by omega,by omega,V.wk⟩
   ·subst e
    have b0:=hx a0 0 ha.1.1
    have b1:=hx a1 0 ha.2.1.1
    have b2:=hx a2 0 ha.2.2.1.1
    have b3:=hx a3 0 ha.2.2.2.1
    have ev:=e0
    unfold nrV at ev
    simp only[nrP,nrS] at ev ⊢
    unfold nrI at *
    simp only[k0,jhw] at b0 b1 b2 b3 ev ⊢
    obtain⟨S,hS⟩:∃ S,data.getD (3*(a0%(n:Int))+0).toNat 0+data.getD (3*(a1%(n:Int))+0).toNat 0+data.getD (3*(a2%(n:Int))+0).toNat 0+data.getD (3*(a3%(n:Int))+0).toNat 0=S:=⟨_,rfl⟩
    try simp only[jhw] at hS
    have hSb:0≤S∧S≤262140:=by omega
    rw[hS] at ev ⊢
    have hq1:S.tdiv 4=S/4:=jg5 hSb.1
    refine V.r0 jgR ?_
    refine⟨Pq10z,[],V.pok,.go (jab ?_)⟩
    refine V.r0 (V.a3 jgR hq1 ev) ?_
    exact⟨1,by omega,by omega,V.wk⟩
  ·simp only[nrL,k1]
   refine V.r0 @jg8 ?_
   refine jae (0) (fun k=>k≤4) (fun k=>4-k) (fun k=>[(23,.int .i64 k)]) (fun k=>[(195,.arr .i64 (nrP v0 v1 (nrS data n a0 a1 a2 a3 1 k) 1))]) ?_ ?_ ?_
   exact V.wk
   exact jg2 _
   intro m hm
   have hm5:m=0∨m=1∨m=2∨m=3∨m=4:=by omega
   rcases hm5 with e|e|e|e|e
   ·subst e
    have b0:=hx a0 1 ha.1.1
    have b1:=hx a1 1 ha.2.1.1
    have b2:=hx a2 1 ha.2.2.1.1
    have b3:=hx a3 1 ha.2.2.2.1
    have q0:=hr a0 ha.1.1
    simp only[nrP,nrS,k0]
    unfold nrI at *
    simp only[k1,jhw] at b0 b1 b2 b3 ⊢
    refine V.r0 (V.a7 jgF hl1 hl2 ht0 ht1 ht2 ht3) ?_
    refine⟨Pq3z,[],V.pok,.go (jab ?_)⟩
    refine V.r0 (V.a7 jgF hl1 hl2 ht0 ht1 ht2 ht3) ?_
    exact⟨1,by omega,by omega,V.wk⟩
   ·subst e
    have b0:=hx a0 1 ha.1.1
    have b1:=hx a1 1 ha.2.1.1
    have b2:=hx a2 1 ha.2.2.1.1
    have b3:=hx a3 1 ha.2.2.2.1
    have q0:=hr a1 ha.2.1.1
    simp only[nrP,nrS,k1]
    unfold nrI at *
    simp only[k1,jhw] at b0 b1 b2 b3 ⊢
    refine V.r0 (V.a7 jgF hl1 hl2 ht0 ht1 ht2 ht3) ?_
    refine⟨Pq3z,[],V.pok,.go (jab ?_)⟩
    refine V.r0 (V.a7 jgF hl1 hl2 ht0 ht1 ht2 ht3) ?_
    exact⟨2,by omega,by omega,V.wk⟩
   ·subst e
    have b0:=hx a0 1 ha.1.1
    have b1:=hx a1 1 ha.2.1.1
    have b2:=hx a2 1 ha.2.2.1.1
    have b3:=hx a3 1 ha.2.2.2.1
    have q0:=hr a2 ha.2.2.1.1
    simp only[nrP,nrS,k2]
    unfold nrI at *
    simp only[k1,jhw] at b0 b1 b2 b3 ⊢
    refine V.r0 (V.a7 jgF hl1 hl2 ht0 ht1 ht2 ht3) ?_
    refine⟨Pq3z,[],V.pok,.go (jab ?_)⟩
    refine V.r0 (V.a7 jgF hl1 hl2 ht0 ht1 ht2 ht3) ?_
    exact⟨3,by omega,by omega,V.wk⟩
   ·subst e
    have b0:=hx a0 1 ha.1.1
    have b1:=hx a1 1 ha.2.1.1
    have b2:=hx a2 1 ha.2.2.1.1
    have b3:=hx a3 1 ha.2.2.2.1
    have q0:=hr a3 ha.2.2.2.1
    simp only[nrP,nrS,k3]
    unfold nrI at *
    simp only[k1,jhw] at b0 b1 b2 b3 ⊢
    refine V.r0 (V.a7 jgF hl1 hl2 ht0 ht1 ht2 ht3) ?_
    refine⟨Pq3z,[],V.pok,.go (jab ?_)⟩
    refine V.r0 (V.a7 jgF hl1 hl2 ht0 ht1 ht2 ht3) ?_
    exact⟨4,by omega,by omega,V.wk⟩
   ·subst e
    have b0:=hx a0 1 ha.1.1
    have b1:=hx a1 1 ha.2.1.1
    have b2:=hx a2 1 ha.2.2.1.1
    have b3:=hx a3 1 ha.2.2.2.1
    have ev:=e1
    unfold nrV at ev
    simp only[nrP,nrS] at ev ⊢
    unfold nrI at *
    simp only[k1,jhw] at b0 b1 b2 b3 ev ⊢
    obtain⟨S,hS⟩:∃ S,data.getD (3*(a0%(n:Int))+1).toNat 0+data.getD (3*(a1%(n:Int))+1).toNat 0+data.getD (3*(a2%(n:Int))+1).toNat 0+data.getD (3*(a3%(n:Int))+1).toNat 0=S:=⟨_,rfl⟩
    try simp only[jhw] at hS
    have hSb:0≤S∧S≤262140:=by omega
    rw[hS] at ev ⊢
    have hq1:S.tdiv 4=S/4:=jg5 hSb.1
    refine V.r0 jgR ?_
    refine⟨Pq10z,[],V.pok,.go (jab ?_)⟩
    refine V.r0 (V.a3 jgR hq1 ev) ?_
    exact⟨2,by omega,by omega,V.wk⟩
  ·simp only[nrL,k2]
   refine V.r0 @jg8 ?_
   refine jae (0) (fun k=>k≤4) (fun k=>4-k) (fun k=>[(23,.int .i64 k)]) (fun k=>[(195,.arr .i64 (nrP v0 v1 (nrS data n a0 a1 a2 a3 2 k) 2))]) ?_ ?_ ?_
   exact V.wk
   exact jg2 _
   intro m hm
   have hm5:m=0∨m=1∨m=2∨m=3∨m=4:=by omega
   rcases hm5 with e|e|e|e|e
   ·subst e
    have b0:=hx a0 2 ha.1.1
    have b1:=hx a1 2 ha.2.1.1
    have b2:=hx a2 2 ha.2.2.1.1
    have b3:=hx a3 2 ha.2.2.2.1
    have q0:=hr a0 ha.1.1
    simp only[nrP,nrS,k0]
    unfold nrI at *
    simp only[k2,jhw] at b0 b1 b2 b3 ⊢
    refine V.r0 (V.a7 jgF hl1 hl2 ht0 ht1 ht2 ht3) ?_
    refine⟨Pq3z,[],V.pok,.go (jab ?_)⟩
    refine V.r0 (V.a7 jgF hl1 hl2 ht0 ht1 ht2 ht3) ?_
    exact⟨1,by omega,by omega,V.wk⟩
   ·subst e
    have b0:=hx a0 2 ha.1.1
    have b1:=hx a1 2 ha.2.1.1
    have b2:=hx a2 2 ha.2.2.1.1
    have b3:=hx a3 2 ha.2.2.2.1
    have q0:=hr a1 ha.2.1.1
    simp only[nrP,nrS,k1]
    unfold nrI at *
    simp only[k2,jhw] at b0 b1 b2 b3 ⊢
    refine V.r0 (V.a7 jgF hl1 hl2 ht0 ht1 ht2 ht3) ?_
    refine⟨Pq3z,[],V.pok,.go (jab ?_)⟩
    refine V.r0 (V.a7 jgF hl1 hl2 ht0 ht1 ht2 ht3) ?_
    exact⟨2,by omega,by omega,V.wk⟩
   ·subst e
    have b0:=hx a0 2 ha.1.1
    have b1:=hx a1 2 ha.2.1.1
    have b2:=hx a2 2 ha.2.2.1.1
    have b3:=hx a3 2 ha.2.2.2.1
    have q0:=hr a2 ha.2.2.1.1
    simp only[nrP,nrS,k2]
    unfold nrI at *
    simp only[k2,jhw] at b0 b1 b2 b3 ⊢
    refine V.r0 (V.a7 jgF hl1 hl2 ht0 ht1 ht2 ht3) ?_
    refine⟨Pq3z,[],V.pok,.go (jab ?_)⟩
    refine V.r0 (V.a7 jgF hl1 hl2 ht0 ht1 ht2 ht3) ?_
    exact⟨3,by omega,by omega,V.wk⟩
   ·subst e
    have b0:=hx a0 2 ha.1.1
    have b1:=hx a1 2 ha.2.1.1
    have b2:=hx a2 2 ha.2.2.1.1
    have b3:=hx a3 2 ha.2.2.2.1
    have q0:=hr a3 ha.2.2.2.1
    simp only[nrP,nrS,k3]
    unfold nrI at *
    simp only[k2,jhw] at b0 b1 b2 b3 ⊢
    refine V.r0 (V.a7 jgF hl1 hl2 ht0 ht1 ht2 ht3) ?_
    refine⟨Pq3z,[],V.pok,.go (jab ?_)⟩
    refine V.r0 (V.a7 jgF hl1 hl2 ht0 ht1 ht2 ht3) ?_
    exact⟨4,by omega,by omega,V.wk⟩
   ·subst e
    have b0:=hx a0 2 ha.1.1
    have b1:=hx a1 2 ha.2.1.1
    have b2:=hx a2 2 ha.2.2.1.1
    have b3:=hx a3 2 ha.2.2.2.1
    have ev:=e2
    unfold nrV at ev
    simp only[nrP,nrS] at ev ⊢
    unfold nrI at *
    simp only[k2,jhw] at b0 b1 b2 b3 ev ⊢
    obtain⟨S,hS⟩:∃ S,data.getD (3*(a0%(n:Int))+2).toNat 0+data.getD (3*(a1%(n:Int))+2).toNat 0+data.getD (3*(a2%(n:Int))+2).toNat 0+data.getD (3*(a3%(n:Int))+2).toNat 0=S:=⟨_,rfl⟩
    try simp only[jhw] at hS
    have hSb:0≤S∧S≤262140:=by omega
    rw[hS] at ev ⊢
    have hq1:S.tdiv 4=S/4:=jg5 hSb.1
    refine V.r0 jgR ?_
    refine⟨Pq10z,[],V.pok,.go (jab ?_)⟩
    refine V.r0 (V.a3 jgR hq1 ev) ?_
    exact⟨3,by omega,by omega,V.wk⟩
  simp only[nrL,k3]
  refine V.r0 @jg8 ?_
  refine jae (0) (fun k=>k≤3) (fun k=>3-k) (fun k=>[(41,.int .i64 k)]) (fun k=>[(195,.arr .i64 (clL v0 v1 v2 w0 w1 w2 k))]) ?_ ?_ ?_
  ·exact V.wk
  ·exact jg2 _
  intro k hk
  have hk4:k=0∨k=1∨k=2∨k=3:=by omega
  rcases hk4 with e|e|e|e
  all_goals subst e
  ·simp only[clL,k0]
   refine V.r0 (V.a4 jgY hw0 hw1 hw2) ?_
   exact⟨1,by omega,by omega,V.wk⟩
  ·simp only[clL,k1]
   refine V.r0 (V.a4 jgY hw0 hw1 hw2) ?_
   exact⟨2,by omega,by omega,V.wk⟩
  ·simp only[clL,k2]
   refine V.r0 (V.a4 jgY hw0 hw1 hw2) ?_
   exact⟨3,by omega,by omega,V.wk⟩
  simp only[clL,k3]
  refine V.r0 @jg8 ?_
  rcases bw with⟨l1,l2⟩|⟨q0,q1,q2,nn,cc,K⟩
  ·refine .len ?_
   (conv=>whnf)
   refine⟨195,?_⟩
   (conv=>whnf)
   refine jaa (r:=?_) ?_ ?_
   rotate_left
   ·exact l1
   refine V.r0 @jg8 ?_
   refine .len ?_
   (conv=>whnf)
   refine⟨195,?_⟩
   (conv=>whnf)
   refine jaa (r:=?_) ?_ ?_
   rotate_left
   ·exact l2
   refine V.r0 @jg8 ?_
   exact⟨2,by omega,by omega,V.wk⟩
  ·have l1:=K.loc
   have l2:=K.hds
   have l3:=K.ev
   have n0:=K.n0
   have c0:=K.c0
   have b0:=K.b0
   have b1:=K.b1
   have b2:=K.b2
   have f0:=K.f0
   have f1:=K.f1
   have f2:=K.f2
   clear K
   rw[cells_e C] at n0
   obtain⟨⟨p1,p2⟩,p3⟩:=cells_b C
   refine .len ?_
   (conv=>whnf)
   refine⟨195,?_⟩
   (conv=>whnf)
   refine jaa (r:=?_) ?_ ?_
   rotate_left
   ·exact l1
   refine V.r0 @jg8 ?_
   refine .len ?_
   (conv=>whnf)
   refine⟨195,?_⟩
   (conv=>whnf)
   refine jaa (r:=?_) ?_ ?_
   rotate_left
   ·exact l2
   refine V.r0 @jg8 ?_
   refine V.r1 @jg8 l3 ?_
   refine⟨Pq0z,[],V.pok,.go (jab ?_)⟩
   refine V.r0 jgX ?_
   refine Cnd.no (by simp only[jhk,decide_eq_false_iff_not];omega) ?_
   refine V.r0 @jg8 ?_
   refine jae (0) (fun k=>k≤3) (fun k=>3-k) (fun k=>[(133,.int .i64 k)]) (fun k=>[]) ?_ ?_ ?_
   ·exact V.wk
   ·exact jg2 _
   intro k hk
   have hk4:k=0∨k=1∨k=2∨k=3:=by omega
   rcases hk4 with e|e|e|e
   all_goals subst e
   ·obtain⟨ca,ha2,ca0⟩:=jdg f0 b0.1
    obtain⟨cb,hb2,cb0⟩:=jdf f0 b0.2
    have ow:=ja6 w0 65535 (by omega) (by omega)
    unfold frC at ca0 cb0 ow
    simp only[k0]
    refine V.r0 @jg8 ?_
    refine⟨Pq36z,[],V.pok,.go (jab ?_)⟩
    refine V.r3 jgQ lz lo ca0 ?_
    refine⟨Pq36z,[],V.pok,.go (jab ?_)⟩
    refine V.r2 jgQ lo cb0 ?_
    refine⟨Pq21z,[],V.pok,.go (jab ?_)⟩
    refine V.r1 jgX ow ?_
    refine Cnd.no (by simp;omega) ?_
    refine V.r0 @jg8 ?_
    exact⟨1,by omega,by omega,V.wk⟩
   ·obtain⟨ca,ha2,ca0⟩:=jdg f1 b1.1
    obtain⟨cb,hb2,cb0⟩:=jdf f1 b1.2
    have ow:=ja6 w1 65535 (by omega) (by omega)
    unfold frC at ca0 cb0 ow
    simp only[k1]
    refine V.r0 @jg8 ?_
    refine⟨Pq36z,[],V.pok,.go (jab ?_)⟩
    refine V.r3 jgQ lz lo ca0 ?_
    refine⟨Pq36z,[],V.pok,.go (jab ?_)⟩
    refine V.r2 jgQ lo cb0 ?_
    refine⟨Pq21z,[],V.pok,.go (jab ?_)⟩
    refine V.r1 jgX ow ?_
    refine Cnd.no (by simp;omega) ?_
    refine V.r0 @jg8 ?_
    exact⟨2,by omega,by omega,V.wk⟩
   ·obtain⟨ca,ha2,ca0⟩:=jdg f2 b2.1
    obtain⟨cb,hb2,cb0⟩:=jdf f2 b2.2
    have ow:=ja6 w2 65535 (by omega) (by omega)
    unfold frC at ca0 cb0 ow
    simp only[k2]
    refine V.r0 @jg8 ?_
    refine⟨Pq36z,[],V.pok,.go (jab ?_)⟩
    refine V.r3 jgQ lz lo ca0 ?_
    refine⟨Pq36z,[],V.pok,.go (jab ?_)⟩
    refine V.r2 jgQ lo cb0 ?_
    refine⟨Pq21z,[],V.pok,.go (jab ?_)⟩
    refine V.r1 jgX ow ?_
    refine Cnd.no (by simp;omega) ?_
    refine V.r0 @jg8 ?_
    exact⟨3,by omega,by omega,V.wk⟩
   simp only[k3]
   refine V.r0 @jg8 ?_
   exact⟨2,by omega,by omega,V.wk⟩
 ·refine V.r0 (V.a2 @jg8 @k2) ?_
  exact Fin.of rfl
end Go.Proofs.YtbhpaandigaanaaGreatDoor
end
