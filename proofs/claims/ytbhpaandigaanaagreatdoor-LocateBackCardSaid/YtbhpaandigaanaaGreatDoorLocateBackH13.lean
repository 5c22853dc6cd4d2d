/- What functions of the program answer at given values, part 13. Conditions: those that each theorem names. -/
import Derived.Test.YtbhpaandigaanaaGreatDoorLocateBackH12
import Derived.Test.YtbhpaandigaanaaGreatDoorLocateBackH7
import Derived.Test.YtbhpaandigaanaaGreatDoorLocateBackH6
import Derived.Test.YtbhpaandigaanaaGreatDoorLocateBackH10
set_option linter.unusedSimpArgs false
set_option linter.unusedVariables false
set_option maxHeartbeats 8000000
set_option maxRecDepth 100000
section
namespace Go.Proofs.YtbhpaandigaanaaGreatDoor
open Go Go.V Go.Nb
theorem numT_j (B C i j:Nat):(i*B+(j+1))*C*6=((i*B+j)*C+C)*6:=by
 rw[← Nat.add_assoc,jg7 (i*B+j),Nat.one_mul]
theorem numT_i (B C i:Nat):(i+1)*B*C*6=(i*B+B)*C*6:=by
 rw[jg7 i,Nat.one_mul]
theorem jgW:type_of% @jg8∧type_of% @cs1:=⟨@jg8,@cs1⟩
theorem holds_c (size:List Int)(out:Int)(data ts:List Int)(hs:size.length≤281474976710656)(hd:data.length≤281474976710656)(ht:ts.length≤281474976710656) :
  Cl 9 [gridD size out data,.ints .i64 ts] (hdsR size out data ts):=by
 have hch:=lcheck_c size out data ts hs hd ht
 have htt:=tetra_c size out data
 unfold gcD at htt
 rcases Decidable.em (chk size out data ts=0) with h0|h0
 rotate_left
 ·rw[hdsR_no h0]
  have hr:=chk_r size out data ts
  generalize chk size out data ts=z at *
  unfold gridD at hch ⊢
  refine jfl tbOk 6 ⟨Tryz.func9,rfl,rfl,jg1 rfl⟩ ?_
  (conv=>whnf)
  (conv=>whnf)
  (try simp only[jg8])
  repeat ((first|refine V.s1 ?_|((try ((with_reducible refine .ext ?_);(conv=>whnf);(try simp only[jg8])));(with_reducible refine jaa (r:=?_) ?_ ?_);rotate_left;(focus (first|exact(hch)));(conv=>whnf)));(try simp only[jg8]))
  refine Cnd.split (CondB.mk (fun hq=>?_) (fun hq=>?_))
  ·(conv=>whnf)
   (try simp only[jg8])
   repeat ((first|refine V.s1 ?_);(try simp only[jg8]))
   exact Fin.of rfl
  ·exfalso
   simp at hq
   omega
 rw[h0] at hch
 obtain⟨s0,s1,s2,t,rfl,rfl,rfl,C,hv⟩:=chk_ok h0
 rw[jgm h0]
 have hle:=cells_le C
 have hF:∀ i j k o,i<s0-1→j<s1-1→k<s2-1→o<6 → ∃ p q r d c,TetOk s0 s1 s2 data t i j k o (numT (s1-1) (s2-1) i j k o) p q r d (tetD (i,j,k) (ordA o) c):=fun i j k o=>tet_ok C hv
 have hlt:∀ i j k o,i<s0-1→j<s1-1→k<s2-1→o<6→_:=fun i j k o hi hj hk ho=>num_lt (A:=s0-1) (B:=s1-1) (C:=s2-1) hi hj hk ho
 have hcnt:=cnt_succ data s1 s2
 have hcl:∀ m,cntN data s1 s2 m t≤m:=fun m=>cnt_le data s1 s2 m t
 have h0:=C.h0
 have h1:=C.h1
 have h2:=C.h2
 have z0:=sz3_0 s0 s1 s2
 have z1:=sz3_1 s0 s1 s2
 have z2:=sz3_2 s0 s1 s2
 have zl:=jeV s0 s1 s2
 have y0:(sz3 s0 s1 s2).getD 0 0=s0:=rfl
 have y1:(sz3 s0 s1 s2).getD 1 0=s1:=rfl
 have y2:(sz3 s0 s1 s2).getD 2 0=s2:=rfl
 obtain⟨sz,hsz⟩:∃ sz,sz3 s0 s1 s2=sz:=⟨_,rfl⟩
 unfold v3L at hch ⊢
 unfold gridD at hch htt ⊢
 rw[hsz] at hch htt z0 z1 z2 zl y0 y1 y2 ⊢
 unfold jaW at hle ⊢
 obtain⟨A,hA⟩:∃ A,s0-1=A:=⟨_,rfl⟩
 obtain⟨B,hB⟩:∃ B,s1-1=B:=⟨_,rfl⟩
 obtain⟨Cc,hC⟩:∃ C,s2-1=C:=⟨_,rfl⟩
 rw[hA,hB,hC] at hF hle hlt ⊢
 have w0:(s0:Int)-1=(A:Int):=by omega
 have w1:(s1:Int)-1=(B:Int):=by omega
 have w2:(s2:Int)-1=(Cc:Int):=by omega
 clear C
 refine jfl tbOk 6 ⟨Tryz.func9,rfl,rfl,jg1 rfl⟩ ?_
 (conv=>whnf)
 (conv=>whnf)
 (try simp only[jg8])
 repeat ((first|refine V.s1 ?_|((try ((with_reducible refine .ext ?_);(conv=>whnf);(try simp only[jg8])));(with_reducible refine jaa (r:=?_) ?_ ?_);rotate_left;(focus (first|exact(hch)|exact(htt)));(conv=>whnf)));(try simp only[jg8]))
 refine⟨_,_,⟨Tryz.func29,rfl,rfl,jg1 rfl⟩,?_⟩
 (conv=>whnf)
 (conv=>whnf)
 (try simp only[jg8,z0,y0,w0])
 repeat ((first|refine V.s1 ?_);(try simp only[jg8,z0,y0,w0]))
 refine jae (0) (fun k=>k≤A) (fun k=>A-k) (fun k=>[(14,.int .i64 k),(3,.int .i64 ((k*B*Cc*6:Nat):Int))]) (fun k=>[(34,.lp none),(7,.box [.int .i64 (cntN data s1 s2 (k*B*Cc*6) t)])]) ?_ ?_ ?_
 ·simp only[Nat.zero_mul]
  exact V.wk
 ·omega
 intro i hi
 (conv=>whnf)
 (try simp only[jg8,z0,y0,w0])
 repeat ((first|refine V.s1 ?_);(try simp only[jg8,z0,y0,w0]))
 refine Cnd.split (CondB.mk (fun hq=>?_) (fun hq=>?_))
 ·rw[decide_eq_true_eq] at hq
  have hi2:i<A:=by omega
  (conv=>whnf)
  (try simp only[jg8,z1,y1,w1])
  repeat ((first|refine V.s1 ?_);(try simp only[jg8,z1,y1,w1]))
  refine jae (0) (fun k=>k≤B) (fun k=>B-k) (fun k=>[(22,.int .i64 k),(3,.int .i64 (((i*B+k)*Cc*6:Nat):Int))]) (fun k=>[(34,.lp none),(7,.box [.int .i64 (cntN data s1 s2 ((i*B+k)*Cc*6) t)])]) ?_ ?_ ?_
  ·simp only[jg9]
   exact V.wk
  ·omega
  intro j hj
  (conv=>whnf)
  (try simp only[jg8,z1,y1,w1])
  repeat ((first|refine V.s1 ?_);(try simp only[jg8,z1,y1,w1]))
  refine Cnd.split (CondB.mk (fun hq2=>?_) (fun hq2=>?_))
  ·rw[decide_eq_true_eq] at hq2
   have hj2:j<B:=by omega
   (conv=>whnf)
   (try simp only[jg8,z2,y2,w2])
   repeat ((first|refine V.s1 ?_);(try simp only[jg8,z2,y2,w2]))
   refine jae (0) (fun k=>k≤Cc) (fun k=>Cc-k) (fun k=>[(30,.int .i64 k),(3,.int .i64 ((((i*B+j)*Cc+k)*6:Nat):Int))]) (fun k=>[(34,.lp none),(7,.box [.int .i64 (cntN data s1 s2 (((i*B+j)*Cc+k)*6) t)])]) ?_ ?_ ?_
   ·simp only[jg9]
    exact V.wk
   ·omega
   intro k hk
   (conv=>whnf)
   (try simp only[jg8,z2,y2,w2])
   repeat ((first|refine V.s1 ?_);(try simp only[jg8,z2,y2,w2]))
   refine Cnd.split (CondB.mk (fun hq3=>?_) (fun hq3=>?_))
   ·rw[decide_eq_true_eq] at hq3
    have hk2:k<Cc:=by omega
    have hn6:=hlt i j k 5 hi2 hj2 hk2 (by decide)
    (conv=>whnf)
    (try simp only[jg8])
    repeat ((first|refine V.s1 ?_);(try simp only[jg8]))
    refine jae (0:Nat) (fun o=>o≤6) (fun o=>6-o) (fun o=>[(34,.int .i64 (o:Int)),(3,.int .i64 ((((i*B+j)*Cc+k)*6+o:Nat):Int))]) (fun o=>[(34,.lp none),(7,.box [.int .i64 (cntN data s1 s2 (((i*B+j)*Cc+k)*6+o) t)])]) ?_ ?_ ?_
    ·simp only[jg9]
     exact V.wk
    ·omega
    intro o ho
    have ho6:o=0∨o=1∨o=2∨o=3∨o=4∨o=5∨o=6:=by omega
    rcases ho6 with eo|eo|eo|eo|eo|eo|eo
    ·subst eo
     obtain⟨p,q,r,d,c,F⟩:=hF i j k 0 hi2 hj2 hk2 (by decide)
     have fm:=F.made
     have fw:=F.wts
     clear F
     unfold tetD at fm fw
     simp only[tetL,n3L,v3L,ordA,jhD,jhR,List.map_cons,List.map_nil,n3D,n3I,k0,k1,k2] at fm fw
     unfold gridD at fm
     rw[hsz] at fm
     rw[show numT B Cc i j k 0=((i*B+j)*Cc+k)*6+0 from rfl] at fw
     have e1:=hcnt (((i*B+j)*Cc+k)*6+0) t
     have e3:=hcl (((i*B+j)*Cc+k)*6+0)
     (conv=>whnf)
     (try simp only[jg8,k0])
     repeat ((first|refine V.s1 ?_|((try ((with_reducible refine .ext ?_);(conv=>whnf);(try simp only[jg8,k0])));(with_reducible refine jaa (r:=?_) ?_ ?_);rotate_left;(focus (first|exact(fm)|exact(fw)));(conv=>whnf)));(try simp only[jg8,k0]))
     refine jaE [] [(7,.box [.int .i64 (cntN data s1 s2 (((i*B+j)*Cc+k)*6+0+1) t)])] (CondB.mk (fun hm=>?_) (fun hm=>?_)) ?_
     ·rw[hm,if_pos rfl] at e1
      have e2:((cntN data s1 s2 (((i*B+j)*Cc+k)*6+0) t:Nat):Int)+1=(cntN data s1 s2 (((i*B+j)*Cc+k)*6+0+1) t:Nat):=by omega
      (conv=>whnf)
      (try simp only[jg8,e2])
      repeat ((first|refine V.s1 ?_);(try simp only[jg8,e2]))
      exact V.wk
     ·rw[hm,if_neg (by decide),jg9] at e1
      rw[e1]
      (conv=>whnf)
      refine V.st ?_
      exact V.wk
     (conv=>whnf)
     (try simp only[jgW])
     repeat ((first|refine V.s1 ?_);(try simp only[jgW]))
     exact⟨0+1,by omega,by omega,V.wk⟩
    ·subst eo
     obtain⟨p,q,r,d,c,F⟩:=hF i j k 1 hi2 hj2 hk2 (by decide)
     have fm:=F.made
     have fw:=F.wts
     clear F
     unfold tetD at fm fw
     simp only[tetL,n3L,v3L,ordA,jhD,jhR,List.map_cons,List.map_nil,n3D,n3I,k0,k1,k2] at fm fw
     unfold gridD at fm
     rw[hsz] at fm
     rw[show numT B Cc i j k 1=((i*B+j)*Cc+k)*6+1 from rfl] at fw
     have e1:=hcnt (((i*B+j)*Cc+k)*6+1) t
     have e3:=hcl (((i*B+j)*Cc+k)*6+1)
     (conv=>whnf)
     (try simp only[jg8,k1])
     repeat ((first|refine V.s1 ?_|((try ((with_reducible refine .ext ?_);(conv=>whnf);(try simp only[jg8,k1])));(with_reducible refine jaa (r:=?_) ?_ ?_);rotate_left;(focus (first|exact(fm)|exact(fw)));(conv=>whnf)));(try simp only[jg8,k1]))
     refine jaE [] [(7,.box [.int .i64 (cntN data s1 s2 (((i*B+j)*Cc+k)*6+1+1) t)])] (CondB.mk (fun hm=>?_) (fun hm=>?_)) ?_
     ·rw[hm,if_pos rfl] at e1
      have e2:((cntN data s1 s2 (((i*B+j)*Cc+k)*6+1) t:Nat):Int)+1=(cntN data s1 s2 (((i*B+j)*Cc+k)*6+1+1) t:Nat):=by omega
      (conv=>whnf)
      (try simp only[jg8,e2])
      repeat ((first|refine V.s1 ?_);(try simp only[jg8,e2]))
      exact V.wk
     ·rw[hm,if_neg (by decide),jg9] at e1
      rw[e1]
      (conv=>whnf)
      refine V.st ?_
      exact V.wk
     (conv=>whnf)
     (try simp only[jgW])
     repeat ((first|refine V.s1 ?_);(try simp only[jgW]))
     exact⟨1+1,by omega,by omega,V.wk⟩
    ·subst eo
     obtain⟨p,q,r,d,c,F⟩:=hF i j k 2 hi2 hj2 hk2 (by decide)
     have fm:=F.made
     have fw:=F.wts
     clear F
     unfold tetD at fm fw
     simp only[tetL,n3L,v3L,ordA,jhD,jhR,List.map_cons,List.map_nil,n3D,n3I,k0,k1,k2] at fm fw
     unfold gridD at fm
     rw[hsz] at fm
     rw[show numT B Cc i j k 2=((i*B+j)*Cc+k)*6+2 from rfl] at fw
     have e1:=hcnt (((i*B+j)*Cc+k)*6+2) t
     have e3:=hcl (((i*B+j)*Cc+k)*6+2)
     (conv=>whnf)
     (try simp only[jg8,k2])
     repeat ((first|refine V.s1 ?_|((try ((with_reducible refine .ext ?_);(conv=>whnf);(try simp only[jg8,k2])));(with_reducible refine jaa (r:=?_) ?_ ?_);rotate_left;(focus (first|exact(fm)|exact(fw)));(conv=>whnf)));(try simp only[jg8,k2]))
     refine jaE [] [(7,.box [.int .i64 (cntN data s1 s2 (((i*B+j)*Cc+k)*6+2+1) t)])] (CondB.mk (fun hm=>?_) (fun hm=>?_)) ?_
     ·rw[hm,if_pos rfl] at e1
      have e2:((cntN data s1 s2 (((i*B+j)*Cc+k)*6+2) t:Nat):Int)+1=(cntN data s1 s2 (((i*B+j)*Cc+k)*6+2+1) t:Nat):=by omega
      (conv=>whnf)
      (try simp only[jg8,e2])
      repeat ((first|refine V.s1 ?_);(try simp only[jg8,e2]))
      exact V.wk
     ·rw[hm,if_neg (by decide),jg9] at e1
      rw[e1]
      (conv=>whnf)
      refine V.st ?_
      exact V.wk
     (conv=>whnf)
     (try simp only[jgW])
     repeat ((first|refine V.s1 ?_);(try simp only[jgW]))
     exact⟨2+1,by omega,by omega,V.wk⟩
    ·subst eo
     obtain⟨p,q,r,d,c,F⟩:=hF i j k 3 hi2 hj2 hk2 (by decide)
     have fm:=F.made
     have fw:=F.wts
     clear F
     unfold tetD at fm fw
     simp only[tetL,n3L,v3L,ordA,jhD,jhR,List.map_cons,List.map_nil,n3D,n3I,k0,k1,k2] at fm fw
     unfold gridD at fm
     rw[hsz] at fm
     rw[show numT B Cc i j k 3=((i*B+j)*Cc+k)*6+3 from rfl] at fw
     have e1:=hcnt (((i*B+j)*Cc+k)*6+3) t
     have e3:=hcl (((i*B+j)*Cc+k)*6+3)
     (conv=>whnf)
     (try simp only[jg8,k3])
     repeat ((first|refine V.s1 ?_|((try ((with_reducible refine .ext ?_);(conv=>whnf);(try simp only[jg8,k3])));(with_reducible refine jaa (r:=?_) ?_ ?_);rotate_left;(focus (first|exact(fm)|exact(fw)));(conv=>whnf)));(try simp only[jg8,k3]))
     refine jaE [] [(7,.box [.int .i64 (cntN data s1 s2 (((i*B+j)*Cc+k)*6+3+1) t)])] (CondB.mk (fun hm=>?_) (fun hm=>?_)) ?_
     ·rw[hm,if_pos rfl] at e1
      have e2:((cntN data s1 s2 (((i*B+j)*Cc+k)*6+3) t:Nat):Int)+1=(cntN data s1 s2 (((i*B+j)*Cc+k)*6+3+1) t:Nat):=by omega
      (conv=>whnf)
      (try simp only[jg8,e2])
      repeat ((first|refine V.s1 ?_);(try simp only[jg8,e2]))
      exact V.wk
     ·rw[hm,if_neg (by decide),jg9] at e1
      rw[e1]
      (conv=>whnf)
      refine V.st ?_
      exact V.wk
     (conv=>whnf)
     (try simp only[jgW])
     repeat ((first|refine V.s1 ?_);(try simp only[jgW]))
     exact⟨3+1,by omega,by omega,V.wk⟩
    ·subst eo
     obtain⟨p,q,r,d,c,F⟩:=hF i j k 4 hi2 hj2 hk2 (by decide)
     have fm:=F.made
     have fw:=F.wts
     clear F
     unfold tetD at fm fw
     simp only[tetL,n3L,v3L,ordA,jhD,jhR,List.map_cons,List.map_nil,n3D,n3I,k0,k1,k2] at fm fw
     unfold gridD at fm
     rw[hsz] at fm
     rw[show numT B Cc i j k 4=((i*B+j)*Cc+k)*6+4 from rfl] at fw
     have e1:=hcnt (((i*B+j)*Cc+k)*6+4) t
     have e3:=hcl (((i*B+j)*Cc+k)*6+4)
     (conv=>whnf)
     (try simp only[jg8,k4])
     repeat ((first|refine V.s1 ?_|((try ((with_reducible refine .ext ?_);(conv=>whnf);(try simp only[jg8,k4])));(with_reducible refine jaa (r:=?_) ?_ ?_);rotate_left;(focus (first|exact(fm)|exact(fw)));(conv=>whnf)));(try simp only[jg8,k4]))
     refine jaE [] [(7,.box [.int .i64 (cntN data s1 s2 (((i*B+j)*Cc+k)*6+4+1) t)])] (CondB.mk (fun hm=>?_) (fun hm=>?_)) ?_
     ·rw[hm,if_pos rfl] at e1
      have e2:((cntN data s1 s2 (((i*B+j)*Cc+k)*6+4) t:Nat):Int)+1=(cntN data s1 s2 (((i*B+j)*Cc+k)*6+4+1) t:Nat):=by omega
      (conv=>whnf)
      (try simp only[jg8,e2])
      repeat ((first|refine V.s1 ?_);(try simp only[jg8,e2]))
      exact V.wk
     ·rw[hm,if_neg (by decide),jg9] at e1
      rw[e1]
      (conv=>whnf)
      refine V.st ?_
      exact V.wk
     (conv=>whnf)
     (try simp only[jgW])
     repeat ((first|refine V.s1 ?_);(try simp only[jgW]))
     exact⟨4+1,by omega,by omega,V.wk⟩
    ·subst eo
     obtain⟨p,q,r,d,c,F⟩:=hF i j k 5 hi2 hj2 hk2 (by decide)
     have fm:=F.made
     have fw:=F.wts
     clear F
     unfold tetD at fm fw
     simp only[tetL,n3L,v3L,ordA,jhD,jhR,List.map_cons,List.map_nil,n3D,n3I,k0,k1,k2] at fm fw
     unfold gridD at fm
     rw[hsz] at fm
     rw[show numT B Cc i j k 5=((i*B+j)*Cc+k)*6+5 from rfl] at fw
     have e1:=hcnt (((i*B+j)*Cc+k)*6+5) t
     have e3:=hcl (((i*B+j)*Cc+k)*6+5)
     (conv=>whnf)
     (try simp only[jg8,k5])
     repeat ((first|refine V.s1 ?_|((try ((with_reducible refine .ext ?_);(conv=>whnf);(try simp only[jg8,k5])));(with_reducible refine jaa (r:=?_) ?_ ?_);rotate_left;(focus (first|exact(fm)|exact(fw)));(conv=>whnf)));(try simp only[jg8,k5]))
     refine jaE [] [(7,.box [.int .i64 (cntN data s1 s2 (((i*B+j)*Cc+k)*6+5+1) t)])] (CondB.mk (fun hm=>?_) (fun hm=>?_)) ?_
     ·rw[hm,if_pos rfl] at e1
      have e2:((cntN data s1 s2 (((i*B+j)*Cc+k)*6+5) t:Nat):Int)+1=(cntN data s1 s2 (((i*B+j)*Cc+k)*6+5+1) t:Nat):=by omega
      (conv=>whnf)
      (try simp only[jg8,e2])
      repeat ((first|refine V.s1 ?_);(try simp only[jg8,e2]))
      exact V.wk
     ·rw[hm,if_neg (by decide),jg9] at e1
      rw[e1]
      (conv=>whnf)
      refine V.st ?_
      exact V.wk
     (conv=>whnf)
     (try simp only[jgW])
     repeat ((first|refine V.s1 ?_);(try simp only[jgW]))
     exact⟨5+1,by omega,by omega,V.wk⟩
    ·subst eo
     have e9:((i*B+j)*Cc+k)*6+6=((i*B+j)*Cc+(k+1))*6:=by omega
     rw[e9]
     (conv=>whnf)
     (try simp only[jgW])
     repeat ((first|refine V.s1 ?_);(try simp only[jgW]))
     exact⟨k+1,by omega,by omega,V.wk⟩
   ·rw[decide_eq_false_iff_not] at hq3
    have hk2:k=Cc:=by omega
    subst hk2
    rw[← numT_j]
    (conv=>whnf)
    (try simp only[jgW])
    repeat ((first|refine V.s1 ?_);(try simp only[jgW]))
    exact⟨j+1,by omega,by omega,V.wk⟩
  ·rw[decide_eq_false_iff_not] at hq2
   have hj2:j=B:=by omega
   subst hj2
   rw[← numT_i]
   (conv=>whnf)
   (try simp only[jgW])
   repeat ((first|refine V.s1 ?_);(try simp only[jgW]))
   exact⟨i+1,by omega,by omega,V.wk⟩
 ·rw[decide_eq_false_iff_not] at hq
  have hi2:i=A:=by omega
  subst hi2
  have e9:i*B*Cc*6=6*(i*B*Cc):=by rw[jhf]
  rw[e9]
  (conv=>whnf)
  (try simp only[jg8])
  repeat ((first|refine V.s1 ?_);(try simp only[jg8]))
  exact Fin.of rfl
theorem jgV:type_of% @jg8∧type_of% @cs1:=⟨@jg8,@cs1⟩
theorem jcS (size:List Int)(out:Int)(data ts:List Int)(hs:size.length≤281474976710656)(hd:data.length≤281474976710656)(ht:ts.length≤281474976710656) :
  Cl 8 [gridD size out data,.ints .i64 ts] (locR size out data ts):=by
 have hch:=lcheck_c size out data ts hs hd ht
 have htt:=tetra_c size out data
 unfold gcD at htt
 rcases Decidable.em (chk size out data ts=0) with h0|h0
 rotate_left
 ·rw[jgj h0]
  have hr:=chk_r size out data ts
  generalize chk size out data ts=z at *
  unfold gridD at hch ⊢
  refine jfl tbOk 6 ⟨Tryz.func8,rfl,rfl,jg1 rfl⟩ ?_
  (conv=>whnf)
  (conv=>whnf)
  (try simp only[jg8])
  repeat ((first|refine V.s1 ?_|((try ((with_reducible refine .ext ?_);(conv=>whnf);(try simp only[jg8])));(with_reducible refine jaa (r:=?_) ?_ ?_);rotate_left;(focus (first|exact(hch)));(conv=>whnf)));(try simp only[jg8]))
  refine Cnd.split (CondB.mk (fun hq=>?_) (fun hq=>?_))
  ·(conv=>whnf)
   (try simp only[jg8])
   repeat ((first|refine V.s1 ?_);(try simp only[jg8]))
   exact Fin.of rfl
  ·exfalso
   simp at hq
   omega
 rw[h0] at hch
 obtain⟨s0,s1,s2,t,rfl,rfl,rfl,C,hv⟩:=chk_ok h0
 have hnone:=jdX h0
 have hsome:∀ n a b e d,_:=fun n a b e d=>jdW (n:=n) (a:=a) (b:=b) (e:=e) (d:=d) h0
 generalize locR (sz3 s0 s1 s2) 3 data (v3L t)=LR at *
 have hfn:∀ n,n<6*jaW s0 s1 s2→(∀ m,m<n→hldN data s1 s2 m t=none) → ∀ {r},hldN data s1 s2 n t=some r→fndN data s0 s1 s2 t=some n:=fun n hn hm r hr=>fnd_some hm hn hr
 have hfz:(∀ n,n<6*jaW s0 s1 s2→hldN data s1 s2 n t=none)→fndN data s0 s1 s2 t=none:=fun h=>fnd_none h
 have hle:=cells_le C
 have hF:∀ i j k o,i<s0-1→j<s1-1→k<s2-1→o<6 → ∃ p q r d c,TetOk s0 s1 s2 data t i j k o (numT (s1-1) (s2-1) i j k o) p q r d (tetD (i,j,k) (ordA o) c):=fun i j k o=>tet_ok C hv
 have hlt:∀ i j k o,i<s0-1→j<s1-1→k<s2-1→o<6→_:=fun i j k o hi hj hk ho=>num_lt (A:=s0-1) (B:=s1-1) (C:=s2-1) hi hj hk ho
 have h0:=C.h0
 have h1:=C.h1
 have h2:=C.h2
 have z0:=sz3_0 s0 s1 s2
 have z1:=sz3_1 s0 s1 s2
 have z2:=sz3_2 s0 s1 s2
 have zl:=jeV s0 s1 s2
 have y0:(sz3 s0 s1 s2).getD 0 0=s0:=rfl
 have y1:(sz3 s0 s1 s2).getD 1 0=s1:=rfl
 have y2:(sz3 s0 s1 s2).getD 2 0=s2:=rfl
 obtain⟨sz,hsz⟩:∃ sz,sz3 s0 s1 s2=sz:=⟨_,rfl⟩
 unfold v3L at hch ⊢
 unfold gridD at hch htt ⊢
 rw[hsz] at hch htt z0 z1 z2 zl y0 y1 y2 ⊢
 unfold jaW at hle hfn hfz
 obtain⟨A,hA⟩:∃ A,s0-1=A:=⟨_,rfl⟩
 obtain⟨B,hB⟩:∃ B,s1-1=B:=⟨_,rfl⟩
 obtain⟨Cc,hC⟩:∃ C,s2-1=C:=⟨_,rfl⟩
 rw[hA,hB,hC] at hF hle hlt hfn hfz
 have w0:(s0:Int)-1=(A:Int):=by omega
 have w1:(s1:Int)-1=(B:Int):=by omega
 have w2:(s2:Int)-1=(Cc:Int):=by omega
 clear C
 refine jfl tbOk 6 ⟨Tryz.func8,rfl,rfl,jg1 rfl⟩ ?_
 (conv=>whnf)
 (conv=>whnf)
 (try simp only[jg8])
 repeat ((first|refine V.s1 ?_|((try ((with_reducible refine .ext ?_);(conv=>whnf);(try simp only[jg8])));(with_reducible refine jaa (r:=?_) ?_ ?_);rotate_left;(focus (first|exact(hch)|exact(htt)));(conv=>whnf)));(try simp only[jg8]))
 refine⟨_,_,⟨Tryz.func29,rfl,rfl,jg1 rfl⟩,?_⟩
 (conv=>whnf)
 (conv=>whnf)
 (try simp only[jg8,z0,y0,w0])
 repeat ((first|refine V.s1 ?_);(try simp only[jg8,z0,y0,w0]))
 refine jae (0) (fun k=>k≤A ∧ ∀ m,m<k*B*Cc*6→hldN data s1 s2 m t=none) (fun k=>A-k) (fun k=>[(14,.int .i64 k),(3,.int .i64 ((k*B*Cc*6:Nat):Int))]) (fun k=>[(47,.lp none)]) ?_ ?_ ?_
 ·simp only[Nat.zero_mul]
  exact V.wk
 ·exact⟨jg2 _,fun m hm=>absurd hm (by simp)⟩
 intro i hi
 obtain⟨hi,hno⟩:=hi
 (conv=>whnf)
 (try simp only[jg8,z0,y0,w0])
 repeat ((first|refine V.s1 ?_);(try simp only[jg8,z0,y0,w0]))
 refine Cnd.split (CondB.mk (fun hq=>?_) (fun hq=>?_))
 ·rw[decide_eq_true_eq] at hq
  have hi2:i<A:=by omega
  (conv=>whnf)
  (try simp only[jg8,z1,y1,w1])
  repeat ((first|refine V.s1 ?_);(try simp only[jg8,z1,y1,w1]))
  refine jae (0) (fun k=>k≤B ∧ ∀ m,m<(i*B+k)*Cc*6→hldN data s1 s2 m t=none) (fun k=>B-k) (fun k=>[(22,.int .i64 k),(3,.int .i64 (((i*B+k)*Cc*6:Nat):Int))]) (fun k=>[(47,.lp none)]) ?_ ?_ ?_
  ·simp only[jg9]
   exact V.wk
  ·exact⟨jg2 _,hno⟩
  intro j hj
  clear hno
  obtain⟨hj,hno⟩:=hj
  (conv=>whnf)
  (try simp only[jg8,z1,y1,w1])
  repeat ((first|refine V.s1 ?_);(try simp only[jg8,z1,y1,w1]))
  refine Cnd.split (CondB.mk (fun hq2=>?_) (fun hq2=>?_))
  ·rw[decide_eq_true_eq] at hq2
   have hj2:j<B:=by omega
   (conv=>whnf)
   (try simp only[jg8,z2,y2,w2])
   repeat ((first|refine V.s1 ?_);(try simp only[jg8,z2,y2,w2]))
   refine jae (0) (fun k=>k≤Cc ∧ ∀ m,m<((i*B+j)*Cc+k)*6→hldN data s1 s2 m t=none) (fun k=>Cc-k) (fun k=>[(30,.int .i64 k),(3,.int .i64 ((((i*B+j)*Cc+k)*6:Nat):Int))]) (fun k=>[(47,.lp none)]) ?_ ?_ ?_
   ·simp only[jg9]
    exact V.wk
   ·exact⟨jg2 _,hno⟩
   intro k hk
   clear hno
   obtain⟨hk,hno⟩:=hk
   (conv=>whnf)
   (try simp only[jg8,z2,y2,w2])
   repeat ((first|refine V.s1 ?_);(try simp only[jg8,z2,y2,w2]))
   refine Cnd.split (CondB.mk (fun hq3=>?_) (fun hq3=>?_))
   ·rw[decide_eq_true_eq] at hq3
    have hk2:k<Cc:=by omega
    have hn6:=hlt i j k 5 hi2 hj2 hk2 (by decide)
    (conv=>whnf)
    (try simp only[jg8])
    repeat ((first|refine V.s1 ?_);(try simp only[jg8]))
    refine jae (0:Nat) (fun o=>o≤6 ∧ ∀ m,m<((i*B+j)*Cc+k)*6+o→hldN data s1 s2 m t=none) (fun o=>6-o) (fun o=>[(34,.int .i64 (o:Int)),(3,.int .i64 ((((i*B+j)*Cc+k)*6+o:Nat):Int))]) (fun o=>[(47,.lp none)]) ?_ ?_ ?_
    ·simp only[jg9]
     exact V.wk
    ·exact⟨jg2 _,hno⟩
    intro o ho
    clear hno
    obtain⟨ho,hno⟩:=ho
    have ho6:o=0∨o=1∨o=2∨o=3∨o=4∨o=5∨o=6:=by omega
    rcases ho6 with eo|eo|eo|eo|eo|eo|eo
    ·subst eo
     obtain⟨p,q,r,d,c,F⟩:=hF i j k 0 hi2 hj2 hk2 (by decide)
     have fm:=F.made
     have fw:=F.wts
     have fis:=F.is
     have fin:=F.inp
     clear F
     unfold tetD at fm fw fin
     simp only[tetL,n3L,v3L,ordA,jhD,jhR,List.map_cons,List.map_nil,n3D,n3I,k0,k1,k2] at fm fw fin
     unfold gridD at fm
     rw[hsz] at fm fin
     rw[show numT B Cc i j k 0=((i*B+j)*Cc+k)*6+0 from rfl] at fw fis fin
     have hnl:=hlt i j k 0 hi2 hj2 hk2 (by decide)
     (conv=>whnf)
     (try simp only[jg8,k0])
     repeat ((first|refine V.s1 ?_|((try ((with_reducible refine .ext ?_);(conv=>whnf);(try simp only[jg8,k0])));(with_reducible refine jaa (r:=?_) ?_ ?_);rotate_left;(focus (first|exact(fm)|exact(fw)));(conv=>whnf)));(try simp only[jg8,k0]))
     refine Cnd.split (CondB.mk (fun hm=>?_) (fun hm=>?_))
     ·have hyes:∃ y,hldN data s1 s2 (((i*B+j)*Cc+k)*6+0) t=some y:=by
       cases hx:hldN data s1 s2 (((i*B+j)*Cc+k)*6+0) t with
       | none=>rw[hx] at hm;simp at hm
       | some y=>exact⟨y,rfl⟩
      obtain⟨y,hy⟩:=hyes
      have hey:=fis y hy
      subst hey
      have fi:=fin _ hy
      have hl:=hsome _ p q r d (hfn _ hnl hno hy) hy
      rw[hl]
      (conv=>whnf)
      (try simp only[jg8])
      repeat ((first|refine V.s1 ?_|((try ((with_reducible refine .ext ?_);(conv=>whnf);(try simp only[jg8])));(with_reducible refine jaa (r:=?_) ?_ ?_);rotate_left;(focus (first|exact(fi)));(conv=>whnf)));(try simp only[jg8]))
      refine⟨(.take 0 (.take 1 (.ev (.cons 2 [1] (.ev (.cons 3 [] (.ev (.cons 4 [] (.done) (.nil))) (.nil))) (.nil))))),[],⟨by kernel_rfl,by kernel_rfl,by kernel_rfl,by kernel_rfl⟩,?_⟩
      refine jad [] [(4,.box [.slf 2 3 (resF (cellN s1 s2 (((i*B+j)*Cc+k)*6+0)) ((((i*B+j)*Cc+k)*6+0)%6) p q r d s0 s1 s2)]),(5,.box [.int .i64 ((((i*B+j)*Cc+k)*6+0:Nat):Int)]),(6,.box [.int .i64 0])] ?_ ?_
      ·(conv=>whnf);(try simp only[jg8])
       repeat' (first|exact V.wk|((with_reducible refine And.intro ?_ jaS);(conv=>whnf);(try simp only[jg8]))|((with_reducible first|refine jaF ?_ ?_|refine jaP ?_ ?_)<;>(conv=>whnf);(try simp only[jg8]))|((first|refine V.s1 ?_|((with_reducible refine jat ?_ ?_);(focus ((conv=>whnf);(try simp only[jg8]);(repeat ((first|refine V.s1 ?_);(try simp only[jg8])));exact⟨rfl⟩));(conv=>whnf)));(try simp only[jg8]))|(refine And.intro ?_ ?_<;>(conv=>whnf);(try simp only[jg8])))
      (conv=>whnf)
      (try simp only[jg8])
      repeat ((first|refine V.s1 ?_);(try simp only[jg8]))
      exact Fin.of rfl
     ·have hno2:hldN data s1 s2 (((i*B+j)*Cc+k)*6+0) t=none:=by
       cases hx:hldN data s1 s2 (((i*B+j)*Cc+k)*6+0) t with
       | none=>rfl
       | some y=>rw[hx] at hm;simp at hm
      (conv=>whnf)
      (try simp only[jgV])
      repeat ((first|refine V.s1 ?_);(try simp only[jgV]))
      exact⟨0+1,⟨by omega,fun m hm=>(Nat.lt_succ_iff_lt_or_eq.1 hm).elim (hno m) (fun e=>e▸hno2)⟩,by omega,V.wk⟩
    ·subst eo
     obtain⟨p,q,r,d,c,F⟩:=hF i j k 1 hi2 hj2 hk2 (by decide)
     have fm:=F.made
     have fw:=F.wts
     have fis:=F.is
     have fin:=F.inp
     clear F
     unfold tetD at fm fw fin
     simp only[tetL,n3L,v3L,ordA,jhD,jhR,List.map_cons,List.map_nil,n3D,n3I,k0,k1,k2] at fm fw fin
     unfold gridD at fm
     rw[hsz] at fm fin
     rw[show numT B Cc i j k 1=((i*B+j)*Cc+k)*6+1 from rfl] at fw fis fin
     have hnl:=hlt i j k 1 hi2 hj2 hk2 (by decide)
     (conv=>whnf)
     (try simp only[jg8,k1])
     repeat ((first|refine V.s1 ?_|((try ((with_reducible refine .ext ?_);(conv=>whnf);(try simp only[jg8,k1])));(with_reducible refine jaa (r:=?_) ?_ ?_);rotate_left;(focus (first|exact(fm)|exact(fw)));(conv=>whnf)));(try simp only[jg8,k1]))
     refine Cnd.split (CondB.mk (fun hm=>?_) (fun hm=>?_))
     ·have hyes:∃ y,hldN data s1 s2 (((i*B+j)*Cc+k)*6+1) t=some y:=by
       cases hx:hldN data s1 s2 (((i*B+j)*Cc+k)*6+1) t with
       | none=>rw[hx] at hm;simp at hm
       | some y=>exact⟨y,rfl⟩
      obtain⟨y,hy⟩:=hyes
      have hey:=fis y hy
      subst hey
      have fi:=fin _ hy
      have hl:=hsome _ p q r d (hfn _ hnl hno hy) hy
      rw[hl]
      (conv=>whnf)
      (try simp only[jg8])
      repeat ((first|refine V.s1 ?_|((try ((with_reducible refine .ext ?_);(conv=>whnf);(try simp only[jg8])));(with_reducible refine jaa (r:=?_) ?_ ?_);rotate_left;(focus (first|exact(fi)));(conv=>whnf)));(try simp only[jg8]))
      refine⟨(.take 0 (.take 1 (.ev (.cons 2 [1] (.ev (.cons 3 [] (.ev (.cons 4 [] (.done) (.nil))) (.nil))) (.nil))))),[],⟨by kernel_rfl,by kernel_rfl,by kernel_rfl,by kernel_rfl⟩,?_⟩
      refine jad [] [(4,.box [.slf 2 3 (resF (cellN s1 s2 (((i*B+j)*Cc+k)*6+1)) ((((i*B+j)*Cc+k)*6+1)%6) p q r d s0 s1 s2)]),(5,.box [.int .i64 ((((i*B+j)*Cc+k)*6+1:Nat):Int)]),(6,.box [.int .i64 0])] ?_ ?_
      ·(conv=>whnf);(try simp only[jg8])
       repeat' (first|exact V.wk|((with_reducible refine And.intro ?_ jaS);(conv=>whnf);(try simp only[jg8]))|((with_reducible first|refine jaF ?_ ?_|refine jaP ?_ ?_)<;>(conv=>whnf);(try simp only[jg8]))|((first|refine V.s1 ?_|((with_reducible refine jat ?_ ?_);(focus ((conv=>whnf);(try simp only[jg8]);(repeat ((first|refine V.s1 ?_);(try simp only[jg8])));exact⟨rfl⟩));(conv=>whnf)));(try simp only[jg8]))|(refine And.intro ?_ ?_<;>(conv=>whnf);(try simp only[jg8])))
      (conv=>whnf)
      (try simp only[jg8])
      repeat ((first|refine V.s1 ?_);(try simp only[jg8]))
      exact Fin.of rfl
     ·have hno2:hldN data s1 s2 (((i*B+j)*Cc+k)*6+1) t=none:=by
       cases hx:hldN data s1 s2 (((i*B+j)*Cc+k)*6+1) t with
       | none=>rfl
       | some y=>rw[hx] at hm;simp at hm
      (conv=>whnf)
      (try simp only[jgV])
      repeat ((first|refine V.s1 ?_);(try simp only[jgV]))
      exact⟨1+1,⟨by omega,fun m hm=>(Nat.lt_succ_iff_lt_or_eq.1 hm).elim (hno m) (fun e=>e▸hno2)⟩,by omega,V.wk⟩
    ·subst eo
     obtain⟨p,q,r,d,c,F⟩:=hF i j k 2 hi2 hj2 hk2 (by decide)
     have fm:=F.made
     have fw:=F.wts
     have fis:=F.is
     have fin:=F.inp
     clear F
     unfold tetD at fm fw fin
     simp only[tetL,n3L,v3L,ordA,jhD,jhR,List.map_cons,List.map_nil,n3D,n3I,k0,k1,k2] at fm fw fin
     unfold gridD at fm
     rw[hsz] at fm fin
     rw[show numT B Cc i j k 2=((i*B+j)*Cc+k)*6+2 from rfl] at fw fis fin
     have hnl:=hlt i j k 2 hi2 hj2 hk2 (by decide)
     (conv=>whnf)
     (try simp only[jg8,k2])
     repeat ((first|refine V.s1 ?_|((try ((with_reducible refine .ext ?_);(conv=>whnf);(try simp only[jg8,k2])));(with_reducible refine jaa (r:=?_) ?_ ?_);rotate_left;(focus (first|exact(fm)|exact(fw)));(conv=>whnf)));(try simp only[jg8,k2]))
     refine Cnd.split (CondB.mk (fun hm=>?_) (fun hm=>?_))
     ·have hyes:∃ y,hldN data s1 s2 (((i*B+j)*Cc+k)*6+2) t=some y:=by
       cases hx:hldN data s1 s2 (((i*B+j)*Cc+k)*6+2) t with
       | none=>rw[hx] at hm;simp at hm
       | some y=>exact⟨y,rfl⟩
      obtain⟨y,hy⟩:=hyes
      have hey:=fis y hy
      subst hey
      have fi:=fin _ hy
      have hl:=hsome _ p q r d (hfn _ hnl hno hy) hy
      rw[hl]
      (conv=>whnf)
      (try simp only[jg8])
      repeat ((first|refine V.s1 ?_|((try ((with_reducible refine .ext ?_);(conv=>whnf);(try simp only[jg8])));(with_reducible refine jaa (r:=?_) ?_ ?_);rotate_left;(focus (first|exact(fi)));(conv=>whnf)));(try simp only[jg8]))
      refine⟨(.take 0 (.take 1 (.ev (.cons 2 [1] (.ev (.cons 3 [] (.ev (.cons 4 [] (.done) (.nil))) (.nil))) (.nil))))),[],⟨by kernel_rfl,by kernel_rfl,by kernel_rfl,by kernel_rfl⟩,?_⟩
      refine jad [] [(4,.box [.slf 2 3 (resF (cellN s1 s2 (((i*B+j)*Cc+k)*6+2)) ((((i*B+j)*Cc+k)*6+2)%6) p q r d s0 s1 s2)]),(5,.box [.int .i64 ((((i*B+j)*Cc+k)*6+2:Nat):Int)]),(6,.box [.int .i64 0])] ?_ ?_
      ·(conv=>whnf);(try simp only[jg8])
       repeat' (first|exact V.wk|((with_reducible refine And.intro ?_ jaS);(conv=>whnf);(try simp only[jg8]))|((with_reducible first|refine jaF ?_ ?_|refine jaP ?_ ?_)<;>(conv=>whnf);(try simp only[jg8]))|((first|refine V.s1 ?_|((with_reducible refine jat ?_ ?_);(focus ((conv=>whnf);(try simp only[jg8]);(repeat ((first|refine V.s1 ?_);(try simp only[jg8])));exact⟨rfl⟩));(conv=>whnf)));(try simp only[jg8]))|(refine And.intro ?_ ?_<;>(conv=>whnf);(try simp only[jg8])))
      (conv=>whnf)
      (try simp only[jg8])
      repeat ((first|refine V.s1 ?_);(try simp only[jg8]))
      exact Fin.of rfl
     ·have hno2:hldN data s1 s2 (((i*B+j)*Cc+k)*6+2) t=none:=by
       cases hx:hldN data s1 s2 (((i*B+j)*Cc+k)*6+2) t with
       | none=>rfl
       | some y=>rw[hx] at hm;simp at hm
      (conv=>whnf)
      (try simp only[jgV])
      repeat ((first|refine V.s1 ?_);(try simp only[jgV]))
      exact⟨2+1,⟨by omega,fun m hm=>(Nat.lt_succ_iff_lt_or_eq.1 hm).elim (hno m) (fun e=>e▸hno2)⟩,by omega,V.wk⟩
    ·subst eo
     obtain⟨p,q,r,d,c,F⟩:=hF i j k 3 hi2 hj2 hk2 (by decide)
     have fm:=F.made
     have fw:=F.wts
     have fis:=F.is
     have fin:=F.inp
     clear F
     unfold tetD at fm fw fin
     simp only[tetL,n3L,v3L,ordA,jhD,jhR,List.map_cons,List.map_nil,n3D,n3I,k0,k1,k2] at fm fw fin
     unfold gridD at fm
     rw[hsz] at fm fin
     rw[show numT B Cc i j k 3=((i*B+j)*Cc+k)*6+3 from rfl] at fw fis fin
     have hnl:=hlt i j k 3 hi2 hj2 hk2 (by decide)
     (conv=>whnf)
     (try simp only[jg8,k3])
     repeat ((first|refine V.s1 ?_|((try ((with_reducible refine .ext ?_);(conv=>whnf);(try simp only[jg8,k3])));(with_reducible refine jaa (r:=?_) ?_ ?_);rotate_left;(focus (first|exact(fm)|exact(fw)));(conv=>whnf)));(try simp only[jg8,k3]))
     refine Cnd.split (CondB.mk (fun hm=>?_) (fun hm=>?_))
     ·have hyes:∃ y,hldN data s1 s2 (((i*B+j)*Cc+k)*6+3) t=some y:=by
       cases hx:hldN data s1 s2 (((i*B+j)*Cc+k)*6+3) t with
       | none=>rw[hx] at hm;simp at hm
       | some y=>exact⟨y,rfl⟩
      obtain⟨y,hy⟩:=hyes
      have hey:=fis y hy
      subst hey
      have fi:=fin _ hy
      have hl:=hsome _ p q r d (hfn _ hnl hno hy) hy
      rw[hl]
      (conv=>whnf)
      (try simp only[jg8])
      repeat ((first|refine V.s1 ?_|((try ((with_reducible refine .ext ?_);(conv=>whnf);(try simp only[jg8])));(with_reducible refine jaa (r:=?_) ?_ ?_);rotate_left;(focus (first|exact(fi)));(conv=>whnf)));(try simp only[jg8]))
      refine⟨(.take 0 (.take 1 (.ev (.cons 2 [1] (.ev (.cons 3 [] (.ev (.cons 4 [] (.done) (.nil))) (.nil))) (.nil))))),[],⟨by kernel_rfl,by kernel_rfl,by kernel_rfl,by kernel_rfl⟩,?_⟩
      refine jad [] [(4,.box [.slf 2 3 (resF (cellN s1 s2 (((i*B+j)*Cc+k)*6+3)) ((((i*B+j)*Cc+k)*6+3)%6) p q r d s0 s1 s2)]),(5,.box [.int .i64 ((((i*B+j)*Cc+k)*6+3:Nat):Int)]),(6,.box [.int .i64 0])] ?_ ?_
      ·(conv=>whnf);(try simp only[jg8])
       repeat' (first|exact V.wk|((with_reducible refine And.intro ?_ jaS);(conv=>whnf);(try simp only[jg8]))|((with_reducible first|refine jaF ?_ ?_|refine jaP ?_ ?_)<;>(conv=>whnf);(try simp only[jg8]))|((first|refine V.s1 ?_|((with_reducible refine jat ?_ ?_);(focus ((conv=>whnf);(try simp only[jg8]);(repeat ((first|refine V.s1 ?_);(try simp only[jg8])));exact⟨rfl⟩));(conv=>whnf)));(try simp only[jg8]))|(refine And.intro ?_ ?_<;>(conv=>whnf);(try simp only[jg8])))
      (conv=>whnf)
      (try simp only[jg8])
      repeat ((first|refine V.s1 ?_);(try simp only[jg8]))
      exact Fin.of rfl
     ·have hno2:hldN data s1 s2 (((i*B+j)*Cc+k)*6+3) t=none:=by
       cases hx:hldN data s1 s2 (((i*B+j)*Cc+k)*6+3) t with
       | none=>rfl
       | some y=>rw[hx] at hm;simp at hm
      (conv=>whnf)
      (try simp only[jgV])
      repeat ((first|refine V.s1 ?_);(try simp only[jgV]))
      exact⟨3+1,⟨by omega,fun m hm=>(Nat.lt_succ_iff_lt_or_eq.1 hm).elim (hno m) (fun e=>e▸hno2)⟩,by omega,V.wk⟩
    ·subst eo
     obtain⟨p,q,r,d,c,F⟩:=hF i j k 4 hi2 hj2 hk2 (by decide)
     have fm:=F.made
     have fw:=F.wts
     have fis:=F.is
     have fin:=F.inp
     clear F
     unfold tetD at fm fw fin
     simp only[tetL,n3L,v3L,ordA,jhD,jhR,List.map_cons,List.map_nil,n3D,n3I,k0,k1,k2] at fm fw fin
     unfold gridD at fm
     rw[hsz] at fm fin
     rw[show numT B Cc i j k 4=((i*B+j)*Cc+k)*6+4 from rfl] at fw fis fin
     have hnl:=hlt i j k 4 hi2 hj2 hk2 (by decide)
     (conv=>whnf)
     (try simp only[jg8,k4])
     repeat ((first|refine V.s1 ?_|((try ((with_reducible refine .ext ?_);(conv=>whnf);(try simp only[jg8,k4])));(with_reducible refine jaa (r:=?_) ?_ ?_);rotate_left;(focus (first|exact(fm)|exact(fw)));(conv=>whnf)));(try simp only[jg8,k4]))
     refine Cnd.split (CondB.mk (fun hm=>?_) (fun hm=>?_))
     ·have hyes:∃ y,hldN data s1 s2 (((i*B+j)*Cc+k)*6+4) t=some y:=by
       cases hx:hldN data s1 s2 (((i*B+j)*Cc+k)*6+4) t with
       | none=>rw[hx] at hm;simp at hm
       | some y=>exact⟨y,rfl⟩
      obtain⟨y,hy⟩:=hyes
      have hey:=fis y hy
      subst hey
      have fi:=fin _ hy
      have hl:=hsome _ p q r d (hfn _ hnl hno hy) hy
      rw[hl]
      (conv=>whnf)
      (try simp only[jg8])
      repeat ((first|refine V.s1 ?_|((try ((with_reducible refine .ext ?_);(conv=>whnf);(try simp only[jg8])));(with_reducible refine jaa (r:=?_) ?_ ?_);rotate_left;(focus (first|exact(fi)));(conv=>whnf)));(try simp only[jg8]))
      refine⟨(.take 0 (.take 1 (.ev (.cons 2 [1] (.ev (.cons 3 [] (.ev (.cons 4 [] (.done) (.nil))) (.nil))) (.nil))))),[],⟨by kernel_rfl,by kernel_rfl,by kernel_rfl,by kernel_rfl⟩,?_⟩
      refine jad [] [(4,.box [.slf 2 3 (resF (cellN s1 s2 (((i*B+j)*Cc+k)*6+4)) ((((i*B+j)*Cc+k)*6+4)%6) p q r d s0 s1 s2)]),(5,.box [.int .i64 ((((i*B+j)*Cc+k)*6+4:Nat):Int)]),(6,.box [.int .i64 0])] ?_ ?_
      ·(conv=>whnf);(try simp only[jg8])
       repeat' (first|exact V.wk|((with_reducible refine And.intro ?_ jaS);(conv=>whnf);(try simp only[jg8]))|((with_reducible first|refine jaF ?_ ?_|refine jaP ?_ ?_)<;>(conv=>whnf);(try simp only[jg8]))|((first|refine V.s1 ?_|((with_reducible refine jat ?_ ?_);(focus ((conv=>whnf);(try simp only[jg8]);(repeat ((first|refine V.s1 ?_);(try simp only[jg8])));exact⟨rfl⟩));(conv=>whnf)));(try simp only[jg8]))|(refine And.intro ?_ ?_<;>(conv=>whnf);(try simp only[jg8])))
      (conv=>whnf)
      (try simp only[jg8])
      repeat ((first|refine V.s1 ?_);(try simp only[jg8]))
      exact Fin.of rfl
     ·have hno2:hldN data s1 s2 (((i*B+j)*Cc+k)*6+4) t=none:=by
       cases hx:hldN data s1 s2 (((i*B+j)*Cc+k)*6+4) t with
       | none=>rfl
       | some y=>rw[hx] at hm;simp at hm
      (conv=>whnf)
      (try simp only[jgV])
      repeat ((first|refine V.s1 ?_);(try simp only[jgV]))
      exact⟨4+1,⟨by omega,fun m hm=>(Nat.lt_succ_iff_lt_or_eq.1 hm).elim (hno m) (fun e=>e▸hno2)⟩,by omega,V.wk⟩
    ·subst eo
     obtain⟨p,q,r,d,c,F⟩:=hF i j k 5 hi2 hj2 hk2 (by decide)
     have fm:=F.made
     have fw:=F.wts
     have fis:=F.is
     have fin:=F.inp
     clear F
     unfold tetD at fm fw fin
     simp only[tetL,n3L,v3L,ordA,jhD,jhR,List.map_cons,List.map_nil,n3D,n3I,k0,k1,k2] at fm fw fin
     unfold gridD at fm
     rw[hsz] at fm fin
     rw[show numT B Cc i j k 5=((i*B+j)*Cc+k)*6+5 from rfl] at fw fis fin
     have hnl:=hlt i j k 5 hi2 hj2 hk2 (by decide)
     (conv=>whnf)
     (try simp only[jg8,k5])
     repeat ((first|refine V.s1 ?_|((try ((with_reducible refine .ext ?_);(conv=>whnf);(try simp only[jg8,k5])));(with_reducible refine jaa (r:=?_) ?_ ?_);rotate_left;(focus (first|exact(fm)|exact(fw)));(conv=>whnf)));(try simp only[jg8,k5]))
     refine Cnd.split (CondB.mk (fun hm=>?_) (fun hm=>?_))
     ·have hyes:∃ y,hldN data s1 s2 (((i*B+j)*Cc+k)*6+5) t=some y:=by
       cases hx:hldN data s1 s2 (((i*B+j)*Cc+k)*6+5) t with
       | none=>rw[hx] at hm;simp at hm
       | some y=>exact⟨y,rfl⟩
      obtain⟨y,hy⟩:=hyes
      have hey:=fis y hy
      subst hey
      have fi:=fin _ hy
      have hl:=hsome _ p q r d (hfn _ hnl hno hy) hy
      rw[hl]
      (conv=>whnf)
      (try simp only[jg8])
      repeat ((first|refine V.s1 ?_|((try ((with_reducible refine .ext ?_);(conv=>whnf);(try simp only[jg8])));(with_reducible refine jaa (r:=?_) ?_ ?_);rotate_left;(focus (first|exact(fi)));(conv=>whnf)));(try simp only[jg8]))
      refine⟨(.take 0 (.take 1 (.ev (.cons 2 [1] (.ev (.cons 3 [] (.ev (.cons 4 [] (.done) (.nil))) (.nil))) (.nil))))),[],⟨by kernel_rfl,by kernel_rfl,by kernel_rfl,by kernel_rfl⟩,?_⟩
      refine jad [] [(4,.box [.slf 2 3 (resF (cellN s1 s2 (((i*B+j)*Cc+k)*6+5)) ((((i*B+j)*Cc+k)*6+5)%6) p q r d s0 s1 s2)]),(5,.box [.int .i64 ((((i*B+j)*Cc+k)*6+5:Nat):Int)]),(6,.box [.int .i64 0])] ?_ ?_
      ·(conv=>whnf);(try simp only[jg8])
       repeat' (first|exact V.wk|((with_reducible refine And.intro ?_ jaS);(conv=>whnf);(try simp only[jg8]))|((with_reducible first|refine jaF ?_ ?_|refine jaP ?_ ?_)<;>(conv=>whnf);(try simp only[jg8]))|((first|refine V.s1 ?_|((with_reducible refine jat ?_ ?_);(focus ((conv=>whnf);(try simp only[jg8]);(repeat ((first|refine V.s1 ?_);(try simp only[jg8])));exact⟨rfl⟩));(conv=>whnf)));(try simp only[jg8]))|(refine And.intro ?_ ?_<;>(conv=>whnf);(try simp only[jg8])))
      (conv=>whnf)
      (try simp only[jg8])
      repeat ((first|refine V.s1 ?_);(try simp only[jg8]))
      exact Fin.of rfl
     ·have hno2:hldN data s1 s2 (((i*B+j)*Cc+k)*6+5) t=none:=by
       cases hx:hldN data s1 s2 (((i*B+j)*Cc+k)*6+5) t with
       | none=>rfl
       | some y=>rw[hx] at hm;simp at hm
      (conv=>whnf)
      (try simp only[jgV])
      repeat ((first|refine V.s1 ?_);(try simp only[jgV]))
      exact⟨5+1,⟨by omega,fun m hm=>(Nat.lt_succ_iff_lt_or_eq.1 hm).elim (hno m) (fun e=>e▸hno2)⟩,by omega,V.wk⟩
    ·subst eo
     have e9:((i*B+j)*Cc+k)*6+6=((i*B+j)*Cc+(k+1))*6:=by omega
     rw[e9] at hno ⊢
     (conv=>whnf)
     (try simp only[jgV])
     repeat ((first|refine V.s1 ?_);(try simp only[jgV]))
     exact⟨k+1,⟨by omega,hno⟩,by omega,V.wk⟩
   ·rw[decide_eq_false_iff_not] at hq3
    have hk2:k=Cc:=by omega
    subst hk2
    rw[← numT_j] at hno ⊢
    (conv=>whnf)
    (try simp only[jgV])
    repeat ((first|refine V.s1 ?_);(try simp only[jgV]))
    exact⟨j+1,⟨by omega,hno⟩,by omega,V.wk⟩
  ·rw[decide_eq_false_iff_not] at hq2
   have hj2:j=B:=by omega
   subst hj2
   rw[← numT_i] at hno ⊢
   (conv=>whnf)
   (try simp only[jgV])
   repeat ((first|refine V.s1 ?_);(try simp only[jgV]))
   exact⟨i+1,⟨by omega,hno⟩,by omega,V.wk⟩
 ·rw[decide_eq_false_iff_not] at hq
  have hi2:i=A:=by omega
  subst hi2
  have e9:i*B*Cc*6=6*(i*B*Cc):=by rw[jhf]
  rw[e9] at hno
  rw[hnone (hfz hno)]
  (conv=>whnf)
  (try simp only[jg8])
  repeat ((first|refine V.s1 ?_);(try simp only[jg8]))
  refine⟨(.take 0 (.ev (.cons 1 [0] (.ev (.cons 2 [0] (.ev (.cons 3 [] (.done) (.nil))) (.nil))) (.nil)))),[],⟨by kernel_rfl,by kernel_rfl,by kernel_rfl,by kernel_rfl⟩,?_⟩
  refine jad [] [(4,.box [.nil]),(5,.box [.int .i64 0]),(6,.box [.int .i64 4])] ?_ ?_
  ·(conv=>whnf);(try simp only[jg8])
   repeat' (first|exact V.wk|((with_reducible refine And.intro ?_ jaS);(conv=>whnf);(try simp only[jg8]))|((with_reducible first|refine jaF ?_ ?_|refine jaP ?_ ?_)<;>(conv=>whnf);(try simp only[jg8]))|((first|refine V.s1 ?_|((with_reducible refine jat ?_ ?_);(focus ((conv=>whnf);(try simp only[jg8]);(repeat ((first|refine V.s1 ?_);(try simp only[jg8])));exact⟨rfl⟩));(conv=>whnf)));(try simp only[jg8]))|(refine And.intro ?_ ?_<;>(conv=>whnf);(try simp only[jg8])))
  (conv=>whnf)
  (try simp only[jg8])
  repeat ((first|refine V.s1 ?_);(try simp only[jg8]))
  exact Fin.of rfl
end Go.Proofs.YtbhpaandigaanaaGreatDoor
end
section
namespace Go.Proofs.YtbhpaandigaanaaGreatDoor
open Go Go.V
def nrI (data:List Int)(n:Nat)(a:Int)(k:Nat):Int:=data.getD (3*(a%(n:Int))+(k:Int)).toNat 0
def nrS (data:List Int)(n:Nat)(a0 a1 a2 a3:Int)(k:Nat):Nat→Int
 | 0=>0
 | 1=>nrI data n a0 k
 | 2=>nrI data n a0 k+nrI data n a1 k
 | 3=>nrI data n a0 k+nrI data n a1 k+nrI data n a2 k
 | _=>nrI data n a0 k+nrI data n a1 k+nrI data n a2 k+nrI data n a3 k
def nrV (data:List Int)(n:Nat)(a0 a1 a2 a3:Int)(k:Nat)(o:Int):Int:=nrS data n a0 a1 a2 a3 k 4/4+o
def nrP (v0 v1 s:Int):Nat→List Int
 | 0=>[s,0,0]
 | 1=>[v0,s,0]
 | _=>[v0,v1,s]
def nrL (v0 v1 v2:Int):Nat→List Int
 | 0=>[0,0,0]
 | 1=>[v0,0,0]
 | 2=>[v0,v1,0]
 | _=>[v0,v1,v2]
theorem m4_0 {a n:Int}(ha:0≤a):a.tmod n=a%n:=jg6 ha
end Go.Proofs.YtbhpaandigaanaaGreatDoor
end
section
namespace Go.Gr
def PR:List Nat→Nat
 | []=>1
 | n::r=>n*PR r
def ixl:List Nat→Nat→List Int
 | [],_=>[]
 | n::r,m=>((m/PR r%n:Nat):Int)::ixl r m
theorem jbq (ns:List Nat)(m:Nat):(ixl ns m).length=ns.length:=by
 induction ns with
 | nil=>rfl
 | cons n r ih=>simp[ixl,ih]
theorem ixl_get (ns:List Nat)(m i n:Nat)(h:ns[i]? = some n):(ixl ns m)[i]? = some ((m/PR (ns.drop (i+1))%n:Nat):Int):=by
 induction ns generalizing i with
 | nil=>simp at h
 | cons a r ih=>
  cases i with
  | zero=>simp at h;subst h;simp[ixl]
  | succ i=>simpa [ixl] using ih i (by simpa using h)
end Go.Gr
end
section
namespace Go.Proofs.YtbhpaandigaanaaGreatDoor
open Go Go.V Go.Gr
def nz (ns:List Nat):List Int:=ns.map fun n:Nat=>(n:Int)
theorem prod_nz (ns:List Nat):prod (nz ns)=(PR ns:Nat):=by
 have h:∀ (l:List Nat) (q:Int),(nz l).foldl (· * ·) q=q*(PR l:Nat):=by
  intro l
  induction l with
  | nil=>intro q;simp[nz,PR]
  | cons x l ih=>
   intro q
   have:=ih (q*x)
   simp only[nz,List.map_cons,List.foldl_cons,PR] at this ⊢
   rw[this,jho,jhn]
 have:=h ns 1
 simpa [prod] using this
theorem index_step {ns:List Nat}{m p n:Nat}(hn:ns[p]? = some n)(hp:p<ns.length) :
  (List.replicate (p+1) (0:Int)++(ixl ns m).drop (p+1)).set p ((m/PR (ns.drop (p+1))%n:Nat):Int)=List.replicate p 0++(ixl ns m).drop p∧m/PR (ns.drop (p+1))/n=m/PR (ns.drop p):=by
 have hx:=ixl_get ns m p n hn
 constructor
 ·rw[List.set_append_left _ _ (by simp),List.replicate_succ',List.set_append_right _ _ (by simp)]
  rw[List.drop_eq_getElem_cons (i:=p) (by rw[jbq];exact hp)]
  have:=(jhO.1 hx).2
  rw[this]
  simp
 ·have hd:ns.drop p=n::ns.drop (p+1):=by
   rw[List.drop_eq_getElem_cons hp]
   rw[(jhO.1 hn).2]
  rw[hd,PR,Nat.div_div_eq_div_mul,jhf]
theorem rindex_c (ns:List Nat)(m:Nat)(hp:∀ n∈ns,0<n∧n≤1000000)(hl:ns.length≤10000)(hm:m≤1000000000):Cl 27 [.ints .i64 (nz ns),.int .i64 m] (.ints .i64 (ixl ns m)):=by
 have hlen:(nz ns).length=ns.length:=by simp[nz]
 refine V.en tbOk Tryz.func27 ?_
 refine V.r0 (V.a2 hlen @jha) ?_
 have e0:List.replicate ns.length (0:Int)=List.replicate ns.length 0++(ixl ns m).drop ns.length:=by
  rw[List.drop_of_length_le (by rw[jbq];omega),List.append_nil]
 have e1:(m:Int)=((m/PR (ns.drop ns.length):Nat):Int):=by simp[PR]
 refine jae (ns.length) (fun k=>k≤ns.length) (fun k=>k) (fun k=>[(1,.int .i64 ((m/PR (ns.drop k):Nat):Int)),(6,.int .i64 ((k:Int)-1))]) (fun k=>[(9,.arr .i64 (List.replicate k 0++(ixl ns m).drop k))]) ?_ ?_ ?_
 ·rw[← e0,← e1]
  exact V.wk
 ·exact jhb _
 intro p hpl
 (conv=>whnf)
 refine V.st ?_
 refine V.br (fun h=>?_) (fun h=>?_)
 ·have hp0:0<p:=by simp at h;omega
  obtain⟨p,rfl⟩:∃ q,p=q+1:=⟨p-1,by omega⟩
  have hp1:p<ns.length:=by omega
  obtain⟨n,hn⟩:∃ n,ns[p]? = some n:=⟨ns[p],jhI hp1⟩
  have hn0:=hp n (jhJ hn)
  have en:(nz ns).getD p 0=n:=by simp[nz,jhF,hn]
  have e2:(((p+1:Nat):Int)-1)=(p:Int):=by omega
  have hst:=index_step (m:=m) hn hp1
  have e3:((m/PR (ns.drop (p+1)):Nat):Int)%(n:Int)=((m/PR (ns.drop (p+1))%n:Nat):Int):=by simp
  have e4:((m/PR (ns.drop (p+1)):Nat):Int)/(n:Int)=((m/PR (ns.drop p):Nat):Int):=by rw[← hst.2];simp
  have hl2:(List.replicate (p+1) (0:Int)++(ixl ns m).drop (p+1)).length=ns.length:=by simp[jbq];omega
  have hl3:m/PR (ns.drop (p+1))≤m:=jhu _ _
  generalize hq:m/PR (ns.drop (p+1))=q at *
  refine V.r0 (V.a5 hlen e2 @en @jha @jg8) ?_
  rw[e3,hst.1]
  refine V.st ?_
  rw[e4]
  exact⟨p,by omega,by omega,V.wk⟩
 ·have hp0:p=0:=by simp at h;omega
  subst hp0
  (conv=>whnf)
  refine V.st ?_
  have h0:(List.replicate 0 (0:Int)++(ixl ns m).drop 0)=ixl ns m:=by simp
  have hli:=jbq ns m
  rw[h0]
  refine Fin.of ?_
  rw[jhT (by rw[hli];simp)]
def flat (ns:List Nat)(f:Nat→List Int)(m:Nat):List Int:=(List.range m).flatMap f
theorem jd5 (ns:List Nat)(f:Nat→List Int)(m:Nat):flat ns f (m+1)=flat ns f m++f m:=by
 simp[flat,List.range_succ]
theorem flat_len {ns:List Nat}{f:Nat→List Int}{m:Nat}(h:∀ j,j<m→(f j).length≤4):(flat ns f m).length≤4*m:=by
 induction m with
 | zero=>simp[flat]
 | succ m ih=>
  rw[jd5,jhK]
  have h1:=ih fun j hj=>h j (by omega)
  have h2:=h m (by omega)
  omega
theorem PR_le {ns:List Nat}(h1:ns.length≤4)(h2:∀ n∈ns,2≤n∧n≤9):PR ns≤6561:=by
 have hb:∀ l:List Nat,(∀ n∈l,2≤n∧n≤9)→PR l≤9^l.length:=by
  intro l
  induction l with
  | nil=>intro _;decide
  | cons x l ih=>
   intro hl
   have h3:=ih fun n hn=>hl n (by simp[hn])
   have h4:=hl x (by simp)
   rw[PR,jhS,Nat.pow_succ,jhf]
   exact jhj h3 h4.2
 exact jhc (hb ns h2) (jht (by omega) h1)
theorem ixl_bd {ns:List Nat}{m p n:Nat}{x:Int}(hpos:∀ n∈ns,0<n)(hn:ns[p]? = some n)(hx:(ixl ns m)[p]? = some x):0≤x∧x≤(n:Int)-1:=by
 rw[ixl_get ns m p n hn] at hx
 cases hx
 have:=Nat.mod_lt (m/PR (ns.drop (p+1))) (hpos n (jhJ hn))
 omega
def mkV0 (vals:List Int)(w m k:Nat):Int:=if 0<vals.length then vals.getD ((m*w+k)%vals.length) 0 else 0
def mkV (vals:List Int)(sm:Bool)(ns:List Nat)(w m k:Nat):Int:=
 if sm then 60000*(ixl ns m).getD (k%ns.length) 0/((nz ns).getD (k%ns.length) 0-1)+mkV0 vals w m k%5000 else mkV0 vals w m k
def mkF (vals:List Int)(sm:Bool)(ns:List Nat)(w m:Nat):List Int:=(List.range w).map (mkV vals sm ns w m)
theorem getD_mem {xs:List Int}{i:Nat}(h:i<xs.length):xs.getD i 0∈xs:=by
 rw[jhF,jhI h];simp
theorem mkV0_bd {vals:List Int}{w m k:Nat}(hv:∀ v∈vals,0≤v∧v≤65535):0≤mkV0 vals w m k∧mkV0 vals w m k≤65535:=by
 unfold mkV0
 split
 ·rename_i h
  exact hv _ (getD_mem (Nat.mod_lt _ h))
 ·omega
theorem mk_sm {ns:List Nat}{m k:Nat}(h1:1≤ns.length)(h2:∀ n∈ns,2≤n∧n≤9):0≤(ixl ns m).getD (k%ns.length) 0∧(ixl ns m).getD (k%ns.length) 0≤8∧1≤(nz ns).getD (k%ns.length) 0-1∧(nz ns).getD (k%ns.length) 0-1≤8 ∧
  0≤60000*(ixl ns m).getD (k%ns.length) 0/((nz ns).getD (k%ns.length) 0-1)∧60000*(ixl ns m).getD (k%ns.length) 0/((nz ns).getD (k%ns.length) 0-1)≤60000:=by
 have hlt:k%ns.length<ns.length:=Nat.mod_lt _ (by omega)
 generalize k%ns.length=i at *
 obtain⟨n,hn⟩:∃ n,ns[i]? = some n:=⟨_,jhI hlt⟩
 obtain⟨x,hx⟩:∃ x,(ixl ns m)[i]? = some x:=⟨_,jhI (by rw[jbq];exact hlt)⟩
 have hnb:=h2 n (jhJ hn)
 have hxb:=ixl_bd (fun n hn=>by have:=h2 n hn;omega) hn hx
 have e1:(nz ns).getD i 0=n:=by simp[nz,jhF,hn]
 have e2:(ixl ns m).getD i 0=x:=by rw[jhF,hx];rfl
 rw[e1,e2]
 refine⟨hxb.1,by omega,by omega,by omega,Int.ediv_nonneg (by omega) (by omega),?_⟩
 exact Int.ediv_le_of_le_mul (by omega) (by omega)
theorem mkV_bd {vals:List Int}{sm:Bool}{ns:List Nat}{w m k:Nat}(hv:∀ v∈vals,0≤v∧v≤65535)(h1:1≤ns.length)(h2:∀ n∈ns,2≤n∧n≤9):0≤mkV vals sm ns w m k∧mkV vals sm ns w m k≤65535:=by
 have h3:=mkV0_bd (w:=w) (m:=m) (k:=k) hv
 have h4:=mk_sm (m:=m) (k:=k) h1 h2
 unfold mkV
 split<;>omega
theorem made_c (ds:List Int)(o:Int)(vals:List Int)(sm:Bool)(ns:List Nat)(w:Nat)(hv:∀ v∈vals,0≤v∧v≤65535)(hvl:vals.length≤281474976710656)(h1:1≤ns.length∧ns.length≤4)(h2:∀ n∈ns,2≤n∧n≤9)(hw:1≤w∧w≤4) :
  Cl 15 [.agg [.ints .u8 ds,.int .u8 o,.ints .u16 vals,.bool sm],.ints .i64 (nz ns),.int .i64 w] (gridD (nz ns) w (flat ns (mkF vals sm ns w) (PR ns))):=by
 have hlen:(nz ns).length=ns.length:=by simp[nz]
 have hPR:=PR_le h1.2 h2
 have hprod:prod (nz ns)=(PR ns:Nat):=prod_nz ns
 have hpz:∀ k,InR .i64 (prod ((nz ns).take k)):=fun k=>(je5 (size:=nz ns) (by
  rw[jhE]
  intro x hx
  obtain⟨n,hn,rfl⟩:=List.mem_map.1 hx
  have:=h2 n hn
  simp;omega) k).2.2 (by omega)
 have hfl:∀ j,(mkF vals sm ns w j).length≤4:=fun j=>by simp[mkF];omega
 refine V.en tbOk Tryz.func15 ?_
 refine V.r0 @jg8 ?_
 refine Lp.ghostBox 72 7 2 .i64 (by decide) (by decide) ?_
 (conv=>whnf)
 refine jae (0) (fun k=>k≤PR ns) (fun k=>PR ns-k) (fun k=>[(8,.int .i64 k)]) (fun k=>[(7,.box [.ints .i64 (nz ns),.int .i64 w,.osl 72 0 (flat ns (mkF vals sm ns w) k).length]),(72,.arr .i64 (flat ns (mkF vals sm ns w) k))]) ?_ ?_ ?_
 ·exact V.wk
 ·exact jg2 _
 intro m hm
 have hfm:=flat_len (ns:=ns) (m:=m) (fun j _=>hfl j)
 (conv=>whnf)
 (try simp only[hprod])
 repeat ((first|refine V.s1 ?_|((try ((with_reducible refine .ext ?_);(conv=>whnf);(try simp only[hprod])));(with_reducible refine jaa (r:=?_) ?_ ?_);rotate_left;(focus (first|exact(points_c _ (fun k _=>hpz k) (by omega))));(conv=>whnf)));(try simp only[hprod]))
 refine V.br (fun hq=>?_) (fun hq=>?_)
 ·rw[decide_eq_true_eq] at hq
  have hm1:m<PR ns:=by omega
  (conv=>whnf)
  refine V.st ?_
  repeat ((try ((with_reducible refine .ext ?_);(conv=>whnf)));(with_reducible refine jaa (r:=?_) ?_ ?_);rotate_left;(focus (first|exact(rindex_c ns m (fun n hn=>by have:=h2 n hn;omega) (by omega) (by omega))));(conv=>whnf);refine V.st ?_)
  refine jae (0) (fun k=>k≤w) (fun k=>w-k) (fun k=>[(10,.int .i64 k)]) (fun k=>[(7,.box [.ints .i64 (nz ns),.int .i64 w,.osl 72 0 (flat ns (mkF vals sm ns w) m++(List.range k).map (mkV vals sm ns w m)).length]),(72,.arr .i64 (flat ns (mkF vals sm ns w) m++(List.range k).map (mkV vals sm ns w m)))]) ?_ ?_ ?_
  ·simp only[List.range_zero,List.map_nil,List.append_nil]
   exact V.wk
  ·exact jg2 _
  intro k hk
  have hb0:=mkV0_bd (w:=w) (m:=m) (k:=k) hv
  have hbs:=mk_sm (m:=m) (k:=k) h1.1 h2
  have hmw:(m:Int)*w=((m*w:Nat):Int):=by simp
  have hmw2:m*w≤6561*4:=jhj (by omega) (by omega)
  (conv=>whnf)
  refine V.st ?_
  refine V.br (fun hq2=>?_) (fun hq2=>?_)
  ·rw[decide_eq_true_eq] at hq2
   (conv=>whnf)
   refine V.st ?_
   refine jaE [(11,.int .i64 (mkV0 vals w m k))] [] (CondB.mk (fun hq3=>?_) (fun hq3=>?_)) ?_
   ·rw[decide_eq_true_eq] at hq3
    have hvp:0<vals.length:=by omega
    have e1:((((m*w:Nat):Int)+k)%vals.length).toNat=(m*w+k)%vals.length:=by
     rw[← Int.natCast_add,← Int.natCast_emod,jha]
    have e2:vals.getD ((m*w+k)%vals.length) 0=mkV0 vals w m k:=by unfold mkV0;rw[if_pos hvp]
    have e3:=Int.emod_nonneg (((m*w:Nat):Int)+k) (b:=vals.length) (by omega)
    have e4:=jhv (((m*w:Nat):Int)+k) (b:=vals.length) (by omega)
    (conv=>whnf)
    refine V.st ?_
    refine⟨(V.tk [0,1,2,3,4,5,6,7,8,9,10,11,12,13,14] .done),[],V.pok,.go (jab ?_)⟩
    (conv=>whnf)
    (try simp only[hmw,e1,e2])
    repeat ((first|refine V.s1 ?_);(try simp only[hmw,e1,e2]))
    exact V.wk
   ·rw[decide_eq_false_iff_not] at hq3
    have e2:mkV0 vals w m k=0:=by unfold mkV0;rw[if_neg (by omega)]
    rw[e2]
    (conv=>whnf)
    refine V.st ?_
    exact V.wk
   (conv=>whnf)
   refine V.st ?_
   refine jaE [(11,.int .i64 (mkV vals sm ns w m k))] [] (CondB.mk (fun hq3=>?_) (fun hq3=>?_)) ?_
   ·have hli:=jbq ns m
    have hki:(k:Int)%(ns.length:Int)=((k%ns.length:Nat):Int):=by simp
    have hkl:k%ns.length<ns.length:=Nat.mod_lt _ (by omega)
    have e2:mkV vals sm ns w m k=60000*(ixl ns m).getD (k%ns.length) 0/((nz ns).getD (k%ns.length) 0-1)+mkV0 vals w m k%5000:=by unfold mkV;rw[hq3];rfl
    rw[e2]
    generalize mkV0 vals w m k=v0 at *
    generalize hgi:k%ns.length=i at *
    refine V.r0 (V.a3 hlen hki @jha) ?_
    refine⟨Pq8z,[],V.pok,.go (jab ?_)⟩
    refine V.r0 (V.a3 hlen hki @jha) ?_
    exact V.wk
   ·have e2:mkV vals sm ns w m k=mkV0 vals w m k:=by unfold mkV;rw[hq3];rfl
    rw[e2]
    (conv=>whnf)
    refine V.st ?_
    exact V.wk
   have hst:flat ns (mkF vals sm ns w) m++(List.range k).map (mkV vals sm ns w m)++[mkV vals sm ns w m k]=flat ns (mkF vals sm ns w) m++(List.range (k+1)).map (mkV vals sm ns w m):=by
    rw[List.range_succ];simp
   have hst2:(flat ns (mkF vals sm ns w) m++(List.range k).map (mkV vals sm ns w m)).length+1=(flat ns (mkF vals sm ns w) m++(List.range (k+1)).map (mkV vals sm ns w m)).length:=by rw[← hst];simp;omega
   (conv=>whnf)
   refine V.st ?_
   try refine And.intro (fun _=>⟨rfl,by simp;omega⟩) ?_
   refine V.r0 (V.a8 @jg8 @jhW @List.take_succ_cons.{0} @List.take_zero.{0} @jhS @List.length_nil.{0} hst hst2) ?_
   exact⟨k+1,by omega,by omega,V.wk⟩
  ·rw[decide_eq_false_iff_not] at hq2
   have hkw:k=w:=by omega
   subst hkw
   have hfs:flat ns (mkF vals sm ns k) m++(List.range k).map (mkV vals sm ns k m)=flat ns (mkF vals sm ns k) (m+1):=(jd5 _ _ _).symm
   rw[hfs]
   (conv=>whnf)
   refine V.st ?_
   exact⟨m+1,by omega,by omega,V.wk⟩
 ·rw[decide_eq_false_iff_not] at hq
  have hm1:m=PR ns:=by omega
  subst hm1
  (conv=>whnf)
  refine V.st ?_
  rw[jhT (jhb _)]
  exact Fin.of rfl
def draftD (ds:List Int)(o:Int)(vals:List Int)(sm:Bool):D := .agg [.ints .u8 ds,.int .u8 o,.ints .u16 vals,.bool sm]
theorem jgp {ns:List Nat}{f:Nat→List Int}{w m:Nat}(h:∀ j,(f j).length=w):(flat ns f m).length=m*w:=by
 induction m with
 | zero=>simp[flat]
 | succ m ih=>rw[jd5,jhK,ih,h,jg7,Nat.one_mul]
theorem mem_flat {ns:List Nat}{f:Nat→List Int}{m:Nat}{x:Int}(h:x∈flat ns f m):∃ j,j<m∧x∈f j:=by
 unfold flat at h
 rw[List.mem_flatMap] at h
 obtain⟨j,h1,h2⟩:=h
 exact⟨j,List.mem_range.1 h1,h2⟩
def th1 (ds:List Int)(i:Nat):Nat:=if i<ds.length then (2+ds.getD i 0%2).toNat else 2
def thrD (ds:List Int):List Nat:=[th1 ds 0,th1 ds 1,th1 ds 2]
theorem jex (ds:List Int)(i:Nat):2≤th1 ds i∧th1 ds i≤3:=by
 unfold th1
 split<;>omega
theorem th1_in {ds:List Int}{i:Nat}(h:i<ds.length):2+ds.getD i 0%2=(th1 ds i:Int):=by
 unfold th1
 rw[if_pos h]
 omega
theorem jfW {ds:List Int}{i:Nat}(h:¬ i<ds.length):(th1 ds i:Int)=2:=by
 unfold th1
 rw[if_neg h]
 rfl
def thL (a b c:Int):Nat→List Int
 | 0=>[2,2,2]
 | 1=>[a,2,2]
 | 2=>[a,b,2]
 | _=>[a,b,c]
def jew (ds vals:List Int)(sm:Bool):List Int:=flat (thrD ds) (mkF vals sm (thrD ds) 3) (PR (thrD ds))
theorem three_c (ds:List Int)(o:Int)(vals:List Int)(sm:Bool)(hd:∀ v∈ds,0≤v∧v≤255)(hdl:ds.length≤281474976710656)(ho:0≤o∧o≤255)(hv:∀ v∈vals,0≤v∧v≤65535)(hvl:vals.length≤281474976710656) :
  Cl 6 [draftD ds o vals sm] (gridD (nz (thrD ds)) 3 (jew ds vals sm)):=by
 have b0:=jex ds 0
 have b1:=jex ds 1
 have b2:=jex ds 2
 have hmade:=made_c ds o vals sm (thrD ds) 3 hv hvl ⟨by simp[thrD],by simp[thrD]⟩ (fun n hn=>by
  simp only[thrD,jhH,List.not_mem_nil,or_false] at hn
  rcases hn with rfl|rfl|rfl<;>omega) (by omega)
 unfold jew
 generalize flat (thrD ds) (mkF vals sm (thrD ds) 3) (PR (thrD ds))=FD at *
 simp only[thrD,nz,List.map_cons,List.map_nil] at hmade ⊢
 have i0:=th1_in (ds:=ds) (i:=0)
 have i1:=th1_in (ds:=ds) (i:=1)
 have i2:=th1_in (ds:=ds) (i:=2)
 have j0:=jfW (ds:=ds) (i:=0)
 have j1:=jfW (ds:=ds) (i:=1)
 have j2:=jfW (ds:=ds) (i:=2)
 have hbd:∀ i,0≤ds.getD i 0∧ds.getD i 0≤255:=fun i=>by
  rw[jhF]
  cases h:ds[i]? with
  | none=>simp
  | some v=>exact hd v (jhJ h)
 have d0:=hbd 0
 have d1:=hbd 1
 have d2:=hbd 2
 generalize th1 ds 0=a at *
 generalize th1 ds 1=b at *
 generalize th1 ds 2=c at *
 unfold draftD
 refine V.en tbOk Tryz.func6 ?_
 refine V.r0 @jg8 ?_
 refine jae (0) (fun k=>k≤3∧k≤ds.length) (fun k=>3-k) (fun k=>[(4,.int .i64 k)]) (fun k=>[(5,.arr .i64 (thL a b c k))]) ?_ ?_ ?_
 ·exact V.wk
 ·omega
 intro k hk
 refine V.r0 @jg8 ?_
 refine V.br (fun hq=>?_) (fun hq=>?_)
 ·simp only[jg0,decide_eq_true_eq] at hq
  have hk4:k=0∨k=1∨k=2:=by omega
  rcases hk4 with e|e|e
  ·subst e
   have i0:=i0 (by omega)
   simp only[k0,thL]
   refine V.r0 (V.a8 @jg8 @tn0 @tn1 @tn2 @s3_0 @s3_1 @s3_2 i0) ?_
   exact⟨1,by omega,by omega,V.wk⟩
  ·subst e
   have i1:=i1 (by omega)
   simp only[k1,thL]
   refine V.r0 (V.a8 @jg8 @tn0 @tn1 @tn2 @s3_0 @s3_1 @s3_2 i1) ?_
   exact⟨2,by omega,by omega,V.wk⟩
  ·subst e
   have i2:=i2 (by omega)
   simp only[k2,thL]
   refine V.r0 (V.a8 @jg8 @tn0 @tn1 @tn2 @s3_0 @s3_1 @s3_2 i2) ?_
   exact⟨3,by omega,by omega,V.wk⟩
 ·have hq2:¬ ((k:Int)<ds.length∧(k:Int)<3):=by
   intro h
   rw[decide_eq_true h.1,decide_eq_true h.2] at hq
   cases hq
  have hL:thL a b c k=[(a:Int),b,c]:=by
   have hk4:k=0∨k=1∨k=2∨k=3:=by omega
   rcases hk4 with e|e|e|e
   ·subst e
    rw[j0 (by omega),j1 (by omega),j2 (by omega)]
    rfl
   ·subst e
    rw[j1 (by omega),j2 (by omega)]
    rfl
   ·subst e
    rw[j2 (by omega)]
    rfl
   ·subst e
    rfl
  rw[hL]
  refine V.r1 @jg8 hmade ?_
  exact Fin.of rfl
theorem num3 {B C i j k o:Nat}(hj:j<B)(hk:k<C)(ho:o<3) :
  (((i*B+j)*C+k)*3+o)%3=o∧(((i*B+j)*C+k)*3+o)/3/C/B=i∧(((i*B+j)*C+k)*3+o)/3/C%B=j∧(((i*B+j)*C+k)*3+o)/3%C=k:=by
 have h6:(((i*B+j)*C+k)*3+o)/3=(i*B+j)*C+k:=by omega
 have hC:0<C:=by omega
 have hB:0<B:=by omega
 have e1:((i*B+j)*C+k)/C=i*B+j:=by
  rw[jhf,Nat.mul_add_div hC,Nat.div_eq_of_lt hk,jg9]
 rw[h6,e1]
 refine⟨by omega,?_,?_,?_⟩
 ·rw[jhf,Nat.mul_add_div hB,Nat.div_eq_of_lt hj,jg9]
 ·rw[jhf,Nat.mul_add_mod,Nat.mod_eq_of_lt hj]
 ·rw[jhf,Nat.mul_add_mod,Nat.mod_eq_of_lt hk]
def cbS (m:List Int)(o i j k:Nat):Nat→Int
 | 0=>0
 | 1=>m.getD (3*o) 0%7000*(i:Int)
 | 2=>m.getD (3*o) 0%7000*(i:Int)+m.getD (3*o+1) 0%7000*(j:Int)
 | _=>m.getD (3*o) 0%7000*(i:Int)+m.getD (3*o+1) 0%7000*(j:Int)+m.getD (3*o+2) 0%7000*(k:Int)
def cbW (m off:List Int)(o i j k p:Nat):Int:=if p<off.length then cbS m o i j k 3+off.getD p 0 else cbS m o i j k 3
def clp (v:Int):Int:=max 0 (min 65535 v)
def cbV (m off:List Int)(B C p:Nat):Int:=clp (cbW m off (p%3) (p/3/C/B) (p/3/C%B) (p/3%C) p)
theorem clp_bd (v:Int):0≤clp v∧clp v≤65535:=by unfold clp;omega
theorem cbV_of {m off:List Int}{B C i j k o:Nat}(hj:j<B)(hk:k<C)(ho:o<3):cbV m off B C (((i*B+j)*C+k)*3+o)=clp (cbW m off o i j k (((i*B+j)*C+k)*3+o)):=by
 obtain⟨h1,h2,h3,h4⟩:=num3 (i:=i) hj hk ho
 unfold cbV
 rw[h1,h2,h3,h4]
def cbL (m off:List Int)(B C p:Nat):List Int:=(List.range p).map (cbV m off B C)
theorem cbL_len (m off:List Int)(B C p:Nat):(cbL m off B C p).length=p:=by unfold cbL;simp
theorem cbL_succ (m off:List Int)(B C p:Nat):cbL m off B C (p+1)=cbL m off B C p++[cbV m off B C p]:=by unfold cbL;rw[List.range_succ,List.map_append];rfl
theorem cbL_bd (m off:List Int)(B C p:Nat):∀ v∈cbL m off B C p,0≤v∧v≤65535:=fun v hv=>by
 unfold cbL at hv
 obtain⟨q,_,rfl⟩:=List.mem_map.1 hv
 exact clp_bd _
def s3 (a:Int):Nat:=(2+a%3).toNat
theorem s3_bd (a:Int):2≤s3 a∧s3 a≤4:=by unfold s3;omega
theorem s3_eq (a:Int):2+a%3=(s3 a:Int):=by unfold s3;omega
theorem jcJ (x:Int){i:Nat}(hi:i<4):0≤x%7000*(i:Int)∧x%7000*(i:Int)≤20997:=by
 have h1:=Int.emod_nonneg x (show (7000:Int)≠0 by decide)
 have h2:=jhv x (show (0:Int)<7000 by decide)
 refine⟨jg4 h1 (by omega),?_⟩
 have:=Int.mul_le_mul (show x%7000≤6999 by omega) (show (i:Int)≤3 by omega) (by omega) (by omega)
 omega
def cubeD (a b c m0 m1 m2 m3 m4 m5 m6 m7 m8:Int)(off:List Int):D := .agg [.int .u8 a,.int .u8 b,.int .u8 c,.int .u16 m0,.int .u16 m1,.int .u16 m2,.int .u16 m3,.int .u16 m4,.int .u16 m5,.int .u16 m6,.int .u16 m7,.int .u16 m8,.ints .i16 off]
theorem num3_j (B C i j:Nat):(i*B+(j+1))*C*3=((i*B+j)*C+C)*3:=by
 rw[← Nat.add_assoc,jg7 (i*B+j),Nat.one_mul]
theorem num3_i (B C i:Nat):(i+1)*B*C*3=(i*B+B)*C*3:=by
 rw[jg7 i,Nat.one_mul]
theorem jgG:type_of% @Int.zero_add∧type_of% @jg8∧type_of% @g3_0∧type_of% @g3_1∧type_of% @g3_2∧type_of% @i3_0∧type_of% @i3_1∧type_of% @i3_2∧type_of% @s3_0∧type_of% @s3_1∧type_of% @s3_2∧type_of% @tn0∧type_of% @tn1∧type_of% @tn2∧type_of% @tn3:=⟨@Int.zero_add,@jg8,@g3_0,@g3_1,@g3_2,@i3_0,@i3_1,@i3_2,@s3_0,@s3_1,@s3_2,@tn0,@tn1,@tn2,@tn3⟩
theorem cgrid_c (a b c m0 m1 m2 m3 m4 m5 m6 m7 m8:Int)(off:List Int)(ha:0≤a∧a≤255)(hb:0≤b∧b≤255)(hc:0≤c∧c≤255)(hm:∀ x∈[m0,m1,m2,m3,m4,m5,m6,m7,m8],0≤x∧x≤65535)(ho:∀ x∈off, -32768≤x∧x≤32767)(hol:off.length≤281474976710656) :
  Cl 5 [cubeD a b c m0 m1 m2 m3 m4 m5 m6 m7 m8 off] (gridD (sz3 (s3 a) (s3 b) (s3 c)) 3 (cbL [m0,m1,m2,m3,m4,m5,m6,m7,m8] off (s3 b) (s3 c) (s3 a*s3 b*s3 c*3))):=by
 have ea:=s3_eq a
 have eb:=s3_eq b
 have ec:=s3_eq c
 have ba:=s3_bd a
 have bb:=s3_bd b
 have bc:=s3_bd c
 have ta:a.tmod 3=a%3:=jg6 ha.1
 have tb:b.tmod 3=b%3:=jg6 hb.1
 have tc:c.tmod 3=c%3:=jg6 hc.1
 simp only[jhH,List.not_mem_nil,or_false,forall_eq_or_imp,forall_eq] at hm
 have hoff:∀ i, -32768≤off.getD i 0∧off.getD i 0≤32767:=fun i=>by
  rw[jhF]
  cases h:off[i]? with
  | none=>simp
  | some v=>exact ho v (jhJ h)
 have hlen:=cbL_len [m0,m1,m2,m3,m4,m5,m6,m7,m8] off (s3 b) (s3 c)
 have hsucc:=cbL_succ [m0,m1,m2,m3,m4,m5,m6,m7,m8] off (s3 b) (s3 c)
 have hval:∀ {i j k o:Nat},j<s3 b→k<s3 c→o<3→_:=fun {i j k o} hj hk h3=>cbV_of (m:=[m0,m1,m2,m3,m4,m5,m6,m7,m8]) (off:=off) (i:=i) hj hk h3
 obtain⟨cl,hcl⟩:∃ cl,cbL [m0,m1,m2,m3,m4,m5,m6,m7,m8] off (s3 b) (s3 c)=cl:=⟨_,rfl⟩
 obtain⟨cv,hcv⟩:∃ cv,cbV [m0,m1,m2,m3,m4,m5,m6,m7,m8] off (s3 b) (s3 c)=cv:=⟨_,rfl⟩
 have hcl0:cl 0=[]:=hcl▸rfl
 rw[hcl] at hlen hsucc ⊢
 rw[hcv] at hsucc
 rw[hcv] at hval
 clear hcl hcv
 have t0:m0.tmod 7000=m0%7000:=jg6 (by omega)
 have t1:m1.tmod 7000=m1%7000:=jg6 (by omega)
 have t2:m2.tmod 7000=m2%7000:=jg6 (by omega)
 have t3:m3.tmod 7000=m3%7000:=jg6 (by omega)
 have t4:m4.tmod 7000=m4%7000:=jg6 (by omega)
 have t5:m5.tmod 7000=m5%7000:=jg6 (by omega)
 have t6:m6.tmod 7000=m6%7000:=jg6 (by omega)
 have t7:m7.tmod 7000=m7%7000:=jg6 (by omega)
 have t8:m8.tmod 7000=m8%7000:=jg6 (by omega)
 generalize s3 a=A at *
 generalize s3 b=B at *
 generalize s3 c=Cc at *
 unfold cubeD
 refine V.en tbOk Tryz.func5 ?_
 (conv=>whnf)
 (conv=>whnf)
 (try simp only[jg8,ta,tb,tc,ea,eb,ec,tn0,tn1,tn2,g3_0,g3_1,g3_2,i3_0,i3_1,i3_2])
 repeat ((first|refine V.s1 ?_);(try simp only[jg8,ta,tb,tc,ea,eb,ec,tn0,tn1,tn2,g3_0,g3_1,g3_2,i3_0,i3_1,i3_2]))
 refine Lp.ghostBox 106 4 2 .i64 (by decide) (by decide) ?_
 (conv=>whnf)
 refine jae (0) (fun k=>k≤A) (fun k=>A-k) (fun k=>[(5,.int .i64 k)]) (fun k=>[(4,.box [.osl 37 0 3,.int .i64 3,.osl 106 0 (k*B*Cc*3)]),(106,.arr .i64 (cl (k*B*Cc*3)))]) ?_ ?_ ?_
 ·simp only[Nat.zero_mul,hcl0]
  exact V.wk
 ·exact jg2 _
 intro i hi
 refine V.r0 jgG ?_
 refine V.br (fun hq=>?_) (fun hq=>?_)
 ·rw[decide_eq_true_eq] at hq
  have hi4:i<4:=by omega
  refine V.r0 jgG ?_
  refine jae (0) (fun k=>k≤B) (fun k=>B-k) (fun k=>[(6,.int .i64 k)]) (fun k=>[(4,.box [.osl 37 0 3,.int .i64 3,.osl 106 0 ((i*B+k)*Cc*3)]),(106,.arr .i64 (cl ((i*B+k)*Cc*3)))]) ?_ ?_ ?_
  ·simp only[jg9]
   exact V.wk
  ·exact jg2 _
  intro j hj
  refine V.r0 jgG ?_
  refine V.br (fun hq2=>?_) (fun hq2=>?_)
  ·rw[decide_eq_true_eq] at hq2
   have hj2:j<B:=by omega
   have hj4:j<4:=by omega
   refine V.r0 jgG ?_
   refine jae (0) (fun k=>k≤Cc) (fun k=>Cc-k) (fun k=>[(7,.int .i64 k)]) (fun k=>[(4,.box [.osl 37 0 3,.int .i64 3,.osl 106 0 (((i*B+j)*Cc+k)*3)]),(106,.arr .i64 (cl (((i*B+j)*Cc+k)*3)))]) ?_ ?_ ?_
   ·simp only[jg9]
    exact V.wk
   ·exact jg2 _
   intro kx hk
   refine V.r0 jgG ?_
   refine V.br (fun hq3=>?_) (fun hq3=>?_)
   ·rw[decide_eq_true_eq] at hq3
    have hk2:kx<Cc:=by omega
    have hk4:kx<4:=by omega
    have hp:((i*B+j)*Cc+kx)*3<3000:=by
     have h1:i*B≤3*4:=jhj (by omega) (by omega)
     have h2:(i*B+j)*Cc≤16*4:=jhj (by omega) (by omega)
     omega
    refine V.r0 jgG ?_
    refine jae (0:Nat) (fun o=>o≤3) (fun o=>3-o) (fun o=>[(9,.int .i64 (o:Int))]) (fun o=>[(4,.box [.osl 37 0 3,.int .i64 3,.osl 106 0 (((i*B+j)*Cc+kx)*3+o)]),(106,.arr .i64 (cl (((i*B+j)*Cc+kx)*3+o)))]) ?_ ?_ ?_
    ·simp only[jg9]
     exact V.wk
    ·exact jg2 _
    intro o ho
    have ho4:o=0∨o=1∨o=2∨o=3:=by omega
    rcases ho4 with eo|eo|eo|eo
    ·subst eo
     have hvo:=hval (i:=i) (j:=j) (k:=kx) (o:=0) hj2 hk2 (by decide)
     have hlo:=hlen (((i*B+j)*Cc+kx)*3+0)
     have hso:=hsucc (((i*B+j)*Cc+kx)*3+0)
     rw[hvo] at hso
     have qa:[m0,m1,m2,m3,m4,m5,m6,m7,m8].getD (3*0) 0=m0:=rfl
     have qb:[m0,m1,m2,m3,m4,m5,m6,m7,m8].getD (3*0+1) 0=m1:=rfl
     have qc:[m0,m1,m2,m3,m4,m5,m6,m7,m8].getD (3*0+2) 0=m2:=rfl
     have sa:=jcJ m0 hi4
     have sb':=jcJ m1 hj4
     have sc:=jcJ m2 hk4
     refine V.r0 (V.a2 @jg8 @k0) ?_
     refine jae (0) (fun k=>k≤3) (fun k=>3-k) (fun k=>[(11,.int .i64 k),(10,.int .i64 (cbS [m0,m1,m2,m3,m4,m5,m6,m7,m8] 0 i j kx k))]) (fun k=>[]) ?_ ?_ ?_
     exact V.wk
     exact jg2 _
     intro m hm9
     have hm4:m=0∨m=1∨m=2∨m=3:=by omega
     rcases hm4 with e|e|e|e
     ·subst e
      simp only[cbS,qa,qb,qc,k0]
      (conv=>whnf)
      (try simp only[jgG,t0,t1,t2,t3,t4,t5,t6,t7,t8])
      repeat ((first|refine V.s1 ?_);(try simp only[jgG,t0,t1,t2,t3,t4,t5,t6,t7,t8]))
      refine⟨Pq8z,[],V.pok,.go (jab ?_)⟩
      (conv=>whnf)
      (try simp only[jgG,t0,t1,t2,t3,t4,t5,t6,t7,t8])
      repeat ((first|refine V.s1 ?_);(try simp only[jgG,t0,t1,t2,t3,t4,t5,t6,t7,t8]))
      exact⟨1,by omega,by omega,V.wk⟩
     ·subst e
      simp only[cbS,qa,qb,qc,k1]
      (conv=>whnf)
      (try simp only[jgG,t0,t1,t2,t3,t4,t5,t6,t7,t8])
      repeat ((first|refine V.s1 ?_);(try simp only[jgG,t0,t1,t2,t3,t4,t5,t6,t7,t8]))
      refine⟨Pq8z,[],V.pok,.go (jab ?_)⟩
      (conv=>whnf)
      (try simp only[jgG,t0,t1,t2,t3,t4,t5,t6,t7,t8])
      repeat ((first|refine V.s1 ?_);(try simp only[jgG,t0,t1,t2,t3,t4,t5,t6,t7,t8]))
      exact⟨2,by omega,by omega,V.wk⟩
     ·subst e
      simp only[cbS,qa,qb,qc,k2]
      (conv=>whnf)
      (try simp only[jgG,t0,t1,t2,t3,t4,t5,t6,t7,t8])
      repeat ((first|refine V.s1 ?_);(try simp only[jgG,t0,t1,t2,t3,t4,t5,t6,t7,t8]))
      refine⟨Pq8z,[],V.pok,.go (jab ?_)⟩
      (conv=>whnf)
      (try simp only[jgG,t0,t1,t2,t3,t4,t5,t6,t7,t8])
      repeat ((first|refine V.s1 ?_);(try simp only[jgG,t0,t1,t2,t3,t4,t5,t6,t7,t8]))
      exact⟨3,by omega,by omega,V.wk⟩
     ·subst e
      obtain⟨sv,hsv⟩:∃ sv,cbS [m0,m1,m2,m3,m4,m5,m6,m7,m8] 0 i j kx 3=sv:=⟨_,rfl⟩
      have hsv2:=hsv
      simp only[cbS,qa,qb,qc] at hsv2
      have hsb:0≤sv∧sv≤62991:=by omega
      have hw:cbW [m0,m1,m2,m3,m4,m5,m6,m7,m8] off 0 i j kx (((i*B+j)*Cc+kx)*3+0)=if ((i*B+j)*Cc+kx)*3+0<off.length then sv+off.getD (((i*B+j)*Cc+kx)*3+0) 0 else sv:=by unfold cbW;rw[hsv]
      rw[hsv]
      clear hsv hsv2 qa qb qc
      obtain⟨wv,hwv⟩:∃ wv,cbW [m0,m1,m2,m3,m4,m5,m6,m7,m8] off 0 i j kx (((i*B+j)*Cc+kx)*3+0)=wv:=⟨_,rfl⟩
      rw[hwv] at hw hso
      have hwb : -40000≤wv∧wv≤100000:=by
       rw[hw]
       split
       ·have:=hoff (((i*B+j)*Cc+kx)*3+0)
        omega
       ·omega
      refine V.r0 (V.a2 jgG hlo) ?_
      refine jaE [(10,.int .i64 wv)] [] (CondB.mk (fun hc=>?_) (fun hc=>?_)) ?_
      ·simp only[decide_eq_true_eq] at hc
       rw[if_pos (by omega)] at hw
       have:=hoff (((i*B+j)*Cc+kx)*3+0)
       (conv=>whnf)
       (try simp only[jg8,Int.zero_add,tn0,tn1,tn2,tn3,s3_0,s3_1,s3_2,g3_0,g3_1,g3_2,i3_0,i3_1,i3_2,hlo,jha,← hw])
       repeat ((first|refine V.s1 ?_);(try simp only[jg8,Int.zero_add,tn0,tn1,tn2,tn3,s3_0,s3_1,s3_2,g3_0,g3_1,g3_2,i3_0,i3_1,i3_2,hlo,jha,← hw]))
       exact V.wk
      ·simp only[decide_eq_false_iff_not] at hc
       rw[if_neg (by omega)] at hw
       rw[hw]
       (conv=>whnf)
       refine V.st ?_
       exact V.wk
      refine V.r0 (V.a2 jgG hlo) ?_
      have hso2:=hso.symm
      unfold clp at hso2
      have hl1:List.length [max 0 (min 65535 wv)]=1:=rfl
      simp only[jhW,List.take_succ_cons,List.take_zero,hl1,hso2]
      exact⟨0+1,by omega,by omega,V.wk⟩
    ·subst eo
     have hvo:=hval (i:=i) (j:=j) (k:=kx) (o:=1) hj2 hk2 (by decide)
     have hlo:=hlen (((i*B+j)*Cc+kx)*3+1)
     have hso:=hsucc (((i*B+j)*Cc+kx)*3+1)
     rw[hvo] at hso
     have qa:[m0,m1,m2,m3,m4,m5,m6,m7,m8].getD (3*1) 0=m3:=rfl
     have qb:[m0,m1,m2,m3,m4,m5,m6,m7,m8].getD (3*1+1) 0=m4:=rfl
     have qc:[m0,m1,m2,m3,m4,m5,m6,m7,m8].getD (3*1+2) 0=m5:=rfl
     have sa:=jcJ m3 hi4
     have sb':=jcJ m4 hj4
     have sc:=jcJ m5 hk4
     refine V.r0 (V.a2 @jg8 @k1) ?_
     refine jae (0) (fun k=>k≤3) (fun k=>3-k) (fun k=>[(11,.int .i64 k),(10,.int .i64 (cbS [m0,m1,m2,m3,m4,m5,m6,m7,m8] 1 i j kx k))]) (fun k=>[]) ?_ ?_ ?_
     exact V.wk
     exact jg2 _
     intro m hm9
     have hm4:m=0∨m=1∨m=2∨m=3:=by omega
     rcases hm4 with e|e|e|e
     ·subst e
      simp only[cbS,qa,qb,qc,k0]
      (conv=>whnf)
      (try simp only[jgG,t0,t1,t2,t3,t4,t5,t6,t7,t8])
      repeat ((first|refine V.s1 ?_);(try simp only[jgG,t0,t1,t2,t3,t4,t5,t6,t7,t8]))
      refine⟨Pq8z,[],V.pok,.go (jab ?_)⟩
      (conv=>whnf)
      (try simp only[jgG,t0,t1,t2,t3,t4,t5,t6,t7,t8])
      repeat ((first|refine V.s1 ?_);(try simp only[jgG,t0,t1,t2,t3,t4,t5,t6,t7,t8]))
      exact⟨1,by omega,by omega,V.wk⟩
     ·subst e
      simp only[cbS,qa,qb,qc,k1]
      (conv=>whnf)
      (try simp only[jgG,t0,t1,t2,t3,t4,t5,t6,t7,t8])
      repeat ((first|refine V.s1 ?_);(try simp only[jgG,t0,t1,t2,t3,t4,t5,t6,t7,t8]))
      refine⟨Pq8z,[],V.pok,.go (jab ?_)⟩
      (conv=>whnf)
      (try simp only[jgG,t0,t1,t2,t3,t4,t5,t6,t7,t8])
      repeat ((first|refine V.s1 ?_);(try simp only[jgG,t0,t1,t2,t3,t4,t5,t6,t7,t8]))
      exact⟨2,by omega,by omega,V.wk⟩
     ·subst e
      simp only[cbS,qa,qb,qc,k2]
      (conv=>whnf)
      (try simp only[jgG,t0,t1,t2,t3,t4,t5,t6,t7,t8])
      repeat ((first|refine V.s1 ?_);(try simp only[jgG,t0,t1,t2,t3,t4,t5,t6,t7,t8]))
      refine⟨Pq8z,[],V.pok,.go (jab ?_)⟩
      (conv=>whnf)
      (try simp only[jgG,t0,t1,t2,t3,t4,t5,t6,t7,t8])
      repeat ((first|refine V.s1 ?_);(try simp only[jgG,t0,t1,t2,t3,t4,t5,t6,t7,t8]))
      exact⟨3,by omega,by omega,V.wk⟩
     ·subst e
      obtain⟨sv,hsv⟩:∃ sv,cbS [m0,m1,m2,m3,m4,m5,m6,m7,m8] 1 i j kx 3=sv:=⟨_,rfl⟩
      have hsv2:=hsv
      simp only[cbS,qa,qb,qc] at hsv2
      have hsb:0≤sv∧sv≤62991:=by omega
      have hw:cbW [m0,m1,m2,m3,m4,m5,m6,m7,m8] off 1 i j kx (((i*B+j)*Cc+kx)*3+1)=if ((i*B+j)*Cc+kx)*3+1<off.length then sv+off.getD (((i*B+j)*Cc+kx)*3+1) 0 else sv:=by unfold cbW;rw[hsv]
      rw[hsv]
      clear hsv hsv2 qa qb qc
      obtain⟨wv,hwv⟩:∃ wv,cbW [m0,m1,m2,m3,m4,m5,m6,m7,m8] off 1 i j kx (((i*B+j)*Cc+kx)*3+1)=wv:=⟨_,rfl⟩
      rw[hwv] at hw hso
      have hwb : -40000≤wv∧wv≤100000:=by
       rw[hw]
       split
       ·have:=hoff (((i*B+j)*Cc+kx)*3+1)
        omega
       ·omega
      refine V.r0 (V.a2 jgG hlo) ?_
      refine jaE [(10,.int .i64 wv)] [] (CondB.mk (fun hc=>?_) (fun hc=>?_)) ?_
      ·simp only[decide_eq_true_eq] at hc
       rw[if_pos (by omega)] at hw
       have:=hoff (((i*B+j)*Cc+kx)*3+1)
       (conv=>whnf)
       (try simp only[jg8,Int.zero_add,tn0,tn1,tn2,tn3,s3_0,s3_1,s3_2,g3_0,g3_1,g3_2,i3_0,i3_1,i3_2,hlo,jha,← hw])
       repeat ((first|refine V.s1 ?_);(try simp only[jg8,Int.zero_add,tn0,tn1,tn2,tn3,s3_0,s3_1,s3_2,g3_0,g3_1,g3_2,i3_0,i3_1,i3_2,hlo,jha,← hw]))
       exact V.wk
      ·simp only[decide_eq_false_iff_not] at hc
       rw[if_neg (by omega)] at hw
       rw[hw]
       (conv=>whnf)
       refine V.st ?_
       exact V.wk
      refine V.r0 (V.a2 jgG hlo) ?_
      have hso2:=hso.symm
      unfold clp at hso2
      have hl1:List.length [max 0 (min 65535 wv)]=1:=rfl
      simp only[jhW,List.take_succ_cons,List.take_zero,hl1,hso2]
      exact⟨1+1,by omega,by omega,V.wk⟩
    ·subst eo
     have hvo:=hval (i:=i) (j:=j) (k:=kx) (o:=2) hj2 hk2 (by decide)
     have hlo:=hlen (((i*B+j)*Cc+kx)*3+2)
     have hso:=hsucc (((i*B+j)*Cc+kx)*3+2)
     rw[hvo] at hso
     have qa:[m0,m1,m2,m3,m4,m5,m6,m7,m8].getD (3*2) 0=m6:=rfl
     have qb:[m0,m1,m2,m3,m4,m5,m6,m7,m8].getD (3*2+1) 0=m7:=rfl
     have qc:[m0,m1,m2,m3,m4,m5,m6,m7,m8].getD (3*2+2) 0=m8:=rfl
     have sa:=jcJ m6 hi4
     have sb':=jcJ m7 hj4
     have sc:=jcJ m8 hk4
     refine V.r0 (V.a2 @jg8 @k2) ?_
     refine jae (0) (fun k=>k≤3) (fun k=>3-k) (fun k=>[(11,.int .i64 k),(10,.int .i64 (cbS [m0,m1,m2,m3,m4,m5,m6,m7,m8] 2 i j kx k))]) (fun k=>[]) ?_ ?_ ?_
     exact V.wk
     exact jg2 _
     intro m hm9
     have hm4:m=0∨m=1∨m=2∨m=3:=by omega
     rcases hm4 with e|e|e|e
     ·subst e
      simp only[cbS,qa,qb,qc,k0]
      (conv=>whnf)
      (try simp only[jgG,t0,t1,t2,t3,t4,t5,t6,t7,t8])
      repeat ((first|refine V.s1 ?_);(try simp only[jgG,t0,t1,t2,t3,t4,t5,t6,t7,t8]))
      refine⟨Pq8z,[],V.pok,.go (jab ?_)⟩
      (conv=>whnf)
      (try simp only[jgG,t0,t1,t2,t3,t4,t5,t6,t7,t8])
      repeat ((first|refine V.s1 ?_);(try simp only[jgG,t0,t1,t2,t3,t4,t5,t6,t7,t8]))
      exact⟨1,by omega,by omega,V.wk⟩
     ·subst e
      simp only[cbS,qa,qb,qc,k1]
      (conv=>whnf)
      (try simp only[jgG,t0,t1,t2,t3,t4,t5,t6,t7,t8])
      repeat ((first|refine V.s1 ?_);(try simp only[jgG,t0,t1,t2,t3,t4,t5,t6,t7,t8]))
      refine⟨Pq8z,[],V.pok,.go (jab ?_)⟩
      (conv=>whnf)
      (try simp only[jgG,t0,t1,t2,t3,t4,t5,t6,t7,t8])
      repeat ((first|refine V.s1 ?_);(try simp only[jgG,t0,t1,t2,t3,t4,t5,t6,t7,t8]))
      exact⟨2,by omega,by omega,V.wk⟩
     ·subst e
      simp only[cbS,qa,qb,qc,k2]
      (conv=>whnf)
      (try simp only[jgG,t0,t1,t2,t3,t4,t5,t6,t7,t8])
      repeat ((first|refine V.s1 ?_);(try simp only[jgG,t0,t1,t2,t3,t4,t5,t6,t7,t8]))
      refine⟨Pq8z,[],V.pok,.go (jab ?_)⟩
      (conv=>whnf)
      (try simp only[jgG,t0,t1,t2,t3,t4,t5,t6,t7,t8])
      repeat ((first|refine V.s1 ?_);(try simp only[jgG,t0,t1,t2,t3,t4,t5,t6,t7,t8]))
      exact⟨3,by omega,by omega,V.wk⟩
     ·subst e
      obtain⟨sv,hsv⟩:∃ sv,cbS [m0,m1,m2,m3,m4,m5,m6,m7,m8] 2 i j kx 3=sv:=⟨_,rfl⟩
      have hsv2:=hsv
      simp only[cbS,qa,qb,qc] at hsv2
      have hsb:0≤sv∧sv≤62991:=by omega
      have hw:cbW [m0,m1,m2,m3,m4,m5,m6,m7,m8] off 2 i j kx (((i*B+j)*Cc+kx)*3+2)=if ((i*B+j)*Cc+kx)*3+2<off.length then sv+off.getD (((i*B+j)*Cc+kx)*3+2) 0 else sv:=by unfold cbW;rw[hsv]
      rw[hsv]
      clear hsv hsv2 qa qb qc
      obtain⟨wv,hwv⟩:∃ wv,cbW [m0,m1,m2,m3,m4,m5,m6,m7,m8] off 2 i j kx (((i*B+j)*Cc+kx)*3+2)=wv:=⟨_,rfl⟩
      rw[hwv] at hw hso
      have hwb : -40000≤wv∧wv≤100000:=by
       rw[hw]
       split
       ·have:=hoff (((i*B+j)*Cc+kx)*3+2)
        omega
       ·omega
      refine V.r0 (V.a2 jgG hlo) ?_
      refine jaE [(10,.int .i64 wv)] [] (CondB.mk (fun hc=>?_) (fun hc=>?_)) ?_
      ·simp only[decide_eq_true_eq] at hc
       rw[if_pos (by omega)] at hw
       have:=hoff (((i*B+j)*Cc+kx)*3+2)
       (conv=>whnf)
       (try simp only[jg8,Int.zero_add,tn0,tn1,tn2,tn3,s3_0,s3_1,s3_2,g3_0,g3_1,g3_2,i3_0,i3_1,i3_2,hlo,jha,← hw])
       repeat ((first|refine V.s1 ?_);(try simp only[jg8,Int.zero_add,tn0,tn1,tn2,tn3,s3_0,s3_1,s3_2,g3_0,g3_1,g3_2,i3_0,i3_1,i3_2,hlo,jha,← hw]))
       exact V.wk
      ·simp only[decide_eq_false_iff_not] at hc
       rw[if_neg (by omega)] at hw
       rw[hw]
       (conv=>whnf)
       refine V.st ?_
       exact V.wk
      refine V.r0 (V.a2 jgG hlo) ?_
      have hso2:=hso.symm
      unfold clp at hso2
      have hl1:List.length [max 0 (min 65535 wv)]=1:=rfl
      simp only[jhW,List.take_succ_cons,List.take_zero,hl1,hso2]
      exact⟨2+1,by omega,by omega,V.wk⟩
    ·subst eo
     have e9:((i*B+j)*Cc+kx)*3+3=((i*B+j)*Cc+(kx+1))*3:=by omega
     rw[e9]
     refine V.r0 (V.a2 @jg8 @cs1) ?_
     exact⟨kx+1,by omega,by omega,V.wk⟩
   ·rw[decide_eq_false_iff_not] at hq3
    have hk2:kx=Cc:=by omega
    subst hk2
    rw[← num3_j]
    refine V.r0 (V.a2 @jg8 @cs1) ?_
    exact⟨j+1,by omega,by omega,V.wk⟩
  ·rw[decide_eq_false_iff_not] at hq2
   have hj2:j=B:=by omega
   subst hj2
   rw[← num3_i]
   refine V.r0 (V.a2 @jg8 @cs1) ?_
   exact⟨i+1,by omega,by omega,V.wk⟩
 ·rw[decide_eq_false_iff_not] at hq
  have hi2:i=A:=by omega
  subst hi2
  refine V.r0 @jg8 ?_
  have e9:List.take (i*B*Cc*3) (cl (i*B*Cc*3))=cl (i*B*Cc*3):=jhT (by rw[hlen];exact jhb _)
  rw[e9]
  exact Fin.of rfl
end Go.Proofs.YtbhpaandigaanaaGreatDoor
end
section
namespace Go.Proofs.YtbhpaandigaanaaGreatDoor
open Go Go.V Go.Nb
theorem ja6 (n m:Int)(hn : -9223372036854775807≤n∧n≤9223372036854775807)(hm:1≤m∧m≤9223372036854775807):Cl 12 [.int .i64 n,.int .i64 m] (.agg (frC (Rat.divInt n m))):=by
 have h:=rofI n m hn hm
 unfold frC at h ⊢
 refine V.en tbOk Tryz.func12 ?_
 refine V.r1 @jg8 h ?_
 exact Fin.of rfl
def cubeL:List Int:=[0,0,0,0,0,65535,0,65535,0,0,65535,65535,65535,0,0,65535,0,65535,65535,65535,0,65535,65535,65535]
def cubeK:Nat→List Int
 | k=>cubeL.take (3*k)
theorem k4:((4:Nat):Int)=4:=rfl
theorem k5:((5:Nat):Int)=5:=rfl
theorem k6:((6:Nat):Int)=6:=rfl
theorem k7:((7:Nat):Int)=7:=rfl
theorem k8:((8:Nat):Int)=8:=rfl
theorem jgP:type_of% @jhD ∧ type_of% @jhW ∧ type_of% @jhS ∧ type_of% @List.length_nil.{0} ∧ type_of% @jhR ∧ type_of% @List.take_succ_cons.{0} ∧ type_of% @List.take_zero.{0} ∧ type_of% @jg8:=⟨@jhD,@jhW,@jhS,@List.length_nil.{0},@jhR,@List.take_succ_cons.{0},@List.take_zero.{0},@jg8⟩
theorem cube_c:Cl 13 [] (gridD (sz3 2 2 2) 3 cubeL):=by
 refine V.en tbOk Tryz.func13 ?_
 refine V.r0 @jg8 ?_
 refine Lp.ghostBox 21 1 2 .i64 (by decide) (by decide) ?_
 (conv=>whnf)
 refine jae (0) (fun k=>k≤8) (fun k=>8-k) (fun k=>[(5,.int .i64 k)]) (fun k=>[(1,.box [.osl 3 0 3,.int .i64 3,.osl 21 0 (3*k)]),(21,.arr .i64 (cubeK k))]) ?_ ?_ ?_
 ·exact V.wk
 ·exact jg2 _
 intro k hk
 have hk9:k=0∨k=1∨k=2∨k=3∨k=4∨k=5∨k=6∨k=7∨k=8:=by omega
 rcases hk9 with e|e|e|e|e|e|e|e|e
 ·subst e
  rw[show cubeK 0=([]:List Int) from rfl,show 3*0=0 from rfl]
  simp only[k0]
  refine V.r0 jgP ?_
  try refine And.intro (fun _=>⟨rfl,by simp⟩) ?_
  refine V.r0 jgP ?_
  exact⟨1,by omega,by omega,V.wk⟩
 ·subst e
  rw[show cubeK 1=[0,0,0] from rfl,show 3*1=3 from rfl]
  simp only[k1]
  refine V.r0 jgP ?_
  try refine And.intro (fun _=>⟨rfl,by simp⟩) ?_
  refine V.r0 jgP ?_
  exact⟨2,by omega,by omega,V.wk⟩
 ·subst e
  rw[show cubeK 2=[0,0,0,0,0,65535] from rfl,show 3*2=6 from rfl]
  simp only[k2]
  refine V.r0 jgP ?_
  try refine And.intro (fun _=>⟨rfl,by simp⟩) ?_
  refine V.r0 jgP ?_
  exact⟨3,by omega,by omega,V.wk⟩
 ·subst e
  rw[show cubeK 3=[0,0,0,0,0,65535,0,65535,0] from rfl,show 3*3=9 from rfl]
  simp only[k3]
  refine V.r0 jgP ?_
  try refine And.intro (fun _=>⟨rfl,by simp⟩) ?_
  refine V.r0 jgP ?_
  exact⟨4,by omega,by omega,V.wk⟩
 ·subst e
  rw[show cubeK 4=[0,0,0,0,0,65535,0,65535,0,0,65535,65535] from rfl,show 3*4=12 from rfl]
  simp only[k4]
  refine V.r0 jgP ?_
  try refine And.intro (fun _=>⟨rfl,by simp⟩) ?_
  refine V.r0 jgP ?_
  exact⟨5,by omega,by omega,V.wk⟩
 ·subst e
  rw[show cubeK 5=[0,0,0,0,0,65535,0,65535,0,0,65535,65535,65535,0,0] from rfl,show 3*5=15 from rfl]
  simp only[k5]
  refine V.r0 jgP ?_
  try refine And.intro (fun _=>⟨rfl,by simp⟩) ?_
  refine V.r0 jgP ?_
  exact⟨6,by omega,by omega,V.wk⟩
 ·subst e
  rw[show cubeK 6=[0,0,0,0,0,65535,0,65535,0,0,65535,65535,65535,0,0,65535,0,65535] from rfl,show 3*6=18 from rfl]
  simp only[k6]
  refine V.r0 jgP ?_
  try refine And.intro (fun _=>⟨rfl,by simp⟩) ?_
  refine V.r0 jgP ?_
  exact⟨7,by omega,by omega,V.wk⟩
 ·subst e
  rw[show cubeK 7=[0,0,0,0,0,65535,0,65535,0,0,65535,65535,65535,0,0,65535,0,65535,65535,65535,0] from rfl,show 3*7=21 from rfl]
  simp only[k7]
  refine V.r0 jgP ?_
  try refine And.intro (fun _=>⟨rfl,by simp⟩) ?_
  refine V.r0 jgP ?_
  exact⟨8,by omega,by omega,V.wk⟩
 ·subst e
  refine V.r0 (V.a2 @jg8 @k8) ?_
  exact Fin.of rfl
theorem jd6 {t:V3}{dt':D}(it:Is3 dt' t){size data:List Int}{n:Nat}{q0 q1 q2:Rat}(hs:size.length≤281474976710656)(hd:data.length≤281474976710656)(h:locR size 3 data (v3L t) = .tup [.slf 2 3 (frF q0 q1 q2),.int .i64 n,.int .i64 0]) :
  Cl 14 [gridD size 3 data,dt',.int .i64 n,.slf 2 3 (frF q0 q1 q2)] (.bool true):=by
 have hl:=jcS size 3 data (v3L t) hs hd (by simp[v3L])
 rw[h] at hl
 clear h
 unfold gridD v3L at hl
 unfold frF frC at hl ⊢
 simp only[jhD,jhR] at hl ⊢
 unfold gridD
 have key:∀ d,d=v3D t∨d=v3I t→Cl 14 [.agg [.ints .i64 size,.int .i64 3,.ints .i64 data],d,.int .i64 n,V.sl2 3 [.str (decZ q0.num),.str (dec q0.den),.str (decZ q1.num),.str (dec q1.den),.str (decZ q2.num),.str (dec q2.den)]] (.bool true):=by
  intro d hd
  unfold v3D v3I at hd
  rcases hd with e|e
  all_goals subst e
  ·refine V.en tbOk Tryz.func14 ?_
   refine V.r0 @jg8 ?_
   refine⟨(V.tk [0,1] (V.e1 2 [] (V.tk [3,4,5,6,7,8,9] .done))),[],V.pok,.go (jab ?_)⟩
   refine V.r1 (V.a5 @jg8 @tn0 @tn1 @tn2 @tn3) hl ?_
   refine V.br (fun hq=>?_) (fun hq=>?_)
   ·exfalso
    simp at hq
   refine V.r0 @jg8 ?_
   refine jae (0) (fun k=>k≤3) (fun k=>3-k) (fun k=>[(36,.int .i64 k)]) (fun k=>[]) ?_ ?_ ?_
   ·exact V.wk
   ·exact jg2 _
   intro k hk
   have hk4:k=0∨k=1∨k=2∨k=3:=by omega
   rcases hk4 with e|e|e|e
   ·subst e
    refine V.r0 (V.a5 @jg8 @tn0 @tn1 @tn2 @k0) ?_
    refine⟨Pq20z,[],V.pok,.go (jab ?_)⟩
    refine V.r0 (V.a5 @jg8 @tn0 @tn1 @tn2 @k0) ?_
    exact⟨1,by omega,by omega,V.wk⟩
   ·subst e
    refine V.r0 (V.a5 @jg8 @tn0 @tn1 @tn2 @k1) ?_
    refine⟨Pq20z,[],V.pok,.go (jab ?_)⟩
    refine V.r0 (V.a5 @jg8 @tn0 @tn1 @tn2 @k1) ?_
    exact⟨2,by omega,by omega,V.wk⟩
   ·subst e
    refine V.r0 (V.a5 @jg8 @tn0 @tn1 @tn2 @k2) ?_
    refine⟨Pq20z,[],V.pok,.go (jab ?_)⟩
    refine V.r0 (V.a5 @jg8 @tn0 @tn1 @tn2 @k2) ?_
    exact⟨3,by omega,by omega,V.wk⟩
   ·subst e
    refine V.r0 (V.a2 @jg8 @k3) ?_
    exact Fin.of rfl
  ·refine V.en tbOk Tryz.func14 ?_
   refine V.r0 @jg8 ?_
   refine⟨(V.tk [0,1] (V.e1 2 [] (V.tk [3,4,5,6,7,8,9] .done))),[],V.pok,.go (jab ?_)⟩
   refine V.r1 (V.a5 @jg8 @tn0 @tn1 @tn2 @tn3) hl ?_
   refine V.br (fun hq=>?_) (fun hq=>?_)
   ·exfalso
    simp at hq
   refine V.r0 @jg8 ?_
   refine jae (0) (fun k=>k≤3) (fun k=>3-k) (fun k=>[(36,.int .i64 k)]) (fun k=>[]) ?_ ?_ ?_
   ·exact V.wk
   ·exact jg2 _
   intro k hk
   have hk4:k=0∨k=1∨k=2∨k=3:=by omega
   rcases hk4 with e|e|e|e
   ·subst e
    refine V.r0 (V.a5 @jg8 @tn0 @tn1 @tn2 @k0) ?_
    refine⟨Pq20z,[],V.pok,.go (jab ?_)⟩
    refine V.r0 (V.a5 @jg8 @tn0 @tn1 @tn2 @k0) ?_
    exact⟨1,by omega,by omega,V.wk⟩
   ·subst e
    refine V.r0 (V.a5 @jg8 @tn0 @tn1 @tn2 @k1) ?_
    refine⟨Pq20z,[],V.pok,.go (jab ?_)⟩
    refine V.r0 (V.a5 @jg8 @tn0 @tn1 @tn2 @k1) ?_
    exact⟨2,by omega,by omega,V.wk⟩
   ·subst e
    refine V.r0 (V.a5 @jg8 @tn0 @tn1 @tn2 @k2) ?_
    refine⟨Pq20z,[],V.pok,.go (jab ?_)⟩
    refine V.r0 (V.a5 @jg8 @tn0 @tn1 @tn2 @k2) ?_
    exact⟨3,by omega,by omega,V.wk⟩
   ·subst e
    refine V.r0 (V.a2 @jg8 @k3) ?_
    exact Fin.of rfl
 exact key dt' it
end Go.Proofs.YtbhpaandigaanaaGreatDoor
end
