/- What functions of the program answer at given values, part 16. Conditions: those that each theorem names. -/
import Derived.Test.YtpkdedncgclblaaGreatDoorProgramChecksH11
import Derived.Test.YtpkdedncgclblaaGreatDoorProgramChecksH15
import Derived.Test.YtpkdedncgclblaaGreatDoorProgramChecksH14
import Derived.Test.YtpkdedncgclblaaGreatDoorProgramChecksH6
set_option linter.unusedSimpArgs false
set_option linter.unusedVariables false
set_option maxHeartbeats 8000000
set_option maxRecDepth 100000
section
namespace Go.Proofs.YtpkdedncgclblaaGreatDoor
open Go Go.V Go.Nb Go.RowKit
def opsL:List Lf:=[.recs [.int .i64,.int .i64]]
theorem ops_of {n:Nat}{f:Nat→List D}(h:∀ j,j<n→l0sD [.int .i64,.int .i64] (f j)):∃ l:List (Int×Int),l.length=n∧(∀ j,j<n→f j=[.int .i64 (l.getD j (0,0)).1,.int .i64 (l.getD j (0,0)).2]) ∧ ∀ s∈l,InR .i64 s.1∧InR .i64 s.2:=by
 induction n with
 | zero=>exact⟨[],rfl,fun j hj=>absurd hj (Nat.not_lt_zero _),fun s hs=>by simp at hs⟩
 | succ n ih=>
  obtain⟨l,h1,h2,h3⟩:=ih (fun j hj=>h j (by omega))
  obtain⟨d,ds,e1,⟨a,ea,ha⟩,d2,ds2,e2,⟨b,eb,hb⟩,e3⟩:=h n (by omega)
  subst e3 e2 ea eb
  refine⟨l++[(a,b)],by simp[h1],fun j hj=>?_,fun s hs=>?_⟩
  ·rcases jhZ j n with g|g
   ·rw[h2 j g]
    simp only[jij,jiq (show j<l.length by omega)]
   ·obtain rfl:j=n:=by omega
    rw[e1]
    simp only[jij,jiy (show l.length≤j by omega),show j-l.length=0 by omega]
    rfl
  ·rcases List.mem_append.1 hs with g|g
   ·exact h3 s g
   ·rw[List.mem_singleton.1 g]
    exact⟨ha,hb⟩
theorem ops_den {w:World}{v:Value}(h:leavesOk w opsL [v]):∃ R:List (Int×Int),Den Env.dummy (pubOf w) (oL R) v∧R.length≤281474976710656 ∧ ∀ s∈R,InR .i64 s.1∧InR .i64 s.2:=by
 obtain⟨v0,r0,e0,⟨n,f,hd,hn,hf⟩,e1⟩:=h
 subst e1
 simp only[List.cons.injEq,and_true] at e0
 subst e0
 obtain⟨l,l1,l2,l3⟩:=ops_of hf
 subst l1
 exact⟨l,jgg (fun j hj=>by rw[l2 j hj,jeY l j hj]) hd,by omega,l3⟩
def bndL:List Lf:=[.int .u8,.int .u8,.int .i64,.int .i64,.int .u8,.int .u8,.int .i64,.int .i64]
theorem bnd_den {w:World}{cs:Array Value}(h:leavesOk w bndL cs.toList):∃ b d:Bnd,Den Env.dummy (pubOf w) (bndD b d) (.agg cs)∧BndOk b∧BndOk d:=by
 obtain⟨v0,r0,e0,⟨W,h0,k0⟩,v1,r1,e1,⟨A,h1,k1⟩,v2,r2,e2,⟨c,h2,k2⟩,v3,r3,e3,⟨a,h3,k3⟩,v4,r4,e4,⟨W',h4,k4⟩,v5,r5,e5,⟨A',h5,k5⟩,v6,r6,e6,⟨c',h6,k6⟩,v7,r7,e7,⟨a',h7,k7⟩,e8⟩:=h
 subst e8 e7 e6 e5 e4 e3 e2 e1
 obtain rfl:cs = #[v0,v1,v2,v3,v4,v5,v6,v7]:=by cases cs;simp_all
 subst h0 h1 h2 h3 h4 h5 h6 h7
 have u8:∀ {x:Int},InR .u8 x→0≤x∧x≤255:=fun h=>by simpa [InR,V.lo,V.hi] using h
 refine⟨⟨W,A,c,a⟩,⟨W',A',c',a'⟩,⟨_,rfl,⟨_,_,rfl,⟨rfl,k0⟩,_,_,rfl,⟨rfl,k1⟩,_,_,rfl,⟨rfl,k2⟩,_,_,rfl,⟨rfl,k3⟩,_,_,rfl,⟨rfl,k4⟩,_,_,rfl,⟨rfl,k5⟩,_,_,rfl,⟨rfl,k6⟩,_,_,rfl,⟨rfl,k7⟩,rfl⟩,?_⟩,⟨u8 k0,u8 k1,k2,k3⟩,⟨u8 k4,u8 k5,k6,k7⟩⟩
 intro v hv
 simp only[jil,List.not_mem_nil,or_false] at hv
 rcases hv with rfl|rfl|rfl|rfl|rfl|rfl|rfl|rfl<;>rfl
end Go.Proofs.YtpkdedncgclblaaGreatDoor
end
section
namespace Go.Proofs.YtpkdedncgclblaaGreatDoor
open Go Go.V Go.Nb
theorem fin_tk (R:List (Int×Int))(m:Nat)(h:m≤R.length):Fin (oL (R.take m)) (.slf 2 m (fun t=>List.take 2 (List.drop (t*2) (bcl R)))):=by
 have e:(R.take m).length=m:=by rw[jio];omega
 have g:∀ j,j<m→List.take 2 (List.drop (j*2) (bcl R))=List.take 2 (List.drop (j*2) (bcl (R.take m))):=fun j hj=>by
  rw[jeY R j (by omega),jeY (R.take m) j (by omega)]
  have:(R.take m).getD j (0,0)=R.getD j (0,0):=by
   rw[jij,jij,List.getElem?_take,if_pos hj]
  rw[this]
 show Fin (.slf 2 (R.take m).length (fun t=>List.take 2 (List.drop (t*2) (bcl (R.take m))))) _
 rw[e]
 exact jeF g
theorem checks_c (R:List (Int×Int))(I O:Int)(l:List (Int×Int))(b d:Bnd)(ni no:Int)(hR:R.length≤281474976710656)(hI:0≤I∧I≤255)(hO:0≤O∧O≤255)(hl:∀ s∈l,(0≤s.1∧s.1≤255) ∧ -32768≤s.2∧s.2≤32767)(hlen:l.length≤281474976710656)(hb:BndOk b)(hd:BndOk d)(hni:InR .i64 ni)(hno:InR .i64 no) :
  Cl 8 [oL R,drD I O l,bndD b d,.int .i64 ni,.int .i64 no] (.bool true):=by
 have tc:=three_c I O l b d hI hO hl hlen hb hd
 obtain⟨p0,hp0⟩:∃ p,p=dprog (1+I%3) (1+O%3) l:=⟨_,rfl⟩
 rw[← hp0] at tc
 obtain⟨p1,hp1⟩:∃ p,p=bent b p0:=⟨_,rfl⟩
 rw[← hp1] at tc
 obtain⟨p2,hp2⟩:∃ p,p=bent d p1:=⟨_,rfl⟩
 rw[← hp2] at tc
 have wk:=wakes_c
 have ci:=dins_c I O l hI
 have co:=douts_c I O l hO
 have pd0:=fun x y=>jeJ p0 x y
 have pk0:=fun x y=>jeS p0 x y
 have rd0:=fun x y=>jdZ p0 x y
 have rk0:=fun x y=>jdY p0 x y
 have pd1:=fun x y=>jeJ p1 x y
 have pk1:=fun x y=>jeS p1 x y
 have rd1:=fun x y=>jdZ p1 x y
 have rk1:=fun x y=>jdY p1 x y
 have pd2:=fun x y=>jeJ p2 x y
 have pk2:=fun x y=>jeS p2 x y
 have rd2:=fun x y=>jdZ p2 x y
 have rk2:=fun x y=>jdY p2 x y
 have hm:(min (R.length:Int) 50).toNat≤R.length:=by omega
 have fR:=fin_tk R _ hm
 have pd3:=fun x y=>arg3 (jeJ (R.take (min (R.length:Int) 50).toNat) x y) fR (Fin.same _) (Fin.same _)
 have pk3:=fun x y=>arg3 (jeS (R.take (min (R.length:Int) 50).toNat) x y) fR (Fin.same _) (Fin.same _)
 have rd3:=fun x y=>arg3 (jdZ (R.take (min (R.length:Int) 50).toNat) x y) fR (Fin.same _) (Fin.same _)
 have rk3:=fun x y=>arg3 (jdY (R.take (min (R.length:Int) 50).toNat) x y) fR (Fin.same _) (Fin.same _)
 refine V.en tbOk Tryz.func8 ?_
 refine V.r2 @jhR wk tc ?_
 refine⟨(V.tk [0,1,2,3,4,5,6,7,8,9,10,11,12] .done),[],V.pok,.go (jab ?_)⟩
 refine V.r0 @jhR ?_
 refine jaj ((0:Nat)) (fun k=>k≤4) (fun k=>4-k) (fun k=>[(37,.int .i64 k)]) (fun k=>[]) ?_ ?_ ?_
 ·exact V.wk
 ·exact jhM _
 intro k hk
 try dsimp only at hk ⊢
 rcases (show k=0∨k=1∨k=2∨k=3∨k=4 by omega) with rfl|rfl|rfl|rfl|rfl
 ·refine V.r2 @jhR ci co ?_
  refine⟨Pq40z,[],V.pok,.go (jab ?_)⟩
  refine V.r2 @jhR ci co ?_
  refine jaj ((0:Nat)) (fun k=>k≤4) (fun k=>4-k) (fun k=>[(57,.int .i64 k)]) (fun k=>[]) ?_ ?_ ?_
  ·exact V.wk
  ·exact jhM _
  intro m hm
  try dsimp only at hm ⊢
  rcases (show m=0∨m=1∨m=2∨m=3∨m=4 by omega) with rfl|rfl|rfl|rfl|rfl
  ·have c1:=pd0 (1+I%3) (1+O%3)
   have c2:=rd0 (1+I%3) (1+O%3)
   have c3:=pk0 (1+I%3) (1+O%3)
   have c4:=rk0 (1+I%3) (1+O%3)
   refine V.r2 @jhR c1 c2 ?_
   refine⟨Pq21z,[],V.pok,.go (jab ?_)⟩
   refine V.r2 @jhR c3 c4 ?_
   refine Cnd.no (by simp) ?_
   refine V.r0 @jhR ?_
   exact⟨1,by omega,by omega,V.wk⟩
  ·have c1:=pd0 ni no
   have c2:=rd0 ni no
   have c3:=pk0 ni no
   have c4:=rk0 ni no
   refine V.r2 @jhR c1 c2 ?_
   refine⟨Pq21z,[],V.pok,.go (jab ?_)⟩
   refine V.r2 @jhR c3 c4 ?_
   refine Cnd.no (by simp) ?_
   refine V.r0 @jhR ?_
   exact⟨2,by omega,by omega,V.wk⟩
  ·have c1:=pd0 (1+I%3) no
   have c2:=rd0 (1+I%3) no
   have c3:=pk0 (1+I%3) no
   have c4:=rk0 (1+I%3) no
   refine V.r2 @jhR c1 c2 ?_
   refine⟨Pq21z,[],V.pok,.go (jab ?_)⟩
   refine V.r2 @jhR c3 c4 ?_
   refine Cnd.no (by simp) ?_
   refine V.r0 @jhR ?_
   exact⟨3,by omega,by omega,V.wk⟩
  ·have c1:=pd0 ni (1+O%3)
   have c2:=rd0 ni (1+O%3)
   have c3:=pk0 ni (1+O%3)
   have c4:=rk0 ni (1+O%3)
   refine V.r2 @jhR c1 c2 ?_
   refine⟨Pq21z,[],V.pok,.go (jab ?_)⟩
   refine V.r2 @jhR c3 c4 ?_
   refine Cnd.no (by simp) ?_
   refine V.r0 @jhR ?_
   exact⟨4,by omega,by omega,V.wk⟩
  ·refine V.r0 @jhR ?_
   exact⟨1,by omega,by omega,V.wk⟩
 ·refine V.r2 @jhR ci co ?_
  refine⟨Pq40z,[],V.pok,.go (jab ?_)⟩
  refine V.r2 @jhR ci co ?_
  refine jaj ((0:Nat)) (fun k=>k≤4) (fun k=>4-k) (fun k=>[(57,.int .i64 k)]) (fun k=>[]) ?_ ?_ ?_
  ·exact V.wk
  ·exact jhM _
  intro m hm
  try dsimp only at hm ⊢
  rcases (show m=0∨m=1∨m=2∨m=3∨m=4 by omega) with rfl|rfl|rfl|rfl|rfl
  ·have c1:=pd1 (1+I%3) (1+O%3)
   have c2:=rd1 (1+I%3) (1+O%3)
   have c3:=pk1 (1+I%3) (1+O%3)
   have c4:=rk1 (1+I%3) (1+O%3)
   refine V.r2 @jhR c1 c2 ?_
   refine⟨Pq21z,[],V.pok,.go (jab ?_)⟩
   refine V.r2 @jhR c3 c4 ?_
   refine Cnd.no (by simp) ?_
   refine V.r0 @jhR ?_
   exact⟨1,by omega,by omega,V.wk⟩
  ·have c1:=pd1 ni no
   have c2:=rd1 ni no
   have c3:=pk1 ni no
   have c4:=rk1 ni no
   refine V.r2 @jhR c1 c2 ?_
   refine⟨Pq21z,[],V.pok,.go (jab ?_)⟩
   refine V.r2 @jhR c3 c4 ?_
   refine Cnd.no (by simp) ?_
   refine V.r0 @jhR ?_
   exact⟨2,by omega,by omega,V.wk⟩
  ·have c1:=pd1 (1+I%3) no
   have c2:=rd1 (1+I%3) no
   have c3:=pk1 (1+I%3) no
   have c4:=rk1 (1+I%3) no
   refine V.r2 @jhR c1 c2 ?_
   refine⟨Pq21z,[],V.pok,.go (jab ?_)⟩
   refine V.r2 @jhR c3 c4 ?_
   refine Cnd.no (by simp) ?_
   refine V.r0 @jhR ?_
   exact⟨3,by omega,by omega,V.wk⟩
  ·have c1:=pd1 ni (1+O%3)
   have c2:=rd1 ni (1+O%3)
   have c3:=pk1 ni (1+O%3)
   have c4:=rk1 ni (1+O%3)
   refine V.r2 @jhR c1 c2 ?_
   refine⟨Pq21z,[],V.pok,.go (jab ?_)⟩
   refine V.r2 @jhR c3 c4 ?_
   refine Cnd.no (by simp) ?_
   refine V.r0 @jhR ?_
   exact⟨4,by omega,by omega,V.wk⟩
  ·refine V.r0 @jhR ?_
   exact⟨2,by omega,by omega,V.wk⟩
 ·refine V.r2 @jhR ci co ?_
  refine⟨Pq40z,[],V.pok,.go (jab ?_)⟩
  refine V.r2 @jhR ci co ?_
  refine jaj ((0:Nat)) (fun k=>k≤4) (fun k=>4-k) (fun k=>[(57,.int .i64 k)]) (fun k=>[]) ?_ ?_ ?_
  ·exact V.wk
  ·exact jhM _
  intro m hm
  try dsimp only at hm ⊢
  rcases (show m=0∨m=1∨m=2∨m=3∨m=4 by omega) with rfl|rfl|rfl|rfl|rfl
  ·have c1:=pd2 (1+I%3) (1+O%3)
   have c2:=rd2 (1+I%3) (1+O%3)
   have c3:=pk2 (1+I%3) (1+O%3)
   have c4:=rk2 (1+I%3) (1+O%3)
   refine V.r2 @jhR c1 c2 ?_
   refine⟨Pq21z,[],V.pok,.go (jab ?_)⟩
   refine V.r2 @jhR c3 c4 ?_
   refine Cnd.no (by simp) ?_
   refine V.r0 @jhR ?_
   exact⟨1,by omega,by omega,V.wk⟩
  ·have c1:=pd2 ni no
   have c2:=rd2 ni no
   have c3:=pk2 ni no
   have c4:=rk2 ni no
   refine V.r2 @jhR c1 c2 ?_
   refine⟨Pq21z,[],V.pok,.go (jab ?_)⟩
   refine V.r2 @jhR c3 c4 ?_
   refine Cnd.no (by simp) ?_
   refine V.r0 @jhR ?_
   exact⟨2,by omega,by omega,V.wk⟩
  ·have c1:=pd2 (1+I%3) no
   have c2:=rd2 (1+I%3) no
   have c3:=pk2 (1+I%3) no
   have c4:=rk2 (1+I%3) no
   refine V.r2 @jhR c1 c2 ?_
   refine⟨Pq21z,[],V.pok,.go (jab ?_)⟩
   refine V.r2 @jhR c3 c4 ?_
   refine Cnd.no (by simp) ?_
   refine V.r0 @jhR ?_
   exact⟨3,by omega,by omega,V.wk⟩
  ·have c1:=pd2 ni (1+O%3)
   have c2:=rd2 ni (1+O%3)
   have c3:=pk2 ni (1+O%3)
   have c4:=rk2 ni (1+O%3)
   refine V.r2 @jhR c1 c2 ?_
   refine⟨Pq21z,[],V.pok,.go (jab ?_)⟩
   refine V.r2 @jhR c3 c4 ?_
   refine Cnd.no (by simp) ?_
   refine V.r0 @jhR ?_
   exact⟨4,by omega,by omega,V.wk⟩
  ·refine V.r0 @jhR ?_
   exact⟨3,by omega,by omega,V.wk⟩
 ·refine V.r2 @jhR ci co ?_
  refine⟨Pq40z,[],V.pok,.go (jab ?_)⟩
  refine V.r2 @jhR ci co ?_
  refine jaj ((0:Nat)) (fun k=>k≤4) (fun k=>4-k) (fun k=>[(57,.int .i64 k)]) (fun k=>[]) ?_ ?_ ?_
  ·exact V.wk
  ·exact jhM _
  intro m hm
  try dsimp only at hm ⊢
  rcases (show m=0∨m=1∨m=2∨m=3∨m=4 by omega) with rfl|rfl|rfl|rfl|rfl
  ·have c1:=pd3 (1+I%3) (1+O%3)
   have c2:=rd3 (1+I%3) (1+O%3)
   have c3:=pk3 (1+I%3) (1+O%3)
   have c4:=rk3 (1+I%3) (1+O%3)
   refine V.r2 @jhR c1 c2 ?_
   refine⟨Pq21z,[],V.pok,.go (jab ?_)⟩
   refine V.r2 @jhR c3 c4 ?_
   refine Cnd.no (by simp) ?_
   refine V.r0 @jhR ?_
   exact⟨1,by omega,by omega,V.wk⟩
  ·have c1:=pd3 ni no
   have c2:=rd3 ni no
   have c3:=pk3 ni no
   have c4:=rk3 ni no
   refine V.r2 @jhR c1 c2 ?_
   refine⟨Pq21z,[],V.pok,.go (jab ?_)⟩
   refine V.r2 @jhR c3 c4 ?_
   refine Cnd.no (by simp) ?_
   refine V.r0 @jhR ?_
   exact⟨2,by omega,by omega,V.wk⟩
  ·have c1:=pd3 (1+I%3) no
   have c2:=rd3 (1+I%3) no
   have c3:=pk3 (1+I%3) no
   have c4:=rk3 (1+I%3) no
   refine V.r2 @jhR c1 c2 ?_
   refine⟨Pq21z,[],V.pok,.go (jab ?_)⟩
   refine V.r2 @jhR c3 c4 ?_
   refine Cnd.no (by simp) ?_
   refine V.r0 @jhR ?_
   exact⟨3,by omega,by omega,V.wk⟩
  ·have c1:=pd3 ni (1+O%3)
   have c2:=rd3 ni (1+O%3)
   have c3:=pk3 ni (1+O%3)
   have c4:=rk3 ni (1+O%3)
   refine V.r2 @jhR c1 c2 ?_
   refine⟨Pq21z,[],V.pok,.go (jab ?_)⟩
   refine V.r2 @jhR c3 c4 ?_
   refine Cnd.no (by simp) ?_
   refine V.r0 @jhR ?_
   exact⟨4,by omega,by omega,V.wk⟩
  ·refine V.r0 @jhR ?_
   exact⟨4,by omega,by omega,V.wk⟩
 ·refine V.r0 @jhR ?_
  exact Fin.of rfl
end Go.Proofs.YtpkdedncgclblaaGreatDoor
end
