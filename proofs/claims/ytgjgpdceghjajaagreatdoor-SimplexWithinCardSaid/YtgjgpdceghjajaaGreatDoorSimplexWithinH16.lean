/- What functions of the program answer at given values, part 16. Conditions: those that each theorem names. -/
import Derived.Test.YtgjgpdceghjajaaGreatDoorSimplexWithinH15
import Derived.Test.YtgjgpdceghjajaaGreatDoorSimplexWithinH13
import Derived.Test.YtgjgpdceghjajaaGreatDoorSimplexWithinH11
import Derived.Test.YtgjgpdceghjajaaGreatDoorSimplexWithinH6
import Derived.Test.YtgjgpdceghjajaaGreatDoorSimplexWithinH14
set_option linter.unusedSimpArgs false
set_option linter.unusedVariables false
set_option maxHeartbeats 8000000
set_option maxRecDepth 100000
section
namespace Go.Proofs.YtgjgpdceghjajaaGreatDoor
open Go Go.V Go.Gr Go.Nb
def clI (v:Int):Int:=min (max v 0) 1000000000000
def midB (b:Int×Int):Rat:=Rat.divInt (clI b.1+clI b.2) 2000000000000
def halB (b:Int×Int):Rat:=Rat.divInt (clI b.2-clI b.1) 2000000000000
def bce (B:Nat→Int×Int):Nat→List D
 | 0=>[]
 | k+1=>bce B k++[.int .i64 (B k).1,.int .i64 (B k).2]
def slB (B:Nat→Int×Int)(n:Nat):D:=V.sl2 n (bce B n)
theorem jaq (v:Int):0≤clI v∧clI v≤1000000000000:=by unfold clI;omega
theorem jgy {a b:Int}(h:a≤b):clI a≤clI b:=by unfold clI;omega
theorem jcM {b:Int×Int}(h:vb b.1 b.2=true):Cl 57 [.agg [.int .i64 b.1,.int .i64 b.2],.int .i64 0,.int .i64 1000000000000] (.tup [.agg [.int .i64 (clI b.1),.int .i64 (clI b.2)],.int .i64 0]):=by
 have c:=clamp_b b.1 b.2 0 1000000000000
 have v:=jaR.1 h
 have b1:=jaq b.1
 have b2:=jaq b.2
 have m:=jgy v.2.1
 rw[if_pos h,if_pos (jaR.2 (by omega))] at c
 have e:mk (min (max b.1 0) 1000000000000) (min (max b.2 0) 1000000000000)=(clI b.1,clI b.2,0):=by
  unfold mk
  rw[if_pos (jaR.2 (by unfold clI at *; omega))]
  rfl
 rw[e] at c
 exact c
theorem divQ (a:Int):Rat.divInt a 2000000000000=(a:Rat)/2000000000000:=by
 rw[Rat.divInt_eq_div]
 rfl
theorem divF (a:Int):Rat.divInt a 65535=(a:Rat)/65535:=by
 rw[Rat.divInt_eq_div]
 rfl
theorem jd5 (b:Int×Int):Fq 14 (midB b):=by
 have b1:=jaq b.1
 have b2:=jaq b.2
 exact jaM (n:=14) (d:=2000000000000) (by decide) (by omega) (by decide)
theorem jd6 (b:Int×Int):Fq 14 (halB b):=by
 have b1:=jaq b.1
 have b2:=jaq b.2
 exact jaM (n:=14) (d:=2000000000000) (by decide) (by omega) (by decide)
theorem hal_bd {b:Int×Int}(h:vb b.1 b.2=true):0≤halB b∧halB b≤1:=by
 have b1:=jaq b.1
 have b2:=jaq b.2
 have m:=jgy (jaR.1 h).2.1
 unfold halB
 rw[divQ]
 have g1:(0:Rat)≤((clI b.2-clI b.1:Int):Rat):=by exact_mod_cast (show (0:Int)≤clI b.2-clI b.1 by omega)
 have g2:((clI b.2-clI b.1:Int):Rat)≤((1000000000000:Int):Rat):=Rat.intCast_le_intCast.2 (by omega)
 rw[show ((1000000000000:Int):Rat)=1000000000000 from rfl] at g2
 constructor<;>grind
theorem jcI {v:Int}(h:0≤v∧v≤65535):Fq 10 (Rat.divInt v 65535):=jaM (n:=10) (d:=65535) (by decide) (by omega) (by decide)
def sprQ (zs data:List Int)(out:Int)(n:Nat)(X:Nat→Int×Int)(j:Nat):Rat:=smF (fun i=>(((outS zs data out zs.length j).getD i 0:Int):Rat)*halB (X i)) (n-1)/65535
theorem jed {st:List Int}{n i:Nat}{b:Int×Int}(hs:rowOk n st)(h:vb b.1 b.2=true):0≤((st.getD i 0:Int):Rat)*halB b∧((st.getD i 0:Int):Rat)*halB b≤600000:=by
 have g:=hal_bd h
 have s:=hs.2 i
 have s0:(0:Rat)≤((st.getD i 0:Int):Rat):=by exact_mod_cast s.1
 have s1:((st.getD i 0:Int):Rat)≤((600000:Int):Rat):=Rat.intCast_le_intCast.2 s.2
 rw[show ((600000:Int):Rat)=600000 from rfl] at s1
 have m1:=ji3 g.2 s0
 have m0:=ji3 g.1 s0
 constructor<;>grind
theorem jgK {P:Nat→Rat}{n:Nat}(h:∀ i,i≤n→0≤P i∧P i≤600000):∀ k,k≤n→0≤smF P k∧smF P k≤600000*(((k+1:Nat):Int):Rat)
 | 0,hk=>by
  have:=h 0 hk
  simp only[smF]
  rw[show (((0+1:Nat):Int):Rat)=1 from rfl]
  constructor<;>grind
 | k+1,hk=>by
  have a:=jgK h k (by omega)
  have b:=h (k+1) hk
  simp only[smF]
  rw[show (((k+1+1:Nat):Int):Rat)=(((k+1:Nat):Int):Rat)+1 by rw[Int.natCast_add,Rat.intCast_add];rfl]
  constructor<;>grind
theorem fq_ev1 {x0:Rat}{z0 out:Int}{data:List Int}(hg:jaj [z0] out data=true)(h0:Fq 40 x0)(j:Nat):Fq 376 (evQ [z0] out data x0 0 0 j):=by
 have og:=jap hg
 have s0:=og.2.1 z0 (by simp)
 have f0:=jbp h0 (by decide) s0
 have fr:∀ k,Fq 43 (rqN (spR z0 x0) 0 0 k):=fq_rq f0 jcr jcr
 rw[ev1_sm s0.1]
 have fm:∀ k,Fq 92 ((fun k=>wqN (rqN (spR z0 x0) 0 0) [0] 1 k*(((slot data (pz ([z0].zip ((atK [spB z0 x0,0,0,0] [0] k).take 1))*out) out).getD j 0:Int):Rat)) k):=fun k=>(fq_wq fr _ 1 k).mul (jaD (n:=5) (by have:=jbM og.2.2.2 (pz ([z0].zip ((atK [spB z0 x0,0,0,0] [0] k).take 1))*out) out j;omega) (by omega))
 have s:=fq_sm fm 1
 have q:=s.div (jaD (n:=5) (z:=65535) jaF (by decide)) ja6
 rw[show ((65535:Int):Rat)=65535 from rfl] at q
 exact q.mono (by decide)
theorem ev_in1 {x0:Rat}{z0 out:Int}{data:List Int}(hg:jaj [z0] out data=true){j:Nat}(hj:j<out.toNat):Rat.divInt ((loL out data).getD j 0) 65535≤evQ [z0] out data x0 0 0 j∧evQ [z0] out data x0 0 0 j≤Rat.divInt ((hiL out data).getD j 0) 65535:=by
 have og:=jap hg
 have rb:=jbl hg hj
 have s0:=og.2.1 z0 (by simp)
 have b:=ev_bd (s0:=z0) (s1:=2) (s2:=2) (v:=gvF [z0] out data j) (m:=(((loL out data).getD j 0:Int):Rat)) (M:=(((hiL out data).getD j 0:Int):Rat)) (by omega) (fun i k l hi hk hl=>by
  have g:=rb.2.2 [i] (by simp[okIdx];omega)
  exact⟨Rat.intCast_le_intCast.2 g.1,Rat.intCast_le_intCast.2 g.2⟩) x0 0 0
 rw[divF,divF]
 show _≤evF z0 2 2 (gvF [z0] out data j) x0 0 0/65535∧evF z0 2 2 (gvF [z0] out data j) x0 0 0/65535≤_
 constructor<;>grind
theorem fq_ev2 {x0 x1:Rat}{z0 z1 out:Int}{data:List Int}(hg:jaj [z0,z1] out data=true)(h0:Fq 40 x0)(h1:Fq 40 x1)(j:Nat):Fq 376 (evQ [z0,z1] out data x0 x1 0 j):=by
 have og:=jap hg
 have s0:=og.2.1 z0 (by simp)
 have f0:=jbp h0 (by decide) s0
 have s1:=og.2.1 z1 (by simp)
 have f1:=jbp h1 (by decide) s1
 have fr:∀ k,Fq 43 (rqN (spR z0 x0) (spR z1 x1) 0 k):=fq_rq f0 f1 jcr
 rw[ev2_sm s0.1 s1.1]
 have fm:∀ k,Fq 92 ((fun k=>wqN (rqN (spR z0 x0) (spR z1 x1) 0) (ord2 (spR z0 x0) (spR z1 x1)) 2 k*(((slot data (pz ([z0,z1].zip ((atK [spB z0 x0,spB z1 x1,0,0] (ord2 (spR z0 x0) (spR z1 x1)) k).take 2))*out) out).getD j 0:Int):Rat)) k):=fun k=>(fq_wq fr _ 2 k).mul (jaD (n:=5) (by have:=jbM og.2.2.2 (pz ([z0,z1].zip ((atK [spB z0 x0,spB z1 x1,0,0] (ord2 (spR z0 x0) (spR z1 x1)) k).take 2))*out) out j;omega) (by omega))
 have s:=fq_sm fm 2
 have q:=s.div (jaD (n:=5) (z:=65535) jaF (by decide)) ja6
 rw[show ((65535:Int):Rat)=65535 from rfl] at q
 exact q.mono (by decide)
theorem ev_in2 {x0 x1:Rat}{z0 z1 out:Int}{data:List Int}(hg:jaj [z0,z1] out data=true){j:Nat}(hj:j<out.toNat):Rat.divInt ((loL out data).getD j 0) 65535≤evQ [z0,z1] out data x0 x1 0 j∧evQ [z0,z1] out data x0 x1 0 j≤Rat.divInt ((hiL out data).getD j 0) 65535:=by
 have og:=jap hg
 have rb:=jbl hg hj
 have s0:=og.2.1 z0 (by simp)
 have s1:=og.2.1 z1 (by simp)
 have b:=ev_bd (s0:=z0) (s1:=z1) (s2:=2) (v:=gvF [z0,z1] out data j) (m:=(((loL out data).getD j 0:Int):Rat)) (M:=(((hiL out data).getD j 0:Int):Rat)) (by omega) (fun i k l hi hk hl=>by
  have g:=rb.2.2 [i,k] (by simp[okIdx];omega)
  exact⟨Rat.intCast_le_intCast.2 g.1,Rat.intCast_le_intCast.2 g.2⟩) x0 x1 0
 rw[divF,divF]
 show _≤evF z0 z1 2 (gvF [z0,z1] out data j) x0 x1 0/65535∧evF z0 z1 2 (gvF [z0,z1] out data j) x0 x1 0/65535≤_
 constructor<;>grind
theorem fq_ev3 {x0 x1 x2:Rat}{z0 z1 z2 out:Int}{data:List Int}(hg:jaj [z0,z1,z2] out data=true)(h0:Fq 40 x0)(h1:Fq 40 x1)(h2:Fq 40 x2)(j:Nat):Fq 376 (evQ [z0,z1,z2] out data x0 x1 x2 j):=by
 have og:=jap hg
 have s0:=og.2.1 z0 (by simp)
 have f0:=jbp h0 (by decide) s0
 have s1:=og.2.1 z1 (by simp)
 have f1:=jbp h1 (by decide) s1
 have s2:=og.2.1 z2 (by simp)
 have f2:=jbp h2 (by decide) s2
 have fr:∀ k,Fq 43 (rqN (spR z0 x0) (spR z1 x1) (spR z2 x2) k):=fq_rq f0 f1 f2
 rw[ev3_sm s0.1 s1.1 s2.1]
 have fm:∀ k,Fq 92 ((fun k=>wqN (rqN (spR z0 x0) (spR z1 x1) (spR z2 x2)) (ord3 (spR z0 x0) (spR z1 x1) (spR z2 x2)) 3 k*(((slot data (pz ([z0,z1,z2].zip ((atK [spB z0 x0,spB z1 x1,spB z2 x2,0] (ord3 (spR z0 x0) (spR z1 x1) (spR z2 x2)) k).take 3))*out) out).getD j 0:Int):Rat)) k):=fun k=>(fq_wq fr _ 3 k).mul (jaD (n:=5) (by have:=jbM og.2.2.2 (pz ([z0,z1,z2].zip ((atK [spB z0 x0,spB z1 x1,spB z2 x2,0] (ord3 (spR z0 x0) (spR z1 x1) (spR z2 x2)) k).take 3))*out) out j;omega) (by omega))
 have s:=fq_sm fm 3
 have q:=s.div (jaD (n:=5) (z:=65535) jaF (by decide)) ja6
 rw[show ((65535:Int):Rat)=65535 from rfl] at q
 exact q.mono (by decide)
theorem ev_in3 {x0 x1 x2:Rat}{z0 z1 z2 out:Int}{data:List Int}(hg:jaj [z0,z1,z2] out data=true){j:Nat}(hj:j<out.toNat):Rat.divInt ((loL out data).getD j 0) 65535≤evQ [z0,z1,z2] out data x0 x1 x2 j∧evQ [z0,z1,z2] out data x0 x1 x2 j≤Rat.divInt ((hiL out data).getD j 0) 65535:=by
 have og:=jap hg
 have rb:=jbl hg hj
 have s0:=og.2.1 z0 (by simp)
 have s1:=og.2.1 z1 (by simp)
 have s2:=og.2.1 z2 (by simp)
 have b:=ev_bd (s0:=z0) (s1:=z1) (s2:=z2) (v:=gvF [z0,z1,z2] out data j) (m:=(((loL out data).getD j 0:Int):Rat)) (M:=(((hiL out data).getD j 0:Int):Rat)) (by omega) (fun i k l hi hk hl=>by
  have g:=rb.2.2 [i,k,l] (by simp[okIdx];omega)
  exact⟨Rat.intCast_le_intCast.2 g.1,Rat.intCast_le_intCast.2 g.2⟩) x0 x1 x2
 rw[divF,divF]
 show _≤evF z0 z1 z2 (gvF [z0,z1,z2] out data j) x0 x1 x2/65535∧evF z0 z1 z2 (gvF [z0,z1,z2] out data j) x0 x1 x2/65535≤_
 constructor<;>grind
theorem bandq1 {z0 out:Int}{data:List Int}(hg:jaj [z0] out data=true)(X:Nat→Int×Int)(hX:∀ i,i<1→vb (X i).1 (X i).2=true) :
  Cl 29 [gridD [z0] out data,slB X 1] (.tup [slB (fun j=>confB (evQ [z0] out data (midB (X 0)) 0 0 j) (sprQ [z0] data out 1 X j) (Rat.divInt ((loL out data).getD j 0) 65535) (Rat.divInt ((hiL out data).getD j 0) 65535)) out.toNat,.int .i64 0]):=by
 have og:=jap hg
 have so:=jbb (out:=out) og.2.2.2 og.2.1 1 (jiD _)
 have rl:=jgO hg
 have li:=blist1a (F:=56) (fun i=>(clI (X i).1,clI (X i).2)) (bands1_10 X (clI (X 0).1,clI (X 0).2) (jcM (hX 0 (by decide))))
 have fm0:=(jd5 (X 0)).mono (show 14≤40 by decide)
 have om:∀ i,i<1→Cl 58 [.int .i64 (clI (X i).1+clI (X i).2),.int .i64 2000000000000] (frT (midB (X i))):=fun i _=>jbo (by have:=jaq (X i).1;have:=jaq (X i).2;omega) (by decide)
 have oh:∀ i,i<1→Cl 58 [.int .i64 (clI (X i).2-clI (X i).1),.int .i64 2000000000000] (frT (halB (X i))):=fun i _=>jbo (by have:=jaq (X i).1;have:=jaq (X i).2;omega) (by decide)
 have ev:=evalq1 hg fm0
 have b2:∀ j,j<out.toNat→Cl 61 [frT (evQ [z0] out data (midB (X 0)) 0 0 j),frT (sprQ [z0] data out 1 X j),frT (Rat.divInt ((loL out data).getD j 0) 65535),frT (Rat.divInt ((hiL out data).getD j 0) 65535)] (.tup [.agg [.int .i64 ((fun j=>confB (evQ [z0] out data (midB (X 0)) 0 0 j) (sprQ [z0] data out 1 X j) (Rat.divInt ((loL out data).getD j 0) 65535) (Rat.divInt ((hiL out data).getD j 0) 65535)) j).1,.int .i64 ((fun j=>confB (evQ [z0] out data (midB (X 0)) 0 0 j) (sprQ [z0] data out 1 X j) (Rat.divInt ((loL out data).getD j 0) 65535) (Rat.divInt ((hiL out data).getD j 0) 65535)) j).2],.int .i64 0]):=fun j hj=>by
  have rb:=jbl hg hj
  have ei:=ev_in1 (x0:=midB (X 0)) hg hj
  have sp:=spr_q1 (so j) (H:=fun i=>halB (X i)) (fun i _=>jd6 (X i))
  have sb:=jgK (P:=fun i=>(((outS [z0] data out [z0].length j).getD i 0:Int):Rat)*halB (X i)) (n:=0) (fun i hi=>jed (so j) (hX i (by omega))) 0 (jiD _)
  have n3:(((0+1:Nat):Int):Rat)≤3:=by decide +kernel
  refine conf_q (fq_ev1 hg fm0 j) sp.2 (jcI rb.1) (jcI rb.2.1) ?_ ⟨?_,ei.1⟩ ⟨ei.2,?_⟩
  ·show 0≤smF _ _/65535∧smF _ _/65535≤50000
   constructor<;>grind
  ·rw[divF]
   have:(0:Rat)≤(((loL out data).getD j 0:Int):Rat):=by exact_mod_cast rb.1.1
   grind
  ·rw[divF]
   have:(((hiL out data).getD j 0:Int):Rat)≤((65535:Int):Rat):=Rat.intCast_le_intCast.2 rb.2.1.2
   rw[show ((65535:Int):Rat)=65535 from rfl] at this
   grind
 have o1:∀ j,j<out.toNat→Cl 58 [.int .i64 ((loL out data).getD j 0),.int .i64 65535] (frT (Rat.divInt ((loL out data).getD j 0) 65535)):=fun j hj=>jbo (by have:=jbl hg hj;omega) (by decide)
 have o2:∀ j,j<out.toNat→Cl 58 [.int .i64 ((hiL out data).getD j 0),.int .i64 65535] (frT (Rat.divInt ((hiL out data).getD j 0) 65535)):=fun j hj=>jbo (by have:=jbl hg hj;omega) (by decide)
 have sp:∀ j,Cl 60 [.ints .i64 (outS [z0] data out [z0].length j),slQ (fun i=>txq (halB (X i))) 1] (.tup [frT (sprQ [z0] data out 1 X j),.int .i64 0]):=fun j=>(spr_q1 (so j) (H:=fun i=>halB (X i)) (fun i _=>jd6 (X i))).1
 have h4:out=1∨out=2∨out=3∨out=4:=by omega
 rcases h4 with e|e|e|e<;>subst e
 ·exact jet [z0] data _ _ 1 X (fun i=>(clI (X i).1,clI (X i).2)) (fun i=>txq (midB (X i))) (fun i=>txq (halB (X i))) _ _ _ _ _ _ rfl (fun i _=>⟨jaq _,jaq _⟩) (jbt hg (by simp)) li om oh ev (jde [z0] data (outS [z0] data 1 [z0].length) hg (by simp) rfl) (blist1c (F:=59) (fun j=>confB (evQ [z0] 1 data (midB (X 0)) 0 0 j) (sprQ [z0] data 1 1 X j) (Rat.divInt ((loL 1 data).getD j 0) 65535) (Rat.divInt ((hiL 1 data).getD j 0) 65535)) (bands2_110 (outS [z0] data 1 [z0].length) (fun i=>txq (halB (X i))) (fun j=>txq (evQ [z0] 1 data (midB (X 0)) 0 0 j)) _ _ _ _ _ _ _ _ ((fun j=>confB (evQ [z0] 1 data (midB (X 0)) 0 0 j) (sprQ [z0] data 1 1 X j) (Rat.divInt ((loL 1 data).getD j 0) 65535) (Rat.divInt ((hiL 1 data).getD j 0) 65535)) 0) rl.2.2.1 rl.2.2.2 (sp 0) (o1 0 (by decide)) (o2 0 (by decide)) (b2 0 (by decide))))
 ·exact jet [z0] data _ _ 2 X (fun i=>(clI (X i).1,clI (X i).2)) (fun i=>txq (midB (X i))) (fun i=>txq (halB (X i))) _ _ _ _ _ _ rfl (fun i _=>⟨jaq _,jaq _⟩) (jbt hg (by simp)) li om oh ev (jf5 [z0] data (outS [z0] data 2 [z0].length) hg (by simp) rfl) (blist2c (F:=59) (fun j=>confB (evQ [z0] 2 data (midB (X 0)) 0 0 j) (sprQ [z0] data 2 1 X j) (Rat.divInt ((loL 2 data).getD j 0) 65535) (Rat.divInt ((hiL 2 data).getD j 0) 65535)) (bands2_120 (outS [z0] data 2 [z0].length) (fun i=>txq (halB (X i))) (fun j=>txq (evQ [z0] 2 data (midB (X 0)) 0 0 j)) _ _ _ _ _ _ _ _ ((fun j=>confB (evQ [z0] 2 data (midB (X 0)) 0 0 j) (sprQ [z0] data 2 1 X j) (Rat.divInt ((loL 2 data).getD j 0) 65535) (Rat.divInt ((hiL 2 data).getD j 0) 65535)) 0) rl.2.2.1 rl.2.2.2 (sp 0) (o1 0 (by decide)) (o2 0 (by decide)) (b2 0 (by decide))) (bands2_121 (outS [z0] data 2 [z0].length) (fun i=>txq (halB (X i))) (fun j=>txq (evQ [z0] 2 data (midB (X 0)) 0 0 j)) _ _ _ _ _ _ _ _ ((fun j=>confB (evQ [z0] 2 data (midB (X 0)) 0 0 j) (sprQ [z0] data 2 1 X j) (Rat.divInt ((loL 2 data).getD j 0) 65535) (Rat.divInt ((hiL 2 data).getD j 0) 65535)) 1) rl.2.2.1 rl.2.2.2 (sp 1) (o1 1 (by decide)) (o2 1 (by decide)) (b2 1 (by decide))))
 ·exact jet [z0] data _ _ 3 X (fun i=>(clI (X i).1,clI (X i).2)) (fun i=>txq (midB (X i))) (fun i=>txq (halB (X i))) _ _ _ _ _ _ rfl (fun i _=>⟨jaq _,jaq _⟩) (jbt hg (by simp)) li om oh ev (jf4 [z0] data (outS [z0] data 3 [z0].length) hg (by simp) rfl) (blist3c (F:=59) (fun j=>confB (evQ [z0] 3 data (midB (X 0)) 0 0 j) (sprQ [z0] data 3 1 X j) (Rat.divInt ((loL 3 data).getD j 0) 65535) (Rat.divInt ((hiL 3 data).getD j 0) 65535)) (bands2_130 (outS [z0] data 3 [z0].length) (fun i=>txq (halB (X i))) (fun j=>txq (evQ [z0] 3 data (midB (X 0)) 0 0 j)) _ _ _ _ _ _ _ _ ((fun j=>confB (evQ [z0] 3 data (midB (X 0)) 0 0 j) (sprQ [z0] data 3 1 X j) (Rat.divInt ((loL 3 data).getD j 0) 65535) (Rat.divInt ((hiL 3 data).getD j 0) 65535)) 0) rl.2.2.1 rl.2.2.2 (sp 0) (o1 0 (by decide)) (o2 0 (by decide)) (b2 0 (by decide))) (bands2_131 (outS [z0] data 3 [z0].length) (fun i=>txq (halB (X i))) (fun j=>txq (evQ [z0] 3 data (midB (X 0)) 0 0 j)) _ _ _ _ _ _ _ _ ((fun j=>confB (evQ [z0] 3 data (midB (X 0)) 0 0 j) (sprQ [z0] data 3 1 X j) (Rat.divInt ((loL 3 data).getD j 0) 65535) (Rat.divInt ((hiL 3 data).getD j 0) 65535)) 1) rl.2.2.1 rl.2.2.2 (sp 1) (o1 1 (by decide)) (o2 1 (by decide)) (b2 1 (by decide))) (bands2_132 (outS [z0] data 3 [z0].length) (fun i=>txq (halB (X i))) (fun j=>txq (evQ [z0] 3 data (midB (X 0)) 0 0 j)) _ _ _ _ _ _ _ _ ((fun j=>confB (evQ [z0] 3 data (midB (X 0)) 0 0 j) (sprQ [z0] data 3 1 X j) (Rat.divInt ((loL 3 data).getD j 0) 65535) (Rat.divInt ((hiL 3 data).getD j 0) 65535)) 2) rl.2.2.1 rl.2.2.2 (sp 2) (o1 2 (by decide)) (o2 2 (by decide)) (b2 2 (by decide))))
 ·exact jet [z0] data _ _ 4 X (fun i=>(clI (X i).1,clI (X i).2)) (fun i=>txq (midB (X i))) (fun i=>txq (halB (X i))) _ _ _ _ _ _ rfl (fun i _=>⟨jaq _,jaq _⟩) (jbt hg (by simp)) li om oh ev (jf3 [z0] data (outS [z0] data 4 [z0].length) hg (by simp) rfl) (blist4c (F:=59) (fun j=>confB (evQ [z0] 4 data (midB (X 0)) 0 0 j) (sprQ [z0] data 4 1 X j) (Rat.divInt ((loL 4 data).getD j 0) 65535) (Rat.divInt ((hiL 4 data).getD j 0) 65535)) (bands2_140 (outS [z0] data 4 [z0].length) (fun i=>txq (halB (X i))) (fun j=>txq (evQ [z0] 4 data (midB (X 0)) 0 0 j)) _ _ _ _ _ _ _ _ ((fun j=>confB (evQ [z0] 4 data (midB (X 0)) 0 0 j) (sprQ [z0] data 4 1 X j) (Rat.divInt ((loL 4 data).getD j 0) 65535) (Rat.divInt ((hiL 4 data).getD j 0) 65535)) 0) rl.2.2.1 rl.2.2.2 (sp 0) (o1 0 (by decide)) (o2 0 (by decide)) (b2 0 (by decide))) (bands2_141 (outS [z0] data 4 [z0].length) (fun i=>txq (halB (X i))) (fun j=>txq (evQ [z0] 4 data (midB (X 0)) 0 0 j)) _ _ _ _ _ _ _ _ ((fun j=>confB (evQ [z0] 4 data (midB (X 0)) 0 0 j) (sprQ [z0] data 4 1 X j) (Rat.divInt ((loL 4 data).getD j 0) 65535) (Rat.divInt ((hiL 4 data).getD j 0) 65535)) 1) rl.2.2.1 rl.2.2.2 (sp 1) (o1 1 (by decide)) (o2 1 (by decide)) (b2 1 (by decide))) (bands2_142 (outS [z0] data 4 [z0].length) (fun i=>txq (halB (X i))) (fun j=>txq (evQ [z0] 4 data (midB (X 0)) 0 0 j)) _ _ _ _ _ _ _ _ ((fun j=>confB (evQ [z0] 4 data (midB (X 0)) 0 0 j) (sprQ [z0] data 4 1 X j) (Rat.divInt ((loL 4 data).getD j 0) 65535) (Rat.divInt ((hiL 4 data).getD j 0) 65535)) 2) rl.2.2.1 rl.2.2.2 (sp 2) (o1 2 (by decide)) (o2 2 (by decide)) (b2 2 (by decide))) (bands2_143 (outS [z0] data 4 [z0].length) (fun i=>txq (halB (X i))) (fun j=>txq (evQ [z0] 4 data (midB (X 0)) 0 0 j)) _ _ _ _ _ _ _ _ ((fun j=>confB (evQ [z0] 4 data (midB (X 0)) 0 0 j) (sprQ [z0] data 4 1 X j) (Rat.divInt ((loL 4 data).getD j 0) 65535) (Rat.divInt ((hiL 4 data).getD j 0) 65535)) 3) rl.2.2.1 rl.2.2.2 (sp 3) (o1 3 (by decide)) (o2 3 (by decide)) (b2 3 (by decide))))
theorem bandq2 {z0 z1 out:Int}{data:List Int}(hg:jaj [z0,z1] out data=true)(X:Nat→Int×Int)(hX:∀ i,i<2→vb (X i).1 (X i).2=true) :
  Cl 29 [gridD [z0,z1] out data,slB X 2] (.tup [slB (fun j=>confB (evQ [z0,z1] out data (midB (X 0)) (midB (X 1)) 0 j) (sprQ [z0,z1] data out 2 X j) (Rat.divInt ((loL out data).getD j 0) 65535) (Rat.divInt ((hiL out data).getD j 0) 65535)) out.toNat,.int .i64 0]):=by
 have og:=jap hg
 have so:=jbb (out:=out) og.2.2.2 og.2.1 2 (jiD _)
 have rl:=jgO hg
 have li:=blist2a (F:=56) (fun i=>(clI (X i).1,clI (X i).2)) (jhc X (clI (X 0).1,clI (X 0).2) (jcM (hX 0 (by decide)))) (jhb X (clI (X 1).1,clI (X 1).2) (jcM (hX 1 (by decide))))
 have fm0:=(jd5 (X 0)).mono (show 14≤40 by decide)
 have fm1:=(jd5 (X 1)).mono (show 14≤40 by decide)
 have om:∀ i,i<2→Cl 58 [.int .i64 (clI (X i).1+clI (X i).2),.int .i64 2000000000000] (frT (midB (X i))):=fun i _=>jbo (by have:=jaq (X i).1;have:=jaq (X i).2;omega) (by decide)
 have oh:∀ i,i<2→Cl 58 [.int .i64 (clI (X i).2-clI (X i).1),.int .i64 2000000000000] (frT (halB (X i))):=fun i _=>jbo (by have:=jaq (X i).1;have:=jaq (X i).2;omega) (by decide)
 have ev:=evalq2 hg fm0 fm1
 have b2:∀ j,j<out.toNat→Cl 61 [frT (evQ [z0,z1] out data (midB (X 0)) (midB (X 1)) 0 j),frT (sprQ [z0,z1] data out 2 X j),frT (Rat.divInt ((loL out data).getD j 0) 65535),frT (Rat.divInt ((hiL out data).getD j 0) 65535)] (.tup [.agg [.int .i64 ((fun j=>confB (evQ [z0,z1] out data (midB (X 0)) (midB (X 1)) 0 j) (sprQ [z0,z1] data out 2 X j) (Rat.divInt ((loL out data).getD j 0) 65535) (Rat.divInt ((hiL out data).getD j 0) 65535)) j).1,.int .i64 ((fun j=>confB (evQ [z0,z1] out data (midB (X 0)) (midB (X 1)) 0 j) (sprQ [z0,z1] data out 2 X j) (Rat.divInt ((loL out data).getD j 0) 65535) (Rat.divInt ((hiL out data).getD j 0) 65535)) j).2],.int .i64 0]):=fun j hj=>by
  have rb:=jbl hg hj
  have ei:=ev_in2 (x0:=midB (X 0)) (x1:=midB (X 1)) hg hj
  have sp:=spr_q2 (so j) (H:=fun i=>halB (X i)) (fun i _=>jd6 (X i))
  have sb:=jgK (P:=fun i=>(((outS [z0,z1] data out [z0,z1].length j).getD i 0:Int):Rat)*halB (X i)) (n:=1) (fun i hi=>jed (so j) (hX i (by omega))) 1 (jiD _)
  have n3:(((1+1:Nat):Int):Rat)≤3:=by decide +kernel
  refine conf_q (fq_ev2 hg fm0 fm1 j) sp.2 (jcI rb.1) (jcI rb.2.1) ?_ ⟨?_,ei.1⟩ ⟨ei.2,?_⟩
  ·show 0≤smF _ _/65535∧smF _ _/65535≤50000
   constructor<;>grind
  ·rw[divF]
   have:(0:Rat)≤(((loL out data).getD j 0:Int):Rat):=by exact_mod_cast rb.1.1
   grind
  ·rw[divF]
   have:(((hiL out data).getD j 0:Int):Rat)≤((65535:Int):Rat):=Rat.intCast_le_intCast.2 rb.2.1.2
   rw[show ((65535:Int):Rat)=65535 from rfl] at this
   grind
 have o1:∀ j,j<out.toNat→Cl 58 [.int .i64 ((loL out data).getD j 0),.int .i64 65535] (frT (Rat.divInt ((loL out data).getD j 0) 65535)):=fun j hj=>jbo (by have:=jbl hg hj;omega) (by decide)
 have o2:∀ j,j<out.toNat→Cl 58 [.int .i64 ((hiL out data).getD j 0),.int .i64 65535] (frT (Rat.divInt ((hiL out data).getD j 0) 65535)):=fun j hj=>jbo (by have:=jbl hg hj;omega) (by decide)
 have sp:∀ j,Cl 60 [.ints .i64 (outS [z0,z1] data out [z0,z1].length j),slQ (fun i=>txq (halB (X i))) 2] (.tup [frT (sprQ [z0,z1] data out 2 X j),.int .i64 0]):=fun j=>(spr_q2 (so j) (H:=fun i=>halB (X i)) (fun i _=>jd6 (X i))).1
 have h4:out=1∨out=2∨out=3∨out=4:=by omega
 rcases h4 with e|e|e|e<;>subst e
 ·exact jdD [z0,z1] data _ _ 1 X (fun i=>(clI (X i).1,clI (X i).2)) (fun i=>txq (midB (X i))) (fun i=>txq (halB (X i))) _ _ _ _ _ _ rfl (fun i _=>⟨jaq _,jaq _⟩) (jbt hg (by simp)) li om oh ev (jde [z0,z1] data (outS [z0,z1] data 1 [z0,z1].length) hg (by simp) rfl) (blist1c (F:=59) (fun j=>confB (evQ [z0,z1] 1 data (midB (X 0)) (midB (X 1)) 0 j) (sprQ [z0,z1] data 1 2 X j) (Rat.divInt ((loL 1 data).getD j 0) 65535) (Rat.divInt ((hiL 1 data).getD j 0) 65535)) (jfR (outS [z0,z1] data 1 [z0,z1].length) (fun i=>txq (halB (X i))) (fun j=>txq (evQ [z0,z1] 1 data (midB (X 0)) (midB (X 1)) 0 j)) _ _ _ _ _ _ _ _ ((fun j=>confB (evQ [z0,z1] 1 data (midB (X 0)) (midB (X 1)) 0 j) (sprQ [z0,z1] data 1 2 X j) (Rat.divInt ((loL 1 data).getD j 0) 65535) (Rat.divInt ((hiL 1 data).getD j 0) 65535)) 0) rl.2.2.1 rl.2.2.2 (sp 0) (o1 0 (by decide)) (o2 0 (by decide)) (b2 0 (by decide))))
 ·exact jdD [z0,z1] data _ _ 2 X (fun i=>(clI (X i).1,clI (X i).2)) (fun i=>txq (midB (X i))) (fun i=>txq (halB (X i))) _ _ _ _ _ _ rfl (fun i _=>⟨jaq _,jaq _⟩) (jbt hg (by simp)) li om oh ev (jf5 [z0,z1] data (outS [z0,z1] data 2 [z0,z1].length) hg (by simp) rfl) (blist2c (F:=59) (fun j=>confB (evQ [z0,z1] 2 data (midB (X 0)) (midB (X 1)) 0 j) (sprQ [z0,z1] data 2 2 X j) (Rat.divInt ((loL 2 data).getD j 0) 65535) (Rat.divInt ((hiL 2 data).getD j 0) 65535)) (bands2_220 (outS [z0,z1] data 2 [z0,z1].length) (fun i=>txq (halB (X i))) (fun j=>txq (evQ [z0,z1] 2 data (midB (X 0)) (midB (X 1)) 0 j)) _ _ _ _ _ _ _ _ ((fun j=>confB (evQ [z0,z1] 2 data (midB (X 0)) (midB (X 1)) 0 j) (sprQ [z0,z1] data 2 2 X j) (Rat.divInt ((loL 2 data).getD j 0) 65535) (Rat.divInt ((hiL 2 data).getD j 0) 65535)) 0) rl.2.2.1 rl.2.2.2 (sp 0) (o1 0 (by decide)) (o2 0 (by decide)) (b2 0 (by decide))) (bands2_221 (outS [z0,z1] data 2 [z0,z1].length) (fun i=>txq (halB (X i))) (fun j=>txq (evQ [z0,z1] 2 data (midB (X 0)) (midB (X 1)) 0 j)) _ _ _ _ _ _ _ _ ((fun j=>confB (evQ [z0,z1] 2 data (midB (X 0)) (midB (X 1)) 0 j) (sprQ [z0,z1] data 2 2 X j) (Rat.divInt ((loL 2 data).getD j 0) 65535) (Rat.divInt ((hiL 2 data).getD j 0) 65535)) 1) rl.2.2.1 rl.2.2.2 (sp 1) (o1 1 (by decide)) (o2 1 (by decide)) (b2 1 (by decide))))
 ·exact jdD [z0,z1] data _ _ 3 X (fun i=>(clI (X i).1,clI (X i).2)) (fun i=>txq (midB (X i))) (fun i=>txq (halB (X i))) _ _ _ _ _ _ rfl (fun i _=>⟨jaq _,jaq _⟩) (jbt hg (by simp)) li om oh ev (jf4 [z0,z1] data (outS [z0,z1] data 3 [z0,z1].length) hg (by simp) rfl) (blist3c (F:=59) (fun j=>confB (evQ [z0,z1] 3 data (midB (X 0)) (midB (X 1)) 0 j) (sprQ [z0,z1] data 3 2 X j) (Rat.divInt ((loL 3 data).getD j 0) 65535) (Rat.divInt ((hiL 3 data).getD j 0) 65535)) (bands2_230 (outS [z0,z1] data 3 [z0,z1].length) (fun i=>txq (halB (X i))) (fun j=>txq (evQ [z0,z1] 3 data (midB (X 0)) (midB (X 1)) 0 j)) _ _ _ _ _ _ _ _ ((fun j=>confB (evQ [z0,z1] 3 data (midB (X 0)) (midB (X 1)) 0 j) (sprQ [z0,z1] data 3 2 X j) (Rat.divInt ((loL 3 data).getD j 0) 65535) (Rat.divInt ((hiL 3 data).getD j 0) 65535)) 0) rl.2.2.1 rl.2.2.2 (sp 0) (o1 0 (by decide)) (o2 0 (by decide)) (b2 0 (by decide))) (bands2_231 (outS [z0,z1] data 3 [z0,z1].length) (fun i=>txq (halB (X i))) (fun j=>txq (evQ [z0,z1] 3 data (midB (X 0)) (midB (X 1)) 0 j)) _ _ _ _ _ _ _ _ ((fun j=>confB (evQ [z0,z1] 3 data (midB (X 0)) (midB (X 1)) 0 j) (sprQ [z0,z1] data 3 2 X j) (Rat.divInt ((loL 3 data).getD j 0) 65535) (Rat.divInt ((hiL 3 data).getD j 0) 65535)) 1) rl.2.2.1 rl.2.2.2 (sp 1) (o1 1 (by decide)) (o2 1 (by decide)) (b2 1 (by decide))) (bands2_232 (outS [z0,z1] data 3 [z0,z1].length) (fun i=>txq (halB (X i))) (fun j=>txq (evQ [z0,z1] 3 data (midB (X 0)) (midB (X 1)) 0 j)) _ _ _ _ _ _ _ _ ((fun j=>confB (evQ [z0,z1] 3 data (midB (X 0)) (midB (X 1)) 0 j) (sprQ [z0,z1] data 3 2 X j) (Rat.divInt ((loL 3 data).getD j 0) 65535) (Rat.divInt ((hiL 3 data).getD j 0) 65535)) 2) rl.2.2.1 rl.2.2.2 (sp 2) (o1 2 (by decide)) (o2 2 (by decide)) (b2 2 (by decide))))
 ·exact jdD [z0,z1] data _ _ 4 X (fun i=>(clI (X i).1,clI (X i).2)) (fun i=>txq (midB (X i))) (fun i=>txq (halB (X i))) _ _ _ _ _ _ rfl (fun i _=>⟨jaq _,jaq _⟩) (jbt hg (by simp)) li om oh ev (jf3 [z0,z1] data (outS [z0,z1] data 4 [z0,z1].length) hg (by simp) rfl) (blist4c (F:=59) (fun j=>confB (evQ [z0,z1] 4 data (midB (X 0)) (midB (X 1)) 0 j) (sprQ [z0,z1] data 4 2 X j) (Rat.divInt ((loL 4 data).getD j 0) 65535) (Rat.divInt ((hiL 4 data).getD j 0) 65535)) (bands2_240 (outS [z0,z1] data 4 [z0,z1].length) (fun i=>txq (halB (X i))) (fun j=>txq (evQ [z0,z1] 4 data (midB (X 0)) (midB (X 1)) 0 j)) _ _ _ _ _ _ _ _ ((fun j=>confB (evQ [z0,z1] 4 data (midB (X 0)) (midB (X 1)) 0 j) (sprQ [z0,z1] data 4 2 X j) (Rat.divInt ((loL 4 data).getD j 0) 65535) (Rat.divInt ((hiL 4 data).getD j 0) 65535)) 0) rl.2.2.1 rl.2.2.2 (sp 0) (o1 0 (by decide)) (o2 0 (by decide)) (b2 0 (by decide))) (bands2_241 (outS [z0,z1] data 4 [z0,z1].length) (fun i=>txq (halB (X i))) (fun j=>txq (evQ [z0,z1] 4 data (midB (X 0)) (midB (X 1)) 0 j)) _ _ _ _ _ _ _ _ ((fun j=>confB (evQ [z0,z1] 4 data (midB (X 0)) (midB (X 1)) 0 j) (sprQ [z0,z1] data 4 2 X j) (Rat.divInt ((loL 4 data).getD j 0) 65535) (Rat.divInt ((hiL 4 data).getD j 0) 65535)) 1) rl.2.2.1 rl.2.2.2 (sp 1) (o1 1 (by decide)) (o2 1 (by decide)) (b2 1 (by decide))) (bands2_242 (outS [z0,z1] data 4 [z0,z1].length) (fun i=>txq (halB (X i))) (fun j=>txq (evQ [z0,z1] 4 data (midB (X 0)) (midB (X 1)) 0 j)) _ _ _ _ _ _ _ _ ((fun j=>confB (evQ [z0,z1] 4 data (midB (X 0)) (midB (X 1)) 0 j) (sprQ [z0,z1] data 4 2 X j) (Rat.divInt ((loL 4 data).getD j 0) 65535) (Rat.divInt ((hiL 4 data).getD j 0) 65535)) 2) rl.2.2.1 rl.2.2.2 (sp 2) (o1 2 (by decide)) (o2 2 (by decide)) (b2 2 (by decide))) (bands2_243 (outS [z0,z1] data 4 [z0,z1].length) (fun i=>txq (halB (X i))) (fun j=>txq (evQ [z0,z1] 4 data (midB (X 0)) (midB (X 1)) 0 j)) _ _ _ _ _ _ _ _ ((fun j=>confB (evQ [z0,z1] 4 data (midB (X 0)) (midB (X 1)) 0 j) (sprQ [z0,z1] data 4 2 X j) (Rat.divInt ((loL 4 data).getD j 0) 65535) (Rat.divInt ((hiL 4 data).getD j 0) 65535)) 3) rl.2.2.1 rl.2.2.2 (sp 3) (o1 3 (by decide)) (o2 3 (by decide)) (b2 3 (by decide))))
theorem bandq3 {z0 z1 z2 out:Int}{data:List Int}(hg:jaj [z0,z1,z2] out data=true)(X:Nat→Int×Int)(hX:∀ i,i<3→vb (X i).1 (X i).2=true) :
  Cl 29 [gridD [z0,z1,z2] out data,slB X 3] (.tup [slB (fun j=>confB (evQ [z0,z1,z2] out data (midB (X 0)) (midB (X 1)) (midB (X 2)) j) (sprQ [z0,z1,z2] data out 3 X j) (Rat.divInt ((loL out data).getD j 0) 65535) (Rat.divInt ((hiL out data).getD j 0) 65535)) out.toNat,.int .i64 0]):=by
 have og:=jap hg
 have so:=jbb (out:=out) og.2.2.2 og.2.1 3 (jiD _)
 have rl:=jgO hg
 have li:=blist3a (F:=56) (fun i=>(clI (X i).1,clI (X i).2)) (bands1_30 X (clI (X 0).1,clI (X 0).2) (jcM (hX 0 (by decide)))) (bands1_31 X (clI (X 1).1,clI (X 1).2) (jcM (hX 1 (by decide)))) (bands1_32 X (clI (X 2).1,clI (X 2).2) (jcM (hX 2 (by decide))))
 have fm0:=(jd5 (X 0)).mono (show 14≤40 by decide)
 have fm1:=(jd5 (X 1)).mono (show 14≤40 by decide)
 have fm2:=(jd5 (X 2)).mono (show 14≤40 by decide)
 have om:∀ i,i<3→Cl 58 [.int .i64 (clI (X i).1+clI (X i).2),.int .i64 2000000000000] (frT (midB (X i))):=fun i _=>jbo (by have:=jaq (X i).1;have:=jaq (X i).2;omega) (by decide)
 have oh:∀ i,i<3→Cl 58 [.int .i64 (clI (X i).2-clI (X i).1),.int .i64 2000000000000] (frT (halB (X i))):=fun i _=>jbo (by have:=jaq (X i).1;have:=jaq (X i).2;omega) (by decide)
 have ev:=evalq3 hg fm0 fm1 fm2
 have b2:∀ j,j<out.toNat→Cl 61 [frT (evQ [z0,z1,z2] out data (midB (X 0)) (midB (X 1)) (midB (X 2)) j),frT (sprQ [z0,z1,z2] data out 3 X j),frT (Rat.divInt ((loL out data).getD j 0) 65535),frT (Rat.divInt ((hiL out data).getD j 0) 65535)] (.tup [.agg [.int .i64 ((fun j=>confB (evQ [z0,z1,z2] out data (midB (X 0)) (midB (X 1)) (midB (X 2)) j) (sprQ [z0,z1,z2] data out 3 X j) (Rat.divInt ((loL out data).getD j 0) 65535) (Rat.divInt ((hiL out data).getD j 0) 65535)) j).1,.int .i64 ((fun j=>confB (evQ [z0,z1,z2] out data (midB (X 0)) (midB (X 1)) (midB (X 2)) j) (sprQ [z0,z1,z2] data out 3 X j) (Rat.divInt ((loL out data).getD j 0) 65535) (Rat.divInt ((hiL out data).getD j 0) 65535)) j).2],.int .i64 0]):=fun j hj=>by
  have rb:=jbl hg hj
  have ei:=ev_in3 (x0:=midB (X 0)) (x1:=midB (X 1)) (x2:=midB (X 2)) hg hj
  have sp:=spr_q3 (so j) (H:=fun i=>halB (X i)) (fun i _=>jd6 (X i))
  have sb:=jgK (P:=fun i=>(((outS [z0,z1,z2] data out [z0,z1,z2].length j).getD i 0:Int):Rat)*halB (X i)) (n:=2) (fun i hi=>jed (so j) (hX i (by omega))) 2 (jiD _)
  have n3:(((2+1:Nat):Int):Rat)≤3:=by decide +kernel
  refine conf_q (fq_ev3 hg fm0 fm1 fm2 j) sp.2 (jcI rb.1) (jcI rb.2.1) ?_ ⟨?_,ei.1⟩ ⟨ei.2,?_⟩
  ·show 0≤smF _ _/65535∧smF _ _/65535≤50000
   constructor<;>grind
  ·rw[divF]
   have:(0:Rat)≤(((loL out data).getD j 0:Int):Rat):=by exact_mod_cast rb.1.1
   grind
  ·rw[divF]
   have:(((hiL out data).getD j 0:Int):Rat)≤((65535:Int):Rat):=Rat.intCast_le_intCast.2 rb.2.1.2
   rw[show ((65535:Int):Rat)=65535 from rfl] at this
   grind
 have o1:∀ j,j<out.toNat→Cl 58 [.int .i64 ((loL out data).getD j 0),.int .i64 65535] (frT (Rat.divInt ((loL out data).getD j 0) 65535)):=fun j hj=>jbo (by have:=jbl hg hj;omega) (by decide)
 have o2:∀ j,j<out.toNat→Cl 58 [.int .i64 ((hiL out data).getD j 0),.int .i64 65535] (frT (Rat.divInt ((hiL out data).getD j 0) 65535)):=fun j hj=>jbo (by have:=jbl hg hj;omega) (by decide)
 have sp:∀ j,Cl 60 [.ints .i64 (outS [z0,z1,z2] data out [z0,z1,z2].length j),slQ (fun i=>txq (halB (X i))) 3] (.tup [frT (sprQ [z0,z1,z2] data out 3 X j),.int .i64 0]):=fun j=>(spr_q3 (so j) (H:=fun i=>halB (X i)) (fun i _=>jd6 (X i))).1
 have h4:out=1∨out=2∨out=3∨out=4:=by omega
 rcases h4 with e|e|e|e<;>subst e
 ·exact jes [z0,z1,z2] data _ _ 1 X (fun i=>(clI (X i).1,clI (X i).2)) (fun i=>txq (midB (X i))) (fun i=>txq (halB (X i))) _ _ _ _ _ _ rfl (fun i _=>⟨jaq _,jaq _⟩) (jbt hg (by simp)) li om oh ev (jde [z0,z1,z2] data (outS [z0,z1,z2] data 1 [z0,z1,z2].length) hg (by simp) rfl) (blist1c (F:=59) (fun j=>confB (evQ [z0,z1,z2] 1 data (midB (X 0)) (midB (X 1)) (midB (X 2)) j) (sprQ [z0,z1,z2] data 1 3 X j) (Rat.divInt ((loL 1 data).getD j 0) 65535) (Rat.divInt ((hiL 1 data).getD j 0) 65535)) (bands2_310 (outS [z0,z1,z2] data 1 [z0,z1,z2].length) (fun i=>txq (halB (X i))) (fun j=>txq (evQ [z0,z1,z2] 1 data (midB (X 0)) (midB (X 1)) (midB (X 2)) j)) _ _ _ _ _ _ _ _ ((fun j=>confB (evQ [z0,z1,z2] 1 data (midB (X 0)) (midB (X 1)) (midB (X 2)) j) (sprQ [z0,z1,z2] data 1 3 X j) (Rat.divInt ((loL 1 data).getD j 0) 65535) (Rat.divInt ((hiL 1 data).getD j 0) 65535)) 0) rl.2.2.1 rl.2.2.2 (sp 0) (o1 0 (by decide)) (o2 0 (by decide)) (b2 0 (by decide))))
 ·exact jes [z0,z1,z2] data _ _ 2 X (fun i=>(clI (X i).1,clI (X i).2)) (fun i=>txq (midB (X i))) (fun i=>txq (halB (X i))) _ _ _ _ _ _ rfl (fun i _=>⟨jaq _,jaq _⟩) (jbt hg (by simp)) li om oh ev (jf5 [z0,z1,z2] data (outS [z0,z1,z2] data 2 [z0,z1,z2].length) hg (by simp) rfl) (blist2c (F:=59) (fun j=>confB (evQ [z0,z1,z2] 2 data (midB (X 0)) (midB (X 1)) (midB (X 2)) j) (sprQ [z0,z1,z2] data 2 3 X j) (Rat.divInt ((loL 2 data).getD j 0) 65535) (Rat.divInt ((hiL 2 data).getD j 0) 65535)) (bands2_320 (outS [z0,z1,z2] data 2 [z0,z1,z2].length) (fun i=>txq (halB (X i))) (fun j=>txq (evQ [z0,z1,z2] 2 data (midB (X 0)) (midB (X 1)) (midB (X 2)) j)) _ _ _ _ _ _ _ _ ((fun j=>confB (evQ [z0,z1,z2] 2 data (midB (X 0)) (midB (X 1)) (midB (X 2)) j) (sprQ [z0,z1,z2] data 2 3 X j) (Rat.divInt ((loL 2 data).getD j 0) 65535) (Rat.divInt ((hiL 2 data).getD j 0) 65535)) 0) rl.2.2.1 rl.2.2.2 (sp 0) (o1 0 (by decide)) (o2 0 (by decide)) (b2 0 (by decide))) (bands2_321 (outS [z0,z1,z2] data 2 [z0,z1,z2].length) (fun i=>txq (halB (X i))) (fun j=>txq (evQ [z0,z1,z2] 2 data (midB (X 0)) (midB (X 1)) (midB (X 2)) j)) _ _ _ _ _ _ _ _ ((fun j=>confB (evQ [z0,z1,z2] 2 data (midB (X 0)) (midB (X 1)) (midB (X 2)) j) (sprQ [z0,z1,z2] data 2 3 X j) (Rat.divInt ((loL 2 data).getD j 0) 65535) (Rat.divInt ((hiL 2 data).getD j 0) 65535)) 1) rl.2.2.1 rl.2.2.2 (sp 1) (o1 1 (by decide)) (o2 1 (by decide)) (b2 1 (by decide))))
 ·exact jes [z0,z1,z2] data _ _ 3 X (fun i=>(clI (X i).1,clI (X i).2)) (fun i=>txq (midB (X i))) (fun i=>txq (halB (X i))) _ _ _ _ _ _ rfl (fun i _=>⟨jaq _,jaq _⟩) (jbt hg (by simp)) li om oh ev (jf4 [z0,z1,z2] data (outS [z0,z1,z2] data 3 [z0,z1,z2].length) hg (by simp) rfl) (blist3c (F:=59) (fun j=>confB (evQ [z0,z1,z2] 3 data (midB (X 0)) (midB (X 1)) (midB (X 2)) j) (sprQ [z0,z1,z2] data 3 3 X j) (Rat.divInt ((loL 3 data).getD j 0) 65535) (Rat.divInt ((hiL 3 data).getD j 0) 65535)) (bands2_330 (outS [z0,z1,z2] data 3 [z0,z1,z2].length) (fun i=>txq (halB (X i))) (fun j=>txq (evQ [z0,z1,z2] 3 data (midB (X 0)) (midB (X 1)) (midB (X 2)) j)) _ _ _ _ _ _ _ _ ((fun j=>confB (evQ [z0,z1,z2] 3 data (midB (X 0)) (midB (X 1)) (midB (X 2)) j) (sprQ [z0,z1,z2] data 3 3 X j) (Rat.divInt ((loL 3 data).getD j 0) 65535) (Rat.divInt ((hiL 3 data).getD j 0) 65535)) 0) rl.2.2.1 rl.2.2.2 (sp 0) (o1 0 (by decide)) (o2 0 (by decide)) (b2 0 (by decide))) (bands2_331 (outS [z0,z1,z2] data 3 [z0,z1,z2].length) (fun i=>txq (halB (X i))) (fun j=>txq (evQ [z0,z1,z2] 3 data (midB (X 0)) (midB (X 1)) (midB (X 2)) j)) _ _ _ _ _ _ _ _ ((fun j=>confB (evQ [z0,z1,z2] 3 data (midB (X 0)) (midB (X 1)) (midB (X 2)) j) (sprQ [z0,z1,z2] data 3 3 X j) (Rat.divInt ((loL 3 data).getD j 0) 65535) (Rat.divInt ((hiL 3 data).getD j 0) 65535)) 1) rl.2.2.1 rl.2.2.2 (sp 1) (o1 1 (by decide)) (o2 1 (by decide)) (b2 1 (by decide))) (bands2_332 (outS [z0,z1,z2] data 3 [z0,z1,z2].length) (fun i=>txq (halB (X i))) (fun j=>txq (evQ [z0,z1,z2] 3 data (midB (X 0)) (midB (X 1)) (midB (X 2)) j)) _ _ _ _ _ _ _ _ ((fun j=>confB (evQ [z0,z1,z2] 3 data (midB (X 0)) (midB (X 1)) (midB (X 2)) j) (sprQ [z0,z1,z2] data 3 3 X j) (Rat.divInt ((loL 3 data).getD j 0) 65535) (Rat.divInt ((hiL 3 data).getD j 0) 65535)) 2) rl.2.2.1 rl.2.2.2 (sp 2) (o1 2 (by decide)) (o2 2 (by decide)) (b2 2 (by decide))))
 ·exact jes [z0,z1,z2] data _ _ 4 X (fun i=>(clI (X i).1,clI (X i).2)) (fun i=>txq (midB (X i))) (fun i=>txq (halB (X i))) _ _ _ _ _ _ rfl (fun i _=>⟨jaq _,jaq _⟩) (jbt hg (by simp)) li om oh ev (jf3 [z0,z1,z2] data (outS [z0,z1,z2] data 4 [z0,z1,z2].length) hg (by simp) rfl) (blist4c (F:=59) (fun j=>confB (evQ [z0,z1,z2] 4 data (midB (X 0)) (midB (X 1)) (midB (X 2)) j) (sprQ [z0,z1,z2] data 4 3 X j) (Rat.divInt ((loL 4 data).getD j 0) 65535) (Rat.divInt ((hiL 4 data).getD j 0) 65535)) (bands2_340 (outS [z0,z1,z2] data 4 [z0,z1,z2].length) (fun i=>txq (halB (X i))) (fun j=>txq (evQ [z0,z1,z2] 4 data (midB (X 0)) (midB (X 1)) (midB (X 2)) j)) _ _ _ _ _ _ _ _ ((fun j=>confB (evQ [z0,z1,z2] 4 data (midB (X 0)) (midB (X 1)) (midB (X 2)) j) (sprQ [z0,z1,z2] data 4 3 X j) (Rat.divInt ((loL 4 data).getD j 0) 65535) (Rat.divInt ((hiL 4 data).getD j 0) 65535)) 0) rl.2.2.1 rl.2.2.2 (sp 0) (o1 0 (by decide)) (o2 0 (by decide)) (b2 0 (by decide))) (bands2_341 (outS [z0,z1,z2] data 4 [z0,z1,z2].length) (fun i=>txq (halB (X i))) (fun j=>txq (evQ [z0,z1,z2] 4 data (midB (X 0)) (midB (X 1)) (midB (X 2)) j)) _ _ _ _ _ _ _ _ ((fun j=>confB (evQ [z0,z1,z2] 4 data (midB (X 0)) (midB (X 1)) (midB (X 2)) j) (sprQ [z0,z1,z2] data 4 3 X j) (Rat.divInt ((loL 4 data).getD j 0) 65535) (Rat.divInt ((hiL 4 data).getD j 0) 65535)) 1) rl.2.2.1 rl.2.2.2 (sp 1) (o1 1 (by decide)) (o2 1 (by decide)) (b2 1 (by decide))) (bands2_342 (outS [z0,z1,z2] data 4 [z0,z1,z2].length) (fun i=>txq (halB (X i))) (fun j=>txq (evQ [z0,z1,z2] 4 data (midB (X 0)) (midB (X 1)) (midB (X 2)) j)) _ _ _ _ _ _ _ _ ((fun j=>confB (evQ [z0,z1,z2] 4 data (midB (X 0)) (midB (X 1)) (midB (X 2)) j) (sprQ [z0,z1,z2] data 4 3 X j) (Rat.divInt ((loL 4 data).getD j 0) 65535) (Rat.divInt ((hiL 4 data).getD j 0) 65535)) 2) rl.2.2.1 rl.2.2.2 (sp 2) (o1 2 (by decide)) (o2 2 (by decide)) (b2 2 (by decide))) (bands2_343 (outS [z0,z1,z2] data 4 [z0,z1,z2].length) (fun i=>txq (halB (X i))) (fun j=>txq (evQ [z0,z1,z2] 4 data (midB (X 0)) (midB (X 1)) (midB (X 2)) j)) _ _ _ _ _ _ _ _ ((fun j=>confB (evQ [z0,z1,z2] 4 data (midB (X 0)) (midB (X 1)) (midB (X 2)) j) (sprQ [z0,z1,z2] data 4 3 X j) (Rat.divInt ((loL 4 data).getD j 0) 65535) (Rat.divInt ((hiL 4 data).getD j 0) 65535)) 3) rl.2.2.1 rl.2.2.2 (sp 3) (o1 3 (by decide)) (o2 3 (by decide)) (b2 3 (by decide))))
end Go.Proofs.YtgjgpdceghjajaaGreatDoor
end
section
namespace Go.Proofs.YtgjgpdceghjajaaGreatDoor
open Go Go.V Go.Nb
def spnB (a b:Nat→Int)(i:Nat):Int×Int:=(1000000000*min (a i) (b i),1000000000*max (a i) (b i))
def spw:Nat→D
 | 0 => .nil
 | k+1 => .bsl 37 0 (k+1) 2
def sph (a b:Nat→Int):Nat→Hp
 | 0=>[]
 | k+1=>[(37,.box (bce (spnB a b) (k+1)))]
theorem jig:type_of% @jiA∧type_of% @tn0∧type_of% @tn1∧type_of% @tn2∧type_of% @tn3∧type_of% @xt4:=⟨@jiA,@tn0,@tn1,@tn2,@tn3,@xt4⟩
theorem spans1_t (a b:Nat→Int)(ha:∀ i, -32768≤a i∧a i≤32767)(hb:∀ i, -32768≤b i∧b i≤32767):Cl 27 [.agg [.int .i16 (a 0),.int .i16 (b 0),.int .i16 (a 1),.int .i16 (b 1),.int .i16 (a 2),.int .i16 (b 2),.int .i16 (a 3),.int .i16 (b 3)],.int .i64 1] (slB (spnB a b) 1):=by
 refine V.en tbOk Tryz.func27 ?_
 refine V.r0 jig ?_
 refine jac 0 (fun k=>k≤1) (fun k=>1-k) (fun k=>[(9,.int .i64 k),(5,spw k)]) (fun k=>sph a b k) ?_ ?_ ?_
 ·exact V.wk
 ·exact jiv _
 intro k hk
 have hk4:k=0∨k=1:=by omega
 rcases hk4 with e|e
 all_goals subst e
 ·simp only[k0,spw,sph]
  have g1:=ha 0
  have g2:=hb 0
  refine V.r0 jig ?_
  refine⟨Pq2z,[],V.pok,?_⟩
  refine jab [(37,.bsl 37 0 1 2),(5,.bsl 37 0 1 2)] [(37,.box (bce (spnB a b) 1))] ?_ ?_
  ·exact V.d0 jig
  refine V.r0 jig ?_
  exact⟨1,by omega,by omega,V.wk⟩
 ·simp only[k1,spw,sph]
  refine V.r0 @jiA ?_
  exact Fin.of rfl
theorem spans2_t (a b:Nat→Int)(ha:∀ i, -32768≤a i∧a i≤32767)(hb:∀ i, -32768≤b i∧b i≤32767):Cl 27 [.agg [.int .i16 (a 0),.int .i16 (b 0),.int .i16 (a 1),.int .i16 (b 1),.int .i16 (a 2),.int .i16 (b 2),.int .i16 (a 3),.int .i16 (b 3)],.int .i64 2] (slB (spnB a b) 2):=by
 refine V.en tbOk Tryz.func27 ?_
 refine V.r0 jig ?_
 refine jac 0 (fun k=>k≤2) (fun k=>2-k) (fun k=>[(9,.int .i64 k),(5,spw k)]) (fun k=>sph a b k) ?_ ?_ ?_
 ·exact V.wk
 ·exact jiv _
 intro k hk
 have hk4:k=0∨k=1∨k=2:=by omega
 rcases hk4 with e|e|e
 all_goals subst e
 ·simp only[k0,spw,sph]
  have g1:=ha 0
  have g2:=hb 0
  refine V.r0 jig ?_
  refine⟨Pq2z,[],V.pok,?_⟩
  refine jab [(37,.bsl 37 0 1 2),(5,.bsl 37 0 1 2)] [(37,.box (bce (spnB a b) 1))] ?_ ?_
  ·exact V.d0 jig
  refine V.r0 jig ?_
  exact⟨1,by omega,by omega,V.wk⟩
 ·simp only[k1,spw,sph]
  have g1:=ha 1
  have g2:=hb 1
  refine V.r0 jig ?_
  refine⟨Pq2z,[],V.pok,?_⟩
  refine jab [(37,.bsl 37 0 2 2),(5,.bsl 37 0 2 2)] [(37,.box (bce (spnB a b) 2))] ?_ ?_
  ·exact V.d0 jig
  refine V.r0 jig ?_
  exact⟨2,by omega,by omega,V.wk⟩
 ·simp only[k2,spw,sph]
  refine V.r0 @jiA ?_
  exact Fin.of rfl
theorem spans3_t (a b:Nat→Int)(ha:∀ i, -32768≤a i∧a i≤32767)(hb:∀ i, -32768≤b i∧b i≤32767):Cl 27 [.agg [.int .i16 (a 0),.int .i16 (b 0),.int .i16 (a 1),.int .i16 (b 1),.int .i16 (a 2),.int .i16 (b 2),.int .i16 (a 3),.int .i16 (b 3)],.int .i64 3] (slB (spnB a b) 3):=by
 refine V.en tbOk Tryz.func27 ?_
 refine V.r0 jig ?_
 refine jac 0 (fun k=>k≤3) (fun k=>3-k) (fun k=>[(9,.int .i64 k),(5,spw k)]) (fun k=>sph a b k) ?_ ?_ ?_
 ·exact V.wk
 ·exact jiv _
 intro k hk
 have hk4:k=0∨k=1∨k=2∨k=3:=by omega
 rcases hk4 with e|e|e|e
 all_goals subst e
 ·simp only[k0,spw,sph]
  have g1:=ha 0
  have g2:=hb 0
  refine V.r0 jig ?_
  refine⟨Pq2z,[],V.pok,?_⟩
  refine jab [(37,.bsl 37 0 1 2),(5,.bsl 37 0 1 2)] [(37,.box (bce (spnB a b) 1))] ?_ ?_
  ·exact V.d0 jig
  refine V.r0 jig ?_
  exact⟨1,by omega,by omega,V.wk⟩
 ·simp only[k1,spw,sph]
  have g1:=ha 1
  have g2:=hb 1
  refine V.r0 jig ?_
  refine⟨Pq2z,[],V.pok,?_⟩
  refine jab [(37,.bsl 37 0 2 2),(5,.bsl 37 0 2 2)] [(37,.box (bce (spnB a b) 2))] ?_ ?_
  ·exact V.d0 jig
  refine V.r0 jig ?_
  exact⟨2,by omega,by omega,V.wk⟩
 ·simp only[k2,spw,sph]
  have g1:=ha 2
  have g2:=hb 2
  refine V.r0 jig ?_
  refine⟨Pq2z,[],V.pok,?_⟩
  refine jab [(37,.bsl 37 0 3 2),(5,.bsl 37 0 3 2)] [(37,.box (bce (spnB a b) 3))] ?_ ?_
  ·exact V.d0 jig
  refine V.r0 jig ?_
  exact⟨3,by omega,by omega,V.wk⟩
 ·simp only[k3,spw,sph]
  refine V.r0 @jiA ?_
  exact Fin.of rfl
theorem mul_sgn {k l d:Rat}(hk:0≤k)(hl:0≤l):0≤k*d*(l*d):=by
 have h1:=Rat.mul_nonneg hk hl
 have h2:0≤d*d:=by
  by_cases h:0≤d
  ·exact Rat.mul_nonneg h h
  ·have h3:0 ≤ -d:=by grind
   have h4:=Rat.mul_nonneg h3 h3
   grind
 have h3:=Rat.mul_nonneg h1 h2
 grind
theorem between {p q r k l:Rat}(hk:0≤k)(hl:0≤l)(h1:q-p=k*(r-p))(h2:r-q=l*(r-p)):0≤ordQ p q*ordQ q r:=by
 have h3:=mul_sgn (d:=r-p) hk hl
 rw[← h1,← h2] at h3
 unfold ordQ
 by_cases a:p<q
 ·by_cases b:q<r
  ·simp[a,b]
  ·by_cases c:q=r
   ·simp[c]
   ·exfalso
    have e1:0<q-p:=by grind
    have e2:0<q-r:=by grind
    have:=Rat.mul_pos e1 e2
    grind
 ·by_cases a2:p=q
  ·simp[a2]
  ·by_cases b:q<r
   ·exfalso
    have e1:0<p-q:=by grind
    have e2:0<r-q:=by grind
    have:=Rat.mul_pos e1 e2
    grind
   ·by_cases c:q=r
    ·simp[c]
    ·simp[a,a2,b,c]
theorem lof_c {n m:Int}(hn : -9223372036854775807≤n∧n≤9223372036854775807)(hm:1≤m∧m≤9223372036854775807):Cl 18 [.int .i64 n,.int .i64 m] (frT (Rat.divInt n m)):=by
 have c:=y_rof hn hm
 unfold frT at *
 generalize Rat.divInt n m=q at *
 refine V.en tbOk Tryz.func18 ?_
 (conv=>whnf)
 refine V.st ?_
 repeat ((try ((with_reducible refine .ext ?_);(conv=>whnf)));(with_reducible refine jaa (r:=?_) ?_ ?_);rotate_left;(focus (first|exact(c)));(conv=>whnf);refine V.st ?_)
 exact Fin.of rfl
theorem lfour_c:Cl 31 [] (gridD [2,2] 1 [0,13107,26214,65535]):=by
 refine V.en tbOk Tryz.func31 ?_
 refine V.r0 @jiA ?_
 exact Fin.of rfl
theorem jik:type_of% @jiA∧type_of% @tn0∧type_of% @tn1∧type_of% @tn2∧type_of% @tn3∧type_of% @xt4:=⟨@jiA,@tn0,@tn1,@tn2,@tn3,@xt4⟩
theorem eqf1 (Y:Nat→Tx):Cl 16 [V.sl2 1 [.str (Y 0).1,.str (Y 0).2],V.sl2 1 [.str (Y 0).1,.str (Y 0).2]] (.bool true):=by
 refine V.en tbOk Tryz.func16 ?_
 refine V.r0 @jiA ?_
 refine jac (0) (fun k=>k≤1) (fun k=>1-k) (fun k=>[(13,.int .i64 k)]) (fun k=>[]) ?_ ?_ ?_
 ·exact V.wk
 ·exact jiv _
 intro k hk
 have hk4:k=0∨k=1:=by omega
 rcases hk4 with e|e
 all_goals subst e
 ·simp only[k0]
  refine V.r0 jik ?_
  refine⟨Pq19z,[],V.pok,?_⟩
  refine jab [(24,.bool false)] [] ?_ ?_
  ·exact V.d0 (V.a4 jik @decide_true @Bool.and_self @Bool.not_true)
  refine V.r0 jik ?_
  exact⟨1,by omega,by omega,V.wk⟩
 ·simp only[k1]
  refine V.r0 @jiA ?_
  exact Fin.of rfl
theorem eqf3 (Y:Nat→Tx):Cl 16 [V.sl2 3 [.str (Y 0).1,.str (Y 0).2,.str (Y 1).1,.str (Y 1).2,.str (Y 2).1,.str (Y 2).2],V.sl2 3 [.str (Y 0).1,.str (Y 0).2,.str (Y 1).1,.str (Y 1).2,.str (Y 2).1,.str (Y 2).2]] (.bool true):=by
 refine V.en tbOk Tryz.func16 ?_
 refine V.r0 @jiA ?_
 refine jac (0) (fun k=>k≤3) (fun k=>3-k) (fun k=>[(13,.int .i64 k)]) (fun k=>[]) ?_ ?_ ?_
 ·exact V.wk
 ·exact jiv _
 intro k hk
 have hk4:k=0∨k=1∨k=2∨k=3:=by omega
 rcases hk4 with e|e|e|e
 all_goals subst e
 ·simp only[k0]
  refine V.r0 jik ?_
  refine⟨Pq19z,[],V.pok,?_⟩
  refine jab [(24,.bool false)] [] ?_ ?_
  ·exact V.d0 (V.a4 jik @decide_true @Bool.and_self @Bool.not_true)
  refine V.r0 jik ?_
  exact⟨1,by omega,by omega,V.wk⟩
 ·simp only[k1]
  refine V.r0 jik ?_
  refine⟨Pq19z,[],V.pok,?_⟩
  refine jab [(24,.bool false)] [] ?_ ?_
  ·exact V.d0 (V.a4 jik @decide_true @Bool.and_self @Bool.not_true)
  refine V.r0 jik ?_
  exact⟨2,by omega,by omega,V.wk⟩
 ·simp only[k2]
  refine V.r0 jik ?_
  refine⟨Pq19z,[],V.pok,?_⟩
  refine jab [(24,.bool false)] [] ?_ ?_
  ·exact V.d0 (V.a4 jik @decide_true @Bool.and_self @Bool.not_true)
  refine V.r0 jik ?_
  exact⟨3,by omega,by omega,V.wk⟩
 ·simp only[k3]
  refine V.r0 @jiA ?_
  exact Fin.of rfl
theorem eqb1 (Y:Nat→Int×Int):Cl 35 [V.sl2 1 [.int .i64 (Y 0).1,.int .i64 (Y 0).2],V.sl2 1 [.int .i64 (Y 0).1,.int .i64 (Y 0).2]] (.bool true):=by
 refine V.en tbOk Tryz.func35 ?_
 refine V.r0 @jiA ?_
 refine jac (0) (fun k=>k≤1) (fun k=>1-k) (fun k=>[(13,.int .i64 k)]) (fun k=>[]) ?_ ?_ ?_
 ·exact V.wk
 ·exact jiv _
 intro k hk
 have hk4:k=0∨k=1:=by omega
 rcases hk4 with e|e
 all_goals subst e
 ·simp only[k0]
  refine V.r0 jik ?_
  refine⟨Pq19z,[],V.pok,?_⟩
  refine jab [(24,.bool false)] [] ?_ ?_
  ·exact V.d0 (V.a4 jik @decide_true @Bool.and_self @Bool.not_true)
  refine V.r0 jik ?_
  exact⟨1,by omega,by omega,V.wk⟩
 ·simp only[k1]
  refine V.r0 @jiA ?_
  exact Fin.of rfl
theorem value_t (zs data:List Int)(out:Int)(n:Nat)(X:Nat→List D)(Y:Nat→Tx)(ev:Cl 15 [.agg [.ints .i64 zs,.int .i64 out,.ints .i64 data],.slf 2 n X] (.tup [V.sl2 1 [.str (Y 0).1,.str (Y 0).2],.int .i64 0])) :
  Cl 26 [.agg [.ints .i64 zs,.int .i64 out,.ints .i64 data],.agg [.str (Y 0).1,.str (Y 0).2],.slf 2 n X] (.bool true):=by
 have q:=eqf1 Y
 refine V.en tbOk Tryz.func26 ?_
 refine V.r2 @jiA ev q ?_
 exact Fin.of rfl
end Go.Proofs.YtgjgpdceghjajaaGreatDoor
end
section
namespace Go.Proofs.YtgjgpdceghjajaaGreatDoor
open Go Go.V Go.Nb Go.Gr
def cnP (out:Int)(ns:List Nat):Nat→Int
 | 0=>out
 | k+1=>cnP out ns k*(ns.getD k 1:Nat)
theorem cnP_bd {out:Int}{ns:List Nat}(ho:1≤out∧out≤4)(h2:∀ n∈ns,2≤n∧n≤9):∀ k,1≤cnP out ns k∧cnP out ns k≤4*9^k
 | 0=>by simp only[cnP];omega
 | k+1=>by
  have ih:=cnP_bd ho h2 k
  have hb:1≤ns.getD k 1∧ns.getD k 1≤9:=by
   rw[ji5]
   cases h:ns[k]? with
   | none=>simp
   | some n=>have:=h2 n (ji9 h);simp;omega
  simp only[cnP,Int.pow_succ]
  generalize ns.getD k 1=b at hb
  generalize (9:Int)^k=p at ih
  have h1:cnP out ns k*1≤cnP out ns k*(b:Int):=jiQ (by omega) (by omega)
  have h3:cnP out ns k*(b:Int)≤cnP out ns k*9:=jiQ (by omega) (by omega)
  omega
theorem rpow9 (k:Nat)(h:k≤4):(4:Int)*9^k≤26244:=by
 have:k=0∨k=1∨k=2∨k=3∨k=4:=by omega
 rcases this with rfl|rfl|rfl|rfl|rfl<;>decide
theorem jgD (Y:Nat→Tx):∀ n k,k<n→List.take 2 (List.drop (k*2) (wce Y n))=[.str (Y k).1,.str (Y k).2]
 | 0,k,h=>absurd h (Nat.not_lt_zero _)
 | n+1,k,h=>by
  have hl:∀ n,(wce Y n).length=n*2:=fun n=>by
   induction n with
   | zero=>rfl
   | succ n ih=>simp only[wce,jja,ih];simp;omega
  rw[wce]
  rcases jiJ k n with g|g
  ·have ih:=jgD Y n k g
   rw[List.drop_append_of_le_length (by rw[hl];omega),jjh (by rw[jjp,hl];omega),ih]
  ·have:k=n:=by omega
   subst this
   rw[List.drop_append,jjk (by rw[hl];omega),hl,Nat.sub_self]
   rfl
theorem jhu (sz:List Int):Cl 67 [.ints .i64 sz] (.fn 110 [] [.ref [.ints .i64 sz]]):=by
 refine V.en tbOk Tryz.func67 ?_
 refine V.r0 @jiA ?_
 exact Fin.of rfl
theorem jfZ (g:Nat→Int){o k:Nat}(h:k<o):((List.range o).map g).take (k+1)=((List.range o).map g).take k++[g k]:=by
 rw[jjr]
 congr 1
 simp[h]
theorem jio:type_of% @jiC∧type_of% @jiA∧type_of% @tn0∧type_of% @tn1∧type_of% @tn2∧type_of% @tn3∧type_of% @xt4:=⟨@jiC,@jiA,@tn0,@tn1,@tn2,@tn3,@xt4⟩
theorem zX45_1:type_of% @jiC∧type_of% @jiA:=⟨@jiC,@jiA⟩
theorem zX45_2:type_of% @jiC∧type_of% @List.drop_zero.{0} ∧ type_of% @List.take_succ_cons.{0} ∧ type_of% @List.take_zero.{0} ∧ type_of% @jiA∧type_of% @tn0∧type_of% @tn1∧type_of% @tn2∧type_of% @tn3∧type_of% @xt4:=⟨@jiC,@List.drop_zero.{0},@List.take_succ_cons.{0},@List.take_zero.{0},@jiA,@tn0,@tn1,@tn2,@tn3,@xt4⟩
theorem refine2_t (zs data:List Int)(out:Int)(ns:List Nat)(X Y:Nat→Nat→Tx)(W:Nat→Nat→Int)(hl:zs.length=2)(hn:ns.length=2)(h2:∀ n∈ns,2≤n∧n≤9)(ho:1≤out∧out≤4)(hc:cnP out ns 2≤4096)
  (gr:Cl 37 [.agg [.ints .i64 zs,.int .i64 out,.ints .i64 data]] (.int .i64 0))
  (ov:∀ m i,m<PR ns→i<2→Cl 58 [.int .i64 ((pad4 (ixl ns m)).getD i 0),.int .i64 ((nz ns).getD i 0-1)] (.agg [.str (X m i).1,.str (X m i).2]))
  (ev:∀ m,m<PR ns→Cl 15 [.agg [.ints .i64 zs,.int .i64 out,.ints .i64 data],V.sl2 2 [.str (X m 0).1,.str (X m 0).2,.str (X m 1).1,.str (X m 1).2]] (.tup [.slf 2 out.toNat (fun j=>List.take 2 (List.drop (j*2) (wce (Y m) out.toNat))),.int .i64 0]))
  (nr:∀ m j,m<PR ns→j<out.toNat→Cl 68 [.agg [.str (Y m j).1,.str (Y m j).2],.int .i64 65535] (.tup [.int .i64 (W m j),.int .i64 0])) :
  Cl 33 [.agg [.ints .i64 zs,.int .i64 out,.ints .i64 data],.ints .i64 (nz ns)] (.tup [.agg [.ints .i64 (nz ns),.int .i64 out,.ints .i64 (flat ns (fun m=>(List.range out.toNat).map (W m)) (PR ns))],.int .i64 0]):=by
 have hlen:(nz ns).length=ns.length:=by simp[nz]
 have hlz:(nz ns).length=2:=by rw[hlen,hn]
 have hli:((nz ns).length:Int)=2:=by rw[hlz];rfl
 have hz:((zs.length:Nat):Int)=2:=by rw[hl];rfl
 have h1:1≤ns.length∧ns.length≤4:=by omega
 have po:=jhu (nz ns)
 have cl:=clone_c (nz ns) (by omega)
 have hcb:=cnP_bd ho h2
 refine V.en tbOk Tryz.func33 ?_
 refine V.r1 jio gr ?_
 refine Cnd.split (CondB.mk (fun h=>absurd h (by rw[hl,hlz];simp)) (fun _=>?_))
 refine V.r0 jio ?_
 refine lp_go (ns.length) (fun k=>True) (fun k=>[(38,.int .i64 k),(7,.int .i64 (cnP out ns k))]) (fun k=>[]) V.wk ?_ ?_
 ·trivial
 intro k hk _
 have hck:=hcb k
 have hck1:=hcb (k+1)
 have hk9:(4:Int)*9^k≤26244:=rpow9 k (by omega)
 (conv=>whnf)
 refine V.st ?_
 refine V.br (fun h=>?_) (fun h=>?_)
 ·rw[hlen] at h
  simp only[decide_eq_true_eq] at h
  have hk1:k<ns.length:=by omega
  have hk91:(4:Int)*9^(k+1)≤26244:=rpow9 (k+1) (by omega)
  obtain⟨n,hnk⟩:∃ n,ns[k]? = some n:=⟨ns[k],ji8 hk1⟩
  have hn0:=h2 n (ji9 hnk)
  have en:(nz ns).getD k 0=n:=by simp[nz,ji5,hnk]
  have ec:cnP out ns (k+1)=cnP out ns k*(n:Int):=by simp[cnP,ji5,hnk]
  rw[ec] at hck1
  refine V.r0 (V.a2 jio @en) ?_
  refine Cnd.split (CondB.mk (fun h=>absurd h (by simp;omega)) (fun _=>?_))
  (conv=>whnf)
  (try simp only[jio,en,← ec])
  repeat ((first|refine V.s1 ?_);(try simp only[jio,en,← ec]))
  exact⟨k+1,⟨by omega,trivial⟩,by omega,V.wk⟩
 ·rw[hlen] at h
  simp only[decide_eq_false_iff_not] at h
  have hk1:k=2:=by omega
  subst hk1
  clear hck hck1
  refine V.r0 jio ?_
  refine Cnd.split (CondB.mk (fun h=>absurd h (by simp;omega)) (fun _=>?_))
  refine V.r0 jio ?_
  refine⟨(V.tk [0,2,3] (.ev (.cons 1 [3,2] (V.tk [4] (V.e1 5 [4,3,2] (V.e1 6 [] .done))) (.cons 5 [3,2,0] (V.e1 1 [3,2] (V.tk [4] (V.e1 6 [] .done))) .nil)))),[],V.pok,?_⟩
  refine jab [(10,.box 10 0)] [(10,.box [.ints .i64 (nz ns),.int .i64 out,.nil])] ?_ ?_
  ·exact V.d1 jio cl
  refine V.r1 jio po ?_
  refine⟨_,_,⟨Tryz.func110,rfl,rfl,jiu rfl⟩,?_⟩
  refine V.r0 @jiA ?_
  refine lp_go (ns.length) (fun k=>True) (fun k=>[(10,.int .i64 k)]) (fun k=>[(122,.arr .i64 (pad4 ((lastL ns).take k)))]) V.wk ?_ ?_
  ·trivial
  intro k hk _
  (conv=>whnf)
  refine V.st ?_
  refine V.br (fun h=>?_) (fun h=>?_)
  ·rw[hlen] at h
   simp only[decide_eq_true_eq] at h
   have hk1:k<ns.length:=by omega
   obtain⟨n,hnk⟩:∃ n,ns[k]? = some n:=⟨ns[k],ji8 hk1⟩
   have hn0:=h2 n (ji9 hnk)
   have en:(nz ns).getD k 0=n:=by simp[nz,ji5,hnk]
   have hll:(lastL ns)[k]? = some ((n:Int)-1):=by simp[lastL,hnk]
   have hp4:(pad4 ((lastL ns).take k)).length=4:=jaA (by simp[lastL];omega)
   have hps:=jgg hll (by simp[lastL];omega)
   refine V.r0 (V.a3 zX45_1 @en hps) ?_
   exact⟨k+1,⟨by omega,trivial⟩,by omega,V.wk⟩
  ·rw[hlen] at h
   simp only[decide_eq_false_iff_not] at h
   have hk1:k=ns.length:=by omega
   subst hk1
   have e0:(lastL ns).take ns.length=lastL ns:=jjj (by simp[lastL])
   rw[e0]
   (conv=>whnf)
   refine V.st ?_
   refine Lp.ghostBox 279 10 2 .i64 (by decide) (by decide) ?_
   (conv=>whnf)
   have e1:=ixl_pad0 h1 h2
   have hpos:∀ n∈ns,0<n:=fun n hn=>by have:=h2 n hn;omega
   refine jac (0) (fun k=>k<PR ns) (fun k=>PR ns-k) (fun k=>[]) (fun k=>[(117,.lp none),(121,.arr .i64 (pad4 (ixl ns k))),(10,.box [.ints .i64 (nz ns),.int .i64 out,.osl 279 0 (flat ns (fun m=>(List.range out.toNat).map (W m)) k).length]),(279,.arr .i64 (flat ns (fun m=>(List.range out.toNat).map (W m)) k))]) ?_ ?_ ?_
   ·rw[e1]
    exact V.wk
   ·exact jfp hpos
   intro m hm
   have evm:=ev m hm
   have hlm:((List.range out.toNat).map (W m)).length=out.toNat:=by simp
   have hp4:(pad4 (ixl ns m)).length=4:=jaA (by rw[jat];omega)
   have hp4l:(pad4 (lastL ns)).length=4:=jaA (by simp[lastL];omega)
   have hfl:(flat ns (fun m=>(List.range out.toNat).map (W m)) m).length≤4*m:=flat_len (fun j hj=>by simp;omega)
   have hPR:=PR_le h1.2 h2
   have xb:∀ i n,ns[i]? = some n→(0≤(pad4 (ixl ns m)).getD i 0∧(pad4 (ixl ns m)).getD i 0≤8)∧(2≤(nz ns).getD i 0∧(nz ns).getD i 0≤9):=by
    intro i n h
    have e:=jgq ns m i n h
    have b:=jeS hpos h e
    have b2:=h2 n (ji9 h)
    have hi:=(jje.1 h).1
    have e2:=jcl (k:=ns.length) e hi (by rw[jat];omega)
    rw[jjj (by rw[jat];omega)] at e2
    rw[e2]
    simp[nz,ji5,h]
    simp at b
    omega
   have i69:=fun i (hi:i<2)=>ns.getElem?_eq_getElem (show i<ns.length by omega)
   refine V.r0 (V.a2 jio hli) ?_
   refine jac (0:Nat) (fun k=>k≤2) (fun k=>2-k) (fun k=>[(69,.int .i64 (k:Nat))]) (fun k=>[(232,.box (preD (2*k) [.str (X m 0).1,.str (X m 0).2,.str (X m 1).1,.str (X m 1).2]))]) ?_ ?_ ?_
   ·exact V.wk
   ·exact jiv _
   intro k hk
   have hk4:k=0∨k=1∨k=2:=by omega
   rcases hk4 with e|e|e
   all_goals subst e
   ·simp only[k0]
    have c:=ov m 0 hm (by omega)
    have xb0:=xb 0 _ (i69 0 (by omega))
    refine V.r1 (V.a2 jio hli) c ?_
    exact⟨1,by omega,by omega,V.wk⟩
   ·simp only[k1]
    have c:=ov m 1 hm (by omega)
    have xb1:=xb 1 _ (i69 1 (by omega))
    refine V.r1 (V.a2 jio hli) c ?_
    exact⟨2,by omega,by omega,V.wk⟩
   ·simp only[k2]
    refine V.r1 (V.a2 jio hli) evm ?_
    obtain⟨E,hE0,hEs,hEn,hEl⟩:∃ E:Nat→List Int,E 0=flat ns (fun m=>(List.range out.toNat).map (W m)) m∧(∀ k,k<out.toNat→E k++[W m k]=E (k+1))∧E out.toNat=flat ns (fun m=>(List.range out.toNat).map (W m)) (m+1) ∧ ∀ k,k≤out.toNat→(E k).length≤30000:=by
     refine⟨fun k=>flat ns (fun m=>(List.range out.toNat).map (W m)) m++((List.range out.toNat).map (W m)).take k,by simp,fun k hk=>?_,?_,fun k hk=>?_⟩
     ·show flat ns _ m++((List.range out.toNat).map (W m)).take k++[W m k]=flat ns _ m++((List.range out.toNat).map (W m)).take (k+1)
      rw[jfZ _ hk,jjc]
     ·show flat _ _ _++_=_
      rw[jdx,jjj (by simp)]
     ·show (flat _ _ _++_).length≤_
      rw[jja,jjb]
      omega
    rw[← hE0]
    refine lp_go (out.toNat) (fun k=>True) (fun k=>[(96,.int .i64 k)]) (fun k=>[(10,.box [.ints .i64 (nz ns),.int .i64 out,.osl 279 0 (E k).length]),(279,.arr .i64 (E k))]) V.wk ?_ ?_
    ·trivial
    intro k hk _
    (conv=>whnf)
    refine V.st ?_
    refine V.br (fun h=>?_) (fun h=>?_)
    ·simp only[decide_eq_true_eq] at h
     have hk1:k<out.toNat:=by omega
     have e:=jgD (Y m) out.toNat k hk1
     have nrk:=nr m k hm hk1
     have hEk:=hEs k hk1
     have hEl1:=hEl k hk
     have hEl2:(E k).length+1=(E (k+1)).length:=by rw[← hEk];simp
     (conv=>whnf)
     (try simp only[zX45_2,hEk,hEl2,← jja])
     repeat ((first|refine V.s1 ?_|((try ((with_reducible refine .ext ?_);(conv=>whnf);(try simp only[zX45_2,hEk,hEl2,← jja])));(with_reducible refine jaa (r:=?_) ?_ ?_);rotate_left;(focus (first|exact(nrk)));(conv=>whnf))|((simp only[e]);(conv=>whnf)));(try simp only[zX45_2,hEk,hEl2,← jja]))
     exact⟨k+1,⟨by omega,trivial⟩,by omega,V.wk⟩
    ·simp only[decide_eq_false_iff_not] at h
     have hk1:k=out.toNat:=by omega
     subst hk1
     rw[hEn]
     (conv=>whnf)
     refine V.st ?_
     refine V.br (fun hq=>?_) (fun hq=>?_)
     ·have hq2:ixl ns m≠lastL ns:=fun e=>by rw[e] at hq;simp at hq
      have hil:=jat ns m
      have hll:(lastL ns).length=ns.length:=by simp[lastL]
      (conv=>whnf)
      refine V.st ?_
      rw[hlen]
      have e2:(ixl ns m).take ns.length=ixl ns m:=jjj (by omega)
      refine jac (ns.length) (fun k=>(1≤k∧k≤ns.length)∧(ixl ns m).drop k=(lastL ns).drop k) (fun k=>k) (fun k=>[(7,.int .i64 ((k:Int)-1))]) (fun k=>[(121,.arr .i64 (pad4 ((ixl ns m).take k)))]) ?_ ?_ ?_
      ·rw[e2]
       exact V.wk
      ·exact⟨⟨h1.1,jiD _⟩,by rw[jjk (by omega),jjk (by omega)]⟩
      rintro p ⟨⟨hp1,hp2⟩,hp3⟩
      obtain⟨p,rfl⟩:∃ q,p=q+1:=⟨p-1,by omega⟩
      obtain⟨x,hx⟩:∃ x,(ixl ns m)[p]? = some x:=⟨_,ji8 (by omega)⟩
      obtain⟨n,hn⟩:∃ n,ns[p]? = some n:=⟨ns[p],ji8 (by omega)⟩
      have hpx:=jcl hx (by omega:p<p+1) (by omega)
      have hpl:(lastL ns)[p]? = some ((n:Int)-1):=by simp[lastL,hn]
      have hpl2:=jcl (k:=4) hpl (by omega) (by omega)
      rw[jjj (by omega)] at hpl2
      have hp5:(pad4 ((ixl ns m).take (p+1))).length=4:=jaA (by simp;omega)
      have e3:((p+1:Nat):Int)-1=(p:Int):=by omega
      have e4:=jeI hx (by omega)
      (conv=>whnf)
      refine V.st ?_
      refine⟨(V.tk [0,1,2,3,4,5,6] .done),[],V.pok,.go (jae ?_)⟩
      refine V.r0 (V.a4 zX45_1 e3 hpx hpl2) ?_
      refine V.br (fun hc=>?_) (fun hc=>?_)
      ·simp only[decide_eq_true_eq] at hc
       have hd:(ixl ns m).drop p=(lastL ns).drop p:=by
        rw[jjm (by omega:p<(ixl ns m).length),jjm (by omega:p<(lastL ns).length),hp3,(jje.1 hx).2,(jje.1 hpl).2,hc]
       have hp0:1≤p:=by
        rcases jiE p with e|e
        ·subst e;exact absurd (by simpa using hd) hq2
        ·exact e
       refine V.r0 (V.a3 zX45_1 e3 e4) ?_
       exact⟨p,⟨⟨hp0,by omega⟩,hd⟩,by omega,V.wk⟩
      ·simp only[decide_eq_false_iff_not] at hc
       have hsu:=jgp ns hpos m p n hn x hx (by rw[hp3];simp[lastL]) hc
       have e5:=jdq (y:=x+1) hx (by omega) (by omega:(ixl ns m).length≤4)
       rw[hil,← hsu] at e5
       have hxb:=jeS hpos hn hx
       have hnb:=h2 n (ji9 hn)
       have hm1:m+1<PR ns:=by
        rcases jiJ (m+1) (PR ns) with e|e
        ·exact e
        ·exfalso
         exact hq2 (jej ns hpos m (by rw[jiG hm];omega))
       refine V.r0 (V.a4 zX45_1 e3 hpx e5) ?_
       exact⟨m+1,hm1,by omega,V.wk⟩
     ·have hq2:ixl ns m=lastL ns:=jgh (by rw[jat];simp[lastL]) (by simpa using hq)
      have hq3:=jei ns hpos m hq2
      rw[jiG hm] at hq3
      have hq4:m+1=PR ns:=by omega
      rw[hq4]
      (conv=>whnf)
      refine V.st ?_
      rw[jjj (jiD _)]
      exact Fin.of rfl
theorem jfm (B:Nat→Int×Int):∀ n k,k<n→List.take 2 (List.drop (k*2) (bce B n))=[.int .i64 (B k).1,.int .i64 (B k).2]
 | 0,k,h=>absurd h (Nat.not_lt_zero _)
 | n+1,k,h=>by
  have hl:∀ n,(bce B n).length=n*2:=fun n=>by
   induction n with
   | zero=>rfl
   | succ n ih=>simp only[bce,jja,ih];simp;omega
  rw[bce]
  rcases jiJ k n with g|g
  ·have ih:=jfm B n k g
   rw[List.drop_append_of_le_length (by rw[hl];omega),jjh (by rw[jjp,hl];omega),ih]
  ·have:k=n:=by omega
   subst this
   rw[List.drop_append,jjk (by rw[hl];omega),hl,Nat.sub_self]
   rfl
def wnN (W:Nat→Int×Int)(i:Nat):Int:=((W i).2-(W i).1)/1000000000+1
def wmB (W:Nat→Int×Int)(u v:Nat→Int)(i:Nat):Int×Int:=((W i).1+1000000000*min (u i%wnN W i) (v i%wnN W i),(W i).1+1000000000*max (u i%wnN W i) (v i%wnN W i))
def wiW:Nat→D
 | 0 => .nil
 | k+1 => .bsl 90 0 (k+1) 2
def wiH (X:Nat→Tx):Nat→Hp
 | 0=>[]
 | k+1=>[(90,.box (wce X (k+1)))]
theorem jh8:type_of% @jiC∧type_of% @List.getD_cons_succ.{0} ∧ type_of% @List.getD_cons_zero.{0} ∧ type_of% @List.take_succ_cons.{0} ∧ type_of% @List.take_zero.{0} ∧ type_of% @jiA∧type_of% @tn0∧type_of% @tn1∧type_of% @tn2∧type_of% @tn3∧type_of% @xt4:=⟨@jiC,@List.getD_cons_succ.{0},@List.getD_cons_zero.{0},@List.take_succ_cons.{0},@List.take_zero.{0},@jiA,@tn0,@tn1,@tn2,@tn3,@xt4⟩
theorem within1_t (ds vals data:List Int)(oo out:Int)(sm:Bool)(a b u v:Nat→Int)(s0:Nat)(W BA BB:Nat→Int×Int)(X Y:Nat→Tx)(ho:1≤out∧out≤4)
  (hW:∀ i,(-100000000000000≤(W i).1∧(W i).1≤(W i).2∧(W i).2≤100000000000000)∧(W i).2-(W i).1≤65535000000000) (hu:∀ i,0≤u i∧u i≤65535) (hv:∀ i,0≤v i∧v i≤65535)
  (wk:Cl 10 [] (.bool true))
  (gd:Cl 11 [.agg [.ints .u8 ds,.int .u8 oo,.ints .u16 vals,.bool sm]] (.agg [.ints .i64 [(s0:Int)],.int .i64 out,.ints .i64 data]))
  (sp:Cl 27 [.agg [.int .i16 (a 0),.int .i16 (b 0),.int .i16 (a 1),.int .i16 (b 1),.int .i16 (a 2),.int .i16 (b 2),.int .i16 (a 3),.int .i16 (b 3)],.int .i64 1] (V.sl2 1 [.int .i64 (W 0).1,.int .i64 (W 0).2]))
  (xo:∀ i,i<1→Cl 18 [.int .i64 (wmB W u v i).1,.int .i64 1000000000000] (.agg [.str (X i).1,.str (X i).2]))
  (ba:Cl 29 [.agg [.ints .i64 [(s0:Int)],.int .i64 out,.ints .i64 data],V.sl2 1 [.int .i64 (W 0).1,.int .i64 (W 0).2]] (.tup [V.sl2 out.toNat (bce BA out.toNat),.int .i64 0]))
  (bb:Cl 29 [.agg [.ints .i64 [(s0:Int)],.int .i64 out,.ints .i64 data],V.sl2 1 [.int .i64 (wmB W u v 0).1,.int .i64 (wmB W u v 0).2]] (.tup [V.sl2 out.toNat (bce BB out.toNat),.int .i64 0]))
  (ev:Cl 15 [.agg [.ints .i64 [(s0:Int)],.int .i64 out,.ints .i64 data],V.sl2 1 [.str (X 0).1,.str (X 0).2]] (.tup [V.sl2 out.toNat (wce Y out.toNat),.int .i64 0]))
  (hs:∀ j,j<out.toNat→Cl 30 [.agg [.int .i64 (BB j).1,.int .i64 (BB j).2],.agg [.str (Y j).1,.str (Y j).2]] (.tup [.bool true,.int .i64 0]))
  (le:∀ j,j<out.toNat→(BA j).1≤(BB j).1∧(BB j).2≤(BA j).2) :
  Cl 7 [.agg [.ints .u8 ds,.int .u8 oo,.ints .u16 vals,.bool sm],.agg [.int .i16 (a 0),.int .i16 (b 0),.int .i16 (a 1),.int .i16 (b 1),.int .i16 (a 2),.int .i16 (b 2),.int .i16 (a 3),.int .i16 (b 3)],.agg [.int .u16 (u 0),.int .u16 (v 0),.int .u16 (u 1),.int .u16 (v 1),.int .u16 (u 2),.int .u16 (v 2),.int .u16 (u 3),.int .u16 (v 3)]] (.bool true):=by
 have hsl:(([(s0:Int)].length:Nat):Int)=1:=rfl
 have hyl:((out.toNat:Nat):Int)=out:=by omega
 refine V.en tbOk Tryz.func7 ?_
 (conv=>whnf)
 (conv=>whnf)
 (try simp only[jh8,hsl])
 repeat ((first|refine V.s1 ?_|((try ((with_reducible refine .ext ?_);(conv=>whnf);(try simp only[jh8,hsl])));(with_reducible refine jaa (r:=?_) ?_ ?_);rotate_left;(focus (first|exact(wk)|exact(gd)|exact(sp)));(conv=>whnf))|((with_reducible refine .inl ?_);(conv=>whnf);(first|refine⟨0,_,_,⟨Tryz.func28,rfl,rfl,jiu rfl⟩,?_⟩);(conv=>whnf)));(try simp only[jh8,hsl]))
 refine V.r0 (V.a2 jh8 hsl) ?_
 refine jac (0:Nat) (fun k=>k≤1) (fun k=>1-k) (fun k=>[(38,.int .i64 (k:Nat)),(10,wiW k)]) (fun k=>(199,.box (bce (wmB W u v) k++List.drop (2*k) (bce W 1)))::wiH X k) ?_ ?_ ?_
 ·exact V.wk
 ·exact jiv _
 intro k hk
 have hk4:k=0∨k=1:=by omega
 rcases hk4 with e|e
 all_goals subst e
 ·simp only[k0,wiW,wiH]
  have c1:=xo 0 (by omega)
  have hw:=hW 0
  have hui:=hu 0
  have hvi:=hv 0
  have hn:1≤wnN W 0∧wnN W 0≤65536:=by unfold wnN;omega
  have e0:((W 0).2-(W 0).1)/1000000000+1=wnN W 0:=rfl
  have hm1:0≤u 0%wnN W 0∧u 0%wnN W 0≤65535:=⟨jix _ (by omega),by have:=jiU (u 0) (show 0<wnN W 0 by omega);omega⟩
  have hm2:0≤v 0%wnN W 0∧v 0%wnN W 0≤65535:=⟨jix _ (by omega),by have:=jiU (v 0) (show 0<wnN W 0 by omega);omega⟩
  refine V.r0 (V.a2 jh8 e0) ?_
  refine⟨Pq5z,[],V.pok,?_⟩
  refine jab [(14,.int .i64 (u 0%wnN W 0)),(15,.int .i64 (v 0%wnN W 0))] [] ?_ ?_
  ·exact V.d0 jh8
  refine V.r1 jh8 c1 ?_
  exact⟨1,by omega,by omega,V.wk⟩
 ·simp only[k1,wiW,wiH]
  (conv=>whnf)
  repeat ((fail_if_success (with_reducible refine Cnd.split ?_));refine V.s1 ?_;(try simp only[jiA]))
  refine V.s1 ?_
  (conv=>whnf)
  (try simp only[jh8,hyl])
  repeat ((fail_if_success (with_reducible refine Cnd.split ?_));(first|refine V.s1 ?_|((try ((with_reducible refine .ext ?_);(conv=>whnf);(try simp only[jh8,hyl])));(with_reducible refine jaa (r:=?_) ?_ ?_);rotate_left;(focus (first|exact ba|exact bb|exact ev));(conv=>whnf)));(try simp only[jh8,hyl]))
  refine V.cnd_to [(7,.box 7 0),(16,V.sl2 out.toNat (bce BA out.toNat)),(18,V.sl2 out.toNat (bce BB out.toNat)),(20,V.sl2 out.toNat (wce Y out.toNat))] [(7,.box [.ints .i64 [(s0:Int)],.int .i64 out,.ints .i64 data])] (CondB.mk (fun h=>absurd h (by simp[hyl])) (fun _=>?_)) ?_
  ·(conv=>whnf)
   exact V.wk
  refine V.r0 jh8 ?_
  refine lp_go (out.toNat) (fun k=>True) (fun k=>[(143,.int .i64 k)]) (fun k=>[]) V.wk ?_ ?_
  ·trivial
  intro k hk _
  (conv=>whnf)
  refine V.st ?_
  refine V.br (fun h=>?_) (fun h=>?_)
  ·simp only[decide_eq_true_eq] at h
   have hk1:k<out.toNat:=by omega
   have e:=jgD Y out.toNat k hk1
   have eA:=jfm BA out.toNat k hk1
   have eB:=jfm BB out.toNat k hk1
   have c1:=hs k hk1
   have hle:=le k hk1
   have hl1:decide ((BB k).1<(BA k).1)=false:=decide_eq_false (by omega)
   have hl2:decide ((BB k).2>(BA k).2)=false:=decide_eq_false (by omega)
   refine V.r0 jh8 ?_
   refine⟨Pq20z,[],V.pok,?_⟩
   refine jab [(23,.bool true),(24,.int .i64 0)] [] ?_ ?_
   ·(conv=>whnf);(try simp only[jh8])
    repeat' (first|exact V.wk|((with_reducible refine And.intro ?_ jay);(conv=>whnf);(try simp only[jh8]))|((with_reducible first|refine jar ?_ ?_|refine jau ?_ ?_)<;>(conv=>whnf);(try simp only[jh8]))|((first|refine V.s1 ?_|((with_reducible refine jan ?_ ?_);(focus ((conv=>whnf);(try simp only[jh8]);(repeat ((first|refine V.s1 ?_|((simp only[e]);(conv=>whnf))|((simp only[eB]);(conv=>whnf)));(try simp only[jh8])));exact⟨rfl⟩));(conv=>whnf))|((try ((with_reducible refine .ext ?_);(conv=>whnf);(try simp only[jh8])));(with_reducible refine jaa (r:=?_) ?_ ?_);rotate_left;(focus (first|exact(c1)));(conv=>whnf))|((simp only[e]);(conv=>whnf))|((simp only[eB]);(conv=>whnf)));(try simp only[jh8]))|(refine And.intro ?_ ?_<;>(conv=>whnf);(try simp only[jh8])))
   refine V.r0 jh8 ?_
   refine⟨Pq1z,[],V.pok,?_⟩
   refine jab [(189,.bool false)] [] ?_ ?_
   ·(conv=>whnf);(try simp only[jh8,hl1,hl2])
    repeat' (first|exact V.wk|((with_reducible refine And.intro ?_ jay);(conv=>whnf);(try simp only[jh8,hl1,hl2]))|((with_reducible first|refine jar ?_ ?_|refine jau ?_ ?_)<;>(conv=>whnf);(try simp only[jh8,hl1,hl2]))|((first|refine V.s1 ?_|((with_reducible refine jan ?_ ?_);(focus ((conv=>whnf);(try simp only[jh8,hl1,hl2]);(repeat ((first|refine V.s1 ?_|((simp only[eA]);(conv=>whnf))|((simp only[eB]);(conv=>whnf)));(try simp only[jh8,hl1,hl2])));exact⟨rfl⟩));(conv=>whnf))|((try ((with_reducible refine .ext ?_);(conv=>whnf);(try simp only[jh8,hl1,hl2])));(with_reducible refine jaa (r:=?_) ?_ ?_);rotate_left;(focus (first|fail));(conv=>whnf))|((simp only[eA]);(conv=>whnf))|((simp only[eB]);(conv=>whnf)));(try simp only[jh8,hl1,hl2]))|(refine And.intro ?_ ?_<;>(conv=>whnf);(try simp only[jh8,hl1,hl2])))
   refine V.r0 jh8 ?_
   exact⟨k+1,⟨by omega,trivial⟩,by omega,V.wk⟩
  ·refine V.r0 jh8 ?_
   exact Fin.of rfl
theorem within2_t (ds vals data:List Int)(oo out:Int)(sm:Bool)(a b u v:Nat→Int)(s0 s1:Nat)(W BA BB:Nat→Int×Int)(X Y:Nat→Tx)(ho:1≤out∧out≤4)
  (hW:∀ i,(-100000000000000≤(W i).1∧(W i).1≤(W i).2∧(W i).2≤100000000000000)∧(W i).2-(W i).1≤65535000000000) (hu:∀ i,0≤u i∧u i≤65535) (hv:∀ i,0≤v i∧v i≤65535)
  (wk:Cl 10 [] (.bool true))
  (gd:Cl 11 [.agg [.ints .u8 ds,.int .u8 oo,.ints .u16 vals,.bool sm]] (.agg [.ints .i64 [(s0:Int),(s1:Int)],.int .i64 out,.ints .i64 data]))
  (sp:Cl 27 [.agg [.int .i16 (a 0),.int .i16 (b 0),.int .i16 (a 1),.int .i16 (b 1),.int .i16 (a 2),.int .i16 (b 2),.int .i16 (a 3),.int .i16 (b 3)],.int .i64 2] (V.sl2 2 [.int .i64 (W 0).1,.int .i64 (W 0).2,.int .i64 (W 1).1,.int .i64 (W 1).2]))
  (xo:∀ i,i<2→Cl 18 [.int .i64 (wmB W u v i).1,.int .i64 1000000000000] (.agg [.str (X i).1,.str (X i).2]))
  (ba:Cl 29 [.agg [.ints .i64 [(s0:Int),(s1:Int)],.int .i64 out,.ints .i64 data],V.sl2 2 [.int .i64 (W 0).1,.int .i64 (W 0).2,.int .i64 (W 1).1,.int .i64 (W 1).2]] (.tup [V.sl2 out.toNat (bce BA out.toNat),.int .i64 0]))
  (bb:Cl 29 [.agg [.ints .i64 [(s0:Int),(s1:Int)],.int .i64 out,.ints .i64 data],V.sl2 2 [.int .i64 (wmB W u v 0).1,.int .i64 (wmB W u v 0).2,.int .i64 (wmB W u v 1).1,.int .i64 (wmB W u v 1).2]] (.tup [V.sl2 out.toNat (bce BB out.toNat),.int .i64 0]))
  (ev:Cl 15 [.agg [.ints .i64 [(s0:Int),(s1:Int)],.int .i64 out,.ints .i64 data],V.sl2 2 [.str (X 0).1,.str (X 0).2,.str (X 1).1,.str (X 1).2]] (.tup [V.sl2 out.toNat (wce Y out.toNat),.int .i64 0]))
  (hs:∀ j,j<out.toNat→Cl 30 [.agg [.int .i64 (BB j).1,.int .i64 (BB j).2],.agg [.str (Y j).1,.str (Y j).2]] (.tup [.bool true,.int .i64 0]))
  (le:∀ j,j<out.toNat→(BA j).1≤(BB j).1∧(BB j).2≤(BA j).2) :
  Cl 7 [.agg [.ints .u8 ds,.int .u8 oo,.ints .u16 vals,.bool sm],.agg [.int .i16 (a 0),.int .i16 (b 0),.int .i16 (a 1),.int .i16 (b 1),.int .i16 (a 2),.int .i16 (b 2),.int .i16 (a 3),.int .i16 (b 3)],.agg [.int .u16 (u 0),.int .u16 (v 0),.int .u16 (u 1),.int .u16 (v 1),.int .u16 (u 2),.int .u16 (v 2),.int .u16 (u 3),.int .u16 (v 3)]] (.bool true):=by
 have hsl:(([(s0:Int),(s1:Int)].length:Nat):Int)=2:=rfl
 have hyl:((out.toNat:Nat):Int)=out:=by omega
 refine V.en tbOk Tryz.func7 ?_
 (conv=>whnf)
 (conv=>whnf)
 (try simp only[jh8,hsl])
 repeat ((first|refine V.s1 ?_|((try ((with_reducible refine .ext ?_);(conv=>whnf);(try simp only[jh8,hsl])));(with_reducible refine jaa (r:=?_) ?_ ?_);rotate_left;(focus (first|exact(wk)|exact(gd)|exact(sp)));(conv=>whnf))|((with_reducible refine .inl ?_);(conv=>whnf);(first|refine⟨0,_,_,⟨Tryz.func28,rfl,rfl,jiu rfl⟩,?_⟩);(conv=>whnf)));(try simp only[jh8,hsl]))
 refine V.r0 (V.a2 jh8 hsl) ?_
 refine jac (0:Nat) (fun k=>k≤2) (fun k=>2-k) (fun k=>[(38,.int .i64 (k:Nat)),(10,wiW k)]) (fun k=>(199,.box (bce (wmB W u v) k++List.drop (2*k) (bce W 2)))::wiH X k) ?_ ?_ ?_
 ·exact V.wk
 ·exact jiv _
 intro k hk
 have hk4:k=0∨k=1∨k=2:=by omega
 rcases hk4 with e|e|e
 all_goals subst e
 ·simp only[k0,wiW,wiH]
  have c1:=xo 0 (by omega)
  have hw:=hW 0
  have hui:=hu 0
  have hvi:=hv 0
  have hn:1≤wnN W 0∧wnN W 0≤65536:=by unfold wnN;omega
  have e0:((W 0).2-(W 0).1)/1000000000+1=wnN W 0:=rfl
  have hm1:0≤u 0%wnN W 0∧u 0%wnN W 0≤65535:=⟨jix _ (by omega),by have:=jiU (u 0) (show 0<wnN W 0 by omega);omega⟩
  have hm2:0≤v 0%wnN W 0∧v 0%wnN W 0≤65535:=⟨jix _ (by omega),by have:=jiU (v 0) (show 0<wnN W 0 by omega);omega⟩
  refine V.r0 (V.a2 jh8 e0) ?_
  refine⟨Pq5z,[],V.pok,?_⟩
  refine jab [(14,.int .i64 (u 0%wnN W 0)),(15,.int .i64 (v 0%wnN W 0))] [] ?_ ?_
  ·exact V.d0 jh8
  refine V.r1 jh8 c1 ?_
  exact⟨1,by omega,by omega,V.wk⟩
 ·simp only[k1,wiW,wiH]
  have c1:=xo 1 (by omega)
  have hw:=hW 1
  have hui:=hu 1
  have hvi:=hv 1
  have hn:1≤wnN W 1∧wnN W 1≤65536:=by unfold wnN;omega
  have e0:((W 1).2-(W 1).1)/1000000000+1=wnN W 1:=rfl
  have hm1:0≤u 1%wnN W 1∧u 1%wnN W 1≤65535:=⟨jix _ (by omega),by have:=jiU (u 1) (show 0<wnN W 1 by omega);omega⟩
  have hm2:0≤v 1%wnN W 1∧v 1%wnN W 1≤65535:=⟨jix _ (by omega),by have:=jiU (v 1) (show 0<wnN W 1 by omega);omega⟩
  refine V.r0 (V.a2 jh8 e0) ?_
  refine⟨Pq5z,[],V.pok,?_⟩
  refine jab [(14,.int .i64 (u 1%wnN W 1)),(15,.int .i64 (v 1%wnN W 1))] [] ?_ ?_
  ·exact V.d0 jh8
  refine V.r1 jh8 c1 ?_
  exact⟨2,by omega,by omega,V.wk⟩
 ·simp only[k2,wiW,wiH]
  (conv=>whnf)
  repeat ((fail_if_success (with_reducible refine Cnd.split ?_));refine V.s1 ?_;(try simp only[jiA]))
  refine V.s1 ?_
  (conv=>whnf)
  (try simp only[jh8,hyl])
  repeat ((fail_if_success (with_reducible refine Cnd.split ?_));(first|refine V.s1 ?_|((try ((with_reducible refine .ext ?_);(conv=>whnf);(try simp only[jh8,hyl])));(with_reducible refine jaa (r:=?_) ?_ ?_);rotate_left;(focus (first|exact ba|exact bb|exact ev));(conv=>whnf)));(try simp only[jh8,hyl]))
  refine V.cnd_to [(7,.box 7 0),(16,V.sl2 out.toNat (bce BA out.toNat)),(18,V.sl2 out.toNat (bce BB out.toNat)),(20,V.sl2 out.toNat (wce Y out.toNat))] [(7,.box [.ints .i64 [(s0:Int),(s1:Int)],.int .i64 out,.ints .i64 data])] (CondB.mk (fun h=>absurd h (by simp[hyl])) (fun _=>?_)) ?_
  ·(conv=>whnf)
   exact V.wk
  refine V.r0 jh8 ?_
  refine lp_go (out.toNat) (fun k=>True) (fun k=>[(143,.int .i64 k)]) (fun k=>[]) V.wk ?_ ?_
  ·trivial
  intro k hk _
  (conv=>whnf)
  refine V.st ?_
  refine V.br (fun h=>?_) (fun h=>?_)
  ·simp only[decide_eq_true_eq] at h
   have hk1:k<out.toNat:=by omega
   have e:=jgD Y out.toNat k hk1
   have eA:=jfm BA out.toNat k hk1
   have eB:=jfm BB out.toNat k hk1
   have c1:=hs k hk1
   have hle:=le k hk1
   have hl1:decide ((BB k).1<(BA k).1)=false:=decide_eq_false (by omega)
   have hl2:decide ((BB k).2>(BA k).2)=false:=decide_eq_false (by omega)
   refine V.r0 jh8 ?_
   refine⟨Pq20z,[],V.pok,?_⟩
   refine jab [(23,.bool true),(24,.int .i64 0)] [] ?_ ?_
   ·(conv=>whnf);(try simp only[jh8])
    repeat' (first|exact V.wk|((with_reducible refine And.intro ?_ jay);(conv=>whnf);(try simp only[jh8]))|((with_reducible first|refine jar ?_ ?_|refine jau ?_ ?_)<;>(conv=>whnf);(try simp only[jh8]))|((first|refine V.s1 ?_|((with_reducible refine jan ?_ ?_);(focus ((conv=>whnf);(try simp only[jh8]);(repeat ((first|refine V.s1 ?_|((simp only[e]);(conv=>whnf))|((simp only[eB]);(conv=>whnf)));(try simp only[jh8])));exact⟨rfl⟩));(conv=>whnf))|((try ((with_reducible refine .ext ?_);(conv=>whnf);(try simp only[jh8])));(with_reducible refine jaa (r:=?_) ?_ ?_);rotate_left;(focus (first|exact(c1)));(conv=>whnf))|((simp only[e]);(conv=>whnf))|((simp only[eB]);(conv=>whnf)));(try simp only[jh8]))|(refine And.intro ?_ ?_<;>(conv=>whnf);(try simp only[jh8])))
   refine V.r0 jh8 ?_
   refine⟨Pq1z,[],V.pok,?_⟩
   refine jab [(189,.bool false)] [] ?_ ?_
   ·(conv=>whnf);(try simp only[jh8,hl1,hl2])
    repeat' (first|exact V.wk|((with_reducible refine And.intro ?_ jay);(conv=>whnf);(try simp only[jh8,hl1,hl2]))|((with_reducible first|refine jar ?_ ?_|refine jau ?_ ?_)<;>(conv=>whnf);(try simp only[jh8,hl1,hl2]))|((first|refine V.s1 ?_|((with_reducible refine jan ?_ ?_);(focus ((conv=>whnf);(try simp only[jh8,hl1,hl2]);(repeat ((first|refine V.s1 ?_|((simp only[eA]);(conv=>whnf))|((simp only[eB]);(conv=>whnf)));(try simp only[jh8,hl1,hl2])));exact⟨rfl⟩));(conv=>whnf))|((try ((with_reducible refine .ext ?_);(conv=>whnf);(try simp only[jh8,hl1,hl2])));(with_reducible refine jaa (r:=?_) ?_ ?_);rotate_left;(focus (first|fail));(conv=>whnf))|((simp only[eA]);(conv=>whnf))|((simp only[eB]);(conv=>whnf)));(try simp only[jh8,hl1,hl2]))|(refine And.intro ?_ ?_<;>(conv=>whnf);(try simp only[jh8,hl1,hl2])))
   refine V.r0 jh8 ?_
   exact⟨k+1,⟨by omega,trivial⟩,by omega,V.wk⟩
  ·refine V.r0 jh8 ?_
   exact Fin.of rfl
theorem within3_t (ds vals data:List Int)(oo out:Int)(sm:Bool)(a b u v:Nat→Int)(s0 s1 s2:Nat)(W BA BB:Nat→Int×Int)(X Y:Nat→Tx)(ho:1≤out∧out≤4)
  (hW:∀ i,(-100000000000000≤(W i).1∧(W i).1≤(W i).2∧(W i).2≤100000000000000)∧(W i).2-(W i).1≤65535000000000) (hu:∀ i,0≤u i∧u i≤65535) (hv:∀ i,0≤v i∧v i≤65535)
  (wk:Cl 10 [] (.bool true))
  (gd:Cl 11 [.agg [.ints .u8 ds,.int .u8 oo,.ints .u16 vals,.bool sm]] (.agg [.ints .i64 [(s0:Int),(s1:Int),(s2:Int)],.int .i64 out,.ints .i64 data]))
  (sp:Cl 27 [.agg [.int .i16 (a 0),.int .i16 (b 0),.int .i16 (a 1),.int .i16 (b 1),.int .i16 (a 2),.int .i16 (b 2),.int .i16 (a 3),.int .i16 (b 3)],.int .i64 3] (V.sl2 3 [.int .i64 (W 0).1,.int .i64 (W 0).2,.int .i64 (W 1).1,.int .i64 (W 1).2,.int .i64 (W 2).1,.int .i64 (W 2).2]))
  (xo:∀ i,i<3→Cl 18 [.int .i64 (wmB W u v i).1,.int .i64 1000000000000] (.agg [.str (X i).1,.str (X i).2]))
  (ba:Cl 29 [.agg [.ints .i64 [(s0:Int),(s1:Int),(s2:Int)],.int .i64 out,.ints .i64 data],V.sl2 3 [.int .i64 (W 0).1,.int .i64 (W 0).2,.int .i64 (W 1).1,.int .i64 (W 1).2,.int .i64 (W 2).1,.int .i64 (W 2).2]] (.tup [V.sl2 out.toNat (bce BA out.toNat),.int .i64 0]))
  (bb:Cl 29 [.agg [.ints .i64 [(s0:Int),(s1:Int),(s2:Int)],.int .i64 out,.ints .i64 data],V.sl2 3 [.int .i64 (wmB W u v 0).1,.int .i64 (wmB W u v 0).2,.int .i64 (wmB W u v 1).1,.int .i64 (wmB W u v 1).2,.int .i64 (wmB W u v 2).1,.int .i64 (wmB W u v 2).2]] (.tup [V.sl2 out.toNat (bce BB out.toNat),.int .i64 0]))
  (ev:Cl 15 [.agg [.ints .i64 [(s0:Int),(s1:Int),(s2:Int)],.int .i64 out,.ints .i64 data],V.sl2 3 [.str (X 0).1,.str (X 0).2,.str (X 1).1,.str (X 1).2,.str (X 2).1,.str (X 2).2]] (.tup [V.sl2 out.toNat (wce Y out.toNat),.int .i64 0]))
  (hs:∀ j,j<out.toNat→Cl 30 [.agg [.int .i64 (BB j).1,.int .i64 (BB j).2],.agg [.str (Y j).1,.str (Y j).2]] (.tup [.bool true,.int .i64 0]))
  (le:∀ j,j<out.toNat→(BA j).1≤(BB j).1∧(BB j).2≤(BA j).2) :
  Cl 7 [.agg [.ints .u8 ds,.int .u8 oo,.ints .u16 vals,.bool sm],.agg [.int .i16 (a 0),.int .i16 (b 0),.int .i16 (a 1),.int .i16 (b 1),.int .i16 (a 2),.int .i16 (b 2),.int .i16 (a 3),.int .i16 (b 3)],.agg [.int .u16 (u 0),.int .u16 (v 0),.int .u16 (u 1),.int .u16 (v 1),.int .u16 (u 2),.int .u16 (v 2),.int .u16 (u 3),.int .u16 (v 3)]] (.bool true):=by
 have hsl:(([(s0:Int),(s1:Int),(s2:Int)].length:Nat):Int)=3:=rfl
 have hyl:((out.toNat:Nat):Int)=out:=by omega
 refine V.en tbOk Tryz.func7 ?_
 (conv=>whnf)
 (conv=>whnf)
 (try simp only[jh8,hsl])
 repeat ((first|refine V.s1 ?_|((try ((with_reducible refine .ext ?_);(conv=>whnf);(try simp only[jh8,hsl])));(with_reducible refine jaa (r:=?_) ?_ ?_);rotate_left;(focus (first|exact(wk)|exact(gd)|exact(sp)));(conv=>whnf))|((with_reducible refine .inl ?_);(conv=>whnf);(first|refine⟨0,_,_,⟨Tryz.func28,rfl,rfl,jiu rfl⟩,?_⟩);(conv=>whnf)));(try simp only[jh8,hsl]))
 refine V.r0 (V.a2 jh8 hsl) ?_
 refine jac (0:Nat) (fun k=>k≤3) (fun k=>3-k) (fun k=>[(38,.int .i64 (k:Nat)),(10,wiW k)]) (fun k=>(199,.box (bce (wmB W u v) k++List.drop (2*k) (bce W 3)))::wiH X k) ?_ ?_ ?_
 ·exact V.wk
 ·exact jiv _
 intro k hk
 have hk4:k=0∨k=1∨k=2∨k=3:=by omega
 rcases hk4 with e|e|e|e
 all_goals subst e
 ·simp only[k0,wiW,wiH]
  have c1:=xo 0 (by omega)
  have hw:=hW 0
  have hui:=hu 0
  have hvi:=hv 0
  have hn:1≤wnN W 0∧wnN W 0≤65536:=by unfold wnN;omega
  have e0:((W 0).2-(W 0).1)/1000000000+1=wnN W 0:=rfl
  have hm1:0≤u 0%wnN W 0∧u 0%wnN W 0≤65535:=⟨jix _ (by omega),by have:=jiU (u 0) (show 0<wnN W 0 by omega);omega⟩
  have hm2:0≤v 0%wnN W 0∧v 0%wnN W 0≤65535:=⟨jix _ (by omega),by have:=jiU (v 0) (show 0<wnN W 0 by omega);omega⟩
  refine V.r0 (V.a2 jh8 e0) ?_
  refine⟨Pq5z,[],V.pok,?_⟩
  refine jab [(14,.int .i64 (u 0%wnN W 0)),(15,.int .i64 (v 0%wnN W 0))] [] ?_ ?_
  ·exact V.d0 jh8
  refine V.r1 jh8 c1 ?_
  exact⟨1,by omega,by omega,V.wk⟩
 ·simp only[k1,wiW,wiH]
  have c1:=xo 1 (by omega)
  have hw:=hW 1
  have hui:=hu 1
  have hvi:=hv 1
  have hn:1≤wnN W 1∧wnN W 1≤65536:=by unfold wnN;omega
  have e0:((W 1).2-(W 1).1)/1000000000+1=wnN W 1:=rfl
  have hm1:0≤u 1%wnN W 1∧u 1%wnN W 1≤65535:=⟨jix _ (by omega),by have:=jiU (u 1) (show 0<wnN W 1 by omega);omega⟩
  have hm2:0≤v 1%wnN W 1∧v 1%wnN W 1≤65535:=⟨jix _ (by omega),by have:=jiU (v 1) (show 0<wnN W 1 by omega);omega⟩
  refine V.r0 (V.a2 jh8 e0) ?_
  refine⟨Pq5z,[],V.pok,?_⟩
  refine jab [(14,.int .i64 (u 1%wnN W 1)),(15,.int .i64 (v 1%wnN W 1))] [] ?_ ?_
  ·exact V.d0 jh8
  refine V.r1 jh8 c1 ?_
  exact⟨2,by omega,by omega,V.wk⟩
 ·simp only[k2,wiW,wiH]
  have c1:=xo 2 (by omega)
  have hw:=hW 2
  have hui:=hu 2
  have hvi:=hv 2
  have hn:1≤wnN W 2∧wnN W 2≤65536:=by unfold wnN;omega
  have e0:((W 2).2-(W 2).1)/1000000000+1=wnN W 2:=rfl
  have hm1:0≤u 2%wnN W 2∧u 2%wnN W 2≤65535:=⟨jix _ (by omega),by have:=jiU (u 2) (show 0<wnN W 2 by omega);omega⟩
  have hm2:0≤v 2%wnN W 2∧v 2%wnN W 2≤65535:=⟨jix _ (by omega),by have:=jiU (v 2) (show 0<wnN W 2 by omega);omega⟩
  refine V.r0 (V.a2 jh8 e0) ?_
  refine⟨Pq5z,[],V.pok,?_⟩
  refine jab [(14,.int .i64 (u 2%wnN W 2)),(15,.int .i64 (v 2%wnN W 2))] [] ?_ ?_
  ·exact V.d0 jh8
  refine V.r1 jh8 c1 ?_
  exact⟨3,by omega,by omega,V.wk⟩
 ·simp only[k3,wiW,wiH]
  (conv=>whnf)
  repeat ((fail_if_success (with_reducible refine Cnd.split ?_));refine V.s1 ?_;(try simp only[jiA]))
  refine V.s1 ?_
  (conv=>whnf)
  (try simp only[jh8,hyl])
  repeat ((fail_if_success (with_reducible refine Cnd.split ?_));(first|refine V.s1 ?_|((try ((with_reducible refine .ext ?_);(conv=>whnf);(try simp only[jh8,hyl])));(with_reducible refine jaa (r:=?_) ?_ ?_);rotate_left;(focus (first|exact ba|exact bb|exact ev));(conv=>whnf)));(try simp only[jh8,hyl]))
  refine V.cnd_to [(7,.box 7 0),(16,V.sl2 out.toNat (bce BA out.toNat)),(18,V.sl2 out.toNat (bce BB out.toNat)),(20,V.sl2 out.toNat (wce Y out.toNat))] [(7,.box [.ints .i64 [(s0:Int),(s1:Int),(s2:Int)],.int .i64 out,.ints .i64 data])] (CondB.mk (fun h=>absurd h (by simp[hyl])) (fun _=>?_)) ?_
  ·(conv=>whnf)
   exact V.wk
  refine V.r0 jh8 ?_
  refine lp_go (out.toNat) (fun k=>True) (fun k=>[(143,.int .i64 k)]) (fun k=>[]) V.wk ?_ ?_
  ·trivial
  intro k hk _
  (conv=>whnf)
  refine V.st ?_
  refine V.br (fun h=>?_) (fun h=>?_)
  ·simp only[decide_eq_true_eq] at h
   have hk1:k<out.toNat:=by omega
   have e:=jgD Y out.toNat k hk1
   have eA:=jfm BA out.toNat k hk1
   have eB:=jfm BB out.toNat k hk1
   have c1:=hs k hk1
   have hle:=le k hk1
   have hl1:decide ((BB k).1<(BA k).1)=false:=decide_eq_false (by omega)
   have hl2:decide ((BB k).2>(BA k).2)=false:=decide_eq_false (by omega)
   refine V.r0 jh8 ?_
   refine⟨Pq20z,[],V.pok,?_⟩
   refine jab [(23,.bool true),(24,.int .i64 0)] [] ?_ ?_
   ·(conv=>whnf);(try simp only[jh8])
    repeat' (first|exact V.wk|((with_reducible refine And.intro ?_ jay);(conv=>whnf);(try simp only[jh8]))|((with_reducible first|refine jar ?_ ?_|refine jau ?_ ?_)<;>(conv=>whnf);(try simp only[jh8]))|((first|refine V.s1 ?_|((with_reducible refine jan ?_ ?_);(focus ((conv=>whnf);(try simp only[jh8]);(repeat ((first|refine V.s1 ?_|((simp only[e]);(conv=>whnf))|((simp only[eB]);(conv=>whnf)));(try simp only[jh8])));exact⟨rfl⟩));(conv=>whnf))|((try ((with_reducible refine .ext ?_);(conv=>whnf);(try simp only[jh8])));(with_reducible refine jaa (r:=?_) ?_ ?_);rotate_left;(focus (first|exact(c1)));(conv=>whnf))|((simp only[e]);(conv=>whnf))|((simp only[eB]);(conv=>whnf)));(try simp only[jh8]))|(refine And.intro ?_ ?_<;>(conv=>whnf);(try simp only[jh8])))
   refine V.r0 jh8 ?_
   refine⟨Pq1z,[],V.pok,?_⟩
   refine jab [(189,.bool false)] [] ?_ ?_
   ·(conv=>whnf);(try simp only[jh8,hl1,hl2])
    repeat' (first|exact V.wk|((with_reducible refine And.intro ?_ jay);(conv=>whnf);(try simp only[jh8,hl1,hl2]))|((with_reducible first|refine jar ?_ ?_|refine jau ?_ ?_)<;>(conv=>whnf);(try simp only[jh8,hl1,hl2]))|((first|refine V.s1 ?_|((with_reducible refine jan ?_ ?_);(focus ((conv=>whnf);(try simp only[jh8,hl1,hl2]);(repeat ((first|refine V.s1 ?_|((simp only[eA]);(conv=>whnf))|((simp only[eB]);(conv=>whnf)));(try simp only[jh8,hl1,hl2])));exact⟨rfl⟩));(conv=>whnf))|((try ((with_reducible refine .ext ?_);(conv=>whnf);(try simp only[jh8,hl1,hl2])));(with_reducible refine jaa (r:=?_) ?_ ?_);rotate_left;(focus (first|fail));(conv=>whnf))|((simp only[eA]);(conv=>whnf))|((simp only[eB]);(conv=>whnf)));(try simp only[jh8,hl1,hl2]))|(refine And.intro ?_ ?_<;>(conv=>whnf);(try simp only[jh8,hl1,hl2])))
   refine V.r0 jh8 ?_
   exact⟨k+1,⟨by omega,trivial⟩,by omega,V.wk⟩
  ·refine V.r0 jh8 ?_
   exact Fin.of rfl
end Go.Proofs.YtgjgpdceghjajaaGreatDoor
end
section
namespace Go.Proofs.YtgjgpdceghjajaaGreatDoor
open Go Go.V Go.Nb
def dsQ (a b:Rat):Rat:=if a≤b then b-a else a-b
theorem ja7 (a b:Rat):dsQ a b=dsQ b a:=by
 unfold dsQ
 by_cases h:a≤b
 ·rw[if_pos h]
  by_cases g:b≤a
  ·rw[if_pos g,Rat.le_antisymm h g]
  ·rw[if_neg g]
 ·rw[if_neg h,if_pos (Rat.le_of_lt (Rat.not_le.1 h))]
def Adj (s0 s1 s2:Int)(v:Int→Int→Int→Rat)(L:Rat):Prop := ∀ i j k:Int,0≤i∧i+1≤s0-1→0≤j∧j≤s1-1→0≤k∧k≤s2-1→v (i+1) j k-v i j k≤L∧v i j k-v (i+1) j k≤L
theorem adj_d {s0 s1 s2:Int}{v:Int→Int→Int→Rat}{L:Rat}(h:Adj s0 s1 s2 v L){i j k:Int}(hi:0≤i)(hj:0≤j∧j≤s1-1)(hk:0≤k∧k≤s2-1):∀ d:Nat,i+d≤s0-1→v (i+d) j k-v i j k≤L*((d:Int):Rat)∧v i j k-v (i+d) j k≤L*((d:Int):Rat)
 | 0,_=>by
  have e:i+((0:Nat):Int)=i:=by omega
  rw[e]
  have z:(((0:Nat):Int):Rat)=0:=rfl
  rw[z]
  constructor<;>grind
 | d+1,hd=>by
  have ih:=adj_d h hi hj hk d (by omega)
  have st:=h (i+d) j k ⟨by omega,by omega⟩ hj hk
  have e:i+((d+1:Nat):Int)=i+d+1:=by omega
  rw[e]
  have z:(((d+1:Nat):Int):Rat)=((d:Int):Rat)+1:=by
   rw[Int.natCast_add,Rat.intCast_add]
   rfl
  rw[z]
  constructor<;>grind
theorem lv_neg (N:Nat)(v:Int→Int→Int→Rat)(P Q R:Int):lvF (fun i j k => -1*v i j k) N P Q R = -1*lvF v N P Q R:=jfz (-1) _ N
theorem jhU {s0 s1 s2:Int}(hs:2≤s0∧2≤s1∧2≤s2){v:Int→Int→Int→Rat}{L:Rat}(h:Adj s0 s1 s2 v L)(x0 y0 x1 x2:Rat):evF s0 s1 s2 v y0 x1 x2-evF s0 s1 s2 v x0 x1 x2≤L*dsQ (gp s0 x0) (gp s0 y0):=by
 obtain⟨N,hN,hc⟩:=jh5 [gp s0 x0,gp s0 y0,gp s1 x1,gp s2 x2]
 obtain⟨P,hP⟩:=hc (gp s0 x0) (by simp)
 obtain⟨P',hP'⟩:=hc (gp s0 y0) (by simp)
 obtain⟨Q,hQ⟩:=hc (gp s1 x1) (by simp)
 obtain⟨R,hR⟩:=hc (gp s2 x2) (by simp)
 have b0:=P_bd hN hs.1 hP
 have b0':=P_bd hN hs.1 hP'
 have b1:=P_bd hN hs.2.1 hQ
 have b2:=P_bd hN hs.2.2 hR
 have ex:=ev_lv hN hs hP hQ hR v
 have ey:=ev_lv hN hs hP' hQ hR v
 refine cancle hN ?_
 unfold dsQ
 by_cases hle:P≤P'
 ·have hg:gp s0 x0≤gp s0 y0:=by
   refine cancle hN ?_
   rw[← hP,← hP']
   exact_mod_cast hle
  rw[if_pos hg]
  have:=lv_lip hN (v:=v) (P:=P) (P':=P') (Q:=Q) (R:=R) (L:=L) (fun i d t ht hi hi'=>by
   subst hi
   have l0:=jcD hN ht b0.1 b0.2
   have l0':=jcD hN ht b0'.1 b0'.2
   exact(adj_d h l0.1 (jcD hN ht b1.1 b1.2) (jcD hN ht b2.1 b2.2) d (by rw[hi'];exact l0'.2)).1) hle
  rw[← ex,← ey,hP,hP'] at this
  grind
 ·have hg:¬ gp s0 x0≤gp s0 y0:=fun hg=>by
   apply hle
   have:=Rat.mul_nonneg (Rat.le_of_lt (np_pos hN)) (show 0≤gp s0 y0-gp s0 x0 by grind)
   have e:(P:Rat)≤(P':Rat):=by
    rw[hP,hP']
    grind
   exact_mod_cast e
  rw[if_neg hg]
  have:=lv_lip hN (v:=fun i j k => -1*v i j k) (P:=P') (P':=P) (Q:=Q) (R:=R) (L:=L) (fun i d t ht hi hi'=>by
   subst hi
   have l0:=jcD hN ht b0.1 b0.2
   have l0':=jcD hN ht b0'.1 b0'.2
   have:=(adj_d h l0'.1 (jcD hN ht b1.1 b1.2) (jcD hN ht b2.1 b2.2) d (by rw[hi'];exact l0.2)).2
   grind) (by omega)
  rw[lv_neg,lv_neg,← ex,← ey,hP,hP'] at this
  grind
theorem ev_lip {s0 s1 s2:Int}(hs:2≤s0∧2≤s1∧2≤s2){v:Int→Int→Int→Rat}{L0 L1 L2:Rat}(h0:Adj s0 s1 s2 v L0)(h1:Adj s1 s0 s2 (fun i j k=>v j i k) L1)(h2:Adj s2 s1 s0 (fun i j k=>v k j i) L2)(x0 x1 x2 y0 y1 y2:Rat) :
  evF s0 s1 s2 v y0 y1 y2-evF s0 s1 s2 v x0 x1 x2≤L0*dsQ (gp s0 x0) (gp s0 y0)+L1*dsQ (gp s1 x1) (gp s1 y1)+L2*dsQ (gp s2 x2) (gp s2 y2):=by
 have a0:=jhU hs h0 x0 y0 x1 x2
 have a1:=jhU ⟨hs.2.1,hs.1,hs.2.2⟩ h1 x1 y1 y0 x2
 have a2:=jhU ⟨hs.2.2,hs.2.1,hs.1⟩ h2 x2 y2 y1 y0
 rw[ev_sw01 hs,ev_sw01 hs] at a1
 rw[ev_sw02 hs,ev_sw02 hs] at a2
 grind
theorem jgn (b:Int×Int):midB b=((clI b.1:Rat)+(clI b.2:Rat))/2000000000000:=by
 unfold midB
 rw[divQ,Rat.intCast_add]
theorem jhP (b:Int×Int):halB b=((clI b.2:Rat)-(clI b.1:Rat))/2000000000000:=by
 unfold halB
 rw[divQ,Rat.intCast_sub]
theorem clI_rat (v:Int):(0:Rat)≤((clI v:Int):Rat)∧((clI v:Int):Rat)≤1000000000000:=by
 have h:=jaq v
 have h2:((clI v:Int):Rat)≤((1000000000000:Int):Rat):=Rat.intCast_le_intCast.2 h.2
 exact⟨by exact_mod_cast h.1,h2⟩
theorem jdU (b:Int×Int):clQ (midB b)=midB b:=by
 have h1:=clI_rat b.1
 have h2:=clI_rat b.2
 refine clQ_id ?_ ?_<;>rw[jgn]<;>grind
theorem clI_le {a b:Int}(h:a≤b):((clI a:Int):Rat)≤((clI b:Int):Rat):=Rat.intCast_le_intCast.2 (jgy h)
theorem jfH {s w:Int×Int}(h1:w.1≤s.1)(h2:s.2≤w.2):dsQ (midB s) (midB w)≤halB w-halB s:=by
 have a:=clI_le h1
 have b:=clI_le h2
 rw[jgn,jgn,jhP,jhP]
 unfold dsQ
 split<;>grind
theorem clQ_unit (v:Int):clQ (Rat.divInt v 1000000000000)=((clI v:Int):Rat)/1000000000000:=by
 have e:Rat.divInt v 1000000000000=(v:Rat)/1000000000000:=by
  rw[Rat.divInt_eq_div]
  rfl
 rw[e]
 unfold clI
 rcases Int.lt_or_le v 0 with h|h
 ·have h0:(v:Rat)<0:=by exact_mod_cast h
  rw[show min (max v 0) 1000000000000=0 from by omega]
  unfold clQ
  rw[if_pos (show (v:Rat)/1000000000000<0 by grind),if_neg (by decide +kernel)]
  decide +kernel
 ·rcases Int.lt_or_le 1000000000000 v with g|g
  ·have g0:((1000000000000:Int):Rat)<(v:Rat):=Rat.intCast_lt_intCast.2 g
   rw[show ((1000000000000:Int):Rat)=1000000000000 from rfl] at g0
   rw[show min (max v 0) 1000000000000=1000000000000 from by omega]
   unfold clQ
   rw[if_neg (show ¬ (v:Rat)/1000000000000<0 by grind),if_pos (by grind)]
   decide +kernel
  ·have h0:(0:Rat)≤(v:Rat):=by exact_mod_cast h
   have g0:(v:Rat)≤((1000000000000:Int):Rat):=Rat.intCast_le_intCast.2 g
   rw[show ((1000000000000:Int):Rat)=1000000000000 from rfl] at g0
   rw[show min (max v 0) 1000000000000=v from by omega]
   refine clQ_id ?_ ?_<;>grind
theorem jdG {s:Int×Int}{v:Int}(h1:s.1≤v)(h2:v≤s.2):dsQ (clQ (Rat.divInt v 1000000000000)) (midB s)≤halB s:=by
 have a:=clI_le h1
 have b:=clI_le h2
 rw[clQ_unit,jgn,jhP]
 unfold dsQ
 split<;>grind
theorem jgr {data:List Int}{out s z:Int}{i n:Nat}{w:Nat→List Int}(hw:∀ r,(w r).length=n):∀ a r,(inS data out s z i w a r).length=n
 | 0,r=>hw r
 | a+1,r=>by
  have h:=jgr (data:=data) (out:=out) (s:=s) (z:=z) (i:=i) hw a r
  simp only[inS,stp]
  split
  ·exact h
  ·split
   ·rw[jjo];exact h
   ·exact h
theorem inS_step {data:List Int}{out s z:Int}{i n:Nat}{w:Nat→List Int}(hw:∀ r,(w r).length=n)(hi:i<n)(a r j:Nat):(inS data out s z i w a r).getD j 0≤(inS data out s z i w (a+1) r).getD j 0:=by
 have h:=jgr (data:=data) (out:=out) (s:=s) (z:=z) (i:=i) hw a r
 simp only[inS,stp]
 split
 ·exact Int.le_refl _
 ·split
  ·rw[jcH _ i j _ (by omega)]
   split
   ·rename_i e
    subst e
    omega
   ·exact Int.le_refl _
  ·exact Int.le_refl _
theorem inS_up {data:List Int}{out s z:Int}{i n:Nat}{w:Nat→List Int}(hw:∀ r,(w r).length=n)(hi:i<n)(a r j:Nat):∀ d,(inS data out s z i w a r).getD j 0≤(inS data out s z i w (a+d) r).getD j 0
 | 0=>Int.le_refl _
 | d+1=>ji2 (inS_up hw hi a r j d) (inS_step hw hi (a+d) r j)
theorem inS_ge {data:List Int}{out s z:Int}{i n:Nat}{w:Nat→List Int}(hw:∀ r,(w r).length=n)(hi:i<n){a r len:Nat}(ha:a<len)(hc:¬ (a:Int)/s%z=z-1)(hr:(a:Int)%out=r):grd data s z a≤(inS data out s z i w len r).getD i 0:=by
 have h:=jgr (data:=data) (out:=out) (s:=s) (z:=z) (i:=i) hw a r
 have e:inS data out s z i w (a+1) r=(inS data out s z i w a r).set i (max ((inS data out s z i w a r).getD i 0) (grd data s z a)):=(if_neg hc).trans (if_pos hr)
 have g:grd data s z a≤(inS data out s z i w (a+1) r).getD i 0:=by
  rw[e,jcH _ i i _ (by omega),if_pos rfl]
  omega
 have u:=inS_up (data:=data) (out:=out) (s:=s) (z:=z) hw hi (a+1) r i (len-(a+1))
 rw[show a+1+(len-(a+1))=len from by omega] at u
 exact ji2 g u
theorem jgi {zs data:List Int}{out:Int} : ∀ k r,(outS zs data out k r).length=zs.length
 | 0,r=>by simp[outS]
 | k+1,r=>jgr (jgi k) _ r
theorem outS_up {zs data:List Int}{out:Int}(k r j:Nat)(hn:0<zs.length):∀ d,(outS zs data out k r).getD j 0≤(outS zs data out (k+d) r).getD j 0
 | 0=>Int.le_refl _
 | d+1=>by
  refine ji2 (outS_up k r j hn d) ?_
  have u:=inS_up (data:=data) (out:=out) (s:=strd zs out (k+d)) (z:=zs.getD (zs.length-1-(k+d)) 0) (i:=zs.length-1-(k+d)) (jgi (zs:=zs) (data:=data) (out:=out) (k+d)) (by omega) 0 r j data.length
  rw[jiA] at u
  exact u
theorem steep_ge {zs data:List Int}{out:Int}{k a r:Nat}(hk:k<zs.length)(ha:a<data.length)(hc:¬ (a:Int)/strd zs out k%zs.getD (zs.length-1-k) 0=zs.getD (zs.length-1-k) 0-1)(hr:(a:Int)%out=r) :
  grd data (strd zs out k) (zs.getD (zs.length-1-k) 0) a≤(outS zs data out zs.length r).getD (zs.length-1-k) 0:=by
 have g:=inS_ge (data:=data) (out:=out) (s:=strd zs out k) (z:=zs.getD (zs.length-1-k) 0) (i:=zs.length-1-k) (jgi (zs:=zs) (data:=data) (out:=out) k) (by omega) ha hc hr
 have u:=outS_up (zs:=zs) (data:=data) (out:=out) (k+1) r (zs.length-1-k) (by omega) (zs.length-(k+1))
 rw[show k+1+(zs.length-(k+1))=zs.length from by omega] at u
 exact ji2 g u
end Go.Proofs.YtgjgpdceghjajaaGreatDoor
end
