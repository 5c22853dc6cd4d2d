/- What functions of the program answer at given values, part 11. Conditions: those that each theorem names. -/
import Derived.Test.YtgjgpdceghjajaaGreatDoorSimplexWeightsH8
import Derived.Test.YtgjgpdceghjajaaGreatDoorSimplexWeightsH10
import Derived.Test.YtgjgpdceghjajaaGreatDoorSimplexWeightsH7
import Derived.Test.YtgjgpdceghjajaaGreatDoorSimplexWeightsH9
import Derived.Test.YtgjgpdceghjajaaGreatDoorSimplexWeightsH4
set_option linter.unusedSimpArgs false
set_option linter.unusedVariables false
set_option maxHeartbeats 8000000
set_option maxRecDepth 100000
section
namespace Go.Proofs.YtgjgpdceghjajaaGreatDoor
open Go Go.V Go.Gr Go.Nb
theorem nz_ofz {zs:List Int}(h:∀ z∈zs,0≤z):nz (zs.map Int.toNat)=zs:=by
 unfold nz
 rw[List.map_map]
 conv=>rhs;rw[← List.map_id zs]
 exact List.map_congr_left fun z hz=>jiJ (h z hz)
def loL (out:Int)(data:List Int):List Int:=rl (fun a b=>decide (a<b)) data out.toNat data.length
def hiL (out:Int)(data:List Int):List Int:=rl (fun a b=>decide (a>b)) data out.toNat data.length
theorem rng_ok {zs:List Int}{out:Int}{data:List Int}(hg:jao zs out data=true):data.length=PR (zs.map Int.toNat)*out.toNat∧0<PR (zs.map Int.toNat)∧(loL out data).length=out.toNat∧(hiL out data).length=out.toNat:=by
 have og:=jaF hg
 have e:=nz_ofz (zs:=zs) fun z hz=>by have:=og.2.1 z hz;omega
 have p:=jez (zs.map Int.toNat)
 rw[e] at p
 have h1:(data.length:Int)=((PR (zs.map Int.toNat)*out.toNat:Nat):Int):=by
  rw[og.2.2.1.2,p,jiW,jiJ (by omega)]
 have h2:data.length=PR (zs.map Int.toNat)*out.toNat:=by exact_mod_cast h1
 have h3:0<PR (zs.map Int.toNat):=by
  have:∀ l:List Int,(∀ z∈l,2≤z∧z≤9)→0<prod l:=fun l hl=>by
   have g:∀ (l:List Int) (a:Int),0<a→(∀ z∈l,2≤z∧z≤9)→0<l.foldl (· * ·) a:=by
    intro l
    induction l with
    | nil=>exact fun a ha _=>ha
    | cons z l ih=>exact fun a ha hz=>ih (a*z) (Int.mul_pos ha (by have:=hz z (List.mem_cons_self ..);omega)) fun y hy=>hz y (List.mem_cons_of_mem _ hy)
   exact g l 1 (by decide) hl
  have:=this zs og.2.1
  omega
 have h4:out.toNat≤data.length:=by
  rw[h2]
  exact Nat.le_mul_of_pos_left _ h3
 exact⟨h2,h3,jev h4 _,jev h4 _⟩
theorem col_bd {data:List Int}(h:∀ v∈data,0≤v∧v≤65535)(w m k:Nat):0≤col data w m k∧col data w m k≤65535:=jbz h _ _ _
theorem jgt {zs:List Int}{out:Int}{data:List Int}(hg:jao zs out data=true){j:Nat}(hj:j<out.toNat) :
  (0≤(loL out data).getD j 0∧(loL out data).getD j 0≤65535)∧(0≤(hiL out data).getD j 0∧(hiL out data).getD j 0≤65535) ∧
  ∀ xs,okIdx zs xs=true→(loL out data).getD j 0≤(slot data (pz (zs.zip xs)*out) out).getD j 0∧(slot data (pz (zs.zip xs)*out) out).getD j 0≤(hiL out data).getD j 0:=by
 have og:=jaF hg
 have r:=rng_ok hg
 have s1:=mst_spec ord_lt r.1 hj (PR (zs.map Int.toNat)) (jiL _) r.2.1
 have s2:=mst_spec ord_gt r.1 hj (PR (zs.map Int.toNat)) (jiL _) r.2.1
 have e1:=rl_mst (lt:=fun a b=>decide (a<b)) r.1 (by omega) (PR (zs.map Int.toNat)) (jiL _)
 have e2:=rl_mst (lt:=fun a b=>decide (a>b)) r.1 (by omega) (PR (zs.map Int.toNat)) (jiL _)
 rw[← r.1] at e1 e2
 rw[← e1] at s1
 rw[← e2] at s2
 refine⟨?_,?_,fun xs hx=>?_⟩
 ·obtain⟨_,m,_,e⟩:=s1
  show 0≤(rl _ data out.toNat data.length).getD j 0∧(rl _ data out.toNat data.length).getD j 0≤65535
  rw[e]
  exact col_bd og.2.2.2 _ _ _
 ·obtain⟨_,m,_,e⟩:=s2
  show 0≤(rl _ data out.toNat data.length).getD j 0∧(rl _ data out.toNat data.length).getD j 0≤65535
  rw[e]
  exact col_bd og.2.2.2 _ _ _
 ·have e:=nz_ofz (zs:=zs) fun z hz=>by have:=og.2.1 z hz;omega
  have ip:=ixl_pz (zs.map Int.toNat) xs (by rw[e];exact hx)
  rw[e] at ip
  have em:pz (zs.zip xs)*out=(((pz (zs.zip xs)).toNat*out.toNat:Nat):Int):=by
   rw[jiW,jiJ ip.1.1,jiJ (by omega)]
  have hm:(pz (zs.zip xs)).toNat<PR (zs.map Int.toNat):=by omega
  have a1:=s1.1 _ hm
  have a2:=s2.1 _ hm
  have ec:(slot data (pz (zs.zip xs)*out) out).getD j 0=col data out.toNat (pz (zs.zip xs)).toNat j:=by
   unfold col
   rw[em,show ((out.toNat:Nat):Int)=out from by omega]
  rw[ec]
  simp only[decide_eq_false_iff_not] at a1 a2
  unfold loL hiL
  omega
theorem range_q {zs:List Int}{out:Int}{data:List Int}(hg:jao zs out data=true)(hl:zs.length≤4):Cl 25 [gridD zs out data] (.tup [.ints .i64 (loL out data),.ints .i64 (hiL out data),.int .i64 0]):=by
 have og:=jaF hg
 have c:=range_c zs out data (by omega) (by omega)
 rw[hg] at c
 exact c
def clI (v:Int):Int:=min (max v 0) 1000000000000
def midB (b:Int×Int):Rat:=Rat.divInt (clI b.1+clI b.2) 2000000000000
def halB (b:Int×Int):Rat:=Rat.divInt (clI b.2-clI b.1) 2000000000000
def bce (B:Nat→Int×Int):Nat→List D
 | 0=>[]
 | k+1=>bce B k++[.int .i64 (B k).1,.int .i64 (B k).2]
def slB (B:Nat→Int×Int)(n:Nat):D:=V.sl2 n (bce B n)
theorem jb6 (v:Int):0≤clI v∧clI v≤1000000000000:=by unfold clI;omega
theorem clI_mono {a b:Int}(h:a≤b):clI a≤clI b:=by unfold clI;omega
theorem clamp_q {b:Int×Int}(h:vb b.1 b.2=true):Cl 57 [.agg [.int .i64 b.1,.int .i64 b.2],.int .i64 0,.int .i64 1000000000000] (.tup [.agg [.int .i64 (clI b.1),.int .i64 (clI b.2)],.int .i64 0]):=by
 have c:=clamp_b b.1 b.2 0 1000000000000
 have v:=jbD.1 h
 have b1:=jb6 b.1
 have b2:=jb6 b.2
 have m:=clI_mono v.2.1
 rw[if_pos h,if_pos (jbD.2 (by omega))] at c
 have e:mk (min (max b.1 0) 1000000000000) (min (max b.2 0) 1000000000000)=(clI b.1,clI b.2,0):=by
  unfold mk
  rw[if_pos (jbD.2 (by unfold clI at *; omega))]
  rfl
 rw[e] at c
 exact c
theorem divQ (a:Int):Rat.divInt a 2000000000000=(a:Rat)/2000000000000:=by
 rw[Rat.divInt_eq_div]
 rfl
theorem divF (a:Int):Rat.divInt a 65535=(a:Rat)/65535:=by
 rw[Rat.divInt_eq_div]
 rfl
theorem fq_mid (b:Int×Int):Fq 14 (midB b):=by
 have b1:=jb6 b.1
 have b2:=jb6 b.2
 exact jaN (n:=14) (d:=2000000000000) (by decide) (by omega) (by decide)
theorem fq_hal (b:Int×Int):Fq 14 (halB b):=by
 have b1:=jb6 b.1
 have b2:=jb6 b.2
 exact jaN (n:=14) (d:=2000000000000) (by decide) (by omega) (by decide)
theorem hal_bd {b:Int×Int}(h:vb b.1 b.2=true):0≤halB b∧halB b≤1:=by
 have b1:=jb6 b.1
 have b2:=jb6 b.2
 have m:=clI_mono (jbD.1 h).2.1
 unfold halB
 rw[divQ]
 have g1:(0:Rat)≤((clI b.2-clI b.1:Int):Rat):=by exact_mod_cast (show (0:Int)≤clI b.2-clI b.1 by omega)
 have g2:((clI b.2-clI b.1:Int):Rat)≤((1000000000000:Int):Rat):=Rat.intCast_le_intCast.2 (by omega)
 rw[show ((1000000000000:Int):Rat)=1000000000000 from rfl] at g2
 constructor<;>grind
theorem fq_full {v:Int}(h:0≤v∧v≤65535):Fq 10 (Rat.divInt v 65535):=jaN (n:=10) (d:=65535) (by decide) (by omega) (by decide)
def sprQ (zs data:List Int)(out:Int)(n:Nat)(X:Nat→Int×Int)(j:Nat):Rat:=smF (fun i=>(((outS zs data out zs.length j).getD i 0:Int):Rat)*halB (X i)) (n-1)/65535
theorem spr_term {st:List Int}{n i:Nat}{b:Int×Int}(hs:rowOk n st)(h:vb b.1 b.2=true):0≤((st.getD i 0:Int):Rat)*halB b∧((st.getD i 0:Int):Rat)*halB b≤600000:=by
 have g:=hal_bd h
 have s:=hs.2 i
 have s0:(0:Rat)≤((st.getD i 0:Int):Rat):=by exact_mod_cast s.1
 have s1:((st.getD i 0:Int):Rat)≤((600000:Int):Rat):=Rat.intCast_le_intCast.2 s.2
 rw[show ((600000:Int):Rat)=600000 from rfl] at s1
 have m1:=Rat.mul_le_mul_of_nonneg_left g.2 s0
 have m0:=Rat.mul_le_mul_of_nonneg_left g.1 s0
 constructor<;>grind
theorem smF_bd {P:Nat→Rat}{n:Nat}(h:∀ i,i≤n→0≤P i∧P i≤600000):∀ k,k≤n→0≤smF P k∧smF P k≤600000*(((k+1:Nat):Int):Rat)
 | 0,hk=>by
  have:=h 0 hk
  simp only[smF]
  rw[show (((0+1:Nat):Int):Rat)=1 from rfl]
  constructor<;>grind
 | k+1,hk=>by
  have a:=smF_bd h k (by omega)
  have b:=h (k+1) hk
  simp only[smF]
  rw[show (((k+1+1:Nat):Int):Rat)=(((k+1:Nat):Int):Rat)+1 by rw[Int.natCast_add,Rat.intCast_add];rfl]
  constructor<;>grind
theorem fq_ev2 {x0 x1:Rat}{z0 z1 out:Int}{data:List Int}(hg:jao [z0,z1] out data=true)(h0:Fq 40 x0)(h1:Fq 40 x1)(j:Nat):Fq 376 (evQ [z0,z1] out data x0 x1 0 j):=by
 have og:=jaF hg
 have s0:=og.2.1 z0 (by simp)
 have f0:=jbk h0 (by decide) s0
 have s1:=og.2.1 z1 (by simp)
 have f1:=jbk h1 (by decide) s1
 have fr:∀ k,Fq 43 (rqN (spR z0 x0) (spR z1 x1) 0 k):=fq_rq f0 f1 jcc
 rw[ev2_sm s0.1 s1.1]
 have fm:∀ k,Fq 92 ((fun k=>wqN (rqN (spR z0 x0) (spR z1 x1) 0) (ord2 (spR z0 x0) (spR z1 x1)) 2 k*(((slot data (pz ([z0,z1].zip ((atK [spB z0 x0,spB z1 x1,0,0] (ord2 (spR z0 x0) (spR z1 x1)) k).take 2))*out) out).getD j 0:Int):Rat)) k):=fun k=>(fq_wq fr _ 2 k).mul (jaS (n:=5) (by have:=jbz og.2.2.2 (pz ([z0,z1].zip ((atK [spB z0 x0,spB z1 x1,0,0] (ord2 (spR z0 x0) (spR z1 x1)) k).take 2))*out) out j;omega) (by omega))
 have s:=fq_sm fm 2
 have q:=s.div (jaS (n:=5) (z:=65535) jbo (by decide)) jcY
 rw[show ((65535:Int):Rat)=65535 from rfl] at q
 exact q.mono (by decide)
theorem ev_in2 {x0 x1:Rat}{z0 z1 out:Int}{data:List Int}(hg:jao [z0,z1] out data=true){j:Nat}(hj:j<out.toNat):Rat.divInt ((loL out data).getD j 0) 65535≤evQ [z0,z1] out data x0 x1 0 j∧evQ [z0,z1] out data x0 x1 0 j≤Rat.divInt ((hiL out data).getD j 0) 65535:=by
 have og:=jaF hg
 have rb:=jgt hg hj
 have s0:=og.2.1 z0 (by simp)
 have s1:=og.2.1 z1 (by simp)
 have b:=ev_bd (s0:=z0) (s1:=z1) (s2:=2) (v:=gvF [z0,z1] out data j) (m:=(((loL out data).getD j 0:Int):Rat)) (M:=(((hiL out data).getD j 0:Int):Rat)) (by omega) (fun i k l hi hk hl=>by
  have g:=rb.2.2 [i,k] (by simp[okIdx];omega)
  exact⟨Rat.intCast_le_intCast.2 g.1,Rat.intCast_le_intCast.2 g.2⟩) x0 x1 0
 rw[divF,divF]
 show _≤evF z0 z1 2 (gvF [z0,z1] out data j) x0 x1 0/65535∧evF z0 z1 2 (gvF [z0,z1] out data j) x0 x1 0/65535≤_
 constructor<;>grind
end Go.Proofs.YtgjgpdceghjajaaGreatDoor
end
section
namespace Go.Proofs.YtgjgpdceghjajaaGreatDoor
open Go Go.V Go.Nb
def suQ (w:Nat→Rat):Nat→Rat
 | 0=>0
 | k+1=>suQ w k+w k
def wsQ (w:Nat→Rat)(v:Nat→Rat):Nat→Rat
 | 0=>0
 | k+1=>wsQ w v k+w k*v k
theorem fq_su {w:Nat→Rat}(h:∀ k,Fq 87 (w k)):∀ k,Fq (1+88*k) (suQ w k)
 | 0=>show Fq 1 0 from ⟨by decide,by decide⟩
 | k+1=>((fq_su h k).add (h k)).mono (by omega)
theorem fq_ws {w v:Nat→Rat}(h:∀ k,Fq 87 (w k))(g:∀ k,Fq 10 (v k)):∀ k,Fq (1+98*k) (wsQ w v k)
 | 0=>show Fq 1 0 from ⟨by decide,by decide⟩
 | k+1=>((fq_ws h g k).add ((h k).mul (g k))).mono (by omega)
theorem jfj {s:Int}(hs:2≤s)(x:Rat):spR s x≤1:=by
 have h:=gp_bd hs x
 have h1:gp s x-1<((gp s x).floor:Rat):=by
  have:=Rat.lt_floor (x:=gp s x)
  push_cast at this ⊢
  grind
 unfold spR spB
 rcases Int.le_total (gp s x).floor (s-2) with e|e
 ·rw[Int.min_eq_left e];grind
 ·rw[Int.min_eq_right e]
  have e2:((s-2:Int):Rat)=((s-1:Int):Rat)-1:=by push_cast;grind
  rw[e2];grind
theorem wgt1 {r0:Rat}(h0:0≤r0∧r0≤1){O:List Int}(hO:O=[0])(b0:Int) :
  ((∀ k,k<2→0≤wqN (rqN r0 0 0) O 1 k)∧suQ (wqN (rqN r0 0 0) O 1) 2=1∧wsQ (wqN (rqN r0 0 0) O 1) (fun k=>(((atK [b0] O k).getD 0 0:Int):Rat)) 2=(b0:Rat)+r0)∧atK [b0] O 1=[b0+1]∧(∀ k,k<1→0≤O.getD k 0∧O.getD k 0<1)∧O.length=1∧(∀ k,k<2→(atK [b0,0,0,0] O k).take 1=atK [b0] O k∧((b0≤(atK [b0] O k).getD 0 0∧(atK [b0] O k).getD 0 0≤b0+1))):=by
 subst hO
 refine⟨⟨fun k hk=>?_,?_,?_⟩,rfl,fun k hk=>?_,rfl,fun k hk=>?_⟩
 ·have h4:k=0∨k=1:=by omega
  rcases h4 with rfl|rfl<;>simp[wqN,bqN,rqN]<;>grind
 ·simp[suQ,wqN,bqN,rqN]<;>grind
 ·simp[wsQ,wqN,bqN,rqN,atK]<;>grind
 ·have h4:k=0:=by omega
  rcases h4 with rfl<;>simp
 ·have h4:k=0∨k=1:=by omega
  rcases h4 with rfl|rfl<;>simp[atK]<;>omega
theorem wgt2 {r0 r1:Rat}(h0:0≤r0∧r0≤1)(h1:0≤r1∧r1≤1){O:List Int}(hO:O=ord2 r0 r1)(b0 b1:Int) :
  ((∀ k,k<3→0≤wqN (rqN r0 r1 0) O 2 k)∧suQ (wqN (rqN r0 r1 0) O 2) 3=1∧wsQ (wqN (rqN r0 r1 0) O 2) (fun k=>(((atK [b0,b1] O k).getD 0 0:Int):Rat)) 3=(b0:Rat)+r0∧wsQ (wqN (rqN r0 r1 0) O 2) (fun k=>(((atK [b0,b1] O k).getD 1 0:Int):Rat)) 3=(b1:Rat)+r1)∧atK [b0,b1] O 2=[b0+1,b1+1]∧(∀ k,k<2→0≤O.getD k 0∧O.getD k 0<2)∧O.length=2∧(∀ k,k<3→(atK [b0,b1,0,0] O k).take 2=atK [b0,b1] O k∧((b0≤(atK [b0,b1] O k).getD 0 0∧(atK [b0,b1] O k).getD 0 0≤b0+1)∧(b1≤(atK [b0,b1] O k).getD 1 0∧(atK [b0,b1] O k).getD 1 0≤b1+1))):=by
 have ho:O=ord2 r0 r1:=hO
 unfold ord2 at ho
 clear hO
 repeat' split at ho
 all_goals subst ho
 ·refine⟨⟨fun k hk=>?_,?_,?_,?_⟩,rfl,fun k hk=>?_,rfl,fun k hk=>?_⟩
  ·have h4:k=0∨k=1∨k=2:=by omega
   rcases h4 with rfl|rfl|rfl<;>simp[wqN,bqN,rqN]<;>grind
  ·simp[suQ,wqN,bqN,rqN]<;>grind
  ·simp[wsQ,wqN,bqN,rqN,atK]<;>grind
  ·simp[wsQ,wqN,bqN,rqN,atK]<;>grind
  ·have h4:k=0∨k=1:=by omega
   rcases h4 with rfl|rfl<;>simp
  ·have h4:k=0∨k=1∨k=2:=by omega
   rcases h4 with rfl|rfl|rfl<;>simp[atK]<;>omega
 ·refine⟨⟨fun k hk=>?_,?_,?_,?_⟩,rfl,fun k hk=>?_,rfl,fun k hk=>?_⟩
  ·have h4:k=0∨k=1∨k=2:=by omega
   rcases h4 with rfl|rfl|rfl<;>simp[wqN,bqN,rqN]<;>grind
  ·simp[suQ,wqN,bqN,rqN]<;>grind
  ·simp[wsQ,wqN,bqN,rqN,atK]<;>grind
  ·simp[wsQ,wqN,bqN,rqN,atK]<;>grind
  ·have h4:k=0∨k=1:=by omega
   rcases h4 with rfl|rfl<;>simp
  ·have h4:k=0∨k=1∨k=2:=by omega
   rcases h4 with rfl|rfl|rfl<;>simp[atK]<;>omega
theorem wgt3 {r0 r1 r2:Rat}(h0:0≤r0∧r0≤1)(h1:0≤r1∧r1≤1)(h2:0≤r2∧r2≤1){O:List Int}(hO:O=ord3 r0 r1 r2)(b0 b1 b2:Int) :
  ((∀ k,k<4→0≤wqN (rqN r0 r1 r2) O 3 k)∧suQ (wqN (rqN r0 r1 r2) O 3) 4=1∧wsQ (wqN (rqN r0 r1 r2) O 3) (fun k=>(((atK [b0,b1,b2] O k).getD 0 0:Int):Rat)) 4=(b0:Rat)+r0∧wsQ (wqN (rqN r0 r1 r2) O 3) (fun k=>(((atK [b0,b1,b2] O k).getD 1 0:Int):Rat)) 4=(b1:Rat)+r1∧wsQ (wqN (rqN r0 r1 r2) O 3) (fun k=>(((atK [b0,b1,b2] O k).getD 2 0:Int):Rat)) 4=(b2:Rat)+r2)∧atK [b0,b1,b2] O 3=[b0+1,b1+1,b2+1]∧(∀ k,k<3→0≤O.getD k 0∧O.getD k 0<3)∧O.length=3∧(∀ k,k<4→(atK [b0,b1,b2,0] O k).take 3=atK [b0,b1,b2] O k∧((b0≤(atK [b0,b1,b2] O k).getD 0 0∧(atK [b0,b1,b2] O k).getD 0 0≤b0+1)∧(b1≤(atK [b0,b1,b2] O k).getD 1 0∧(atK [b0,b1,b2] O k).getD 1 0≤b1+1)∧(b2≤(atK [b0,b1,b2] O k).getD 2 0∧(atK [b0,b1,b2] O k).getD 2 0≤b2+1))):=by
 have ho:O=ord3 r0 r1 r2:=hO
 unfold ord3 at ho
 clear hO
 repeat' split at ho
 all_goals subst ho
 ·refine⟨⟨fun k hk=>?_,?_,?_,?_,?_⟩,rfl,fun k hk=>?_,rfl,fun k hk=>?_⟩
  ·have h4:k=0∨k=1∨k=2∨k=3:=by omega
   rcases h4 with rfl|rfl|rfl|rfl<;>simp[wqN,bqN,rqN]<;>grind
  ·simp[suQ,wqN,bqN,rqN]<;>grind
  ·simp[wsQ,wqN,bqN,rqN,atK]<;>grind
  ·simp[wsQ,wqN,bqN,rqN,atK]<;>grind
  ·simp[wsQ,wqN,bqN,rqN,atK]<;>grind
  ·have h4:k=0∨k=1∨k=2:=by omega
   rcases h4 with rfl|rfl|rfl<;>simp
  ·have h4:k=0∨k=1∨k=2∨k=3:=by omega
   rcases h4 with rfl|rfl|rfl|rfl<;>simp[atK]<;>omega
 ·refine⟨⟨fun k hk=>?_,?_,?_,?_,?_⟩,rfl,fun k hk=>?_,rfl,fun k hk=>?_⟩
  ·have h4:k=0∨k=1∨k=2∨k=3:=by omega
   rcases h4 with rfl|rfl|rfl|rfl<;>simp[wqN,bqN,rqN]<;>grind
  ·simp[suQ,wqN,bqN,rqN]<;>grind
  ·simp[wsQ,wqN,bqN,rqN,atK]<;>grind
  ·simp[wsQ,wqN,bqN,rqN,atK]<;>grind
  ·simp[wsQ,wqN,bqN,rqN,atK]<;>grind
  ·have h4:k=0∨k=1∨k=2:=by omega
   rcases h4 with rfl|rfl|rfl<;>simp
  ·have h4:k=0∨k=1∨k=2∨k=3:=by omega
   rcases h4 with rfl|rfl|rfl|rfl<;>simp[atK]<;>omega
 ·refine⟨⟨fun k hk=>?_,?_,?_,?_,?_⟩,rfl,fun k hk=>?_,rfl,fun k hk=>?_⟩
  ·have h4:k=0∨k=1∨k=2∨k=3:=by omega
   rcases h4 with rfl|rfl|rfl|rfl<;>simp[wqN,bqN,rqN]<;>grind
  ·simp[suQ,wqN,bqN,rqN]<;>grind
  ·simp[wsQ,wqN,bqN,rqN,atK]<;>grind
  ·simp[wsQ,wqN,bqN,rqN,atK]<;>grind
  ·simp[wsQ,wqN,bqN,rqN,atK]<;>grind
  ·have h4:k=0∨k=1∨k=2:=by omega
   rcases h4 with rfl|rfl|rfl<;>simp
  ·have h4:k=0∨k=1∨k=2∨k=3:=by omega
   rcases h4 with rfl|rfl|rfl|rfl<;>simp[atK]<;>omega
 ·refine⟨⟨fun k hk=>?_,?_,?_,?_,?_⟩,rfl,fun k hk=>?_,rfl,fun k hk=>?_⟩
  ·have h4:k=0∨k=1∨k=2∨k=3:=by omega
   rcases h4 with rfl|rfl|rfl|rfl<;>simp[wqN,bqN,rqN]<;>grind
  ·simp[suQ,wqN,bqN,rqN]<;>grind
  ·simp[wsQ,wqN,bqN,rqN,atK]<;>grind
  ·simp[wsQ,wqN,bqN,rqN,atK]<;>grind
  ·simp[wsQ,wqN,bqN,rqN,atK]<;>grind
  ·have h4:k=0∨k=1∨k=2:=by omega
   rcases h4 with rfl|rfl|rfl<;>simp
  ·have h4:k=0∨k=1∨k=2∨k=3:=by omega
   rcases h4 with rfl|rfl|rfl|rfl<;>simp[atK]<;>omega
 ·refine⟨⟨fun k hk=>?_,?_,?_,?_,?_⟩,rfl,fun k hk=>?_,rfl,fun k hk=>?_⟩
  ·have h4:k=0∨k=1∨k=2∨k=3:=by omega
   rcases h4 with rfl|rfl|rfl|rfl<;>simp[wqN,bqN,rqN]<;>grind
  ·simp[suQ,wqN,bqN,rqN]<;>grind
  ·simp[wsQ,wqN,bqN,rqN,atK]<;>grind
  ·simp[wsQ,wqN,bqN,rqN,atK]<;>grind
  ·simp[wsQ,wqN,bqN,rqN,atK]<;>grind
  ·have h4:k=0∨k=1∨k=2:=by omega
   rcases h4 with rfl|rfl|rfl<;>simp
  ·have h4:k=0∨k=1∨k=2∨k=3:=by omega
   rcases h4 with rfl|rfl|rfl|rfl<;>simp[atK]<;>omega
 ·refine⟨⟨fun k hk=>?_,?_,?_,?_,?_⟩,rfl,fun k hk=>?_,rfl,fun k hk=>?_⟩
  ·have h4:k=0∨k=1∨k=2∨k=3:=by omega
   rcases h4 with rfl|rfl|rfl|rfl<;>simp[wqN,bqN,rqN]<;>grind
  ·simp[suQ,wqN,bqN,rqN]<;>grind
  ·simp[wsQ,wqN,bqN,rqN,atK]<;>grind
  ·simp[wsQ,wqN,bqN,rqN,atK]<;>grind
  ·simp[wsQ,wqN,bqN,rqN,atK]<;>grind
  ·have h4:k=0∨k=1∨k=2:=by omega
   rcases h4 with rfl|rfl|rfl<;>simp
  ·have h4:k=0∨k=1∨k=2∨k=3:=by omega
   rcases h4 with rfl|rfl|rfl|rfl<;>simp[atK]<;>omega
theorem okF_40 {q:Rat}(h1:q.num.natAbs<10^40)(h2:q.den<10^40):okF q=true:=by
 unfold okF
 simp only[jiD,decide_eq_true_eq]
 exact⟨jiS (jaW 40 _ (by omega) h1).1 (by omega),jiS (jaW 40 _ (by omega) h2).1 (by omega)⟩
theorem divInt_40 (n d:Int)(hn : -10000000000000000000000000000000000000000<n∧n<10000000000000000000000000000000000000000)(hd:d≠0 ∧ -10000000000000000000000000000000000000000<d∧d<10000000000000000000000000000000000000000) :
  (Rat.divInt n d).num.natAbs<10^40∧(Rat.divInt n d).den<10^40:=by
 rcases (by omega:0<d∨d<0) with h|h
 ·obtain⟨k,rfl⟩:∃ k:Nat,d=k:=⟨d.toNat,by omega⟩
  have:=jeW n k (by omega)
  constructor
  ·exact Nat.lt_of_le_of_lt this.1 (by omega)
  ·exact Nat.lt_of_le_of_lt this.2 (by omega)
 ·rw[← Rat.neg_divInt_neg]
  obtain⟨k,hk⟩:∃ k:Nat, -d=k:=⟨(-d).toNat,by omega⟩
  rw[hk]
  have:=jeW (-n) k (by omega)
  constructor
  ·exact Nat.lt_of_le_of_lt this.1 (by omega)
  ·exact Nat.lt_of_le_of_lt this.2 (by omega)
theorem in01_c_o (s:List UInt8)(h:okW s=true):Cl 73 [.str s] (plD (wval s)):=by
 obtain⟨d,j,neg,S,e1,e2⟩:=sg_of s
 rw[e2]
 rw[e1] at h
 unfold okD at h
 simp only[jiD,Bool.not_eq_true',jiU,decide_eq_false_iff_not,jjd] at h
 exact in01_g s d j neg S h.1.2 (by omega) (by have:=S.hl;omega)
def whV (l:List Int):Int:=l.foldl (fun v x=>v*1000+x%1000) 0
theorem whV_snoc (l:List Int)(x:Int):whV (l++[x])=whV l*1000+x%1000:=by unfold whV;rw[List.foldl_append];rfl
theorem whV_take (xs:List Int)(k:Nat)(h:k<xs.length):whV (xs.take (k+1))=whV (xs.take k)*1000+xs.getD k 0%1000:=by
 rw[jjz,jjh h,← whV_snoc,jje,jjh h];rfl
theorem whV_bd:∀ (k:Nat) (xs:List Int),0≤whV (xs.take k)∧whV (xs.take k)<((1000^k:Nat):Int)
 | 0,xs=>by simp[whV]
 | k+1,xs=>by
  have ih:=whV_bd k xs
  have hp:(1000:Nat)^(k+1)=1000^k*1000:=Nat.pow_succ ..
  rw[hp]
  generalize (1000:Nat)^k=p at *
  rcases jiR k xs.length with h|h
  ·rw[whV_take xs k h]
   omega
  ·have e:xs.take (k+1)=xs.take k:=by rw[jjr (by omega),jjr h]
   rw[e]
   omega
theorem raised_c (k:Nat)(hk:k≤3):Cl 119 [plD 10,.int .i64 k] (plD ((10^k:Nat):Int)):=by
 have h1:=jbp 1 (by constructor<;>decide)
 have ht:∀ i,i<k→Cl 109 [plD ((10^i:Nat):Int),plD 10] (plD ((10^(i+1):Nat):Int)):=fun i hi=>by
  have:=ja5 ((10^i:Nat):Int) 10 (Sm.lit (k:=5) (by
   rcases (by omega:i=0∨i=1∨i=2) with e|e|e<;>subst e<;>decide) |>.mono (by omega)) ((Sm.lit (k:=5) (by decide)).mono (by omega))
  rw[Nat.pow_succ,jiW]
  exact this
 obtain⟨v,hv⟩:∃ v:Nat→Int,v=fun i=>((10^i:Nat):Int):=⟨_,rfl⟩
 have ht:∀ i,i<k→Cl 109 [plD (v i),plD 10] (plD (v (i+1))):=by rw[hv];exact ht
 have h1:Cl 75 [.int .i64 1] (plD (v 0)):=by rw[hv];exact h1
 rw[show ((10^k:Nat):Int)=v k by rw[hv]]
 clear hv
 obtain⟨ten,hten⟩:∃ z:Int,z=10:=⟨_,rfl⟩
 rw[← hten] at ht ⊢
 clear hten
 unfold plD at *
 refine V.en tbOk Tryz.func119 ?_
 (conv=>whnf)
 refine V.st ?_
 repeat ((try ((with_reducible refine .ext ?_);(conv=>whnf)));(with_reducible refine jaa (r:=?_) ?_ ?_);rotate_left;(focus (first|exact(h1)));(conv=>whnf);refine V.st ?_)
 refine jac (0:Nat) (fun i=>i≤k) (fun i=>k-i) (fun i=>[(6,.int .i64 i)]) (fun i=>[(5,.box [.bool (decide (v i<0)),.ints .i64 (mg 10000 (v i).natAbs)])]) ?_ ?_ ?_
 ·exact V.wk
 ·exact jiF _
 intro i hi
 have hic:((i:Int)+1)=((i+1:Nat):Int):=by omega
 have hti:=ht i
 (conv=>whnf)
 refine V.st ?_
 refine V.br (fun hq=>?_) (fun hq=>?_)
 ·rw[decide_eq_true_eq] at hq
  have hti:=hti (by omega)
  (conv=>whnf)
  (try simp only[hic])
  repeat ((first|refine V.s1 ?_|((with_reducible refine jak ?_ ?_);(focus ((conv=>whnf);(try simp only[hic]);(repeat ((first|refine V.s1 ?_);(try simp only[hic])));exact⟨rfl⟩));(conv=>whnf))|((try ((with_reducible refine .ext ?_);(conv=>whnf);(try simp only[hic])));(with_reducible refine jaa (r:=?_) ?_ ?_);rotate_left;(focus (first|exact(hti)));(conv=>whnf)));(try simp only[hic]))
  exact⟨i+1,by omega,by omega,V.wk⟩
 ·rw[decide_eq_false_iff_not] at hq
  obtain rfl:i=k:=by omega
  (conv=>whnf)
  refine V.st ?_
  exact Fin.of rfl
theorem dwhole_c (b:Bool)(xs:List Int)(z:Int)(hz:0≤z∧z≤3):∃ v:Int,(-10000000000000000000000000000000000000000<v∧v<10000000000000000000000000000000000000000) ∧
  Cl 74 [.agg [.bool b,.ints .u16 xs,.int .u16 z]] (.str (decZ v)):=by
 obtain⟨n,rfl⟩:∃ n:Nat,z=n:=⟨z.toNat,by omega⟩
 have hzm:(n:Int)%501=(n:Int):=by omega
 have i0:=jbp 0 (by constructor<;>decide)
 have i1:=jbp 1000 (by constructor<;>decide)
 have i2:=jbp 10 (by constructor<;>decide)
 have r1:=raised_c n (by omega)
 have p10:((10^n:Nat):Int)≤1000∧1≤((10^n:Nat):Int):=by
  rcases (by omega:n=0∨n=1∨n=2∨n=3) with e|e|e|e<;>subst e<;>decide
 generalize ((10^n:Nat):Int)=ten at *
 obtain⟨U,hU⟩:∃ U:Nat→Int,U=fun k=>whV (xs.take k):=⟨_,rfl⟩
 have bd:∀ k,k≤12→0≤U k∧U k<1000000000000000000000000000000000000:=fun k hk=>by
  have:=whV_bd k xs
  have h2:(1000:Nat)^k≤1000^12:=ji2 (by omega) hk
  rw[hU]
  exact⟨this.1,Int.lt_of_lt_of_le this.2 (Int.ofNat_le.2 h2)⟩
 have st:∀ k,k<xs.length→U (k+1)=U k*1000+xs.getD k 0%1000:=fun k hk=>by rw[hU];exact whV_take xs k hk
 have V0:U 0=0:=by rw[hU];rfl
 have Vn:∀ k,¬ (k<12∧k<xs.length)→k≤12→U k=U 12:=fun k h1 h2=>by
  rw[hU]
  show whV (xs.take k)=whV (xs.take 12)
  rcases (by omega:k=12∨xs.length≤k) with e|e
  ·rw[e]
  ·rw[jjr e,jjr (by omega)]
 clear hU
 have sm:∀ a:Int,0≤a→a<1000000000000000000000000000000000000000→Sm 10 a:=fun a h1 h2=>Sm.lit (by omega)
 have sm2:∀ a:Int,0≤a→a<1000000000000000000000000000000000000000→(mg 10000 a.natAbs).length≤10:=sm
 have hb:=bd 12 (by omega)
 have hfin:0≤U 12*ten∧U 12*ten<1000000000000000000000000000000000000000:=by
  have h1:=jiH hb.1 (show 0≤ten by omega)
  have h2:=ji0 p10.1 hb.1
  omega
 have t9:=ja5 (U 12) ten ((sm _ hb.1 (by omega)).mono (by omega)) ((sm _ (by omega) (by omega)).mono (by omega))
 obtain⟨w,hw⟩:∃ w:Int,U 12*ten=w:=⟨_,rfl⟩
 rw[hw] at t9 hfin
 have m1:=jc9 b w.natAbs (by have:=sm2 w hfin.1 hfin.2;omega)
 rw[show ((w.natAbs:Nat):Int)=w by omega] at m1
 have hv : -1000000000000000000000000000000000000000<(if b=true then -w else w)∧(if b=true then -w else w)<1000000000000000000000000000000000000000:=by split<;>omega
 refine⟨if b=true then -w else w,by omega,?_⟩
 generalize (if b=true then -w else w)=v at *
 have o1:=out_c v (Sm.lit (k:=10) (by omega) |>.mono (by omega))
 have hd:=(jaW 40 v.natAbs (by omega) (by omega)).1
 rw[if_neg (by omega),if_neg (by omega)] at o1
 obtain⟨k1000,hk1000⟩:∃ q:Int,q=1000:=⟨_,rfl⟩
 obtain⟨k10,hk10⟩:∃ q:Int,q=10:=⟨_,rfl⟩
 have tk:∀ k,k≤12→Cl 109 [plD (U k),plD k1000] (plD (U k*1000)):=fun k hk=>by
  rw[hk1000]
  exact ja5 (U k) 1000 ((sm _ (bd k hk).1 (by have:=(bd k hk).2;omega)).mono (by omega)) ((sm _ (by omega) (by omega)).mono (by omega))
 have i1:Cl 75 [.int .i64 1000] (plD k1000):=by rw[hk1000];exact i1
 have i2:Cl 75 [.int .i64 10] (plD k10):=by rw[hk10];exact i2
 have r1:Cl 119 [plD k10,.int .i64 n] (plD ten):=by rw[hk10];exact r1
 have i0:Cl 75 [.int .i64 0] (plD (U 0)):=by rw[V0];exact i0
 clear hk1000 hk10 hb hfin hv hw hd V0 p10
 unfold plD at i0 i1 i2 r1 tk t9 m1 o1
 refine V.en tbOk Tryz.func74 ?_
 (conv=>whnf)
 refine V.st ?_
 repeat ((try ((with_reducible refine .ext ?_);(conv=>whnf)));(with_reducible refine jaa (r:=?_) ?_ ?_);rotate_left;(focus (first|exact(i0)));(conv=>whnf);refine V.st ?_)
 refine jac (0:Nat) (fun k=>k≤12∧k≤xs.length) (fun k=>12-k) (fun k=>[(4,.int .i64 k)]) (fun k=>[(3,.box [.bool (decide (U k<0)),.ints .i64 (mg 10000 (U k).natAbs)])]) ?_ ?_ ?_
 ·exact V.wk
 ·exact⟨by omega,by omega⟩
 intro k hk
 have hkc:((k:Int)+1)=((k+1:Nat):Int):=by omega
 (conv=>whnf)
 refine V.st ?_
 refine V.br (fun hq=>?_) (fun hq=>?_)
 ·simp only[jiD,decide_eq_true_eq] at hq
  obtain⟨x,hx,ex⟩:=getxn (xs:=xs) (k:=k) (by omega)
  have hst:=st k (by omega)
  rw[ex] at hst
  have hbk:=bd k (by omega)
  have hbk1:=bd (k+1) (by omega)
  have h1:=tk k (by omega)
  have h2:=jbp (x%1000) (by simp only[InR,V.lo,V.hi];omega)
  have h3:=jgw (U k*1000) (x%1000) ((sm _ (by omega) (by omega)).mono (by omega)) ((sm _ (by omega) (by omega)).mono (by omega))
  rw[← hst] at h3
  unfold plD at h2 h3
  obtain⟨r,hr⟩:∃ r,x%1000=r:=⟨_,rfl⟩
  rw[hr] at h2 h3
  (conv=>whnf)
  refine V.st ?_
  refine⟨(V.tk [0,3,4,5,6,7,8,9] (V.e1 1 [9,8,7,6,5,4,3,0] (V.e1 2 [9,8,7,6,5,4,3] (V.e1 10 [] (V.e1 11 [] (V.e1 12 [] .done)))))),[],V.pok,.go (jad ?_)⟩
  (conv=>whnf)
  (try simp only[jiK,ex,hr,hkc])
  repeat ((first|refine V.s1 ?_|((with_reducible refine jak ?_ ?_);(focus ((conv=>whnf);(try simp only[jiK,ex,hr,hkc]);(repeat ((first|refine V.s1 ?_);(try simp only[jiK,ex,hr,hkc])));exact⟨rfl⟩));(conv=>whnf))|((try ((with_reducible refine .ext ?_);(conv=>whnf);(try simp only[jiK,ex,hr,hkc])));(with_reducible refine jaa (r:=?_) ?_ ?_);rotate_left;(focus (first|exact(i1)|exact(h1)|exact(h2)|exact(h3)));(conv=>whnf)));(try simp only[jiK,ex,hr,hkc]))
  exact⟨k+1,⟨by omega,by omega⟩,by omega,V.wk⟩
 ·have hk12:U k=U 12:=Vn k (fun h=>by rw[Bool.and_eq_false_iff,decide_eq_false_iff_not,decide_eq_false_iff_not] at hq;omega) hk.1
  rw[hk12]
  (conv=>whnf)
  refine V.st ?_
  refine⟨(V.tk [0,2,3,4,5] (V.e1 1 [5,4,3,2,0] (V.e1 6 [0] (V.e1 7 [] (V.e1 8 [] .done))))),[],V.pok,.go (jad ?_)⟩
  (conv=>whnf)
  (try simp only[hzm])
  repeat ((first|refine V.s1 ?_|((with_reducible refine jak ?_ ?_);(focus ((conv=>whnf);(try simp only[hzm]);(repeat ((first|refine V.s1 ?_);(try simp only[hzm])));exact⟨rfl⟩));(conv=>whnf))|((try ((with_reducible refine .ext ?_);(conv=>whnf);(try simp only[hzm])));(with_reducible refine jaa (r:=?_) ?_ ?_);rotate_left;(focus (first|exact(i2)|exact(r1)|exact(t9)));(conv=>whnf)));(try simp only[hzm]))
  (conv=>whnf)
  refine V.st ?_
  repeat ((try ((with_reducible refine .ext ?_);(conv=>whnf)));(with_reducible refine jaa (r:=?_) ?_ ?_);rotate_left;(focus (first|exact(m1)|exact(o1)));(conv=>whnf);refine V.st ?_)
  exact Fin.of rfl
theorem jhR (b:Bool)(xs:List Int)(z:Int)(b2:Bool)(xs2:List Int)(z2:Int)(hz:0≤z∧z≤65535)(hz2:0≤z2∧z2≤65535):∃ q:Rat,okF q=true ∧
  Cl 43 [.agg [.bool b,.ints .u16 xs,.int .u16 z,.bool b2,.ints .u16 xs2,.int .u16 z2]] (frT_o q):=by
 obtain⟨r,hr⟩:∃ r,z%4=r:=⟨_,rfl⟩
 obtain⟨r2,hr2⟩:∃ r,z2%4=r:=⟨_,rfl⟩
 obtain⟨v,hv,w1⟩:=dwhole_c b xs r (by omega)
 obtain⟨v2,hv2,w2⟩:=dwhole_c b2 xs2 r2 (by omega)
 obtain⟨y,hy⟩:∃ y,y=if v2=0 then 1 else v2:=⟨_,rfl⟩
 have hy0:y≠0 ∧ -10000000000000000000000000000000000000000<y∧y<10000000000000000000000000000000000000000:=by
  rw[hy];split<;>omega
 have n40:=divInt_40 v y hv hy0
 have hok:=okF_40 n40.1 n40.2
 have l40:∀ a:Int,(-10000000000000000000000000000000000000000<a∧a<10000000000000000000000000000000000000000)→Sm 10 a∧(dec a.natAbs).length≤600:=fun a ha=>
  ⟨Sm.lit (by omega),jiS (jaW 40 a.natAbs (by omega) (by omega)).1 (by omega)⟩
 have i1:=in01_c_o (decZ v) (jbI v (l40 v hv).2)
 have i2:=in01_c_o (decZ v2) (jbI v2 (l40 v2 hv2).2)
 rw[jbl] at i1 i2
 have k1:=jbp 1 (by constructor<;>decide)
 have lw:=jeg v y ((l40 v hv).1.mono (by omega)) ((l40 y hy0.2).1.mono (by omega)) hy0.1
 have q4:Q4 10 (Rat.divInt v y):=Q4.of (l40 v hv).1 (l40 y hy0.2).1 hy0.1
 have o1:=jf2 (Rat.divInt v y) (q4.1.mono (by omega)) (q4.2.mono (by omega))
 unfold frR at o1
 rw[hok] at o1
 simp only[cond_true] at o1
 refine⟨_,hok,?_⟩
 have hnil:=jb2 (B:=10000) (n:=v2.natAbs) (by omega)
 clear q4 hok n40 l40
 generalize Rat.divInt v y=q at *
 unfold frT_o raD plD at *
 generalize decZ v=t1 at *
 generalize decZ v2=t2 at *
 refine V.en tbOk Tryz.func43 ?_
 (conv=>whnf)
 refine V.st ?_
 refine⟨(V.tk [0,1,2,3] (.ev (.cons 4 [3,2,1,0] (V.e1 5 [3,2,1,0] (V.e1 6 [3,2] (V.e1 7 [] .done))) (.cons 5 [3,2,1,0] (V.e1 4 [3,2,1,0] (V.e1 6 [3,2] (V.e1 7 [] .done))) .nil)))),[],V.pok,?_⟩
 refine jab [(3,.box 3 0),(4,.box 4 0)] [(3,.box [.bool b,.ints .u16 xs,.int .u16 z]),(4,.box [.bool b2,.ints .u16 xs2,.int .u16 z2])] ?_ ?_
 ·exact V.d0 @jiI
 (conv=>whnf)
 refine V.st ?_
 refine⟨(V.tk [0,1,2,3,4,5,6] (V.e1 7 [5,4,3] (V.tk [8] (V.e1 9 [] .done)))),[],V.pok,?_⟩
 refine jab [] [(3,.box [.bool b,.ints .u16 xs,.int .u16 r]),(4,.box [.bool b2,.ints .u16 xs2,.int .u16 r2])] ?_ ?_
 ·exact V.d0 (V.a3 @jiI hr hr2)
 (conv=>whnf)
 refine V.st ?_
 refine⟨(V.tk [0,3] (.ev (.cons 1 [3] (.ev (.cons 2 [3] (.ev (.cons 4 [] (.ev (.cons 5 [] (.ev (.cons 6 [] (V.e1 7 [] (V.e1 8 [] (V.e1 9 [] .done))) (.cons 7 [] (V.e1 6 [] (V.e1 8 [] (V.e1 9 [] .done))) .nil))) (.cons 6 [] (.ev (.cons 5 [] (V.e1 7 [] (V.e1 8 [] (V.e1 9 [] .done))) (.cons 7 [] (V.e1 5 [] (V.e1 8 [] (V.e1 9 [] .done))) .nil))) (.cons 7 [] (.ev (.cons 5 [] (V.e1 6 [] (V.e1 8 [] (V.e1 9 [] .done))) (.cons 6 [] (V.e1 5 [] (V.e1 8 [] (V.e1 9 [] .done))) .nil))) .nil)))) (.cons 6 [3] (.ev (.cons 4 [] (.ev (.cons 5 [] (V.e1 7 [] (V.e1 8 [] (V.e1 9 [] .done))) (.cons 7 [] (V.e1 5 [] (V.e1 8 [] (V.e1 9 [] .done))) .nil))) (.cons 7 [3] (V.e1 4 [] (V.e1 5 [] (V.e1 8 [] (V.e1 9 [] .done)))) .nil))) (.cons 7 [3] (.ev (.cons 4 [] (.ev (.cons 5 [] (V.e1 6 [] (V.e1 8 [] (V.e1 9 [] .done))) (.cons 6 [] (V.e1 5 [] (V.e1 8 [] (V.e1 9 [] .done))) .nil))) (.cons 6 [3] (V.e1 4 [] (V.e1 5 [] (V.e1 8 [] (V.e1 9 [] .done)))) .nil))) .nil)))) (.cons 6 [3] (.ev (.cons 2 [3] (.ev (.cons 4 [] (.ev (.cons 5 [] (V.e1 7 [] (V.e1 8 [] (V.e1 9 [] .done))) (.cons 7 [] (V.e1 5 [] (V.e1 8 [] (V.e1 9 [] .done))) .nil))) (.cons 7 [3] (V.e1 4 [] (V.e1 5 [] (V.e1 8 [] (V.e1 9 [] .done)))) .nil))) (.cons 7 [3] (V.e1 2 [3] (V.e1 4 [] (V.e1 5 [] (V.e1 8 [] (V.e1 9 [] .done))))) .nil))) (.cons 7 [3] (.ev (.cons 2 [3] (.ev (.cons 4 [] (.ev (.cons 5 [] (V.e1 6 [] (V.e1 8 [] (V.e1 9 [] .done))) (.cons 6 [] (V.e1 5 [] (V.e1 8 [] (V.e1 9 [] .done))) .nil))) (.cons 6 [3] (V.e1 4 [] (V.e1 5 [] (V.e1 8 [] (V.e1 9 [] .done)))) .nil))) (.cons 6 [3] (V.e1 2 [3] (V.e1 4 [] (V.e1 5 [] (V.e1 8 [] (V.e1 9 [] .done))))) .nil))) .nil)))) (.cons 6 [3,0] (.ev (.cons 1 [3] (.ev (.cons 2 [3] (.ev (.cons 4 [] (.ev (.cons 5 [] (V.e1 7 [] (V.e1 8 [] (V.e1 9 [] .done))) (.cons 7 [] (V.e1 5 [] (V.e1 8 [] (V.e1 9 [] .done))) .nil))) (.cons 7 [3] (V.e1 4 [] (V.e1 5 [] (V.e1 8 [] (V.e1 9 [] .done)))) .nil))) (.cons 7 [3] (V.e1 2 [3] (V.e1 4 [] (V.e1 5 [] (V.e1 8 [] (V.e1 9 [] .done))))) .nil))) (.cons 7 [3,0] (V.e1 1 [3] (V.e1 2 [3] (V.e1 4 [] (V.e1 5 [] (V.e1 8 [] (V.e1 9 [] .done)))))) .nil))) (.cons 7 [3,0] (.ev (.cons 1 [3] (.ev (.cons 2 [3] (.ev (.cons 4 [] (.ev (.cons 5 [] (V.e1 6 [] (V.e1 8 [] (V.e1 9 [] .done))) (.cons 6 [] (V.e1 5 [] (V.e1 8 [] (V.e1 9 [] .done))) .nil))) (.cons 6 [3] (V.e1 4 [] (V.e1 5 [] (V.e1 8 [] (V.e1 9 [] .done)))) .nil))) (.cons 6 [3] (V.e1 2 [3] (V.e1 4 [] (V.e1 5 [] (V.e1 8 [] (V.e1 9 [] .done))))) .nil))) (.cons 6 [3,0] (V.e1 1 [3] (V.e1 2 [3] (V.e1 4 [] (V.e1 5 [] (V.e1 8 [] (V.e1 9 [] .done)))))) .nil))) .nil))))),[],V.pok,?_⟩
 refine jab [(5,.box 5 0),(6,.box 6 0)] [(5,.box [.bool (decide (v<0)),.ints .i64 (mg 10000 v.natAbs)]),(6,.box [.bool (decide (v2<0)),.ints .i64 (mg 10000 v2.natAbs)])] ?_ ?_
 ·exact V.d4 @jiI w1 w2 i1 i2
 (conv=>whnf)
 refine V.st ?_
 refine V.br (fun hq=>?_) (fun hq=>?_)
 ·have h0:v2=0:=by
   rw[decide_eq_true_eq] at hq
   have:=hnil.1 (jjf.1 (by omega))
   omega
  rw[if_pos h0] at hy
  subst hy
  (conv=>whnf)
  refine V.st ?_
  repeat ((try ((with_reducible refine .ext ?_);(conv=>whnf)));(with_reducible refine jaa (r:=?_) ?_ ?_);rotate_left;(focus (first|exact(k1)|exact(lw)|exact(o1)));(conv=>whnf);refine V.st ?_)
  exact Fin.of rfl
 ·have h0:v2≠0:=fun h=>by
   rw[decide_eq_false_iff_not] at hq
   exact hq (by rw[hnil.2 (by omega)];rfl)
  rw[if_neg h0] at hy
  subst hy
  (conv=>whnf)
  refine V.st ?_
  repeat ((try ((with_reducible refine .ext ?_);(conv=>whnf)));(with_reducible refine jaa (r:=?_) ?_ ?_);rotate_left;(focus (first|exact(lw)|exact(o1)));(conv=>whnf);refine V.st ?_)
  exact Fin.of rfl
def axq (a:Nat→Int)(i:Nat):Rat:=Rat.divInt (a i) 840
def cxq (a:Nat→Int)(i:Nat):Rat:=Rat.divInt (IntKind.wrap .u16 (a i)%841) 840
theorem cxq_bd (a:Nat→Int)(i:Nat):0≤cxq a i∧cxq a i≤1:=by
 have h:0≤IntKind.wrap .u16 (a i)%841∧IntKind.wrap .u16 (a i)%841≤840:=by omega
 unfold cxq
 generalize IntKind.wrap .u16 (a i)%841=v at h
 have e:Rat.divInt v 840=(v:Rat)/840:=by rw[Rat.divInt_eq_div];rfl
 have h0:(0:Rat)≤(v:Rat):=by exact_mod_cast h.1
 have h1:(v:Rat)≤840:=by exact_mod_cast h.2
 rw[e]
 constructor<;>grind
theorem cxq_fq (a:Nat→Int)(i:Nat):Fq 40 (cxq a i):=by
 have h:0≤IntKind.wrap .u16 (a i)%841∧IntKind.wrap .u16 (a i)%841≤840:=by omega
 exact(jaN (n:=4) (d:=840) (by decide) (by omega) (by decide)).mono (by decide)
theorem colorq1 {at' z1 z2 : Nat → Int} (b1 b2 : Nat → Bool) (p1 p2 : Nat → List Int) (ha : ∀ i, -32768 ≤ at' i ∧ at' i ≤ 32767) (h1 : ∀ i, 0 ≤ z1 i ∧ z1 i ≤ 65535) (h2 : ∀ i, 0 ≤ z2 i ∧ z2 i ≤ 65535) :
    ∃ X : Nat → Tx, Cl 13 [(colD at' z1 z2 b1 b2 p1 p2), .int .i64 1] (.agg [slQ (fun i => txq (axq at' i)) 1, slQ X 1, slQ (fun i => txq (cxq at' i)) 1]) := by
  have hx : ∀ i, ∃ q : Rat, Cl 43 [.agg [.bool (b1 i), .ints .u16 (p1 i), .int .u16 (z1 i), .bool (b2 i), .ints .u16 (p2 i), .int .u16 (z2 i)]] (.agg [.str (txq q).1, .str (txq q).2]) := fun i => by
    obtain ⟨q, _, c⟩ := jhR (b1 i) (p1 i) (z1 i) (b2 i) (p2 i) (z2 i) (h1 i) (h2 i)
    exact ⟨q, c⟩
  obtain ⟨q, hq⟩ := Classical.axiomOfChoice hx
  exact ⟨fun i => txq (q i), color1_t at' z1 z2 b1 b2 p1 p2 (fun i => txq (axq at' i)) (fun i => txq (q i)) (fun v => txq (Rat.divInt (v % 841) 840))
    (fun i _ => lof_c (n := at' i) (m := 840) (by have := ha i; omega) (by omega)) (fun i _ => hq i) (fun v => lof_c (n := v % 841) (m := 840) (by omega) (by omega))⟩
theorem colorq2 {at' z1 z2 : Nat → Int} (b1 b2 : Nat → Bool) (p1 p2 : Nat → List Int) (ha : ∀ i, -32768 ≤ at' i ∧ at' i ≤ 32767) (h1 : ∀ i, 0 ≤ z1 i ∧ z1 i ≤ 65535) (h2 : ∀ i, 0 ≤ z2 i ∧ z2 i ≤ 65535) :
    ∃ X : Nat → Tx, Cl 13 [(colD at' z1 z2 b1 b2 p1 p2), .int .i64 2] (.agg [slQ (fun i => txq (axq at' i)) 2, slQ X 2, slQ (fun i => txq (cxq at' i)) 2]) := by
  have hx : ∀ i, ∃ q : Rat, Cl 43 [.agg [.bool (b1 i), .ints .u16 (p1 i), .int .u16 (z1 i), .bool (b2 i), .ints .u16 (p2 i), .int .u16 (z2 i)]] (.agg [.str (txq q).1, .str (txq q).2]) := fun i => by
    obtain ⟨q, _, c⟩ := jhR (b1 i) (p1 i) (z1 i) (b2 i) (p2 i) (z2 i) (h1 i) (h2 i)
    exact ⟨q, c⟩
  obtain ⟨q, hq⟩ := Classical.axiomOfChoice hx
  exact ⟨fun i => txq (q i), color2_t at' z1 z2 b1 b2 p1 p2 (fun i => txq (axq at' i)) (fun i => txq (q i)) (fun v => txq (Rat.divInt (v % 841) 840))
    (fun i _ => lof_c (n := at' i) (m := 840) (by have := ha i; omega) (by omega)) (fun i _ => hq i) (fun v => lof_c (n := v % 841) (m := 840) (by omega) (by omega))⟩
theorem colorq3 {at' z1 z2 : Nat → Int} (b1 b2 : Nat → Bool) (p1 p2 : Nat → List Int) (ha : ∀ i, -32768 ≤ at' i ∧ at' i ≤ 32767) (h1 : ∀ i, 0 ≤ z1 i ∧ z1 i ≤ 65535) (h2 : ∀ i, 0 ≤ z2 i ∧ z2 i ≤ 65535) :
    ∃ X : Nat → Tx, Cl 13 [(colD at' z1 z2 b1 b2 p1 p2), .int .i64 3] (.agg [slQ (fun i => txq (axq at' i)) 3, slQ X 3, slQ (fun i => txq (cxq at' i)) 3]) := by
  have hx : ∀ i, ∃ q : Rat, Cl 43 [.agg [.bool (b1 i), .ints .u16 (p1 i), .int .u16 (z1 i), .bool (b2 i), .ints .u16 (p2 i), .int .u16 (z2 i)]] (.agg [.str (txq q).1, .str (txq q).2]) := fun i => by
    obtain ⟨q, _, c⟩ := jhR (b1 i) (p1 i) (z1 i) (b2 i) (p2 i) (z2 i) (h1 i) (h2 i)
    exact ⟨q, c⟩
  obtain ⟨q, hq⟩ := Classical.axiomOfChoice hx
  exact ⟨fun i => txq (q i), color3_t at' z1 z2 b1 b2 p1 p2 (fun i => txq (axq at' i)) (fun i => txq (q i)) (fun v => txq (Rat.divInt (v % 841) 840))
    (fun i _ => lof_c (n := at' i) (m := 840) (by have := ha i; omega) (by omega)) (fun i _ => hq i) (fun v => lof_c (n := v % 841) (m := 840) (by omega) (by omega))⟩
end Go.Proofs.YtgjgpdceghjajaaGreatDoor
end
section
namespace Go.Proofs.YtgjgpdceghjajaaGreatDoor
open Go Go.V Go.Nb Go.Gr
abbrev zA (a:Nat)(t:Nat→Int):List Int:=[spB (a:Int) (cxq t 0)]
abbrev zB (a b:Nat)(t:Nat→Int):List Int:=[spB (a:Int) (cxq t 0),spB (b:Int) (cxq t 1)]
abbrev zC (a b c:Nat)(t:Nat→Int):List Int:=[spB (a:Int) (cxq t 0),spB (b:Int) (cxq t 1),spB (c:Int) (cxq t 2)]
abbrev zD (d:List Int)(s:List Nat)(z O:List Int)(k n:Nat):List Int:=slot d (pz ((nz s).zip (atK z O k))*n) n
theorem nearU_bd {x:Rat}(h0:0≤x)(h1:x≤1):0≤nearZ x 65535∧nearZ x 65535≤65535:=by
 have hd:(0:Int)<x.den:=by have:=x.den_pos;omega
 have hn:0≤x.num:=Rat.num_nonneg.2 h0
 have hn1:x.num≤x.den:=by
  have:=Rat.le_iff (a:=x) (b:=1) |>.1 h1
  simpa using this
 unfold nearZ
 have e1:((65535*2:Nat):Int)=131070:=rfl
 have e2:((x.den*2:Nat):Int)=2*(x.den:Int):=by push_cast;omega
 rw[e1,e2]
 refine⟨Int.ediv_nonneg (by omega) (by omega),?_⟩
 have:(x.num*131070+x.den)/(2*(x.den:Int))<65536:=Int.ediv_lt_of_lt_mul (by omega) (by omega)
 omega
theorem near_q {n:Nat}{x:Rat}(h:Fq n x)(h0:0<n∧n≤600)(hb:0≤x∧x≤1):Cl 68 [frT x,.int .i64 65535] (.tup [.int .i64 (nearZ x 65535),.int .i64 0]):=by
 have o:=jaL (h.ok h0.1 h0.2)
 have b:=nearU_bd hb.1 hb.2
 have c:=near_f (decZ x.num) (dec x.den) 65535 o.1 (by omega) (by omega) (by rw[o.2];omega)
 rw[o.2] at c
 exact c
def xR (ts:List Nat)(m i:Nat):Rat:=Rat.divInt ((pad4 (ixl ts m)).getD i 0) ((nz ts).getD i 0-1)
def rfW (zs:List Int)(out:Int)(data:List Int)(ts:List Nat)(m j:Nat):Int:=nearZ (evQ zs out data (xR ts m 0) (xR ts m 1) (xR ts m 2) j) 65535
def rfD (zs:List Int)(out:Int)(data:List Int)(ts:List Nat):List Int:=flat ts (fun m=>(List.range out.toNat).map (rfW zs out data ts m)) (PR ts)
theorem jeB (l:List Int)(i:Nat):(pad4 l).getD i 0=l.getD i 0:=by
 unfold pad4
 rw[jje,jje]
 rcases jiR i l.length with h|h
 ·rw[jjm h]
 ·rw[List.getElem?_append_right h,List.getElem?_eq_none h]
  cases e:(List.replicate (4-l.length) (0:Int))[i-l.length]? with
  | none=>rfl
  | some v=>have:=jji e;rw[List.mem_replicate] at this;rw[this.2];rfl
theorem xR_off {ts:List Nat}{m i:Nat}(h:ts.length≤i):xR ts m i=0:=by
 unfold xR
 rw[jeB,jje,List.getElem?_eq_none (by rw[jat];exact h)]
 simp
theorem xR_at {ts:List Nat}{m i n:Nat}(h2:∀ n∈ts,2≤n∧n≤9)(h:ts[i]? = some n):∃ a:Int,(pad4 (ixl ts m)).getD i 0=a∧(ixl ts m).getD i 0=a∧(0≤a∧a≤(n:Int)-1)∧(nz ts).getD i 0=n∧xR ts m i=Rat.divInt a ((n:Int)-1):=by
 have e:=jf9 ts m i n h
 have b:=jeJ (m:=m) (fun n hn=>by have:=h2 n hn;omega) h e
 have en:(nz ts).getD i 0=n:=by simp[nz,jje,h]
 have e1:(ixl ts m).getD i 0=((m/PR (ts.drop (i+1))%n:Nat):Int):=by rw[jje,e];rfl
 exact⟨_,by rw[jeB,e1],e1,b,en,by unfold xR;rw[jeB,e1,en]⟩
theorem xR_fq {ts:List Nat}(h2:∀ n∈ts,2≤n∧n≤9)(m i:Nat):Fq 40 (xR ts m i):=by
 rcases jiR i ts.length with h|h
 ·have hn:=jjh h
  have hb:=h2 _ (List.getElem_mem h)
  obtain⟨a,_,_,ha,_,e⟩:=xR_at (m:=m) h2 hn
  rw[e]
  generalize ts[i]=n at *
  obtain⟨d,hd⟩:∃ d:Nat,(n:Int)-1=(d:Int):=⟨n-1,by omega⟩
  rw[hd]
  refine jaN (by omega) ?_ ?_
  ·exact Nat.lt_of_le_of_lt (show a.natAbs≤9 by omega) (by decide)
  ·exact Nat.lt_of_le_of_lt (show d≤9 by omega) (by decide)
 ·rw[xR_off h];exact⟨by decide,by decide⟩
theorem ev_unit2 {z0 z1 out:Int}{data:List Int}(hg:jao [z0,z1] out data=true)(x0 x1:Rat){j:Nat}(hj:j<out.toNat):0≤evQ [z0,z1] out data x0 x1 0 j∧evQ [z0,z1] out data x0 x1 0 j≤1:=by
 obtain⟨b1,b2⟩:=ev_in2 (x0:=x0) (x1:=x1) hg hj
 obtain⟨r1,r2,_⟩:=jgt hg hj
 rw[divF] at b1
 generalize (loL out data).getD j 0=a at *
 generalize (hiL out data).getD j 0=b at *
 have a0:(0:Rat)≤(a:Rat):=Rat.intCast_le_intCast.2 r1.1
 have b0:(b:Rat)≤65535:=by
  have:=Rat.intCast_le_intCast.2 r2.2
  rwa [show ((65535:Int):Rat)=65535 from by decide +kernel] at this
 rw[divF] at b2
 constructor<;>grind
theorem rfW2 {z0 z1 out:Int}{data:List Int}{ts:List Nat}(ht:ts.length=2)(m j:Nat):rfW [z0,z1] out data ts m j=nearZ (evQ [z0,z1] out data (xR ts m 0) (xR ts m 1) 0 j) 65535:=by
 unfold rfW
 rw[xR_off (i:=2) (by omega)]
theorem refq2 {z0 z1 out:Int}{data:List Int}(hg:jao [z0,z1] out data=true)(ts:List Nat)(ht:ts.length=2)(h2:∀ n∈ts,2≤n∧n≤9)(hc:cnP out ts 2≤4096):Cl 33 [gridD [z0,z1] out data,.ints .i64 (nz ts)] (.tup [gridD (nz ts) out (rfD [z0,z1] out data ts),.int .i64 0]):=by
 have ho:=(jaF hg).1
 have hl:=(jaF hg).2.2.1.1
 have fx:=fun m i=>xR_fq h2 m i
 have ck:=Called.cast (jcR [z0,z1] out data (by simp) (by omega)) (by rw[hg];first|done|rfl)
 refine refine2_t [z0,z1] data out ts (fun m i=>txq (xR ts m i)) (fun m j=>txq (evQ [z0,z1] out data (xR ts m 0) (xR ts m 1) 0 j)) (rfW [z0,z1] out data ts) rfl ht h2 ho hc ck (fun m i hm hi=>?_) (fun m hm=>evalq2 hg (fx m 0) (fx m 1)) (fun m j hm hj=>?_)
 ·obtain⟨n,hn⟩:∃ n,ts[i]? = some n:=⟨ts[i],jjh (by omega)⟩
  obtain⟨a,e1,e2,ha,e3,e4⟩:=xR_at (m:=m) h2 hn
  have hb:=h2 n (jji hn)
  have c:=jfp (n:=a) (m:=(n:Int)-1) (by omega) (by omega)
  rw[e1,e3]
  rw[← e4] at c
  exact c
 ·rw[rfW2 ht]
  exact near_q (fq_ev2 hg (fx m 0) (fx m 1) j) (by decide) (ev_unit2 hg (xR ts m 0) (xR ts m 1) hj)
theorem jie:type_of% @jiI∧type_of% @tn0∧type_of% @tn1∧type_of% @tn2∧type_of% @tn3∧type_of% @xt4:=⟨@jiI,@tn0,@tn1,@tn2,@tn3,@xt4⟩
theorem wakes_t (Q:Nat→Tx)
  (o0:Cl 18 [.int .i64 1,.int .i64 2] (.agg [.str (Q 0).1,.str (Q 0).2]))
  (o1:Cl 18 [.int .i64 1,.int .i64 4] (.agg [.str (Q 1).1,.str (Q 1).2]))
  (o2:Cl 18 [.int .i64 7,.int .i64 20] (.agg [.str (Q 2).1,.str (Q 2).2]))
  (o3:Cl 18 [.int .i64 3,.int .i64 10] (.agg [.str (Q 3).1,.str (Q 3).2]))
  (o4:Cl 18 [.int .i64 1,.int .i64 1] (.agg [.str (Q 4).1,.str (Q 4).2]))
  (o5:Cl 18 [.int .i64 2,.int .i64 1] (.agg [.str (Q 5).1,.str (Q 5).2]))
  (fo:Cl 31 [] (.agg [.ints .i64 [2,2],.int .i64 1,.ints .i64 [0,13107,26214,65535]]))
  (ce:Cl 17 [.agg [.ints .i64 [2,2],.int .i64 1,.ints .i64 [0,13107,26214,65535]],V.sl2 2 [.str (Q 0).1,.str (Q 0).2,.str (Q 1).1,.str (Q 1).2]] (.tup [.ints .i64 [0,0],.ints .i64 [0,1],V.sl2 3 [.str (Q 0).1,.str (Q 0).2,.str (Q 1).1,.str (Q 1).2,.str (Q 1).1,.str (Q 1).2],.int .i64 0]))
  (st:Cl 32 [.agg [.ints .i64 [2,2],.int .i64 1,.ints .i64 [0,13107,26214,65535]]] (.tup [.slf 1 1 (fun j=>List.take 1 (List.drop (j*1) [.ints .i64 [52428,39321]])),.int .i64 0]))
  (b1:Cl 29 [.agg [.ints .i64 [2,2],.int .i64 1,.ints .i64 [0,13107,26214,65535]],V.sl2 2 [.int .i64 500000000000,.int .i64 500000000000,.int .i64 250000000000,.int .i64 250000000000]] (.tup [V.sl2 1 [.int .i64 350000000000,.int .i64 350000000000],.int .i64 0]))
  (b2:Cl 29 [.agg [.ints .i64 [2,2],.int .i64 1,.ints .i64 [0,13107,26214,65535]],V.sl2 2 [.int .i64 250000000000,.int .i64 750000000000,.int .i64 250000000000,.int .i64 250000000000]] (.tup [V.sl2 1 [.int .i64 150000000000,.int .i64 550000000000],.int .i64 0]))
  (re:Cl 33 [.agg [.ints .i64 [2,2],.int .i64 1,.ints .i64 [0,13107,26214,65535]],.ints .i64 [3,2]] (.tup [.agg [.ints .i64 [3,2],.int .i64 1,.ints .i64 [0,13107,13107,39321,26214,65535]],.int .i64 0]))
  (ee:Cl 15 [.agg [.ints .i64 [2,2],.int .i64 1,.ints .i64 [0,13107,26214,65535]],V.sl2 1 [.str (Q 0).1,.str (Q 0).2]] (.tup [.nil,.int .i64 2]))
  (v0:Cl 26 [.agg [.ints .i64 [2,2],.int .i64 1,.ints .i64 [0,13107,26214,65535]],.agg [.str (Q 2).1,.str (Q 2).2],V.sl2 2 [.str (Q 0).1,.str (Q 0).2,.str (Q 1).1,.str (Q 1).2]] (.bool true))
  (v1:Cl 26 [.agg [.ints .i64 [2,2],.int .i64 1,.ints .i64 [0,13107,26214,65535]],.agg [.str (Q 3).1,.str (Q 3).2],V.sl2 2 [.str (Q 1).1,.str (Q 1).2,.str (Q 0).1,.str (Q 0).2]] (.bool true))
  (v2:Cl 26 [.agg [.ints .i64 [2,2],.int .i64 1,.ints .i64 [0,13107,26214,65535]],.agg [.str (Q 4).1,.str (Q 4).2],V.sl2 2 [.str (Q 5).1,.str (Q 5).2,.str (Q 4).1,.str (Q 4).2]] (.bool true)) :
  Cl 10 [] (.bool true):=by
 have q0:=jgc [0,0] [0,0] (by decide) (by decide)
 have q1:=jgc [0,1] [0,1] (by decide) (by decide)
 have q2:=jgc [52428,39321] [52428,39321] (by decide) (by decide)
 have q3:=jgc [0,13107,13107,39321,26214,65535] [0,13107,13107,39321,26214,65535] (by decide) (by decide)
 have f3:=eqf3 (fun k=>if k=0 then Q 0 else Q 1)
 have g1:=eqb1 (fun _=>(350000000000,350000000000))
 have g2:=eqb1 (fun _=>(150000000000,550000000000))
 refine V.en tbOk Tryz.func10 ?_
 (conv=>whnf)
 (conv=>whnf)
 (try simp only[jie])
 repeat ((first|refine V.s1 ?_|((try ((with_reducible refine .ext ?_);(conv=>whnf);(try simp only[jie])));(with_reducible refine jaa (r:=?_) ?_ ?_);rotate_left;(focus (first|exact(o0)|exact(o1)|exact(o2)|exact(o3)|exact(o4)|exact(o5)|exact(fo)|exact(ce)|exact(st)|exact(b1)|exact(b2)|exact(re)|exact(ee)|exact(v0)|exact(v1)|exact(v2)|exact(q0)|exact(q1)|exact(q2)|exact(q3)|exact(f3)|exact(g1)|exact(g2)));(conv=>whnf)));(try simp only[jie]))
 refine⟨(V.tk [0] (V.e1 1 [0] (V.e1 2 [0] (V.e1 3 [0] (V.e1 4 [] (V.tk [5,6,7,8,9,10,11,12,13] .done)))))),[],V.pok,?_⟩
 refine jab [(2,.ints .i64 [0,0]),(3,.ints .i64 [0,1]),(4,V.sl2 3 [.str (Q 0).1,.str (Q 0).2,.str (Q 1).1,.str (Q 1).2,.str (Q 1).1,.str (Q 1).2]),(5,.int .i64 0)] [] ?_ ?_
 ·exact V.d3 jie o0 o1 ce
 (conv=>whnf)
 (try simp only[jie])
 repeat ((first|refine V.s1 ?_|((try ((with_reducible refine .ext ?_);(conv=>whnf);(try simp only[jie])));(with_reducible refine jaa (r:=?_) ?_ ?_);rotate_left;(focus (first|exact(o0)|exact(o1)|exact(o2)|exact(o3)|exact(o4)|exact(o5)|exact(fo)|exact(ce)|exact(st)|exact(b1)|exact(b2)|exact(re)|exact(ee)|exact(v0)|exact(v1)|exact(v2)|exact(q0)|exact(q1)|exact(q2)|exact(q3)|exact(f3)|exact(g1)|exact(g2)));(conv=>whnf)));(try simp only[jie]))
 refine⟨(V.tk [0] (V.e1 1 [0] (V.e1 2 [0] (V.e1 3 [] (V.tk [4,5,6,7,8] .done))))),[],V.pok,?_⟩
 refine jab [(17,.int .i64 2)] [] ?_ ?_
 ·exact V.d3 jie o0 o1 ee
 (conv=>whnf)
 (try simp only[jie])
 repeat ((first|refine V.s1 ?_|((try ((with_reducible refine .ext ?_);(conv=>whnf);(try simp only[jie])));(with_reducible refine jaa (r:=?_) ?_ ?_);rotate_left;(focus (first|exact(o0)|exact(o1)|exact(o2)|exact(o3)|exact(o4)|exact(o5)|exact(fo)|exact(ce)|exact(st)|exact(b1)|exact(b2)|exact(re)|exact(ee)|exact(v0)|exact(v1)|exact(v2)|exact(q0)|exact(q1)|exact(q2)|exact(q3)|exact(f3)|exact(g1)|exact(g2)));(conv=>whnf)));(try simp only[jie]))
 refine⟨(V.tk [0] (V.e1 1 [0] (V.e1 2 [] (V.tk [3,4] (V.e1 5 [4] (V.e1 6 [] (V.tk [7,8,9] (V.e1 10 [9] (V.e1 11 [9] (V.e1 12 [9] (V.e1 13 [9] (V.e1 14 [] (V.tk [15,16,17] (V.e1 18 [17] (V.e1 19 [17] (V.e1 20 [17] (V.e1 21 [17] (V.e1 22 [] (V.tk [23,24,25] (V.e1 26 [25] (V.e1 27 [25] (V.e1 28 [25] (V.e1 29 [25] (V.e1 30 [] (V.tk [31,32,33] (V.e1 34 [33] (V.e1 35 [33] (V.e1 36 [33] (V.e1 37 [33] (V.e1 38 [] (V.tk [39,40,41,42,43] (V.e1 44 [43,42,41] (V.e1 45 [] (V.tk [46,47,48,49] (V.e1 50 [48] (V.e1 51 [] (V.tk [52,53,54,55] (V.e1 56 [54] (V.e1 57 [] (V.tk [58,59,60,61] (V.e1 62 [61,60] (V.e1 63 [] (V.tk [64,65] .done))))))))))))))))))))))))))))))))))))))))))),[],V.pok,?_⟩
 refine jab [(0,.bool true)] [] ?_ ?_
 ·(conv=>whnf);(try simp only[jie])
  repeat' (first|exact V.wk|((with_reducible refine And.intro ?_ jay);(conv=>whnf);(try simp only[jie]))|((with_reducible first|refine jaq ?_ ?_|refine jau ?_ ?_)<;>(conv=>whnf);(try simp only[jie]))|((first|refine V.s1 ?_|((with_reducible refine jak ?_ ?_);(focus ((conv=>whnf);(try simp only[jie]);(repeat ((first|refine V.s1 ?_);(try simp only[jie])));exact⟨rfl⟩));(conv=>whnf))|((try ((with_reducible refine .ext ?_);(conv=>whnf);(try simp only[jie])));(with_reducible refine jaa (r:=?_) ?_ ?_);rotate_left;(focus (first|exact(o0)|exact(o1)|exact(o2)|exact(o3)|exact(o4)|exact(o5)|exact(fo)|exact(ce)|exact(st)|exact(b1)|exact(b2)|exact(re)|exact(ee)|exact(v0)|exact(v1)|exact(v2)|exact(q0)|exact(q1)|exact(q2)|exact(q3)|exact(f3)|exact(g1)|exact(g2)));(conv=>whnf)));(try simp only[jie]))|(refine And.intro ?_ ?_<;>(conv=>whnf);(try simp only[jie])))
 refine V.r0 jie ?_
 exact Fin.of rfl
theorem bandq2_1 {z0 z1 out:Int}(ho:out=1){data:List Int}(hg:jao [z0,z1] out data=true)(X:Nat→Int×Int)(hX:∀ i,i<2→vb (X i).1 (X i).2=true) :
  Cl 29 [gridD [z0,z1] out data,slB X 2] (.tup [slB (fun j=>confB (evQ [z0,z1] out data (midB (X 0)) (midB (X 1)) 0 j) (sprQ [z0,z1] data out 2 X j) (Rat.divInt ((loL out data).getD j 0) 65535) (Rat.divInt ((hiL out data).getD j 0) 65535)) out.toNat,.int .i64 0]):=by
 have og:=jaF hg
 have so:=jhq (out:=out) og.2.2.2 og.2.1 2 (jiL _)
 have rl:=rng_ok hg
 have li:=blist2a (F:=56) (fun i=>(clI (X i).1,clI (X i).2)) (bands1_20 X (clI (X 0).1,clI (X 0).2) (clamp_q (hX 0 (by decide)))) (bands1_21 X (clI (X 1).1,clI (X 1).2) (clamp_q (hX 1 (by decide))))
 have fm0:=(fq_mid (X 0)).mono (show 14≤40 by decide)
 have fm1:=(fq_mid (X 1)).mono (show 14≤40 by decide)
 have om:∀ i,i<2→Cl 58 [.int .i64 (clI (X i).1+clI (X i).2),.int .i64 2000000000000] (frT (midB (X i))):=fun i _=>jfp (by have:=jb6 (X i).1;have:=jb6 (X i).2;omega) (by decide)
 have oh:∀ i,i<2→Cl 58 [.int .i64 (clI (X i).2-clI (X i).1),.int .i64 2000000000000] (frT (halB (X i))):=fun i _=>jfp (by have:=jb6 (X i).1;have:=jb6 (X i).2;omega) (by decide)
 have ev:=evalq2 hg fm0 fm1
 have b2:∀ j,j<out.toNat→Cl 61 [frT (evQ [z0,z1] out data (midB (X 0)) (midB (X 1)) 0 j),frT (sprQ [z0,z1] data out 2 X j),frT (Rat.divInt ((loL out data).getD j 0) 65535),frT (Rat.divInt ((hiL out data).getD j 0) 65535)] (.tup [.agg [.int .i64 ((fun j=>confB (evQ [z0,z1] out data (midB (X 0)) (midB (X 1)) 0 j) (sprQ [z0,z1] data out 2 X j) (Rat.divInt ((loL out data).getD j 0) 65535) (Rat.divInt ((hiL out data).getD j 0) 65535)) j).1,.int .i64 ((fun j=>confB (evQ [z0,z1] out data (midB (X 0)) (midB (X 1)) 0 j) (sprQ [z0,z1] data out 2 X j) (Rat.divInt ((loL out data).getD j 0) 65535) (Rat.divInt ((hiL out data).getD j 0) 65535)) j).2],.int .i64 0]):=fun j hj=>by
  have rb:=jgt hg hj
  have ei:=ev_in2 (x0:=midB (X 0)) (x1:=midB (X 1)) hg hj
  have sp:=spr_q2 (so j) (H:=fun i=>halB (X i)) (fun i _=>fq_hal (X i))
  have sb:=smF_bd (P:=fun i=>(((outS [z0,z1] data out [z0,z1].length j).getD i 0:Int):Rat)*halB (X i)) (n:=1) (fun i hi=>spr_term (so j) (hX i (by omega))) 1 (jiL _)
  have n3:(((1+1:Nat):Int):Rat)≤3:=by decide +kernel
  refine conf_q (fq_ev2 hg fm0 fm1 j) sp.2 (fq_full rb.1) (fq_full rb.2.1) ?_ ⟨?_,ei.1⟩ ⟨ei.2,?_⟩
  ·show 0≤smF _ _/65535∧smF _ _/65535≤50000
   constructor<;>grind
  ·rw[divF]
   have:(0:Rat)≤(((loL out data).getD j 0:Int):Rat):=by exact_mod_cast rb.1.1
   grind
  ·rw[divF]
   have:(((hiL out data).getD j 0:Int):Rat)≤((65535:Int):Rat):=Rat.intCast_le_intCast.2 rb.2.1.2
   rw[show ((65535:Int):Rat)=65535 from rfl] at this
   grind
 have o1:∀ j,j<out.toNat→Cl 58 [.int .i64 ((loL out data).getD j 0),.int .i64 65535] (frT (Rat.divInt ((loL out data).getD j 0) 65535)):=fun j hj=>jfp (by have:=jgt hg hj;omega) (by decide)
 have o2:∀ j,j<out.toNat→Cl 58 [.int .i64 ((hiL out data).getD j 0),.int .i64 65535] (frT (Rat.divInt ((hiL out data).getD j 0) 65535)):=fun j hj=>jfp (by have:=jgt hg hj;omega) (by decide)
 have sp:∀ j,Cl 60 [.ints .i64 (outS [z0,z1] data out [z0,z1].length j),slQ (fun i=>txq (halB (X i))) 2] (.tup [frT (sprQ [z0,z1] data out 2 X j),.int .i64 0]):=fun j=>(spr_q2 (so j) (H:=fun i=>halB (X i)) (fun i _=>fq_hal (X i))).1
 subst ho
 exact bands2_t [z0,z1] data _ _ 1 X (fun i=>(clI (X i).1,clI (X i).2)) (fun i=>txq (midB (X i))) (fun i=>txq (halB (X i))) _ _ _ _ _ _ rfl (fun i _=>⟨jb6 _,jb6 _⟩) (range_q hg (by simp)) li om oh ev (steep1_t [z0,z1] data (outS [z0,z1] data 1 [z0,z1].length) hg (by simp) rfl) (blist1c (F:=59) (fun j=>confB (evQ [z0,z1] 1 data (midB (X 0)) (midB (X 1)) 0 j) (sprQ [z0,z1] data 1 2 X j) (Rat.divInt ((loL 1 data).getD j 0) 65535) (Rat.divInt ((hiL 1 data).getD j 0) 65535)) (bands2_210 (outS [z0,z1] data 1 [z0,z1].length) (fun i=>txq (halB (X i))) (fun j=>txq (evQ [z0,z1] 1 data (midB (X 0)) (midB (X 1)) 0 j)) _ _ _ _ _ _ _ _ ((fun j=>confB (evQ [z0,z1] 1 data (midB (X 0)) (midB (X 1)) 0 j) (sprQ [z0,z1] data 1 2 X j) (Rat.divInt ((loL 1 data).getD j 0) 65535) (Rat.divInt ((hiL 1 data).getD j 0) 65535)) 0) rl.2.2.1 rl.2.2.2 (sp 0) (o1 0 (by decide)) (o2 0 (by decide)) (b2 0 (by decide))))
def wkQ:Nat→Rat
 | 0=>Rat.divInt 1 2
 | 1=>Rat.divInt 1 4
 | 2=>Rat.divInt 7 20
 | 3=>Rat.divInt 3 10
 | 4=>Rat.divInt 1 1
 | _=>Rat.divInt 2 1
theorem jdW:∀ k,Fq 40 (wkQ k)
 | 0=>⟨by decide +kernel,by decide +kernel⟩
 | 1=>⟨by decide +kernel,by decide +kernel⟩
 | 2=>⟨by decide +kernel,by decide +kernel⟩
 | 3=>⟨by decide +kernel,by decide +kernel⟩
 | 4=>⟨by decide +kernel,by decide +kernel⟩
 | _+5=>by
  show Fq 40 (Rat.divInt 2 1)
  exact⟨by decide +kernel,by decide +kernel⟩
theorem jdT:jao [2,2] 1 [0,13107,26214,65535]=true:=by decide +kernel
theorem wk_ev {x0 x1 y:Rat}(h0:Fq 40 x0)(h1:Fq 40 x1)(e:evQ [2,2] 1 [0,13107,26214,65535] x0 x1 0 0=y):Cl 26 [gridD [2,2] 1 [0,13107,26214,65535],frT y,slQ (fun i=>txq (rqN x0 x1 0 i)) 2] (.bool true):=by
 have v:Cl 26 [gridD [2,2] 1 [0,13107,26214,65535],frT (evQ [2,2] 1 [0,13107,26214,65535] x0 x1 0 0),slQ (fun i=>txq (rqN x0 x1 0 i)) 2] (.bool true):=value_t _ _ _ 2 _ (fun j=>txq (evQ [2,2] 1 [0,13107,26214,65535] x0 x1 0 j)) (evalq2 jdT h0 h1)
 rw[e] at v
 exact v
theorem wk_cell:Cl 17 [gridD [2,2] 1 [0,13107,26214,65535],slQ (fun i=>txq (wkQ i)) 2] (.tup [.ints .i64 [0,0],.ints .i64 [0,1],V.sl2 3 [.str (txq (wkQ 0)).1,.str (txq (wkQ 0)).2,.str (txq (wkQ 1)).1,.str (txq (wkQ 1)).2,.str (txq (wkQ 1)).1,.str (txq (wkQ 1)).2],.int .i64 0]):=by
 have c:=cellq2 jdT (jdW 0) (jdW 1)
 have e0:spB 2 (wkQ 0)=0:=by decide +kernel
 have e1:spB 2 (wkQ 1)=0:=by decide +kernel
 have e2:ord2 (spR 2 (wkQ 0)) (spR 2 (wkQ 1))=[0,1]:=by decide +kernel
 rw[e0,e1,e2] at c
 have w0:wqN (rqN (spR 2 (wkQ 0)) (spR 2 (wkQ 1)) 0) [0,1] 2 0=wkQ 0:=by decide +kernel
 have w1:wqN (rqN (spR 2 (wkQ 0)) (spR 2 (wkQ 1)) 0) [0,1] 2 1=wkQ 1:=by decide +kernel
 have w2:wqN (rqN (spR 2 (wkQ 0)) (spR 2 (wkQ 1)) 0) [0,1] 2 2=wkQ 1:=by decide +kernel
 have hw:wce (fun k=>txq (wqN (rqN (spR 2 (wkQ 0)) (spR 2 (wkQ 1)) 0) [0,1] 2 k)) 3=[.str (txq (wkQ 0)).1,.str (txq (wkQ 0)).2,.str (txq (wkQ 1)).1,.str (txq (wkQ 1)).2,.str (txq (wkQ 1)).1,.str (txq (wkQ 1)).2]:=by
  simp only[wce,w0,w1,w2]
  rfl
 unfold slQ at c
 rw[hw] at c
 exact c
theorem wk_steep:Cl 32 [gridD [2,2] 1 [0,13107,26214,65535]] (.tup [.slf 1 1 (fun j=>List.take 1 (List.drop (j*1) [.ints .i64 [52428,39321]])),.int .i64 0]):=by
 have c:=steep1_t [2,2] [0,13107,26214,65535] _ jdT (by decide) rfl
 have e:outS [2,2] [0,13107,26214,65535] 1 ([2,2]:List Int).length 0=[52428,39321]:=by decide +kernel
 rw[e] at c
 exact c
def wkB (a b c d:Int)(k:Nat):Int×Int:=if k=0 then (a,b) else (c,d)
theorem slB1 {B:Nat→Int×Int}{y z:Int}(h:B 0=(y,z)):slB B 1=V.sl2 1 [.int .i64 y,.int .i64 z]:=by
 show V.sl2 1 [.int .i64 (B 0).1,.int .i64 (B 0).2]=_
 rw[h]
theorem wk_bands {a b c d y z:Int}(h:vb a b=true∧vb c d=true)(e:confB (evQ [2,2] 1 [0,13107,26214,65535] (midB (a,b)) (midB (c,d)) 0 0) (sprQ [2,2] [0,13107,26214,65535] 1 2 (wkB a b c d) 0) (Rat.divInt ((loL 1 [0,13107,26214,65535]).getD 0 0) 65535) (Rat.divInt ((hiL 1 [0,13107,26214,65535]).getD 0 0) 65535)=(y,z)) :
  Cl 29 [gridD [2,2] 1 [0,13107,26214,65535],V.sl2 2 [.int .i64 a,.int .i64 b,.int .i64 c,.int .i64 d]] (.tup [V.sl2 1 [.int .i64 y,.int .i64 z],.int .i64 0]):=by
 have q:=bandq2_1 rfl jdT (wkB a b c d) (fun i hi=>by
  have:i=0∨i=1:=by omega
  rcases this with rfl|rfl
  ·exact h.1
  ·exact h.2)
 refine Called.cast q ?_
 rw[show (1:Int).toNat=1 from rfl,slB1 (y:=y) (z:=z)]
 exact e
theorem wk_refine:Cl 33 [gridD [2,2] 1 [0,13107,26214,65535],.ints .i64 [3,2]] (.tup [.agg [.ints .i64 [3,2],.int .i64 1,.ints .i64 [0,13107,13107,39321,26214,65535]],.int .i64 0]):=by
 have c:=refq2 jdT [3,2] rfl (by decide) (by decide)
 have e:rfD [2,2] 1 [0,13107,26214,65535] [3,2]=[0,13107,13107,39321,26214,65535]:=by decide +kernel
 rw[e] at c
 exact c
theorem wk_len (X:Nat→List D):Cl 15 [gridD [2,2] 1 [0,13107,26214,65535],.slf 2 1 X] (.tup [.nil,.int .i64 2]):=by
 have ck:=Called.cast (jcR [2,2] 1 [0,13107,26214,65535] (by decide) (by decide)) (by rw[jdT];first|done|rfl)
 exact eval_e _ _ _ 2 (by decide) 1 X (loc_len _ _ _ 1 X (by decide) ck)
theorem jcn:Cl 10 [] (.bool true):=by
 refine wakes_t (fun k=>txq (wkQ k)) (lof_c (by omega) (by omega)) (lof_c (by omega) (by omega)) (lof_c (by omega) (by omega)) (lof_c (by omega) (by omega)) (lof_c (by omega) (by omega)) (lof_c (by omega) (by omega)) lfour_c wk_cell wk_steep
  (wk_bands (by decide +kernel) (by decide +kernel)) (wk_bands (by decide +kernel) (by decide +kernel)) wk_refine (wk_len _) (wk_ev (y:=wkQ 2) (jdW 0) (jdW 1) (by decide +kernel)) (wk_ev (y:=wkQ 3) (jdW 1) (jdW 0) (by decide +kernel)) (wk_ev (y:=wkQ 4) (jdW 5) (jdW 4) (by decide +kernel))
theorem jcx {a b:Nat}{p q:Rat}(h:Fq a p)(g:Fq b q)(ha:0<a∧a≤600)(hb:0<b∧b≤600)(hq:q≤p):Cl 21 [frT p,frT q] (.bool false):=by
 have c:=lless_c h g ha hb
 rw[decide_eq_false (fun e=>by have:=ordQ_lt.1 e;grind)] at c
 exact c
theorem jbb (v:Int):Rat.divInt v 1=(v:Rat):=int_q v
theorem jdg {w v v':Nat→Rat} : ∀ m,(∀ k,k<m→v k=v' k)→wsQ w v m=wsQ w v' m
 | 0,_=>rfl
 | m+1,h=>by rw[wsQ,wsQ,jdg m fun k hk=>h k (by omega),h m (by omega)]
def cut (m:Nat)(f:Nat→Rat)(k:Nat):Rat:=if k<m then f k else 0
theorem jcC {m k:Nat}{f:Nat→Rat}(h:k<m):cut m f k=f k:=by unfold cut;rw[if_pos h]
theorem fq_cut {m n:Nat}{f:Nat→Rat}(h:∀ k,k<m→Fq n (f k))(hn:0<n)(k:Nat):Fq n (cut m f k):=by
 unfold cut
 split
 ·exact h k (by assumption)
 ·exact(show Fq 1 0 from ⟨by decide,by decide⟩).mono hn
theorem jaC {v:Int}(h:0≤v∧v≤100):Fq 10 (Rat.divInt v 1):=jaN (d:=1) (by decide) (by omega) (by decide)
theorem ja7 {v:Int}(h:0≤v∧v≤65535):Fq 10 (Rat.divInt v 65535):=jaN (d:=65535) (by decide) (by omega) (by decide)
theorem weightsG1 {D0:D}{ds vals:List Int}{oo:Int}{sm:Bool}(hD:D0 = .agg [.ints .u8 ds,.int .u8 oo,.ints .u16 vals,.bool sm]){s0 w:Nat}{data:List Int}(hw:1≤w∧w≤3)(hg:jao (nz [s0]) w data=true)(h2:∀ n∈[s0],2≤n∧n≤4)
  (gd:Cl 11 [D0] (gridD (nz [s0]) w data)) {at' z1 z2:Nat→Int} (b1 b2:Nat→Bool) (p1 p2:Nat→List Int) (ha:∀ i, -32768≤at' i∧at' i≤32767) (hz1:∀ i,0≤z1 i∧z1 i≤65535) (hz2:∀ i,0≤z2 i∧z2 i≤65535) :
  Cl 4 [D0,(colD at' z1 z2 b1 b2 p1 p2)] (.bool true):=by
 subst hD
 have g0:=h2 s0 (by simp)
 obtain⟨X,co⟩:=colorq1 b1 b2 p1 p2 ha hz1 hz2
 have fx:=cxq_fq at'
 have hx:=cxq_bd at'
 have hdl:=(jaF hg).2.2.1.1
 have hvals:=(jaF hg).2.2.2
 have bb0:=jbZ (show (2:Int)≤s0 by omega) (cxq at' 0)
 have u0:=jdj (show (2:Int)≤s0 by omega) (cxq at' 0)
 have v0:=jfj (show (2:Int)≤s0 by omega) (cxq at' 0)
 have hgp:∀ i,clQ (cxq at' i)=cxq at' i:=fun i=>clQ_id (hx i).1 (hx i).2
 obtain⟨O,hO⟩:∃ O:List Int,O=[0]:=⟨_,rfl⟩
 obtain⟨⟨w0,w1,wp0⟩,hend,hq,hOl,hat⟩:=wgt1 ⟨u0,v0⟩ hO (spB (s0:Int) (cxq at' 0))
 obtain⟨wq,hwq⟩:∃ wq,wq=wqN (rqN (spR (s0:Int) (cxq at' 0)) 0 0) O 1:=⟨_,rfl⟩
 rw[← hwq] at w0 w1 wp0
 have fr:=fq_rq (jbk (fx 0) (by decide) (show (2:Int)≤s0∧(s0:Int)≤9 by omega)) jcc jcc
 have fw:∀ k,Fq 87 (wq k):=fun k=>by rw[hwq];exact fq_wq fr O 1 k
 have ce:Cl 17 [gridD (nz [s0]) w data,slQ (fun i=>txq (rqN (cxq at' 0) 0 0 i)) 1] (.tup [.ints .i64 [spB (s0:Int) (cxq at' 0)],.ints .i64 [0],slQ (fun k=>txq (wqN (rqN (spR (s0:Int) (cxq at' 0)) 0 0) [0] 1 k)) 2,.int .i64 0]):=cellq1 (out:=w) hg (fx 0)
 have ev:=evalq1 (out:=w) hg (fx 0)
 rw[← hO,← hwq] at ce
 have hal:∀ k,(atK [spB (s0:Int) (cxq at' 0)] O k).length=1:=fun k=>by
  induction k with
  | zero=>rfl
  | succ k ih=>rw[atK,jjw,ih]
 have hab:∀ k,k<2 → ∀ i,0≤(atK [spB (s0:Int) (cxq at' 0)] O k).getD i 0∧(atK [spB (s0:Int) (cxq at' 0)] O k).getD i 0≤100:=fun k hk i=>by
  have h:=(hat k hk).2
  have hl:=hal k
  rcases jiR i 1 with g|g
  ·have h4:i=0:=by omega
   rcases h4 with rfl<;>omega
  ·rw[jje,List.getElem?_eq_none (by omega)]
   exact⟨by decide,by decide⟩
 have hok:∀ k,k<2→okIdx (nz [s0]) (atK [spB (s0:Int) (cxq at' 0)] O k)=true:=fun k hk=>by
  have h:=(hat k hk).2
  have hl:=hal k
  refine jaX.2 ⟨by rw[hl];rfl,fun p n x g1 g2=>?_⟩
  have e:x=(atK [spB (s0:Int) (cxq at' 0)] O k).getD p 0:=by rw[jje,g2];rfl
  have hp:p<1:=by rw[← hl];exact(jjn.1 g2).1
  have h4:p=0:=by omega
  rcases h4 with rfl<;>(simp only[nz,List.map_cons,List.map_nil,List.getElem?_cons_zero,List.getElem?_cons_succ,Option.some.injEq] at g1;omega)
 have ck:=Called.cast (jcR (nz [s0]) w data (by simp[nz]) (by omega)) (r' := .int .i64 0) (by rw[hg];first|done|rfl)
 have hsl:∀ k,k<2→(slot data (pz ((nz [s0]).zip (atK [spB (s0:Int) (cxq at' 0)] O k))*w) w).length=w:=fun k hk=>by
  have:=jbt hg (hok k hk)
  simpa using this
 have hsv:∀ k j,0≤(slot data (pz ((nz [s0]).zip (atK [spB (s0:Int) (cxq at' 0)] O k))*w) w).getD j 0∧(slot data (pz ((nz [s0]).zip (atK [spB (s0:Int) (cxq at' 0)] O k))*w) w).getD j 0≤65535:=fun k j=>jbz hvals _ _ j
 have fm:=fun j=>fq_ws fw (v:=fun k=>Rat.divInt ((slot data (pz ((nz [s0]).zip (atK [spB (s0:Int) (cxq at' 0)] O k))*w) w).getD j 0) 65535) (fun k=>ja7 (hsv k j))
 have hmean:∀ j,wsQ wq (fun k=>Rat.divInt ((slot data (pz ((nz [s0]).zip (atK [spB (s0:Int) (cxq at' 0)] O k))*w) w).getD j 0) 65535) 2=evQ (nz [s0]) w data (cxq at' 0) 0 0 j:=fun j=>by
  have e:=ev1_sm (z0:=(s0:Int)) (x0:=cxq at' 0)  (by omega) w data j
  rw[← hO,← hwq] at e
  refine Eq.trans ?_ e.symm
  simp only[wsQ,smF,divF]
  have h0:=(hat 0 (by omega)).1
  have h1:=(hat 1 (by omega)).1
  simp only[nz,List.map_cons,List.map_nil,h0,h1]
  grind
 have hpl:∀ i,i<1→wsQ wq (cut 2 (fun k=>Rat.divInt ((atK [spB (s0:Int) (cxq at' 0)] O k).getD i 0) 1)) 2=cxq at' i*Rat.divInt ((nz [s0]).getD i 0-1) 1:=fun i hi=>by
  rw[jdg (v':=fun k=>(((atK [spB (s0:Int) (cxq at' 0)] O k).getD i 0:Int):Rat)) 2 (fun k hk=>by rw[jcC hk,jbb]),jbb]
  have h4:i=0:=by omega
  rcases h4 with rfl
  ·rw[wp0]
   have e:(nz [s0]).getD 0 0=(s0:Int):=rfl
   rw[e]
   have e2:=hgp 0
   unfold spR gp
   rw[e2]
   grind
 have fc:=fun i k=>fq_cut (m:=2) (f:=fun k=>Rat.divInt ((atK [spB (s0:Int) (cxq at' 0)] O k).getD i 0) 1) (fun k hk=>jaC (hab k hk i)) (by decide) k
 have hnz:∀ i,i<1→1≤(nz [s0]).getD i 0-1∧(nz [s0]).getD i 0-1≤3:=fun i hi=>by
  have h4:i=0:=by omega
  rcases h4 with rfl<;>simp[nz]<;>omega
 have fi:=fun k (hk:k<2)=>Called.cast (find_c (nz [s0]) w data (atK [spB (s0:Int) (cxq at' 0)] O k) hg (by rw[hal k];decide)) (r' := .tup [.iarr .i64 (pad4 (atK [spB (s0:Int) (cxq at' 0)] O k)),.bool true]) (by rw[hok k hk];rfl)
 have vl:=fun k (hk:k<2)=>Called.cast (jdh (nz [s0]) w data (pad4 (atK [spB (s0:Int) (cxq at' 0)] O k)) hg (jbn (hok k hk) (by simp[nz])).1 (jbn (hok k hk) (by simp[nz])).2) (r' := .ints .i64 (slot data (pz ((nz [s0]).zip (atK [spB (s0:Int) (cxq at' 0)] O k))*w) w)) (by rw[jeq (hok k hk)])
 have z1':Cl 18 [.int .i64 0,.int .i64 1] (frT (suQ wq 0)):=by
  have c:=lof_c (n:=0) (m:=1) (by omega) (by omega)
  rwa [show Rat.divInt 0 1=suQ wq 0 from by rw[jbb];rfl] at c
 have o1':Cl 18 [.int .i64 1,.int .i64 1] (frT (suQ wq 2)):=by
  have c:=lof_c (n:=1) (m:=1) (by omega) (by omega)
  rwa [show Rat.divInt 1 1=suQ wq 2 from by rw[w1,jbb];rfl] at c
 have f0:Fq 1 0:=⟨by decide,by decide⟩
 have hw3:w=1∨w=2∨w=3:=by omega
 rcases hw3 with rfl|rfl|rfl
 ·refine jg8 ds vals data O oo sm at' z1 z2 b1 b2 p1 p2 s0 (spB (s0:Int) (cxq at' 0)) _ _ (fun i=>txq (cxq at' i)) (fun k=>txq (wq k)) (fun j=>txq (evQ (nz [s0]) (1:Nat) data (cxq at' 0) 0 0 j)) (fun k=>txq (suQ wq k)) (fun i=>txq (Rat.divInt ((nz [s0]).getD i 0-1) 1))
   (fun k i=>txq (wsQ wq (cut 2 (fun k=>Rat.divInt ((atK (zA s0 at') O k).getD i 0) 1)) k)) (fun k j=>txq (wsQ wq (fun k=>Rat.divInt ((zD data [s0] (zA s0 at') O k 1).getD j 0) 65535) k)) (fun k i=>txq (Rat.divInt ((atK (zA s0 at') O k).getD i 0) 1)) (fun k i=>txq (wq k*(cut 2 (fun k=>Rat.divInt ((atK (zA s0 at') O k).getD i 0) 1)) k)) (fun k j=>txq (Rat.divInt ((zD data [s0] (zA s0 at') O k 1).getD j 0) 65535)) (fun k j=>txq (wq k*Rat.divInt ((zD data [s0] (zA s0 at') O k 1).getD j 0) 65535)) (fun k=>pad4 (atK (zA s0 at') O k)) (fun k=>(zD data [s0] (zA s0 at') O k 1))
   hOl hq hab hsl (fun k=>jan (by rw[hal k];decide)) ⟨by omega,by omega⟩ ⟨by omega,by omega⟩ (fun _=>rfl) (fun _=>rfl) hend (fun j=>congrArg txq (hmean j)) jcn gd co ce ev z1' ck fi vl
   (fun k hk=>jcx (fw k) f0 (by decide) (by decide) (w0 k hk)) (fun k hk=>jaA (fq_su fw k) (fw k) (by omega) (by omega) (by omega)) (fun k i hk hi=>lof_c (n:=(atK [spB (s0:Int) (cxq at' 0)] O k).getD i 0) (m:=1) (by have:=hab k hk i;omega) (by omega))
   (fun k i hk hi=>?_) (fun k i hk hi=>jaA (fq_ws fw (fc i) k) ((fw k).mul (fc i k)) (by omega) (by omega) (by omega)) (fun k j hk hj=>lof_c (n:=(slot data (pz ((nz [s0]).zip (atK [spB (s0:Int) (cxq at' 0)] O k))*(1:Nat)) (1:Nat)).getD j 0) (m:=65535) (by have:=hsv k j;omega) (by omega))
   (fun k j hk hj=>jas (fw k) (ja7 (hsv k j)) (by decide) (by decide) (by decide)) (fun k j hk hj=>jaA (fm j k) ((fw k).mul (ja7 (hsv k j))) (by omega) (by omega) (by omega)) (fun i hi=>lof_c (n:=(nz [s0]).getD i 0-1) (m:=1) (by have:=hnz i hi;omega) (by omega)) (fun i hi=>?_) o1'
  ·have c:=jas (fw k) (jaC (hab k hk i)) (by decide) (by decide) (by decide)
   show Called _ _ _ (frT (wq k*(cut 2 (fun k=>Rat.divInt ((atK [spB (s0:Int) (cxq at' 0)] O k).getD i 0) 1)) k))
   rw[jcC hk]
   exact c
  ·have c:=jas (fx i) (jaC (v:=(nz [s0]).getD i 0-1) (by have:=hnz i hi;omega)) (by decide) (by decide) (by decide)
   rw[← hpl i hi] at c
   exact c
 ·refine jg7 ds vals data O oo sm at' z1 z2 b1 b2 p1 p2 s0 (spB (s0:Int) (cxq at' 0)) _ _ (fun i=>txq (cxq at' i)) (fun k=>txq (wq k)) (fun j=>txq (evQ (nz [s0]) (2:Nat) data (cxq at' 0) 0 0 j)) (fun k=>txq (suQ wq k)) (fun i=>txq (Rat.divInt ((nz [s0]).getD i 0-1) 1))
   (fun k i=>txq (wsQ wq (cut 2 (fun k=>Rat.divInt ((atK (zA s0 at') O k).getD i 0) 1)) k)) (fun k j=>txq (wsQ wq (fun k=>Rat.divInt ((zD data [s0] (zA s0 at') O k 2).getD j 0) 65535) k)) (fun k i=>txq (Rat.divInt ((atK (zA s0 at') O k).getD i 0) 1)) (fun k i=>txq (wq k*(cut 2 (fun k=>Rat.divInt ((atK (zA s0 at') O k).getD i 0) 1)) k)) (fun k j=>txq (Rat.divInt ((zD data [s0] (zA s0 at') O k 2).getD j 0) 65535)) (fun k j=>txq (wq k*Rat.divInt ((zD data [s0] (zA s0 at') O k 2).getD j 0) 65535)) (fun k=>pad4 (atK (zA s0 at') O k)) (fun k=>(zD data [s0] (zA s0 at') O k 2))
   hOl hq hab hsl (fun k=>jan (by rw[hal k];decide)) ⟨by omega,by omega⟩ ⟨by omega,by omega⟩ (fun _=>rfl) (fun _=>rfl) hend (fun j=>congrArg txq (hmean j)) jcn gd co ce ev z1' ck fi vl
   (fun k hk=>jcx (fw k) f0 (by decide) (by decide) (w0 k hk)) (fun k hk=>jaA (fq_su fw k) (fw k) (by omega) (by omega) (by omega)) (fun k i hk hi=>lof_c (n:=(atK [spB (s0:Int) (cxq at' 0)] O k).getD i 0) (m:=1) (by have:=hab k hk i;omega) (by omega))
   (fun k i hk hi=>?_) (fun k i hk hi=>jaA (fq_ws fw (fc i) k) ((fw k).mul (fc i k)) (by omega) (by omega) (by omega)) (fun k j hk hj=>lof_c (n:=(slot data (pz ((nz [s0]).zip (atK [spB (s0:Int) (cxq at' 0)] O k))*(2:Nat)) (2:Nat)).getD j 0) (m:=65535) (by have:=hsv k j;omega) (by omega))
   (fun k j hk hj=>jas (fw k) (ja7 (hsv k j)) (by decide) (by decide) (by decide)) (fun k j hk hj=>jaA (fm j k) ((fw k).mul (ja7 (hsv k j))) (by omega) (by omega) (by omega)) (fun i hi=>lof_c (n:=(nz [s0]).getD i 0-1) (m:=1) (by have:=hnz i hi;omega) (by omega)) (fun i hi=>?_) o1'
  ·have c:=jas (fw k) (jaC (hab k hk i)) (by decide) (by decide) (by decide)
   show Called _ _ _ (frT (wq k*(cut 2 (fun k=>Rat.divInt ((atK [spB (s0:Int) (cxq at' 0)] O k).getD i 0) 1)) k))
   rw[jcC hk]
   exact c
  ·have c:=jas (fx i) (jaC (v:=(nz [s0]).getD i 0-1) (by have:=hnz i hi;omega)) (by decide) (by decide) (by decide)
   rw[← hpl i hi] at c
   exact c
 ·refine jg6 ds vals data O oo sm at' z1 z2 b1 b2 p1 p2 s0 (spB (s0:Int) (cxq at' 0)) _ _ (fun i=>txq (cxq at' i)) (fun k=>txq (wq k)) (fun j=>txq (evQ (nz [s0]) (3:Nat) data (cxq at' 0) 0 0 j)) (fun k=>txq (suQ wq k)) (fun i=>txq (Rat.divInt ((nz [s0]).getD i 0-1) 1))
   (fun k i=>txq (wsQ wq (cut 2 (fun k=>Rat.divInt ((atK (zA s0 at') O k).getD i 0) 1)) k)) (fun k j=>txq (wsQ wq (fun k=>Rat.divInt ((zD data [s0] (zA s0 at') O k 3).getD j 0) 65535) k)) (fun k i=>txq (Rat.divInt ((atK (zA s0 at') O k).getD i 0) 1)) (fun k i=>txq (wq k*(cut 2 (fun k=>Rat.divInt ((atK (zA s0 at') O k).getD i 0) 1)) k)) (fun k j=>txq (Rat.divInt ((zD data [s0] (zA s0 at') O k 3).getD j 0) 65535)) (fun k j=>txq (wq k*Rat.divInt ((zD data [s0] (zA s0 at') O k 3).getD j 0) 65535)) (fun k=>pad4 (atK (zA s0 at') O k)) (fun k=>(zD data [s0] (zA s0 at') O k 3))
   hOl hq hab hsl (fun k=>jan (by rw[hal k];decide)) ⟨by omega,by omega⟩ ⟨by omega,by omega⟩ (fun _=>rfl) (fun _=>rfl) hend (fun j=>congrArg txq (hmean j)) jcn gd co ce ev z1' ck fi vl
   (fun k hk=>jcx (fw k) f0 (by decide) (by decide) (w0 k hk)) (fun k hk=>jaA (fq_su fw k) (fw k) (by omega) (by omega) (by omega)) (fun k i hk hi=>lof_c (n:=(atK [spB (s0:Int) (cxq at' 0)] O k).getD i 0) (m:=1) (by have:=hab k hk i;omega) (by omega))
   (fun k i hk hi=>?_) (fun k i hk hi=>jaA (fq_ws fw (fc i) k) ((fw k).mul (fc i k)) (by omega) (by omega) (by omega)) (fun k j hk hj=>lof_c (n:=(slot data (pz ((nz [s0]).zip (atK [spB (s0:Int) (cxq at' 0)] O k))*(3:Nat)) (3:Nat)).getD j 0) (m:=65535) (by have:=hsv k j;omega) (by omega))
   (fun k j hk hj=>jas (fw k) (ja7 (hsv k j)) (by decide) (by decide) (by decide)) (fun k j hk hj=>jaA (fm j k) ((fw k).mul (ja7 (hsv k j))) (by omega) (by omega) (by omega)) (fun i hi=>lof_c (n:=(nz [s0]).getD i 0-1) (m:=1) (by have:=hnz i hi;omega) (by omega)) (fun i hi=>?_) o1'
  ·have c:=jas (fw k) (jaC (hab k hk i)) (by decide) (by decide) (by decide)
   show Called _ _ _ (frT (wq k*(cut 2 (fun k=>Rat.divInt ((atK [spB (s0:Int) (cxq at' 0)] O k).getD i 0) 1)) k))
   rw[jcC hk]
   exact c
  ·have c:=jas (fx i) (jaC (v:=(nz [s0]).getD i 0-1) (by have:=hnz i hi;omega)) (by decide) (by decide) (by decide)
   rw[← hpl i hi] at c
   exact c
theorem weightsG2 {D0:D}{ds vals:List Int}{oo:Int}{sm:Bool}(hD:D0 = .agg [.ints .u8 ds,.int .u8 oo,.ints .u16 vals,.bool sm]){s0 s1 w:Nat}{data:List Int}(hw:1≤w∧w≤3)(hg:jao (nz [s0,s1]) w data=true)(h2:∀ n∈[s0,s1],2≤n∧n≤4)
  (gd:Cl 11 [D0] (gridD (nz [s0,s1]) w data)) {at' z1 z2:Nat→Int} (b1 b2:Nat→Bool) (p1 p2:Nat→List Int) (ha:∀ i, -32768≤at' i∧at' i≤32767) (hz1:∀ i,0≤z1 i∧z1 i≤65535) (hz2:∀ i,0≤z2 i∧z2 i≤65535) :
  Cl 4 [D0,(colD at' z1 z2 b1 b2 p1 p2)] (.bool true):=by
 subst hD
 have g0:=h2 s0 (by simp)
 have g1:=h2 s1 (by simp)
 obtain⟨X,co⟩:=colorq2 b1 b2 p1 p2 ha hz1 hz2
 have fx:=cxq_fq at'
 have hx:=cxq_bd at'
 have hdl:=(jaF hg).2.2.1.1
 have hvals:=(jaF hg).2.2.2
 have bb0:=jbZ (show (2:Int)≤s0 by omega) (cxq at' 0)
 have u0:=jdj (show (2:Int)≤s0 by omega) (cxq at' 0)
 have v0:=jfj (show (2:Int)≤s0 by omega) (cxq at' 0)
 have bb1:=jbZ (show (2:Int)≤s1 by omega) (cxq at' 1)
 have u1:=jdj (show (2:Int)≤s1 by omega) (cxq at' 1)
 have v1:=jfj (show (2:Int)≤s1 by omega) (cxq at' 1)
 have hgp:∀ i,clQ (cxq at' i)=cxq at' i:=fun i=>clQ_id (hx i).1 (hx i).2
 obtain⟨O,hO⟩:∃ O:List Int,O=(ord2 (spR (s0:Int) (cxq at' 0)) (spR (s1:Int) (cxq at' 1))):=⟨_,rfl⟩
 obtain⟨⟨w0,w1,wp0,wp1⟩,hend,hq,hOl,hat⟩:=wgt2 ⟨u0,v0⟩ ⟨u1,v1⟩ hO (spB (s0:Int) (cxq at' 0)) (spB (s1:Int) (cxq at' 1))
 obtain⟨wq,hwq⟩:∃ wq,wq=wqN (rqN (spR (s0:Int) (cxq at' 0)) (spR (s1:Int) (cxq at' 1)) 0) O 2:=⟨_,rfl⟩
 rw[← hwq] at w0 w1 wp0 wp1
 have fr:=fq_rq (jbk (fx 0) (by decide) (show (2:Int)≤s0∧(s0:Int)≤9 by omega)) (jbk (fx 1) (by decide) (show (2:Int)≤s1∧(s1:Int)≤9 by omega)) jcc
 have fw:∀ k,Fq 87 (wq k):=fun k=>by rw[hwq];exact fq_wq fr O 2 k
 have ce:Cl 17 [gridD (nz [s0,s1]) w data,slQ (fun i=>txq (rqN (cxq at' 0) (cxq at' 1) 0 i)) 2] (.tup [.ints .i64 [spB (s0:Int) (cxq at' 0),spB (s1:Int) (cxq at' 1)],.ints .i64 (ord2 (spR (s0:Int) (cxq at' 0)) (spR (s1:Int) (cxq at' 1))),slQ (fun k=>txq (wqN (rqN (spR (s0:Int) (cxq at' 0)) (spR (s1:Int) (cxq at' 1)) 0) (ord2 (spR (s0:Int) (cxq at' 0)) (spR (s1:Int) (cxq at' 1))) 2 k)) 3,.int .i64 0]):=cellq2 (out:=w) hg (fx 0) (fx 1)
 have ev:=evalq2 (out:=w) hg (fx 0) (fx 1)
 rw[← hO,← hwq] at ce
 have hal:∀ k,(atK [spB (s0:Int) (cxq at' 0),spB (s1:Int) (cxq at' 1)] O k).length=2:=fun k=>by
  induction k with
  | zero=>rfl
  | succ k ih=>rw[atK,jjw,ih]
 have hab:∀ k,k<3 → ∀ i,0≤(atK [spB (s0:Int) (cxq at' 0),spB (s1:Int) (cxq at' 1)] O k).getD i 0∧(atK [spB (s0:Int) (cxq at' 0),spB (s1:Int) (cxq at' 1)] O k).getD i 0≤100:=fun k hk i=>by
  have h:=(hat k hk).2
  have hl:=hal k
  rcases jiR i 2 with g|g
  ·have h4:i=0∨i=1:=by omega
   rcases h4 with rfl|rfl<;>omega
  ·rw[jje,List.getElem?_eq_none (by omega)]
   exact⟨by decide,by decide⟩
 have hok:∀ k,k<3→okIdx (nz [s0,s1]) (atK [spB (s0:Int) (cxq at' 0),spB (s1:Int) (cxq at' 1)] O k)=true:=fun k hk=>by
  have h:=(hat k hk).2
  have hl:=hal k
  refine jaX.2 ⟨by rw[hl];rfl,fun p n x g1 g2=>?_⟩
  have e:x=(atK [spB (s0:Int) (cxq at' 0),spB (s1:Int) (cxq at' 1)] O k).getD p 0:=by rw[jje,g2];rfl
  have hp:p<2:=by rw[← hl];exact(jjn.1 g2).1
  have h4:p=0∨p=1:=by omega
  rcases h4 with rfl|rfl<;>(simp only[nz,List.map_cons,List.map_nil,List.getElem?_cons_zero,List.getElem?_cons_succ,Option.some.injEq] at g1;omega)
 have ck:=Called.cast (jcR (nz [s0,s1]) w data (by simp[nz]) (by omega)) (r' := .int .i64 0) (by rw[hg];first|done|rfl)
 have hsl:∀ k,k<3→(slot data (pz ((nz [s0,s1]).zip (atK [spB (s0:Int) (cxq at' 0),spB (s1:Int) (cxq at' 1)] O k))*w) w).length=w:=fun k hk=>by
  have:=jbt hg (hok k hk)
  simpa using this
 have hsv:∀ k j,0≤(slot data (pz ((nz [s0,s1]).zip (atK [spB (s0:Int) (cxq at' 0),spB (s1:Int) (cxq at' 1)] O k))*w) w).getD j 0∧(slot data (pz ((nz [s0,s1]).zip (atK [spB (s0:Int) (cxq at' 0),spB (s1:Int) (cxq at' 1)] O k))*w) w).getD j 0≤65535:=fun k j=>jbz hvals _ _ j
 have fm:=fun j=>fq_ws fw (v:=fun k=>Rat.divInt ((slot data (pz ((nz [s0,s1]).zip (atK [spB (s0:Int) (cxq at' 0),spB (s1:Int) (cxq at' 1)] O k))*w) w).getD j 0) 65535) (fun k=>ja7 (hsv k j))
 have hmean:∀ j,wsQ wq (fun k=>Rat.divInt ((slot data (pz ((nz [s0,s1]).zip (atK [spB (s0:Int) (cxq at' 0),spB (s1:Int) (cxq at' 1)] O k))*w) w).getD j 0) 65535) 3=evQ (nz [s0,s1]) w data (cxq at' 0) (cxq at' 1) 0 j:=fun j=>by
  have e:=ev2_sm (z0:=(s0:Int)) (z1:=(s1:Int)) (x0:=cxq at' 0) (x1:=cxq at' 1) (by omega) (by omega) w data j
  rw[← hO,← hwq] at e
  refine Eq.trans ?_ e.symm
  simp only[wsQ,smF,divF]
  have h0:=(hat 0 (by omega)).1
  have h1:=(hat 1 (by omega)).1
  have h2:=(hat 2 (by omega)).1
  simp only[nz,List.map_cons,List.map_nil,h0,h1,h2]
  grind
 have hpl:∀ i,i<2→wsQ wq (cut 3 (fun k=>Rat.divInt ((atK [spB (s0:Int) (cxq at' 0),spB (s1:Int) (cxq at' 1)] O k).getD i 0) 1)) 3=cxq at' i*Rat.divInt ((nz [s0,s1]).getD i 0-1) 1:=fun i hi=>by
  rw[jdg (v':=fun k=>(((atK [spB (s0:Int) (cxq at' 0),spB (s1:Int) (cxq at' 1)] O k).getD i 0:Int):Rat)) 3 (fun k hk=>by rw[jcC hk,jbb]),jbb]
  have h4:i=0∨i=1:=by omega
  rcases h4 with rfl|rfl
  ·rw[wp0]
   have e:(nz [s0,s1]).getD 0 0=(s0:Int):=rfl
   rw[e]
   have e2:=hgp 0
   unfold spR gp
   rw[e2]
   grind
  ·rw[wp1]
   have e:(nz [s0,s1]).getD 1 0=(s1:Int):=rfl
   rw[e]
   have e2:=hgp 1
   unfold spR gp
   rw[e2]
   grind
 have fc:=fun i k=>fq_cut (m:=3) (f:=fun k=>Rat.divInt ((atK [spB (s0:Int) (cxq at' 0),spB (s1:Int) (cxq at' 1)] O k).getD i 0) 1) (fun k hk=>jaC (hab k hk i)) (by decide) k
 have hnz:∀ i,i<2→1≤(nz [s0,s1]).getD i 0-1∧(nz [s0,s1]).getD i 0-1≤3:=fun i hi=>by
  have h4:i=0∨i=1:=by omega
  rcases h4 with rfl|rfl<;>simp[nz]<;>omega
 have fi:=fun k (hk:k<3)=>Called.cast (find_c (nz [s0,s1]) w data (atK [spB (s0:Int) (cxq at' 0),spB (s1:Int) (cxq at' 1)] O k) hg (by rw[hal k];decide)) (r' := .tup [.iarr .i64 (pad4 (atK [spB (s0:Int) (cxq at' 0),spB (s1:Int) (cxq at' 1)] O k)),.bool true]) (by rw[hok k hk];rfl)
 have vl:=fun k (hk:k<3)=>Called.cast (jdh (nz [s0,s1]) w data (pad4 (atK [spB (s0:Int) (cxq at' 0),spB (s1:Int) (cxq at' 1)] O k)) hg (jbn (hok k hk) (by simp[nz])).1 (jbn (hok k hk) (by simp[nz])).2) (r' := .ints .i64 (slot data (pz ((nz [s0,s1]).zip (atK [spB (s0:Int) (cxq at' 0),spB (s1:Int) (cxq at' 1)] O k))*w) w)) (by rw[jeq (hok k hk)])
 have z1':Cl 18 [.int .i64 0,.int .i64 1] (frT (suQ wq 0)):=by
  have c:=lof_c (n:=0) (m:=1) (by omega) (by omega)
  rwa [show Rat.divInt 0 1=suQ wq 0 from by rw[jbb];rfl] at c
 have o1':Cl 18 [.int .i64 1,.int .i64 1] (frT (suQ wq 3)):=by
  have c:=lof_c (n:=1) (m:=1) (by omega) (by omega)
  rwa [show Rat.divInt 1 1=suQ wq 3 from by rw[w1,jbb];rfl] at c
 have f0:Fq 1 0:=⟨by decide,by decide⟩
 have hw3:w=1∨w=2∨w=3:=by omega
 rcases hw3 with rfl|rfl|rfl
 ·refine jg5 ds vals data O oo sm at' z1 z2 b1 b2 p1 p2 s0 s1 (spB (s0:Int) (cxq at' 0)) (spB (s1:Int) (cxq at' 1)) _ _ (fun i=>txq (cxq at' i)) (fun k=>txq (wq k)) (fun j=>txq (evQ (nz [s0,s1]) (1:Nat) data (cxq at' 0) (cxq at' 1) 0 j)) (fun k=>txq (suQ wq k)) (fun i=>txq (Rat.divInt ((nz [s0,s1]).getD i 0-1) 1))
   (fun k i=>txq (wsQ wq (cut 3 (fun k=>Rat.divInt ((atK (zB s0 s1 at') O k).getD i 0) 1)) k)) (fun k j=>txq (wsQ wq (fun k=>Rat.divInt ((zD data [s0,s1] (zB s0 s1 at') O k 1).getD j 0) 65535) k)) (fun k i=>txq (Rat.divInt ((atK (zB s0 s1 at') O k).getD i 0) 1)) (fun k i=>txq (wq k*(cut 3 (fun k=>Rat.divInt ((atK (zB s0 s1 at') O k).getD i 0) 1)) k)) (fun k j=>txq (Rat.divInt ((zD data [s0,s1] (zB s0 s1 at') O k 1).getD j 0) 65535)) (fun k j=>txq (wq k*Rat.divInt ((zD data [s0,s1] (zB s0 s1 at') O k 1).getD j 0) 65535)) (fun k=>pad4 (atK (zB s0 s1 at') O k)) (fun k=>(zD data [s0,s1] (zB s0 s1 at') O k 1))
   hOl hq hab hsl (fun k=>jan (by rw[hal k];decide)) ⟨⟨by omega,by omega⟩,⟨by omega,by omega⟩⟩ ⟨⟨by omega,by omega⟩,⟨by omega,by omega⟩⟩ (fun _=>rfl) (fun _=>rfl) hend (fun j=>congrArg txq (hmean j)) jcn gd co ce ev z1' ck fi vl
   (fun k hk=>jcx (fw k) f0 (by decide) (by decide) (w0 k hk)) (fun k hk=>jaA (fq_su fw k) (fw k) (by omega) (by omega) (by omega)) (fun k i hk hi=>lof_c (n:=(atK [spB (s0:Int) (cxq at' 0),spB (s1:Int) (cxq at' 1)] O k).getD i 0) (m:=1) (by have:=hab k hk i;omega) (by omega))
   (fun k i hk hi=>?_) (fun k i hk hi=>jaA (fq_ws fw (fc i) k) ((fw k).mul (fc i k)) (by omega) (by omega) (by omega)) (fun k j hk hj=>lof_c (n:=(slot data (pz ((nz [s0,s1]).zip (atK [spB (s0:Int) (cxq at' 0),spB (s1:Int) (cxq at' 1)] O k))*(1:Nat)) (1:Nat)).getD j 0) (m:=65535) (by have:=hsv k j;omega) (by omega))
   (fun k j hk hj=>jas (fw k) (ja7 (hsv k j)) (by decide) (by decide) (by decide)) (fun k j hk hj=>jaA (fm j k) ((fw k).mul (ja7 (hsv k j))) (by omega) (by omega) (by omega)) (fun i hi=>lof_c (n:=(nz [s0,s1]).getD i 0-1) (m:=1) (by have:=hnz i hi;omega) (by omega)) (fun i hi=>?_) o1'
  ·have c:=jas (fw k) (jaC (hab k hk i)) (by decide) (by decide) (by decide)
   show Called _ _ _ (frT (wq k*(cut 3 (fun k=>Rat.divInt ((atK [spB (s0:Int) (cxq at' 0),spB (s1:Int) (cxq at' 1)] O k).getD i 0) 1)) k))
   rw[jcC hk]
   exact c
  ·have c:=jas (fx i) (jaC (v:=(nz [s0,s1]).getD i 0-1) (by have:=hnz i hi;omega)) (by decide) (by decide) (by decide)
   rw[← hpl i hi] at c
   exact c
 ·refine jg4 ds vals data O oo sm at' z1 z2 b1 b2 p1 p2 s0 s1 (spB (s0:Int) (cxq at' 0)) (spB (s1:Int) (cxq at' 1)) _ _ (fun i=>txq (cxq at' i)) (fun k=>txq (wq k)) (fun j=>txq (evQ (nz [s0,s1]) (2:Nat) data (cxq at' 0) (cxq at' 1) 0 j)) (fun k=>txq (suQ wq k)) (fun i=>txq (Rat.divInt ((nz [s0,s1]).getD i 0-1) 1))
   (fun k i=>txq (wsQ wq (cut 3 (fun k=>Rat.divInt ((atK (zB s0 s1 at') O k).getD i 0) 1)) k)) (fun k j=>txq (wsQ wq (fun k=>Rat.divInt ((zD data [s0,s1] (zB s0 s1 at') O k 2).getD j 0) 65535) k)) (fun k i=>txq (Rat.divInt ((atK (zB s0 s1 at') O k).getD i 0) 1)) (fun k i=>txq (wq k*(cut 3 (fun k=>Rat.divInt ((atK (zB s0 s1 at') O k).getD i 0) 1)) k)) (fun k j=>txq (Rat.divInt ((zD data [s0,s1] (zB s0 s1 at') O k 2).getD j 0) 65535)) (fun k j=>txq (wq k*Rat.divInt ((zD data [s0,s1] (zB s0 s1 at') O k 2).getD j 0) 65535)) (fun k=>pad4 (atK (zB s0 s1 at') O k)) (fun k=>(zD data [s0,s1] (zB s0 s1 at') O k 2))
   hOl hq hab hsl (fun k=>jan (by rw[hal k];decide)) ⟨⟨by omega,by omega⟩,⟨by omega,by omega⟩⟩ ⟨⟨by omega,by omega⟩,⟨by omega,by omega⟩⟩ (fun _=>rfl) (fun _=>rfl) hend (fun j=>congrArg txq (hmean j)) jcn gd co ce ev z1' ck fi vl
   (fun k hk=>jcx (fw k) f0 (by decide) (by decide) (w0 k hk)) (fun k hk=>jaA (fq_su fw k) (fw k) (by omega) (by omega) (by omega)) (fun k i hk hi=>lof_c (n:=(atK [spB (s0:Int) (cxq at' 0),spB (s1:Int) (cxq at' 1)] O k).getD i 0) (m:=1) (by have:=hab k hk i;omega) (by omega))
   (fun k i hk hi=>?_) (fun k i hk hi=>jaA (fq_ws fw (fc i) k) ((fw k).mul (fc i k)) (by omega) (by omega) (by omega)) (fun k j hk hj=>lof_c (n:=(slot data (pz ((nz [s0,s1]).zip (atK [spB (s0:Int) (cxq at' 0),spB (s1:Int) (cxq at' 1)] O k))*(2:Nat)) (2:Nat)).getD j 0) (m:=65535) (by have:=hsv k j;omega) (by omega))
   (fun k j hk hj=>jas (fw k) (ja7 (hsv k j)) (by decide) (by decide) (by decide)) (fun k j hk hj=>jaA (fm j k) ((fw k).mul (ja7 (hsv k j))) (by omega) (by omega) (by omega)) (fun i hi=>lof_c (n:=(nz [s0,s1]).getD i 0-1) (m:=1) (by have:=hnz i hi;omega) (by omega)) (fun i hi=>?_) o1'
  ·have c:=jas (fw k) (jaC (hab k hk i)) (by decide) (by decide) (by decide)
   show Called _ _ _ (frT (wq k*(cut 3 (fun k=>Rat.divInt ((atK [spB (s0:Int) (cxq at' 0),spB (s1:Int) (cxq at' 1)] O k).getD i 0) 1)) k))
   rw[jcC hk]
   exact c
  ·have c:=jas (fx i) (jaC (v:=(nz [s0,s1]).getD i 0-1) (by have:=hnz i hi;omega)) (by decide) (by decide) (by decide)
   rw[← hpl i hi] at c
   exact c
 ·refine jg3 ds vals data O oo sm at' z1 z2 b1 b2 p1 p2 s0 s1 (spB (s0:Int) (cxq at' 0)) (spB (s1:Int) (cxq at' 1)) _ _ (fun i=>txq (cxq at' i)) (fun k=>txq (wq k)) (fun j=>txq (evQ (nz [s0,s1]) (3:Nat) data (cxq at' 0) (cxq at' 1) 0 j)) (fun k=>txq (suQ wq k)) (fun i=>txq (Rat.divInt ((nz [s0,s1]).getD i 0-1) 1))
   (fun k i=>txq (wsQ wq (cut 3 (fun k=>Rat.divInt ((atK (zB s0 s1 at') O k).getD i 0) 1)) k)) (fun k j=>txq (wsQ wq (fun k=>Rat.divInt ((zD data [s0,s1] (zB s0 s1 at') O k 3).getD j 0) 65535) k)) (fun k i=>txq (Rat.divInt ((atK (zB s0 s1 at') O k).getD i 0) 1)) (fun k i=>txq (wq k*(cut 3 (fun k=>Rat.divInt ((atK (zB s0 s1 at') O k).getD i 0) 1)) k)) (fun k j=>txq (Rat.divInt ((zD data [s0,s1] (zB s0 s1 at') O k 3).getD j 0) 65535)) (fun k j=>txq (wq k*Rat.divInt ((zD data [s0,s1] (zB s0 s1 at') O k 3).getD j 0) 65535)) (fun k=>pad4 (atK (zB s0 s1 at') O k)) (fun k=>(zD data [s0,s1] (zB s0 s1 at') O k 3))
   hOl hq hab hsl (fun k=>jan (by rw[hal k];decide)) ⟨⟨by omega,by omega⟩,⟨by omega,by omega⟩⟩ ⟨⟨by omega,by omega⟩,⟨by omega,by omega⟩⟩ (fun _=>rfl) (fun _=>rfl) hend (fun j=>congrArg txq (hmean j)) jcn gd co ce ev z1' ck fi vl
   (fun k hk=>jcx (fw k) f0 (by decide) (by decide) (w0 k hk)) (fun k hk=>jaA (fq_su fw k) (fw k) (by omega) (by omega) (by omega)) (fun k i hk hi=>lof_c (n:=(atK [spB (s0:Int) (cxq at' 0),spB (s1:Int) (cxq at' 1)] O k).getD i 0) (m:=1) (by have:=hab k hk i;omega) (by omega))
   (fun k i hk hi=>?_) (fun k i hk hi=>jaA (fq_ws fw (fc i) k) ((fw k).mul (fc i k)) (by omega) (by omega) (by omega)) (fun k j hk hj=>lof_c (n:=(slot data (pz ((nz [s0,s1]).zip (atK [spB (s0:Int) (cxq at' 0),spB (s1:Int) (cxq at' 1)] O k))*(3:Nat)) (3:Nat)).getD j 0) (m:=65535) (by have:=hsv k j;omega) (by omega))
   (fun k j hk hj=>jas (fw k) (ja7 (hsv k j)) (by decide) (by decide) (by decide)) (fun k j hk hj=>jaA (fm j k) ((fw k).mul (ja7 (hsv k j))) (by omega) (by omega) (by omega)) (fun i hi=>lof_c (n:=(nz [s0,s1]).getD i 0-1) (m:=1) (by have:=hnz i hi;omega) (by omega)) (fun i hi=>?_) o1'
  ·have c:=jas (fw k) (jaC (hab k hk i)) (by decide) (by decide) (by decide)
   show Called _ _ _ (frT (wq k*(cut 3 (fun k=>Rat.divInt ((atK [spB (s0:Int) (cxq at' 0),spB (s1:Int) (cxq at' 1)] O k).getD i 0) 1)) k))
   rw[jcC hk]
   exact c
  ·have c:=jas (fx i) (jaC (v:=(nz [s0,s1]).getD i 0-1) (by have:=hnz i hi;omega)) (by decide) (by decide) (by decide)
   rw[← hpl i hi] at c
   exact c
theorem weightsG3 {D0:D}{ds vals:List Int}{oo:Int}{sm:Bool}(hD:D0 = .agg [.ints .u8 ds,.int .u8 oo,.ints .u16 vals,.bool sm]){s0 s1 s2 w:Nat}{data:List Int}(hw:1≤w∧w≤3)(hg:jao (nz [s0,s1,s2]) w data=true)(h2:∀ n∈[s0,s1,s2],2≤n∧n≤4)
  (gd:Cl 11 [D0] (gridD (nz [s0,s1,s2]) w data)) {at' z1 z2:Nat→Int} (b1 b2:Nat→Bool) (p1 p2:Nat→List Int) (ha:∀ i, -32768≤at' i∧at' i≤32767) (hz1:∀ i,0≤z1 i∧z1 i≤65535) (hz2:∀ i,0≤z2 i∧z2 i≤65535) :
  Cl 4 [D0,(colD at' z1 z2 b1 b2 p1 p2)] (.bool true):=by
 subst hD
 have g0:=h2 s0 (by simp)
 have g1:=h2 s1 (by simp)
 have g2:=h2 s2 (by simp)
 obtain⟨X,co⟩:=colorq3 b1 b2 p1 p2 ha hz1 hz2
 have fx:=cxq_fq at'
 have hx:=cxq_bd at'
 have hdl:=(jaF hg).2.2.1.1
 have hvals:=(jaF hg).2.2.2
 have bb0:=jbZ (show (2:Int)≤s0 by omega) (cxq at' 0)
 have u0:=jdj (show (2:Int)≤s0 by omega) (cxq at' 0)
 have v0:=jfj (show (2:Int)≤s0 by omega) (cxq at' 0)
 have bb1:=jbZ (show (2:Int)≤s1 by omega) (cxq at' 1)
 have u1:=jdj (show (2:Int)≤s1 by omega) (cxq at' 1)
 have v1:=jfj (show (2:Int)≤s1 by omega) (cxq at' 1)
 have bb2:=jbZ (show (2:Int)≤s2 by omega) (cxq at' 2)
 have u2:=jdj (show (2:Int)≤s2 by omega) (cxq at' 2)
 have v2:=jfj (show (2:Int)≤s2 by omega) (cxq at' 2)
 have hgp:∀ i,clQ (cxq at' i)=cxq at' i:=fun i=>clQ_id (hx i).1 (hx i).2
 obtain⟨O,hO⟩:∃ O:List Int,O=(ord3 (spR (s0:Int) (cxq at' 0)) (spR (s1:Int) (cxq at' 1)) (spR (s2:Int) (cxq at' 2))):=⟨_,rfl⟩
 obtain⟨⟨w0,w1,wp0,wp1,wp2⟩,hend,hq,hOl,hat⟩:=wgt3 ⟨u0,v0⟩ ⟨u1,v1⟩ ⟨u2,v2⟩ hO (spB (s0:Int) (cxq at' 0)) (spB (s1:Int) (cxq at' 1)) (spB (s2:Int) (cxq at' 2))
 obtain⟨wq,hwq⟩:∃ wq,wq=wqN (rqN (spR (s0:Int) (cxq at' 0)) (spR (s1:Int) (cxq at' 1)) (spR (s2:Int) (cxq at' 2))) O 3:=⟨_,rfl⟩
 rw[← hwq] at w0 w1 wp0 wp1 wp2
 have fr:=fq_rq (jbk (fx 0) (by decide) (show (2:Int)≤s0∧(s0:Int)≤9 by omega)) (jbk (fx 1) (by decide) (show (2:Int)≤s1∧(s1:Int)≤9 by omega)) (jbk (fx 2) (by decide) (show (2:Int)≤s2∧(s2:Int)≤9 by omega))
 have fw:∀ k,Fq 87 (wq k):=fun k=>by rw[hwq];exact fq_wq fr O 3 k
 have ce:Cl 17 [gridD (nz [s0,s1,s2]) w data,slQ (fun i=>txq (rqN (cxq at' 0) (cxq at' 1) (cxq at' 2) i)) 3] (.tup [.ints .i64 [spB (s0:Int) (cxq at' 0),spB (s1:Int) (cxq at' 1),spB (s2:Int) (cxq at' 2)],.ints .i64 (ord3 (spR (s0:Int) (cxq at' 0)) (spR (s1:Int) (cxq at' 1)) (spR (s2:Int) (cxq at' 2))),slQ (fun k=>txq (wqN (rqN (spR (s0:Int) (cxq at' 0)) (spR (s1:Int) (cxq at' 1)) (spR (s2:Int) (cxq at' 2))) (ord3 (spR (s0:Int) (cxq at' 0)) (spR (s1:Int) (cxq at' 1)) (spR (s2:Int) (cxq at' 2))) 3 k)) 4,.int .i64 0]):=cellq3 (out:=w) hg (fx 0) (fx 1) (fx 2)
 have ev:=evalq3 (out:=w) hg (fx 0) (fx 1) (fx 2)
 rw[← hO,← hwq] at ce
 have hal:∀ k,(atK [spB (s0:Int) (cxq at' 0),spB (s1:Int) (cxq at' 1),spB (s2:Int) (cxq at' 2)] O k).length=3:=fun k=>by
  induction k with
  | zero=>rfl
  | succ k ih=>rw[atK,jjw,ih]
 have hab:∀ k,k<4 → ∀ i,0≤(atK [spB (s0:Int) (cxq at' 0),spB (s1:Int) (cxq at' 1),spB (s2:Int) (cxq at' 2)] O k).getD i 0∧(atK [spB (s0:Int) (cxq at' 0),spB (s1:Int) (cxq at' 1),spB (s2:Int) (cxq at' 2)] O k).getD i 0≤100:=fun k hk i=>by
  have h:=(hat k hk).2
  have hl:=hal k
  rcases jiR i 3 with g|g
  ·have h4:i=0∨i=1∨i=2:=by omega
   rcases h4 with rfl|rfl|rfl<;>omega
  ·rw[jje,List.getElem?_eq_none (by omega)]
   exact⟨by decide,by decide⟩
 have hok:∀ k,k<4→okIdx (nz [s0,s1,s2]) (atK [spB (s0:Int) (cxq at' 0),spB (s1:Int) (cxq at' 1),spB (s2:Int) (cxq at' 2)] O k)=true:=fun k hk=>by
  have h:=(hat k hk).2
  have hl:=hal k
  refine jaX.2 ⟨by rw[hl];rfl,fun p n x g1 g2=>?_⟩
  have e:x=(atK [spB (s0:Int) (cxq at' 0),spB (s1:Int) (cxq at' 1),spB (s2:Int) (cxq at' 2)] O k).getD p 0:=by rw[jje,g2];rfl
  have hp:p<3:=by rw[← hl];exact(jjn.1 g2).1
  have h4:p=0∨p=1∨p=2:=by omega
  rcases h4 with rfl|rfl|rfl<;>(simp only[nz,List.map_cons,List.map_nil,List.getElem?_cons_zero,List.getElem?_cons_succ,Option.some.injEq] at g1;omega)
 have ck:=Called.cast (jcR (nz [s0,s1,s2]) w data (by simp[nz]) (by omega)) (r' := .int .i64 0) (by rw[hg];first|done|rfl)
 have hsl:∀ k,k<4→(slot data (pz ((nz [s0,s1,s2]).zip (atK [spB (s0:Int) (cxq at' 0),spB (s1:Int) (cxq at' 1),spB (s2:Int) (cxq at' 2)] O k))*w) w).length=w:=fun k hk=>by
  have:=jbt hg (hok k hk)
  simpa using this
 have hsv:∀ k j,0≤(slot data (pz ((nz [s0,s1,s2]).zip (atK [spB (s0:Int) (cxq at' 0),spB (s1:Int) (cxq at' 1),spB (s2:Int) (cxq at' 2)] O k))*w) w).getD j 0∧(slot data (pz ((nz [s0,s1,s2]).zip (atK [spB (s0:Int) (cxq at' 0),spB (s1:Int) (cxq at' 1),spB (s2:Int) (cxq at' 2)] O k))*w) w).getD j 0≤65535:=fun k j=>jbz hvals _ _ j
 have fm:=fun j=>fq_ws fw (v:=fun k=>Rat.divInt ((slot data (pz ((nz [s0,s1,s2]).zip (atK [spB (s0:Int) (cxq at' 0),spB (s1:Int) (cxq at' 1),spB (s2:Int) (cxq at' 2)] O k))*w) w).getD j 0) 65535) (fun k=>ja7 (hsv k j))
 have hmean:∀ j,wsQ wq (fun k=>Rat.divInt ((slot data (pz ((nz [s0,s1,s2]).zip (atK [spB (s0:Int) (cxq at' 0),spB (s1:Int) (cxq at' 1),spB (s2:Int) (cxq at' 2)] O k))*w) w).getD j 0) 65535) 4=evQ (nz [s0,s1,s2]) w data (cxq at' 0) (cxq at' 1) (cxq at' 2) j:=fun j=>by
  have e:=ev3_sm (z0:=(s0:Int)) (z1:=(s1:Int)) (z2:=(s2:Int)) (x0:=cxq at' 0) (x1:=cxq at' 1) (x2:=cxq at' 2) (by omega) (by omega) (by omega) w data j
  rw[← hO,← hwq] at e
  refine Eq.trans ?_ e.symm
  simp only[wsQ,smF,divF]
  have h0:=(hat 0 (by omega)).1
  have h1:=(hat 1 (by omega)).1
  have h2:=(hat 2 (by omega)).1
  have h3:=(hat 3 (by omega)).1
  simp only[nz,List.map_cons,List.map_nil,h0,h1,h2,h3]
  grind
 have hpl:∀ i,i<3→wsQ wq (cut 4 (fun k=>Rat.divInt ((atK [spB (s0:Int) (cxq at' 0),spB (s1:Int) (cxq at' 1),spB (s2:Int) (cxq at' 2)] O k).getD i 0) 1)) 4=cxq at' i*Rat.divInt ((nz [s0,s1,s2]).getD i 0-1) 1:=fun i hi=>by
  rw[jdg (v':=fun k=>(((atK [spB (s0:Int) (cxq at' 0),spB (s1:Int) (cxq at' 1),spB (s2:Int) (cxq at' 2)] O k).getD i 0:Int):Rat)) 4 (fun k hk=>by rw[jcC hk,jbb]),jbb]
  have h4:i=0∨i=1∨i=2:=by omega
  rcases h4 with rfl|rfl|rfl
  ·rw[wp0]
   have e:(nz [s0,s1,s2]).getD 0 0=(s0:Int):=rfl
   rw[e]
   have e2:=hgp 0
   unfold spR gp
   rw[e2]
   grind
  ·rw[wp1]
   have e:(nz [s0,s1,s2]).getD 1 0=(s1:Int):=rfl
   rw[e]
   have e2:=hgp 1
   unfold spR gp
   rw[e2]
   grind
  ·rw[wp2]
   have e:(nz [s0,s1,s2]).getD 2 0=(s2:Int):=rfl
   rw[e]
   have e2:=hgp 2
   unfold spR gp
   rw[e2]
   grind
 have fc:=fun i k=>fq_cut (m:=4) (f:=fun k=>Rat.divInt ((atK [spB (s0:Int) (cxq at' 0),spB (s1:Int) (cxq at' 1),spB (s2:Int) (cxq at' 2)] O k).getD i 0) 1) (fun k hk=>jaC (hab k hk i)) (by decide) k
 have hnz:∀ i,i<3→1≤(nz [s0,s1,s2]).getD i 0-1∧(nz [s0,s1,s2]).getD i 0-1≤3:=fun i hi=>by
  have h4:i=0∨i=1∨i=2:=by omega
  rcases h4 with rfl|rfl|rfl<;>simp[nz]<;>omega
 have fi:=fun k (hk:k<4)=>Called.cast (find_c (nz [s0,s1,s2]) w data (atK [spB (s0:Int) (cxq at' 0),spB (s1:Int) (cxq at' 1),spB (s2:Int) (cxq at' 2)] O k) hg (by rw[hal k];decide)) (r' := .tup [.iarr .i64 (pad4 (atK [spB (s0:Int) (cxq at' 0),spB (s1:Int) (cxq at' 1),spB (s2:Int) (cxq at' 2)] O k)),.bool true]) (by rw[hok k hk];rfl)
 have vl:=fun k (hk:k<4)=>Called.cast (jdh (nz [s0,s1,s2]) w data (pad4 (atK [spB (s0:Int) (cxq at' 0),spB (s1:Int) (cxq at' 1),spB (s2:Int) (cxq at' 2)] O k)) hg (jbn (hok k hk) (by simp[nz])).1 (jbn (hok k hk) (by simp[nz])).2) (r' := .ints .i64 (slot data (pz ((nz [s0,s1,s2]).zip (atK [spB (s0:Int) (cxq at' 0),spB (s1:Int) (cxq at' 1),spB (s2:Int) (cxq at' 2)] O k))*w) w)) (by rw[jeq (hok k hk)])
 have z1':Cl 18 [.int .i64 0,.int .i64 1] (frT (suQ wq 0)):=by
  have c:=lof_c (n:=0) (m:=1) (by omega) (by omega)
  rwa [show Rat.divInt 0 1=suQ wq 0 from by rw[jbb];rfl] at c
 have o1':Cl 18 [.int .i64 1,.int .i64 1] (frT (suQ wq 4)):=by
  have c:=lof_c (n:=1) (m:=1) (by omega) (by omega)
  rwa [show Rat.divInt 1 1=suQ wq 4 from by rw[w1,jbb];rfl] at c
 have f0:Fq 1 0:=⟨by decide,by decide⟩
 have hw3:w=1∨w=2∨w=3:=by omega
 rcases hw3 with rfl|rfl|rfl
 ·refine jg2 ds vals data O oo sm at' z1 z2 b1 b2 p1 p2 s0 s1 s2 (spB (s0:Int) (cxq at' 0)) (spB (s1:Int) (cxq at' 1)) (spB (s2:Int) (cxq at' 2)) _ _ (fun i=>txq (cxq at' i)) (fun k=>txq (wq k)) (fun j=>txq (evQ (nz [s0,s1,s2]) (1:Nat) data (cxq at' 0) (cxq at' 1) (cxq at' 2) j)) (fun k=>txq (suQ wq k)) (fun i=>txq (Rat.divInt ((nz [s0,s1,s2]).getD i 0-1) 1))
   (fun k i=>txq (wsQ wq (cut 4 (fun k=>Rat.divInt ((atK (zC s0 s1 s2 at') O k).getD i 0) 1)) k)) (fun k j=>txq (wsQ wq (fun k=>Rat.divInt ((zD data [s0,s1,s2] (zC s0 s1 s2 at') O k 1).getD j 0) 65535) k)) (fun k i=>txq (Rat.divInt ((atK (zC s0 s1 s2 at') O k).getD i 0) 1)) (fun k i=>txq (wq k*(cut 4 (fun k=>Rat.divInt ((atK (zC s0 s1 s2 at') O k).getD i 0) 1)) k)) (fun k j=>txq (Rat.divInt ((zD data [s0,s1,s2] (zC s0 s1 s2 at') O k 1).getD j 0) 65535)) (fun k j=>txq (wq k*Rat.divInt ((zD data [s0,s1,s2] (zC s0 s1 s2 at') O k 1).getD j 0) 65535)) (fun k=>pad4 (atK (zC s0 s1 s2 at') O k)) (fun k=>(zD data [s0,s1,s2] (zC s0 s1 s2 at') O k 1))
   hOl hq hab hsl (fun k=>jan (by rw[hal k];decide)) ⟨⟨by omega,by omega⟩,⟨by omega,by omega⟩,⟨by omega,by omega⟩⟩ ⟨⟨by omega,by omega⟩,⟨by omega,by omega⟩,⟨by omega,by omega⟩⟩ (fun _=>rfl) (fun _=>rfl) hend (fun j=>congrArg txq (hmean j)) jcn gd co ce ev z1' ck fi vl
   (fun k hk=>jcx (fw k) f0 (by decide) (by decide) (w0 k hk)) (fun k hk=>jaA (fq_su fw k) (fw k) (by omega) (by omega) (by omega)) (fun k i hk hi=>lof_c (n:=(atK [spB (s0:Int) (cxq at' 0),spB (s1:Int) (cxq at' 1),spB (s2:Int) (cxq at' 2)] O k).getD i 0) (m:=1) (by have:=hab k hk i;omega) (by omega))
   (fun k i hk hi=>?_) (fun k i hk hi=>jaA (fq_ws fw (fc i) k) ((fw k).mul (fc i k)) (by omega) (by omega) (by omega)) (fun k j hk hj=>lof_c (n:=(slot data (pz ((nz [s0,s1,s2]).zip (atK [spB (s0:Int) (cxq at' 0),spB (s1:Int) (cxq at' 1),spB (s2:Int) (cxq at' 2)] O k))*(1:Nat)) (1:Nat)).getD j 0) (m:=65535) (by have:=hsv k j;omega) (by omega))
   (fun k j hk hj=>jas (fw k) (ja7 (hsv k j)) (by decide) (by decide) (by decide)) (fun k j hk hj=>jaA (fm j k) ((fw k).mul (ja7 (hsv k j))) (by omega) (by omega) (by omega)) (fun i hi=>lof_c (n:=(nz [s0,s1,s2]).getD i 0-1) (m:=1) (by have:=hnz i hi;omega) (by omega)) (fun i hi=>?_) o1'
  ·have c:=jas (fw k) (jaC (hab k hk i)) (by decide) (by decide) (by decide)
   show Called _ _ _ (frT (wq k*(cut 4 (fun k=>Rat.divInt ((atK [spB (s0:Int) (cxq at' 0),spB (s1:Int) (cxq at' 1),spB (s2:Int) (cxq at' 2)] O k).getD i 0) 1)) k))
   rw[jcC hk]
   exact c
  ·have c:=jas (fx i) (jaC (v:=(nz [s0,s1,s2]).getD i 0-1) (by have:=hnz i hi;omega)) (by decide) (by decide) (by decide)
   rw[← hpl i hi] at c
   exact c
 ·refine jg1 ds vals data O oo sm at' z1 z2 b1 b2 p1 p2 s0 s1 s2 (spB (s0:Int) (cxq at' 0)) (spB (s1:Int) (cxq at' 1)) (spB (s2:Int) (cxq at' 2)) _ _ (fun i=>txq (cxq at' i)) (fun k=>txq (wq k)) (fun j=>txq (evQ (nz [s0,s1,s2]) (2:Nat) data (cxq at' 0) (cxq at' 1) (cxq at' 2) j)) (fun k=>txq (suQ wq k)) (fun i=>txq (Rat.divInt ((nz [s0,s1,s2]).getD i 0-1) 1))
   (fun k i=>txq (wsQ wq (cut 4 (fun k=>Rat.divInt ((atK (zC s0 s1 s2 at') O k).getD i 0) 1)) k)) (fun k j=>txq (wsQ wq (fun k=>Rat.divInt ((zD data [s0,s1,s2] (zC s0 s1 s2 at') O k 2).getD j 0) 65535) k)) (fun k i=>txq (Rat.divInt ((atK (zC s0 s1 s2 at') O k).getD i 0) 1)) (fun k i=>txq (wq k*(cut 4 (fun k=>Rat.divInt ((atK (zC s0 s1 s2 at') O k).getD i 0) 1)) k)) (fun k j=>txq (Rat.divInt ((zD data [s0,s1,s2] (zC s0 s1 s2 at') O k 2).getD j 0) 65535)) (fun k j=>txq (wq k*Rat.divInt ((zD data [s0,s1,s2] (zC s0 s1 s2 at') O k 2).getD j 0) 65535)) (fun k=>pad4 (atK (zC s0 s1 s2 at') O k)) (fun k=>(zD data [s0,s1,s2] (zC s0 s1 s2 at') O k 2))
   hOl hq hab hsl (fun k=>jan (by rw[hal k];decide)) ⟨⟨by omega,by omega⟩,⟨by omega,by omega⟩,⟨by omega,by omega⟩⟩ ⟨⟨by omega,by omega⟩,⟨by omega,by omega⟩,⟨by omega,by omega⟩⟩ (fun _=>rfl) (fun _=>rfl) hend (fun j=>congrArg txq (hmean j)) jcn gd co ce ev z1' ck fi vl
   (fun k hk=>jcx (fw k) f0 (by decide) (by decide) (w0 k hk)) (fun k hk=>jaA (fq_su fw k) (fw k) (by omega) (by omega) (by omega)) (fun k i hk hi=>lof_c (n:=(atK [spB (s0:Int) (cxq at' 0),spB (s1:Int) (cxq at' 1),spB (s2:Int) (cxq at' 2)] O k).getD i 0) (m:=1) (by have:=hab k hk i;omega) (by omega))
   (fun k i hk hi=>?_) (fun k i hk hi=>jaA (fq_ws fw (fc i) k) ((fw k).mul (fc i k)) (by omega) (by omega) (by omega)) (fun k j hk hj=>lof_c (n:=(slot data (pz ((nz [s0,s1,s2]).zip (atK [spB (s0:Int) (cxq at' 0),spB (s1:Int) (cxq at' 1),spB (s2:Int) (cxq at' 2)] O k))*(2:Nat)) (2:Nat)).getD j 0) (m:=65535) (by have:=hsv k j;omega) (by omega))
   (fun k j hk hj=>jas (fw k) (ja7 (hsv k j)) (by decide) (by decide) (by decide)) (fun k j hk hj=>jaA (fm j k) ((fw k).mul (ja7 (hsv k j))) (by omega) (by omega) (by omega)) (fun i hi=>lof_c (n:=(nz [s0,s1,s2]).getD i 0-1) (m:=1) (by have:=hnz i hi;omega) (by omega)) (fun i hi=>?_) o1'
  ·have c:=jas (fw k) (jaC (hab k hk i)) (by decide) (by decide) (by decide)
   show Called _ _ _ (frT (wq k*(cut 4 (fun k=>Rat.divInt ((atK [spB (s0:Int) (cxq at' 0),spB (s1:Int) (cxq at' 1),spB (s2:Int) (cxq at' 2)] O k).getD i 0) 1)) k))
   rw[jcC hk]
   exact c
  ·have c:=jas (fx i) (jaC (v:=(nz [s0,s1,s2]).getD i 0-1) (by have:=hnz i hi;omega)) (by decide) (by decide) (by decide)
   rw[← hpl i hi] at c
   exact c
 ·refine jg0 ds vals data O oo sm at' z1 z2 b1 b2 p1 p2 s0 s1 s2 (spB (s0:Int) (cxq at' 0)) (spB (s1:Int) (cxq at' 1)) (spB (s2:Int) (cxq at' 2)) _ _ (fun i=>txq (cxq at' i)) (fun k=>txq (wq k)) (fun j=>txq (evQ (nz [s0,s1,s2]) (3:Nat) data (cxq at' 0) (cxq at' 1) (cxq at' 2) j)) (fun k=>txq (suQ wq k)) (fun i=>txq (Rat.divInt ((nz [s0,s1,s2]).getD i 0-1) 1))
   (fun k i=>txq (wsQ wq (cut 4 (fun k=>Rat.divInt ((atK (zC s0 s1 s2 at') O k).getD i 0) 1)) k)) (fun k j=>txq (wsQ wq (fun k=>Rat.divInt ((zD data [s0,s1,s2] (zC s0 s1 s2 at') O k 3).getD j 0) 65535) k)) (fun k i=>txq (Rat.divInt ((atK (zC s0 s1 s2 at') O k).getD i 0) 1)) (fun k i=>txq (wq k*(cut 4 (fun k=>Rat.divInt ((atK (zC s0 s1 s2 at') O k).getD i 0) 1)) k)) (fun k j=>txq (Rat.divInt ((zD data [s0,s1,s2] (zC s0 s1 s2 at') O k 3).getD j 0) 65535)) (fun k j=>txq (wq k*Rat.divInt ((zD data [s0,s1,s2] (zC s0 s1 s2 at') O k 3).getD j 0) 65535)) (fun k=>pad4 (atK (zC s0 s1 s2 at') O k)) (fun k=>(zD data [s0,s1,s2] (zC s0 s1 s2 at') O k 3))
   hOl hq hab hsl (fun k=>jan (by rw[hal k];decide)) ⟨⟨by omega,by omega⟩,⟨by omega,by omega⟩,⟨by omega,by omega⟩⟩ ⟨⟨by omega,by omega⟩,⟨by omega,by omega⟩,⟨by omega,by omega⟩⟩ (fun _=>rfl) (fun _=>rfl) hend (fun j=>congrArg txq (hmean j)) jcn gd co ce ev z1' ck fi vl
   (fun k hk=>jcx (fw k) f0 (by decide) (by decide) (w0 k hk)) (fun k hk=>jaA (fq_su fw k) (fw k) (by omega) (by omega) (by omega)) (fun k i hk hi=>lof_c (n:=(atK [spB (s0:Int) (cxq at' 0),spB (s1:Int) (cxq at' 1),spB (s2:Int) (cxq at' 2)] O k).getD i 0) (m:=1) (by have:=hab k hk i;omega) (by omega))
   (fun k i hk hi=>?_) (fun k i hk hi=>jaA (fq_ws fw (fc i) k) ((fw k).mul (fc i k)) (by omega) (by omega) (by omega)) (fun k j hk hj=>lof_c (n:=(slot data (pz ((nz [s0,s1,s2]).zip (atK [spB (s0:Int) (cxq at' 0),spB (s1:Int) (cxq at' 1),spB (s2:Int) (cxq at' 2)] O k))*(3:Nat)) (3:Nat)).getD j 0) (m:=65535) (by have:=hsv k j;omega) (by omega))
   (fun k j hk hj=>jas (fw k) (ja7 (hsv k j)) (by decide) (by decide) (by decide)) (fun k j hk hj=>jaA (fm j k) ((fw k).mul (ja7 (hsv k j))) (by omega) (by omega) (by omega)) (fun i hi=>lof_c (n:=(nz [s0,s1,s2]).getD i 0-1) (m:=1) (by have:=hnz i hi;omega) (by omega)) (fun i hi=>?_) o1'
  ·have c:=jas (fw k) (jaC (hab k hk i)) (by decide) (by decide) (by decide)
   show Called _ _ _ (frT (wq k*(cut 4 (fun k=>Rat.divInt ((atK [spB (s0:Int) (cxq at' 0),spB (s1:Int) (cxq at' 1),spB (s2:Int) (cxq at' 2)] O k).getD i 0) 1)) k))
   rw[jcC hk]
   exact c
  ·have c:=jas (fx i) (jaC (v:=(nz [s0,s1,s2]).getD i 0-1) (by have:=hnz i hi;omega)) (by decide) (by decide) (by decide)
   rw[← hpl i hi] at c
   exact c
theorem weights_c (ds:List Int)(o:Int)(vals:List Int)(sm:Bool)(hd:∀ v∈ds,0≤v∧v≤255)(hdl:ds.length≤281474976710656)(ho:0≤o∧o≤255)(hv:∀ v∈vals,0≤v∧v≤65535)(hvl:vals.length≤281474976710656){at' z1 z2:Nat→Int}(b1 b2:Nat→Bool)(p1 p2:Nat→List Int)(ha:∀ i, -32768≤at' i∧at' i≤32767)(hz1:∀ i,0≤z1 i∧z1 i≤65535)(hz2:∀ i,0≤z2 i∧z2 i≤65535) :
  Cl 4 [.agg [.ints .u8 ds,.int .u8 o,.ints .u16 vals,.bool sm],(colD at' z1 z2 b1 b2 p1 p2)] (.bool true):=by
 have gd:=draft_c ds o vals sm hd hdl ho hv hvl
 have ok:=draft_ok ds o vals sm hv
 have nb:=nsD_bd ds
 have wb:=wD_bd o
 generalize dData ds o vals sm=data at *
 generalize hns:nsD ds=ns at *
 generalize wD o=w at *
 match ns,nb with
 | [],nb=>exact absurd nb.1.1 (by decide)
 | [s0],nb=>exact weightsG1 rfl wb ok nb.2 gd b1 b2 p1 p2 ha hz1 hz2
 | [s0,s1],nb=>exact weightsG2 rfl wb ok nb.2 gd b1 b2 p1 p2 ha hz1 hz2
 | [s0,s1,s2],nb=>exact weightsG3 rfl wb ok nb.2 gd b1 b2 p1 p2 ha hz1 hz2
 | _::_::_::_::_,nb=>exact absurd nb.1.2 (by simp)
end Go.Proofs.YtgjgpdceghjajaaGreatDoor
end
