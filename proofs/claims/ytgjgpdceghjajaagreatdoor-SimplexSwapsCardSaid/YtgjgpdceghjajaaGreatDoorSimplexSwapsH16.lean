/- What functions of the program answer at given values, part 16. Conditions: those that each theorem names. -/
import Derived.Test.YtgjgpdceghjajaaGreatDoorSimplexSwapsH13
import Derived.Test.YtgjgpdceghjajaaGreatDoorSimplexSwapsH14
import Derived.Test.YtgjgpdceghjajaaGreatDoorSimplexSwapsH15
import Derived.Test.YtgjgpdceghjajaaGreatDoorSimplexSwapsH6
set_option linter.unusedSimpArgs false
set_option linter.unusedVariables false
set_option maxHeartbeats 8000000
set_option maxRecDepth 100000
section
namespace Go.Proofs.YtgjgpdceghjajaaGreatDoor
open Go Go.V Go.Nb Go.Gr
theorem swk {ns:List Nat}{w:Nat}{data:List Int}{a b:Nat}(hg:jak (nz ns) w data=true)(hp:∀ n∈ns,2≤n∧n≤9)(ha:a<ns.length)(hb:b<ns.length){x:List Int}(hx:okIdx (nz ns) x=true) :
  slot (jah (nz ns) w data a b) (pz ((nz (swn ns a b)).zip (swp x a b))*w) w=slot data (pz ((nz ns).zip x)*w) w:=by
 obtain⟨⟨h0,h1⟩,h2⟩:=ixl_pz ns x hx
 obtain⟨m,hm⟩:∃ m:Nat,pz ((nz ns).zip x)=m:=⟨_,(jh8 h0).symm⟩
 rw[hm,jh9] at h2
 have e:=((jaK hg hp ha hb).2.2.2.1 m (by omega)).2
 rw[h2] at e
 rw[e,hm]
 simp
theorem okIdx1 {s0:Nat}{i:Int}(h0:0≤i∧i≤(s0:Int)-1):okIdx (nz [s0]) [i]=true:=by
 simp only[okIdx,nz,List.map_cons,List.map_nil,List.zip_cons_cons,List.zip_nil_right,List.all_cons,List.all_nil,Bool.and_true,jh2,decide_eq_true_eq]
 exact⟨rfl,h0⟩
theorem okIdx2 {s0 s1:Nat}{i j:Int}(h0:0≤i∧i≤(s0:Int)-1)(h1:0≤j∧j≤(s1:Int)-1):okIdx (nz [s0,s1]) [i,j]=true:=by
 simp only[okIdx,nz,List.map_cons,List.map_nil,List.zip_cons_cons,List.zip_nil_right,List.all_cons,List.all_nil,Bool.and_true,jh2,decide_eq_true_eq]
 exact⟨rfl,h0,h1⟩
theorem eqf_w (Y:Nat→Tx){w:Nat}(hw:1≤w∧w≤3):Cl 16 [V.sl2 w (wce Y w),V.sl2 w (wce Y w)] (.bool true):=by
 have h:w=1∨w=2∨w=3:=by omega
 rcases h with rfl|rfl|rfl
 ·exact eqf1 Y
 ·exact eqf2 Y
 ·exact eqf3 Y
theorem sw1_00 {s0 w:Nat}{data:List Int}(hg:jak (nz [s0]) w data=true)(hp:∀ n∈[s0],2≤n∧n≤9)(x0:Rat)(j:Nat):evQ (nz [s0]) w (jah (nz [s0]) w data 0 0) x0 0 0 j=evQ (nz [s0]) w data x0 0 0 j:=by
 have g0:=hp s0 (by simp)
 unfold evQ
 refine congrArg (· / 65535) ?_
 refine Eq.trans (jaQ (s0:=(s0:Int)) (s1:=2) (s2:=2) (w:=fun i k l=>gvF (nz [s0]) w data j i k l) (by omega) (fun i k l h0 h1 h2=>?_) x0 0 0) rfl
 have e:=swk (a:=0) (b:=0) hg hp (by simp) (by simp) (x:=[i]) (okIdx1 h0)
 exact congrArg (fun L:List Int=>((L.getD j 0:Int):Rat)) e
theorem swapsG1 {D0:D}{ds vals:List Int}{oo a b:Int}{sm:Bool}(hD:D0 = .agg [.ints .u8 ds,.int .u8 oo,.ints .u16 vals,.bool sm]){s0 w:Nat}{data:List Int}(hw:1≤w∧w≤3)(hg:jak (nz [s0]) w data=true)(h2:∀ n∈[s0],2≤n∧n≤4)
  (gd:Cl 11 [D0] (gridD (nz [s0]) w data)) {at' z1 z2:Nat→Int} (b1 b2:Nat→Bool) (p1 p2:Nat→List Int) (ha:∀ i, -32768≤at' i∧at' i≤32767) (hz1:∀ i,0≤z1 i∧z1 i≤65535) (hz2:∀ i,0≤z2 i∧z2 i≤65535) (ka:0≤a∧a≤255) (kb:0≤b∧b≤255) :
  Cl 3 [D0,(colD at' z1 z2 b1 b2 p1 p2),.int .u8 a,.int .u8 b] (.bool true):=by
 subst hD
 obtain⟨X,co⟩:=colorq1 b1 b2 p1 p2 ha hz1 hz2
 have fx:=cxq_fq at'
 have h9:∀ n∈[s0],2≤n∧n≤9:=fun n hn=>by have:=h2 n hn;omega
 have hdl:=(jaI hg).2.2.1.1
 have ev:=evalq1 (out:=w) hg (fx 0)
 have hsw:Cl 12 [gridD (nz [s0]) w data,.int .i64 (a%1),.int .i64 (b%1)] (.tup [gridD (swp (nz [s0]) (a%1).toNat (b%1).toNat) w (jah (nz [s0]) w data (a%1).toNat (b%1).toNat),.int .i64 0]):=by
  refine Called.cast (swap_c (nz [s0]) w data (a%1) (b%1) (by simp[nz]) (by omega)) ?_
  have he:swErr (nz [s0]) w data (a%1) (b%1)=0:=by
   unfold swErr
   rw[hg,if_pos rfl,if_pos]
   simp only[nz,List.length_map,jiN,List.length_nil]
   omega
  unfold swR
  rw[he]
  rfl
 refine swaps1_t ds vals data _ _ oo w a b sm at' z1 z2 b1 b2 p1 p2 s0 _ _ (fun i=>txq (cxq at' i)) (fun j=>txq (evQ (nz [s0]) w data (cxq at' 0) 0 0 j)) ka kb jgN gd hsw co ev (fun i k hi hk=>?_) (by rw[jh9];exact eqf_w _ hw)
 have ei:(a%1).toNat=i:=by omega
 have ek:(b%1).toNat=k:=by omega
 rw[ei,ek]
 have hi4:i=0:=by omega
 have hk4:k=0:=by omega
 rcases hi4 with rfl<;>rcases hk4 with rfl
 ·have g2:jak (nz [s0]) w (jah (nz [s0]) w data 0 0)=true:=(jaK (a:=0) (b:=0) hg h9 (by simp) (by simp)).1
  have c:Cl 15 [gridD (nz [s0]) w (jah (nz [s0]) w data 0 0),slQ (fun i=>txq (rqN (cxq at' 0) 0 0 i)) 1] (.tup [slQ (fun j=>txq (evQ (nz [s0]) w (jah (nz [s0]) w data 0 0) (cxq at' 0) 0 0 j)) (w:Int).toNat,.int .i64 0]):=evalq1 (out:=w) g2 (fx 0)
  rw[show (fun j=>txq (evQ (nz [s0]) w (jah (nz [s0]) w data 0 0) (cxq at' 0) 0 0 j))=(fun j=>txq (evQ (nz [s0]) w data (cxq at' 0) 0 0 j)) from funext fun j=>congrArg txq (sw1_00 hg h9 (cxq at' 0) j)] at c
  exact c
theorem sw2_00 {s0 s1 w:Nat}{data:List Int}(hg:jak (nz [s0,s1]) w data=true)(hp:∀ n∈[s0,s1],2≤n∧n≤9)(x0 x1:Rat)(j:Nat):evQ (nz [s0,s1]) w (jah (nz [s0,s1]) w data 0 0) x0 x1 0 j=evQ (nz [s0,s1]) w data x0 x1 0 j:=by
 have g0:=hp s0 (by simp)
 have g1:=hp s1 (by simp)
 unfold evQ
 refine congrArg (· / 65535) ?_
 refine Eq.trans (jaQ (s0:=(s0:Int)) (s1:=(s1:Int)) (s2:=2) (w:=fun i k l=>gvF (nz [s0,s1]) w data j i k l) (by omega) (fun i k l h0 h1 h2=>?_) x0 x1 0) rfl
 have e:=swk (a:=0) (b:=0) hg hp (by simp) (by simp) (x:=[i,k]) (okIdx2 h0 h1)
 exact congrArg (fun L:List Int=>((L.getD j 0:Int):Rat)) e
theorem sw2_01 {s0 s1 w:Nat}{data:List Int}(hg:jak (nz [s0,s1]) w data=true)(hp:∀ n∈[s0,s1],2≤n∧n≤9)(x0 x1:Rat)(j:Nat):evQ (nz [s1,s0]) w (jah (nz [s0,s1]) w data 0 1) x1 x0 0 j=evQ (nz [s0,s1]) w data x0 x1 0 j:=by
 have g0:=hp s0 (by simp)
 have g1:=hp s1 (by simp)
 unfold evQ
 refine congrArg (· / 65535) ?_
 refine Eq.trans (jaQ (s0:=(s1:Int)) (s1:=(s0:Int)) (s2:=2) (w:=fun i k l=>gvF (nz [s0,s1]) w data j k i l) (by omega) (fun i k l h0 h1 h2=>?_) x1 x0 0) (jf7 (s0:=(s0:Int)) (s1:=(s1:Int)) (s2:=2) (by omega) (gvF (nz [s0,s1]) w data j) x0 x1 0)
 have e:=swk (a:=0) (b:=1) hg hp (by simp) (by simp) (x:=[k,i]) (okIdx2 h1 h0)
 exact congrArg (fun L:List Int=>((L.getD j 0:Int):Rat)) e
theorem sw2_10 {s0 s1 w:Nat}{data:List Int}(hg:jak (nz [s0,s1]) w data=true)(hp:∀ n∈[s0,s1],2≤n∧n≤9)(x0 x1:Rat)(j:Nat):evQ (nz [s1,s0]) w (jah (nz [s0,s1]) w data 1 0) x1 x0 0 j=evQ (nz [s0,s1]) w data x0 x1 0 j:=by
 have g0:=hp s0 (by simp)
 have g1:=hp s1 (by simp)
 unfold evQ
 refine congrArg (· / 65535) ?_
 refine Eq.trans (jaQ (s0:=(s1:Int)) (s1:=(s0:Int)) (s2:=2) (w:=fun i k l=>gvF (nz [s0,s1]) w data j k i l) (by omega) (fun i k l h0 h1 h2=>?_) x1 x0 0) (jf7 (s0:=(s0:Int)) (s1:=(s1:Int)) (s2:=2) (by omega) (gvF (nz [s0,s1]) w data j) x0 x1 0)
 have e:=swk (a:=1) (b:=0) hg hp (by simp) (by simp) (x:=[k,i]) (okIdx2 h1 h0)
 exact congrArg (fun L:List Int=>((L.getD j 0:Int):Rat)) e
theorem sw2_11 {s0 s1 w:Nat}{data:List Int}(hg:jak (nz [s0,s1]) w data=true)(hp:∀ n∈[s0,s1],2≤n∧n≤9)(x0 x1:Rat)(j:Nat):evQ (nz [s0,s1]) w (jah (nz [s0,s1]) w data 1 1) x0 x1 0 j=evQ (nz [s0,s1]) w data x0 x1 0 j:=by
 have g0:=hp s0 (by simp)
 have g1:=hp s1 (by simp)
 unfold evQ
 refine congrArg (· / 65535) ?_
 refine Eq.trans (jaQ (s0:=(s0:Int)) (s1:=(s1:Int)) (s2:=2) (w:=fun i k l=>gvF (nz [s0,s1]) w data j i k l) (by omega) (fun i k l h0 h1 h2=>?_) x0 x1 0) rfl
 have e:=swk (a:=1) (b:=1) hg hp (by simp) (by simp) (x:=[i,k]) (okIdx2 h0 h1)
 exact congrArg (fun L:List Int=>((L.getD j 0:Int):Rat)) e
theorem swapsG2 {D0:D}{ds vals:List Int}{oo a b:Int}{sm:Bool}(hD:D0 = .agg [.ints .u8 ds,.int .u8 oo,.ints .u16 vals,.bool sm]){s0 s1 w:Nat}{data:List Int}(hw:1≤w∧w≤3)(hg:jak (nz [s0,s1]) w data=true)(h2:∀ n∈[s0,s1],2≤n∧n≤4)
  (gd:Cl 11 [D0] (gridD (nz [s0,s1]) w data)) {at' z1 z2:Nat→Int} (b1 b2:Nat→Bool) (p1 p2:Nat→List Int) (ha:∀ i, -32768≤at' i∧at' i≤32767) (hz1:∀ i,0≤z1 i∧z1 i≤65535) (hz2:∀ i,0≤z2 i∧z2 i≤65535) (ka:0≤a∧a≤255) (kb:0≤b∧b≤255) :
  Cl 3 [D0,(colD at' z1 z2 b1 b2 p1 p2),.int .u8 a,.int .u8 b] (.bool true):=by
 subst hD
 obtain⟨X,co⟩:=colorq2 b1 b2 p1 p2 ha hz1 hz2
 have fx:=cxq_fq at'
 have h9:∀ n∈[s0,s1],2≤n∧n≤9:=fun n hn=>by have:=h2 n hn;omega
 have hdl:=(jaI hg).2.2.1.1
 have ev:=evalq2 (out:=w) hg (fx 0) (fx 1)
 have hsw:Cl 12 [gridD (nz [s0,s1]) w data,.int .i64 (a%2),.int .i64 (b%2)] (.tup [gridD (swp (nz [s0,s1]) (a%2).toNat (b%2).toNat) w (jah (nz [s0,s1]) w data (a%2).toNat (b%2).toNat),.int .i64 0]):=by
  refine Called.cast (swap_c (nz [s0,s1]) w data (a%2) (b%2) (by simp[nz]) (by omega)) ?_
  have he:swErr (nz [s0,s1]) w data (a%2) (b%2)=0:=by
   unfold swErr
   rw[hg,if_pos rfl,if_pos]
   simp only[nz,List.length_map,jiN,List.length_nil]
   omega
  unfold swR
  rw[he]
  rfl
 refine swaps2_t ds vals data _ _ oo w a b sm at' z1 z2 b1 b2 p1 p2 s0 s1 _ _ (fun i=>txq (cxq at' i)) (fun j=>txq (evQ (nz [s0,s1]) w data (cxq at' 0) (cxq at' 1) 0 j)) ka kb jgN gd hsw co ev (fun i k hi hk=>?_) (by rw[jh9];exact eqf_w _ hw)
 have ei:(a%2).toNat=i:=by omega
 have ek:(b%2).toNat=k:=by omega
 rw[ei,ek]
 have hi4:i=0∨i=1:=by omega
 have hk4:k=0∨k=1:=by omega
 rcases hi4 with rfl|rfl<;>rcases hk4 with rfl|rfl
 ·have g2:jak (nz [s0,s1]) w (jah (nz [s0,s1]) w data 0 0)=true:=(jaK (a:=0) (b:=0) hg h9 (by simp) (by simp)).1
  have c:Cl 15 [gridD (nz [s0,s1]) w (jah (nz [s0,s1]) w data 0 0),slQ (fun i=>txq (rqN (cxq at' 0) (cxq at' 1) 0 i)) 2] (.tup [slQ (fun j=>txq (evQ (nz [s0,s1]) w (jah (nz [s0,s1]) w data 0 0) (cxq at' 0) (cxq at' 1) 0 j)) (w:Int).toNat,.int .i64 0]):=evalq2 (out:=w) g2 (fx 0) (fx 1)
  rw[show (fun j=>txq (evQ (nz [s0,s1]) w (jah (nz [s0,s1]) w data 0 0) (cxq at' 0) (cxq at' 1) 0 j))=(fun j=>txq (evQ (nz [s0,s1]) w data (cxq at' 0) (cxq at' 1) 0 j)) from funext fun j=>congrArg txq (sw2_00 hg h9 (cxq at' 0) (cxq at' 1) j)] at c
  exact c
 ·have g2:jak (nz [s1,s0]) w (jah (nz [s0,s1]) w data 0 1)=true:=(jaK (a:=0) (b:=1) hg h9 (by simp) (by simp)).1
  have c:Cl 15 [gridD (nz [s1,s0]) w (jah (nz [s0,s1]) w data 0 1),slQ (fun i=>txq (rqN (cxq at' 1) (cxq at' 0) 0 i)) 2] (.tup [slQ (fun j=>txq (evQ (nz [s1,s0]) w (jah (nz [s0,s1]) w data 0 1) (cxq at' 1) (cxq at' 0) 0 j)) (w:Int).toNat,.int .i64 0]):=evalq2 (out:=w) g2 (fx 1) (fx 0)
  rw[show (fun j=>txq (evQ (nz [s1,s0]) w (jah (nz [s0,s1]) w data 0 1) (cxq at' 1) (cxq at' 0) 0 j))=(fun j=>txq (evQ (nz [s0,s1]) w data (cxq at' 0) (cxq at' 1) 0 j)) from funext fun j=>congrArg txq (sw2_01 hg h9 (cxq at' 0) (cxq at' 1) j)] at c
  exact c
 ·have g2:jak (nz [s1,s0]) w (jah (nz [s0,s1]) w data 1 0)=true:=(jaK (a:=1) (b:=0) hg h9 (by simp) (by simp)).1
  have c:Cl 15 [gridD (nz [s1,s0]) w (jah (nz [s0,s1]) w data 1 0),slQ (fun i=>txq (rqN (cxq at' 1) (cxq at' 0) 0 i)) 2] (.tup [slQ (fun j=>txq (evQ (nz [s1,s0]) w (jah (nz [s0,s1]) w data 1 0) (cxq at' 1) (cxq at' 0) 0 j)) (w:Int).toNat,.int .i64 0]):=evalq2 (out:=w) g2 (fx 1) (fx 0)
  rw[show (fun j=>txq (evQ (nz [s1,s0]) w (jah (nz [s0,s1]) w data 1 0) (cxq at' 1) (cxq at' 0) 0 j))=(fun j=>txq (evQ (nz [s0,s1]) w data (cxq at' 0) (cxq at' 1) 0 j)) from funext fun j=>congrArg txq (sw2_10 hg h9 (cxq at' 0) (cxq at' 1) j)] at c
  exact c
 ·have g2:jak (nz [s0,s1]) w (jah (nz [s0,s1]) w data 1 1)=true:=(jaK (a:=1) (b:=1) hg h9 (by simp) (by simp)).1
  have c:Cl 15 [gridD (nz [s0,s1]) w (jah (nz [s0,s1]) w data 1 1),slQ (fun i=>txq (rqN (cxq at' 0) (cxq at' 1) 0 i)) 2] (.tup [slQ (fun j=>txq (evQ (nz [s0,s1]) w (jah (nz [s0,s1]) w data 1 1) (cxq at' 0) (cxq at' 1) 0 j)) (w:Int).toNat,.int .i64 0]):=evalq2 (out:=w) g2 (fx 0) (fx 1)
  rw[show (fun j=>txq (evQ (nz [s0,s1]) w (jah (nz [s0,s1]) w data 1 1) (cxq at' 0) (cxq at' 1) 0 j))=(fun j=>txq (evQ (nz [s0,s1]) w data (cxq at' 0) (cxq at' 1) 0 j)) from funext fun j=>congrArg txq (sw2_11 hg h9 (cxq at' 0) (cxq at' 1) j)] at c
  exact c
theorem sw3_00 {s0 s1 s2 w:Nat}{data:List Int}(hg:jak (nz [s0,s1,s2]) w data=true)(hp:∀ n∈[s0,s1,s2],2≤n∧n≤9)(x0 x1 x2:Rat)(j:Nat):evQ (nz [s0,s1,s2]) w (jah (nz [s0,s1,s2]) w data 0 0) x0 x1 x2 j=evQ (nz [s0,s1,s2]) w data x0 x1 x2 j:=by
 have g0:=hp s0 (by simp)
 have g1:=hp s1 (by simp)
 have g2:=hp s2 (by simp)
 unfold evQ
 refine congrArg (· / 65535) ?_
 refine Eq.trans (jaQ (s0:=(s0:Int)) (s1:=(s1:Int)) (s2:=(s2:Int)) (w:=fun i k l=>gvF (nz [s0,s1,s2]) w data j i k l) (by omega) (fun i k l h0 h1 h2=>?_) x0 x1 x2) rfl
 have e:=swk (a:=0) (b:=0) hg hp (by simp) (by simp) (x:=[i,k,l]) (jdn h0 h1 h2)
 exact congrArg (fun L:List Int=>((L.getD j 0:Int):Rat)) e
theorem sw3_01 {s0 s1 s2 w:Nat}{data:List Int}(hg:jak (nz [s0,s1,s2]) w data=true)(hp:∀ n∈[s0,s1,s2],2≤n∧n≤9)(x0 x1 x2:Rat)(j:Nat):evQ (nz [s1,s0,s2]) w (jah (nz [s0,s1,s2]) w data 0 1) x1 x0 x2 j=evQ (nz [s0,s1,s2]) w data x0 x1 x2 j:=by
 have g0:=hp s0 (by simp)
 have g1:=hp s1 (by simp)
 have g2:=hp s2 (by simp)
 unfold evQ
 refine congrArg (· / 65535) ?_
 refine Eq.trans (jaQ (s0:=(s1:Int)) (s1:=(s0:Int)) (s2:=(s2:Int)) (w:=fun i k l=>gvF (nz [s0,s1,s2]) w data j k i l) (by omega) (fun i k l h0 h1 h2=>?_) x1 x0 x2) (jf7 (s0:=(s0:Int)) (s1:=(s1:Int)) (s2:=(s2:Int)) (by omega) (gvF (nz [s0,s1,s2]) w data j) x0 x1 x2)
 have e:=swk (a:=0) (b:=1) hg hp (by simp) (by simp) (x:=[k,i,l]) (jdn h1 h0 h2)
 exact congrArg (fun L:List Int=>((L.getD j 0:Int):Rat)) e
theorem sw3_02 {s0 s1 s2 w:Nat}{data:List Int}(hg:jak (nz [s0,s1,s2]) w data=true)(hp:∀ n∈[s0,s1,s2],2≤n∧n≤9)(x0 x1 x2:Rat)(j:Nat):evQ (nz [s2,s1,s0]) w (jah (nz [s0,s1,s2]) w data 0 2) x2 x1 x0 j=evQ (nz [s0,s1,s2]) w data x0 x1 x2 j:=by
 have g0:=hp s0 (by simp)
 have g1:=hp s1 (by simp)
 have g2:=hp s2 (by simp)
 unfold evQ
 refine congrArg (· / 65535) ?_
 refine Eq.trans (jaQ (s0:=(s2:Int)) (s1:=(s1:Int)) (s2:=(s0:Int)) (w:=fun i k l=>gvF (nz [s0,s1,s2]) w data j l k i) (by omega) (fun i k l h0 h1 h2=>?_) x2 x1 x0) (ev_sw02 (s0:=(s0:Int)) (s1:=(s1:Int)) (s2:=(s2:Int)) (by omega) (gvF (nz [s0,s1,s2]) w data j) x0 x1 x2)
 have e:=swk (a:=0) (b:=2) hg hp (by simp) (by simp) (x:=[l,k,i]) (jdn h2 h1 h0)
 exact congrArg (fun L:List Int=>((L.getD j 0:Int):Rat)) e
theorem sw3_10 {s0 s1 s2 w:Nat}{data:List Int}(hg:jak (nz [s0,s1,s2]) w data=true)(hp:∀ n∈[s0,s1,s2],2≤n∧n≤9)(x0 x1 x2:Rat)(j:Nat):evQ (nz [s1,s0,s2]) w (jah (nz [s0,s1,s2]) w data 1 0) x1 x0 x2 j=evQ (nz [s0,s1,s2]) w data x0 x1 x2 j:=by
 have g0:=hp s0 (by simp)
 have g1:=hp s1 (by simp)
 have g2:=hp s2 (by simp)
 unfold evQ
 refine congrArg (· / 65535) ?_
 refine Eq.trans (jaQ (s0:=(s1:Int)) (s1:=(s0:Int)) (s2:=(s2:Int)) (w:=fun i k l=>gvF (nz [s0,s1,s2]) w data j k i l) (by omega) (fun i k l h0 h1 h2=>?_) x1 x0 x2) (jf7 (s0:=(s0:Int)) (s1:=(s1:Int)) (s2:=(s2:Int)) (by omega) (gvF (nz [s0,s1,s2]) w data j) x0 x1 x2)
 have e:=swk (a:=1) (b:=0) hg hp (by simp) (by simp) (x:=[k,i,l]) (jdn h1 h0 h2)
 exact congrArg (fun L:List Int=>((L.getD j 0:Int):Rat)) e
theorem sw3_11 {s0 s1 s2 w:Nat}{data:List Int}(hg:jak (nz [s0,s1,s2]) w data=true)(hp:∀ n∈[s0,s1,s2],2≤n∧n≤9)(x0 x1 x2:Rat)(j:Nat):evQ (nz [s0,s1,s2]) w (jah (nz [s0,s1,s2]) w data 1 1) x0 x1 x2 j=evQ (nz [s0,s1,s2]) w data x0 x1 x2 j:=by
 have g0:=hp s0 (by simp)
 have g1:=hp s1 (by simp)
 have g2:=hp s2 (by simp)
 unfold evQ
 refine congrArg (· / 65535) ?_
 refine Eq.trans (jaQ (s0:=(s0:Int)) (s1:=(s1:Int)) (s2:=(s2:Int)) (w:=fun i k l=>gvF (nz [s0,s1,s2]) w data j i k l) (by omega) (fun i k l h0 h1 h2=>?_) x0 x1 x2) rfl
 have e:=swk (a:=1) (b:=1) hg hp (by simp) (by simp) (x:=[i,k,l]) (jdn h0 h1 h2)
 exact congrArg (fun L:List Int=>((L.getD j 0:Int):Rat)) e
theorem sw3_12 {s0 s1 s2 w:Nat}{data:List Int}(hg:jak (nz [s0,s1,s2]) w data=true)(hp:∀ n∈[s0,s1,s2],2≤n∧n≤9)(x0 x1 x2:Rat)(j:Nat):evQ (nz [s0,s2,s1]) w (jah (nz [s0,s1,s2]) w data 1 2) x0 x2 x1 j=evQ (nz [s0,s1,s2]) w data x0 x1 x2 j:=by
 have g0:=hp s0 (by simp)
 have g1:=hp s1 (by simp)
 have g2:=hp s2 (by simp)
 unfold evQ
 refine congrArg (· / 65535) ?_
 refine Eq.trans (jaQ (s0:=(s0:Int)) (s1:=(s2:Int)) (s2:=(s1:Int)) (w:=fun i k l=>gvF (nz [s0,s1,s2]) w data j i l k) (by omega) (fun i k l h0 h1 h2=>?_) x0 x2 x1) (ev_sw12 (s0:=(s0:Int)) (s1:=(s1:Int)) (s2:=(s2:Int)) (by omega) (gvF (nz [s0,s1,s2]) w data j) x0 x1 x2)
 have e:=swk (a:=1) (b:=2) hg hp (by simp) (by simp) (x:=[i,l,k]) (jdn h0 h2 h1)
 exact congrArg (fun L:List Int=>((L.getD j 0:Int):Rat)) e
theorem sw3_20 {s0 s1 s2 w:Nat}{data:List Int}(hg:jak (nz [s0,s1,s2]) w data=true)(hp:∀ n∈[s0,s1,s2],2≤n∧n≤9)(x0 x1 x2:Rat)(j:Nat):evQ (nz [s2,s1,s0]) w (jah (nz [s0,s1,s2]) w data 2 0) x2 x1 x0 j=evQ (nz [s0,s1,s2]) w data x0 x1 x2 j:=by
 have g0:=hp s0 (by simp)
 have g1:=hp s1 (by simp)
 have g2:=hp s2 (by simp)
 unfold evQ
 refine congrArg (· / 65535) ?_
 refine Eq.trans (jaQ (s0:=(s2:Int)) (s1:=(s1:Int)) (s2:=(s0:Int)) (w:=fun i k l=>gvF (nz [s0,s1,s2]) w data j l k i) (by omega) (fun i k l h0 h1 h2=>?_) x2 x1 x0) (ev_sw02 (s0:=(s0:Int)) (s1:=(s1:Int)) (s2:=(s2:Int)) (by omega) (gvF (nz [s0,s1,s2]) w data j) x0 x1 x2)
 have e:=swk (a:=2) (b:=0) hg hp (by simp) (by simp) (x:=[l,k,i]) (jdn h2 h1 h0)
 exact congrArg (fun L:List Int=>((L.getD j 0:Int):Rat)) e
theorem sw3_21 {s0 s1 s2 w:Nat}{data:List Int}(hg:jak (nz [s0,s1,s2]) w data=true)(hp:∀ n∈[s0,s1,s2],2≤n∧n≤9)(x0 x1 x2:Rat)(j:Nat):evQ (nz [s0,s2,s1]) w (jah (nz [s0,s1,s2]) w data 2 1) x0 x2 x1 j=evQ (nz [s0,s1,s2]) w data x0 x1 x2 j:=by
 have g0:=hp s0 (by simp)
 have g1:=hp s1 (by simp)
 have g2:=hp s2 (by simp)
 unfold evQ
 refine congrArg (· / 65535) ?_
 refine Eq.trans (jaQ (s0:=(s0:Int)) (s1:=(s2:Int)) (s2:=(s1:Int)) (w:=fun i k l=>gvF (nz [s0,s1,s2]) w data j i l k) (by omega) (fun i k l h0 h1 h2=>?_) x0 x2 x1) (ev_sw12 (s0:=(s0:Int)) (s1:=(s1:Int)) (s2:=(s2:Int)) (by omega) (gvF (nz [s0,s1,s2]) w data j) x0 x1 x2)
 have e:=swk (a:=2) (b:=1) hg hp (by simp) (by simp) (x:=[i,l,k]) (jdn h0 h2 h1)
 exact congrArg (fun L:List Int=>((L.getD j 0:Int):Rat)) e
theorem sw3_22 {s0 s1 s2 w:Nat}{data:List Int}(hg:jak (nz [s0,s1,s2]) w data=true)(hp:∀ n∈[s0,s1,s2],2≤n∧n≤9)(x0 x1 x2:Rat)(j:Nat):evQ (nz [s0,s1,s2]) w (jah (nz [s0,s1,s2]) w data 2 2) x0 x1 x2 j=evQ (nz [s0,s1,s2]) w data x0 x1 x2 j:=by
 have g0:=hp s0 (by simp)
 have g1:=hp s1 (by simp)
 have g2:=hp s2 (by simp)
 unfold evQ
 refine congrArg (· / 65535) ?_
 refine Eq.trans (jaQ (s0:=(s0:Int)) (s1:=(s1:Int)) (s2:=(s2:Int)) (w:=fun i k l=>gvF (nz [s0,s1,s2]) w data j i k l) (by omega) (fun i k l h0 h1 h2=>?_) x0 x1 x2) rfl
 have e:=swk (a:=2) (b:=2) hg hp (by simp) (by simp) (x:=[i,k,l]) (jdn h0 h1 h2)
 exact congrArg (fun L:List Int=>((L.getD j 0:Int):Rat)) e
theorem swapsG3 {D0:D}{ds vals:List Int}{oo a b:Int}{sm:Bool}(hD:D0 = .agg [.ints .u8 ds,.int .u8 oo,.ints .u16 vals,.bool sm]){s0 s1 s2 w:Nat}{data:List Int}(hw:1≤w∧w≤3)(hg:jak (nz [s0,s1,s2]) w data=true)(h2:∀ n∈[s0,s1,s2],2≤n∧n≤4)
  (gd:Cl 11 [D0] (gridD (nz [s0,s1,s2]) w data)) {at' z1 z2:Nat→Int} (b1 b2:Nat→Bool) (p1 p2:Nat→List Int) (ha:∀ i, -32768≤at' i∧at' i≤32767) (hz1:∀ i,0≤z1 i∧z1 i≤65535) (hz2:∀ i,0≤z2 i∧z2 i≤65535) (ka:0≤a∧a≤255) (kb:0≤b∧b≤255) :
  Cl 3 [D0,(colD at' z1 z2 b1 b2 p1 p2),.int .u8 a,.int .u8 b] (.bool true):=by
 subst hD
 obtain⟨X,co⟩:=colorq3 b1 b2 p1 p2 ha hz1 hz2
 have fx:=cxq_fq at'
 have h9:∀ n∈[s0,s1,s2],2≤n∧n≤9:=fun n hn=>by have:=h2 n hn;omega
 have hdl:=(jaI hg).2.2.1.1
 have ev:=evalq3 (out:=w) hg (fx 0) (fx 1) (fx 2)
 have hsw:Cl 12 [gridD (nz [s0,s1,s2]) w data,.int .i64 (a%3),.int .i64 (b%3)] (.tup [gridD (swp (nz [s0,s1,s2]) (a%3).toNat (b%3).toNat) w (jah (nz [s0,s1,s2]) w data (a%3).toNat (b%3).toNat),.int .i64 0]):=by
  refine Called.cast (swap_c (nz [s0,s1,s2]) w data (a%3) (b%3) (by simp[nz]) (by omega)) ?_
  have he:swErr (nz [s0,s1,s2]) w data (a%3) (b%3)=0:=by
   unfold swErr
   rw[hg,if_pos rfl,if_pos]
   simp only[nz,List.length_map,jiN,List.length_nil]
   omega
  unfold swR
  rw[he]
  rfl
 refine swaps3_t ds vals data _ _ oo w a b sm at' z1 z2 b1 b2 p1 p2 s0 s1 s2 _ _ (fun i=>txq (cxq at' i)) (fun j=>txq (evQ (nz [s0,s1,s2]) w data (cxq at' 0) (cxq at' 1) (cxq at' 2) j)) ka kb jgN gd hsw co ev (fun i k hi hk=>?_) (by rw[jh9];exact eqf_w _ hw)
 have ei:(a%3).toNat=i:=by omega
 have ek:(b%3).toNat=k:=by omega
 rw[ei,ek]
 have hi4:i=0∨i=1∨i=2:=by omega
 have hk4:k=0∨k=1∨k=2:=by omega
 rcases hi4 with rfl|rfl|rfl<;>rcases hk4 with rfl|rfl|rfl
 ·have g2:jak (nz [s0,s1,s2]) w (jah (nz [s0,s1,s2]) w data 0 0)=true:=(jaK (a:=0) (b:=0) hg h9 (by simp) (by simp)).1
  have c:Cl 15 [gridD (nz [s0,s1,s2]) w (jah (nz [s0,s1,s2]) w data 0 0),slQ (fun i=>txq (rqN (cxq at' 0) (cxq at' 1) (cxq at' 2) i)) 3] (.tup [slQ (fun j=>txq (evQ (nz [s0,s1,s2]) w (jah (nz [s0,s1,s2]) w data 0 0) (cxq at' 0) (cxq at' 1) (cxq at' 2) j)) (w:Int).toNat,.int .i64 0]):=evalq3 (out:=w) g2 (fx 0) (fx 1) (fx 2)
  rw[show (fun j=>txq (evQ (nz [s0,s1,s2]) w (jah (nz [s0,s1,s2]) w data 0 0) (cxq at' 0) (cxq at' 1) (cxq at' 2) j))=(fun j=>txq (evQ (nz [s0,s1,s2]) w data (cxq at' 0) (cxq at' 1) (cxq at' 2) j)) from funext fun j=>congrArg txq (sw3_00 hg h9 (cxq at' 0) (cxq at' 1) (cxq at' 2) j)] at c
  exact c
 ·have g2:jak (nz [s1,s0,s2]) w (jah (nz [s0,s1,s2]) w data 0 1)=true:=(jaK (a:=0) (b:=1) hg h9 (by simp) (by simp)).1
  have c:Cl 15 [gridD (nz [s1,s0,s2]) w (jah (nz [s0,s1,s2]) w data 0 1),slQ (fun i=>txq (rqN (cxq at' 1) (cxq at' 0) (cxq at' 2) i)) 3] (.tup [slQ (fun j=>txq (evQ (nz [s1,s0,s2]) w (jah (nz [s0,s1,s2]) w data 0 1) (cxq at' 1) (cxq at' 0) (cxq at' 2) j)) (w:Int).toNat,.int .i64 0]):=evalq3 (out:=w) g2 (fx 1) (fx 0) (fx 2)
  rw[show (fun j=>txq (evQ (nz [s1,s0,s2]) w (jah (nz [s0,s1,s2]) w data 0 1) (cxq at' 1) (cxq at' 0) (cxq at' 2) j))=(fun j=>txq (evQ (nz [s0,s1,s2]) w data (cxq at' 0) (cxq at' 1) (cxq at' 2) j)) from funext fun j=>congrArg txq (sw3_01 hg h9 (cxq at' 0) (cxq at' 1) (cxq at' 2) j)] at c
  exact c
 ·have g2:jak (nz [s2,s1,s0]) w (jah (nz [s0,s1,s2]) w data 0 2)=true:=(jaK (a:=0) (b:=2) hg h9 (by simp) (by simp)).1
  have c:Cl 15 [gridD (nz [s2,s1,s0]) w (jah (nz [s0,s1,s2]) w data 0 2),slQ (fun i=>txq (rqN (cxq at' 2) (cxq at' 1) (cxq at' 0) i)) 3] (.tup [slQ (fun j=>txq (evQ (nz [s2,s1,s0]) w (jah (nz [s0,s1,s2]) w data 0 2) (cxq at' 2) (cxq at' 1) (cxq at' 0) j)) (w:Int).toNat,.int .i64 0]):=evalq3 (out:=w) g2 (fx 2) (fx 1) (fx 0)
  rw[show (fun j=>txq (evQ (nz [s2,s1,s0]) w (jah (nz [s0,s1,s2]) w data 0 2) (cxq at' 2) (cxq at' 1) (cxq at' 0) j))=(fun j=>txq (evQ (nz [s0,s1,s2]) w data (cxq at' 0) (cxq at' 1) (cxq at' 2) j)) from funext fun j=>congrArg txq (sw3_02 hg h9 (cxq at' 0) (cxq at' 1) (cxq at' 2) j)] at c
  exact c
 ·have g2:jak (nz [s1,s0,s2]) w (jah (nz [s0,s1,s2]) w data 1 0)=true:=(jaK (a:=1) (b:=0) hg h9 (by simp) (by simp)).1
  have c:Cl 15 [gridD (nz [s1,s0,s2]) w (jah (nz [s0,s1,s2]) w data 1 0),slQ (fun i=>txq (rqN (cxq at' 1) (cxq at' 0) (cxq at' 2) i)) 3] (.tup [slQ (fun j=>txq (evQ (nz [s1,s0,s2]) w (jah (nz [s0,s1,s2]) w data 1 0) (cxq at' 1) (cxq at' 0) (cxq at' 2) j)) (w:Int).toNat,.int .i64 0]):=evalq3 (out:=w) g2 (fx 1) (fx 0) (fx 2)
  rw[show (fun j=>txq (evQ (nz [s1,s0,s2]) w (jah (nz [s0,s1,s2]) w data 1 0) (cxq at' 1) (cxq at' 0) (cxq at' 2) j))=(fun j=>txq (evQ (nz [s0,s1,s2]) w data (cxq at' 0) (cxq at' 1) (cxq at' 2) j)) from funext fun j=>congrArg txq (sw3_10 hg h9 (cxq at' 0) (cxq at' 1) (cxq at' 2) j)] at c
  exact c
 ·have g2:jak (nz [s0,s1,s2]) w (jah (nz [s0,s1,s2]) w data 1 1)=true:=(jaK (a:=1) (b:=1) hg h9 (by simp) (by simp)).1
  have c:Cl 15 [gridD (nz [s0,s1,s2]) w (jah (nz [s0,s1,s2]) w data 1 1),slQ (fun i=>txq (rqN (cxq at' 0) (cxq at' 1) (cxq at' 2) i)) 3] (.tup [slQ (fun j=>txq (evQ (nz [s0,s1,s2]) w (jah (nz [s0,s1,s2]) w data 1 1) (cxq at' 0) (cxq at' 1) (cxq at' 2) j)) (w:Int).toNat,.int .i64 0]):=evalq3 (out:=w) g2 (fx 0) (fx 1) (fx 2)
  rw[show (fun j=>txq (evQ (nz [s0,s1,s2]) w (jah (nz [s0,s1,s2]) w data 1 1) (cxq at' 0) (cxq at' 1) (cxq at' 2) j))=(fun j=>txq (evQ (nz [s0,s1,s2]) w data (cxq at' 0) (cxq at' 1) (cxq at' 2) j)) from funext fun j=>congrArg txq (sw3_11 hg h9 (cxq at' 0) (cxq at' 1) (cxq at' 2) j)] at c
  exact c
 ·have g2:jak (nz [s0,s2,s1]) w (jah (nz [s0,s1,s2]) w data 1 2)=true:=(jaK (a:=1) (b:=2) hg h9 (by simp) (by simp)).1
  have c:Cl 15 [gridD (nz [s0,s2,s1]) w (jah (nz [s0,s1,s2]) w data 1 2),slQ (fun i=>txq (rqN (cxq at' 0) (cxq at' 2) (cxq at' 1) i)) 3] (.tup [slQ (fun j=>txq (evQ (nz [s0,s2,s1]) w (jah (nz [s0,s1,s2]) w data 1 2) (cxq at' 0) (cxq at' 2) (cxq at' 1) j)) (w:Int).toNat,.int .i64 0]):=evalq3 (out:=w) g2 (fx 0) (fx 2) (fx 1)
  rw[show (fun j=>txq (evQ (nz [s0,s2,s1]) w (jah (nz [s0,s1,s2]) w data 1 2) (cxq at' 0) (cxq at' 2) (cxq at' 1) j))=(fun j=>txq (evQ (nz [s0,s1,s2]) w data (cxq at' 0) (cxq at' 1) (cxq at' 2) j)) from funext fun j=>congrArg txq (sw3_12 hg h9 (cxq at' 0) (cxq at' 1) (cxq at' 2) j)] at c
  exact c
 ·have g2:jak (nz [s2,s1,s0]) w (jah (nz [s0,s1,s2]) w data 2 0)=true:=(jaK (a:=2) (b:=0) hg h9 (by simp) (by simp)).1
  have c:Cl 15 [gridD (nz [s2,s1,s0]) w (jah (nz [s0,s1,s2]) w data 2 0),slQ (fun i=>txq (rqN (cxq at' 2) (cxq at' 1) (cxq at' 0) i)) 3] (.tup [slQ (fun j=>txq (evQ (nz [s2,s1,s0]) w (jah (nz [s0,s1,s2]) w data 2 0) (cxq at' 2) (cxq at' 1) (cxq at' 0) j)) (w:Int).toNat,.int .i64 0]):=evalq3 (out:=w) g2 (fx 2) (fx 1) (fx 0)
  rw[show (fun j=>txq (evQ (nz [s2,s1,s0]) w (jah (nz [s0,s1,s2]) w data 2 0) (cxq at' 2) (cxq at' 1) (cxq at' 0) j))=(fun j=>txq (evQ (nz [s0,s1,s2]) w data (cxq at' 0) (cxq at' 1) (cxq at' 2) j)) from funext fun j=>congrArg txq (sw3_20 hg h9 (cxq at' 0) (cxq at' 1) (cxq at' 2) j)] at c
  exact c
 ·have g2:jak (nz [s0,s2,s1]) w (jah (nz [s0,s1,s2]) w data 2 1)=true:=(jaK (a:=2) (b:=1) hg h9 (by simp) (by simp)).1
  have c:Cl 15 [gridD (nz [s0,s2,s1]) w (jah (nz [s0,s1,s2]) w data 2 1),slQ (fun i=>txq (rqN (cxq at' 0) (cxq at' 2) (cxq at' 1) i)) 3] (.tup [slQ (fun j=>txq (evQ (nz [s0,s2,s1]) w (jah (nz [s0,s1,s2]) w data 2 1) (cxq at' 0) (cxq at' 2) (cxq at' 1) j)) (w:Int).toNat,.int .i64 0]):=evalq3 (out:=w) g2 (fx 0) (fx 2) (fx 1)
  rw[show (fun j=>txq (evQ (nz [s0,s2,s1]) w (jah (nz [s0,s1,s2]) w data 2 1) (cxq at' 0) (cxq at' 2) (cxq at' 1) j))=(fun j=>txq (evQ (nz [s0,s1,s2]) w data (cxq at' 0) (cxq at' 1) (cxq at' 2) j)) from funext fun j=>congrArg txq (sw3_21 hg h9 (cxq at' 0) (cxq at' 1) (cxq at' 2) j)] at c
  exact c
 ·have g2:jak (nz [s0,s1,s2]) w (jah (nz [s0,s1,s2]) w data 2 2)=true:=(jaK (a:=2) (b:=2) hg h9 (by simp) (by simp)).1
  have c:Cl 15 [gridD (nz [s0,s1,s2]) w (jah (nz [s0,s1,s2]) w data 2 2),slQ (fun i=>txq (rqN (cxq at' 0) (cxq at' 1) (cxq at' 2) i)) 3] (.tup [slQ (fun j=>txq (evQ (nz [s0,s1,s2]) w (jah (nz [s0,s1,s2]) w data 2 2) (cxq at' 0) (cxq at' 1) (cxq at' 2) j)) (w:Int).toNat,.int .i64 0]):=evalq3 (out:=w) g2 (fx 0) (fx 1) (fx 2)
  rw[show (fun j=>txq (evQ (nz [s0,s1,s2]) w (jah (nz [s0,s1,s2]) w data 2 2) (cxq at' 0) (cxq at' 1) (cxq at' 2) j))=(fun j=>txq (evQ (nz [s0,s1,s2]) w data (cxq at' 0) (cxq at' 1) (cxq at' 2) j)) from funext fun j=>congrArg txq (sw3_22 hg h9 (cxq at' 0) (cxq at' 1) (cxq at' 2) j)] at c
  exact c
theorem swaps_c (ds:List Int)(o:Int)(vals:List Int)(sm:Bool)(hd:∀ v∈ds,0≤v∧v≤255)(hdl:ds.length≤281474976710656)(ho:0≤o∧o≤255)(hv:∀ v∈vals,0≤v∧v≤65535)(hvl:vals.length≤281474976710656){at' z1 z2:Nat→Int}(b1 b2:Nat→Bool)(p1 p2:Nat→List Int)(ha:∀ i, -32768≤at' i∧at' i≤32767)(hz1:∀ i,0≤z1 i∧z1 i≤65535)(hz2:∀ i,0≤z2 i∧z2 i≤65535){a b:Int}(ka:0≤a∧a≤255)(kb:0≤b∧b≤255) :
  Cl 3 [.agg [.ints .u8 ds,.int .u8 o,.ints .u16 vals,.bool sm],(colD at' z1 z2 b1 b2 p1 p2),.int .u8 a,.int .u8 b] (.bool true):=by
 have gd:=draft_c ds o vals sm hd hdl ho hv hvl
 have ok:=draft_ok ds o vals sm hv
 have nb:=nsD_bd ds
 have wb:=wD_bd o
 generalize dData ds o vals sm=data at *
 generalize hns:nsD ds=ns at *
 generalize wD o=w at *
 match ns,nb with
 | [],nb=>exact absurd nb.1.1 (by decide)
 | [s0],nb=>exact swapsG1 rfl wb ok nb.2 gd b1 b2 p1 p2 ha hz1 hz2 ka kb
 | [s0,s1],nb=>exact swapsG2 rfl wb ok nb.2 gd b1 b2 p1 p2 ha hz1 hz2 ka kb
 | [s0,s1,s2],nb=>exact swapsG3 rfl wb ok nb.2 gd b1 b2 p1 p2 ha hz1 hz2 ka kb
 | _::_::_::_::_,nb=>exact absurd nb.1.2 (by simp)
end Go.Proofs.YtgjgpdceghjajaaGreatDoor
end
