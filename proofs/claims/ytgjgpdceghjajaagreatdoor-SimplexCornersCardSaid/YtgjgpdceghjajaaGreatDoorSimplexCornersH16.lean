/- What functions of the program answer at given values, part 16. Conditions: those that each theorem names. -/
import Derived.Test.YtgjgpdceghjajaaGreatDoorSimplexCornersH14
import Derived.Test.YtgjgpdceghjajaaGreatDoorSimplexCornersH15
import Derived.Test.YtgjgpdceghjajaaGreatDoorSimplexCornersH13
import Derived.Test.YtgjgpdceghjajaaGreatDoorSimplexCornersH6
set_option linter.unusedSimpArgs false
set_option linter.unusedVariables false
set_option maxHeartbeats 8000000
set_option maxRecDepth 100000
section
namespace Go.Proofs.YtgjgpdceghjajaaGreatDoor
open Go Go.V Go.Nb Go.Gr
theorem nearU_bd {x:Rat}(h0:0≤x)(h1:x≤1):0≤nearZ x 65535∧nearZ x 65535≤65535:=by
 have hd:(0:Int)<x.den:=by have:=x.den_pos;omega
 have hn:0≤x.num:=Rat.num_nonneg.2 h0
 have hn1:x.num≤x.den:=by
  have:=Rat.le_iff (a:=x) (b:=1) |>.1 h1
  simpa using this
 unfold nearZ
 have e1:((65535*2:Nat):Int)=131070:=rfl
 have e2:((x.den*2:Nat):Int)=2*(x.den:Int):=by push_cast;omega
 rw[e1,e2]
 refine⟨Int.ediv_nonneg (by omega) (by omega),?_⟩
 have:(x.num*131070+x.den)/(2*(x.den:Int))<65536:=Int.ediv_lt_of_lt_mul (by omega) (by omega)
 omega
theorem near_q {n:Nat}{x:Rat}(h:Fq n x)(h0:0<n∧n≤600)(hb:0≤x∧x≤1):Cl 68 [frT x,.int .i64 65535] (.tup [.int .i64 (nearZ x 65535),.int .i64 0]):=by
 have o:=jaV (h.ok h0.1 h0.2)
 have b:=nearU_bd hb.1 hb.2
 have c:=near_f (decZ x.num) (dec x.den) 65535 o.1 (by omega) (by omega) (by rw[o.2];omega)
 rw[o.2] at c
 exact c
def xR (ts:List Nat)(m i:Nat):Rat:=Rat.divInt ((pad4 (ixl ts m)).getD i 0) ((nz ts).getD i 0-1)
def rfW (zs:List Int)(out:Int)(data:List Int)(ts:List Nat)(m j:Nat):Int:=nearZ (evQ zs out data (xR ts m 0) (xR ts m 1) (xR ts m 2) j) 65535
def rfD (zs:List Int)(out:Int)(data:List Int)(ts:List Nat):List Int:=flat ts (fun m=>(List.range out.toNat).map (rfW zs out data ts m)) (PR ts)
theorem jeq (l:List Int)(i:Nat):(pad4 l).getD i 0=l.getD i 0:=by
 unfold pad4
 rw[jiA,jiA]
 rcases jid i l.length with h|h
 ·rw[jiI h]
 ·rw[List.getElem?_append_right h,List.getElem?_eq_none h]
  cases e:(List.replicate (4-l.length) (0:Int))[i-l.length]? with
  | none=>rfl
  | some v=>have:=jiE e;rw[List.mem_replicate] at this;rw[this.2];rfl
theorem xR_off {ts:List Nat}{m i:Nat}(h:ts.length≤i):xR ts m i=0:=by
 unfold xR
 rw[jeq,jiA,List.getElem?_eq_none (by rw[jao];exact h)]
 simp
theorem xR_at {ts:List Nat}{m i n:Nat}(h2:∀ n∈ts,2≤n∧n≤9)(h:ts[i]? = some n):∃ a:Int,(pad4 (ixl ts m)).getD i 0=a∧(ixl ts m).getD i 0=a∧(0≤a∧a≤(n:Int)-1)∧(nz ts).getD i 0=n∧xR ts m i=Rat.divInt a ((n:Int)-1):=by
 have e:=jf0 ts m i n h
 have b:=jdS (m:=m) (fun n hn=>by have:=h2 n hn;omega) h e
 have en:(nz ts).getD i 0=n:=by simp[nz,jiA,h]
 have e1:(ixl ts m).getD i 0=((m/PR (ts.drop (i+1))%n:Nat):Int):=by rw[jiA,e];rfl
 exact⟨_,by rw[jeq,e1],e1,b,en,by unfold xR;rw[jeq,e1,en]⟩
theorem xR_fq {ts:List Nat}(h2:∀ n∈ts,2≤n∧n≤9)(m i:Nat):Fq 40 (xR ts m i):=by
 rcases jid i ts.length with h|h
 ·have hn:=jiD h
  have hb:=h2 _ (List.getElem_mem h)
  obtain⟨a,_,_,ha,_,e⟩:=xR_at (m:=m) h2 hn
  rw[e]
  generalize ts[i]=n at *
  obtain⟨d,hd⟩:∃ d:Nat,(n:Int)-1=(d:Int):=⟨n-1,by omega⟩
  rw[hd]
  refine jaW (by omega) ?_ ?_
  ·exact Nat.lt_of_le_of_lt (show a.natAbs≤9 by omega) (by decide)
  ·exact Nat.lt_of_le_of_lt (show d≤9 by omega) (by decide)
 ·rw[xR_off h];exact⟨by decide,by decide⟩
theorem xR_gp {ts:List Nat}(h2:∀ n∈ts,2≤n∧n≤9){m i n:Nat}(h:ts[i]? = some n):gp n (xR ts m i)=(((ixl ts m).getD i 0:Int):Rat):=by
 obtain⟨a,_,ea,ha,_,e⟩:=xR_at (m:=m) h2 h
 have hb:=h2 n (jiE h)
 rw[ea,e]
 unfold gp
 obtain⟨d,hd⟩:∃ d:Nat,(n:Int)-1=(d:Int):=⟨n-1,by omega⟩
 rw[hd] at ha ⊢
 have hd0:(0:Rat)<((d:Int):Rat):=by exact_mod_cast (show (0:Int)<d by omega)
 have e1:Rat.divInt a d=(a:Rat)/((d:Int):Rat):=Rat.divInt_eq_div a d
 have a0:(0:Rat)≤(a:Rat):=by exact_mod_cast ha.1
 have a1:(a:Rat)≤((d:Int):Rat):=by exact_mod_cast ha.2
 have b0:0≤(a:Rat)/((d:Int):Rat):=by rw[Rat.div_def];exact Rat.mul_nonneg a0 (Rat.le_of_lt (Rat.inv_pos.2 hd0))
 have b1:(a:Rat)/((d:Int):Rat)≤1:=by
  rcases (Rat.le_total (a:=(a:Rat)/((d:Int):Rat)) (b:=1)) with h|h
  ·exact h
  ·have e2:(a:Rat)/((d:Int):Rat)*((d:Int):Rat)=(a:Rat):=Rat.div_mul_cancel (by grind)
   have e3:=Rat.mul_le_mul_of_nonneg_right h (Rat.le_of_lt hd0)
   rw[e2,Rat.one_mul] at e3
   have e4:(a:Rat)=((d:Int):Rat):=Rat.le_antisymm a1 e3
   rw[e4,Rat.div_def,Rat.mul_inv_cancel _ (by grind)]
   exact Rat.le_refl
 rw[e1,clQ_id b0 b1,Rat.div_mul_cancel (by grind)]
theorem ev_unit2 {z0 z1 out:Int}{data:List Int}(hg:jap [z0,z1] out data=true)(x0 x1:Rat){j:Nat}(hj:j<out.toNat):0≤evQ [z0,z1] out data x0 x1 0 j∧evQ [z0,z1] out data x0 x1 0 j≤1:=by
 obtain⟨b1,b2⟩:=ev_in2 (x0:=x0) (x1:=x1) hg hj
 obtain⟨r1,r2,_⟩:=jbh hg hj
 rw[divF] at b1
 generalize (loL out data).getD j 0=a at *
 generalize (hiL out data).getD j 0=b at *
 have a0:(0:Rat)≤(a:Rat):=Rat.intCast_le_intCast.2 r1.1
 have b0:(b:Rat)≤65535:=by
  have:=Rat.intCast_le_intCast.2 r2.2
  rwa [show ((65535:Int):Rat)=65535 from by decide +kernel] at this
 rw[divF] at b2
 constructor<;>grind
theorem rfW2 {z0 z1 out:Int}{data:List Int}{ts:List Nat}(ht:ts.length=2)(m j:Nat):rfW [z0,z1] out data ts m j=nearZ (evQ [z0,z1] out data (xR ts m 0) (xR ts m 1) 0 j) 65535:=by
 unfold rfW
 rw[xR_off (i:=2) (by omega)]
theorem refq2 {z0 z1 out:Int}{data:List Int}(hg:jap [z0,z1] out data=true)(ts:List Nat)(ht:ts.length=2)(h2:∀ n∈ts,2≤n∧n≤9)(hc:cnP out ts 2≤4096):Cl 33 [gridD [z0,z1] out data,.ints .i64 (nz ts)] (.tup [gridD (nz ts) out (rfD [z0,z1] out data ts),.int .i64 0]):=by
 have ho:=(jay hg).1
 have hl:=(jay hg).2.2.1.1
 have fx:=fun m i=>xR_fq h2 m i
 have ck:=Called.cast (jeV [z0,z1] out data (by simp) (by omega)) (by rw[hg];first|done|rfl)
 refine refine2_t [z0,z1] data out ts (fun m i=>txq (xR ts m i)) (fun m j=>txq (evQ [z0,z1] out data (xR ts m 0) (xR ts m 1) 0 j)) (rfW [z0,z1] out data ts) rfl ht h2 ho hc ck (fun m i hm hi=>?_) (fun m hm=>evalq2 hg (fx m 0) (fx m 1)) (fun m j hm hj=>?_)
 ·obtain⟨n,hn⟩:∃ n,ts[i]? = some n:=⟨ts[i],jiD (by omega)⟩
  obtain⟨a,e1,e2,ha,e3,e4⟩:=xR_at (m:=m) h2 hn
  have hb:=h2 n (jiE hn)
  have c:=jfg (n:=a) (m:=(n:Int)-1) (by omega) (by omega)
  rw[e1,e3]
  rw[← e4] at c
  exact c
 ·rw[rfW2 ht]
  exact near_q (fq_ev2 hg (fx m 0) (fx m 1) j) (by decide) (ev_unit2 hg (xR ts m 0) (xR ts m 1) hj)
theorem pz_at {ns:List Nat}(hpos:∀ n∈ns,0<n){m:Nat}(hm:m<PR ns):pz ((nz ns).zip (ixl ns m))=(m:Int):=by
 have e:=jfc ns hpos m 0
 rw[jia hm,Int.zero_mul,Int.zero_add] at e
 exact e
theorem gp20:gp 2 0=((0:Int):Rat):=by decide +kernel
theorem jfe {ts:List Nat}(h2:∀ n∈ts,2≤n∧n≤9):∀ n∈ts,0<n:=fun n hn=>by have:=h2 n hn;omega
theorem pt_val1 {s0:Nat}(h2:∀ n∈[s0],2≤n∧n≤9)(out:Int)(data:List Int){m:Nat}(hm:m<PR [s0])(j:Nat):evQ (nz [s0]) out data (xR [s0] m 0) 0 0 j=Rat.divInt ((slot data ((m:Int)*out) out).getD j 0) 65535:=by
 have g0:=xR_gp h2 (m:=m) (i:=0) (n:=s0) rfl
 have b0:=h2 s0 (by simp)
 have e:=jhn (s0:=(s0:Int)) (s1:=2) (s2:=2) (by omega) g0 gp20 gp20 (gvF (nz [s0]) out data j)
 have e3:([(ixl [s0] m).getD 0 0,0,0]:List Int).take (nz [s0]).length=ixl [s0] m:=rfl
 unfold evQ
 rw[show (nz [s0]).getD 0 2=(s0:Int) from rfl,show (nz [s0]).getD 1 2=2 from rfl,show (nz [s0]).getD 2 2=2 from rfl,e,divF]
 unfold gvF
 rw[e3,pz_at (jfe h2) hm]
theorem pt_val2 {s0 s1:Nat}(h2:∀ n∈[s0,s1],2≤n∧n≤9)(out:Int)(data:List Int){m:Nat}(hm:m<PR [s0,s1])(j:Nat):evQ (nz [s0,s1]) out data (xR [s0,s1] m 0) (xR [s0,s1] m 1) 0 j=Rat.divInt ((slot data ((m:Int)*out) out).getD j 0) 65535:=by
 have g0:=xR_gp h2 (m:=m) (i:=0) (n:=s0) rfl
 have b0:=h2 s0 (by simp)
 have g1:=xR_gp h2 (m:=m) (i:=1) (n:=s1) rfl
 have b1:=h2 s1 (by simp)
 have e:=jhn (s0:=(s0:Int)) (s1:=(s1:Int)) (s2:=2) (by omega) g0 g1 gp20 (gvF (nz [s0,s1]) out data j)
 have e3:([(ixl [s0,s1] m).getD 0 0,(ixl [s0,s1] m).getD 1 0,0]:List Int).take (nz [s0,s1]).length=ixl [s0,s1] m:=rfl
 unfold evQ
 rw[show (nz [s0,s1]).getD 0 2=(s0:Int) from rfl,show (nz [s0,s1]).getD 1 2=(s1:Int) from rfl,show (nz [s0,s1]).getD 2 2=2 from rfl,e,divF]
 unfold gvF
 rw[e3,pz_at (jfe h2) hm]
theorem pt_val3 {s0 s1 s2:Nat}(h2:∀ n∈[s0,s1,s2],2≤n∧n≤9)(out:Int)(data:List Int){m:Nat}(hm:m<PR [s0,s1,s2])(j:Nat):evQ (nz [s0,s1,s2]) out data (xR [s0,s1,s2] m 0) (xR [s0,s1,s2] m 1) (xR [s0,s1,s2] m 2) j=Rat.divInt ((slot data ((m:Int)*out) out).getD j 0) 65535:=by
 have g0:=xR_gp h2 (m:=m) (i:=0) (n:=s0) rfl
 have b0:=h2 s0 (by simp)
 have g1:=xR_gp h2 (m:=m) (i:=1) (n:=s1) rfl
 have b1:=h2 s1 (by simp)
 have g2:=xR_gp h2 (m:=m) (i:=2) (n:=s2) rfl
 have b2:=h2 s2 (by simp)
 have e:=jhn (s0:=(s0:Int)) (s1:=(s1:Int)) (s2:=(s2:Int)) (by omega) g0 g1 g2 (gvF (nz [s0,s1,s2]) out data j)
 have e3:([(ixl [s0,s1,s2] m).getD 0 0,(ixl [s0,s1,s2] m).getD 1 0,(ixl [s0,s1,s2] m).getD 2 0]:List Int).take (nz [s0,s1,s2]).length=ixl [s0,s1,s2] m:=rfl
 unfold evQ
 rw[show (nz [s0,s1,s2]).getD 0 2=(s0:Int) from rfl,show (nz [s0,s1,s2]).getD 1 2=(s1:Int) from rfl,show (nz [s0,s1,s2]).getD 2 2=(s2:Int) from rfl,e,divF]
 unfold gvF
 rw[e3,pz_at (jfe h2) hm]
theorem jhH:type_of% @jh3∧type_of% @tn0∧type_of% @tn1∧type_of% @tn2∧type_of% @tn3∧type_of% @xt4:=⟨@jh3,@tn0,@tn1,@tn2,@tn3,@xt4⟩
theorem wakes_t (Q:Nat→Tx)
  (o0:Cl 18 [.int .i64 1,.int .i64 2] (.agg [.str (Q 0).1,.str (Q 0).2]))
  (o1:Cl 18 [.int .i64 1,.int .i64 4] (.agg [.str (Q 1).1,.str (Q 1).2]))
  (o2:Cl 18 [.int .i64 7,.int .i64 20] (.agg [.str (Q 2).1,.str (Q 2).2]))
  (o3:Cl 18 [.int .i64 3,.int .i64 10] (.agg [.str (Q 3).1,.str (Q 3).2]))
  (o4:Cl 18 [.int .i64 1,.int .i64 1] (.agg [.str (Q 4).1,.str (Q 4).2]))
  (o5:Cl 18 [.int .i64 2,.int .i64 1] (.agg [.str (Q 5).1,.str (Q 5).2]))
  (fo:Cl 31 [] (.agg [.ints .i64 [2,2],.int .i64 1,.ints .i64 [0,13107,26214,65535]]))
  (ce:Cl 17 [.agg [.ints .i64 [2,2],.int .i64 1,.ints .i64 [0,13107,26214,65535]],V.sl2 2 [.str (Q 0).1,.str (Q 0).2,.str (Q 1).1,.str (Q 1).2]] (.tup [.ints .i64 [0,0],.ints .i64 [0,1],V.sl2 3 [.str (Q 0).1,.str (Q 0).2,.str (Q 1).1,.str (Q 1).2,.str (Q 1).1,.str (Q 1).2],.int .i64 0]))
  (st:Cl 32 [.agg [.ints .i64 [2,2],.int .i64 1,.ints .i64 [0,13107,26214,65535]]] (.tup [.slf 1 1 (fun j=>List.take 1 (List.drop (j*1) [.ints .i64 [52428,39321]])),.int .i64 0]))
  (b1:Cl 29 [.agg [.ints .i64 [2,2],.int .i64 1,.ints .i64 [0,13107,26214,65535]],V.sl2 2 [.int .i64 500000000000,.int .i64 500000000000,.int .i64 250000000000,.int .i64 250000000000]] (.tup [V.sl2 1 [.int .i64 350000000000,.int .i64 350000000000],.int .i64 0]))
  (b2:Cl 29 [.agg [.ints .i64 [2,2],.int .i64 1,.ints .i64 [0,13107,26214,65535]],V.sl2 2 [.int .i64 250000000000,.int .i64 750000000000,.int .i64 250000000000,.int .i64 250000000000]] (.tup [V.sl2 1 [.int .i64 150000000000,.int .i64 550000000000],.int .i64 0]))
  (re:Cl 33 [.agg [.ints .i64 [2,2],.int .i64 1,.ints .i64 [0,13107,26214,65535]],.ints .i64 [3,2]] (.tup [.agg [.ints .i64 [3,2],.int .i64 1,.ints .i64 [0,13107,13107,39321,26214,65535]],.int .i64 0]))
  (ee:Cl 15 [.agg [.ints .i64 [2,2],.int .i64 1,.ints .i64 [0,13107,26214,65535]],V.sl2 1 [.str (Q 0).1,.str (Q 0).2]] (.tup [.nil,.int .i64 2]))
  (v0:Cl 26 [.agg [.ints .i64 [2,2],.int .i64 1,.ints .i64 [0,13107,26214,65535]],.agg [.str (Q 2).1,.str (Q 2).2],V.sl2 2 [.str (Q 0).1,.str (Q 0).2,.str (Q 1).1,.str (Q 1).2]] (.bool true))
  (v1:Cl 26 [.agg [.ints .i64 [2,2],.int .i64 1,.ints .i64 [0,13107,26214,65535]],.agg [.str (Q 3).1,.str (Q 3).2],V.sl2 2 [.str (Q 1).1,.str (Q 1).2,.str (Q 0).1,.str (Q 0).2]] (.bool true))
  (v2:Cl 26 [.agg [.ints .i64 [2,2],.int .i64 1,.ints .i64 [0,13107,26214,65535]],.agg [.str (Q 4).1,.str (Q 4).2],V.sl2 2 [.str (Q 5).1,.str (Q 5).2,.str (Q 4).1,.str (Q 4).2]] (.bool true)) :
  Cl 10 [] (.bool true):=by
 have q0:=jf3 [0,0] [0,0] (by decide) (by decide)
 have q1:=jf3 [0,1] [0,1] (by decide) (by decide)
 have q2:=jf3 [52428,39321] [52428,39321] (by decide) (by decide)
 have q3:=jf3 [0,13107,13107,39321,26214,65535] [0,13107,13107,39321,26214,65535] (by decide) (by decide)
 have f3:=eqf3 (fun k=>if k=0 then Q 0 else Q 1)
 have g1:=eqb1 (fun _=>(350000000000,350000000000))
 have g2:=eqb1 (fun _=>(150000000000,550000000000))
 refine V.en tbOk Tryz.func10 ?_
 (conv=>whnf)
 (conv=>whnf)
 (try simp only[jhH])
 repeat ((first|refine V.s1 ?_|((try ((with_reducible refine .ext ?_);(conv=>whnf);(try simp only[jhH])));(with_reducible refine jaa (r:=?_) ?_ ?_);rotate_left;(focus (first|exact(o0)|exact(o1)|exact(o2)|exact(o3)|exact(o4)|exact(o5)|exact(fo)|exact(ce)|exact(st)|exact(b1)|exact(b2)|exact(re)|exact(ee)|exact(v0)|exact(v1)|exact(v2)|exact(q0)|exact(q1)|exact(q2)|exact(q3)|exact(f3)|exact(g1)|exact(g2)));(conv=>whnf)));(try simp only[jhH]))
 refine⟨(V.tk [0] (V.e1 1 [0] (V.e1 2 [0] (V.e1 3 [0] (V.e1 4 [] (V.tk [5,6,7,8,9,10,11,12,13] .done)))))),[],V.pok,?_⟩
 refine jab [(2,.ints .i64 [0,0]),(3,.ints .i64 [0,1]),(4,V.sl2 3 [.str (Q 0).1,.str (Q 0).2,.str (Q 1).1,.str (Q 1).2,.str (Q 1).1,.str (Q 1).2]),(5,.int .i64 0)] [] ?_ ?_
 ·exact V.d3 jhH o0 o1 ce
 (conv=>whnf)
 (try simp only[jhH])
 repeat ((first|refine V.s1 ?_|((try ((with_reducible refine .ext ?_);(conv=>whnf);(try simp only[jhH])));(with_reducible refine jaa (r:=?_) ?_ ?_);rotate_left;(focus (first|exact(o0)|exact(o1)|exact(o2)|exact(o3)|exact(o4)|exact(o5)|exact(fo)|exact(ce)|exact(st)|exact(b1)|exact(b2)|exact(re)|exact(ee)|exact(v0)|exact(v1)|exact(v2)|exact(q0)|exact(q1)|exact(q2)|exact(q3)|exact(f3)|exact(g1)|exact(g2)));(conv=>whnf)));(try simp only[jhH]))
 refine⟨(V.tk [0] (V.e1 1 [0] (V.e1 2 [0] (V.e1 3 [] (V.tk [4,5,6,7,8] .done))))),[],V.pok,?_⟩
 refine jab [(17,.int .i64 2)] [] ?_ ?_
 ·exact V.d3 jhH o0 o1 ee
 (conv=>whnf)
 (try simp only[jhH])
 repeat ((first|refine V.s1 ?_|((try ((with_reducible refine .ext ?_);(conv=>whnf);(try simp only[jhH])));(with_reducible refine jaa (r:=?_) ?_ ?_);rotate_left;(focus (first|exact(o0)|exact(o1)|exact(o2)|exact(o3)|exact(o4)|exact(o5)|exact(fo)|exact(ce)|exact(st)|exact(b1)|exact(b2)|exact(re)|exact(ee)|exact(v0)|exact(v1)|exact(v2)|exact(q0)|exact(q1)|exact(q2)|exact(q3)|exact(f3)|exact(g1)|exact(g2)));(conv=>whnf)));(try simp only[jhH]))
 refine⟨(V.tk [0] (V.e1 1 [0] (V.e1 2 [] (V.tk [3,4] (V.e1 5 [4] (V.e1 6 [] (V.tk [7,8,9] (V.e1 10 [9] (V.e1 11 [9] (V.e1 12 [9] (V.e1 13 [9] (V.e1 14 [] (V.tk [15,16,17] (V.e1 18 [17] (V.e1 19 [17] (V.e1 20 [17] (V.e1 21 [17] (V.e1 22 [] (V.tk [23,24,25] (V.e1 26 [25] (V.e1 27 [25] (V.e1 28 [25] (V.e1 29 [25] (V.e1 30 [] (V.tk [31,32,33] (V.e1 34 [33] (V.e1 35 [33] (V.e1 36 [33] (V.e1 37 [33] (V.e1 38 [] (V.tk [39,40,41,42,43] (V.e1 44 [43,42,41] (V.e1 45 [] (V.tk [46,47,48,49] (V.e1 50 [48] (V.e1 51 [] (V.tk [52,53,54,55] (V.e1 56 [54] (V.e1 57 [] (V.tk [58,59,60,61] (V.e1 62 [61,60] (V.e1 63 [] (V.tk [64,65] .done))))))))))))))))))))))))))))))))))))))))))),[],V.pok,?_⟩
 refine jab [(0,.bool true)] [] ?_ ?_
 ·(conv=>whnf);(try simp only[jhH])
  repeat' (first|exact V.wk|((with_reducible refine And.intro ?_ jas);(conv=>whnf);(try simp only[jhH]))|((with_reducible first|refine jam ?_ ?_|refine jaq ?_ ?_)<;>(conv=>whnf);(try simp only[jhH]))|((first|refine V.s1 ?_|((with_reducible refine jaj ?_ ?_);(focus ((conv=>whnf);(try simp only[jhH]);(repeat ((first|refine V.s1 ?_);(try simp only[jhH])));exact⟨rfl⟩));(conv=>whnf))|((try ((with_reducible refine .ext ?_);(conv=>whnf);(try simp only[jhH])));(with_reducible refine jaa (r:=?_) ?_ ?_);rotate_left;(focus (first|exact(o0)|exact(o1)|exact(o2)|exact(o3)|exact(o4)|exact(o5)|exact(fo)|exact(ce)|exact(st)|exact(b1)|exact(b2)|exact(re)|exact(ee)|exact(v0)|exact(v1)|exact(v2)|exact(q0)|exact(q1)|exact(q2)|exact(q3)|exact(f3)|exact(g1)|exact(g2)));(conv=>whnf)));(try simp only[jhH]))|(refine And.intro ?_ ?_<;>(conv=>whnf);(try simp only[jhH])))
 refine V.r0 jhH ?_
 exact Fin.of rfl
theorem bandq2_1 {z0 z1 out:Int}(ho:out=1){data:List Int}(hg:jap [z0,z1] out data=true)(X:Nat→Int×Int)(hX:∀ i,i<2→vb (X i).1 (X i).2=true) :
  Cl 29 [gridD [z0,z1] out data,slB X 2] (.tup [slB (fun j=>confB (evQ [z0,z1] out data (midB (X 0)) (midB (X 1)) 0 j) (sprQ [z0,z1] data out 2 X j) (Rat.divInt ((loL out data).getD j 0) 65535) (Rat.divInt ((hiL out data).getD j 0) 65535)) out.toNat,.int .i64 0]):=by
 have og:=jay hg
 have so:=jgZ (out:=out) og.2.2.2 og.2.1 2 (jh6 _)
 have rl:=jgj hg
 have li:=blist2a (F:=56) (fun i=>(clI (X i).1,clI (X i).2)) (bands1_20 X (clI (X 0).1,clI (X 0).2) (clamp_q (hX 0 (by decide)))) (bands1_21 X (clI (X 1).1,clI (X 1).2) (clamp_q (hX 1 (by decide))))
 have fm0:=(fq_mid (X 0)).mono (show 14≤40 by decide)
 have fm1:=(fq_mid (X 1)).mono (show 14≤40 by decide)
 have om:∀ i,i<2→Cl 58 [.int .i64 (clI (X i).1+clI (X i).2),.int .i64 2000000000000] (frT (midB (X i))):=fun i _=>jfg (by have:=jbW (X i).1;have:=jbW (X i).2;omega) (by decide)
 have oh:∀ i,i<2→Cl 58 [.int .i64 (clI (X i).2-clI (X i).1),.int .i64 2000000000000] (frT (halB (X i))):=fun i _=>jfg (by have:=jbW (X i).1;have:=jbW (X i).2;omega) (by decide)
 have ev:=evalq2 hg fm0 fm1
 have b2:∀ j,j<out.toNat→Cl 61 [frT (evQ [z0,z1] out data (midB (X 0)) (midB (X 1)) 0 j),frT (sprQ [z0,z1] data out 2 X j),frT (Rat.divInt ((loL out data).getD j 0) 65535),frT (Rat.divInt ((hiL out data).getD j 0) 65535)] (.tup [.agg [.int .i64 ((fun j=>confB (evQ [z0,z1] out data (midB (X 0)) (midB (X 1)) 0 j) (sprQ [z0,z1] data out 2 X j) (Rat.divInt ((loL out data).getD j 0) 65535) (Rat.divInt ((hiL out data).getD j 0) 65535)) j).1,.int .i64 ((fun j=>confB (evQ [z0,z1] out data (midB (X 0)) (midB (X 1)) 0 j) (sprQ [z0,z1] data out 2 X j) (Rat.divInt ((loL out data).getD j 0) 65535) (Rat.divInt ((hiL out data).getD j 0) 65535)) j).2],.int .i64 0]):=fun j hj=>by
  have rb:=jbh hg hj
  have ei:=ev_in2 (x0:=midB (X 0)) (x1:=midB (X 1)) hg hj
  have sp:=spr_q2 (so j) (H:=fun i=>halB (X i)) (fun i _=>fq_hal (X i))
  have sb:=smF_bd (P:=fun i=>(((outS [z0,z1] data out [z0,z1].length j).getD i 0:Int):Rat)*halB (X i)) (n:=1) (fun i hi=>spr_term (so j) (hX i (by omega))) 1 (jh6 _)
  have n3:(((1+1:Nat):Int):Rat)≤3:=by decide +kernel
  refine conf_q (fq_ev2 hg fm0 fm1 j) sp.2 (jcC rb.1) (jcC rb.2.1) ?_ ⟨?_,ei.1⟩ ⟨ei.2,?_⟩
  ·show 0≤smF _ _/65535∧smF _ _/65535≤50000
   constructor<;>grind
  ·rw[divF]
   have:(0:Rat)≤(((loL out data).getD j 0:Int):Rat):=by exact_mod_cast rb.1.1
   grind
  ·rw[divF]
   have:(((hiL out data).getD j 0:Int):Rat)≤((65535:Int):Rat):=Rat.intCast_le_intCast.2 rb.2.1.2
   rw[show ((65535:Int):Rat)=65535 from rfl] at this
   grind
 have o1:∀ j,j<out.toNat→Cl 58 [.int .i64 ((loL out data).getD j 0),.int .i64 65535] (frT (Rat.divInt ((loL out data).getD j 0) 65535)):=fun j hj=>jfg (by have:=jbh hg hj;omega) (by decide)
 have o2:∀ j,j<out.toNat→Cl 58 [.int .i64 ((hiL out data).getD j 0),.int .i64 65535] (frT (Rat.divInt ((hiL out data).getD j 0) 65535)):=fun j hj=>jfg (by have:=jbh hg hj;omega) (by decide)
 have sp:∀ j,Cl 60 [.ints .i64 (outS [z0,z1] data out [z0,z1].length j),slQ (fun i=>txq (halB (X i))) 2] (.tup [frT (sprQ [z0,z1] data out 2 X j),.int .i64 0]):=fun j=>(spr_q2 (so j) (H:=fun i=>halB (X i)) (fun i _=>fq_hal (X i))).1
 subst ho
 exact bands2_t [z0,z1] data _ _ 1 X (fun i=>(clI (X i).1,clI (X i).2)) (fun i=>txq (midB (X i))) (fun i=>txq (halB (X i))) _ _ _ _ _ _ rfl (fun i _=>⟨jbW _,jbW _⟩) (jfK hg (by simp)) li om oh ev (steep1_t [z0,z1] data (outS [z0,z1] data 1 [z0,z1].length) hg (by simp) rfl) (blist1c (F:=59) (fun j=>confB (evQ [z0,z1] 1 data (midB (X 0)) (midB (X 1)) 0 j) (sprQ [z0,z1] data 1 2 X j) (Rat.divInt ((loL 1 data).getD j 0) 65535) (Rat.divInt ((hiL 1 data).getD j 0) 65535)) (bands2_210 (outS [z0,z1] data 1 [z0,z1].length) (fun i=>txq (halB (X i))) (fun j=>txq (evQ [z0,z1] 1 data (midB (X 0)) (midB (X 1)) 0 j)) _ _ _ _ _ _ _ _ ((fun j=>confB (evQ [z0,z1] 1 data (midB (X 0)) (midB (X 1)) 0 j) (sprQ [z0,z1] data 1 2 X j) (Rat.divInt ((loL 1 data).getD j 0) 65535) (Rat.divInt ((hiL 1 data).getD j 0) 65535)) 0) rl.2.2.1 rl.2.2.2 (sp 0) (o1 0 (by decide)) (o2 0 (by decide)) (b2 0 (by decide))))
def wkQ:Nat→Rat
 | 0=>Rat.divInt 1 2
 | 1=>Rat.divInt 1 4
 | 2=>Rat.divInt 7 20
 | 3=>Rat.divInt 3 10
 | 4=>Rat.divInt 1 1
 | _=>Rat.divInt 2 1
theorem jdK:∀ k,Fq 40 (wkQ k)
 | 0=>⟨by decide +kernel,by decide +kernel⟩
 | 1=>⟨by decide +kernel,by decide +kernel⟩
 | 2=>⟨by decide +kernel,by decide +kernel⟩
 | 3=>⟨by decide +kernel,by decide +kernel⟩
 | 4=>⟨by decide +kernel,by decide +kernel⟩
 | _+5=>by
  show Fq 40 (Rat.divInt 2 1)
  exact⟨by decide +kernel,by decide +kernel⟩
theorem jdH:jap [2,2] 1 [0,13107,26214,65535]=true:=by decide +kernel
theorem wk_ev {x0 x1 y:Rat}(h0:Fq 40 x0)(h1:Fq 40 x1)(e:evQ [2,2] 1 [0,13107,26214,65535] x0 x1 0 0=y):Cl 26 [gridD [2,2] 1 [0,13107,26214,65535],frT y,slQ (fun i=>txq (rqN x0 x1 0 i)) 2] (.bool true):=by
 have v:Cl 26 [gridD [2,2] 1 [0,13107,26214,65535],frT (evQ [2,2] 1 [0,13107,26214,65535] x0 x1 0 0),slQ (fun i=>txq (rqN x0 x1 0 i)) 2] (.bool true):=value_t _ _ _ 2 _ (fun j=>txq (evQ [2,2] 1 [0,13107,26214,65535] x0 x1 0 j)) (evalq2 jdH h0 h1)
 rw[e] at v
 exact v
theorem wk_cell:Cl 17 [gridD [2,2] 1 [0,13107,26214,65535],slQ (fun i=>txq (wkQ i)) 2] (.tup [.ints .i64 [0,0],.ints .i64 [0,1],V.sl2 3 [.str (txq (wkQ 0)).1,.str (txq (wkQ 0)).2,.str (txq (wkQ 1)).1,.str (txq (wkQ 1)).2,.str (txq (wkQ 1)).1,.str (txq (wkQ 1)).2],.int .i64 0]):=by
 have c:=cellq2 jdH (jdK 0) (jdK 1)
 have e0:spB 2 (wkQ 0)=0:=by decide +kernel
 have e1:spB 2 (wkQ 1)=0:=by decide +kernel
 have e2:ord2 (spR 2 (wkQ 0)) (spR 2 (wkQ 1))=[0,1]:=by decide +kernel
 rw[e0,e1,e2] at c
 have w0:wqN (rqN (spR 2 (wkQ 0)) (spR 2 (wkQ 1)) 0) [0,1] 2 0=wkQ 0:=by decide +kernel
 have w1:wqN (rqN (spR 2 (wkQ 0)) (spR 2 (wkQ 1)) 0) [0,1] 2 1=wkQ 1:=by decide +kernel
 have w2:wqN (rqN (spR 2 (wkQ 0)) (spR 2 (wkQ 1)) 0) [0,1] 2 2=wkQ 1:=by decide +kernel
 have hw:wce (fun k=>txq (wqN (rqN (spR 2 (wkQ 0)) (spR 2 (wkQ 1)) 0) [0,1] 2 k)) 3=[.str (txq (wkQ 0)).1,.str (txq (wkQ 0)).2,.str (txq (wkQ 1)).1,.str (txq (wkQ 1)).2,.str (txq (wkQ 1)).1,.str (txq (wkQ 1)).2]:=by
  simp only[wce,w0,w1,w2]
  rfl
 unfold slQ at c
 rw[hw] at c
 exact c
theorem wk_steep:Cl 32 [gridD [2,2] 1 [0,13107,26214,65535]] (.tup [.slf 1 1 (fun j=>List.take 1 (List.drop (j*1) [.ints .i64 [52428,39321]])),.int .i64 0]):=by
 have c:=steep1_t [2,2] [0,13107,26214,65535] _ jdH (by decide) rfl
 have e:outS [2,2] [0,13107,26214,65535] 1 ([2,2]:List Int).length 0=[52428,39321]:=by decide +kernel
 rw[e] at c
 exact c
def wkB (a b c d:Int)(k:Nat):Int×Int:=if k=0 then (a,b) else (c,d)
theorem slB1 {B:Nat→Int×Int}{y z:Int}(h:B 0=(y,z)):slB B 1=V.sl2 1 [.int .i64 y,.int .i64 z]:=by
 show V.sl2 1 [.int .i64 (B 0).1,.int .i64 (B 0).2]=_
 rw[h]
theorem wk_bands {a b c d y z:Int}(h:vb a b=true∧vb c d=true)(e:confB (evQ [2,2] 1 [0,13107,26214,65535] (midB (a,b)) (midB (c,d)) 0 0) (sprQ [2,2] [0,13107,26214,65535] 1 2 (wkB a b c d) 0) (Rat.divInt ((loL 1 [0,13107,26214,65535]).getD 0 0) 65535) (Rat.divInt ((hiL 1 [0,13107,26214,65535]).getD 0 0) 65535)=(y,z)) :
  Cl 29 [gridD [2,2] 1 [0,13107,26214,65535],V.sl2 2 [.int .i64 a,.int .i64 b,.int .i64 c,.int .i64 d]] (.tup [V.sl2 1 [.int .i64 y,.int .i64 z],.int .i64 0]):=by
 have q:=bandq2_1 rfl jdH (wkB a b c d) (fun i hi=>by
  have:i=0∨i=1:=by omega
  rcases this with rfl|rfl
  ·exact h.1
  ·exact h.2)
 refine Called.cast q ?_
 rw[show (1:Int).toNat=1 from rfl,slB1 (y:=y) (z:=z)]
 exact e
theorem wk_refine:Cl 33 [gridD [2,2] 1 [0,13107,26214,65535],.ints .i64 [3,2]] (.tup [.agg [.ints .i64 [3,2],.int .i64 1,.ints .i64 [0,13107,13107,39321,26214,65535]],.int .i64 0]):=by
 have c:=refq2 jdH [3,2] rfl (by decide) (by decide)
 have e:rfD [2,2] 1 [0,13107,26214,65535] [3,2]=[0,13107,13107,39321,26214,65535]:=by decide +kernel
 rw[e] at c
 exact c
theorem wk_len (X:Nat→List D):Cl 15 [gridD [2,2] 1 [0,13107,26214,65535],.slf 2 1 X] (.tup [.nil,.int .i64 2]):=by
 have ck:=Called.cast (jeV [2,2] 1 [0,13107,26214,65535] (by decide) (by decide)) (by rw[jdH];first|done|rfl)
 exact eval_e _ _ _ 2 (by decide) 1 X (loc_len _ _ _ 1 X (by decide) ck)
theorem jgI:Cl 10 [] (.bool true):=by
 refine wakes_t (fun k=>txq (wkQ k)) (lof_c (by omega) (by omega)) (lof_c (by omega) (by omega)) (lof_c (by omega) (by omega)) (lof_c (by omega) (by omega)) (lof_c (by omega) (by omega)) (lof_c (by omega) (by omega)) lfour_c wk_cell wk_steep
  (wk_bands (by decide +kernel) (by decide +kernel)) (wk_bands (by decide +kernel) (by decide +kernel)) wk_refine (wk_len _) (wk_ev (y:=wkQ 2) (jdK 0) (jdK 1) (by decide +kernel)) (wk_ev (y:=wkQ 3) (jdK 1) (jdK 0) (by decide +kernel)) (wk_ev (y:=wkQ 4) (jdK 5) (jdK 4) (by decide +kernel))
theorem jdE {a b:Nat}{p q:Rat}(h:Fq a p)(g:Fq b q)(ha:0<a∧a≤600)(hb:0<b∧b≤600)(hq:q≤p):Cl 21 [frT p,frT q] (.bool false):=by
 have c:=lless_c h g ha hb
 rw[decide_eq_false (fun e=>by have:=jg0.1 e;grind)] at c
 exact c
theorem jaN (v:Int):Rat.divInt v 1=(v:Rat):=int_q v
theorem PR_5:∀ {ts:List Nat},(∀ n∈ts,2≤n∧n≤5)→PR ts≤5^ts.length
 | [],_=>jh6 _
 | n::r,h=>by
  have h1:=h n (by simp)
  have h2:=PR_5 (ts:=r) fun m hm=>h m (by simp[hm])
  rw[PR,jiM,Nat.pow_succ,jh9]
  exact Nat.mul_le_mul h2 h1.2
theorem eqf_w (Y:Nat→Tx){w:Nat}(hw:1≤w∧w≤3):Cl 16 [V.sl2 w (wce Y w),V.sl2 w (wce Y w)] (.bool true):=by
 have h:w=1∨w=2∨w=3:=by omega
 rcases h with rfl|rfl|rfl
 ·exact eqf1 Y
 ·exact eqf2 Y
 ·exact eqf3 Y
def cbq (x:Rat):Rat:=if x<0 then Rat.divInt 0 1 else x
def ccq (x:Rat):Rat:=if 1<cbq x then Rat.divInt 1 1 else cbq x
theorem jcp (x:Rat):ccq x=clQ x:=by
 unfold ccq cbq clQ
 rw[jaN,jaN]
 rfl
theorem cbq_fq {n:Nat}{x:Rat}(h:Fq n x)(hn:0<n):Fq n (cbq x):=by
 unfold cbq
 split
 ·rw[jaN];exact(show Fq 1 ((0:Int):Rat) from ⟨by decide,by decide⟩).mono hn
 ·exact h
theorem jcM {a b:Nat}{p q:Rat}(h:Fq a p)(g:Fq b q)(ha:0<a∧a≤600)(hb:0<b∧b≤600):Cl 21 [frT p,frT q] (.bool (decide (p<q))):=by
 have c:=lless_c h g ha hb
 rwa [decide_eq_decide.2 jg0] at c
theorem fq01:Fq 1 (Rat.divInt 0 1):=⟨by decide +kernel,by decide +kernel⟩
theorem fq11:Fq 1 (Rat.divInt 1 1):=⟨by decide +kernel,by decide +kernel⟩
theorem evq_cl1 {z0 out:Int}{data:List Int}(x0:Rat)(j:Nat):evQ [z0] out data (clQ x0) 0 0 j=evQ [z0] out data x0 0 0 j:=by
 unfold evQ evF spR spB gp
 simp only[clQ_cl]
theorem cornersG1 {D0:D}{ds vals:List Int}{oo z:Int}{sm:Bool}(hD:D0 = .agg [.ints .u8 ds,.int .u8 oo,.ints .u16 vals,.bool sm]){s0 w:Nat}{data:List Int}(hw:1≤w∧w≤3)(hg:jap (nz [s0]) w data=true)(h2:∀ n∈[s0],2≤n∧n≤4)
  (gd:Cl 11 [D0] (gridD (nz [s0]) w data)) {at' z1 z2:Nat→Int} (b1 b2:Nat→Bool) (p1 p2:Nat→List Int) (ha:∀ i, -32768≤at' i∧at' i≤32767) (hz1:∀ i,0≤z1 i∧z1 i≤65535) (hz2:∀ i,0≤z2 i∧z2 i≤65535) (hz:0≤z∧z≤65535) :
  Cl 5 [D0,(colD at' z1 z2 b1 b2 p1 p2),.int .u16 z] (.bool true):=by
 subst hD
 have g0:=h2 s0 (by simp)
 obtain⟨XX,co⟩:=colorq1 b1 b2 p1 p2 ha hz1 hz2
 have h9:∀ n∈[s0],2≤n∧n≤9:=fun n hn=>by have:=h2 n hn;omega
 have kp:=jfe h9
 have hP:=jcV kp
 have hP4:PR [s0]≤125:=jie (PR_5 fun n hn=>by have:=h2 n hn;omega) (by show 5^1≤125;decide)
 have hdl:=(jay hg).2.2.1.1
 have rl:=jgj hg
 have hzz:(nz [s0]).map Int.toNat=[s0]:=by simp[nz]
 rw[hzz] at rl
 obtain⟨zn,rfl⟩:∃ zn:Nat,z=(zn:Int):=⟨z.toNat,by omega⟩
 obtain⟨m,hmz⟩:∃ m,m=zn%PR [s0]:=⟨_,rfl⟩
 have hm:m<PR [s0]:=by rw[hmz];exact jh8 _ hP
 have hzm:(zn:Int)%((PR [s0]:Nat):Int)=(m:Int):=by rw[hmz];omega
 have fx:=fun i=>xR_fq h9 m i
 have fa:=fun i=>axq_fq (ha i)
 have iq:=jd0 [s0] m (fun n hn=>by have:=h9 n hn;omega) (by simp) (by omega)
 have hpx:okIdx (nz [s0]) (ixl [s0] m)=true:=ixl_ok kp
 have ga:=jfl hg hpx (by simp[nz]) (by rw[jao];simp)
 rw[pz_at kp hm] at ga
 have hsl:=jbp hg hpx
 rw[pz_at kp hm] at hsl
 have ev:=evalq1 (out:=w) hg (fx 0)
 have ea:=evalq1 (out:=w) hg (fa 0)
 have ec:Cl 15 [gridD (nz [s0]) w data,slQ (fun i=>txq (rqN (ccq (axq at' 0)) 0 0 i)) 1] (.tup [slQ (fun j=>txq (evQ (nz [s0]) w data (axq at' 0) 0 0 j)) (w:Int).toNat,.int .i64 0]):=by
  have c:Cl 15 [gridD (nz [s0]) w data,slQ (fun i=>txq (rqN (ccq (axq at' 0)) 0 0 i)) 1] (.tup [slQ (fun j=>txq (evQ (nz [s0]) w data (ccq (axq at' 0)) 0 0 j)) (w:Int).toNat,.int .i64 0]):=evalq1 (out:=w) hg (by rw[jcp];exact fq_cl (fa 0) (by decide))
  rw[show (fun j=>txq (evQ (nz [s0]) w data (ccq (axq at' 0)) 0 0 j))=(fun j=>txq (evQ (nz [s0]) w data (axq at' 0) 0 0 j)) from funext fun j=>congrArg txq (by rw[jcp (axq at' 0)];exact evq_cl1 (z0:=(s0:Int)) (out:=w) (data:=data) _ j)] at c
  exact c
 have hdt:(data.length:Int)=(PR [s0]:Nat)*(w:Int):=by rw[rl.1];simp
 refine lcorn1_t ds vals data (ixl [s0] m) (slot data ((m:Int)*w) w) (loL w data) (hiL w data) oo w zn (PR [s0]) sm at' z1 z2 b1 b2 p1 p2 s0 _ _ (txq (Rat.divInt 0 1)) (txq (Rat.divInt 1 1)) (fun i=>txq (xR [s0] m i)) (fun j=>txq (evQ (nz [s0]) w data (xR [s0] m 0) 0 0 j)) (fun i=>txq (axq at' i)) (fun i=>txq (cbq (axq at' i))) (fun i=>txq (ccq (axq at' i)))
  (fun j=>txq (evQ (nz [s0]) w data (axq at' 0) 0 0 j)) (fun j=>txq (Rat.divInt ((loL w data).getD j 0) 65535)) (fun j=>txq (Rat.divInt ((hiL w data).getD j 0) 65535)) (fun i=>decide (axq at' i<Rat.divInt 0 1)) (fun i=>decide (Rat.divInt 1 1<cbq (axq at' i)))
  hz hP hdt (by omega) (by omega) (jao _ _) ⟨by omega,by omega⟩ (by simpa using hsl) rl.2.2.1 rl.2.2.2 (fun i h=>?_) (fun i h=>?_) (fun i h=>?_) (fun i h=>?_) jgI gd (by rw[hzm];exact iq) (fun i hi=>?_) ga ev (jfK hg (by simp[nz])) (fun j hj=>?_) co (lof_c (by omega) (by omega)) (lof_c (by omega) (by omega))
  (fun i _=>jcM (fa i) fq01 (by decide) (by decide)) (fun i _=>jcM fq11 (cbq_fq (fa i) (by decide)) (by decide) (by decide)) ea ec (by rw[jh5];exact eqf_w _ hw)
  (fun j hj=>lof_c (by have:=jbh hg hj;omega) (by omega)) (fun j hj=>lof_c (by have:=jbh hg hj;omega) (by omega))
  (fun j hj=>jdE (fq_ev1 hg (fa 0) j) (jcC (jbh hg hj).1) (by decide) (by decide) (ev_in1 hg hj).1) (fun j hj=>jdE (jcC (jbh hg hj).2.1) (fq_ev1 hg (fa 0) j) (by decide) (by decide) (ev_in1 hg hj).2)
 ·have h0:axq at' i<0:=by have:=of_decide_eq_true h;rwa [jaN] at this
  show txq (cbq (axq at' i))=_
  unfold cbq
  rw[if_pos h0]
 ·have h0:¬ axq at' i<0:=by have:=of_decide_eq_false h;rwa [jaN] at this
  show txq (cbq (axq at' i))=_
  unfold cbq
  rw[if_neg h0]
 ·have h0:1<cbq (axq at' i):=by have:=of_decide_eq_true h;rwa [jaN] at this
  show txq (ccq (axq at' i))=_
  unfold ccq
  rw[if_pos h0]
 ·have h0:¬ 1<cbq (axq at' i):=by have:=of_decide_eq_false h;rwa [jaN] at this
  show txq (ccq (axq at' i))=_
  unfold ccq
  rw[if_neg h0]
 ·obtain⟨a,_,e2,hab,e3,e4⟩:=xR_at (m:=m) h9 (jiD (show i<([s0]:List Nat).length from hi))
  have hb:=h9 _ (List.getElem_mem (show i<([s0]:List Nat).length from hi))
  have c:=lof_c (n:=a) (m:=(([s0]:List Nat)[i]'hi:Int)-1) (by omega) (by omega)
  have e3':([(s0:Int)]:List Int).getD i 0=(([s0]:List Nat)[i]'hi:Int):=e3
  rw[e2,e3']
  rw[← e4] at c
  exact c
 ·have hsv:=ja5 (jay hg).2.2.2 ((m:Int)*w) w j
  have c:=lof_c (n:=(slot data ((m:Int)*w) w).getD j 0) (m:=65535) (by omega) (by omega)
  rw[← pt_val1 h9 w data hm j] at c
  exact c
theorem evq_cl2 {z0 z1 out:Int}{data:List Int}(x0 x1:Rat)(j:Nat):evQ [z0,z1] out data (clQ x0) (clQ x1) 0 j=evQ [z0,z1] out data x0 x1 0 j:=by
 unfold evQ evF spR spB gp
 simp only[clQ_cl]
theorem cornersG2 {D0:D}{ds vals:List Int}{oo z:Int}{sm:Bool}(hD:D0 = .agg [.ints .u8 ds,.int .u8 oo,.ints .u16 vals,.bool sm]){s0 s1 w:Nat}{data:List Int}(hw:1≤w∧w≤3)(hg:jap (nz [s0,s1]) w data=true)(h2:∀ n∈[s0,s1],2≤n∧n≤4)
  (gd:Cl 11 [D0] (gridD (nz [s0,s1]) w data)) {at' z1 z2:Nat→Int} (b1 b2:Nat→Bool) (p1 p2:Nat→List Int) (ha:∀ i, -32768≤at' i∧at' i≤32767) (hz1:∀ i,0≤z1 i∧z1 i≤65535) (hz2:∀ i,0≤z2 i∧z2 i≤65535) (hz:0≤z∧z≤65535) :
  Cl 5 [D0,(colD at' z1 z2 b1 b2 p1 p2),.int .u16 z] (.bool true):=by
 subst hD
 have g0:=h2 s0 (by simp)
 have g1:=h2 s1 (by simp)
 obtain⟨XX,co⟩:=colorq2 b1 b2 p1 p2 ha hz1 hz2
 have h9:∀ n∈[s0,s1],2≤n∧n≤9:=fun n hn=>by have:=h2 n hn;omega
 have kp:=jfe h9
 have hP:=jcV kp
 have hP4:PR [s0,s1]≤125:=jie (PR_5 fun n hn=>by have:=h2 n hn;omega) (by show 5^2≤125;decide)
 have hdl:=(jay hg).2.2.1.1
 have rl:=jgj hg
 have hzz:(nz [s0,s1]).map Int.toNat=[s0,s1]:=by simp[nz]
 rw[hzz] at rl
 obtain⟨zn,rfl⟩:∃ zn:Nat,z=(zn:Int):=⟨z.toNat,by omega⟩
 obtain⟨m,hmz⟩:∃ m,m=zn%PR [s0,s1]:=⟨_,rfl⟩
 have hm:m<PR [s0,s1]:=by rw[hmz];exact jh8 _ hP
 have hzm:(zn:Int)%((PR [s0,s1]:Nat):Int)=(m:Int):=by rw[hmz];omega
 have fx:=fun i=>xR_fq h9 m i
 have fa:=fun i=>axq_fq (ha i)
 have iq:=jd0 [s0,s1] m (fun n hn=>by have:=h9 n hn;omega) (by simp) (by omega)
 have hpx:okIdx (nz [s0,s1]) (ixl [s0,s1] m)=true:=ixl_ok kp
 have ga:=jfl hg hpx (by simp[nz]) (by rw[jao];simp)
 rw[pz_at kp hm] at ga
 have hsl:=jbp hg hpx
 rw[pz_at kp hm] at hsl
 have ev:=evalq2 (out:=w) hg (fx 0) (fx 1)
 have ea:=evalq2 (out:=w) hg (fa 0) (fa 1)
 have ec:Cl 15 [gridD (nz [s0,s1]) w data,slQ (fun i=>txq (rqN (ccq (axq at' 0)) (ccq (axq at' 1)) 0 i)) 2] (.tup [slQ (fun j=>txq (evQ (nz [s0,s1]) w data (axq at' 0) (axq at' 1) 0 j)) (w:Int).toNat,.int .i64 0]):=by
  have c:Cl 15 [gridD (nz [s0,s1]) w data,slQ (fun i=>txq (rqN (ccq (axq at' 0)) (ccq (axq at' 1)) 0 i)) 2] (.tup [slQ (fun j=>txq (evQ (nz [s0,s1]) w data (ccq (axq at' 0)) (ccq (axq at' 1)) 0 j)) (w:Int).toNat,.int .i64 0]):=evalq2 (out:=w) hg (by rw[jcp];exact fq_cl (fa 0) (by decide)) (by rw[jcp];exact fq_cl (fa 1) (by decide))
  rw[show (fun j=>txq (evQ (nz [s0,s1]) w data (ccq (axq at' 0)) (ccq (axq at' 1)) 0 j))=(fun j=>txq (evQ (nz [s0,s1]) w data (axq at' 0) (axq at' 1) 0 j)) from funext fun j=>congrArg txq (by rw[jcp (axq at' 0),jcp (axq at' 1)];exact evq_cl2 (z0:=(s0:Int)) (z1:=(s1:Int)) (out:=w) (data:=data) _ _ j)] at c
  exact c
 have hdt:(data.length:Int)=(PR [s0,s1]:Nat)*(w:Int):=by rw[rl.1];simp
 refine lcorn2_t ds vals data (ixl [s0,s1] m) (slot data ((m:Int)*w) w) (loL w data) (hiL w data) oo w zn (PR [s0,s1]) sm at' z1 z2 b1 b2 p1 p2 s0 s1 _ _ (txq (Rat.divInt 0 1)) (txq (Rat.divInt 1 1)) (fun i=>txq (xR [s0,s1] m i)) (fun j=>txq (evQ (nz [s0,s1]) w data (xR [s0,s1] m 0) (xR [s0,s1] m 1) 0 j)) (fun i=>txq (axq at' i)) (fun i=>txq (cbq (axq at' i))) (fun i=>txq (ccq (axq at' i)))
  (fun j=>txq (evQ (nz [s0,s1]) w data (axq at' 0) (axq at' 1) 0 j)) (fun j=>txq (Rat.divInt ((loL w data).getD j 0) 65535)) (fun j=>txq (Rat.divInt ((hiL w data).getD j 0) 65535)) (fun i=>decide (axq at' i<Rat.divInt 0 1)) (fun i=>decide (Rat.divInt 1 1<cbq (axq at' i)))
  hz hP hdt (by omega) (by omega) (jao _ _) ⟨⟨by omega,by omega⟩,⟨by omega,by omega⟩⟩ (by simpa using hsl) rl.2.2.1 rl.2.2.2 (fun i h=>?_) (fun i h=>?_) (fun i h=>?_) (fun i h=>?_) jgI gd (by rw[hzm];exact iq) (fun i hi=>?_) ga ev (jfK hg (by simp[nz])) (fun j hj=>?_) co (lof_c (by omega) (by omega)) (lof_c (by omega) (by omega))
  (fun i _=>jcM (fa i) fq01 (by decide) (by decide)) (fun i _=>jcM fq11 (cbq_fq (fa i) (by decide)) (by decide) (by decide)) ea ec (by rw[jh5];exact eqf_w _ hw)
  (fun j hj=>lof_c (by have:=jbh hg hj;omega) (by omega)) (fun j hj=>lof_c (by have:=jbh hg hj;omega) (by omega))
  (fun j hj=>jdE (fq_ev2 hg (fa 0) (fa 1) j) (jcC (jbh hg hj).1) (by decide) (by decide) (ev_in2 hg hj).1) (fun j hj=>jdE (jcC (jbh hg hj).2.1) (fq_ev2 hg (fa 0) (fa 1) j) (by decide) (by decide) (ev_in2 hg hj).2)
 ·have h0:axq at' i<0:=by have:=of_decide_eq_true h;rwa [jaN] at this
  show txq (cbq (axq at' i))=_
  unfold cbq
  rw[if_pos h0]
 ·have h0:¬ axq at' i<0:=by have:=of_decide_eq_false h;rwa [jaN] at this
  show txq (cbq (axq at' i))=_
  unfold cbq
  rw[if_neg h0]
 ·have h0:1<cbq (axq at' i):=by have:=of_decide_eq_true h;rwa [jaN] at this
  show txq (ccq (axq at' i))=_
  unfold ccq
  rw[if_pos h0]
 ·have h0:¬ 1<cbq (axq at' i):=by have:=of_decide_eq_false h;rwa [jaN] at this
  show txq (ccq (axq at' i))=_
  unfold ccq
  rw[if_neg h0]
 ·obtain⟨a,_,e2,hab,e3,e4⟩:=xR_at (m:=m) h9 (jiD (show i<([s0,s1]:List Nat).length from hi))
  have hb:=h9 _ (List.getElem_mem (show i<([s0,s1]:List Nat).length from hi))
  have c:=lof_c (n:=a) (m:=(([s0,s1]:List Nat)[i]'hi:Int)-1) (by omega) (by omega)
  have e3':([(s0:Int),(s1:Int)]:List Int).getD i 0=(([s0,s1]:List Nat)[i]'hi:Int):=e3
  rw[e2,e3']
  rw[← e4] at c
  exact c
 ·have hsv:=ja5 (jay hg).2.2.2 ((m:Int)*w) w j
  have c:=lof_c (n:=(slot data ((m:Int)*w) w).getD j 0) (m:=65535) (by omega) (by omega)
  rw[← pt_val2 h9 w data hm j] at c
  exact c
theorem evq_cl3 {z0 z1 z2 out:Int}{data:List Int}(x0 x1 x2:Rat)(j:Nat):evQ [z0,z1,z2] out data (clQ x0) (clQ x1) (clQ x2) j=evQ [z0,z1,z2] out data x0 x1 x2 j:=by
 unfold evQ evF spR spB gp
 simp only[clQ_cl]
theorem cornersG3 {D0:D}{ds vals:List Int}{oo z:Int}{sm:Bool}(hD:D0 = .agg [.ints .u8 ds,.int .u8 oo,.ints .u16 vals,.bool sm]){s0 s1 s2 w:Nat}{data:List Int}(hw:1≤w∧w≤3)(hg:jap (nz [s0,s1,s2]) w data=true)(h2:∀ n∈[s0,s1,s2],2≤n∧n≤4)
  (gd:Cl 11 [D0] (gridD (nz [s0,s1,s2]) w data)) {at' z1 z2:Nat→Int} (b1 b2:Nat→Bool) (p1 p2:Nat→List Int) (ha:∀ i, -32768≤at' i∧at' i≤32767) (hz1:∀ i,0≤z1 i∧z1 i≤65535) (hz2:∀ i,0≤z2 i∧z2 i≤65535) (hz:0≤z∧z≤65535) :
  Cl 5 [D0,(colD at' z1 z2 b1 b2 p1 p2),.int .u16 z] (.bool true):=by
 subst hD
 have g0:=h2 s0 (by simp)
 have g1:=h2 s1 (by simp)
 have g2:=h2 s2 (by simp)
 obtain⟨XX,co⟩:=colorq3 b1 b2 p1 p2 ha hz1 hz2
 have h9:∀ n∈[s0,s1,s2],2≤n∧n≤9:=fun n hn=>by have:=h2 n hn;omega
 have kp:=jfe h9
 have hP:=jcV kp
 have hP4:PR [s0,s1,s2]≤125:=jie (PR_5 fun n hn=>by have:=h2 n hn;omega) (by show 5^3≤125;decide)
 have hdl:=(jay hg).2.2.1.1
 have rl:=jgj hg
 have hzz:(nz [s0,s1,s2]).map Int.toNat=[s0,s1,s2]:=by simp[nz]
 rw[hzz] at rl
 obtain⟨zn,rfl⟩:∃ zn:Nat,z=(zn:Int):=⟨z.toNat,by omega⟩
 obtain⟨m,hmz⟩:∃ m,m=zn%PR [s0,s1,s2]:=⟨_,rfl⟩
 have hm:m<PR [s0,s1,s2]:=by rw[hmz];exact jh8 _ hP
 have hzm:(zn:Int)%((PR [s0,s1,s2]:Nat):Int)=(m:Int):=by rw[hmz];omega
 have fx:=fun i=>xR_fq h9 m i
 have fa:=fun i=>axq_fq (ha i)
 have iq:=jd0 [s0,s1,s2] m (fun n hn=>by have:=h9 n hn;omega) (by simp) (by omega)
 have hpx:okIdx (nz [s0,s1,s2]) (ixl [s0,s1,s2] m)=true:=ixl_ok kp
 have ga:=jfl hg hpx (by simp[nz]) (by rw[jao];simp)
 rw[pz_at kp hm] at ga
 have hsl:=jbp hg hpx
 rw[pz_at kp hm] at hsl
 have ev:=evalq3 (out:=w) hg (fx 0) (fx 1) (fx 2)
 have ea:=evalq3 (out:=w) hg (fa 0) (fa 1) (fa 2)
 have ec:Cl 15 [gridD (nz [s0,s1,s2]) w data,slQ (fun i=>txq (rqN (ccq (axq at' 0)) (ccq (axq at' 1)) (ccq (axq at' 2)) i)) 3] (.tup [slQ (fun j=>txq (evQ (nz [s0,s1,s2]) w data (axq at' 0) (axq at' 1) (axq at' 2) j)) (w:Int).toNat,.int .i64 0]):=by
  have c:Cl 15 [gridD (nz [s0,s1,s2]) w data,slQ (fun i=>txq (rqN (ccq (axq at' 0)) (ccq (axq at' 1)) (ccq (axq at' 2)) i)) 3] (.tup [slQ (fun j=>txq (evQ (nz [s0,s1,s2]) w data (ccq (axq at' 0)) (ccq (axq at' 1)) (ccq (axq at' 2)) j)) (w:Int).toNat,.int .i64 0]):=evalq3 (out:=w) hg (by rw[jcp];exact fq_cl (fa 0) (by decide)) (by rw[jcp];exact fq_cl (fa 1) (by decide)) (by rw[jcp];exact fq_cl (fa 2) (by decide))
  rw[show (fun j=>txq (evQ (nz [s0,s1,s2]) w data (ccq (axq at' 0)) (ccq (axq at' 1)) (ccq (axq at' 2)) j))=(fun j=>txq (evQ (nz [s0,s1,s2]) w data (axq at' 0) (axq at' 1) (axq at' 2) j)) from funext fun j=>congrArg txq (by rw[jcp (axq at' 0),jcp (axq at' 1),jcp (axq at' 2)];exact evq_cl3 (z0:=(s0:Int)) (z1:=(s1:Int)) (z2:=(s2:Int)) (out:=w) (data:=data) _ _ _ j)] at c
  exact c
 have hdt:(data.length:Int)=(PR [s0,s1,s2]:Nat)*(w:Int):=by rw[rl.1];simp
 refine lcorn3_t ds vals data (ixl [s0,s1,s2] m) (slot data ((m:Int)*w) w) (loL w data) (hiL w data) oo w zn (PR [s0,s1,s2]) sm at' z1 z2 b1 b2 p1 p2 s0 s1 s2 _ _ (txq (Rat.divInt 0 1)) (txq (Rat.divInt 1 1)) (fun i=>txq (xR [s0,s1,s2] m i)) (fun j=>txq (evQ (nz [s0,s1,s2]) w data (xR [s0,s1,s2] m 0) (xR [s0,s1,s2] m 1) (xR [s0,s1,s2] m 2) j)) (fun i=>txq (axq at' i)) (fun i=>txq (cbq (axq at' i))) (fun i=>txq (ccq (axq at' i)))
  (fun j=>txq (evQ (nz [s0,s1,s2]) w data (axq at' 0) (axq at' 1) (axq at' 2) j)) (fun j=>txq (Rat.divInt ((loL w data).getD j 0) 65535)) (fun j=>txq (Rat.divInt ((hiL w data).getD j 0) 65535)) (fun i=>decide (axq at' i<Rat.divInt 0 1)) (fun i=>decide (Rat.divInt 1 1<cbq (axq at' i)))
  hz hP hdt (by omega) (by omega) (jao _ _) ⟨⟨by omega,by omega⟩,⟨by omega,by omega⟩,⟨by omega,by omega⟩⟩ (by simpa using hsl) rl.2.2.1 rl.2.2.2 (fun i h=>?_) (fun i h=>?_) (fun i h=>?_) (fun i h=>?_) jgI gd (by rw[hzm];exact iq) (fun i hi=>?_) ga ev (jfK hg (by simp[nz])) (fun j hj=>?_) co (lof_c (by omega) (by omega)) (lof_c (by omega) (by omega))
  (fun i _=>jcM (fa i) fq01 (by decide) (by decide)) (fun i _=>jcM fq11 (cbq_fq (fa i) (by decide)) (by decide) (by decide)) ea ec (by rw[jh5];exact eqf_w _ hw)
  (fun j hj=>lof_c (by have:=jbh hg hj;omega) (by omega)) (fun j hj=>lof_c (by have:=jbh hg hj;omega) (by omega))
  (fun j hj=>jdE (fq_ev3 hg (fa 0) (fa 1) (fa 2) j) (jcC (jbh hg hj).1) (by decide) (by decide) (ev_in3 hg hj).1) (fun j hj=>jdE (jcC (jbh hg hj).2.1) (fq_ev3 hg (fa 0) (fa 1) (fa 2) j) (by decide) (by decide) (ev_in3 hg hj).2)
 ·have h0:axq at' i<0:=by have:=of_decide_eq_true h;rwa [jaN] at this
  show txq (cbq (axq at' i))=_
  unfold cbq
  rw[if_pos h0]
 ·have h0:¬ axq at' i<0:=by have:=of_decide_eq_false h;rwa [jaN] at this
  show txq (cbq (axq at' i))=_
  unfold cbq
  rw[if_neg h0]
 ·have h0:1<cbq (axq at' i):=by have:=of_decide_eq_true h;rwa [jaN] at this
  show txq (ccq (axq at' i))=_
  unfold ccq
  rw[if_pos h0]
 ·have h0:¬ 1<cbq (axq at' i):=by have:=of_decide_eq_false h;rwa [jaN] at this
  show txq (ccq (axq at' i))=_
  unfold ccq
  rw[if_neg h0]
 ·obtain⟨a,_,e2,hab,e3,e4⟩:=xR_at (m:=m) h9 (jiD (show i<([s0,s1,s2]:List Nat).length from hi))
  have hb:=h9 _ (List.getElem_mem (show i<([s0,s1,s2]:List Nat).length from hi))
  have c:=lof_c (n:=a) (m:=(([s0,s1,s2]:List Nat)[i]'hi:Int)-1) (by omega) (by omega)
  have e3':([(s0:Int),(s1:Int),(s2:Int)]:List Int).getD i 0=(([s0,s1,s2]:List Nat)[i]'hi:Int):=e3
  rw[e2,e3']
  rw[← e4] at c
  exact c
 ·have hsv:=ja5 (jay hg).2.2.2 ((m:Int)*w) w j
  have c:=lof_c (n:=(slot data ((m:Int)*w) w).getD j 0) (m:=65535) (by omega) (by omega)
  rw[← pt_val3 h9 w data hm j] at c
  exact c
theorem corners_c (ds:List Int)(o:Int)(vals:List Int)(sm:Bool)(hd:∀ v∈ds,0≤v∧v≤255)(hdl:ds.length≤281474976710656)(ho:0≤o∧o≤255)(hv:∀ v∈vals,0≤v∧v≤65535)(hvl:vals.length≤281474976710656){at' z1 z2:Nat→Int}(b1 b2:Nat→Bool)(p1 p2:Nat→List Int)(ha:∀ i, -32768≤at' i∧at' i≤32767)(hz1:∀ i,0≤z1 i∧z1 i≤65535)(hz2:∀ i,0≤z2 i∧z2 i≤65535){z:Int}(hz:0≤z∧z≤65535) :
  Cl 5 [.agg [.ints .u8 ds,.int .u8 o,.ints .u16 vals,.bool sm],(colD at' z1 z2 b1 b2 p1 p2),.int .u16 z] (.bool true):=by
 have gd:=draft_c ds o vals sm hd hdl ho hv hvl
 have ok:=draft_ok ds o vals sm hv
 have nb:=nsD_bd ds
 have wb:=wD_bd o
 generalize dData ds o vals sm=data at *
 generalize hns:nsD ds=ns at *
 generalize wD o=w at *
 match ns,nb with
 | [],nb=>exact absurd nb.1.1 (by decide)
 | [s0],nb=>exact cornersG1 rfl wb ok nb.2 gd b1 b2 p1 p2 ha hz1 hz2 hz
 | [s0,s1],nb=>exact cornersG2 rfl wb ok nb.2 gd b1 b2 p1 p2 ha hz1 hz2 hz
 | [s0,s1,s2],nb=>exact cornersG3 rfl wb ok nb.2 gd b1 b2 p1 p2 ha hz1 hz2 hz
 | _::_::_::_::_,nb=>exact absurd nb.1.2 (by simp)
end Go.Proofs.YtgjgpdceghjajaaGreatDoor
end
