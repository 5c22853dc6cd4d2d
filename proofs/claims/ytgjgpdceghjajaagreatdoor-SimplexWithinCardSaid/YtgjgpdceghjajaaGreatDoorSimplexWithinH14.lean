/- What functions of the program answer at given values, part 14. Conditions: those that each theorem names. -/
import Derived.Test.YtgjgpdceghjajaaGreatDoorSimplexWithinH13
import Derived.Test.YtgjgpdceghjajaaGreatDoorSimplexWithinH6
set_option linter.unusedSimpArgs false
set_option linter.unusedVariables false
set_option maxHeartbeats 8000000
set_option maxRecDepth 100000
section
namespace Go.Proofs.YtgjgpdceghjajaaGreatDoor
open Go Go.V Go.Nb
def grd (data:List Int)(s z:Int)(a:Nat):Int:=(z-1)*max (data.getD ((a:Int)+s).toNat 0-data.getD a 0) (data.getD a 0-data.getD ((a:Int)+s).toNat 0)
def stp (data:List Int)(out s z:Int)(i:Nat)(w:Nat→List Int)(a:Nat)(r:Nat):List Int:=
 if (a:Int)/s%z=z-1 then w r else if (a:Int)%out=r then (w r).set i (max ((w r).getD i 0) (grd data s z a)) else w r
def inS (data:List Int)(out s z:Int)(i:Nat)(w:Nat→List Int):Nat→Nat→List Int
 | 0=>w
 | a+1=>stp data out s z i (inS data out s z i w a) a
def strd (zs:List Int)(out:Int):Nat→Int
 | 0=>out
 | k+1=>strd zs out k*zs.getD (zs.length-1-k) 0
def outS (zs data:List Int)(out:Int):Nat→Nat→List Int
 | 0=>fun _=>List.replicate zs.length 0
 | k+1=>inS data out (strd zs out k) (zs.getD (zs.length-1-k) 0) (zs.length-1-k) (outS zs data out k) data.length
def rowOk (n:Nat)(l:List Int):Prop:=l.length=n ∧ ∀ j,0≤l.getD j 0∧l.getD j 0≤600000
theorem jg1 {data:List Int}{s z:Int}{a:Nat}(hd:∀ v∈data,0≤v∧v≤65535)(hz:2≤z∧z≤9):0≤grd data s z a∧grd data s z a≤600000:=by
 have h1:=jaO (p:=fun v=>0≤v∧v≤65535) hd (by omega) a
 have h2:=jaO (p:=fun v=>0≤v∧v≤65535) hd (by omega) ((a:Int)+s).toNat
 unfold grd
 generalize hx:max (data.getD ((a:Int)+s).toNat 0-data.getD a 0) (data.getD a 0-data.getD ((a:Int)+s).toNat 0)=x
 have hx2:0≤x∧x≤65535:=by omega
 constructor
 ·exact jiz (by omega) hx2.1
 ·have:=Int.mul_le_mul (show z-1≤8 by omega) hx2.2 hx2.1 (by omega)
  omega
theorem rowOk_set {n:Nat}{l:List Int}{i:Nat}{v:Int}(h:rowOk n l)(hv:0≤v∧v≤600000):rowOk n (l.set i v):=by
 refine⟨by rw[jjo];exact h.1,fun j=>?_⟩
 by_cases hi:i<l.length
 ·rw[jcH l i j v hi]
  split
  ·exact hv
  ·exact h.2 j
 ·rw[List.set_eq_of_length_le (by omega)]
  exact h.2 j
theorem jfJ {data:List Int}{out s z:Int}{i n:Nat}{w:Nat→List Int}(hd:∀ v∈data,0≤v∧v≤65535)(hz:2≤z∧z≤9)(hw:∀ r,rowOk n (w r)):∀ a r,rowOk n (inS data out s z i w a r)
 | 0,r=>hw r
 | a+1,r=>by
  have h:=jfJ (out:=out) (s:=s) (z:=z) (i:=i) hd hz hw a r
  have g:=jg1 (s:=s) (a:=a) hd hz
  simp only[inS,stp]
  split
  ·exact h
  ·split
   ·refine rowOk_set h ?_
    have:=h.2 i
    omega
   ·exact h
theorem jbi {l:List Int}{p:Int→Prop}(h:∀ v∈l,p v){j:Nat}(hj:j<l.length):p (l.getD j 0):=by
 rw[ji5,ji8 hj]
 exact h _ (List.getElem_mem hj)
theorem jbb {zs data : List Int} {out : Int} (hd : ∀ v ∈ data, 0 ≤ v ∧ v ≤ 65535) (hz : ∀ z ∈ zs, 2 ≤ z ∧ z ≤ 9) : ∀ k, k ≤ zs.length → ∀ r, rowOk zs.length (outS zs data out k r)
  | 0, _, r => ⟨by simp [outS], fun j => by
      have := jaO (l := List.replicate zs.length (0 : Int)) (p := fun v => v = 0) (fun v hv => List.eq_of_mem_replicate hv) rfl j
      show 0 ≤ (List.replicate zs.length (0 : Int)).getD j 0 ∧ (List.replicate zs.length (0 : Int)).getD j 0 ≤ 600000
      omega⟩
  | k + 1, hk, r => jfJ hd (jbi (l := zs) (p := fun z => 2 ≤ z ∧ z ≤ 9) hz (by omega)) (jbb hd hz k (by omega)) _ r
theorem jdd {zs:List Int}{out:Int}(ho:1≤out∧out≤4)(hz:∀ z∈zs,2≤z∧z≤9):∀ k,k≤zs.length→0<strd zs out k∧strd zs out k≤4*9^k
 | 0,_=>by simp only[strd];omega
 | k+1,hk=>by
  have h:=jdd ho hz k (by omega)
  have g:=jbi (p:=fun z=>2≤z∧z≤9) hz (j:=zs.length-1-k) (by omega)
  simp only[strd]
  constructor
  ·exact Int.mul_pos h.1 (by omega)
  ·have:=Int.mul_le_mul h.2 g.2 (by omega) (jiz (by decide) (Int.pow_nonneg (by decide)))
   rw[Int.pow_succ]
   omega
theorem jcw {zs:List Int}{out:Int} : ∀ k,k≤zs.length→prod zs*out=prod (zs.take (zs.length-k))*strd zs out k
 | 0,_=>by simp only[strd,Nat.sub_zero,jjs]
 | k+1,hk=>by
  have h:=jcw (zs:=zs) (out:=out) k (by omega)
  have e0:zs[zs.length-(k+1)]? = some (zs.getD (zs.length-1-k) 0):=by
   rw[show zs.length-1-k=zs.length-(k+1) from by omega,ji5,ji8 (show zs.length-(k+1)<zs.length from by omega)]
   rfl
  rw[h,show zs.length-k=(zs.length-(k+1))+1 from by omega,jb0 e0]
  simp only[strd]
  rw[jiP,jiO (zs.getD (zs.length-1-k) 0)]
theorem pow9 (k:Nat)(h:k≤4):(4:Int)*9^k≤26244:=by
 have g:k=0∨k=1∨k=2∨k=3∨k=4:=by omega
 rcases g with rfl|rfl|rfl|rfl|rfl<;>decide
theorem stp_in {s z q:Int}{a:Nat}{len:Int}(hs:0<s)(hz:0<z)(hl:len=q*(s*z))(ha:(a:Int)<len)(h:¬ (a:Int)/s%z=z-1):(a:Int)+s<len:=by
 have h1:=jix ((a:Int)/s) (show z≠0 by omega)
 have h2:=jiU ((a:Int)/s) hz
 have h3:(a:Int)/s<q*z:=(Int.ediv_lt_iff_lt_mul hs).2 (by rw[jiP,jiO z s,← hl];exact ha)
 have h4:=Int.mul_ediv_add_emod ((a:Int)/s) z
 have h5:=Int.mul_ediv_add_emod (a:Int) s
 have h6:=jiU (a:Int) hs
 have h7:(a:Int)/s/z<q:=(Int.ediv_lt_iff_lt_mul hz).2 h3
 have h8:(a:Int)/s+2≤q*z:=by
  have:=jiQ (show (a:Int)/s/z+1≤q by omega) (show 0≤z by omega)
  rw[jiN,Int.mul_one,jiO z q] at this
  omega
 have h9:=jiQ h8 (show 0≤s by omega)
 rw[jiN] at h9
 have h10:s*(q*z)=len:=by rw[hl,Int.mul_left_comm]
 omega
def stB1 (n:Nat):Nat→Hp
 | 0=>[(21,.box [.nil])]
 | _=>[(21,.box [.osl 200 0 n]),(200,.arr .i64 (List.replicate n 0))]
theorem jh9:type_of% @jiC∧type_of% @jiA∧type_of% @tn0∧type_of% @tn1∧type_of% @tn2∧type_of% @tn3∧type_of% @xt4:=⟨@jiC,@jiA,@tn0,@tn1,@tn2,@tn3,@xt4⟩
theorem jde (zs data:List Int)(T:Nat→List Int)(hg:jaj zs 1 data=true)(hl:zs.length≤4)(hT:outS zs data 1 zs.length=T):Cl 32 [.agg [.ints .i64 zs,.int .i64 1,.ints .i64 data]] (.tup [.slf 1 1 (fun j=>List.take 1 (List.drop (j*1) [.ints .i64 (T 0)])),.int .i64 0]):=by
 have ck:Cl 37 [.agg [.ints .i64 zs,.int .i64 1,.ints .i64 data]] (.int .i64 0):=jbO hg hl
 have og:=jap hg
 refine V.en tbOk Tryz.func32 ?_
 refine V.r1 jh9 ck ?_
 refine jac 0 (fun k=>k≤1) (fun k=>1-k) (fun k=>[(24,.int .i64 k)]) (fun k=>stB1 zs.length k) ?_ ?_ ?_
 ·simp only[stB1]
  exact V.wk
 ·exact jiv _
 intro k hk
 have hk4:k=0∨k=1:=by omega
 rcases hk4 with e|e
 all_goals subst e
 ·simp only[k0,stB1]
  refine V.r0 jh9 ?_
  refine⟨1,by omega,by omega,?_⟩
  simp only[stB1]
  refine Wk.renBox 32 200 21 0 zs.length (by decide) (by decide) (by decide) rfl rfl rfl ?_
  exact V.wk
 ·simp only[k1,stB1]
  refine V.r0 jh9 ?_
  refine jcE (β:=Unit) 2 (fun _=>True) (fun _=>[(5,.slf 1 1 (fun j=>List.take 1 (List.drop (j*1) [.ints .i64 (T 0)]))),(7,.any),(8,.any),(21,.any),(22,.any)]) (fun _=>[(21,.gone),(200,.gone)]) ?_ ?_
  rotate_left
  ·intro _ _
   refine V.r0 @jiA ?_
   exact Fin.of rfl
  refine jac ((0,(zs.length:Int)-1,1,outS zs data 1 0):Nat×Int×Int×(Nat→List Int)) (fun y=>y.1≤zs.length∧y.2.1=(zs.length:Int)-1-y.1∧y.2.2.1=strd zs 1 y.1∧y.2.2.2=outS zs data 1 y.1) (fun y=>zs.length-y.1) (fun y=>[(8,.int .i64 y.2.1),(7,.int .i64 y.2.2.1)]) (fun y=>[(200,.arr .i64 (y.2.2.2 0))]) ?_ ?_ ?_
  ·exact V.wk
  ·exact⟨jiv _,(by show (zs.length:Int)-1=(zs.length:Int)-1-((0:Nat):Int);omega),rfl,rfl⟩
  rintro⟨k,x8,s,w⟩ ⟨hk,h8,hs,hw⟩
  dsimp only at hk h8 hs hw ⊢
  have wo:∀ r,rowOk zs.length (w r):=fun r=>by rw[hw];exact jbb og.2.2.2 og.2.1 k hk r
  refine V.r0 jh9 ?_
  refine V.br (fun h=>?_) (fun h=>?_)
  ·have hx:=of_decide_eq_true h
   obtain⟨i,rfl⟩:∃ i:Nat,x8=i:=⟨x8.toNat,by omega⟩
   have hi:i=zs.length-1-k:=by omega
   obtain⟨z,hz⟩:∃ z,zs.getD i 0=z:=⟨_,rfl⟩
   have zb:2≤z∧z≤9:=by rw[← hz];exact jbi og.2.1 (by omega)
   have sp:=jdd og.1 og.2.1 k hk
   refine V.r0 (V.a2 jh9 hz) ?_
   have s0:0<s:=by rw[hs];exact sp.1
   have pp:=jcw (zs:=zs) (out:=1) (k+1) (by omega)
   have hlen:(data.length:Int)=prod (zs.take (zs.length-(k+1)))*(s*z):=by rw[og.2.2.1.2,pp,hs,← hz,hi];rfl
   have sm:s≤26244:=by
    have:=pow9 k (by omega)
    omega
   have io:=jfJ (out:=1) (s:=s) (z:=z) (i:=i) og.2.2.2 zb wo
   refine jac (0:Nat) (fun a=>a≤data.length) (fun a=>data.length-a) (fun a=>[(53,.int .i64 (a:Nat))]) (fun a=>[(200,.arr .i64 (inS data 1 s z i w a 0))]) ?_ ?_ ?_
   ·exact V.wk
   ·exact jiv _
   intro a ha
   have b0:=jaO (p:=fun v=>0≤v∧v≤65535) og.2.2.2 (by omega) a
   have r0:=io a 0
   have q0:=r0.2 i
   have l0:=r0.1
   refine V.r0 jh9 ?_
   refine V.br (fun c=>?_) (fun c=>?_)
   ·have hx2:=of_decide_eq_true c
    have hq:0≤(a:Int)/s:=jiw (by omega) (by omega)
    refine V.r0 jh9 ?_
    refine V.br (fun f=>?_) (fun f=>?_)
    ·have he:=of_decide_eq_true f
     have e0:inS data 1 s z i w (a+1) 0=inS data 1 s z i w a 0:=if_pos he
     refine V.r0 jh9 ?_
     refine⟨a+1,by omega,by omega,?_⟩
     simp only[e0]
     exact V.wk
    ·have he:=of_decide_eq_false f
     have hin:=stp_in s0 (by omega) hlen hx2 he
     have b1:=jaO (p:=fun v=>0≤v∧v≤65535) og.2.2.2 (by omega) ((a:Int)+s).toNat
     have gb:=jg1 (s:=s) (a:=a) og.2.2.2 zb
     unfold grd at gb
     have hm:InR .i64 ((z-1)*max (data.getD ((a:Int)+s).toNat 0-data.getD a 0) (data.getD a 0-data.getD ((a:Int)+s).toNat 0)):=⟨ji2 (by decide) gb.1,ji2 gb.2 (by decide)⟩
     have g:(a:Int)%1=0:=by omega
     ·have u0:inS data 1 s z i w (a+1) 0=(inS data 1 s z i w a 0).set i (max ((inS data 1 s z i w a 0).getD i 0) (grd data s z a)):=(if_neg he).trans (if_pos (show (a:Int)%1=((0:Nat):Int) from g))
      (conv=>whnf)
      (try simp only[jh9])
      repeat ((first|refine V.s1 ?_|((try ((with_reducible refine .ext ?_);(conv=>whnf);(try simp only[jh9])));(with_reducible refine jaa (r:=?_) ?_ ?_);rotate_left;(focus (first|fail));(conv=>whnf))|((simp only[g]);(conv=>whnf)));(try simp only[jh9]))
      refine⟨a+1,by omega,by omega,?_⟩
      simp only[u0]
      exact V.wk
   ·have hx2:=of_decide_eq_false c
    obtain rfl:a=data.length:=by omega
    have hsz0:=Int.mul_le_mul sm zb.2 (by omega) (by decide)
    have hsz1:=jiz (show 0≤s by omega) (show 0≤z by omega)
    have hsz:InR .i64 (s*z):=⟨ji2 (by decide) hsz1,ji2 hsz0 (by decide)⟩
    refine V.r0 jh9 ?_
    refine⟨(k+1,(i:Int)-1,s*z,inS data 1 s z i w data.length),⟨by show k+1≤zs.length;omega,by show (i:Int)-1=(zs.length:Int)-1-((k+1:Nat):Int);omega,?_,?_⟩,by show zs.length-(k+1)<zs.length-k;omega,?_⟩
    ·show s*z=strd zs 1 k*zs.getD (zs.length-1-k) 0
     rw[hs,← hz,hi]
    ·show _=inS data 1 (strd zs 1 k) (zs.getD (zs.length-1-k) 0) (zs.length-1-k) (outS zs data 1 k) data.length
     rw[← hs,← hw,← hi,hz]
    ·dsimp only
     exact V.wk
  ·have hx:=of_decide_eq_false h
   have hkn:k=zs.length:=by omega
   have hwT:w=T:=by rw[hw,hkn,hT]
   subst hwT
   refine V.r0 @jiA ?_
   refine⟨(),trivial,?_⟩
   have t0:(w 0).take zs.length=w 0:=jjj (Nat.le_of_eq (wo 0).1)
   refine Wk.pub 200 ?_
   (conv=>whnf)
   simp only[t0]
   refine Wk.pub 21 ?_
   (conv=>whnf)
   simp only[jiA]
   exact V.wk
def stB2 (n:Nat):Nat→Hp
 | 0=>[(21,.box [.nil,.nil])]
 | 1=>[(21,.box [.osl 200 0 n,.nil]),(200,.arr .i64 (List.replicate n 0))]
 | _=>[(21,.box [.osl 200 0 n,.osl 201 0 n]),(200,.arr .i64 (List.replicate n 0)),(201,.arr .i64 (List.replicate n 0))]
theorem jf5 (zs data:List Int)(T:Nat→List Int)(hg:jaj zs 2 data=true)(hl:zs.length≤4)(hT:outS zs data 2 zs.length=T):Cl 32 [.agg [.ints .i64 zs,.int .i64 2,.ints .i64 data]] (.tup [.slf 1 2 (fun j=>List.take 1 (List.drop (j*1) [.ints .i64 (T 0),.ints .i64 (T 1)])),.int .i64 0]):=by
 have ck:Cl 37 [.agg [.ints .i64 zs,.int .i64 2,.ints .i64 data]] (.int .i64 0):=jbO hg hl
 have og:=jap hg
 refine V.en tbOk Tryz.func32 ?_
 refine V.r1 jh9 ck ?_
 refine jac 0 (fun k=>k≤2) (fun k=>2-k) (fun k=>[(24,.int .i64 k)]) (fun k=>stB2 zs.length k) ?_ ?_ ?_
 ·simp only[stB2]
  exact V.wk
 ·exact jiv _
 intro k hk
 have hk4:k=0∨k=1∨k=2:=by omega
 rcases hk4 with e|e|e
 all_goals subst e
 ·simp only[k0,stB2]
  refine V.r0 jh9 ?_
  refine⟨1,by omega,by omega,?_⟩
  simp only[stB2]
  refine Wk.renBox 32 200 21 0 zs.length (by decide) (by decide) (by decide) rfl rfl rfl ?_
  exact V.wk
 ·simp only[k1,stB2]
  refine V.r0 jh9 ?_
  refine⟨2,by omega,by omega,?_⟩
  simp only[stB2]
  refine Wk.renBox 32 201 21 1 zs.length (by decide) (by decide) (by decide) rfl rfl rfl ?_
  exact V.wk
 ·simp only[k2,stB2]
  refine V.r0 jh9 ?_
  refine jcE (β:=Unit) 2 (fun _=>True) (fun _=>[(5,.slf 1 2 (fun j=>List.take 1 (List.drop (j*1) [.ints .i64 (T 0),.ints .i64 (T 1)]))),(7,.any),(8,.any),(21,.any),(22,.any)]) (fun _=>[(21,.gone),(200,.gone),(201,.gone)]) ?_ ?_
  rotate_left
  ·intro _ _
   refine V.r0 @jiA ?_
   exact Fin.of rfl
  refine jac ((0,(zs.length:Int)-1,2,outS zs data 2 0):Nat×Int×Int×(Nat→List Int)) (fun y=>y.1≤zs.length∧y.2.1=(zs.length:Int)-1-y.1∧y.2.2.1=strd zs 2 y.1∧y.2.2.2=outS zs data 2 y.1) (fun y=>zs.length-y.1) (fun y=>[(8,.int .i64 y.2.1),(7,.int .i64 y.2.2.1)]) (fun y=>[(200,.arr .i64 (y.2.2.2 0)),(201,.arr .i64 (y.2.2.2 1))]) ?_ ?_ ?_
  ·exact V.wk
  ·exact⟨jiv _,(by show (zs.length:Int)-1=(zs.length:Int)-1-((0:Nat):Int);omega),rfl,rfl⟩
  rintro⟨k,x8,s,w⟩ ⟨hk,h8,hs,hw⟩
  dsimp only at hk h8 hs hw ⊢
  have wo:∀ r,rowOk zs.length (w r):=fun r=>by rw[hw];exact jbb og.2.2.2 og.2.1 k hk r
  refine V.r0 jh9 ?_
  refine V.br (fun h=>?_) (fun h=>?_)
  ·have hx:=of_decide_eq_true h
   obtain⟨i,rfl⟩:∃ i:Nat,x8=i:=⟨x8.toNat,by omega⟩
   have hi:i=zs.length-1-k:=by omega
   obtain⟨z,hz⟩:∃ z,zs.getD i 0=z:=⟨_,rfl⟩
   have zb:2≤z∧z≤9:=by rw[← hz];exact jbi og.2.1 (by omega)
   have sp:=jdd og.1 og.2.1 k hk
   refine V.r0 (V.a2 jh9 hz) ?_
   have s0:0<s:=by rw[hs];exact sp.1
   have pp:=jcw (zs:=zs) (out:=2) (k+1) (by omega)
   have hlen:(data.length:Int)=prod (zs.take (zs.length-(k+1)))*(s*z):=by rw[og.2.2.1.2,pp,hs,← hz,hi];rfl
   have sm:s≤26244:=by
    have:=pow9 k (by omega)
    omega
   have io:=jfJ (out:=2) (s:=s) (z:=z) (i:=i) og.2.2.2 zb wo
   refine jac (0:Nat) (fun a=>a≤data.length) (fun a=>data.length-a) (fun a=>[(53,.int .i64 (a:Nat))]) (fun a=>[(200,.arr .i64 (inS data 2 s z i w a 0)),(201,.arr .i64 (inS data 2 s z i w a 1))]) ?_ ?_ ?_
   ·exact V.wk
   ·exact jiv _
   intro a ha
   have b0:=jaO (p:=fun v=>0≤v∧v≤65535) og.2.2.2 (by omega) a
   have r0:=io a 0
   have q0:=r0.2 i
   have l0:=r0.1
   have r1:=io a 1
   have q1:=r1.2 i
   have l1:=r1.1
   refine V.r0 jh9 ?_
   refine V.br (fun c=>?_) (fun c=>?_)
   ·have hx2:=of_decide_eq_true c
    have hq:0≤(a:Int)/s:=jiw (by omega) (by omega)
    refine V.r0 jh9 ?_
    refine V.br (fun f=>?_) (fun f=>?_)
    ·have he:=of_decide_eq_true f
     have e0:inS data 2 s z i w (a+1) 0=inS data 2 s z i w a 0:=if_pos he
     have e1:inS data 2 s z i w (a+1) 1=inS data 2 s z i w a 1:=if_pos he
     refine V.r0 jh9 ?_
     refine⟨a+1,by omega,by omega,?_⟩
     simp only[e0,e1]
     exact V.wk
    ·have he:=of_decide_eq_false f
     have hin:=stp_in s0 (by omega) hlen hx2 he
     have b1:=jaO (p:=fun v=>0≤v∧v≤65535) og.2.2.2 (by omega) ((a:Int)+s).toNat
     have gb:=jg1 (s:=s) (a:=a) og.2.2.2 zb
     unfold grd at gb
     have hm:InR .i64 ((z-1)*max (data.getD ((a:Int)+s).toNat 0-data.getD a 0) (data.getD a 0-data.getD ((a:Int)+s).toNat 0)):=⟨ji2 (by decide) gb.1,ji2 gb.2 (by decide)⟩
     have hr:(a:Int)%2=0∨(a:Int)%2=1:=by omega
     rcases hr with g|g
     ·have u0:inS data 2 s z i w (a+1) 0=(inS data 2 s z i w a 0).set i (max ((inS data 2 s z i w a 0).getD i 0) (grd data s z a)):=(if_neg he).trans (if_pos (show (a:Int)%2=((0:Nat):Int) from g))
      have u1:inS data 2 s z i w (a+1) 1=inS data 2 s z i w a 1:=(if_neg he).trans (if_neg (by rw[g];decide))
      (conv=>whnf)
      (try simp only[jh9])
      repeat ((first|refine V.s1 ?_|((try ((with_reducible refine .ext ?_);(conv=>whnf);(try simp only[jh9])));(with_reducible refine jaa (r:=?_) ?_ ?_);rotate_left;(focus (first|fail));(conv=>whnf))|((simp only[g]);(conv=>whnf)));(try simp only[jh9]))
      refine⟨a+1,by omega,by omega,?_⟩
      simp only[u0,u1]
      exact V.wk
     ·have u1:inS data 2 s z i w (a+1) 1=(inS data 2 s z i w a 1).set i (max ((inS data 2 s z i w a 1).getD i 0) (grd data s z a)):=(if_neg he).trans (if_pos (show (a:Int)%2=((1:Nat):Int) from g))
      have u0:inS data 2 s z i w (a+1) 0=inS data 2 s z i w a 0:=(if_neg he).trans (if_neg (by rw[g];decide))
      (conv=>whnf)
      (try simp only[jh9])
      repeat ((first|refine V.s1 ?_|((try ((with_reducible refine .ext ?_);(conv=>whnf);(try simp only[jh9])));(with_reducible refine jaa (r:=?_) ?_ ?_);rotate_left;(focus (first|fail));(conv=>whnf))|((simp only[g]);(conv=>whnf)));(try simp only[jh9]))
      refine⟨a+1,by omega,by omega,?_⟩
      simp only[u0,u1]
      exact V.wk
   ·have hx2:=of_decide_eq_false c
    obtain rfl:a=data.length:=by omega
    have hsz0:=Int.mul_le_mul sm zb.2 (by omega) (by decide)
    have hsz1:=jiz (show 0≤s by omega) (show 0≤z by omega)
    have hsz:InR .i64 (s*z):=⟨ji2 (by decide) hsz1,ji2 hsz0 (by decide)⟩
    refine V.r0 jh9 ?_
    refine⟨(k+1,(i:Int)-1,s*z,inS data 2 s z i w data.length),⟨by show k+1≤zs.length;omega,by show (i:Int)-1=(zs.length:Int)-1-((k+1:Nat):Int);omega,?_,?_⟩,by show zs.length-(k+1)<zs.length-k;omega,?_⟩
    ·show s*z=strd zs 2 k*zs.getD (zs.length-1-k) 0
     rw[hs,← hz,hi]
    ·show _=inS data 2 (strd zs 2 k) (zs.getD (zs.length-1-k) 0) (zs.length-1-k) (outS zs data 2 k) data.length
     rw[← hs,← hw,← hi,hz]
    ·dsimp only
     exact V.wk
  ·have hx:=of_decide_eq_false h
   have hkn:k=zs.length:=by omega
   have hwT:w=T:=by rw[hw,hkn,hT]
   subst hwT
   refine V.r0 @jiA ?_
   refine⟨(),trivial,?_⟩
   have t0:(w 0).take zs.length=w 0:=jjj (Nat.le_of_eq (wo 0).1)
   refine Wk.pub 200 ?_
   (conv=>whnf)
   simp only[t0]
   have t1:(w 1).take zs.length=w 1:=jjj (Nat.le_of_eq (wo 1).1)
   refine Wk.pub 201 ?_
   (conv=>whnf)
   simp only[t1]
   refine Wk.pub 21 ?_
   (conv=>whnf)
   simp only[jiA]
   exact V.wk
def stB3 (n:Nat):Nat→Hp
 | 0=>[(21,.box [.nil,.nil,.nil])]
 | 1=>[(21,.box [.osl 200 0 n,.nil,.nil]),(200,.arr .i64 (List.replicate n 0))]
 | 2=>[(21,.box [.osl 200 0 n,.osl 201 0 n,.nil]),(200,.arr .i64 (List.replicate n 0)),(201,.arr .i64 (List.replicate n 0))]
 | _=>[(21,.box [.osl 200 0 n,.osl 201 0 n,.osl 202 0 n]),(200,.arr .i64 (List.replicate n 0)),(201,.arr .i64 (List.replicate n 0)),(202,.arr .i64 (List.replicate n 0))]
theorem jf4 (zs data:List Int)(T:Nat→List Int)(hg:jaj zs 3 data=true)(hl:zs.length≤4)(hT:outS zs data 3 zs.length=T):Cl 32 [.agg [.ints .i64 zs,.int .i64 3,.ints .i64 data]] (.tup [.slf 1 3 (fun j=>List.take 1 (List.drop (j*1) [.ints .i64 (T 0),.ints .i64 (T 1),.ints .i64 (T 2)])),.int .i64 0]):=by
 have ck:Cl 37 [.agg [.ints .i64 zs,.int .i64 3,.ints .i64 data]] (.int .i64 0):=jbO hg hl
 have og:=jap hg
 refine V.en tbOk Tryz.func32 ?_
 refine V.r1 jh9 ck ?_
 refine jac 0 (fun k=>k≤3) (fun k=>3-k) (fun k=>[(24,.int .i64 k)]) (fun k=>stB3 zs.length k) ?_ ?_ ?_
 ·simp only[stB3]
  exact V.wk
 ·exact jiv _
 intro k hk
 have hk4:k=0∨k=1∨k=2∨k=3:=by omega
 rcases hk4 with e|e|e|e
 all_goals subst e
 ·simp only[k0,stB3]
  refine V.r0 jh9 ?_
  refine⟨1,by omega,by omega,?_⟩
  simp only[stB3]
  refine Wk.renBox 32 200 21 0 zs.length (by decide) (by decide) (by decide) rfl rfl rfl ?_
  exact V.wk
 ·simp only[k1,stB3]
  refine V.r0 jh9 ?_
  refine⟨2,by omega,by omega,?_⟩
  simp only[stB3]
  refine Wk.renBox 32 201 21 1 zs.length (by decide) (by decide) (by decide) rfl rfl rfl ?_
  exact V.wk
 ·simp only[k2,stB3]
  refine V.r0 jh9 ?_
  refine⟨3,by omega,by omega,?_⟩
  simp only[stB3]
  refine Wk.renBox 32 202 21 2 zs.length (by decide) (by decide) (by decide) rfl rfl rfl ?_
  exact V.wk
 ·simp only[k3,stB3]
  refine V.r0 jh9 ?_
  refine jcE (β:=Unit) 2 (fun _=>True) (fun _=>[(5,.slf 1 3 (fun j=>List.take 1 (List.drop (j*1) [.ints .i64 (T 0),.ints .i64 (T 1),.ints .i64 (T 2)]))),(7,.any),(8,.any),(21,.any),(22,.any)]) (fun _=>[(21,.gone),(200,.gone),(201,.gone),(202,.gone)]) ?_ ?_
  rotate_left
  ·intro _ _
   refine V.r0 @jiA ?_
   exact Fin.of rfl
  refine jac ((0,(zs.length:Int)-1,3,outS zs data 3 0):Nat×Int×Int×(Nat→List Int)) (fun y=>y.1≤zs.length∧y.2.1=(zs.length:Int)-1-y.1∧y.2.2.1=strd zs 3 y.1∧y.2.2.2=outS zs data 3 y.1) (fun y=>zs.length-y.1) (fun y=>[(8,.int .i64 y.2.1),(7,.int .i64 y.2.2.1)]) (fun y=>[(200,.arr .i64 (y.2.2.2 0)),(201,.arr .i64 (y.2.2.2 1)),(202,.arr .i64 (y.2.2.2 2))]) ?_ ?_ ?_
  ·exact V.wk
  ·exact⟨jiv _,(by show (zs.length:Int)-1=(zs.length:Int)-1-((0:Nat):Int);omega),rfl,rfl⟩
  rintro⟨k,x8,s,w⟩ ⟨hk,h8,hs,hw⟩
  dsimp only at hk h8 hs hw ⊢
  have wo:∀ r,rowOk zs.length (w r):=fun r=>by rw[hw];exact jbb og.2.2.2 og.2.1 k hk r
  refine V.r0 jh9 ?_
  refine V.br (fun h=>?_) (fun h=>?_)
  ·have hx:=of_decide_eq_true h
   obtain⟨i,rfl⟩:∃ i:Nat,x8=i:=⟨x8.toNat,by omega⟩
   have hi:i=zs.length-1-k:=by omega
   obtain⟨z,hz⟩:∃ z,zs.getD i 0=z:=⟨_,rfl⟩
   have zb:2≤z∧z≤9:=by rw[← hz];exact jbi og.2.1 (by omega)
   have sp:=jdd og.1 og.2.1 k hk
   refine V.r0 (V.a2 jh9 hz) ?_
   have s0:0<s:=by rw[hs];exact sp.1
   have pp:=jcw (zs:=zs) (out:=3) (k+1) (by omega)
   have hlen:(data.length:Int)=prod (zs.take (zs.length-(k+1)))*(s*z):=by rw[og.2.2.1.2,pp,hs,← hz,hi];rfl
   have sm:s≤26244:=by
    have:=pow9 k (by omega)
    omega
   have io:=jfJ (out:=3) (s:=s) (z:=z) (i:=i) og.2.2.2 zb wo
   refine jac (0:Nat) (fun a=>a≤data.length) (fun a=>data.length-a) (fun a=>[(53,.int .i64 (a:Nat))]) (fun a=>[(200,.arr .i64 (inS data 3 s z i w a 0)),(201,.arr .i64 (inS data 3 s z i w a 1)),(202,.arr .i64 (inS data 3 s z i w a 2))]) ?_ ?_ ?_
   ·exact V.wk
   ·exact jiv _
   intro a ha
   have b0:=jaO (p:=fun v=>0≤v∧v≤65535) og.2.2.2 (by omega) a
   have r0:=io a 0
   have q0:=r0.2 i
   have l0:=r0.1
   have r1:=io a 1
   have q1:=r1.2 i
   have l1:=r1.1
   have r2:=io a 2
   have q2:=r2.2 i
   have l2:=r2.1
   refine V.r0 jh9 ?_
   refine V.br (fun c=>?_) (fun c=>?_)
   ·have hx2:=of_decide_eq_true c
    have hq:0≤(a:Int)/s:=jiw (by omega) (by omega)
    refine V.r0 jh9 ?_
    refine V.br (fun f=>?_) (fun f=>?_)
    ·have he:=of_decide_eq_true f
     have e0:inS data 3 s z i w (a+1) 0=inS data 3 s z i w a 0:=if_pos he
     have e1:inS data 3 s z i w (a+1) 1=inS data 3 s z i w a 1:=if_pos he
     have e2:inS data 3 s z i w (a+1) 2=inS data 3 s z i w a 2:=if_pos he
     refine V.r0 jh9 ?_
     refine⟨a+1,by omega,by omega,?_⟩
     simp only[e0,e1,e2]
     exact V.wk
    ·have he:=of_decide_eq_false f
     have hin:=stp_in s0 (by omega) hlen hx2 he
     have b1:=jaO (p:=fun v=>0≤v∧v≤65535) og.2.2.2 (by omega) ((a:Int)+s).toNat
     have gb:=jg1 (s:=s) (a:=a) og.2.2.2 zb
     unfold grd at gb
     have hm:InR .i64 ((z-1)*max (data.getD ((a:Int)+s).toNat 0-data.getD a 0) (data.getD a 0-data.getD ((a:Int)+s).toNat 0)):=⟨ji2 (by decide) gb.1,ji2 gb.2 (by decide)⟩
     have hr:(a:Int)%3=0∨(a:Int)%3=1∨(a:Int)%3=2:=by omega
     rcases hr with g|g|g
     ·have u0:inS data 3 s z i w (a+1) 0=(inS data 3 s z i w a 0).set i (max ((inS data 3 s z i w a 0).getD i 0) (grd data s z a)):=(if_neg he).trans (if_pos (show (a:Int)%3=((0:Nat):Int) from g))
      have u1:inS data 3 s z i w (a+1) 1=inS data 3 s z i w a 1:=(if_neg he).trans (if_neg (by rw[g];decide))
      have u2:inS data 3 s z i w (a+1) 2=inS data 3 s z i w a 2:=(if_neg he).trans (if_neg (by rw[g];decide))
      (conv=>whnf)
      (try simp only[jh9])
      repeat ((first|refine V.s1 ?_|((try ((with_reducible refine .ext ?_);(conv=>whnf);(try simp only[jh9])));(with_reducible refine jaa (r:=?_) ?_ ?_);rotate_left;(focus (first|fail));(conv=>whnf))|((simp only[g]);(conv=>whnf)));(try simp only[jh9]))
      refine⟨a+1,by omega,by omega,?_⟩
      simp only[u0,u1,u2]
      exact V.wk
     ·have u1:inS data 3 s z i w (a+1) 1=(inS data 3 s z i w a 1).set i (max ((inS data 3 s z i w a 1).getD i 0) (grd data s z a)):=(if_neg he).trans (if_pos (show (a:Int)%3=((1:Nat):Int) from g))
      have u0:inS data 3 s z i w (a+1) 0=inS data 3 s z i w a 0:=(if_neg he).trans (if_neg (by rw[g];decide))
      have u2:inS data 3 s z i w (a+1) 2=inS data 3 s z i w a 2:=(if_neg he).trans (if_neg (by rw[g];decide))
      (conv=>whnf)
      (try simp only[jh9])
      repeat ((first|refine V.s1 ?_|((try ((with_reducible refine .ext ?_);(conv=>whnf);(try simp only[jh9])));(with_reducible refine jaa (r:=?_) ?_ ?_);rotate_left;(focus (first|fail));(conv=>whnf))|((simp only[g]);(conv=>whnf)));(try simp only[jh9]))
      refine⟨a+1,by omega,by omega,?_⟩
      simp only[u0,u1,u2]
      exact V.wk
     ·have u2:inS data 3 s z i w (a+1) 2=(inS data 3 s z i w a 2).set i (max ((inS data 3 s z i w a 2).getD i 0) (grd data s z a)):=(if_neg he).trans (if_pos (show (a:Int)%3=((2:Nat):Int) from g))
      have u0:inS data 3 s z i w (a+1) 0=inS data 3 s z i w a 0:=(if_neg he).trans (if_neg (by rw[g];decide))
      have u1:inS data 3 s z i w (a+1) 1=inS data 3 s z i w a 1:=(if_neg he).trans (if_neg (by rw[g];decide))
      (conv=>whnf)
      (try simp only[jh9])
      repeat ((first|refine V.s1 ?_|((try ((with_reducible refine .ext ?_);(conv=>whnf);(try simp only[jh9])));(with_reducible refine jaa (r:=?_) ?_ ?_);rotate_left;(focus (first|fail));(conv=>whnf))|((simp only[g]);(conv=>whnf)));(try simp only[jh9]))
      refine⟨a+1,by omega,by omega,?_⟩
      simp only[u0,u1,u2]
      exact V.wk
   ·have hx2:=of_decide_eq_false c
    obtain rfl:a=data.length:=by omega
    have hsz0:=Int.mul_le_mul sm zb.2 (by omega) (by decide)
    have hsz1:=jiz (show 0≤s by omega) (show 0≤z by omega)
    have hsz:InR .i64 (s*z):=⟨ji2 (by decide) hsz1,ji2 hsz0 (by decide)⟩
    refine V.r0 jh9 ?_
    refine⟨(k+1,(i:Int)-1,s*z,inS data 3 s z i w data.length),⟨by show k+1≤zs.length;omega,by show (i:Int)-1=(zs.length:Int)-1-((k+1:Nat):Int);omega,?_,?_⟩,by show zs.length-(k+1)<zs.length-k;omega,?_⟩
    ·show s*z=strd zs 3 k*zs.getD (zs.length-1-k) 0
     rw[hs,← hz,hi]
    ·show _=inS data 3 (strd zs 3 k) (zs.getD (zs.length-1-k) 0) (zs.length-1-k) (outS zs data 3 k) data.length
     rw[← hs,← hw,← hi,hz]
    ·dsimp only
     exact V.wk
  ·have hx:=of_decide_eq_false h
   have hkn:k=zs.length:=by omega
   have hwT:w=T:=by rw[hw,hkn,hT]
   subst hwT
   refine V.r0 @jiA ?_
   refine⟨(),trivial,?_⟩
   have t0:(w 0).take zs.length=w 0:=jjj (Nat.le_of_eq (wo 0).1)
   refine Wk.pub 200 ?_
   (conv=>whnf)
   simp only[t0]
   have t1:(w 1).take zs.length=w 1:=jjj (Nat.le_of_eq (wo 1).1)
   refine Wk.pub 201 ?_
   (conv=>whnf)
   simp only[t1]
   have t2:(w 2).take zs.length=w 2:=jjj (Nat.le_of_eq (wo 2).1)
   refine Wk.pub 202 ?_
   (conv=>whnf)
   simp only[t2]
   refine Wk.pub 21 ?_
   (conv=>whnf)
   simp only[jiA]
   exact V.wk
def stB4 (n:Nat):Nat→Hp
 | 0=>[(21,.box [.nil,.nil,.nil,.nil])]
 | 1=>[(21,.box [.osl 200 0 n,.nil,.nil,.nil]),(200,.arr .i64 (List.replicate n 0))]
 | 2=>[(21,.box [.osl 200 0 n,.osl 201 0 n,.nil,.nil]),(200,.arr .i64 (List.replicate n 0)),(201,.arr .i64 (List.replicate n 0))]
 | 3=>[(21,.box [.osl 200 0 n,.osl 201 0 n,.osl 202 0 n,.nil]),(200,.arr .i64 (List.replicate n 0)),(201,.arr .i64 (List.replicate n 0)),(202,.arr .i64 (List.replicate n 0))]
 | _=>[(21,.box [.osl 200 0 n,.osl 201 0 n,.osl 202 0 n,.osl 203 0 n]),(200,.arr .i64 (List.replicate n 0)),(201,.arr .i64 (List.replicate n 0)),(202,.arr .i64 (List.replicate n 0)),(203,.arr .i64 (List.replicate n 0))]
theorem jf3 (zs data:List Int)(T:Nat→List Int)(hg:jaj zs 4 data=true)(hl:zs.length≤4)(hT:outS zs data 4 zs.length=T):Cl 32 [.agg [.ints .i64 zs,.int .i64 4,.ints .i64 data]] (.tup [.slf 1 4 (fun j=>List.take 1 (List.drop (j*1) [.ints .i64 (T 0),.ints .i64 (T 1),.ints .i64 (T 2),.ints .i64 (T 3)])),.int .i64 0]):=by
 have ck:Cl 37 [.agg [.ints .i64 zs,.int .i64 4,.ints .i64 data]] (.int .i64 0):=jbO hg hl
 have og:=jap hg
 refine V.en tbOk Tryz.func32 ?_
 refine V.r1 jh9 ck ?_
 refine jac 0 (fun k=>k≤4) (fun k=>4-k) (fun k=>[(24,.int .i64 k)]) (fun k=>stB4 zs.length k) ?_ ?_ ?_
 ·simp only[stB4]
  exact V.wk
 ·exact jiv _
 intro k hk
 have hk4:k=0∨k=1∨k=2∨k=3∨k=4:=by omega
 rcases hk4 with e|e|e|e|e
 all_goals subst e
 ·simp only[k0,stB4]
  refine V.r0 jh9 ?_
  refine⟨1,by omega,by omega,?_⟩
  simp only[stB4]
  refine Wk.renBox 32 200 21 0 zs.length (by decide) (by decide) (by decide) rfl rfl rfl ?_
  exact V.wk
 ·simp only[k1,stB4]
  refine V.r0 jh9 ?_
  refine⟨2,by omega,by omega,?_⟩
  simp only[stB4]
  refine Wk.renBox 32 201 21 1 zs.length (by decide) (by decide) (by decide) rfl rfl rfl ?_
  exact V.wk
 ·simp only[k2,stB4]
  refine V.r0 jh9 ?_
  refine⟨3,by omega,by omega,?_⟩
  simp only[stB4]
  refine Wk.renBox 32 202 21 2 zs.length (by decide) (by decide) (by decide) rfl rfl rfl ?_
  exact V.wk
 ·simp only[k3,stB4]
  refine V.r0 jh9 ?_
  refine⟨4,by omega,by omega,?_⟩
  simp only[stB4]
  refine Wk.renBox 32 203 21 3 zs.length (by decide) (by decide) (by decide) rfl rfl rfl ?_
  exact V.wk
 ·simp only[xk4,stB4]
  refine V.r0 jh9 ?_
  refine jcE (β:=Unit) 2 (fun _=>True) (fun _=>[(5,.slf 1 4 (fun j=>List.take 1 (List.drop (j*1) [.ints .i64 (T 0),.ints .i64 (T 1),.ints .i64 (T 2),.ints .i64 (T 3)]))),(7,.any),(8,.any),(21,.any),(22,.any)]) (fun _=>[(21,.gone),(200,.gone),(201,.gone),(202,.gone),(203,.gone)]) ?_ ?_
  rotate_left
  ·intro _ _
   refine V.r0 @jiA ?_
   exact Fin.of rfl
  refine jac ((0,(zs.length:Int)-1,4,outS zs data 4 0):Nat×Int×Int×(Nat→List Int)) (fun y=>y.1≤zs.length∧y.2.1=(zs.length:Int)-1-y.1∧y.2.2.1=strd zs 4 y.1∧y.2.2.2=outS zs data 4 y.1) (fun y=>zs.length-y.1) (fun y=>[(8,.int .i64 y.2.1),(7,.int .i64 y.2.2.1)]) (fun y=>[(200,.arr .i64 (y.2.2.2 0)),(201,.arr .i64 (y.2.2.2 1)),(202,.arr .i64 (y.2.2.2 2)),(203,.arr .i64 (y.2.2.2 3))]) ?_ ?_ ?_
  ·exact V.wk
  ·exact⟨jiv _,(by show (zs.length:Int)-1=(zs.length:Int)-1-((0:Nat):Int);omega),rfl,rfl⟩
  rintro⟨k,x8,s,w⟩ ⟨hk,h8,hs,hw⟩
  dsimp only at hk h8 hs hw ⊢
  have wo:∀ r,rowOk zs.length (w r):=fun r=>by rw[hw];exact jbb og.2.2.2 og.2.1 k hk r
  refine V.r0 jh9 ?_
  refine V.br (fun h=>?_) (fun h=>?_)
  ·have hx:=of_decide_eq_true h
   obtain⟨i,rfl⟩:∃ i:Nat,x8=i:=⟨x8.toNat,by omega⟩
   have hi:i=zs.length-1-k:=by omega
   obtain⟨z,hz⟩:∃ z,zs.getD i 0=z:=⟨_,rfl⟩
   have zb:2≤z∧z≤9:=by rw[← hz];exact jbi og.2.1 (by omega)
   have sp:=jdd og.1 og.2.1 k hk
   refine V.r0 (V.a2 jh9 hz) ?_
   have s0:0<s:=by rw[hs];exact sp.1
   have pp:=jcw (zs:=zs) (out:=4) (k+1) (by omega)
   have hlen:(data.length:Int)=prod (zs.take (zs.length-(k+1)))*(s*z):=by rw[og.2.2.1.2,pp,hs,← hz,hi];rfl
   have sm:s≤26244:=by
    have:=pow9 k (by omega)
    omega
   have io:=jfJ (out:=4) (s:=s) (z:=z) (i:=i) og.2.2.2 zb wo
   refine jac (0:Nat) (fun a=>a≤data.length) (fun a=>data.length-a) (fun a=>[(53,.int .i64 (a:Nat))]) (fun a=>[(200,.arr .i64 (inS data 4 s z i w a 0)),(201,.arr .i64 (inS data 4 s z i w a 1)),(202,.arr .i64 (inS data 4 s z i w a 2)),(203,.arr .i64 (inS data 4 s z i w a 3))]) ?_ ?_ ?_
   ·exact V.wk
   ·exact jiv _
   intro a ha
   have b0:=jaO (p:=fun v=>0≤v∧v≤65535) og.2.2.2 (by omega) a
   have r0:=io a 0
   have q0:=r0.2 i
   have l0:=r0.1
   have r1:=io a 1
   have q1:=r1.2 i
   have l1:=r1.1
   have r2:=io a 2
   have q2:=r2.2 i
   have l2:=r2.1
   have r3:=io a 3
   have q3:=r3.2 i
   have l3:=r3.1
   refine V.r0 jh9 ?_
   refine V.br (fun c=>?_) (fun c=>?_)
   ·have hx2:=of_decide_eq_true c
    have hq:0≤(a:Int)/s:=jiw (by omega) (by omega)
    refine V.r0 jh9 ?_
    refine V.br (fun f=>?_) (fun f=>?_)
    ·have he:=of_decide_eq_true f
     have e0:inS data 4 s z i w (a+1) 0=inS data 4 s z i w a 0:=if_pos he
     have e1:inS data 4 s z i w (a+1) 1=inS data 4 s z i w a 1:=if_pos he
     have e2:inS data 4 s z i w (a+1) 2=inS data 4 s z i w a 2:=if_pos he
     have e3:inS data 4 s z i w (a+1) 3=inS data 4 s z i w a 3:=if_pos he
     refine V.r0 jh9 ?_
     refine⟨a+1,by omega,by omega,?_⟩
     simp only[e0,e1,e2,e3]
     exact V.wk
    ·have he:=of_decide_eq_false f
     have hin:=stp_in s0 (by omega) hlen hx2 he
     have b1:=jaO (p:=fun v=>0≤v∧v≤65535) og.2.2.2 (by omega) ((a:Int)+s).toNat
     have gb:=jg1 (s:=s) (a:=a) og.2.2.2 zb
     unfold grd at gb
     have hm:InR .i64 ((z-1)*max (data.getD ((a:Int)+s).toNat 0-data.getD a 0) (data.getD a 0-data.getD ((a:Int)+s).toNat 0)):=⟨ji2 (by decide) gb.1,ji2 gb.2 (by decide)⟩
     have hr:(a:Int)%4=0∨(a:Int)%4=1∨(a:Int)%4=2∨(a:Int)%4=3:=by omega
     rcases hr with g|g|g|g
     ·have u0:inS data 4 s z i w (a+1) 0=(inS data 4 s z i w a 0).set i (max ((inS data 4 s z i w a 0).getD i 0) (grd data s z a)):=(if_neg he).trans (if_pos (show (a:Int)%4=((0:Nat):Int) from g))
      have u1:inS data 4 s z i w (a+1) 1=inS data 4 s z i w a 1:=(if_neg he).trans (if_neg (by rw[g];decide))
      have u2:inS data 4 s z i w (a+1) 2=inS data 4 s z i w a 2:=(if_neg he).trans (if_neg (by rw[g];decide))
      have u3:inS data 4 s z i w (a+1) 3=inS data 4 s z i w a 3:=(if_neg he).trans (if_neg (by rw[g];decide))
      (conv=>whnf)
      (try simp only[jh9])
      repeat ((first|refine V.s1 ?_|((try ((with_reducible refine .ext ?_);(conv=>whnf);(try simp only[jh9])));(with_reducible refine jaa (r:=?_) ?_ ?_);rotate_left;(focus (first|fail));(conv=>whnf))|((simp only[g]);(conv=>whnf)));(try simp only[jh9]))
      refine⟨a+1,by omega,by omega,?_⟩
      simp only[u0,u1,u2,u3]
      exact V.wk
     ·have u1:inS data 4 s z i w (a+1) 1=(inS data 4 s z i w a 1).set i (max ((inS data 4 s z i w a 1).getD i 0) (grd data s z a)):=(if_neg he).trans (if_pos (show (a:Int)%4=((1:Nat):Int) from g))
      have u0:inS data 4 s z i w (a+1) 0=inS data 4 s z i w a 0:=(if_neg he).trans (if_neg (by rw[g];decide))
      have u2:inS data 4 s z i w (a+1) 2=inS data 4 s z i w a 2:=(if_neg he).trans (if_neg (by rw[g];decide))
      have u3:inS data 4 s z i w (a+1) 3=inS data 4 s z i w a 3:=(if_neg he).trans (if_neg (by rw[g];decide))
      (conv=>whnf)
      (try simp only[jh9])
      repeat ((first|refine V.s1 ?_|((try ((with_reducible refine .ext ?_);(conv=>whnf);(try simp only[jh9])));(with_reducible refine jaa (r:=?_) ?_ ?_);rotate_left;(focus (first|fail));(conv=>whnf))|((simp only[g]);(conv=>whnf)));(try simp only[jh9]))
      refine⟨a+1,by omega,by omega,?_⟩
      simp only[u0,u1,u2,u3]
      exact V.wk
     ·have u2:inS data 4 s z i w (a+1) 2=(inS data 4 s z i w a 2).set i (max ((inS data 4 s z i w a 2).getD i 0) (grd data s z a)):=(if_neg he).trans (if_pos (show (a:Int)%4=((2:Nat):Int) from g))
      have u0:inS data 4 s z i w (a+1) 0=inS data 4 s z i w a 0:=(if_neg he).trans (if_neg (by rw[g];decide))
      have u1:inS data 4 s z i w (a+1) 1=inS data 4 s z i w a 1:=(if_neg he).trans (if_neg (by rw[g];decide))
      have u3:inS data 4 s z i w (a+1) 3=inS data 4 s z i w a 3:=(if_neg he).trans (if_neg (by rw[g];decide))
      (conv=>whnf)
      (try simp only[jh9])
      repeat ((first|refine V.s1 ?_|((try ((with_reducible refine .ext ?_);(conv=>whnf);(try simp only[jh9])));(with_reducible refine jaa (r:=?_) ?_ ?_);rotate_left;(focus (first|fail));(conv=>whnf))|((simp only[g]);(conv=>whnf)));(try simp only[jh9]))
      refine⟨a+1,by omega,by omega,?_⟩
      simp only[u0,u1,u2,u3]
      exact V.wk
     ·have u3:inS data 4 s z i w (a+1) 3=(inS data 4 s z i w a 3).set i (max ((inS data 4 s z i w a 3).getD i 0) (grd data s z a)):=(if_neg he).trans (if_pos (show (a:Int)%4=((3:Nat):Int) from g))
      have u0:inS data 4 s z i w (a+1) 0=inS data 4 s z i w a 0:=(if_neg he).trans (if_neg (by rw[g];decide))
      have u1:inS data 4 s z i w (a+1) 1=inS data 4 s z i w a 1:=(if_neg he).trans (if_neg (by rw[g];decide))
      have u2:inS data 4 s z i w (a+1) 2=inS data 4 s z i w a 2:=(if_neg he).trans (if_neg (by rw[g];decide))
      (conv=>whnf)
      (try simp only[jh9])
      repeat ((first|refine V.s1 ?_|((try ((with_reducible refine .ext ?_);(conv=>whnf);(try simp only[jh9])));(with_reducible refine jaa (r:=?_) ?_ ?_);rotate_left;(focus (first|fail));(conv=>whnf))|((simp only[g]);(conv=>whnf)));(try simp only[jh9]))
      refine⟨a+1,by omega,by omega,?_⟩
      simp only[u0,u1,u2,u3]
      exact V.wk
   ·have hx2:=of_decide_eq_false c
    obtain rfl:a=data.length:=by omega
    have hsz0:=Int.mul_le_mul sm zb.2 (by omega) (by decide)
    have hsz1:=jiz (show 0≤s by omega) (show 0≤z by omega)
    have hsz:InR .i64 (s*z):=⟨ji2 (by decide) hsz1,ji2 hsz0 (by decide)⟩
    refine V.r0 jh9 ?_
    refine⟨(k+1,(i:Int)-1,s*z,inS data 4 s z i w data.length),⟨by show k+1≤zs.length;omega,by show (i:Int)-1=(zs.length:Int)-1-((k+1:Nat):Int);omega,?_,?_⟩,by show zs.length-(k+1)<zs.length-k;omega,?_⟩
    ·show s*z=strd zs 4 k*zs.getD (zs.length-1-k) 0
     rw[hs,← hz,hi]
    ·show _=inS data 4 (strd zs 4 k) (zs.getD (zs.length-1-k) 0) (zs.length-1-k) (outS zs data 4 k) data.length
     rw[← hs,← hw,← hi,hz]
    ·dsimp only
     exact V.wk
  ·have hx:=of_decide_eq_false h
   have hkn:k=zs.length:=by omega
   have hwT:w=T:=by rw[hw,hkn,hT]
   subst hwT
   refine V.r0 @jiA ?_
   refine⟨(),trivial,?_⟩
   have t0:(w 0).take zs.length=w 0:=jjj (Nat.le_of_eq (wo 0).1)
   refine Wk.pub 200 ?_
   (conv=>whnf)
   simp only[t0]
   have t1:(w 1).take zs.length=w 1:=jjj (Nat.le_of_eq (wo 1).1)
   refine Wk.pub 201 ?_
   (conv=>whnf)
   simp only[t1]
   have t2:(w 2).take zs.length=w 2:=jjj (Nat.le_of_eq (wo 2).1)
   refine Wk.pub 202 ?_
   (conv=>whnf)
   simp only[t2]
   have t3:(w 3).take zs.length=w 3:=jjj (Nat.le_of_eq (wo 3).1)
   refine Wk.pub 203 ?_
   (conv=>whnf)
   simp only[t3]
   refine Wk.pub 21 ?_
   (conv=>whnf)
   simp only[jiA]
   exact V.wk
theorem jh7:type_of% @jiA∧type_of% @tn0∧type_of% @tn1∧type_of% @tn2∧type_of% @tn3∧type_of% @xt4:=⟨@jiA,@tn0,@tn1,@tn2,@tn3,@xt4⟩
theorem list1_i {F e1 n1:Nat}{f1:Nat→List D}{g0:List Int}(T:Nat→Tx)(c0:Cl F (.int .i64 0::[.ref [.ints .i64 g0],.ref [.slf e1 n1 f1]]) (.tup [.agg [.str (T 0).1,.str (T 0).2],.int .i64 0])) :
  Cl 82 [.int .i64 1,.fn F [] [.ref [.ints .i64 g0],.ref [.slf e1 n1 f1]]] (.tup [V.sl2 1 [.str (T 0).1,.str (T 0).2],.int .i64 0]):=by
 refine V.en tbOk Tryz.func82 ?_
 refine V.r0 @jiA ?_
 refine jac (0) (fun k=>k≤1) (fun k=>1-k) (fun k=>[(14,.int .i64 k)]) (fun k=>[(11,.box (preD (2*k) [.str (T 0).1,.str (T 0).2]))]) ?_ ?_ ?_
 ·exact V.wk
 ·exact jiv _
 intro k hk
 have hk4:k=0∨k=1:=by omega
 rcases hk4 with e|e
 all_goals subst e
 ·simp only[k0]
  refine V.r1 jh7 c0 ?_
  exact⟨1,by omega,by omega,V.wk⟩
 ·simp only[k1]
  refine V.r0 @jiA ?_
  exact Fin.of rfl
theorem list2_i {F e1 n1:Nat}{f1:Nat→List D}{g0:List Int}(T:Nat→Tx)(c0:Cl F (.int .i64 0::[.ref [.ints .i64 g0],.ref [.slf e1 n1 f1]]) (.tup [.agg [.str (T 0).1,.str (T 0).2],.int .i64 0]))(c1:Cl F (.int .i64 1::[.ref [.ints .i64 g0],.ref [.slf e1 n1 f1]]) (.tup [.agg [.str (T 1).1,.str (T 1).2],.int .i64 0])) :
  Cl 82 [.int .i64 2,.fn F [] [.ref [.ints .i64 g0],.ref [.slf e1 n1 f1]]] (.tup [V.sl2 2 [.str (T 0).1,.str (T 0).2,.str (T 1).1,.str (T 1).2],.int .i64 0]):=by
 refine V.en tbOk Tryz.func82 ?_
 refine V.r0 @jiA ?_
 refine jac (0) (fun k=>k≤2) (fun k=>2-k) (fun k=>[(14,.int .i64 k)]) (fun k=>[(11,.box (preD (2*k) [.str (T 0).1,.str (T 0).2,.str (T 1).1,.str (T 1).2]))]) ?_ ?_ ?_
 ·exact V.wk
 ·exact jiv _
 intro k hk
 have hk4:k=0∨k=1∨k=2:=by omega
 rcases hk4 with e|e|e
 all_goals subst e
 ·simp only[k0]
  refine V.r1 jh7 c0 ?_
  exact⟨1,by omega,by omega,V.wk⟩
 ·simp only[k1]
  refine V.r1 jh7 c1 ?_
  exact⟨2,by omega,by omega,V.wk⟩
 ·simp only[k2]
  refine V.r0 @jiA ?_
  exact Fin.of rfl
theorem list3_i {F e1 n1:Nat}{f1:Nat→List D}{g0:List Int}(T:Nat→Tx)(c0:Cl F (.int .i64 0::[.ref [.ints .i64 g0],.ref [.slf e1 n1 f1]]) (.tup [.agg [.str (T 0).1,.str (T 0).2],.int .i64 0]))(c1:Cl F (.int .i64 1::[.ref [.ints .i64 g0],.ref [.slf e1 n1 f1]]) (.tup [.agg [.str (T 1).1,.str (T 1).2],.int .i64 0]))(c2:Cl F (.int .i64 2::[.ref [.ints .i64 g0],.ref [.slf e1 n1 f1]]) (.tup [.agg [.str (T 2).1,.str (T 2).2],.int .i64 0])) :
  Cl 82 [.int .i64 3,.fn F [] [.ref [.ints .i64 g0],.ref [.slf e1 n1 f1]]] (.tup [V.sl2 3 [.str (T 0).1,.str (T 0).2,.str (T 1).1,.str (T 1).2,.str (T 2).1,.str (T 2).2],.int .i64 0]):=by
 refine V.en tbOk Tryz.func82 ?_
 refine V.r0 @jiA ?_
 refine jac (0) (fun k=>k≤3) (fun k=>3-k) (fun k=>[(14,.int .i64 k)]) (fun k=>[(11,.box (preD (2*k) [.str (T 0).1,.str (T 0).2,.str (T 1).1,.str (T 1).2,.str (T 2).1,.str (T 2).2]))]) ?_ ?_ ?_
 ·exact V.wk
 ·exact jiv _
 intro k hk
 have hk4:k=0∨k=1∨k=2∨k=3:=by omega
 rcases hk4 with e|e|e|e
 all_goals subst e
 ·simp only[k0]
  refine V.r1 jh7 c0 ?_
  exact⟨1,by omega,by omega,V.wk⟩
 ·simp only[k1]
  refine V.r1 jh7 c1 ?_
  exact⟨2,by omega,by omega,V.wk⟩
 ·simp only[k2]
  refine V.r1 jh7 c2 ?_
  exact⟨3,by omega,by omega,V.wk⟩
 ·simp only[k3]
  refine V.r0 @jiA ?_
  exact Fin.of rfl
theorem sum1 (P:Nat→Tx):Cl 87 [V.sl2 1 [.str (P 0).1,.str (P 0).2]] (.tup [.agg [.str (P 0).1,.str (P 0).2],.int .i64 0]):=by
 refine V.en tbOk Tryz.func87 ?_
 refine V.r0 jh7 ?_
 refine jac (0) (fun k=>k=0) (fun k=>0-k) (fun k=>[(14,.int .i64 k)]) (fun k=>[(4,.box [.str (P 0).1,.str (P 0).2])]) ?_ ?_ ?_
 ·exact V.wk
 ·rfl
 intro k hk
 subst hk
 simp only[k0]
 refine V.r0 @jiA ?_
 exact Fin.of rfl
theorem spr1_10 (st:List Int)(H:Nat→Tx)(g0 g1 m0 m1:List UInt8)(hl:st.length=1)(ig:Cl 86 [.int .i64 (st.getD 0 0)] (.agg [.str g0,.str g1]))(mu:Cl 85 [.agg [.str g0,.str g1],.agg [.str (H 0).1,.str (H 0).2]] (.tup [.agg [.str m0,.str m1],.int .i64 0])) :
  Cl 98 [.int .i64 0,.ref [.ints .i64 st],.ref [V.sl2 1 [.str (H 0).1,.str (H 0).2]]] (.tup [.agg [.str m0,.str m1],.int .i64 0]):=by
 refine V.en tbOk Tryz.func98 ?_
 refine V.r0 jh7 ?_
 refine⟨Pq37z,[],V.pok,?_⟩
 refine jab [(5,.int .i64 0)] [(4,.box [.str m0,.str m1])] ?_ ?_
 ·exact V.d2 jh7 ig mu
 refine V.r0 @jiA ?_
 exact Fin.of rfl
theorem spr_1 (st:List Int)(H M:Nat→Tx)(u0 u1 f0 f1 y0 y1:List UInt8)(hl:st.length=1)(li:Cl 82 [.int .i64 1,.fn 98 [] [.ref [.ints .i64 st],.ref [V.sl2 1 [.str (H 0).1,.str (H 0).2]]]] (.tup [V.sl2 1 [.str (M 0).1,.str (M 0).2],.int .i64 0]))
  (su:Cl 87 [V.sl2 1 [.str (M 0).1,.str (M 0).2]] (.tup [.agg [.str u0,.str u1],.int .i64 0])) (fu:Cl 86 [.int .i64 65535] (.agg [.str f0,.str f1])) (dv:Cl 88 [.agg [.str u0,.str u1],.agg [.str f0,.str f1]] (.tup [.agg [.str y0,.str y1],.int .i64 0])) :
  Cl 60 [.ints .i64 st,V.sl2 1 [.str (H 0).1,.str (H 0).2]] (.tup [.agg [.str y0,.str y1],.int .i64 0]):=by
 have hi:((st.length:Nat):Int)=1:=by rw[hl];rfl
 refine V.en tbOk Tryz.func60 ?_
 refine V.r2 (V.a2 @jiA @hi) li su ?_
 refine⟨Pq68z,[],V.pok,?_⟩
 refine jab [(5,.int .i64 0)] [(4,.box [.str y0,.str y1])] ?_ ?_
 ·exact V.d2 @jiA fu dv
 refine V.r0 @jiA ?_
 exact Fin.of rfl
theorem spr1_20 (st:List Int)(H:Nat→Tx)(g0 g1 m0 m1:List UInt8)(hl:st.length=2)(ig:Cl 86 [.int .i64 (st.getD 0 0)] (.agg [.str g0,.str g1]))(mu:Cl 85 [.agg [.str g0,.str g1],.agg [.str (H 0).1,.str (H 0).2]] (.tup [.agg [.str m0,.str m1],.int .i64 0])) :
  Cl 98 [.int .i64 0,.ref [.ints .i64 st],.ref [V.sl2 2 [.str (H 0).1,.str (H 0).2,.str (H 1).1,.str (H 1).2]]] (.tup [.agg [.str m0,.str m1],.int .i64 0]):=by
 refine V.en tbOk Tryz.func98 ?_
 refine V.r0 jh7 ?_
 refine⟨Pq37z,[],V.pok,?_⟩
 refine jab [(5,.int .i64 0)] [(4,.box [.str m0,.str m1])] ?_ ?_
 ·exact V.d2 jh7 ig mu
 refine V.r0 @jiA ?_
 exact Fin.of rfl
theorem spr1_21 (st:List Int)(H:Nat→Tx)(g0 g1 m0 m1:List UInt8)(hl:st.length=2)(ig:Cl 86 [.int .i64 (st.getD 1 0)] (.agg [.str g0,.str g1]))(mu:Cl 85 [.agg [.str g0,.str g1],.agg [.str (H 1).1,.str (H 1).2]] (.tup [.agg [.str m0,.str m1],.int .i64 0])) :
  Cl 98 [.int .i64 1,.ref [.ints .i64 st],.ref [V.sl2 2 [.str (H 0).1,.str (H 0).2,.str (H 1).1,.str (H 1).2]]] (.tup [.agg [.str m0,.str m1],.int .i64 0]):=by
 refine V.en tbOk Tryz.func98 ?_
 refine V.r0 jh7 ?_
 refine⟨Pq37z,[],V.pok,?_⟩
 refine jab [(5,.int .i64 0)] [(4,.box [.str m0,.str m1])] ?_ ?_
 ·exact V.d2 jh7 ig mu
 refine V.r0 @jiA ?_
 exact Fin.of rfl
theorem spr_2 (st:List Int)(H M:Nat→Tx)(u0 u1 f0 f1 y0 y1:List UInt8)(hl:st.length=2)(li:Cl 82 [.int .i64 2,.fn 98 [] [.ref [.ints .i64 st],.ref [V.sl2 2 [.str (H 0).1,.str (H 0).2,.str (H 1).1,.str (H 1).2]]]] (.tup [V.sl2 2 [.str (M 0).1,.str (M 0).2,.str (M 1).1,.str (M 1).2],.int .i64 0]))
  (su:Cl 87 [V.sl2 2 [.str (M 0).1,.str (M 0).2,.str (M 1).1,.str (M 1).2]] (.tup [.agg [.str u0,.str u1],.int .i64 0])) (fu:Cl 86 [.int .i64 65535] (.agg [.str f0,.str f1])) (dv:Cl 88 [.agg [.str u0,.str u1],.agg [.str f0,.str f1]] (.tup [.agg [.str y0,.str y1],.int .i64 0])) :
  Cl 60 [.ints .i64 st,V.sl2 2 [.str (H 0).1,.str (H 0).2,.str (H 1).1,.str (H 1).2]] (.tup [.agg [.str y0,.str y1],.int .i64 0]):=by
 have hi:((st.length:Nat):Int)=2:=by rw[hl];rfl
 refine V.en tbOk Tryz.func60 ?_
 refine V.r2 (V.a2 @jiA @hi) li su ?_
 refine⟨Pq68z,[],V.pok,?_⟩
 refine jab [(5,.int .i64 0)] [(4,.box [.str y0,.str y1])] ?_ ?_
 ·exact V.d2 @jiA fu dv
 refine V.r0 @jiA ?_
 exact Fin.of rfl
theorem spr1_30 (st:List Int)(H:Nat→Tx)(g0 g1 m0 m1:List UInt8)(hl:st.length=3)(ig:Cl 86 [.int .i64 (st.getD 0 0)] (.agg [.str g0,.str g1]))(mu:Cl 85 [.agg [.str g0,.str g1],.agg [.str (H 0).1,.str (H 0).2]] (.tup [.agg [.str m0,.str m1],.int .i64 0])) :
  Cl 98 [.int .i64 0,.ref [.ints .i64 st],.ref [V.sl2 3 [.str (H 0).1,.str (H 0).2,.str (H 1).1,.str (H 1).2,.str (H 2).1,.str (H 2).2]]] (.tup [.agg [.str m0,.str m1],.int .i64 0]):=by
 refine V.en tbOk Tryz.func98 ?_
 refine V.r0 jh7 ?_
 refine⟨Pq37z,[],V.pok,?_⟩
 refine jab [(5,.int .i64 0)] [(4,.box [.str m0,.str m1])] ?_ ?_
 ·exact V.d2 jh7 ig mu
 refine V.r0 @jiA ?_
 exact Fin.of rfl
theorem spr1_31 (st:List Int)(H:Nat→Tx)(g0 g1 m0 m1:List UInt8)(hl:st.length=3)(ig:Cl 86 [.int .i64 (st.getD 1 0)] (.agg [.str g0,.str g1]))(mu:Cl 85 [.agg [.str g0,.str g1],.agg [.str (H 1).1,.str (H 1).2]] (.tup [.agg [.str m0,.str m1],.int .i64 0])) :
  Cl 98 [.int .i64 1,.ref [.ints .i64 st],.ref [V.sl2 3 [.str (H 0).1,.str (H 0).2,.str (H 1).1,.str (H 1).2,.str (H 2).1,.str (H 2).2]]] (.tup [.agg [.str m0,.str m1],.int .i64 0]):=by
 refine V.en tbOk Tryz.func98 ?_
 refine V.r0 jh7 ?_
 refine⟨Pq37z,[],V.pok,?_⟩
 refine jab [(5,.int .i64 0)] [(4,.box [.str m0,.str m1])] ?_ ?_
 ·exact V.d2 jh7 ig mu
 refine V.r0 @jiA ?_
 exact Fin.of rfl
theorem spr1_32 (st:List Int)(H:Nat→Tx)(g0 g1 m0 m1:List UInt8)(hl:st.length=3)(ig:Cl 86 [.int .i64 (st.getD 2 0)] (.agg [.str g0,.str g1]))(mu:Cl 85 [.agg [.str g0,.str g1],.agg [.str (H 2).1,.str (H 2).2]] (.tup [.agg [.str m0,.str m1],.int .i64 0])) :
  Cl 98 [.int .i64 2,.ref [.ints .i64 st],.ref [V.sl2 3 [.str (H 0).1,.str (H 0).2,.str (H 1).1,.str (H 1).2,.str (H 2).1,.str (H 2).2]]] (.tup [.agg [.str m0,.str m1],.int .i64 0]):=by
 refine V.en tbOk Tryz.func98 ?_
 refine V.r0 jh7 ?_
 refine⟨Pq37z,[],V.pok,?_⟩
 refine jab [(5,.int .i64 0)] [(4,.box [.str m0,.str m1])] ?_ ?_
 ·exact V.d2 jh7 ig mu
 refine V.r0 @jiA ?_
 exact Fin.of rfl
theorem spr_3 (st:List Int)(H M:Nat→Tx)(u0 u1 f0 f1 y0 y1:List UInt8)(hl:st.length=3)(li:Cl 82 [.int .i64 3,.fn 98 [] [.ref [.ints .i64 st],.ref [V.sl2 3 [.str (H 0).1,.str (H 0).2,.str (H 1).1,.str (H 1).2,.str (H 2).1,.str (H 2).2]]]] (.tup [V.sl2 3 [.str (M 0).1,.str (M 0).2,.str (M 1).1,.str (M 1).2,.str (M 2).1,.str (M 2).2],.int .i64 0]))
  (su:Cl 87 [V.sl2 3 [.str (M 0).1,.str (M 0).2,.str (M 1).1,.str (M 1).2,.str (M 2).1,.str (M 2).2]] (.tup [.agg [.str u0,.str u1],.int .i64 0])) (fu:Cl 86 [.int .i64 65535] (.agg [.str f0,.str f1])) (dv:Cl 88 [.agg [.str u0,.str u1],.agg [.str f0,.str f1]] (.tup [.agg [.str y0,.str y1],.int .i64 0])) :
  Cl 60 [.ints .i64 st,V.sl2 3 [.str (H 0).1,.str (H 0).2,.str (H 1).1,.str (H 1).2,.str (H 2).1,.str (H 2).2]] (.tup [.agg [.str y0,.str y1],.int .i64 0]):=by
 have hi:((st.length:Nat):Int)=3:=by rw[hl];rfl
 refine V.en tbOk Tryz.func60 ?_
 refine V.r2 (V.a2 @jiA @hi) li su ?_
 refine⟨Pq68z,[],V.pok,?_⟩
 refine jab [(5,.int .i64 0)] [(4,.box [.str y0,.str y1])] ?_ ?_
 ·exact V.d2 @jiA fu dv
 refine V.r0 @jiA ?_
 exact Fin.of rfl
theorem confined_t (p0 p1 p2 p3 q0 q1 q2 q3 s0 s1 a0 a1:List UInt8)(T:Nat→Int×Int)(h o:Int×Int)(sb:Cl 99 [.agg [.str p0,.str q0],.agg [.str p1,.str q1]] (.tup [.agg [.str s0,.str s1],.int .i64 0]))(ad:Cl 100 [.agg [.str p0,.str q0],.agg [.str p1,.str q1]] (.tup [.agg [.str a0,.str a1],.int .i64 0]))
  (li:Cl 55 [.int .i64 4,.fn 101 [] [.ref [.str s0,.str s1],.ref [.str a0,.str a1],.ref [.str p2,.str q2],.ref [.str p3,.str q3]]] (.tup [V.sl2 4 [.int .i64 (T 0).1,.int .i64 (T 0).2,.int .i64 (T 1).1,.int .i64 (T 1).2,.int .i64 (T 2).1,.int .i64 (T 2).2,.int .i64 (T 3).1,.int .i64 (T 3).2],.int .i64 0]))
  (hu:Cl 103 [.agg [.int .i64 (T 0).1,.int .i64 (T 0).2],.agg [.int .i64 (T 1).1,.int .i64 (T 1).2]] (.tup [.agg [.int .i64 h.1,.int .i64 h.2],.int .i64 0])) (ob:Cl 104 [.int .i64 (max h.1 (T 2).1),.int .i64 (min h.2 (T 3).2)] (.tup [.agg [.int .i64 o.1,.int .i64 o.2],.int .i64 0])) :
  Cl 61 [.agg [.str p0,.str q0],.agg [.str p1,.str q1],.agg [.str p2,.str q2],.agg [.str p3,.str q3]] (.tup [.agg [.int .i64 o.1,.int .i64 o.2],.int .i64 0]):=by
 refine V.en tbOk Tryz.func61 ?_
 refine V.r3 jh7 sb ad li ?_
 refine⟨(V.tk [0,1,2,3,4,5] (.ev (.cons 6 [] (V.tk [7,8,9] (V.e1 10 [9,8,7] (V.e1 11 [9] (V.tk [12] .done)))) (.cons 10 [5,4,3,2,1,0] (V.e1 6 [] (V.tk [7,8,9] (V.e1 11 [9] (V.tk [12] .done)))) .nil)))),[],V.pok,?_⟩
 refine jab [(14,.box 14 0),(11,.int .i64 0)] [(14,.box [.int .i64 h.1,.int .i64 h.2])] ?_ ?_
 ·exact V.d1 jh7 hu
 refine V.r0 jh7 ?_
 refine⟨(V.tk [0,1,2,3,4,5,6,7,8,9,10,11,12,13] (V.e1 14 [] (V.tk [15,16] (V.e1 17 [] (V.tk [18] .done))))),[],V.pok,?_⟩
 refine jab [(9,.int .i64 0)] [(8,.box [.int .i64 o.1,.int .i64 o.2])] ?_ ?_
 ·exact V.d1 jh7 ob
 refine V.r0 @jiA ?_
 exact Fin.of rfl
theorem bands2_110 (T:Nat→List Int)(H Y:Nat→Tx)(lo hi:List Int)(d0 d1 l0 l1 h0 h1:List UInt8)(b:Int×Int)(hlo:lo.length=1)(hhi:hi.length=1)(sp:Cl 60 [.ints .i64 (T 0),V.sl2 1 [.str (H 0).1,.str (H 0).2]] (.tup [.agg [.str d0,.str d1],.int .i64 0]))(o1:Cl 58 [.int .i64 (lo.getD 0 0),.int .i64 65535] (.agg [.str l0,.str l1]))(o2:Cl 58 [.int .i64 (hi.getD 0 0),.int .i64 65535] (.agg [.str h0,.str h1]))
  (cf:Cl 61 [.agg [.str (Y 0).1,.str (Y 0).2],.agg [.str d0,.str d1],.agg [.str l0,.str l1],.agg [.str h0,.str h1]] (.tup [.agg [.int .i64 b.1,.int .i64 b.2],.int .i64 0])) :
  Cl 59 (.int .i64 0::[.ref [.slf 1 1 (fun j=>List.take 1 (List.drop (j*1) [.ints .i64 (T 0)]))],.ref [V.sl2 1 [.str (H 0).1,.str (H 0).2]],.ref [V.sl2 1 [.str (Y 0).1,.str (Y 0).2]],.ref [.ints .i64 lo],.ref [.ints .i64 hi]]) (.tup [.agg [.int .i64 b.1,.int .i64 b.2],.int .i64 0]):=by
 refine V.en tbOk Tryz.func59 ?_
 refine V.r0 jh7 ?_
 refine⟨Pq34z,[],V.pok,?_⟩
 refine jab [(9,.box 9 0),(10,.int .i64 0)] [(9,.box [.str d0,.str d1])] ?_ ?_
 ·exact V.d1 jh7 sp
 refine V.r0 jh7 ?_
 refine⟨Pq0z,[],V.pok,?_⟩
 refine jab [(8,.int .i64 0)] [(7,.box [.int .i64 b.1,.int .i64 b.2])] ?_ ?_
 ·exact V.d3 jh7 o1 o2 cf
 refine V.r0 @jiA ?_
 exact Fin.of rfl
theorem bands2_120 (T:Nat→List Int)(H Y:Nat→Tx)(lo hi:List Int)(d0 d1 l0 l1 h0 h1:List UInt8)(b:Int×Int)(hlo:lo.length=2)(hhi:hi.length=2)(sp:Cl 60 [.ints .i64 (T 0),V.sl2 1 [.str (H 0).1,.str (H 0).2]] (.tup [.agg [.str d0,.str d1],.int .i64 0]))(o1:Cl 58 [.int .i64 (lo.getD 0 0),.int .i64 65535] (.agg [.str l0,.str l1]))(o2:Cl 58 [.int .i64 (hi.getD 0 0),.int .i64 65535] (.agg [.str h0,.str h1]))
  (cf:Cl 61 [.agg [.str (Y 0).1,.str (Y 0).2],.agg [.str d0,.str d1],.agg [.str l0,.str l1],.agg [.str h0,.str h1]] (.tup [.agg [.int .i64 b.1,.int .i64 b.2],.int .i64 0])) :
  Cl 59 (.int .i64 0::[.ref [.slf 1 2 (fun j=>List.take 1 (List.drop (j*1) [.ints .i64 (T 0),.ints .i64 (T 1)]))],.ref [V.sl2 1 [.str (H 0).1,.str (H 0).2]],.ref [V.sl2 2 [.str (Y 0).1,.str (Y 0).2,.str (Y 1).1,.str (Y 1).2]],.ref [.ints .i64 lo],.ref [.ints .i64 hi]]) (.tup [.agg [.int .i64 b.1,.int .i64 b.2],.int .i64 0]):=by
 refine V.en tbOk Tryz.func59 ?_
 refine V.r0 jh7 ?_
 refine⟨Pq34z,[],V.pok,?_⟩
 refine jab [(9,.box 9 0),(10,.int .i64 0)] [(9,.box [.str d0,.str d1])] ?_ ?_
 ·exact V.d1 jh7 sp
 refine V.r0 jh7 ?_
 refine⟨Pq0z,[],V.pok,?_⟩
 refine jab [(8,.int .i64 0)] [(7,.box [.int .i64 b.1,.int .i64 b.2])] ?_ ?_
 ·exact V.d3 jh7 o1 o2 cf
 refine V.r0 @jiA ?_
 exact Fin.of rfl
theorem bands2_121 (T:Nat→List Int)(H Y:Nat→Tx)(lo hi:List Int)(d0 d1 l0 l1 h0 h1:List UInt8)(b:Int×Int)(hlo:lo.length=2)(hhi:hi.length=2)(sp:Cl 60 [.ints .i64 (T 1),V.sl2 1 [.str (H 0).1,.str (H 0).2]] (.tup [.agg [.str d0,.str d1],.int .i64 0]))(o1:Cl 58 [.int .i64 (lo.getD 1 0),.int .i64 65535] (.agg [.str l0,.str l1]))(o2:Cl 58 [.int .i64 (hi.getD 1 0),.int .i64 65535] (.agg [.str h0,.str h1]))
  (cf:Cl 61 [.agg [.str (Y 1).1,.str (Y 1).2],.agg [.str d0,.str d1],.agg [.str l0,.str l1],.agg [.str h0,.str h1]] (.tup [.agg [.int .i64 b.1,.int .i64 b.2],.int .i64 0])) :
  Cl 59 (.int .i64 1::[.ref [.slf 1 2 (fun j=>List.take 1 (List.drop (j*1) [.ints .i64 (T 0),.ints .i64 (T 1)]))],.ref [V.sl2 1 [.str (H 0).1,.str (H 0).2]],.ref [V.sl2 2 [.str (Y 0).1,.str (Y 0).2,.str (Y 1).1,.str (Y 1).2]],.ref [.ints .i64 lo],.ref [.ints .i64 hi]]) (.tup [.agg [.int .i64 b.1,.int .i64 b.2],.int .i64 0]):=by
 refine V.en tbOk Tryz.func59 ?_
 refine V.r0 jh7 ?_
 refine⟨Pq34z,[],V.pok,?_⟩
 refine jab [(9,.box 9 0),(10,.int .i64 0)] [(9,.box [.str d0,.str d1])] ?_ ?_
 ·exact V.d1 jh7 sp
 refine V.r0 jh7 ?_
 refine⟨Pq0z,[],V.pok,?_⟩
 refine jab [(8,.int .i64 0)] [(7,.box [.int .i64 b.1,.int .i64 b.2])] ?_ ?_
 ·exact V.d3 jh7 o1 o2 cf
 refine V.r0 @jiA ?_
 exact Fin.of rfl
theorem bands2_130 (T:Nat→List Int)(H Y:Nat→Tx)(lo hi:List Int)(d0 d1 l0 l1 h0 h1:List UInt8)(b:Int×Int)(hlo:lo.length=3)(hhi:hi.length=3)(sp:Cl 60 [.ints .i64 (T 0),V.sl2 1 [.str (H 0).1,.str (H 0).2]] (.tup [.agg [.str d0,.str d1],.int .i64 0]))(o1:Cl 58 [.int .i64 (lo.getD 0 0),.int .i64 65535] (.agg [.str l0,.str l1]))(o2:Cl 58 [.int .i64 (hi.getD 0 0),.int .i64 65535] (.agg [.str h0,.str h1]))
  (cf:Cl 61 [.agg [.str (Y 0).1,.str (Y 0).2],.agg [.str d0,.str d1],.agg [.str l0,.str l1],.agg [.str h0,.str h1]] (.tup [.agg [.int .i64 b.1,.int .i64 b.2],.int .i64 0])) :
  Cl 59 (.int .i64 0::[.ref [.slf 1 3 (fun j=>List.take 1 (List.drop (j*1) [.ints .i64 (T 0),.ints .i64 (T 1),.ints .i64 (T 2)]))],.ref [V.sl2 1 [.str (H 0).1,.str (H 0).2]],.ref [V.sl2 3 [.str (Y 0).1,.str (Y 0).2,.str (Y 1).1,.str (Y 1).2,.str (Y 2).1,.str (Y 2).2]],.ref [.ints .i64 lo],.ref [.ints .i64 hi]]) (.tup [.agg [.int .i64 b.1,.int .i64 b.2],.int .i64 0]):=by
 refine V.en tbOk Tryz.func59 ?_
 refine V.r0 jh7 ?_
 refine⟨Pq34z,[],V.pok,?_⟩
 refine jab [(9,.box 9 0),(10,.int .i64 0)] [(9,.box [.str d0,.str d1])] ?_ ?_
 ·exact V.d1 jh7 sp
 refine V.r0 jh7 ?_
 refine⟨Pq0z,[],V.pok,?_⟩
 refine jab [(8,.int .i64 0)] [(7,.box [.int .i64 b.1,.int .i64 b.2])] ?_ ?_
 ·exact V.d3 jh7 o1 o2 cf
 refine V.r0 @jiA ?_
 exact Fin.of rfl
theorem bands2_131 (T:Nat→List Int)(H Y:Nat→Tx)(lo hi:List Int)(d0 d1 l0 l1 h0 h1:List UInt8)(b:Int×Int)(hlo:lo.length=3)(hhi:hi.length=3)(sp:Cl 60 [.ints .i64 (T 1),V.sl2 1 [.str (H 0).1,.str (H 0).2]] (.tup [.agg [.str d0,.str d1],.int .i64 0]))(o1:Cl 58 [.int .i64 (lo.getD 1 0),.int .i64 65535] (.agg [.str l0,.str l1]))(o2:Cl 58 [.int .i64 (hi.getD 1 0),.int .i64 65535] (.agg [.str h0,.str h1]))
  (cf:Cl 61 [.agg [.str (Y 1).1,.str (Y 1).2],.agg [.str d0,.str d1],.agg [.str l0,.str l1],.agg [.str h0,.str h1]] (.tup [.agg [.int .i64 b.1,.int .i64 b.2],.int .i64 0])) :
  Cl 59 (.int .i64 1::[.ref [.slf 1 3 (fun j=>List.take 1 (List.drop (j*1) [.ints .i64 (T 0),.ints .i64 (T 1),.ints .i64 (T 2)]))],.ref [V.sl2 1 [.str (H 0).1,.str (H 0).2]],.ref [V.sl2 3 [.str (Y 0).1,.str (Y 0).2,.str (Y 1).1,.str (Y 1).2,.str (Y 2).1,.str (Y 2).2]],.ref [.ints .i64 lo],.ref [.ints .i64 hi]]) (.tup [.agg [.int .i64 b.1,.int .i64 b.2],.int .i64 0]):=by
 refine V.en tbOk Tryz.func59 ?_
 refine V.r0 jh7 ?_
 refine⟨Pq34z,[],V.pok,?_⟩
 refine jab [(9,.box 9 0),(10,.int .i64 0)] [(9,.box [.str d0,.str d1])] ?_ ?_
 ·exact V.d1 jh7 sp
 refine V.r0 jh7 ?_
 refine⟨Pq0z,[],V.pok,?_⟩
 refine jab [(8,.int .i64 0)] [(7,.box [.int .i64 b.1,.int .i64 b.2])] ?_ ?_
 ·exact V.d3 jh7 o1 o2 cf
 refine V.r0 @jiA ?_
 exact Fin.of rfl
theorem bands2_132 (T:Nat→List Int)(H Y:Nat→Tx)(lo hi:List Int)(d0 d1 l0 l1 h0 h1:List UInt8)(b:Int×Int)(hlo:lo.length=3)(hhi:hi.length=3)(sp:Cl 60 [.ints .i64 (T 2),V.sl2 1 [.str (H 0).1,.str (H 0).2]] (.tup [.agg [.str d0,.str d1],.int .i64 0]))(o1:Cl 58 [.int .i64 (lo.getD 2 0),.int .i64 65535] (.agg [.str l0,.str l1]))(o2:Cl 58 [.int .i64 (hi.getD 2 0),.int .i64 65535] (.agg [.str h0,.str h1]))
  (cf:Cl 61 [.agg [.str (Y 2).1,.str (Y 2).2],.agg [.str d0,.str d1],.agg [.str l0,.str l1],.agg [.str h0,.str h1]] (.tup [.agg [.int .i64 b.1,.int .i64 b.2],.int .i64 0])) :
  Cl 59 (.int .i64 2::[.ref [.slf 1 3 (fun j=>List.take 1 (List.drop (j*1) [.ints .i64 (T 0),.ints .i64 (T 1),.ints .i64 (T 2)]))],.ref [V.sl2 1 [.str (H 0).1,.str (H 0).2]],.ref [V.sl2 3 [.str (Y 0).1,.str (Y 0).2,.str (Y 1).1,.str (Y 1).2,.str (Y 2).1,.str (Y 2).2]],.ref [.ints .i64 lo],.ref [.ints .i64 hi]]) (.tup [.agg [.int .i64 b.1,.int .i64 b.2],.int .i64 0]):=by
 refine V.en tbOk Tryz.func59 ?_
 refine V.r0 jh7 ?_
 refine⟨Pq34z,[],V.pok,?_⟩
 refine jab [(9,.box 9 0),(10,.int .i64 0)] [(9,.box [.str d0,.str d1])] ?_ ?_
 ·exact V.d1 jh7 sp
 refine V.r0 jh7 ?_
 refine⟨Pq0z,[],V.pok,?_⟩
 refine jab [(8,.int .i64 0)] [(7,.box [.int .i64 b.1,.int .i64 b.2])] ?_ ?_
 ·exact V.d3 jh7 o1 o2 cf
 refine V.r0 @jiA ?_
 exact Fin.of rfl
theorem bands2_140 (T:Nat→List Int)(H Y:Nat→Tx)(lo hi:List Int)(d0 d1 l0 l1 h0 h1:List UInt8)(b:Int×Int)(hlo:lo.length=4)(hhi:hi.length=4)(sp:Cl 60 [.ints .i64 (T 0),V.sl2 1 [.str (H 0).1,.str (H 0).2]] (.tup [.agg [.str d0,.str d1],.int .i64 0]))(o1:Cl 58 [.int .i64 (lo.getD 0 0),.int .i64 65535] (.agg [.str l0,.str l1]))(o2:Cl 58 [.int .i64 (hi.getD 0 0),.int .i64 65535] (.agg [.str h0,.str h1]))
  (cf:Cl 61 [.agg [.str (Y 0).1,.str (Y 0).2],.agg [.str d0,.str d1],.agg [.str l0,.str l1],.agg [.str h0,.str h1]] (.tup [.agg [.int .i64 b.1,.int .i64 b.2],.int .i64 0])) :
  Cl 59 (.int .i64 0::[.ref [.slf 1 4 (fun j=>List.take 1 (List.drop (j*1) [.ints .i64 (T 0),.ints .i64 (T 1),.ints .i64 (T 2),.ints .i64 (T 3)]))],.ref [V.sl2 1 [.str (H 0).1,.str (H 0).2]],.ref [V.sl2 4 [.str (Y 0).1,.str (Y 0).2,.str (Y 1).1,.str (Y 1).2,.str (Y 2).1,.str (Y 2).2,.str (Y 3).1,.str (Y 3).2]],.ref [.ints .i64 lo],.ref [.ints .i64 hi]]) (.tup [.agg [.int .i64 b.1,.int .i64 b.2],.int .i64 0]):=by
 refine V.en tbOk Tryz.func59 ?_
 refine V.r0 jh7 ?_
 refine⟨Pq34z,[],V.pok,?_⟩
 refine jab [(9,.box 9 0),(10,.int .i64 0)] [(9,.box [.str d0,.str d1])] ?_ ?_
 ·exact V.d1 jh7 sp
 refine V.r0 jh7 ?_
 refine⟨Pq0z,[],V.pok,?_⟩
 refine jab [(8,.int .i64 0)] [(7,.box [.int .i64 b.1,.int .i64 b.2])] ?_ ?_
 ·exact V.d3 jh7 o1 o2 cf
 refine V.r0 @jiA ?_
 exact Fin.of rfl
theorem bands2_141 (T:Nat→List Int)(H Y:Nat→Tx)(lo hi:List Int)(d0 d1 l0 l1 h0 h1:List UInt8)(b:Int×Int)(hlo:lo.length=4)(hhi:hi.length=4)(sp:Cl 60 [.ints .i64 (T 1),V.sl2 1 [.str (H 0).1,.str (H 0).2]] (.tup [.agg [.str d0,.str d1],.int .i64 0]))(o1:Cl 58 [.int .i64 (lo.getD 1 0),.int .i64 65535] (.agg [.str l0,.str l1]))(o2:Cl 58 [.int .i64 (hi.getD 1 0),.int .i64 65535] (.agg [.str h0,.str h1]))
  (cf:Cl 61 [.agg [.str (Y 1).1,.str (Y 1).2],.agg [.str d0,.str d1],.agg [.str l0,.str l1],.agg [.str h0,.str h1]] (.tup [.agg [.int .i64 b.1,.int .i64 b.2],.int .i64 0])) :
  Cl 59 (.int .i64 1::[.ref [.slf 1 4 (fun j=>List.take 1 (List.drop (j*1) [.ints .i64 (T 0),.ints .i64 (T 1),.ints .i64 (T 2),.ints .i64 (T 3)]))],.ref [V.sl2 1 [.str (H 0).1,.str (H 0).2]],.ref [V.sl2 4 [.str (Y 0).1,.str (Y 0).2,.str (Y 1).1,.str (Y 1).2,.str (Y 2).1,.str (Y 2).2,.str (Y 3).1,.str (Y 3).2]],.ref [.ints .i64 lo],.ref [.ints .i64 hi]]) (.tup [.agg [.int .i64 b.1,.int .i64 b.2],.int .i64 0]):=by
 refine V.en tbOk Tryz.func59 ?_
 refine V.r0 jh7 ?_
 refine⟨Pq34z,[],V.pok,?_⟩
 refine jab [(9,.box 9 0),(10,.int .i64 0)] [(9,.box [.str d0,.str d1])] ?_ ?_
 ·exact V.d1 jh7 sp
 refine V.r0 jh7 ?_
 refine⟨Pq0z,[],V.pok,?_⟩
 refine jab [(8,.int .i64 0)] [(7,.box [.int .i64 b.1,.int .i64 b.2])] ?_ ?_
 ·exact V.d3 jh7 o1 o2 cf
 refine V.r0 @jiA ?_
 exact Fin.of rfl
theorem bands2_142 (T:Nat→List Int)(H Y:Nat→Tx)(lo hi:List Int)(d0 d1 l0 l1 h0 h1:List UInt8)(b:Int×Int)(hlo:lo.length=4)(hhi:hi.length=4)(sp:Cl 60 [.ints .i64 (T 2),V.sl2 1 [.str (H 0).1,.str (H 0).2]] (.tup [.agg [.str d0,.str d1],.int .i64 0]))(o1:Cl 58 [.int .i64 (lo.getD 2 0),.int .i64 65535] (.agg [.str l0,.str l1]))(o2:Cl 58 [.int .i64 (hi.getD 2 0),.int .i64 65535] (.agg [.str h0,.str h1]))
  (cf:Cl 61 [.agg [.str (Y 2).1,.str (Y 2).2],.agg [.str d0,.str d1],.agg [.str l0,.str l1],.agg [.str h0,.str h1]] (.tup [.agg [.int .i64 b.1,.int .i64 b.2],.int .i64 0])) :
  Cl 59 (.int .i64 2::[.ref [.slf 1 4 (fun j=>List.take 1 (List.drop (j*1) [.ints .i64 (T 0),.ints .i64 (T 1),.ints .i64 (T 2),.ints .i64 (T 3)]))],.ref [V.sl2 1 [.str (H 0).1,.str (H 0).2]],.ref [V.sl2 4 [.str (Y 0).1,.str (Y 0).2,.str (Y 1).1,.str (Y 1).2,.str (Y 2).1,.str (Y 2).2,.str (Y 3).1,.str (Y 3).2]],.ref [.ints .i64 lo],.ref [.ints .i64 hi]]) (.tup [.agg [.int .i64 b.1,.int .i64 b.2],.int .i64 0]):=by
 refine V.en tbOk Tryz.func59 ?_
 refine V.r0 jh7 ?_
 refine⟨Pq34z,[],V.pok,?_⟩
 refine jab [(9,.box 9 0),(10,.int .i64 0)] [(9,.box [.str d0,.str d1])] ?_ ?_
 ·exact V.d1 jh7 sp
 refine V.r0 jh7 ?_
 refine⟨Pq0z,[],V.pok,?_⟩
 refine jab [(8,.int .i64 0)] [(7,.box [.int .i64 b.1,.int .i64 b.2])] ?_ ?_
 ·exact V.d3 jh7 o1 o2 cf
 refine V.r0 @jiA ?_
 exact Fin.of rfl
theorem bands2_143 (T:Nat→List Int)(H Y:Nat→Tx)(lo hi:List Int)(d0 d1 l0 l1 h0 h1:List UInt8)(b:Int×Int)(hlo:lo.length=4)(hhi:hi.length=4)(sp:Cl 60 [.ints .i64 (T 3),V.sl2 1 [.str (H 0).1,.str (H 0).2]] (.tup [.agg [.str d0,.str d1],.int .i64 0]))(o1:Cl 58 [.int .i64 (lo.getD 3 0),.int .i64 65535] (.agg [.str l0,.str l1]))(o2:Cl 58 [.int .i64 (hi.getD 3 0),.int .i64 65535] (.agg [.str h0,.str h1]))
  (cf:Cl 61 [.agg [.str (Y 3).1,.str (Y 3).2],.agg [.str d0,.str d1],.agg [.str l0,.str l1],.agg [.str h0,.str h1]] (.tup [.agg [.int .i64 b.1,.int .i64 b.2],.int .i64 0])) :
  Cl 59 (.int .i64 3::[.ref [.slf 1 4 (fun j=>List.take 1 (List.drop (j*1) [.ints .i64 (T 0),.ints .i64 (T 1),.ints .i64 (T 2),.ints .i64 (T 3)]))],.ref [V.sl2 1 [.str (H 0).1,.str (H 0).2]],.ref [V.sl2 4 [.str (Y 0).1,.str (Y 0).2,.str (Y 1).1,.str (Y 1).2,.str (Y 2).1,.str (Y 2).2,.str (Y 3).1,.str (Y 3).2]],.ref [.ints .i64 lo],.ref [.ints .i64 hi]]) (.tup [.agg [.int .i64 b.1,.int .i64 b.2],.int .i64 0]):=by
 refine V.en tbOk Tryz.func59 ?_
 refine V.r0 jh7 ?_
 refine⟨Pq34z,[],V.pok,?_⟩
 refine jab [(9,.box 9 0),(10,.int .i64 0)] [(9,.box [.str d0,.str d1])] ?_ ?_
 ·exact V.d1 jh7 sp
 refine V.r0 jh7 ?_
 refine⟨Pq0z,[],V.pok,?_⟩
 refine jab [(8,.int .i64 0)] [(7,.box [.int .i64 b.1,.int .i64 b.2])] ?_ ?_
 ·exact V.d3 jh7 o1 o2 cf
 refine V.r0 @jiA ?_
 exact Fin.of rfl
theorem jfR (T:Nat→List Int)(H Y:Nat→Tx)(lo hi:List Int)(d0 d1 l0 l1 h0 h1:List UInt8)(b:Int×Int)(hlo:lo.length=1)(hhi:hi.length=1)(sp:Cl 60 [.ints .i64 (T 0),V.sl2 2 [.str (H 0).1,.str (H 0).2,.str (H 1).1,.str (H 1).2]] (.tup [.agg [.str d0,.str d1],.int .i64 0]))(o1:Cl 58 [.int .i64 (lo.getD 0 0),.int .i64 65535] (.agg [.str l0,.str l1]))(o2:Cl 58 [.int .i64 (hi.getD 0 0),.int .i64 65535] (.agg [.str h0,.str h1]))
  (cf:Cl 61 [.agg [.str (Y 0).1,.str (Y 0).2],.agg [.str d0,.str d1],.agg [.str l0,.str l1],.agg [.str h0,.str h1]] (.tup [.agg [.int .i64 b.1,.int .i64 b.2],.int .i64 0])) :
  Cl 59 (.int .i64 0::[.ref [.slf 1 1 (fun j=>List.take 1 (List.drop (j*1) [.ints .i64 (T 0)]))],.ref [V.sl2 2 [.str (H 0).1,.str (H 0).2,.str (H 1).1,.str (H 1).2]],.ref [V.sl2 1 [.str (Y 0).1,.str (Y 0).2]],.ref [.ints .i64 lo],.ref [.ints .i64 hi]]) (.tup [.agg [.int .i64 b.1,.int .i64 b.2],.int .i64 0]):=by
 refine V.en tbOk Tryz.func59 ?_
 refine V.r0 jh7 ?_
 refine⟨Pq34z,[],V.pok,?_⟩
 refine jab [(9,.box 9 0),(10,.int .i64 0)] [(9,.box [.str d0,.str d1])] ?_ ?_
 ·exact V.d1 jh7 sp
 refine V.r0 jh7 ?_
 refine⟨Pq0z,[],V.pok,?_⟩
 refine jab [(8,.int .i64 0)] [(7,.box [.int .i64 b.1,.int .i64 b.2])] ?_ ?_
 ·exact V.d3 jh7 o1 o2 cf
 refine V.r0 @jiA ?_
 exact Fin.of rfl
theorem bands2_220 (T:Nat→List Int)(H Y:Nat→Tx)(lo hi:List Int)(d0 d1 l0 l1 h0 h1:List UInt8)(b:Int×Int)(hlo:lo.length=2)(hhi:hi.length=2)(sp:Cl 60 [.ints .i64 (T 0),V.sl2 2 [.str (H 0).1,.str (H 0).2,.str (H 1).1,.str (H 1).2]] (.tup [.agg [.str d0,.str d1],.int .i64 0]))(o1:Cl 58 [.int .i64 (lo.getD 0 0),.int .i64 65535] (.agg [.str l0,.str l1]))(o2:Cl 58 [.int .i64 (hi.getD 0 0),.int .i64 65535] (.agg [.str h0,.str h1]))
  (cf:Cl 61 [.agg [.str (Y 0).1,.str (Y 0).2],.agg [.str d0,.str d1],.agg [.str l0,.str l1],.agg [.str h0,.str h1]] (.tup [.agg [.int .i64 b.1,.int .i64 b.2],.int .i64 0])) :
  Cl 59 (.int .i64 0::[.ref [.slf 1 2 (fun j=>List.take 1 (List.drop (j*1) [.ints .i64 (T 0),.ints .i64 (T 1)]))],.ref [V.sl2 2 [.str (H 0).1,.str (H 0).2,.str (H 1).1,.str (H 1).2]],.ref [V.sl2 2 [.str (Y 0).1,.str (Y 0).2,.str (Y 1).1,.str (Y 1).2]],.ref [.ints .i64 lo],.ref [.ints .i64 hi]]) (.tup [.agg [.int .i64 b.1,.int .i64 b.2],.int .i64 0]):=by
 refine V.en tbOk Tryz.func59 ?_
 refine V.r0 jh7 ?_
 refine⟨Pq34z,[],V.pok,?_⟩
 refine jab [(9,.box 9 0),(10,.int .i64 0)] [(9,.box [.str d0,.str d1])] ?_ ?_
 ·exact V.d1 jh7 sp
 refine V.r0 jh7 ?_
 refine⟨Pq0z,[],V.pok,?_⟩
 refine jab [(8,.int .i64 0)] [(7,.box [.int .i64 b.1,.int .i64 b.2])] ?_ ?_
 ·exact V.d3 jh7 o1 o2 cf
 refine V.r0 @jiA ?_
 exact Fin.of rfl
theorem bands2_221 (T:Nat→List Int)(H Y:Nat→Tx)(lo hi:List Int)(d0 d1 l0 l1 h0 h1:List UInt8)(b:Int×Int)(hlo:lo.length=2)(hhi:hi.length=2)(sp:Cl 60 [.ints .i64 (T 1),V.sl2 2 [.str (H 0).1,.str (H 0).2,.str (H 1).1,.str (H 1).2]] (.tup [.agg [.str d0,.str d1],.int .i64 0]))(o1:Cl 58 [.int .i64 (lo.getD 1 0),.int .i64 65535] (.agg [.str l0,.str l1]))(o2:Cl 58 [.int .i64 (hi.getD 1 0),.int .i64 65535] (.agg [.str h0,.str h1]))
  (cf:Cl 61 [.agg [.str (Y 1).1,.str (Y 1).2],.agg [.str d0,.str d1],.agg [.str l0,.str l1],.agg [.str h0,.str h1]] (.tup [.agg [.int .i64 b.1,.int .i64 b.2],.int .i64 0])) :
  Cl 59 (.int .i64 1::[.ref [.slf 1 2 (fun j=>List.take 1 (List.drop (j*1) [.ints .i64 (T 0),.ints .i64 (T 1)]))],.ref [V.sl2 2 [.str (H 0).1,.str (H 0).2,.str (H 1).1,.str (H 1).2]],.ref [V.sl2 2 [.str (Y 0).1,.str (Y 0).2,.str (Y 1).1,.str (Y 1).2]],.ref [.ints .i64 lo],.ref [.ints .i64 hi]]) (.tup [.agg [.int .i64 b.1,.int .i64 b.2],.int .i64 0]):=by
 refine V.en tbOk Tryz.func59 ?_
 refine V.r0 jh7 ?_
 refine⟨Pq34z,[],V.pok,?_⟩
 refine jab [(9,.box 9 0),(10,.int .i64 0)] [(9,.box [.str d0,.str d1])] ?_ ?_
 ·exact V.d1 jh7 sp
 refine V.r0 jh7 ?_
 refine⟨Pq0z,[],V.pok,?_⟩
 refine jab [(8,.int .i64 0)] [(7,.box [.int .i64 b.1,.int .i64 b.2])] ?_ ?_
 ·exact V.d3 jh7 o1 o2 cf
 refine V.r0 @jiA ?_
 exact Fin.of rfl
theorem bands2_230 (T:Nat→List Int)(H Y:Nat→Tx)(lo hi:List Int)(d0 d1 l0 l1 h0 h1:List UInt8)(b:Int×Int)(hlo:lo.length=3)(hhi:hi.length=3)(sp:Cl 60 [.ints .i64 (T 0),V.sl2 2 [.str (H 0).1,.str (H 0).2,.str (H 1).1,.str (H 1).2]] (.tup [.agg [.str d0,.str d1],.int .i64 0]))(o1:Cl 58 [.int .i64 (lo.getD 0 0),.int .i64 65535] (.agg [.str l0,.str l1]))(o2:Cl 58 [.int .i64 (hi.getD 0 0),.int .i64 65535] (.agg [.str h0,.str h1]))
  (cf:Cl 61 [.agg [.str (Y 0).1,.str (Y 0).2],.agg [.str d0,.str d1],.agg [.str l0,.str l1],.agg [.str h0,.str h1]] (.tup [.agg [.int .i64 b.1,.int .i64 b.2],.int .i64 0])) :
  Cl 59 (.int .i64 0::[.ref [.slf 1 3 (fun j=>List.take 1 (List.drop (j*1) [.ints .i64 (T 0),.ints .i64 (T 1),.ints .i64 (T 2)]))],.ref [V.sl2 2 [.str (H 0).1,.str (H 0).2,.str (H 1).1,.str (H 1).2]],.ref [V.sl2 3 [.str (Y 0).1,.str (Y 0).2,.str (Y 1).1,.str (Y 1).2,.str (Y 2).1,.str (Y 2).2]],.ref [.ints .i64 lo],.ref [.ints .i64 hi]]) (.tup [.agg [.int .i64 b.1,.int .i64 b.2],.int .i64 0]):=by
 refine V.en tbOk Tryz.func59 ?_
 refine V.r0 jh7 ?_
 refine⟨Pq34z,[],V.pok,?_⟩
 refine jab [(9,.box 9 0),(10,.int .i64 0)] [(9,.box [.str d0,.str d1])] ?_ ?_
 ·exact V.d1 jh7 sp
 refine V.r0 jh7 ?_
 refine⟨Pq0z,[],V.pok,?_⟩
 refine jab [(8,.int .i64 0)] [(7,.box [.int .i64 b.1,.int .i64 b.2])] ?_ ?_
 ·exact V.d3 jh7 o1 o2 cf
 refine V.r0 @jiA ?_
 exact Fin.of rfl
theorem bands2_231 (T:Nat→List Int)(H Y:Nat→Tx)(lo hi:List Int)(d0 d1 l0 l1 h0 h1:List UInt8)(b:Int×Int)(hlo:lo.length=3)(hhi:hi.length=3)(sp:Cl 60 [.ints .i64 (T 1),V.sl2 2 [.str (H 0).1,.str (H 0).2,.str (H 1).1,.str (H 1).2]] (.tup [.agg [.str d0,.str d1],.int .i64 0]))(o1:Cl 58 [.int .i64 (lo.getD 1 0),.int .i64 65535] (.agg [.str l0,.str l1]))(o2:Cl 58 [.int .i64 (hi.getD 1 0),.int .i64 65535] (.agg [.str h0,.str h1]))
  (cf:Cl 61 [.agg [.str (Y 1).1,.str (Y 1).2],.agg [.str d0,.str d1],.agg [.str l0,.str l1],.agg [.str h0,.str h1]] (.tup [.agg [.int .i64 b.1,.int .i64 b.2],.int .i64 0])) :
  Cl 59 (.int .i64 1::[.ref [.slf 1 3 (fun j=>List.take 1 (List.drop (j*1) [.ints .i64 (T 0),.ints .i64 (T 1),.ints .i64 (T 2)]))],.ref [V.sl2 2 [.str (H 0).1,.str (H 0).2,.str (H 1).1,.str (H 1).2]],.ref [V.sl2 3 [.str (Y 0).1,.str (Y 0).2,.str (Y 1).1,.str (Y 1).2,.str (Y 2).1,.str (Y 2).2]],.ref [.ints .i64 lo],.ref [.ints .i64 hi]]) (.tup [.agg [.int .i64 b.1,.int .i64 b.2],.int .i64 0]):=by
 refine V.en tbOk Tryz.func59 ?_
 refine V.r0 jh7 ?_
 refine⟨Pq34z,[],V.pok,?_⟩
 refine jab [(9,.box 9 0),(10,.int .i64 0)] [(9,.box [.str d0,.str d1])] ?_ ?_
 ·exact V.d1 jh7 sp
 refine V.r0 jh7 ?_
 refine⟨Pq0z,[],V.pok,?_⟩
 refine jab [(8,.int .i64 0)] [(7,.box [.int .i64 b.1,.int .i64 b.2])] ?_ ?_
 ·exact V.d3 jh7 o1 o2 cf
 refine V.r0 @jiA ?_
 exact Fin.of rfl
theorem bands2_232 (T:Nat→List Int)(H Y:Nat→Tx)(lo hi:List Int)(d0 d1 l0 l1 h0 h1:List UInt8)(b:Int×Int)(hlo:lo.length=3)(hhi:hi.length=3)(sp:Cl 60 [.ints .i64 (T 2),V.sl2 2 [.str (H 0).1,.str (H 0).2,.str (H 1).1,.str (H 1).2]] (.tup [.agg [.str d0,.str d1],.int .i64 0]))(o1:Cl 58 [.int .i64 (lo.getD 2 0),.int .i64 65535] (.agg [.str l0,.str l1]))(o2:Cl 58 [.int .i64 (hi.getD 2 0),.int .i64 65535] (.agg [.str h0,.str h1]))
  (cf:Cl 61 [.agg [.str (Y 2).1,.str (Y 2).2],.agg [.str d0,.str d1],.agg [.str l0,.str l1],.agg [.str h0,.str h1]] (.tup [.agg [.int .i64 b.1,.int .i64 b.2],.int .i64 0])) :
  Cl 59 (.int .i64 2::[.ref [.slf 1 3 (fun j=>List.take 1 (List.drop (j*1) [.ints .i64 (T 0),.ints .i64 (T 1),.ints .i64 (T 2)]))],.ref [V.sl2 2 [.str (H 0).1,.str (H 0).2,.str (H 1).1,.str (H 1).2]],.ref [V.sl2 3 [.str (Y 0).1,.str (Y 0).2,.str (Y 1).1,.str (Y 1).2,.str (Y 2).1,.str (Y 2).2]],.ref [.ints .i64 lo],.ref [.ints .i64 hi]]) (.tup [.agg [.int .i64 b.1,.int .i64 b.2],.int .i64 0]):=by
 refine V.en tbOk Tryz.func59 ?_
 refine V.r0 jh7 ?_
 refine⟨Pq34z,[],V.pok,?_⟩
 refine jab [(9,.box 9 0),(10,.int .i64 0)] [(9,.box [.str d0,.str d1])] ?_ ?_
 ·exact V.d1 jh7 sp
 refine V.r0 jh7 ?_
 refine⟨Pq0z,[],V.pok,?_⟩
 refine jab [(8,.int .i64 0)] [(7,.box [.int .i64 b.1,.int .i64 b.2])] ?_ ?_
 ·exact V.d3 jh7 o1 o2 cf
 refine V.r0 @jiA ?_
 exact Fin.of rfl
theorem bands2_240 (T:Nat→List Int)(H Y:Nat→Tx)(lo hi:List Int)(d0 d1 l0 l1 h0 h1:List UInt8)(b:Int×Int)(hlo:lo.length=4)(hhi:hi.length=4)(sp:Cl 60 [.ints .i64 (T 0),V.sl2 2 [.str (H 0).1,.str (H 0).2,.str (H 1).1,.str (H 1).2]] (.tup [.agg [.str d0,.str d1],.int .i64 0]))(o1:Cl 58 [.int .i64 (lo.getD 0 0),.int .i64 65535] (.agg [.str l0,.str l1]))(o2:Cl 58 [.int .i64 (hi.getD 0 0),.int .i64 65535] (.agg [.str h0,.str h1]))
  (cf:Cl 61 [.agg [.str (Y 0).1,.str (Y 0).2],.agg [.str d0,.str d1],.agg [.str l0,.str l1],.agg [.str h0,.str h1]] (.tup [.agg [.int .i64 b.1,.int .i64 b.2],.int .i64 0])) :
  Cl 59 (.int .i64 0::[.ref [.slf 1 4 (fun j=>List.take 1 (List.drop (j*1) [.ints .i64 (T 0),.ints .i64 (T 1),.ints .i64 (T 2),.ints .i64 (T 3)]))],.ref [V.sl2 2 [.str (H 0).1,.str (H 0).2,.str (H 1).1,.str (H 1).2]],.ref [V.sl2 4 [.str (Y 0).1,.str (Y 0).2,.str (Y 1).1,.str (Y 1).2,.str (Y 2).1,.str (Y 2).2,.str (Y 3).1,.str (Y 3).2]],.ref [.ints .i64 lo],.ref [.ints .i64 hi]]) (.tup [.agg [.int .i64 b.1,.int .i64 b.2],.int .i64 0]):=by
 refine V.en tbOk Tryz.func59 ?_
 refine V.r0 jh7 ?_
 refine⟨Pq34z,[],V.pok,?_⟩
 refine jab [(9,.box 9 0),(10,.int .i64 0)] [(9,.box [.str d0,.str d1])] ?_ ?_
 ·exact V.d1 jh7 sp
 refine V.r0 jh7 ?_
 refine⟨Pq0z,[],V.pok,?_⟩
 refine jab [(8,.int .i64 0)] [(7,.box [.int .i64 b.1,.int .i64 b.2])] ?_ ?_
 ·exact V.d3 jh7 o1 o2 cf
 refine V.r0 @jiA ?_
 exact Fin.of rfl
theorem bands2_241 (T:Nat→List Int)(H Y:Nat→Tx)(lo hi:List Int)(d0 d1 l0 l1 h0 h1:List UInt8)(b:Int×Int)(hlo:lo.length=4)(hhi:hi.length=4)(sp:Cl 60 [.ints .i64 (T 1),V.sl2 2 [.str (H 0).1,.str (H 0).2,.str (H 1).1,.str (H 1).2]] (.tup [.agg [.str d0,.str d1],.int .i64 0]))(o1:Cl 58 [.int .i64 (lo.getD 1 0),.int .i64 65535] (.agg [.str l0,.str l1]))(o2:Cl 58 [.int .i64 (hi.getD 1 0),.int .i64 65535] (.agg [.str h0,.str h1]))
  (cf:Cl 61 [.agg [.str (Y 1).1,.str (Y 1).2],.agg [.str d0,.str d1],.agg [.str l0,.str l1],.agg [.str h0,.str h1]] (.tup [.agg [.int .i64 b.1,.int .i64 b.2],.int .i64 0])) :
  Cl 59 (.int .i64 1::[.ref [.slf 1 4 (fun j=>List.take 1 (List.drop (j*1) [.ints .i64 (T 0),.ints .i64 (T 1),.ints .i64 (T 2),.ints .i64 (T 3)]))],.ref [V.sl2 2 [.str (H 0).1,.str (H 0).2,.str (H 1).1,.str (H 1).2]],.ref [V.sl2 4 [.str (Y 0).1,.str (Y 0).2,.str (Y 1).1,.str (Y 1).2,.str (Y 2).1,.str (Y 2).2,.str (Y 3).1,.str (Y 3).2]],.ref [.ints .i64 lo],.ref [.ints .i64 hi]]) (.tup [.agg [.int .i64 b.1,.int .i64 b.2],.int .i64 0]):=by
 refine V.en tbOk Tryz.func59 ?_
 refine V.r0 jh7 ?_
 refine⟨Pq34z,[],V.pok,?_⟩
 refine jab [(9,.box 9 0),(10,.int .i64 0)] [(9,.box [.str d0,.str d1])] ?_ ?_
 ·exact V.d1 jh7 sp
 refine V.r0 jh7 ?_
 refine⟨Pq0z,[],V.pok,?_⟩
 refine jab [(8,.int .i64 0)] [(7,.box [.int .i64 b.1,.int .i64 b.2])] ?_ ?_
 ·exact V.d3 jh7 o1 o2 cf
 refine V.r0 @jiA ?_
 exact Fin.of rfl
theorem bands2_242 (T:Nat→List Int)(H Y:Nat→Tx)(lo hi:List Int)(d0 d1 l0 l1 h0 h1:List UInt8)(b:Int×Int)(hlo:lo.length=4)(hhi:hi.length=4)(sp:Cl 60 [.ints .i64 (T 2),V.sl2 2 [.str (H 0).1,.str (H 0).2,.str (H 1).1,.str (H 1).2]] (.tup [.agg [.str d0,.str d1],.int .i64 0]))(o1:Cl 58 [.int .i64 (lo.getD 2 0),.int .i64 65535] (.agg [.str l0,.str l1]))(o2:Cl 58 [.int .i64 (hi.getD 2 0),.int .i64 65535] (.agg [.str h0,.str h1]))
  (cf:Cl 61 [.agg [.str (Y 2).1,.str (Y 2).2],.agg [.str d0,.str d1],.agg [.str l0,.str l1],.agg [.str h0,.str h1]] (.tup [.agg [.int .i64 b.1,.int .i64 b.2],.int .i64 0])) :
  Cl 59 (.int .i64 2::[.ref [.slf 1 4 (fun j=>List.take 1 (List.drop (j*1) [.ints .i64 (T 0),.ints .i64 (T 1),.ints .i64 (T 2),.ints .i64 (T 3)]))],.ref [V.sl2 2 [.str (H 0).1,.str (H 0).2,.str (H 1).1,.str (H 1).2]],.ref [V.sl2 4 [.str (Y 0).1,.str (Y 0).2,.str (Y 1).1,.str (Y 1).2,.str (Y 2).1,.str (Y 2).2,.str (Y 3).1,.str (Y 3).2]],.ref [.ints .i64 lo],.ref [.ints .i64 hi]]) (.tup [.agg [.int .i64 b.1,.int .i64 b.2],.int .i64 0]):=by
 refine V.en tbOk Tryz.func59 ?_
 refine V.r0 jh7 ?_
 refine⟨Pq34z,[],V.pok,?_⟩
 refine jab [(9,.box 9 0),(10,.int .i64 0)] [(9,.box [.str d0,.str d1])] ?_ ?_
 ·exact V.d1 jh7 sp
 refine V.r0 jh7 ?_
 refine⟨Pq0z,[],V.pok,?_⟩
 refine jab [(8,.int .i64 0)] [(7,.box [.int .i64 b.1,.int .i64 b.2])] ?_ ?_
 ·exact V.d3 jh7 o1 o2 cf
 refine V.r0 @jiA ?_
 exact Fin.of rfl
theorem bands2_243 (T:Nat→List Int)(H Y:Nat→Tx)(lo hi:List Int)(d0 d1 l0 l1 h0 h1:List UInt8)(b:Int×Int)(hlo:lo.length=4)(hhi:hi.length=4)(sp:Cl 60 [.ints .i64 (T 3),V.sl2 2 [.str (H 0).1,.str (H 0).2,.str (H 1).1,.str (H 1).2]] (.tup [.agg [.str d0,.str d1],.int .i64 0]))(o1:Cl 58 [.int .i64 (lo.getD 3 0),.int .i64 65535] (.agg [.str l0,.str l1]))(o2:Cl 58 [.int .i64 (hi.getD 3 0),.int .i64 65535] (.agg [.str h0,.str h1]))
  (cf:Cl 61 [.agg [.str (Y 3).1,.str (Y 3).2],.agg [.str d0,.str d1],.agg [.str l0,.str l1],.agg [.str h0,.str h1]] (.tup [.agg [.int .i64 b.1,.int .i64 b.2],.int .i64 0])) :
  Cl 59 (.int .i64 3::[.ref [.slf 1 4 (fun j=>List.take 1 (List.drop (j*1) [.ints .i64 (T 0),.ints .i64 (T 1),.ints .i64 (T 2),.ints .i64 (T 3)]))],.ref [V.sl2 2 [.str (H 0).1,.str (H 0).2,.str (H 1).1,.str (H 1).2]],.ref [V.sl2 4 [.str (Y 0).1,.str (Y 0).2,.str (Y 1).1,.str (Y 1).2,.str (Y 2).1,.str (Y 2).2,.str (Y 3).1,.str (Y 3).2]],.ref [.ints .i64 lo],.ref [.ints .i64 hi]]) (.tup [.agg [.int .i64 b.1,.int .i64 b.2],.int .i64 0]):=by
 refine V.en tbOk Tryz.func59 ?_
 refine V.r0 jh7 ?_
 refine⟨Pq34z,[],V.pok,?_⟩
 refine jab [(9,.box 9 0),(10,.int .i64 0)] [(9,.box [.str d0,.str d1])] ?_ ?_
 ·exact V.d1 jh7 sp
 refine V.r0 jh7 ?_
 refine⟨Pq0z,[],V.pok,?_⟩
 refine jab [(8,.int .i64 0)] [(7,.box [.int .i64 b.1,.int .i64 b.2])] ?_ ?_
 ·exact V.d3 jh7 o1 o2 cf
 refine V.r0 @jiA ?_
 exact Fin.of rfl
theorem bands2_310 (T:Nat→List Int)(H Y:Nat→Tx)(lo hi:List Int)(d0 d1 l0 l1 h0 h1:List UInt8)(b:Int×Int)(hlo:lo.length=1)(hhi:hi.length=1)(sp:Cl 60 [.ints .i64 (T 0),V.sl2 3 [.str (H 0).1,.str (H 0).2,.str (H 1).1,.str (H 1).2,.str (H 2).1,.str (H 2).2]] (.tup [.agg [.str d0,.str d1],.int .i64 0]))(o1:Cl 58 [.int .i64 (lo.getD 0 0),.int .i64 65535] (.agg [.str l0,.str l1]))(o2:Cl 58 [.int .i64 (hi.getD 0 0),.int .i64 65535] (.agg [.str h0,.str h1]))
  (cf:Cl 61 [.agg [.str (Y 0).1,.str (Y 0).2],.agg [.str d0,.str d1],.agg [.str l0,.str l1],.agg [.str h0,.str h1]] (.tup [.agg [.int .i64 b.1,.int .i64 b.2],.int .i64 0])) :
  Cl 59 (.int .i64 0::[.ref [.slf 1 1 (fun j=>List.take 1 (List.drop (j*1) [.ints .i64 (T 0)]))],.ref [V.sl2 3 [.str (H 0).1,.str (H 0).2,.str (H 1).1,.str (H 1).2,.str (H 2).1,.str (H 2).2]],.ref [V.sl2 1 [.str (Y 0).1,.str (Y 0).2]],.ref [.ints .i64 lo],.ref [.ints .i64 hi]]) (.tup [.agg [.int .i64 b.1,.int .i64 b.2],.int .i64 0]):=by
 refine V.en tbOk Tryz.func59 ?_
 refine V.r0 jh7 ?_
 refine⟨Pq34z,[],V.pok,?_⟩
 refine jab [(9,.box 9 0),(10,.int .i64 0)] [(9,.box [.str d0,.str d1])] ?_ ?_
 ·exact V.d1 jh7 sp
 refine V.r0 jh7 ?_
 refine⟨Pq0z,[],V.pok,?_⟩
 refine jab [(8,.int .i64 0)] [(7,.box [.int .i64 b.1,.int .i64 b.2])] ?_ ?_
 ·exact V.d3 jh7 o1 o2 cf
 refine V.r0 @jiA ?_
 exact Fin.of rfl
theorem bands2_320 (T:Nat→List Int)(H Y:Nat→Tx)(lo hi:List Int)(d0 d1 l0 l1 h0 h1:List UInt8)(b:Int×Int)(hlo:lo.length=2)(hhi:hi.length=2)(sp:Cl 60 [.ints .i64 (T 0),V.sl2 3 [.str (H 0).1,.str (H 0).2,.str (H 1).1,.str (H 1).2,.str (H 2).1,.str (H 2).2]] (.tup [.agg [.str d0,.str d1],.int .i64 0]))(o1:Cl 58 [.int .i64 (lo.getD 0 0),.int .i64 65535] (.agg [.str l0,.str l1]))(o2:Cl 58 [.int .i64 (hi.getD 0 0),.int .i64 65535] (.agg [.str h0,.str h1]))
  (cf:Cl 61 [.agg [.str (Y 0).1,.str (Y 0).2],.agg [.str d0,.str d1],.agg [.str l0,.str l1],.agg [.str h0,.str h1]] (.tup [.agg [.int .i64 b.1,.int .i64 b.2],.int .i64 0])) :
  Cl 59 (.int .i64 0::[.ref [.slf 1 2 (fun j=>List.take 1 (List.drop (j*1) [.ints .i64 (T 0),.ints .i64 (T 1)]))],.ref [V.sl2 3 [.str (H 0).1,.str (H 0).2,.str (H 1).1,.str (H 1).2,.str (H 2).1,.str (H 2).2]],.ref [V.sl2 2 [.str (Y 0).1,.str (Y 0).2,.str (Y 1).1,.str (Y 1).2]],.ref [.ints .i64 lo],.ref [.ints .i64 hi]]) (.tup [.agg [.int .i64 b.1,.int .i64 b.2],.int .i64 0]):=by
 refine V.en tbOk Tryz.func59 ?_
 refine V.r0 jh7 ?_
 refine⟨Pq34z,[],V.pok,?_⟩
 refine jab [(9,.box 9 0),(10,.int .i64 0)] [(9,.box [.str d0,.str d1])] ?_ ?_
 ·exact V.d1 jh7 sp
 refine V.r0 jh7 ?_
 refine⟨Pq0z,[],V.pok,?_⟩
 refine jab [(8,.int .i64 0)] [(7,.box [.int .i64 b.1,.int .i64 b.2])] ?_ ?_
 ·exact V.d3 jh7 o1 o2 cf
 refine V.r0 @jiA ?_
 exact Fin.of rfl
theorem bands2_321 (T:Nat→List Int)(H Y:Nat→Tx)(lo hi:List Int)(d0 d1 l0 l1 h0 h1:List UInt8)(b:Int×Int)(hlo:lo.length=2)(hhi:hi.length=2)(sp:Cl 60 [.ints .i64 (T 1),V.sl2 3 [.str (H 0).1,.str (H 0).2,.str (H 1).1,.str (H 1).2,.str (H 2).1,.str (H 2).2]] (.tup [.agg [.str d0,.str d1],.int .i64 0]))(o1:Cl 58 [.int .i64 (lo.getD 1 0),.int .i64 65535] (.agg [.str l0,.str l1]))(o2:Cl 58 [.int .i64 (hi.getD 1 0),.int .i64 65535] (.agg [.str h0,.str h1]))
  (cf:Cl 61 [.agg [.str (Y 1).1,.str (Y 1).2],.agg [.str d0,.str d1],.agg [.str l0,.str l1],.agg [.str h0,.str h1]] (.tup [.agg [.int .i64 b.1,.int .i64 b.2],.int .i64 0])) :
  Cl 59 (.int .i64 1::[.ref [.slf 1 2 (fun j=>List.take 1 (List.drop (j*1) [.ints .i64 (T 0),.ints .i64 (T 1)]))],.ref [V.sl2 3 [.str (H 0).1,.str (H 0).2,.str (H 1).1,.str (H 1).2,.str (H 2).1,.str (H 2).2]],.ref [V.sl2 2 [.str (Y 0).1,.str (Y 0).2,.str (Y 1).1,.str (Y 1).2]],.ref [.ints .i64 lo],.ref [.ints .i64 hi]]) (.tup [.agg [.int .i64 b.1,.int .i64 b.2],.int .i64 0]):=by
 refine V.en tbOk Tryz.func59 ?_
 refine V.r0 jh7 ?_
 refine⟨Pq34z,[],V.pok,?_⟩
 refine jab [(9,.box 9 0),(10,.int .i64 0)] [(9,.box [.str d0,.str d1])] ?_ ?_
 ·exact V.d1 jh7 sp
 refine V.r0 jh7 ?_
 refine⟨Pq0z,[],V.pok,?_⟩
 refine jab [(8,.int .i64 0)] [(7,.box [.int .i64 b.1,.int .i64 b.2])] ?_ ?_
 ·exact V.d3 jh7 o1 o2 cf
 refine V.r0 @jiA ?_
 exact Fin.of rfl
theorem bands2_330 (T:Nat→List Int)(H Y:Nat→Tx)(lo hi:List Int)(d0 d1 l0 l1 h0 h1:List UInt8)(b:Int×Int)(hlo:lo.length=3)(hhi:hi.length=3)(sp:Cl 60 [.ints .i64 (T 0),V.sl2 3 [.str (H 0).1,.str (H 0).2,.str (H 1).1,.str (H 1).2,.str (H 2).1,.str (H 2).2]] (.tup [.agg [.str d0,.str d1],.int .i64 0]))(o1:Cl 58 [.int .i64 (lo.getD 0 0),.int .i64 65535] (.agg [.str l0,.str l1]))(o2:Cl 58 [.int .i64 (hi.getD 0 0),.int .i64 65535] (.agg [.str h0,.str h1]))
  (cf:Cl 61 [.agg [.str (Y 0).1,.str (Y 0).2],.agg [.str d0,.str d1],.agg [.str l0,.str l1],.agg [.str h0,.str h1]] (.tup [.agg [.int .i64 b.1,.int .i64 b.2],.int .i64 0])) :
  Cl 59 (.int .i64 0::[.ref [.slf 1 3 (fun j=>List.take 1 (List.drop (j*1) [.ints .i64 (T 0),.ints .i64 (T 1),.ints .i64 (T 2)]))],.ref [V.sl2 3 [.str (H 0).1,.str (H 0).2,.str (H 1).1,.str (H 1).2,.str (H 2).1,.str (H 2).2]],.ref [V.sl2 3 [.str (Y 0).1,.str (Y 0).2,.str (Y 1).1,.str (Y 1).2,.str (Y 2).1,.str (Y 2).2]],.ref [.ints .i64 lo],.ref [.ints .i64 hi]]) (.tup [.agg [.int .i64 b.1,.int .i64 b.2],.int .i64 0]):=by
 refine V.en tbOk Tryz.func59 ?_
 refine V.r0 jh7 ?_
 refine⟨Pq34z,[],V.pok,?_⟩
 refine jab [(9,.box 9 0),(10,.int .i64 0)] [(9,.box [.str d0,.str d1])] ?_ ?_
 ·exact V.d1 jh7 sp
 refine V.r0 jh7 ?_
 refine⟨Pq0z,[],V.pok,?_⟩
 refine jab [(8,.int .i64 0)] [(7,.box [.int .i64 b.1,.int .i64 b.2])] ?_ ?_
 ·exact V.d3 jh7 o1 o2 cf
 refine V.r0 @jiA ?_
 exact Fin.of rfl
theorem bands2_331 (T:Nat→List Int)(H Y:Nat→Tx)(lo hi:List Int)(d0 d1 l0 l1 h0 h1:List UInt8)(b:Int×Int)(hlo:lo.length=3)(hhi:hi.length=3)(sp:Cl 60 [.ints .i64 (T 1),V.sl2 3 [.str (H 0).1,.str (H 0).2,.str (H 1).1,.str (H 1).2,.str (H 2).1,.str (H 2).2]] (.tup [.agg [.str d0,.str d1],.int .i64 0]))(o1:Cl 58 [.int .i64 (lo.getD 1 0),.int .i64 65535] (.agg [.str l0,.str l1]))(o2:Cl 58 [.int .i64 (hi.getD 1 0),.int .i64 65535] (.agg [.str h0,.str h1]))
  (cf:Cl 61 [.agg [.str (Y 1).1,.str (Y 1).2],.agg [.str d0,.str d1],.agg [.str l0,.str l1],.agg [.str h0,.str h1]] (.tup [.agg [.int .i64 b.1,.int .i64 b.2],.int .i64 0])) :
  Cl 59 (.int .i64 1::[.ref [.slf 1 3 (fun j=>List.take 1 (List.drop (j*1) [.ints .i64 (T 0),.ints .i64 (T 1),.ints .i64 (T 2)]))],.ref [V.sl2 3 [.str (H 0).1,.str (H 0).2,.str (H 1).1,.str (H 1).2,.str (H 2).1,.str (H 2).2]],.ref [V.sl2 3 [.str (Y 0).1,.str (Y 0).2,.str (Y 1).1,.str (Y 1).2,.str (Y 2).1,.str (Y 2).2]],.ref [.ints .i64 lo],.ref [.ints .i64 hi]]) (.tup [.agg [.int .i64 b.1,.int .i64 b.2],.int .i64 0]):=by
 refine V.en tbOk Tryz.func59 ?_
 refine V.r0 jh7 ?_
 refine⟨Pq34z,[],V.pok,?_⟩
 refine jab [(9,.box 9 0),(10,.int .i64 0)] [(9,.box [.str d0,.str d1])] ?_ ?_
 ·exact V.d1 jh7 sp
 refine V.r0 jh7 ?_
 refine⟨Pq0z,[],V.pok,?_⟩
 refine jab [(8,.int .i64 0)] [(7,.box [.int .i64 b.1,.int .i64 b.2])] ?_ ?_
 ·exact V.d3 jh7 o1 o2 cf
 refine V.r0 @jiA ?_
 exact Fin.of rfl
theorem bands2_332 (T:Nat→List Int)(H Y:Nat→Tx)(lo hi:List Int)(d0 d1 l0 l1 h0 h1:List UInt8)(b:Int×Int)(hlo:lo.length=3)(hhi:hi.length=3)(sp:Cl 60 [.ints .i64 (T 2),V.sl2 3 [.str (H 0).1,.str (H 0).2,.str (H 1).1,.str (H 1).2,.str (H 2).1,.str (H 2).2]] (.tup [.agg [.str d0,.str d1],.int .i64 0]))(o1:Cl 58 [.int .i64 (lo.getD 2 0),.int .i64 65535] (.agg [.str l0,.str l1]))(o2:Cl 58 [.int .i64 (hi.getD 2 0),.int .i64 65535] (.agg [.str h0,.str h1]))
  (cf:Cl 61 [.agg [.str (Y 2).1,.str (Y 2).2],.agg [.str d0,.str d1],.agg [.str l0,.str l1],.agg [.str h0,.str h1]] (.tup [.agg [.int .i64 b.1,.int .i64 b.2],.int .i64 0])) :
  Cl 59 (.int .i64 2::[.ref [.slf 1 3 (fun j=>List.take 1 (List.drop (j*1) [.ints .i64 (T 0),.ints .i64 (T 1),.ints .i64 (T 2)]))],.ref [V.sl2 3 [.str (H 0).1,.str (H 0).2,.str (H 1).1,.str (H 1).2,.str (H 2).1,.str (H 2).2]],.ref [V.sl2 3 [.str (Y 0).1,.str (Y 0).2,.str (Y 1).1,.str (Y 1).2,.str (Y 2).1,.str (Y 2).2]],.ref [.ints .i64 lo],.ref [.ints .i64 hi]]) (.tup [.agg [.int .i64 b.1,.int .i64 b.2],.int .i64 0]):=by
 refine V.en tbOk Tryz.func59 ?_
 refine V.r0 jh7 ?_
 refine⟨Pq34z,[],V.pok,?_⟩
 refine jab [(9,.box 9 0),(10,.int .i64 0)] [(9,.box [.str d0,.str d1])] ?_ ?_
 ·exact V.d1 jh7 sp
 refine V.r0 jh7 ?_
 refine⟨Pq0z,[],V.pok,?_⟩
 refine jab [(8,.int .i64 0)] [(7,.box [.int .i64 b.1,.int .i64 b.2])] ?_ ?_
 ·exact V.d3 jh7 o1 o2 cf
 refine V.r0 @jiA ?_
 exact Fin.of rfl
theorem bands2_340 (T:Nat→List Int)(H Y:Nat→Tx)(lo hi:List Int)(d0 d1 l0 l1 h0 h1:List UInt8)(b:Int×Int)(hlo:lo.length=4)(hhi:hi.length=4)(sp:Cl 60 [.ints .i64 (T 0),V.sl2 3 [.str (H 0).1,.str (H 0).2,.str (H 1).1,.str (H 1).2,.str (H 2).1,.str (H 2).2]] (.tup [.agg [.str d0,.str d1],.int .i64 0]))(o1:Cl 58 [.int .i64 (lo.getD 0 0),.int .i64 65535] (.agg [.str l0,.str l1]))(o2:Cl 58 [.int .i64 (hi.getD 0 0),.int .i64 65535] (.agg [.str h0,.str h1]))
  (cf:Cl 61 [.agg [.str (Y 0).1,.str (Y 0).2],.agg [.str d0,.str d1],.agg [.str l0,.str l1],.agg [.str h0,.str h1]] (.tup [.agg [.int .i64 b.1,.int .i64 b.2],.int .i64 0])) :
  Cl 59 (.int .i64 0::[.ref [.slf 1 4 (fun j=>List.take 1 (List.drop (j*1) [.ints .i64 (T 0),.ints .i64 (T 1),.ints .i64 (T 2),.ints .i64 (T 3)]))],.ref [V.sl2 3 [.str (H 0).1,.str (H 0).2,.str (H 1).1,.str (H 1).2,.str (H 2).1,.str (H 2).2]],.ref [V.sl2 4 [.str (Y 0).1,.str (Y 0).2,.str (Y 1).1,.str (Y 1).2,.str (Y 2).1,.str (Y 2).2,.str (Y 3).1,.str (Y 3).2]],.ref [.ints .i64 lo],.ref [.ints .i64 hi]]) (.tup [.agg [.int .i64 b.1,.int .i64 b.2],.int .i64 0]):=by
 refine V.en tbOk Tryz.func59 ?_
 refine V.r0 jh7 ?_
 refine⟨Pq34z,[],V.pok,?_⟩
 refine jab [(9,.box 9 0),(10,.int .i64 0)] [(9,.box [.str d0,.str d1])] ?_ ?_
 ·exact V.d1 jh7 sp
 refine V.r0 jh7 ?_
 refine⟨Pq0z,[],V.pok,?_⟩
 refine jab [(8,.int .i64 0)] [(7,.box [.int .i64 b.1,.int .i64 b.2])] ?_ ?_
 ·exact V.d3 jh7 o1 o2 cf
 refine V.r0 @jiA ?_
 exact Fin.of rfl
theorem bands2_341 (T:Nat→List Int)(H Y:Nat→Tx)(lo hi:List Int)(d0 d1 l0 l1 h0 h1:List UInt8)(b:Int×Int)(hlo:lo.length=4)(hhi:hi.length=4)(sp:Cl 60 [.ints .i64 (T 1),V.sl2 3 [.str (H 0).1,.str (H 0).2,.str (H 1).1,.str (H 1).2,.str (H 2).1,.str (H 2).2]] (.tup [.agg [.str d0,.str d1],.int .i64 0]))(o1:Cl 58 [.int .i64 (lo.getD 1 0),.int .i64 65535] (.agg [.str l0,.str l1]))(o2:Cl 58 [.int .i64 (hi.getD 1 0),.int .i64 65535] (.agg [.str h0,.str h1]))
  (cf:Cl 61 [.agg [.str (Y 1).1,.str (Y 1).2],.agg [.str d0,.str d1],.agg [.str l0,.str l1],.agg [.str h0,.str h1]] (.tup [.agg [.int .i64 b.1,.int .i64 b.2],.int .i64 0])) :
  Cl 59 (.int .i64 1::[.ref [.slf 1 4 (fun j=>List.take 1 (List.drop (j*1) [.ints .i64 (T 0),.ints .i64 (T 1),.ints .i64 (T 2),.ints .i64 (T 3)]))],.ref [V.sl2 3 [.str (H 0).1,.str (H 0).2,.str (H 1).1,.str (H 1).2,.str (H 2).1,.str (H 2).2]],.ref [V.sl2 4 [.str (Y 0).1,.str (Y 0).2,.str (Y 1).1,.str (Y 1).2,.str (Y 2).1,.str (Y 2).2,.str (Y 3).1,.str (Y 3).2]],.ref [.ints .i64 lo],.ref [.ints .i64 hi]]) (.tup [.agg [.int .i64 b.1,.int .i64 b.2],.int .i64 0]):=by
 refine V.en tbOk Tryz.func59 ?_
 refine V.r0 jh7 ?_
 refine⟨Pq34z,[],V.pok,?_⟩
 refine jab [(9,.box 9 0),(10,.int .i64 0)] [(9,.box [.str d0,.str d1])] ?_ ?_
 ·exact V.d1 jh7 sp
 refine V.r0 jh7 ?_
 refine⟨Pq0z,[],V.pok,?_⟩
 refine jab [(8,.int .i64 0)] [(7,.box [.int .i64 b.1,.int .i64 b.2])] ?_ ?_
 ·exact V.d3 jh7 o1 o2 cf
 refine V.r0 @jiA ?_
 exact Fin.of rfl
theorem bands2_342 (T:Nat→List Int)(H Y:Nat→Tx)(lo hi:List Int)(d0 d1 l0 l1 h0 h1:List UInt8)(b:Int×Int)(hlo:lo.length=4)(hhi:hi.length=4)(sp:Cl 60 [.ints .i64 (T 2),V.sl2 3 [.str (H 0).1,.str (H 0).2,.str (H 1).1,.str (H 1).2,.str (H 2).1,.str (H 2).2]] (.tup [.agg [.str d0,.str d1],.int .i64 0]))(o1:Cl 58 [.int .i64 (lo.getD 2 0),.int .i64 65535] (.agg [.str l0,.str l1]))(o2:Cl 58 [.int .i64 (hi.getD 2 0),.int .i64 65535] (.agg [.str h0,.str h1]))
  (cf:Cl 61 [.agg [.str (Y 2).1,.str (Y 2).2],.agg [.str d0,.str d1],.agg [.str l0,.str l1],.agg [.str h0,.str h1]] (.tup [.agg [.int .i64 b.1,.int .i64 b.2],.int .i64 0])) :
  Cl 59 (.int .i64 2::[.ref [.slf 1 4 (fun j=>List.take 1 (List.drop (j*1) [.ints .i64 (T 0),.ints .i64 (T 1),.ints .i64 (T 2),.ints .i64 (T 3)]))],.ref [V.sl2 3 [.str (H 0).1,.str (H 0).2,.str (H 1).1,.str (H 1).2,.str (H 2).1,.str (H 2).2]],.ref [V.sl2 4 [.str (Y 0).1,.str (Y 0).2,.str (Y 1).1,.str (Y 1).2,.str (Y 2).1,.str (Y 2).2,.str (Y 3).1,.str (Y 3).2]],.ref [.ints .i64 lo],.ref [.ints .i64 hi]]) (.tup [.agg [.int .i64 b.1,.int .i64 b.2],.int .i64 0]):=by
 refine V.en tbOk Tryz.func59 ?_
 refine V.r0 jh7 ?_
 refine⟨Pq34z,[],V.pok,?_⟩
 refine jab [(9,.box 9 0),(10,.int .i64 0)] [(9,.box [.str d0,.str d1])] ?_ ?_
 ·exact V.d1 jh7 sp
 refine V.r0 jh7 ?_
 refine⟨Pq0z,[],V.pok,?_⟩
 refine jab [(8,.int .i64 0)] [(7,.box [.int .i64 b.1,.int .i64 b.2])] ?_ ?_
 ·exact V.d3 jh7 o1 o2 cf
 refine V.r0 @jiA ?_
 exact Fin.of rfl
theorem bands2_343 (T:Nat→List Int)(H Y:Nat→Tx)(lo hi:List Int)(d0 d1 l0 l1 h0 h1:List UInt8)(b:Int×Int)(hlo:lo.length=4)(hhi:hi.length=4)(sp:Cl 60 [.ints .i64 (T 3),V.sl2 3 [.str (H 0).1,.str (H 0).2,.str (H 1).1,.str (H 1).2,.str (H 2).1,.str (H 2).2]] (.tup [.agg [.str d0,.str d1],.int .i64 0]))(o1:Cl 58 [.int .i64 (lo.getD 3 0),.int .i64 65535] (.agg [.str l0,.str l1]))(o2:Cl 58 [.int .i64 (hi.getD 3 0),.int .i64 65535] (.agg [.str h0,.str h1]))
  (cf:Cl 61 [.agg [.str (Y 3).1,.str (Y 3).2],.agg [.str d0,.str d1],.agg [.str l0,.str l1],.agg [.str h0,.str h1]] (.tup [.agg [.int .i64 b.1,.int .i64 b.2],.int .i64 0])) :
  Cl 59 (.int .i64 3::[.ref [.slf 1 4 (fun j=>List.take 1 (List.drop (j*1) [.ints .i64 (T 0),.ints .i64 (T 1),.ints .i64 (T 2),.ints .i64 (T 3)]))],.ref [V.sl2 3 [.str (H 0).1,.str (H 0).2,.str (H 1).1,.str (H 1).2,.str (H 2).1,.str (H 2).2]],.ref [V.sl2 4 [.str (Y 0).1,.str (Y 0).2,.str (Y 1).1,.str (Y 1).2,.str (Y 2).1,.str (Y 2).2,.str (Y 3).1,.str (Y 3).2]],.ref [.ints .i64 lo],.ref [.ints .i64 hi]]) (.tup [.agg [.int .i64 b.1,.int .i64 b.2],.int .i64 0]):=by
 refine V.en tbOk Tryz.func59 ?_
 refine V.r0 jh7 ?_
 refine⟨Pq34z,[],V.pok,?_⟩
 refine jab [(9,.box 9 0),(10,.int .i64 0)] [(9,.box [.str d0,.str d1])] ?_ ?_
 ·exact V.d1 jh7 sp
 refine V.r0 jh7 ?_
 refine⟨Pq0z,[],V.pok,?_⟩
 refine jab [(8,.int .i64 0)] [(7,.box [.int .i64 b.1,.int .i64 b.2])] ?_ ?_
 ·exact V.d3 jh7 o1 o2 cf
 refine V.r0 @jiA ?_
 exact Fin.of rfl
end Go.Proofs.YtgjgpdceghjajaaGreatDoor
end
