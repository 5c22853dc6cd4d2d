/- What functions of the program answer at given values, part 14. Conditions: those that each theorem names. -/
import Derived.Test.YtgjgpdceghjajaaGreatDoorSimplexCornersH13
import Derived.Test.YtgjgpdceghjajaaGreatDoorSimplexCornersH6
import Derived.Test.YtgjgpdceghjajaaGreatDoorSimplexCornersH10
import Derived.Test.YtgjgpdceghjajaaGreatDoorSimplexCornersH11
set_option linter.unusedSimpArgs false
set_option linter.unusedVariables false
set_option maxHeartbeats 8000000
set_option maxRecDepth 100000
section
namespace Go.Proofs.YtgjgpdceghjajaaGreatDoor
open Go Go.V Go.Nb Go.Gr
def cnP (out:Int)(ns:List Nat):Nat→Int
 | 0=>out
 | k+1=>cnP out ns k*(ns.getD k 1:Nat)
theorem cnP_bd {out:Int}{ns:List Nat}(ho:1≤out∧out≤4)(h2:∀ n∈ns,2≤n∧n≤9):∀ k,1≤cnP out ns k∧cnP out ns k≤4*9^k
 | 0=>by simp only[cnP];omega
 | k+1=>by
  have ih:=cnP_bd ho h2 k
  have hb:1≤ns.getD k 1∧ns.getD k 1≤9:=by
   rw[jiA]
   cases h:ns[k]? with
   | none=>simp
   | some n=>have:=h2 n (jiE h);simp;omega
  simp only[cnP,Int.pow_succ]
  generalize ns.getD k 1=b at hb
  generalize (9:Int)^k=p at ih
  have h1:cnP out ns k*1≤cnP out ns k*(b:Int):=jim (by omega) (by omega)
  have h3:cnP out ns k*(b:Int)≤cnP out ns k*9:=jim (by omega) (by omega)
  omega
theorem rpow9 (k:Nat)(h:k≤4):(4:Int)*9^k≤26244:=by
 have:k=0∨k=1∨k=2∨k=3∨k=4:=by omega
 rcases this with rfl|rfl|rfl|rfl|rfl<;>decide
theorem jdL (Y:Nat→Tx):∀ n k,k<n→List.take 2 (List.drop (k*2) (wce Y n))=[.str (Y k).1,.str (Y k).2]
 | 0,k,h=>absurd h (Nat.not_lt_zero _)
 | n+1,k,h=>by
  have hl:∀ n,(wce Y n).length=n*2:=fun n=>by
   induction n with
   | zero=>rfl
   | succ n ih=>simp only[wce,jiF,ih];simp;omega
  rw[wce]
  rcases jid k n with g|g
  ·have ih:=jdL Y n k g
   rw[List.drop_append_of_le_length (by rw[hl];omega),List.take_append_of_le_length (by rw[jiT,hl];omega),ih]
  ·have:k=n:=by omega
   subst this
   rw[List.drop_append,jiO (by rw[hl];omega),hl,Nat.sub_self]
   rfl
theorem jgV (sz:List Int):Cl 67 [.ints .i64 sz] (.fn 110 [] [.ref [.ints .i64 sz]]):=by
 refine V.en tbOk Tryz.func67 ?_
 refine V.r0 @jh3 ?_
 exact Fin.of rfl
theorem jfC (g:Nat→Int){o k:Nat}(h:k<o):((List.range o).map g).take (k+1)=((List.range o).map g).take k++[g k]:=by
 rw[jiV]
 congr 1
 simp[h]
theorem jhR:type_of% @jh5∧type_of% @jh3∧type_of% @tn0∧type_of% @tn1∧type_of% @tn2∧type_of% @tn3∧type_of% @xt4:=⟨@jh5,@jh3,@tn0,@tn1,@tn2,@tn3,@xt4⟩
theorem zX45_1:type_of% @jh5∧type_of% @jh3:=⟨@jh5,@jh3⟩
theorem zX45_2:type_of% @jh5∧type_of% @List.drop_zero.{0} ∧ type_of% @List.take_succ_cons.{0} ∧ type_of% @List.take_zero.{0} ∧ type_of% @jh3∧type_of% @tn0∧type_of% @tn1∧type_of% @tn2∧type_of% @tn3∧type_of% @xt4:=⟨@jh5,@List.drop_zero.{0},@List.take_succ_cons.{0},@List.take_zero.{0},@jh3,@tn0,@tn1,@tn2,@tn3,@xt4⟩
theorem refine2_t (zs data:List Int)(out:Int)(ns:List Nat)(X Y:Nat→Nat→Tx)(W:Nat→Nat→Int)(hl:zs.length=2)(hn:ns.length=2)(h2:∀ n∈ns,2≤n∧n≤9)(ho:1≤out∧out≤4)(hc:cnP out ns 2≤4096)
  (gr:Cl 37 [.agg [.ints .i64 zs,.int .i64 out,.ints .i64 data]] (.int .i64 0))
  (ov:∀ m i,m<PR ns→i<2→Cl 58 [.int .i64 ((pad4 (ixl ns m)).getD i 0),.int .i64 ((nz ns).getD i 0-1)] (.agg [.str (X m i).1,.str (X m i).2]))
  (ev:∀ m,m<PR ns→Cl 15 [.agg [.ints .i64 zs,.int .i64 out,.ints .i64 data],V.sl2 2 [.str (X m 0).1,.str (X m 0).2,.str (X m 1).1,.str (X m 1).2]] (.tup [.slf 2 out.toNat (fun j=>List.take 2 (List.drop (j*2) (wce (Y m) out.toNat))),.int .i64 0]))
  (nr:∀ m j,m<PR ns→j<out.toNat→Cl 68 [.agg [.str (Y m j).1,.str (Y m j).2],.int .i64 65535] (.tup [.int .i64 (W m j),.int .i64 0])) :
  Cl 33 [.agg [.ints .i64 zs,.int .i64 out,.ints .i64 data],.ints .i64 (nz ns)] (.tup [.agg [.ints .i64 (nz ns),.int .i64 out,.ints .i64 (flat ns (fun m=>(List.range out.toNat).map (W m)) (PR ns))],.int .i64 0]):=by
 have hlen:(nz ns).length=ns.length:=by simp[nz]
 have hlz:(nz ns).length=2:=by rw[hlen,hn]
 have hli:((nz ns).length:Int)=2:=by rw[hlz];rfl
 have hz:((zs.length:Nat):Int)=2:=by rw[hl];rfl
 have h1:1≤ns.length∧ns.length≤4:=by omega
 have po:=jgV (nz ns)
 have cl:=clone_c (nz ns) (by omega)
 have hcb:=cnP_bd ho h2
 refine V.en tbOk Tryz.func33 ?_
 refine V.r1 jhR gr ?_
 refine Cnd.split (CondB.mk (fun h=>absurd h (by rw[hl,hlz];simp)) (fun _=>?_))
 refine V.r0 jhR ?_
 refine lp_go (ns.length) (fun k=>True) (fun k=>[(38,.int .i64 k),(7,.int .i64 (cnP out ns k))]) (fun k=>[]) V.wk ?_ ?_
 ·trivial
 intro k hk _
 have hck:=hcb k
 have hck1:=hcb (k+1)
 have hk9:(4:Int)*9^k≤26244:=rpow9 k (by omega)
 (conv=>whnf)
 refine V.st ?_
 refine V.br (fun h=>?_) (fun h=>?_)
 ·rw[hlen] at h
  simp only[decide_eq_true_eq] at h
  have hk1:k<ns.length:=by omega
  have hk91:(4:Int)*9^(k+1)≤26244:=rpow9 (k+1) (by omega)
  obtain⟨n,hnk⟩:∃ n,ns[k]? = some n:=⟨ns[k],jiD hk1⟩
  have hn0:=h2 n (jiE hnk)
  have en:(nz ns).getD k 0=n:=by simp[nz,jiA,hnk]
  have ec:cnP out ns (k+1)=cnP out ns k*(n:Int):=by simp[cnP,jiA,hnk]
  rw[ec] at hck1
  refine V.r0 (V.a2 jhR @en) ?_
  refine Cnd.split (CondB.mk (fun h=>absurd h (by simp;omega)) (fun _=>?_))
  (conv=>whnf)
  (try simp only[jhR,en,← ec])
  repeat ((first|refine V.s1 ?_);(try simp only[jhR,en,← ec]))
  exact⟨k+1,⟨by omega,trivial⟩,by omega,V.wk⟩
 ·rw[hlen] at h
  simp only[decide_eq_false_iff_not] at h
  have hk1:k=2:=by omega
  subst hk1
  clear hck hck1
  refine V.r0 jhR ?_
  refine Cnd.split (CondB.mk (fun h=>absurd h (by simp;omega)) (fun _=>?_))
  refine V.r0 jhR ?_
  refine⟨(V.tk [0,2,3] (.ev (.cons 1 [3,2] (V.tk [4] (V.e1 5 [4,3,2] (V.e1 6 [] .done))) (.cons 5 [3,2,0] (V.e1 1 [3,2] (V.tk [4] (V.e1 6 [] .done))) .nil)))),[],V.pok,?_⟩
  refine jab [(10,.box 10 0)] [(10,.box [.ints .i64 (nz ns),.int .i64 out,.nil])] ?_ ?_
  ·exact V.d1 jhR cl
  refine V.r1 jhR po ?_
  refine⟨_,_,⟨Tryz.func110,rfl,rfl,jhY rfl⟩,?_⟩
  refine V.r0 @jh3 ?_
  refine lp_go (ns.length) (fun k=>True) (fun k=>[(10,.int .i64 k)]) (fun k=>[(122,.arr .i64 (pad4 ((lastL ns).take k)))]) V.wk ?_ ?_
  ·trivial
  intro k hk _
  (conv=>whnf)
  refine V.st ?_
  refine V.br (fun h=>?_) (fun h=>?_)
  ·rw[hlen] at h
   simp only[decide_eq_true_eq] at h
   have hk1:k<ns.length:=by omega
   obtain⟨n,hnk⟩:∃ n,ns[k]? = some n:=⟨ns[k],jiD hk1⟩
   have hn0:=h2 n (jiE hnk)
   have en:(nz ns).getD k 0=n:=by simp[nz,jiA,hnk]
   have hll:(lastL ns)[k]? = some ((n:Int)-1):=by simp[lastL,hnk]
   have hp4:(pad4 ((lastL ns).take k)).length=4:=jaA (by simp[lastL];omega)
   have hps:=jfR hll (by simp[lastL];omega)
   refine V.r0 (V.a3 zX45_1 @en hps) ?_
   exact⟨k+1,⟨by omega,trivial⟩,by omega,V.wk⟩
  ·rw[hlen] at h
   simp only[decide_eq_false_iff_not] at h
   have hk1:k=ns.length:=by omega
   subst hk1
   have e0:(lastL ns).take ns.length=lastL ns:=jiN (by simp[lastL])
   rw[e0]
   (conv=>whnf)
   refine V.st ?_
   refine Lp.ghostBox 279 10 2 .i64 (by decide) (by decide) ?_
   (conv=>whnf)
   have e1:=ixl_pad0 h1 h2
   have hpos:∀ n∈ns,0<n:=fun n hn=>by have:=h2 n hn;omega
   refine jac (0) (fun k=>k<PR ns) (fun k=>PR ns-k) (fun k=>[]) (fun k=>[(117,.lp none),(121,.arr .i64 (pad4 (ixl ns k))),(10,.box [.ints .i64 (nz ns),.int .i64 out,.osl 279 0 (flat ns (fun m=>(List.range out.toNat).map (W m)) k).length]),(279,.arr .i64 (flat ns (fun m=>(List.range out.toNat).map (W m)) k))]) ?_ ?_ ?_
   ·rw[e1]
    exact V.wk
   ·exact jcV hpos
   intro m hm
   have evm:=ev m hm
   have hlm:((List.range out.toNat).map (W m)).length=out.toNat:=by simp
   have hp4:(pad4 (ixl ns m)).length=4:=jaA (by rw[jao];omega)
   have hp4l:(pad4 (lastL ns)).length=4:=jaA (by simp[lastL];omega)
   have hfl:(flat ns (fun m=>(List.range out.toNat).map (W m)) m).length≤4*m:=flat_len (fun j hj=>by simp;omega)
   have hPR:=PR_le h1.2 h2
   have xb:∀ i n,ns[i]? = some n→(0≤(pad4 (ixl ns m)).getD i 0∧(pad4 (ixl ns m)).getD i 0≤8)∧(2≤(nz ns).getD i 0∧(nz ns).getD i 0≤9):=by
    intro i n h
    have e:=jf0 ns m i n h
    have b:=jdS hpos h e
    have b2:=h2 n (jiE h)
    have hi:=(jiJ.1 h).1
    have e2:=jch (k:=ns.length) e hi (by rw[jao];omega)
    rw[jiN (by rw[jao];omega)] at e2
    rw[e2]
    simp[nz,jiA,h]
    simp at b
    omega
   have i69:=fun i (hi:i<2)=>ns.getElem?_eq_getElem (show i<ns.length by omega)
   refine V.r0 (V.a2 jhR hli) ?_
   refine jac (0:Nat) (fun k=>k≤2) (fun k=>2-k) (fun k=>[(69,.int .i64 (k:Nat))]) (fun k=>[(232,.box (preD (2*k) [.str (X m 0).1,.str (X m 0).2,.str (X m 1).1,.str (X m 1).2]))]) ?_ ?_ ?_
   ·exact V.wk
   ·exact jhZ _
   intro k hk
   have hk4:k=0∨k=1∨k=2:=by omega
   rcases hk4 with e|e|e
   all_goals subst e
   ·simp only[k0]
    have c:=ov m 0 hm (by omega)
    have xb0:=xb 0 _ (i69 0 (by omega))
    refine V.r1 (V.a2 jhR hli) c ?_
    exact⟨1,by omega,by omega,V.wk⟩
   ·simp only[k1]
    have c:=ov m 1 hm (by omega)
    have xb1:=xb 1 _ (i69 1 (by omega))
    refine V.r1 (V.a2 jhR hli) c ?_
    exact⟨2,by omega,by omega,V.wk⟩
   ·simp only[k2]
    refine V.r1 (V.a2 jhR hli) evm ?_
    obtain⟨E,hE0,hEs,hEn,hEl⟩:∃ E:Nat→List Int,E 0=flat ns (fun m=>(List.range out.toNat).map (W m)) m∧(∀ k,k<out.toNat→E k++[W m k]=E (k+1))∧E out.toNat=flat ns (fun m=>(List.range out.toNat).map (W m)) (m+1) ∧ ∀ k,k≤out.toNat→(E k).length≤30000:=by
     refine⟨fun k=>flat ns (fun m=>(List.range out.toNat).map (W m)) m++((List.range out.toNat).map (W m)).take k,by simp,fun k hk=>?_,?_,fun k hk=>?_⟩
     ·show flat ns _ m++((List.range out.toNat).map (W m)).take k++[W m k]=flat ns _ m++((List.range out.toNat).map (W m)).take (k+1)
      rw[jfC _ hk,jiH]
     ·show flat _ _ _++_=_
      rw[jdp,jiN (by simp)]
     ·show (flat _ _ _++_).length≤_
      rw[jiF,jiG]
      omega
    rw[← hE0]
    refine lp_go (out.toNat) (fun k=>True) (fun k=>[(96,.int .i64 k)]) (fun k=>[(10,.box [.ints .i64 (nz ns),.int .i64 out,.osl 279 0 (E k).length]),(279,.arr .i64 (E k))]) V.wk ?_ ?_
    ·trivial
    intro k hk _
    (conv=>whnf)
    refine V.st ?_
    refine V.br (fun h=>?_) (fun h=>?_)
    ·simp only[decide_eq_true_eq] at h
     have hk1:k<out.toNat:=by omega
     have e:=jdL (Y m) out.toNat k hk1
     have nrk:=nr m k hm hk1
     have hEk:=hEs k hk1
     have hEl1:=hEl k hk
     have hEl2:(E k).length+1=(E (k+1)).length:=by rw[← hEk];simp
     (conv=>whnf)
     (try simp only[zX45_2,hEk,hEl2,← jiF])
     repeat ((first|refine V.s1 ?_|((try ((with_reducible refine .ext ?_);(conv=>whnf);(try simp only[zX45_2,hEk,hEl2,← jiF])));(with_reducible refine jaa (r:=?_) ?_ ?_);rotate_left;(focus (first|exact(nrk)));(conv=>whnf))|((simp only[e]);(conv=>whnf)));(try simp only[zX45_2,hEk,hEl2,← jiF]))
     exact⟨k+1,⟨by omega,trivial⟩,by omega,V.wk⟩
    ·simp only[decide_eq_false_iff_not] at h
     have hk1:k=out.toNat:=by omega
     subst hk1
     rw[hEn]
     (conv=>whnf)
     refine V.st ?_
     refine V.br (fun hq=>?_) (fun hq=>?_)
     ·have hq2:ixl ns m≠lastL ns:=fun e=>by rw[e] at hq;simp at hq
      have hil:=jao ns m
      have hll:(lastL ns).length=ns.length:=by simp[lastL]
      (conv=>whnf)
      refine V.st ?_
      rw[hlen]
      have e2:(ixl ns m).take ns.length=ixl ns m:=jiN (by omega)
      refine jac (ns.length) (fun k=>(1≤k∧k≤ns.length)∧(ixl ns m).drop k=(lastL ns).drop k) (fun k=>k) (fun k=>[(7,.int .i64 ((k:Int)-1))]) (fun k=>[(121,.arr .i64 (pad4 ((ixl ns m).take k)))]) ?_ ?_ ?_
      ·rw[e2]
       exact V.wk
      ·exact⟨⟨h1.1,jh6 _⟩,by rw[jiO (by omega),jiO (by omega)]⟩
      rintro p ⟨⟨hp1,hp2⟩,hp3⟩
      obtain⟨p,rfl⟩:∃ q,p=q+1:=⟨p-1,by omega⟩
      obtain⟨x,hx⟩:∃ x,(ixl ns m)[p]? = some x:=⟨_,jiD (by omega)⟩
      obtain⟨n,hn⟩:∃ n,ns[p]? = some n:=⟨ns[p],jiD (by omega)⟩
      have hpx:=jch hx (by omega:p<p+1) (by omega)
      have hpl:(lastL ns)[p]? = some ((n:Int)-1):=by simp[lastL,hn]
      have hpl2:=jch (k:=4) hpl (by omega) (by omega)
      rw[jiN (by omega)] at hpl2
      have hp5:(pad4 ((ixl ns m).take (p+1))).length=4:=jaA (by simp;omega)
      have e3:((p+1:Nat):Int)-1=(p:Int):=by omega
      have e4:=jep hx (by omega)
      (conv=>whnf)
      refine V.st ?_
      refine⟨(V.tk [0,1,2,3,4,5,6] .done),[],V.pok,.go (jae ?_)⟩
      refine V.r0 (V.a4 zX45_1 e3 hpx hpl2) ?_
      refine V.br (fun hc=>?_) (fun hc=>?_)
      ·simp only[decide_eq_true_eq] at hc
       have hd:(ixl ns m).drop p=(lastL ns).drop p:=by
        rw[jiQ (by omega:p<(ixl ns m).length),jiQ (by omega:p<(lastL ns).length),hp3,(jiJ.1 hx).2,(jiJ.1 hpl).2,hc]
       have hp0:1≤p:=by
        rcases jh7 p with e|e
        ·subst e;exact absurd (by simpa using hd) hq2
        ·exact e
       refine V.r0 (V.a3 zX45_1 e3 e4) ?_
       exact⟨p,⟨⟨hp0,by omega⟩,hd⟩,by omega,V.wk⟩
      ·simp only[decide_eq_false_iff_not] at hc
       have hsu:=jfZ ns hpos m p n hn x hx (by rw[hp3];simp[lastL]) hc
       have e5:=jdh (y:=x+1) hx (by omega) (by omega:(ixl ns m).length≤4)
       rw[hil,← hsu] at e5
       have hxb:=jdS hpos hn hx
       have hnb:=h2 n (jiE hn)
       have hm1:m+1<PR ns:=by
        rcases jid (m+1) (PR ns) with e|e
        ·exact e
        ·exfalso
         exact hq2 (jd7 ns hpos m (by rw[jia hm];omega))
       refine V.r0 (V.a4 zX45_1 e3 hpx e5) ?_
       exact⟨m+1,hm1,by omega,V.wk⟩
     ·have hq2:ixl ns m=lastL ns:=jfS (by rw[jao];simp[lastL]) (by simpa using hq)
      have hq3:=jd6 ns hpos m hq2
      rw[jia hm] at hq3
      have hq4:m+1=PR ns:=by omega
      rw[hq4]
      (conv=>whnf)
      refine V.st ?_
      rw[jiN (jh6 _)]
      exact Fin.of rfl
def coW:Nat→D
 | 0 => .nil
 | k+1 => .bsl 61 0 (k+1) 2
def coH (X:Nat→Tx):Nat→Hp
 | 0=>[]
 | k+1=>[(61,.box (wce X (k+1)))]
theorem codec (s:List UInt8):decide (s=s)=true:=by simp
theorem jhA:type_of% @jh5∧type_of% @List.getD_cons_succ.{0} ∧ type_of% @List.getD_cons_zero.{0} ∧ type_of% @List.take_succ_cons.{0} ∧ type_of% @List.take_zero.{0} ∧ type_of% @jh3∧type_of% @tn0∧type_of% @tn1∧type_of% @tn2∧type_of% @tn3∧type_of% @xt4:=⟨@jh5,@List.getD_cons_succ.{0},@List.getD_cons_zero.{0},@List.take_succ_cons.{0},@List.take_zero.{0},@jh3,@tn0,@tn1,@tn2,@tn3,@xt4⟩
theorem jhG:type_of% @jh5∧type_of% @List.getD_cons_succ.{0} ∧ type_of% @List.getD_cons_zero.{0} ∧ type_of% @List.take_succ_cons.{0} ∧ type_of% @List.take_zero.{0} ∧ type_of% @jh3∧type_of% @codec∧type_of% @tn0∧type_of% @tn1∧type_of% @tn2∧type_of% @tn3∧type_of% @xt4:=⟨@jh5,@List.getD_cons_succ.{0},@List.getD_cons_zero.{0},@List.take_succ_cons.{0},@List.take_zero.{0},@jh3,@codec,@tn0,@tn1,@tn2,@tn3,@xt4⟩
theorem lcorn1_t (ds vals data ix v lo hi:List Int)(oo out z:Int)(pr:Nat)(sm:Bool)(at' z1 z2:Nat→Int)(b1 b2:Nat→Bool)(p1 p2:Nat→List Int)(s0:Nat)(F1 F2:Nat→List D)(Z ONE:Tx)(X Y A B C P LO HI:Nat→Tx)(pb qb:Nat→Bool)
  (hz:0≤z∧z≤65535) (hpr:0<pr) (hdt:(data.length:Int)=pr*out) (hdl:data.length≤4096) (ho:1≤out∧out≤4) (hlx:ix.length=1) (hs:(2≤s0∧s0≤9)) (hv:v.length=out.toNat) (hlo:lo.length=out.toNat) (hhi:hi.length=out.toNat)
  (hB1:∀ i,pb i=true→B i=Z) (hB0:∀ i,pb i=false→B i=A i) (hC1:∀ i,qb i=true→C i=ONE) (hC0:∀ i,qb i=false→C i=B i)
  (wk:Cl 10 [] (.bool true))
  (gd:Cl 11 [.agg [.ints .u8 ds,.int .u8 oo,.ints .u16 vals,.bool sm]] (.agg [.ints .i64 [(s0:Int)],.int .i64 out,.ints .i64 data]))
  (iq:Cl 24 [.ints .i64 [(s0:Int)],.int .i64 (z%(pr:Int))] (.ints .i64 ix))
  (xo:∀ i,i<1→Cl 18 [.int .i64 (ix.getD i 0),.int .i64 (([(s0:Int)]:List Int).getD i 0-1)] (.agg [.str (X i).1,.str (X i).2]))
  (ga:Cl 20 [.agg [.ints .i64 [(s0:Int)],.int .i64 out,.ints .i64 data],.ints .i64 ix] (.tup [.ints .i64 v,.int .i64 0]))
  (ev:Cl 15 [.agg [.ints .i64 [(s0:Int)],.int .i64 out,.ints .i64 data],V.sl2 1 [.str (X 0).1,.str (X 0).2]] (.tup [V.sl2 out.toNat (wce Y out.toNat),.int .i64 0]))
  (rg:Cl 25 [.agg [.ints .i64 [(s0:Int)],.int .i64 out,.ints .i64 data]] (.tup [.ints .i64 lo,.ints .i64 hi,.int .i64 0]))
  (ov:∀ j,j<out.toNat→Cl 18 [.int .i64 (v.getD j 0),.int .i64 65535] (.agg [.str (Y j).1,.str (Y j).2]))
  (co:Cl 13 [(colD at' z1 z2 b1 b2 p1 p2),.int .i64 1] (.agg [V.sl2 1 [.str (A 0).1,.str (A 0).2],.slf 2 1 F1,.slf 2 1 F2]))
  (zf:Cl 18 [.int .i64 0,.int .i64 1] (.agg [.str Z.1,.str Z.2])) (of1:Cl 18 [.int .i64 1,.int .i64 1] (.agg [.str ONE.1,.str ONE.2]))
  (l0:∀ i,i<1→Cl 21 [.agg [.str (A i).1,.str (A i).2],.agg [.str Z.1,.str Z.2]] (.bool (pb i)))
  (l1:∀ i,i<1→Cl 21 [.agg [.str ONE.1,.str ONE.2],.agg [.str (B i).1,.str (B i).2]] (.bool (qb i)))
  (ea:Cl 15 [.agg [.ints .i64 [(s0:Int)],.int .i64 out,.ints .i64 data],V.sl2 1 [.str (A 0).1,.str (A 0).2]] (.tup [V.sl2 out.toNat (wce P out.toNat),.int .i64 0]))
  (ec:Cl 15 [.agg [.ints .i64 [(s0:Int)],.int .i64 out,.ints .i64 data],V.sl2 1 [.str (C 0).1,.str (C 0).2]] (.tup [V.sl2 out.toNat (wce P out.toNat),.int .i64 0]))
  (eq:Cl 16 [V.sl2 out.toNat (wce P out.toNat),V.sl2 out.toNat (wce P out.toNat)] (.bool true))
  (ol:∀ j,j<out.toNat→Cl 18 [.int .i64 (lo.getD j 0),.int .i64 65535] (.agg [.str (LO j).1,.str (LO j).2]))
  (oh:∀ j,j<out.toNat→Cl 18 [.int .i64 (hi.getD j 0),.int .i64 65535] (.agg [.str (HI j).1,.str (HI j).2]))
  (ll:∀ j,j<out.toNat→Cl 21 [.agg [.str (P j).1,.str (P j).2],.agg [.str (LO j).1,.str (LO j).2]] (.bool false))
  (lh:∀ j,j<out.toNat→Cl 21 [.agg [.str (HI j).1,.str (HI j).2],.agg [.str (P j).1,.str (P j).2]] (.bool false)) :
  Cl 5 [.agg [.ints .u8 ds,.int .u8 oo,.ints .u16 vals,.bool sm],(colD at' z1 z2 b1 b2 p1 p2),.int .u16 z] (.bool true):=by
 have hsl:(([(s0:Int)].length:Nat):Int)=1:=rfl
 have hvl:((v.length:Nat):Int)=out:=by rw[hv];omega
 have hll:((lo.length:Nat):Int)=out:=by rw[hlo];omega
 have hhl:((hi.length:Nat):Int)=out:=by rw[hhi];omega
 have hyl:((out.toNat:Nat):Int)=out:=by omega
 have hxl:((ix.length:Nat):Int)=1:=by rw[hlx];rfl
 have hdv:(data.length:Int)/out=(pr:Int):=by rw[hdt];exact Int.mul_ediv_cancel _ (by omega)
 have hmd:0≤z%(pr:Int)∧z%(pr:Int)<pr:=⟨jh0 _ (by omega),jiq _ (by omega)⟩
 refine V.en tbOk Tryz.func5 ?_
 refine V.r2 (V.a3 jhA hsl hdv) wk gd ?_
 refine⟨Pq11z,[],V.pok,?_⟩
 refine jab [(8,.ints .i64 ix)] [] ?_ ?_
 ·exact V.d1 (V.a3 jhA hsl hdv) iq
 refine V.r0 (V.a2 jhA hxl) ?_
 refine jac (0:Nat) (fun k=>k≤1) (fun k=>1-k) (fun k=>[(46,.int .i64 (k:Nat)),(9,coW k)]) (fun k=>coH X k) ?_ ?_ ?_
 ·exact V.wk
 ·exact jhZ _
 intro k hk
 have hk4:k=0∨k=1:=by omega
 rcases hk4 with e|e
 all_goals subst e
 ·simp only[k0,coW,coH]
  have c1:=xo 0 (by omega)
  have hs':=hs
  refine V.r1 (V.a3 jhA hsl hxl) c1 ?_
  exact⟨1,by omega,by omega,V.wk⟩
 ·simp only[k1,coW,coH]
  (conv=>whnf)
  repeat ((fail_if_success (with_reducible refine Cnd.split ?_));refine V.s1 ?_;(try simp only[jh3]))
  refine V.s1 ?_
  (conv=>whnf)
  (try simp only[jhA,hxl])
  repeat ((fail_if_success (with_reducible refine Cnd.split ?_));(first|refine V.s1 ?_|((try ((with_reducible refine .ext ?_);(conv=>whnf);(try simp only[jhA,hxl])));(with_reducible refine jaa (r:=?_) ?_ ?_);rotate_left;(focus (first|exact ga|exact ev|exact rg));(conv=>whnf)));(try simp only[jhA,hxl]))
  refine V.cnd_to [(7,.box 7 0),(4,.box 4 0),(12,.ints .i64 v),(14,V.sl2 out.toNat (wce Y out.toNat)),(16,.ints .i64 lo),(17,.ints .i64 hi)] [(7,.box [.ints .i64 [(s0:Int)],.int .i64 out,.ints .i64 data]),(4,.box [.int .i16 (at' 0),.int .i16 (at' 1),.int .i16 (at' 2),.int .i16 (at' 3),.bool (b1 0),.ints .u16 (p1 0),.int .u16 (z1 0),.bool (b2 0),.ints .u16 (p2 0),.int .u16 (z2 0),.bool (b1 1),.ints .u16 (p1 1),.int .u16 (z1 1),.bool (b2 1),.ints .u16 (p2 1),.int .u16 (z2 1),.bool (b1 2),.ints .u16 (p1 2),.int .u16 (z1 2),.bool (b2 2),.ints .u16 (p2 2),.int .u16 (z2 2),.bool (b1 3),.ints .u16 (p1 3),.int .u16 (z1 3),.bool (b2 3),.ints .u16 (p2 3),.int .u16 (z2 3)])] (CondB.mk (fun h=>absurd h (by rw[hvl,hyl,hll,hhl];simp)) (fun _=>?_)) ?_
  ·(conv=>whnf)
   exact V.wk
  refine V.r0 jhA ?_
  refine lp_go (out.toNat) (fun k=>True) (fun k=>[(121,.int .i64 k)]) (fun k=>[]) V.wk ?_ ?_
  ·trivial
  intro k hk _
  (conv=>whnf)
  refine V.st ?_
  refine V.br (fun h=>?_) (fun h=>?_)
  ·simp only[decide_eq_true_eq] at h
   have hk1:k<out.toNat:=by omega
   have e:=jdL Y out.toNat k hk1
   have c1:=ov k hk1
   have hkv:(k:Int)<v.length:=by rw[hv];omega
   refine V.r0 jhA ?_
   refine⟨Pq20z,[],V.pok,?_⟩
   refine jab [(133,.bool false)] [] ?_ ?_
   ·(conv=>whnf);(try simp only[jhG,decide_true,jih,jix,jig])
    repeat' (first|exact V.wk|((with_reducible refine And.intro ?_ jas);(conv=>whnf);(try simp only[jhG,decide_true,jih,jix,jig]))|((with_reducible first|refine jam ?_ ?_|refine jaq ?_ ?_)<;>(conv=>whnf);(try simp only[jhG,decide_true,jih,jix,jig]))|((first|refine V.s1 ?_|((with_reducible refine jaj ?_ ?_);(focus ((conv=>whnf);(try simp only[jhG,decide_true,jih,jix,jig]);(repeat ((first|refine V.s1 ?_|((simp only[e]);(conv=>whnf)));(try simp only[jhG,decide_true,jih,jix,jig])));exact⟨rfl⟩));(conv=>whnf))|((try ((with_reducible refine .ext ?_);(conv=>whnf);(try simp only[jhG,decide_true,jih,jix,jig])));(with_reducible refine jaa (r:=?_) ?_ ?_);rotate_left;(focus (first|exact(c1)));(conv=>whnf))|((simp only[e]);(conv=>whnf)));(try simp only[jhG,decide_true,jih,jix,jig]))|(refine And.intro ?_ ?_<;>(conv=>whnf);(try simp only[jhG,decide_true,jih,jix,jig])))
   refine V.r0 jhA ?_
   exact⟨k+1,⟨by omega,trivial⟩,by omega,V.wk⟩
  ·(conv=>whnf)
   (try simp only[jhA,hsl])
   repeat ((first|refine V.s1 ?_|((try ((with_reducible refine .ext ?_);(conv=>whnf);(try simp only[jhA,hsl])));(with_reducible refine jaa (r:=?_) ?_ ?_);rotate_left;(focus (first|exact(co)));(conv=>whnf))|((with_reducible refine .inl ?_);(conv=>whnf);(first|refine⟨0,_,_,⟨Tryz.func14,rfl,rfl,jhY rfl⟩,?_⟩);(conv=>whnf)));(try simp only[jhA,hsl]))
   refine V.r0 jhA ?_
   refine jac (0:Nat) (fun k=>k≤1) (fun k=>1-k) (fun k=>[(145,.int .i64 (k:Nat))]) (fun k=>[(237,.box (wce C k++List.drop (2*k) (wce A 1)))]) ?_ ?_ ?_
   ·exact V.wk
   ·exact jhZ _
   intro k hk
   have hk4:k=0∨k=1:=by omega
   rcases hk4 with e|e
   all_goals subst e
   ·simp only[k0]
    have c0:=l0 0 (by omega)
    have c1:=l1 0 (by omega)
    refine V.r0 jhA ?_
    refine⟨Pq46z,[],V.pok,?_⟩
    refine jab [(153,.bool (pb 0))] [] ?_ ?_
    ·exact V.d2 jhA zf c0
    (conv=>whnf)
    (try simp only[jhA])
    repeat ((fail_if_success (with_reducible refine Cnd.split ?_));(first|refine V.s1 ?_|((try ((with_reducible refine .ext ?_);(conv=>whnf);(try simp only[jhA])));(with_reducible refine jaa (r:=?_) ?_ ?_);rotate_left;(focus (first|fail));(conv=>whnf)));(try simp only[jhA]))
    refine jaw [] [(237,.box [.str (B 0).1,.str (B 0).2])] (CondB.mk (fun h=>?_) (fun h=>?_)) ?_
    ·have e:=hB1 0 h
     simp only[e]
     refine V.r1 jhA zf ?_
     exact V.wk
    ·have e:=hB0 0 h
     simp only[e]
     (conv=>whnf)
     exact V.wk
    refine V.r0 jhA ?_
    refine⟨Pq78z,[],V.pok,?_⟩
    refine jab [(163,.bool (qb 0))] [] ?_ ?_
    ·exact V.d2 jhA of1 c1
    (conv=>whnf)
    (try simp only[jhA])
    repeat ((fail_if_success (with_reducible refine Cnd.split ?_));(first|refine V.s1 ?_|((try ((with_reducible refine .ext ?_);(conv=>whnf);(try simp only[jhA])));(with_reducible refine jaa (r:=?_) ?_ ?_);rotate_left;(focus (first|fail));(conv=>whnf)));(try simp only[jhA]))
    refine jaw [] [(237,.box [.str (C 0).1,.str (C 0).2])] (CondB.mk (fun h=>?_) (fun h=>?_)) ?_
    ·have e:=hC1 0 h
     simp only[e]
     refine V.r1 jhA of1 ?_
     exact V.wk
    ·have e:=hC0 0 h
     simp only[e]
     (conv=>whnf)
     exact V.wk
    refine V.r0 jhA ?_
    exact⟨1,by omega,by omega,V.wk⟩
   ·simp only[k1]
    (conv=>whnf)
    repeat ((fail_if_success (with_reducible refine Cnd.split ?_));refine V.s1 ?_;(try simp only[jh3]))
    refine V.s1 ?_
    (conv=>whnf)
    (try simp only[jhA,hyl])
    repeat ((fail_if_success (with_reducible refine Cnd.split ?_));(first|refine V.s1 ?_|((try ((with_reducible refine .ext ?_);(conv=>whnf);(try simp only[jhA,hyl])));(with_reducible refine jaa (r:=?_) ?_ ?_);rotate_left;(focus (first|exact ea|exact ec|exact eq));(conv=>whnf)));(try simp only[jhA,hyl]))
    refine V.cnd_to [(7,.box 7 0),(16,.ints .i64 lo),(17,.ints .i64 hi),(23,V.sl2 out.toNat (wce P out.toNat))] [(7,.box [.ints .i64 [(s0:Int)],.int .i64 out,.ints .i64 data])] (CondB.mk (fun h=>absurd h (by simp)) (fun _=>?_)) ?_
    ·(conv=>whnf)
     exact V.wk
    refine V.r0 jhA ?_
    refine lp_go (out.toNat) (fun k=>True) (fun k=>[(203,.int .i64 k)]) (fun k=>[]) V.wk ?_ ?_
    ·trivial
    intro k hk _
    (conv=>whnf)
    refine V.st ?_
    refine V.br (fun h=>?_) (fun h=>?_)
    ·simp only[decide_eq_true_eq] at h
     have hk1:k<out.toNat:=by omega
     have e:=jdL P out.toNat k hk1
     have c1:=ol k hk1
     have c2:=oh k hk1
     have c3:=ll k hk1
     have c4:=lh k hk1
     have hkl:(k:Int)<lo.length:=by rw[hlo];omega
     have hkh:(k:Int)<hi.length:=by rw[hhi];omega
     refine V.r0 jhA ?_
     refine⟨Pq19z,[],V.pok,?_⟩
     refine jab [(227,.bool false)] [] ?_ ?_
     ·(conv=>whnf);(try simp only[jhA])
      repeat' (first|exact V.wk|((with_reducible refine And.intro ?_ jas);(conv=>whnf);(try simp only[jhA]))|((with_reducible first|refine jam ?_ ?_|refine jaq ?_ ?_)<;>(conv=>whnf);(try simp only[jhA]))|((first|refine V.s1 ?_|((with_reducible refine jaj ?_ ?_);(focus ((conv=>whnf);(try simp only[jhA]);(repeat ((first|refine V.s1 ?_|((simp only[e]);(conv=>whnf)));(try simp only[jhA])));exact⟨rfl⟩));(conv=>whnf))|((try ((with_reducible refine .ext ?_);(conv=>whnf);(try simp only[jhA])));(with_reducible refine jaa (r:=?_) ?_ ?_);rotate_left;(focus (first|exact(c1)|exact(c2)|exact(c3)|exact(c4)));(conv=>whnf))|((simp only[e]);(conv=>whnf)));(try simp only[jhA]))|(refine And.intro ?_ ?_<;>(conv=>whnf);(try simp only[jhA])))
     refine V.r0 jhA ?_
     exact⟨k+1,⟨by omega,trivial⟩,by omega,V.wk⟩
    ·refine V.r0 jhA ?_
     exact Fin.of rfl
theorem lcorn2_t (ds vals data ix v lo hi:List Int)(oo out z:Int)(pr:Nat)(sm:Bool)(at' z1 z2:Nat→Int)(b1 b2:Nat→Bool)(p1 p2:Nat→List Int)(s0 s1:Nat)(F1 F2:Nat→List D)(Z ONE:Tx)(X Y A B C P LO HI:Nat→Tx)(pb qb:Nat→Bool)
  (hz:0≤z∧z≤65535) (hpr:0<pr) (hdt:(data.length:Int)=pr*out) (hdl:data.length≤4096) (ho:1≤out∧out≤4) (hlx:ix.length=2) (hs:(2≤s0∧s0≤9)∧(2≤s1∧s1≤9)) (hv:v.length=out.toNat) (hlo:lo.length=out.toNat) (hhi:hi.length=out.toNat)
  (hB1:∀ i,pb i=true→B i=Z) (hB0:∀ i,pb i=false→B i=A i) (hC1:∀ i,qb i=true→C i=ONE) (hC0:∀ i,qb i=false→C i=B i)
  (wk:Cl 10 [] (.bool true))
  (gd:Cl 11 [.agg [.ints .u8 ds,.int .u8 oo,.ints .u16 vals,.bool sm]] (.agg [.ints .i64 [(s0:Int),(s1:Int)],.int .i64 out,.ints .i64 data]))
  (iq:Cl 24 [.ints .i64 [(s0:Int),(s1:Int)],.int .i64 (z%(pr:Int))] (.ints .i64 ix))
  (xo:∀ i,i<2→Cl 18 [.int .i64 (ix.getD i 0),.int .i64 (([(s0:Int),(s1:Int)]:List Int).getD i 0-1)] (.agg [.str (X i).1,.str (X i).2]))
  (ga:Cl 20 [.agg [.ints .i64 [(s0:Int),(s1:Int)],.int .i64 out,.ints .i64 data],.ints .i64 ix] (.tup [.ints .i64 v,.int .i64 0]))
  (ev:Cl 15 [.agg [.ints .i64 [(s0:Int),(s1:Int)],.int .i64 out,.ints .i64 data],V.sl2 2 [.str (X 0).1,.str (X 0).2,.str (X 1).1,.str (X 1).2]] (.tup [V.sl2 out.toNat (wce Y out.toNat),.int .i64 0]))
  (rg:Cl 25 [.agg [.ints .i64 [(s0:Int),(s1:Int)],.int .i64 out,.ints .i64 data]] (.tup [.ints .i64 lo,.ints .i64 hi,.int .i64 0]))
  (ov:∀ j,j<out.toNat→Cl 18 [.int .i64 (v.getD j 0),.int .i64 65535] (.agg [.str (Y j).1,.str (Y j).2]))
  (co:Cl 13 [(colD at' z1 z2 b1 b2 p1 p2),.int .i64 2] (.agg [V.sl2 2 [.str (A 0).1,.str (A 0).2,.str (A 1).1,.str (A 1).2],.slf 2 2 F1,.slf 2 2 F2]))
  (zf:Cl 18 [.int .i64 0,.int .i64 1] (.agg [.str Z.1,.str Z.2])) (of1:Cl 18 [.int .i64 1,.int .i64 1] (.agg [.str ONE.1,.str ONE.2]))
  (l0:∀ i,i<2→Cl 21 [.agg [.str (A i).1,.str (A i).2],.agg [.str Z.1,.str Z.2]] (.bool (pb i)))
  (l1:∀ i,i<2→Cl 21 [.agg [.str ONE.1,.str ONE.2],.agg [.str (B i).1,.str (B i).2]] (.bool (qb i)))
  (ea:Cl 15 [.agg [.ints .i64 [(s0:Int),(s1:Int)],.int .i64 out,.ints .i64 data],V.sl2 2 [.str (A 0).1,.str (A 0).2,.str (A 1).1,.str (A 1).2]] (.tup [V.sl2 out.toNat (wce P out.toNat),.int .i64 0]))
  (ec:Cl 15 [.agg [.ints .i64 [(s0:Int),(s1:Int)],.int .i64 out,.ints .i64 data],V.sl2 2 [.str (C 0).1,.str (C 0).2,.str (C 1).1,.str (C 1).2]] (.tup [V.sl2 out.toNat (wce P out.toNat),.int .i64 0]))
  (eq:Cl 16 [V.sl2 out.toNat (wce P out.toNat),V.sl2 out.toNat (wce P out.toNat)] (.bool true))
  (ol:∀ j,j<out.toNat→Cl 18 [.int .i64 (lo.getD j 0),.int .i64 65535] (.agg [.str (LO j).1,.str (LO j).2]))
  (oh:∀ j,j<out.toNat→Cl 18 [.int .i64 (hi.getD j 0),.int .i64 65535] (.agg [.str (HI j).1,.str (HI j).2]))
  (ll:∀ j,j<out.toNat→Cl 21 [.agg [.str (P j).1,.str (P j).2],.agg [.str (LO j).1,.str (LO j).2]] (.bool false))
  (lh:∀ j,j<out.toNat→Cl 21 [.agg [.str (HI j).1,.str (HI j).2],.agg [.str (P j).1,.str (P j).2]] (.bool false)) :
  Cl 5 [.agg [.ints .u8 ds,.int .u8 oo,.ints .u16 vals,.bool sm],(colD at' z1 z2 b1 b2 p1 p2),.int .u16 z] (.bool true):=by
 have hsl:(([(s0:Int),(s1:Int)].length:Nat):Int)=2:=rfl
 have hvl:((v.length:Nat):Int)=out:=by rw[hv];omega
 have hll:((lo.length:Nat):Int)=out:=by rw[hlo];omega
 have hhl:((hi.length:Nat):Int)=out:=by rw[hhi];omega
 have hyl:((out.toNat:Nat):Int)=out:=by omega
 have hxl:((ix.length:Nat):Int)=2:=by rw[hlx];rfl
 have hdv:(data.length:Int)/out=(pr:Int):=by rw[hdt];exact Int.mul_ediv_cancel _ (by omega)
 have hmd:0≤z%(pr:Int)∧z%(pr:Int)<pr:=⟨jh0 _ (by omega),jiq _ (by omega)⟩
 refine V.en tbOk Tryz.func5 ?_
 refine V.r2 (V.a3 jhA hsl hdv) wk gd ?_
 refine⟨Pq11z,[],V.pok,?_⟩
 refine jab [(8,.ints .i64 ix)] [] ?_ ?_
 ·exact V.d1 (V.a3 jhA hsl hdv) iq
 refine V.r0 (V.a2 jhA hxl) ?_
 refine jac (0:Nat) (fun k=>k≤2) (fun k=>2-k) (fun k=>[(46,.int .i64 (k:Nat)),(9,coW k)]) (fun k=>coH X k) ?_ ?_ ?_
 ·exact V.wk
 ·exact jhZ _
 intro k hk
 have hk4:k=0∨k=1∨k=2:=by omega
 rcases hk4 with e|e|e
 all_goals subst e
 ·simp only[k0,coW,coH]
  have c1:=xo 0 (by omega)
  have hs':=hs
  refine V.r1 (V.a3 jhA hsl hxl) c1 ?_
  exact⟨1,by omega,by omega,V.wk⟩
 ·simp only[k1,coW,coH]
  have c1:=xo 1 (by omega)
  have hs':=hs
  refine V.r1 (V.a3 jhA hsl hxl) c1 ?_
  exact⟨2,by omega,by omega,V.wk⟩
 ·simp only[k2,coW,coH]
  (conv=>whnf)
  repeat ((fail_if_success (with_reducible refine Cnd.split ?_));refine V.s1 ?_;(try simp only[jh3]))
  refine V.s1 ?_
  (conv=>whnf)
  (try simp only[jhA,hxl])
  repeat ((fail_if_success (with_reducible refine Cnd.split ?_));(first|refine V.s1 ?_|((try ((with_reducible refine .ext ?_);(conv=>whnf);(try simp only[jhA,hxl])));(with_reducible refine jaa (r:=?_) ?_ ?_);rotate_left;(focus (first|exact ga|exact ev|exact rg));(conv=>whnf)));(try simp only[jhA,hxl]))
  refine V.cnd_to [(7,.box 7 0),(4,.box 4 0),(12,.ints .i64 v),(14,V.sl2 out.toNat (wce Y out.toNat)),(16,.ints .i64 lo),(17,.ints .i64 hi)] [(7,.box [.ints .i64 [(s0:Int),(s1:Int)],.int .i64 out,.ints .i64 data]),(4,.box [.int .i16 (at' 0),.int .i16 (at' 1),.int .i16 (at' 2),.int .i16 (at' 3),.bool (b1 0),.ints .u16 (p1 0),.int .u16 (z1 0),.bool (b2 0),.ints .u16 (p2 0),.int .u16 (z2 0),.bool (b1 1),.ints .u16 (p1 1),.int .u16 (z1 1),.bool (b2 1),.ints .u16 (p2 1),.int .u16 (z2 1),.bool (b1 2),.ints .u16 (p1 2),.int .u16 (z1 2),.bool (b2 2),.ints .u16 (p2 2),.int .u16 (z2 2),.bool (b1 3),.ints .u16 (p1 3),.int .u16 (z1 3),.bool (b2 3),.ints .u16 (p2 3),.int .u16 (z2 3)])] (CondB.mk (fun h=>absurd h (by rw[hvl,hyl,hll,hhl];simp)) (fun _=>?_)) ?_
  ·(conv=>whnf)
   exact V.wk
  refine V.r0 jhA ?_
  refine lp_go (out.toNat) (fun k=>True) (fun k=>[(121,.int .i64 k)]) (fun k=>[]) V.wk ?_ ?_
  ·trivial
  intro k hk _
  (conv=>whnf)
  refine V.st ?_
  refine V.br (fun h=>?_) (fun h=>?_)
  ·simp only[decide_eq_true_eq] at h
   have hk1:k<out.toNat:=by omega
   have e:=jdL Y out.toNat k hk1
   have c1:=ov k hk1
   have hkv:(k:Int)<v.length:=by rw[hv];omega
   refine V.r0 jhA ?_
   refine⟨Pq20z,[],V.pok,?_⟩
   refine jab [(133,.bool false)] [] ?_ ?_
   ·(conv=>whnf);(try simp only[jhG,decide_true,jih,jix,jig])
    repeat' (first|exact V.wk|((with_reducible refine And.intro ?_ jas);(conv=>whnf);(try simp only[jhG,decide_true,jih,jix,jig]))|((with_reducible first|refine jam ?_ ?_|refine jaq ?_ ?_)<;>(conv=>whnf);(try simp only[jhG,decide_true,jih,jix,jig]))|((first|refine V.s1 ?_|((with_reducible refine jaj ?_ ?_);(focus ((conv=>whnf);(try simp only[jhG,decide_true,jih,jix,jig]);(repeat ((first|refine V.s1 ?_|((simp only[e]);(conv=>whnf)));(try simp only[jhG,decide_true,jih,jix,jig])));exact⟨rfl⟩));(conv=>whnf))|((try ((with_reducible refine .ext ?_);(conv=>whnf);(try simp only[jhG,decide_true,jih,jix,jig])));(with_reducible refine jaa (r:=?_) ?_ ?_);rotate_left;(focus (first|exact(c1)));(conv=>whnf))|((simp only[e]);(conv=>whnf)));(try simp only[jhG,decide_true,jih,jix,jig]))|(refine And.intro ?_ ?_<;>(conv=>whnf);(try simp only[jhG,decide_true,jih,jix,jig])))
   refine V.r0 jhA ?_
   exact⟨k+1,⟨by omega,trivial⟩,by omega,V.wk⟩
  ·(conv=>whnf)
   (try simp only[jhA,hsl])
   repeat ((first|refine V.s1 ?_|((try ((with_reducible refine .ext ?_);(conv=>whnf);(try simp only[jhA,hsl])));(with_reducible refine jaa (r:=?_) ?_ ?_);rotate_left;(focus (first|exact(co)));(conv=>whnf))|((with_reducible refine .inl ?_);(conv=>whnf);(first|refine⟨0,_,_,⟨Tryz.func14,rfl,rfl,jhY rfl⟩,?_⟩);(conv=>whnf)));(try simp only[jhA,hsl]))
   refine V.r0 jhA ?_
   refine jac (0:Nat) (fun k=>k≤2) (fun k=>2-k) (fun k=>[(145,.int .i64 (k:Nat))]) (fun k=>[(237,.box (wce C k++List.drop (2*k) (wce A 2)))]) ?_ ?_ ?_
   ·exact V.wk
   ·exact jhZ _
   intro k hk
   have hk4:k=0∨k=1∨k=2:=by omega
   rcases hk4 with e|e|e
   all_goals subst e
   ·simp only[k0]
    have c0:=l0 0 (by omega)
    have c1:=l1 0 (by omega)
    refine V.r0 jhA ?_
    refine⟨Pq46z,[],V.pok,?_⟩
    refine jab [(153,.bool (pb 0))] [] ?_ ?_
    ·exact V.d2 jhA zf c0
    (conv=>whnf)
    (try simp only[jhA])
    repeat ((fail_if_success (with_reducible refine Cnd.split ?_));(first|refine V.s1 ?_|((try ((with_reducible refine .ext ?_);(conv=>whnf);(try simp only[jhA])));(with_reducible refine jaa (r:=?_) ?_ ?_);rotate_left;(focus (first|fail));(conv=>whnf)));(try simp only[jhA]))
    refine jaw [] [(237,.box [.str (B 0).1,.str (B 0).2,.str (A 1).1,.str (A 1).2])] (CondB.mk (fun h=>?_) (fun h=>?_)) ?_
    ·have e:=hB1 0 h
     simp only[e]
     refine V.r1 jhA zf ?_
     exact V.wk
    ·have e:=hB0 0 h
     simp only[e]
     (conv=>whnf)
     exact V.wk
    refine V.r0 jhA ?_
    refine⟨Pq78z,[],V.pok,?_⟩
    refine jab [(163,.bool (qb 0))] [] ?_ ?_
    ·exact V.d2 jhA of1 c1
    (conv=>whnf)
    (try simp only[jhA])
    repeat ((fail_if_success (with_reducible refine Cnd.split ?_));(first|refine V.s1 ?_|((try ((with_reducible refine .ext ?_);(conv=>whnf);(try simp only[jhA])));(with_reducible refine jaa (r:=?_) ?_ ?_);rotate_left;(focus (first|fail));(conv=>whnf)));(try simp only[jhA]))
    refine jaw [] [(237,.box [.str (C 0).1,.str (C 0).2,.str (A 1).1,.str (A 1).2])] (CondB.mk (fun h=>?_) (fun h=>?_)) ?_
    ·have e:=hC1 0 h
     simp only[e]
     refine V.r1 jhA of1 ?_
     exact V.wk
    ·have e:=hC0 0 h
     simp only[e]
     (conv=>whnf)
     exact V.wk
    refine V.r0 jhA ?_
    exact⟨1,by omega,by omega,V.wk⟩
   ·simp only[k1]
    have c0:=l0 1 (by omega)
    have c1:=l1 1 (by omega)
    refine V.r0 jhA ?_
    refine⟨Pq46z,[],V.pok,?_⟩
    refine jab [(153,.bool (pb 1))] [] ?_ ?_
    ·exact V.d2 jhA zf c0
    (conv=>whnf)
    (try simp only[jhA])
    repeat ((fail_if_success (with_reducible refine Cnd.split ?_));(first|refine V.s1 ?_|((try ((with_reducible refine .ext ?_);(conv=>whnf);(try simp only[jhA])));(with_reducible refine jaa (r:=?_) ?_ ?_);rotate_left;(focus (first|fail));(conv=>whnf)));(try simp only[jhA]))
    refine jaw [] [(237,.box [.str (C 0).1,.str (C 0).2,.str (B 1).1,.str (B 1).2])] (CondB.mk (fun h=>?_) (fun h=>?_)) ?_
    ·have e:=hB1 1 h
     simp only[e]
     refine V.r1 jhA zf ?_
     exact V.wk
    ·have e:=hB0 1 h
     simp only[e]
     (conv=>whnf)
     exact V.wk
    refine V.r0 jhA ?_
    refine⟨Pq78z,[],V.pok,?_⟩
    refine jab [(163,.bool (qb 1))] [] ?_ ?_
    ·exact V.d2 jhA of1 c1
    (conv=>whnf)
    (try simp only[jhA])
    repeat ((fail_if_success (with_reducible refine Cnd.split ?_));(first|refine V.s1 ?_|((try ((with_reducible refine .ext ?_);(conv=>whnf);(try simp only[jhA])));(with_reducible refine jaa (r:=?_) ?_ ?_);rotate_left;(focus (first|fail));(conv=>whnf)));(try simp only[jhA]))
    refine jaw [] [(237,.box [.str (C 0).1,.str (C 0).2,.str (C 1).1,.str (C 1).2])] (CondB.mk (fun h=>?_) (fun h=>?_)) ?_
    ·have e:=hC1 1 h
     simp only[e]
     refine V.r1 jhA of1 ?_
     exact V.wk
    ·have e:=hC0 1 h
     simp only[e]
     (conv=>whnf)
     exact V.wk
    refine V.r0 jhA ?_
    exact⟨2,by omega,by omega,V.wk⟩
   ·simp only[k2]
    (conv=>whnf)
    repeat ((fail_if_success (with_reducible refine Cnd.split ?_));refine V.s1 ?_;(try simp only[jh3]))
    refine V.s1 ?_
    (conv=>whnf)
    (try simp only[jhA,hyl])
    repeat ((fail_if_success (with_reducible refine Cnd.split ?_));(first|refine V.s1 ?_|((try ((with_reducible refine .ext ?_);(conv=>whnf);(try simp only[jhA,hyl])));(with_reducible refine jaa (r:=?_) ?_ ?_);rotate_left;(focus (first|exact ea|exact ec|exact eq));(conv=>whnf)));(try simp only[jhA,hyl]))
    refine V.cnd_to [(7,.box 7 0),(16,.ints .i64 lo),(17,.ints .i64 hi),(23,V.sl2 out.toNat (wce P out.toNat))] [(7,.box [.ints .i64 [(s0:Int),(s1:Int)],.int .i64 out,.ints .i64 data])] (CondB.mk (fun h=>absurd h (by simp)) (fun _=>?_)) ?_
    ·(conv=>whnf)
     exact V.wk
    refine V.r0 jhA ?_
    refine lp_go (out.toNat) (fun k=>True) (fun k=>[(203,.int .i64 k)]) (fun k=>[]) V.wk ?_ ?_
    ·trivial
    intro k hk _
    (conv=>whnf)
    refine V.st ?_
    refine V.br (fun h=>?_) (fun h=>?_)
    ·simp only[decide_eq_true_eq] at h
     have hk1:k<out.toNat:=by omega
     have e:=jdL P out.toNat k hk1
     have c1:=ol k hk1
     have c2:=oh k hk1
     have c3:=ll k hk1
     have c4:=lh k hk1
     have hkl:(k:Int)<lo.length:=by rw[hlo];omega
     have hkh:(k:Int)<hi.length:=by rw[hhi];omega
     refine V.r0 jhA ?_
     refine⟨Pq19z,[],V.pok,?_⟩
     refine jab [(227,.bool false)] [] ?_ ?_
     ·(conv=>whnf);(try simp only[jhA])
      repeat' (first|exact V.wk|((with_reducible refine And.intro ?_ jas);(conv=>whnf);(try simp only[jhA]))|((with_reducible first|refine jam ?_ ?_|refine jaq ?_ ?_)<;>(conv=>whnf);(try simp only[jhA]))|((first|refine V.s1 ?_|((with_reducible refine jaj ?_ ?_);(focus ((conv=>whnf);(try simp only[jhA]);(repeat ((first|refine V.s1 ?_|((simp only[e]);(conv=>whnf)));(try simp only[jhA])));exact⟨rfl⟩));(conv=>whnf))|((try ((with_reducible refine .ext ?_);(conv=>whnf);(try simp only[jhA])));(with_reducible refine jaa (r:=?_) ?_ ?_);rotate_left;(focus (first|exact(c1)|exact(c2)|exact(c3)|exact(c4)));(conv=>whnf))|((simp only[e]);(conv=>whnf)));(try simp only[jhA]))|(refine And.intro ?_ ?_<;>(conv=>whnf);(try simp only[jhA])))
     refine V.r0 jhA ?_
     exact⟨k+1,⟨by omega,trivial⟩,by omega,V.wk⟩
    ·refine V.r0 jhA ?_
     exact Fin.of rfl
theorem lcorn3_t (ds vals data ix v lo hi:List Int)(oo out z:Int)(pr:Nat)(sm:Bool)(at' z1 z2:Nat→Int)(b1 b2:Nat→Bool)(p1 p2:Nat→List Int)(s0 s1 s2:Nat)(F1 F2:Nat→List D)(Z ONE:Tx)(X Y A B C P LO HI:Nat→Tx)(pb qb:Nat→Bool)
  (hz:0≤z∧z≤65535) (hpr:0<pr) (hdt:(data.length:Int)=pr*out) (hdl:data.length≤4096) (ho:1≤out∧out≤4) (hlx:ix.length=3) (hs:(2≤s0∧s0≤9)∧(2≤s1∧s1≤9)∧(2≤s2∧s2≤9)) (hv:v.length=out.toNat) (hlo:lo.length=out.toNat) (hhi:hi.length=out.toNat)
  (hB1:∀ i,pb i=true→B i=Z) (hB0:∀ i,pb i=false→B i=A i) (hC1:∀ i,qb i=true→C i=ONE) (hC0:∀ i,qb i=false→C i=B i)
  (wk:Cl 10 [] (.bool true))
  (gd:Cl 11 [.agg [.ints .u8 ds,.int .u8 oo,.ints .u16 vals,.bool sm]] (.agg [.ints .i64 [(s0:Int),(s1:Int),(s2:Int)],.int .i64 out,.ints .i64 data]))
  (iq:Cl 24 [.ints .i64 [(s0:Int),(s1:Int),(s2:Int)],.int .i64 (z%(pr:Int))] (.ints .i64 ix))
  (xo:∀ i,i<3→Cl 18 [.int .i64 (ix.getD i 0),.int .i64 (([(s0:Int),(s1:Int),(s2:Int)]:List Int).getD i 0-1)] (.agg [.str (X i).1,.str (X i).2]))
  (ga:Cl 20 [.agg [.ints .i64 [(s0:Int),(s1:Int),(s2:Int)],.int .i64 out,.ints .i64 data],.ints .i64 ix] (.tup [.ints .i64 v,.int .i64 0]))
  (ev:Cl 15 [.agg [.ints .i64 [(s0:Int),(s1:Int),(s2:Int)],.int .i64 out,.ints .i64 data],V.sl2 3 [.str (X 0).1,.str (X 0).2,.str (X 1).1,.str (X 1).2,.str (X 2).1,.str (X 2).2]] (.tup [V.sl2 out.toNat (wce Y out.toNat),.int .i64 0]))
  (rg:Cl 25 [.agg [.ints .i64 [(s0:Int),(s1:Int),(s2:Int)],.int .i64 out,.ints .i64 data]] (.tup [.ints .i64 lo,.ints .i64 hi,.int .i64 0]))
  (ov:∀ j,j<out.toNat→Cl 18 [.int .i64 (v.getD j 0),.int .i64 65535] (.agg [.str (Y j).1,.str (Y j).2]))
  (co:Cl 13 [(colD at' z1 z2 b1 b2 p1 p2),.int .i64 3] (.agg [V.sl2 3 [.str (A 0).1,.str (A 0).2,.str (A 1).1,.str (A 1).2,.str (A 2).1,.str (A 2).2],.slf 2 3 F1,.slf 2 3 F2]))
  (zf:Cl 18 [.int .i64 0,.int .i64 1] (.agg [.str Z.1,.str Z.2])) (of1:Cl 18 [.int .i64 1,.int .i64 1] (.agg [.str ONE.1,.str ONE.2]))
  (l0:∀ i,i<3→Cl 21 [.agg [.str (A i).1,.str (A i).2],.agg [.str Z.1,.str Z.2]] (.bool (pb i)))
  (l1:∀ i,i<3→Cl 21 [.agg [.str ONE.1,.str ONE.2],.agg [.str (B i).1,.str (B i).2]] (.bool (qb i)))
  (ea:Cl 15 [.agg [.ints .i64 [(s0:Int),(s1:Int),(s2:Int)],.int .i64 out,.ints .i64 data],V.sl2 3 [.str (A 0).1,.str (A 0).2,.str (A 1).1,.str (A 1).2,.str (A 2).1,.str (A 2).2]] (.tup [V.sl2 out.toNat (wce P out.toNat),.int .i64 0]))
  (ec:Cl 15 [.agg [.ints .i64 [(s0:Int),(s1:Int),(s2:Int)],.int .i64 out,.ints .i64 data],V.sl2 3 [.str (C 0).1,.str (C 0).2,.str (C 1).1,.str (C 1).2,.str (C 2).1,.str (C 2).2]] (.tup [V.sl2 out.toNat (wce P out.toNat),.int .i64 0]))
  (eq:Cl 16 [V.sl2 out.toNat (wce P out.toNat),V.sl2 out.toNat (wce P out.toNat)] (.bool true))
  (ol:∀ j,j<out.toNat→Cl 18 [.int .i64 (lo.getD j 0),.int .i64 65535] (.agg [.str (LO j).1,.str (LO j).2]))
  (oh:∀ j,j<out.toNat→Cl 18 [.int .i64 (hi.getD j 0),.int .i64 65535] (.agg [.str (HI j).1,.str (HI j).2]))
  (ll:∀ j,j<out.toNat→Cl 21 [.agg [.str (P j).1,.str (P j).2],.agg [.str (LO j).1,.str (LO j).2]] (.bool false))
  (lh:∀ j,j<out.toNat→Cl 21 [.agg [.str (HI j).1,.str (HI j).2],.agg [.str (P j).1,.str (P j).2]] (.bool false)) :
  Cl 5 [.agg [.ints .u8 ds,.int .u8 oo,.ints .u16 vals,.bool sm],(colD at' z1 z2 b1 b2 p1 p2),.int .u16 z] (.bool true):=by
 have hsl:(([(s0:Int),(s1:Int),(s2:Int)].length:Nat):Int)=3:=rfl
 have hvl:((v.length:Nat):Int)=out:=by rw[hv];omega
 have hll:((lo.length:Nat):Int)=out:=by rw[hlo];omega
 have hhl:((hi.length:Nat):Int)=out:=by rw[hhi];omega
 have hyl:((out.toNat:Nat):Int)=out:=by omega
 have hxl:((ix.length:Nat):Int)=3:=by rw[hlx];rfl
 have hdv:(data.length:Int)/out=(pr:Int):=by rw[hdt];exact Int.mul_ediv_cancel _ (by omega)
 have hmd:0≤z%(pr:Int)∧z%(pr:Int)<pr:=⟨jh0 _ (by omega),jiq _ (by omega)⟩
 refine V.en tbOk Tryz.func5 ?_
 refine V.r2 (V.a3 jhA hsl hdv) wk gd ?_
 refine⟨Pq11z,[],V.pok,?_⟩
 refine jab [(8,.ints .i64 ix)] [] ?_ ?_
 ·exact V.d1 (V.a3 jhA hsl hdv) iq
 refine V.r0 (V.a2 jhA hxl) ?_
 refine jac (0:Nat) (fun k=>k≤3) (fun k=>3-k) (fun k=>[(46,.int .i64 (k:Nat)),(9,coW k)]) (fun k=>coH X k) ?_ ?_ ?_
 ·exact V.wk
 ·exact jhZ _
 intro k hk
 have hk4:k=0∨k=1∨k=2∨k=3:=by omega
 rcases hk4 with e|e|e|e
 all_goals subst e
 ·simp only[k0,coW,coH]
  have c1:=xo 0 (by omega)
  have hs':=hs
  refine V.r1 (V.a3 jhA hsl hxl) c1 ?_
  exact⟨1,by omega,by omega,V.wk⟩
 ·simp only[k1,coW,coH]
  have c1:=xo 1 (by omega)
  have hs':=hs
  refine V.r1 (V.a3 jhA hsl hxl) c1 ?_
  exact⟨2,by omega,by omega,V.wk⟩
 ·simp only[k2,coW,coH]
  have c1:=xo 2 (by omega)
  have hs':=hs
  refine V.r1 (V.a3 jhA hsl hxl) c1 ?_
  exact⟨3,by omega,by omega,V.wk⟩
 ·simp only[k3,coW,coH]
  (conv=>whnf)
  repeat ((fail_if_success (with_reducible refine Cnd.split ?_));refine V.s1 ?_;(try simp only[jh3]))
  refine V.s1 ?_
  (conv=>whnf)
  (try simp only[jhA,hxl])
  repeat ((fail_if_success (with_reducible refine Cnd.split ?_));(first|refine V.s1 ?_|((try ((with_reducible refine .ext ?_);(conv=>whnf);(try simp only[jhA,hxl])));(with_reducible refine jaa (r:=?_) ?_ ?_);rotate_left;(focus (first|exact ga|exact ev|exact rg));(conv=>whnf)));(try simp only[jhA,hxl]))
  refine V.cnd_to [(7,.box 7 0),(4,.box 4 0),(12,.ints .i64 v),(14,V.sl2 out.toNat (wce Y out.toNat)),(16,.ints .i64 lo),(17,.ints .i64 hi)] [(7,.box [.ints .i64 [(s0:Int),(s1:Int),(s2:Int)],.int .i64 out,.ints .i64 data]),(4,.box [.int .i16 (at' 0),.int .i16 (at' 1),.int .i16 (at' 2),.int .i16 (at' 3),.bool (b1 0),.ints .u16 (p1 0),.int .u16 (z1 0),.bool (b2 0),.ints .u16 (p2 0),.int .u16 (z2 0),.bool (b1 1),.ints .u16 (p1 1),.int .u16 (z1 1),.bool (b2 1),.ints .u16 (p2 1),.int .u16 (z2 1),.bool (b1 2),.ints .u16 (p1 2),.int .u16 (z1 2),.bool (b2 2),.ints .u16 (p2 2),.int .u16 (z2 2),.bool (b1 3),.ints .u16 (p1 3),.int .u16 (z1 3),.bool (b2 3),.ints .u16 (p2 3),.int .u16 (z2 3)])] (CondB.mk (fun h=>absurd h (by rw[hvl,hyl,hll,hhl];simp)) (fun _=>?_)) ?_
  ·(conv=>whnf)
   exact V.wk
  refine V.r0 jhA ?_
  refine lp_go (out.toNat) (fun k=>True) (fun k=>[(121,.int .i64 k)]) (fun k=>[]) V.wk ?_ ?_
  ·trivial
  intro k hk _
  (conv=>whnf)
  refine V.st ?_
  refine V.br (fun h=>?_) (fun h=>?_)
  ·simp only[decide_eq_true_eq] at h
   have hk1:k<out.toNat:=by omega
   have e:=jdL Y out.toNat k hk1
   have c1:=ov k hk1
   have hkv:(k:Int)<v.length:=by rw[hv];omega
   refine V.r0 jhA ?_
   refine⟨Pq20z,[],V.pok,?_⟩
   refine jab [(133,.bool false)] [] ?_ ?_
   ·(conv=>whnf);(try simp only[jhG,decide_true,jih,jix,jig])
    repeat' (first|exact V.wk|((with_reducible refine And.intro ?_ jas);(conv=>whnf);(try simp only[jhG,decide_true,jih,jix,jig]))|((with_reducible first|refine jam ?_ ?_|refine jaq ?_ ?_)<;>(conv=>whnf);(try simp only[jhG,decide_true,jih,jix,jig]))|((first|refine V.s1 ?_|((with_reducible refine jaj ?_ ?_);(focus ((conv=>whnf);(try simp only[jhG,decide_true,jih,jix,jig]);(repeat ((first|refine V.s1 ?_|((simp only[e]);(conv=>whnf)));(try simp only[jhG,decide_true,jih,jix,jig])));exact⟨rfl⟩));(conv=>whnf))|((try ((with_reducible refine .ext ?_);(conv=>whnf);(try simp only[jhG,decide_true,jih,jix,jig])));(with_reducible refine jaa (r:=?_) ?_ ?_);rotate_left;(focus (first|exact(c1)));(conv=>whnf))|((simp only[e]);(conv=>whnf)));(try simp only[jhG,decide_true,jih,jix,jig]))|(refine And.intro ?_ ?_<;>(conv=>whnf);(try simp only[jhG,decide_true,jih,jix,jig])))
   refine V.r0 jhA ?_
   exact⟨k+1,⟨by omega,trivial⟩,by omega,V.wk⟩
  ·(conv=>whnf)
   (try simp only[jhA,hsl])
   repeat ((first|refine V.s1 ?_|((try ((with_reducible refine .ext ?_);(conv=>whnf);(try simp only[jhA,hsl])));(with_reducible refine jaa (r:=?_) ?_ ?_);rotate_left;(focus (first|exact(co)));(conv=>whnf))|((with_reducible refine .inl ?_);(conv=>whnf);(first|refine⟨0,_,_,⟨Tryz.func14,rfl,rfl,jhY rfl⟩,?_⟩);(conv=>whnf)));(try simp only[jhA,hsl]))
   refine V.r0 jhA ?_
   refine jac (0:Nat) (fun k=>k≤3) (fun k=>3-k) (fun k=>[(145,.int .i64 (k:Nat))]) (fun k=>[(237,.box (wce C k++List.drop (2*k) (wce A 3)))]) ?_ ?_ ?_
   ·exact V.wk
   ·exact jhZ _
   intro k hk
   have hk4:k=0∨k=1∨k=2∨k=3:=by omega
   rcases hk4 with e|e|e|e
   all_goals subst e
   ·simp only[k0]
    have c0:=l0 0 (by omega)
    have c1:=l1 0 (by omega)
    refine V.r0 jhA ?_
    refine⟨Pq46z,[],V.pok,?_⟩
    refine jab [(153,.bool (pb 0))] [] ?_ ?_
    ·exact V.d2 jhA zf c0
    (conv=>whnf)
    (try simp only[jhA])
    repeat ((fail_if_success (with_reducible refine Cnd.split ?_));(first|refine V.s1 ?_|((try ((with_reducible refine .ext ?_);(conv=>whnf);(try simp only[jhA])));(with_reducible refine jaa (r:=?_) ?_ ?_);rotate_left;(focus (first|fail));(conv=>whnf)));(try simp only[jhA]))
    refine jaw [] [(237,.box [.str (B 0).1,.str (B 0).2,.str (A 1).1,.str (A 1).2,.str (A 2).1,.str (A 2).2])] (CondB.mk (fun h=>?_) (fun h=>?_)) ?_
    ·have e:=hB1 0 h
     simp only[e]
     refine V.r1 jhA zf ?_
     exact V.wk
    ·have e:=hB0 0 h
     simp only[e]
     (conv=>whnf)
     exact V.wk
    refine V.r0 jhA ?_
    refine⟨Pq78z,[],V.pok,?_⟩
    refine jab [(163,.bool (qb 0))] [] ?_ ?_
    ·exact V.d2 jhA of1 c1
    (conv=>whnf)
    (try simp only[jhA])
    repeat ((fail_if_success (with_reducible refine Cnd.split ?_));(first|refine V.s1 ?_|((try ((with_reducible refine .ext ?_);(conv=>whnf);(try simp only[jhA])));(with_reducible refine jaa (r:=?_) ?_ ?_);rotate_left;(focus (first|fail));(conv=>whnf)));(try simp only[jhA]))
    refine jaw [] [(237,.box [.str (C 0).1,.str (C 0).2,.str (A 1).1,.str (A 1).2,.str (A 2).1,.str (A 2).2])] (CondB.mk (fun h=>?_) (fun h=>?_)) ?_
    ·have e:=hC1 0 h
     simp only[e]
     refine V.r1 jhA of1 ?_
     exact V.wk
    ·have e:=hC0 0 h
     simp only[e]
     (conv=>whnf)
     exact V.wk
    refine V.r0 jhA ?_
    exact⟨1,by omega,by omega,V.wk⟩
   ·simp only[k1]
    have c0:=l0 1 (by omega)
    have c1:=l1 1 (by omega)
    refine V.r0 jhA ?_
    refine⟨Pq46z,[],V.pok,?_⟩
    refine jab [(153,.bool (pb 1))] [] ?_ ?_
    ·exact V.d2 jhA zf c0
    (conv=>whnf)
    (try simp only[jhA])
    repeat ((fail_if_success (with_reducible refine Cnd.split ?_));(first|refine V.s1 ?_|((try ((with_reducible refine .ext ?_);(conv=>whnf);(try simp only[jhA])));(with_reducible refine jaa (r:=?_) ?_ ?_);rotate_left;(focus (first|fail));(conv=>whnf)));(try simp only[jhA]))
    refine jaw [] [(237,.box [.str (C 0).1,.str (C 0).2,.str (B 1).1,.str (B 1).2,.str (A 2).1,.str (A 2).2])] (CondB.mk (fun h=>?_) (fun h=>?_)) ?_
    ·have e:=hB1 1 h
     simp only[e]
     refine V.r1 jhA zf ?_
     exact V.wk
    ·have e:=hB0 1 h
     simp only[e]
     (conv=>whnf)
     exact V.wk
    refine V.r0 jhA ?_
    refine⟨Pq78z,[],V.pok,?_⟩
    refine jab [(163,.bool (qb 1))] [] ?_ ?_
    ·exact V.d2 jhA of1 c1
    (conv=>whnf)
    (try simp only[jhA])
    repeat ((fail_if_success (with_reducible refine Cnd.split ?_));(first|refine V.s1 ?_|((try ((with_reducible refine .ext ?_);(conv=>whnf);(try simp only[jhA])));(with_reducible refine jaa (r:=?_) ?_ ?_);rotate_left;(focus (first|fail));(conv=>whnf)));(try simp only[jhA]))
    refine jaw [] [(237,.box [.str (C 0).1,.str (C 0).2,.str (C 1).1,.str (C 1).2,.str (A 2).1,.str (A 2).2])] (CondB.mk (fun h=>?_) (fun h=>?_)) ?_
    ·have e:=hC1 1 h
     simp only[e]
     refine V.r1 jhA of1 ?_
     exact V.wk
    ·have e:=hC0 1 h
     simp only[e]
     (conv=>whnf)
     exact V.wk
    refine V.r0 jhA ?_
    exact⟨2,by omega,by omega,V.wk⟩
   ·simp only[k2]
    have c0:=l0 2 (by omega)
    have c1:=l1 2 (by omega)
    refine V.r0 jhA ?_
    refine⟨Pq46z,[],V.pok,?_⟩
    refine jab [(153,.bool (pb 2))] [] ?_ ?_
    ·exact V.d2 jhA zf c0
    (conv=>whnf)
    (try simp only[jhA])
    repeat ((fail_if_success (with_reducible refine Cnd.split ?_));(first|refine V.s1 ?_|((try ((with_reducible refine .ext ?_);(conv=>whnf);(try simp only[jhA])));(with_reducible refine jaa (r:=?_) ?_ ?_);rotate_left;(focus (first|fail));(conv=>whnf)));(try simp only[jhA]))
    refine jaw [] [(237,.box [.str (C 0).1,.str (C 0).2,.str (C 1).1,.str (C 1).2,.str (B 2).1,.str (B 2).2])] (CondB.mk (fun h=>?_) (fun h=>?_)) ?_
    ·have e:=hB1 2 h
     simp only[e]
     refine V.r1 jhA zf ?_
     exact V.wk
    ·have e:=hB0 2 h
     simp only[e]
     (conv=>whnf)
     exact V.wk
    refine V.r0 jhA ?_
    refine⟨Pq78z,[],V.pok,?_⟩
    refine jab [(163,.bool (qb 2))] [] ?_ ?_
    ·exact V.d2 jhA of1 c1
    (conv=>whnf)
    (try simp only[jhA])
    repeat ((fail_if_success (with_reducible refine Cnd.split ?_));(first|refine V.s1 ?_|((try ((with_reducible refine .ext ?_);(conv=>whnf);(try simp only[jhA])));(with_reducible refine jaa (r:=?_) ?_ ?_);rotate_left;(focus (first|fail));(conv=>whnf)));(try simp only[jhA]))
    refine jaw [] [(237,.box [.str (C 0).1,.str (C 0).2,.str (C 1).1,.str (C 1).2,.str (C 2).1,.str (C 2).2])] (CondB.mk (fun h=>?_) (fun h=>?_)) ?_
    ·have e:=hC1 2 h
     simp only[e]
     refine V.r1 jhA of1 ?_
     exact V.wk
    ·have e:=hC0 2 h
     simp only[e]
     (conv=>whnf)
     exact V.wk
    refine V.r0 jhA ?_
    exact⟨3,by omega,by omega,V.wk⟩
   ·simp only[k3]
    (conv=>whnf)
    repeat ((fail_if_success (with_reducible refine Cnd.split ?_));refine V.s1 ?_;(try simp only[jh3]))
    refine V.s1 ?_
    (conv=>whnf)
    (try simp only[jhA,hyl])
    repeat ((fail_if_success (with_reducible refine Cnd.split ?_));(first|refine V.s1 ?_|((try ((with_reducible refine .ext ?_);(conv=>whnf);(try simp only[jhA,hyl])));(with_reducible refine jaa (r:=?_) ?_ ?_);rotate_left;(focus (first|exact ea|exact ec|exact eq));(conv=>whnf)));(try simp only[jhA,hyl]))
    refine V.cnd_to [(7,.box 7 0),(16,.ints .i64 lo),(17,.ints .i64 hi),(23,V.sl2 out.toNat (wce P out.toNat))] [(7,.box [.ints .i64 [(s0:Int),(s1:Int),(s2:Int)],.int .i64 out,.ints .i64 data])] (CondB.mk (fun h=>absurd h (by simp)) (fun _=>?_)) ?_
    ·(conv=>whnf)
     exact V.wk
    refine V.r0 jhA ?_
    refine lp_go (out.toNat) (fun k=>True) (fun k=>[(203,.int .i64 k)]) (fun k=>[]) V.wk ?_ ?_
    ·trivial
    intro k hk _
    (conv=>whnf)
    refine V.st ?_
    refine V.br (fun h=>?_) (fun h=>?_)
    ·simp only[decide_eq_true_eq] at h
     have hk1:k<out.toNat:=by omega
     have e:=jdL P out.toNat k hk1
     have c1:=ol k hk1
     have c2:=oh k hk1
     have c3:=ll k hk1
     have c4:=lh k hk1
     have hkl:(k:Int)<lo.length:=by rw[hlo];omega
     have hkh:(k:Int)<hi.length:=by rw[hhi];omega
     refine V.r0 jhA ?_
     refine⟨Pq19z,[],V.pok,?_⟩
     refine jab [(227,.bool false)] [] ?_ ?_
     ·(conv=>whnf);(try simp only[jhA])
      repeat' (first|exact V.wk|((with_reducible refine And.intro ?_ jas);(conv=>whnf);(try simp only[jhA]))|((with_reducible first|refine jam ?_ ?_|refine jaq ?_ ?_)<;>(conv=>whnf);(try simp only[jhA]))|((first|refine V.s1 ?_|((with_reducible refine jaj ?_ ?_);(focus ((conv=>whnf);(try simp only[jhA]);(repeat ((first|refine V.s1 ?_|((simp only[e]);(conv=>whnf)));(try simp only[jhA])));exact⟨rfl⟩));(conv=>whnf))|((try ((with_reducible refine .ext ?_);(conv=>whnf);(try simp only[jhA])));(with_reducible refine jaa (r:=?_) ?_ ?_);rotate_left;(focus (first|exact(c1)|exact(c2)|exact(c3)|exact(c4)));(conv=>whnf))|((simp only[e]);(conv=>whnf)));(try simp only[jhA]))|(refine And.intro ?_ ?_<;>(conv=>whnf);(try simp only[jhA])))
     refine V.r0 jhA ?_
     exact⟨k+1,⟨by omega,trivial⟩,by omega,V.wk⟩
    ·refine V.r0 jhA ?_
     exact Fin.of rfl
end Go.Proofs.YtgjgpdceghjajaaGreatDoor
end
section
namespace Go.Proofs.YtgjgpdceghjajaaGreatDoor
open Go Go.V Go.Nb
def frT_o (x:Rat):D := .agg [.str (decZ x.num),.str (dec x.den)]
def fl (q:Rat):Int:=q.num/(q.den:Int)
def gtr (m x:Rat):Rat:=if m<x then x else m
theorem jg0 {x y:Rat} : ordQ x y<0↔x<y:=by
 unfold ordQ
 by_cases a:x<y
 ·rw[if_pos a];exact⟨fun _=>a,fun _=>by omega⟩
 ·rw[if_neg a]
  by_cases b:x=y
  ·rw[if_pos b];exact⟨fun h=>by omega,fun h=>absurd h a⟩
  ·rw[if_neg b];exact⟨fun h=>by omega,fun h=>absurd h a⟩
theorem ordQ_gt {x y:Rat} : ordQ x y>0↔y<x:=by
 unfold ordQ
 by_cases a:x<y
 ·rw[if_pos a];exact⟨fun h=>by omega,fun h=>absurd h (Rat.not_lt.2 (Rat.le_of_lt a))⟩
 ·rw[if_neg a]
  by_cases b:x=y
  ·rw[if_pos b,b];exact⟨fun h=>by omega,fun h=>absurd h (Rat.lt_irrefl)⟩
  ·rw[if_neg b];exact⟨fun _=>Rat.lt_of_le_of_ne (Rat.not_lt.1 a) (Ne.symm b),fun _=>by omega⟩
def hasR (x:Rat)(p q:Int):Bool:=decide (ordQ x (unit p)≥0) && decide (ordQ x (unit q)≤0)
theorem jgB (n d:Int)(hd:0<d):(Rat.divInt n d).num*d=n*((Rat.divInt n d).den:Int):=by
 have h:=(Rat.divInt n d).den_pos
 rw[← Rat.divInt_eq_divInt_iff (by omega) (by omega),jiy]
theorem divInt_lt' (n d:Int)(hd:0<d)(x:Rat):Rat.divInt n d<x↔n*x.den<x.num*d:=by
 have e:=jgB n d hd
 have hb:(0:Int)<((Rat.divInt n d).den:Int):=by have:=(Rat.divInt n d).den_pos;omega
 rw[Rat.lt_iff]
 generalize (Rat.divInt n d).num=a at *
 generalize ((Rat.divInt n d).den:Int)=b at *
 have e1:a*x.den*d=n*x.den*b:=by
  rw[Int.mul_right_comm,e,Int.mul_right_comm]
 have e2:x.num*b*d=x.num*d*b:=by rw[Int.mul_right_comm]
 constructor
 ·intro h
  have:=Int.mul_lt_mul_of_pos_right h hd
  rw[e1,e2] at this
  exact Int.lt_of_mul_lt_mul_right this (by omega)
 ·intro h
  have:=Int.mul_lt_mul_of_pos_right h hb
  rw[← e1,← e2] at this
  exact Int.lt_of_mul_lt_mul_right this (by omega)
theorem divInt_eq' (n d:Int)(hd:0<d)(x:Rat):x=Rat.divInt n d↔x.num*d=n*x.den:=by
 have hp:=x.den_pos
 conv=>lhs;rw[← jiy x]
 exact Rat.divInt_eq_divInt_iff (by omega) (by omega)
theorem ord_ge (x y:Rat):ordQ x y≥0 ↔ ¬ x<y:=by
 have:=jg0 (x:=x) (y:=y)
 constructor
 ·intro h h2;have:=this.2 h2;omega
 ·intro h
  rcases Int.lt_or_le (ordQ x y) 0 with h2|h2
  ·exact absurd (this.1 h2) h
  ·exact h2
theorem ord_le (x y:Rat):ordQ x y≤0 ↔ ¬ y<x:=by
 have:=ordQ_gt (x:=x) (y:=y)
 constructor
 ·intro h h2;have:=this.2 h2;omega
 ·intro h
  rcases Int.lt_or_le 0 (ordQ x y) with h2|h2
  ·exact absurd (this.1 h2) h
  ·exact h2
theorem jfA (m:Int)(x:Rat):unit m<x↔m*x.den<x.num*1000000000000:=divInt_lt' m _ (by decide) x
theorem jfB (m:Int)(x:Rat):x=unit m↔x.num*1000000000000=m*x.den:=divInt_eq' m _ (by decide) x
theorem jg7 (m:Int)(x:Rat):x<unit m↔x.num*1000000000000<m*x.den:=by
 have h1:=jfA m x
 have h2:=jfB m x
 constructor
 ·intro h
  have a1:¬ unit m<x:=Rat.not_lt.2 (Rat.le_of_lt h)
  have a2:¬ x=unit m:=Rat.ne_of_lt h
  rw[h1] at a1
  rw[h2] at a2
  omega
 ·intro h
  have a1:¬ unit m<x:=fun g=>by have:=h1.1 g;omega
  have a2:¬ x=unit m:=fun g=>by have:=h2.1 g;omega
  exact Rat.lt_of_le_of_ne (Rat.not_lt.1 a1) a2
theorem jf1 (x:Rat)(p q:Int):hasR x p q=true↔p*x.den≤x.num*1000000000000∧x.num*1000000000000≤q*x.den:=by
 unfold hasR
 rw[jhX,decide_eq_true_eq,decide_eq_true_eq,ord_ge,ord_le,jg7,jfA]
 omega
theorem jg6 (x:Rat):2*(nearZ x 1000000000000*x.den)≤2*(x.num*1000000000000)+x.den∧2*(x.num*1000000000000)+x.den<2*(nearZ x 1000000000000*x.den)+2*x.den:=by
 have hp:=x.den_pos
 unfold nearZ
 have h1:=jh1 (x.num*((1000000000000*2:Nat):Int)+x.den) ((x.den*2:Nat):Int)
 have h2:=jh0 (x.num*((1000000000000*2:Nat):Int)+x.den) (show ((x.den*2:Nat):Int)≠0 by omega)
 have h3:=jiq (x.num*((1000000000000*2:Nat):Int)+x.den) (show 0<((x.den*2:Nat):Int) by omega)
 generalize (x.num*((1000000000000*2:Nat):Int)+x.den)%((x.den*2:Nat):Int)=r at *
 generalize (x.num*((1000000000000*2:Nat):Int)+x.den)/((x.den*2:Nat):Int)=n at *
 have e:((x.den*2:Nat):Int)*n=2*(n*x.den):=by
  rw[show ((x.den*2:Nat):Int)=2*(x.den:Int) by omega,jil,jik (x.den:Int) n]
 rw[e] at h1
 generalize n*(x.den:Int)=y at *
 omega
theorem near_le (x:Rat)(K:Int)(h : -(K*x.den)≤x.num∧x.num≤K*x.den) : -(K*1000000000000)-1≤nearZ x 1000000000000∧nearZ x 1000000000000≤K*1000000000000+1:=by
 have hp:=x.den_pos
 obtain⟨b1,b2⟩:=jg6 x
 generalize nearZ x 1000000000000=n at *
 have e:K*1000000000000*(x.den:Int)=1000000000000*(K*x.den):=by rw[Int.mul_right_comm,jik]
 constructor
 ·rcases Int.lt_or_le n (-(K*1000000000000)-1) with g|g
  ·exfalso
   have:=jib (show n ≤ -(K*1000000000000)-2 by omega) (show (0:Int)≤x.den by omega)
   rw[Int.sub_mul,Int.neg_mul,e] at this
   omega
  ·exact g
 ·rcases Int.lt_or_le (K*1000000000000+1) n with g|g
  ·exfalso
   have:=jib (show K*1000000000000+2≤n by omega) (show (0:Int)≤x.den by omega)
   rw[jit,e] at this
   omega
  ·exact g
theorem around_law (x:Rat)(h : -999999999999999999≤nearZ x 1000000000000∧nearZ x 1000000000000≤999999999999999999) :
  ∃ p q,jc3 x=(p,q,0)∧vb p q=true∧q-p≤1∧hasR x p q=true∧(p=q↔unit p=x):=by
 have hp:=x.den_pos
 obtain⟨b1,b2⟩:=jg6 x
 unfold jc3
 rw[if_pos (jby.2 (by omega))]
 generalize nearZ x 1000000000000=n at *
 have l1:=jg7 n x
 have l2:=jfA n x
 have e1:(n + -1)*(x.den:Int)=n*x.den-x.den:=by rw[jit];omega
 have e2:(n+1)*(x.den:Int)=n*x.den+x.den:=by rw[jit];omega
 by_cases g1:x<unit n
 ·have o:ordQ x (unit n) = -1:=by unfold ordQ;rw[if_pos g1]
  rw[o,show min (-1:Int) 0 = -1 from rfl,show max (-1:Int) 0=0 from rfl,mk_ok (by omega),jir]
  have:=l1.1 g1
  refine⟨_,_,rfl,jby.2 (by omega),by omega,(jf1 _ _ _).2 (by rw[e1];omega),⟨fun h=>by omega,fun h=>?_⟩⟩
  have:=(jfB (n + -1) x).1 h.symm
  rw[e1] at this
  omega
 ·by_cases g2:x=unit n
  ·have o:ordQ x (unit n)=0:=by unfold ordQ;rw[if_neg g1,if_pos g2]
   rw[o,show min (0:Int) 0=0 from rfl,show max (0:Int) 0=0 from rfl,mk_ok (by omega),jir]
   have:=(jfB n x).1 g2
   exact⟨_,_,rfl,jby.2 (by omega),by omega,(jf1 _ _ _).2 (by omega),⟨fun _=>g2.symm,fun _=>rfl⟩⟩
  ·have o:ordQ x (unit n)=1:=by unfold ordQ;rw[if_neg g1,if_neg g2]
   rw[o,show min (1:Int) 0=0 from rfl,show max (1:Int) 0=1 from rfl,mk_ok (by omega),jir]
   have h3:unit n<x:=Rat.lt_of_le_of_ne (Rat.not_lt.1 g1) (Ne.symm g2)
   have:=l2.1 h3
   exact⟨_,_,rfl,jby.2 (by omega),by omega,(jf1 _ _ _).2 (by rw[e2];omega),⟨fun h=>by omega,fun h=>absurd h.symm g2⟩⟩
theorem near_unit (m:Int):nearZ (unit m) 1000000000000=m:=by
 obtain⟨b1,b2⟩:=jg6 (unit m)
 have h:=(jfB m (unit m)).1 rfl
 have hp:=(unit m).den_pos
 generalize nearZ (unit m) 1000000000000=n at *
 rw[h] at b1 b2
 generalize (unit m).den=d at *
 rcases Int.lt_trichotomy n m with g|g|g
 ·exfalso
  have:=jib (show n+1≤m by omega) (show (0:Int)≤d by omega)
  rw[jit] at this
  omega
 ·exact g
 ·exfalso
  have:=jib (show m+1≤n by omega) (show (0:Int)≤d by omega)
  rw[jit] at this
  omega
theorem jeY (m:Int)(h:vb m m=true):jc3 (unit m)=(m,m,0):=by
 unfold jc3
 rw[near_unit,if_pos h,show ordQ (unit m) (unit m)=0 by unfold ordQ;rw[if_neg Rat.lt_irrefl,if_pos rfl]]
 rw[show min (0:Int) 0=0 from rfl,show max (0:Int) 0=0 from rfl,jir]
 unfold mk
 rw[if_pos h]
theorem okF_40 {q:Rat}(h1:q.num.natAbs<10^40)(h2:q.den<10^40):okF q=true:=by
 unfold okF
 simp only[jhX,decide_eq_true_eq]
 exact⟨jie (jaU 40 _ (by omega) h1).1 (by omega),jie (jaU 40 _ (by omega) h2).1 (by omega)⟩
theorem divInt_40 (n d:Int)(hn : -10000000000000000000000000000000000000000<n∧n<10000000000000000000000000000000000000000)(hd:d≠0 ∧ -10000000000000000000000000000000000000000<d∧d<10000000000000000000000000000000000000000) :
  (Rat.divInt n d).num.natAbs<10^40∧(Rat.divInt n d).den<10^40:=by
 rcases (by omega:0<d∨d<0) with h|h
 ·obtain⟨k,rfl⟩:∃ k:Nat,d=k:=⟨d.toNat,by omega⟩
  have:=jeM n k (by omega)
  constructor
  ·exact Nat.lt_of_le_of_lt this.1 (by omega)
  ·exact Nat.lt_of_le_of_lt this.2 (by omega)
 ·rw[← Rat.neg_divInt_neg]
  obtain⟨k,hk⟩:∃ k:Nat, -d=k:=⟨(-d).toNat,by omega⟩
  rw[hk]
  have:=jeM (-n) k (by omega)
  constructor
  ·exact Nat.lt_of_le_of_lt this.1 (by omega)
  ·exact Nat.lt_of_le_of_lt this.2 (by omega)
theorem in01_c_o (s:List UInt8)(h:okW s=true):Cl 73 [.str s] (plD (wval s)):=by
 obtain⟨d,j,neg,S,e1,e2⟩:=sg_of s
 rw[e2]
 rw[e1] at h
 unfold okD at h
 simp only[jhX,Bool.not_eq_true',jif,decide_eq_false_iff_not,jiz] at h
 exact in01_g s d j neg S h.1.2 (by omega) (by have:=S.hl;omega)
def whV (l:List Int):Int:=l.foldl (fun v x=>v*1000+x%1000) 0
theorem whV_snoc (l:List Int)(x:Int):whV (l++[x])=whV l*1000+x%1000:=by unfold whV;rw[List.foldl_append];rfl
theorem whV_take (xs:List Int)(k:Nat)(h:k<xs.length):whV (xs.take (k+1))=whV (xs.take k)*1000+xs.getD k 0%1000:=by
 rw[jiV,jiD h,← whV_snoc,jiA,jiD h];rfl
theorem whV_bd:∀ (k:Nat) (xs:List Int),0≤whV (xs.take k)∧whV (xs.take k)<((1000^k:Nat):Int)
 | 0,xs=>by simp[whV]
 | k+1,xs=>by
  have ih:=whV_bd k xs
  have hp:(1000:Nat)^(k+1)=1000^k*1000:=Nat.pow_succ ..
  rw[hp]
  generalize (1000:Nat)^k=p at *
  rcases jid k xs.length with h|h
  ·rw[whV_take xs k h]
   omega
  ·have e:xs.take (k+1)=xs.take k:=by rw[jiN (by omega),jiN h]
   rw[e]
   omega
theorem raised_c (k:Nat)(hk:k≤3):Cl 119 [plD 10,.int .i64 k] (plD ((10^k:Nat):Int)):=by
 have h1:=jbk 1 (by constructor<;>decide)
 have ht:∀ i,i<k→Cl 109 [plD ((10^i:Nat):Int),plD 10] (plD ((10^(i+1):Nat):Int)):=fun i hi=>by
  have:=jcs ((10^i:Nat):Int) 10 (Sm.lit (k:=5) (by
   rcases (by omega:i=0∨i=1∨i=2) with e|e|e<;>subst e<;>decide) |>.mono (by omega)) ((Sm.lit (k:=5) (by decide)).mono (by omega))
  rw[Nat.pow_succ,jii]
  exact this
 obtain⟨v,hv⟩:∃ v:Nat→Int,v=fun i=>((10^i:Nat):Int):=⟨_,rfl⟩
 have ht:∀ i,i<k→Cl 109 [plD (v i),plD 10] (plD (v (i+1))):=by rw[hv];exact ht
 have h1:Cl 75 [.int .i64 1] (plD (v 0)):=by rw[hv];exact h1
 rw[show ((10^k:Nat):Int)=v k by rw[hv]]
 clear hv
 obtain⟨ten,hten⟩:∃ z:Int,z=10:=⟨_,rfl⟩
 rw[← hten] at ht ⊢
 clear hten
 unfold plD at *
 refine V.en tbOk Tryz.func119 ?_
 (conv=>whnf)
 refine V.st ?_
 repeat ((try ((with_reducible refine .ext ?_);(conv=>whnf)));(with_reducible refine jaa (r:=?_) ?_ ?_);rotate_left;(focus (first|exact(h1)));(conv=>whnf);refine V.st ?_)
 refine jac (0:Nat) (fun i=>i≤k) (fun i=>k-i) (fun i=>[(6,.int .i64 i)]) (fun i=>[(5,.box [.bool (decide (v i<0)),.ints .i64 (mg 10000 (v i).natAbs)])]) ?_ ?_ ?_
 ·exact V.wk
 ·exact jhZ _
 intro i hi
 have hic:((i:Int)+1)=((i+1:Nat):Int):=by omega
 have hti:=ht i
 (conv=>whnf)
 refine V.st ?_
 refine V.br (fun hq=>?_) (fun hq=>?_)
 ·rw[decide_eq_true_eq] at hq
  have hti:=hti (by omega)
  (conv=>whnf)
  (try simp only[hic])
  repeat ((first|refine V.s1 ?_|((with_reducible refine jaj ?_ ?_);(focus ((conv=>whnf);(try simp only[hic]);(repeat ((first|refine V.s1 ?_);(try simp only[hic])));exact⟨rfl⟩));(conv=>whnf))|((try ((with_reducible refine .ext ?_);(conv=>whnf);(try simp only[hic])));(with_reducible refine jaa (r:=?_) ?_ ?_);rotate_left;(focus (first|exact(hti)));(conv=>whnf)));(try simp only[hic]))
  exact⟨i+1,by omega,by omega,V.wk⟩
 ·rw[decide_eq_false_iff_not] at hq
  obtain rfl:i=k:=by omega
  (conv=>whnf)
  refine V.st ?_
  exact Fin.of rfl
theorem dwhole_c (b:Bool)(xs:List Int)(z:Int)(hz:0≤z∧z≤3):∃ v:Int,(-10000000000000000000000000000000000000000<v∧v<10000000000000000000000000000000000000000) ∧
  Cl 74 [.agg [.bool b,.ints .u16 xs,.int .u16 z]] (.str (decZ v)):=by
 obtain⟨n,rfl⟩:∃ n:Nat,z=n:=⟨z.toNat,by omega⟩
 have hzm:(n:Int)%501=(n:Int):=by omega
 have i0:=jbk 0 (by constructor<;>decide)
 have i1:=jbk 1000 (by constructor<;>decide)
 have i2:=jbk 10 (by constructor<;>decide)
 have r1:=raised_c n (by omega)
 have p10:((10^n:Nat):Int)≤1000∧1≤((10^n:Nat):Int):=by
  rcases (by omega:n=0∨n=1∨n=2∨n=3) with e|e|e|e<;>subst e<;>decide
 generalize ((10^n:Nat):Int)=ten at *
 obtain⟨U,hU⟩:∃ U:Nat→Int,U=fun k=>whV (xs.take k):=⟨_,rfl⟩
 have bd:∀ k,k≤12→0≤U k∧U k<1000000000000000000000000000000000000:=fun k hk=>by
  have:=whV_bd k xs
  have h2:(1000:Nat)^k≤1000^12:=jio (by omega) hk
  rw[hU]
  exact⟨this.1,Int.lt_of_lt_of_le this.2 (Int.ofNat_le.2 h2)⟩
 have st:∀ k,k<xs.length→U (k+1)=U k*1000+xs.getD k 0%1000:=fun k hk=>by rw[hU];exact whV_take xs k hk
 have V0:U 0=0:=by rw[hU];rfl
 have Vn:∀ k,¬ (k<12∧k<xs.length)→k≤12→U k=U 12:=fun k h1 h2=>by
  rw[hU]
  show whV (xs.take k)=whV (xs.take 12)
  rcases (by omega:k=12∨xs.length≤k) with e|e
  ·rw[e]
  ·rw[jiN e,jiN (by omega)]
 clear hU
 have sm:∀ a:Int,0≤a→a<1000000000000000000000000000000000000000→Sm 10 a:=fun a h1 h2=>Sm.lit (by omega)
 have sm2:∀ a:Int,0≤a→a<1000000000000000000000000000000000000000→(mg 10000 a.natAbs).length≤10:=sm
 have hb:=bd 12 (by omega)
 have hfin:0≤U 12*ten∧U 12*ten<1000000000000000000000000000000000000000:=by
  have h1:=jh2 hb.1 (show 0≤ten by omega)
  have h2:=jim p10.1 hb.1
  omega
 have t9:=jcs (U 12) ten ((sm _ hb.1 (by omega)).mono (by omega)) ((sm _ (by omega) (by omega)).mono (by omega))
 obtain⟨w,hw⟩:∃ w:Int,U 12*ten=w:=⟨_,rfl⟩
 rw[hw] at t9 hfin
 have m1:=jcY b w.natAbs (by have:=sm2 w hfin.1 hfin.2;omega)
 rw[show ((w.natAbs:Nat):Int)=w by omega] at m1
 have hv : -1000000000000000000000000000000000000000<(if b=true then -w else w)∧(if b=true then -w else w)<1000000000000000000000000000000000000000:=by split<;>omega
 refine⟨if b=true then -w else w,by omega,?_⟩
 generalize (if b=true then -w else w)=v at *
 have o1:=out_c v (Sm.lit (k:=10) (by omega) |>.mono (by omega))
 have hd:=(jaU 40 v.natAbs (by omega) (by omega)).1
 rw[if_neg (by omega),if_neg (by omega)] at o1
 obtain⟨k1000,hk1000⟩:∃ q:Int,q=1000:=⟨_,rfl⟩
 obtain⟨k10,hk10⟩:∃ q:Int,q=10:=⟨_,rfl⟩
 have tk:∀ k,k≤12→Cl 109 [plD (U k),plD k1000] (plD (U k*1000)):=fun k hk=>by
  rw[hk1000]
  exact jcs (U k) 1000 ((sm _ (bd k hk).1 (by have:=(bd k hk).2;omega)).mono (by omega)) ((sm _ (by omega) (by omega)).mono (by omega))
 have i1:Cl 75 [.int .i64 1000] (plD k1000):=by rw[hk1000];exact i1
 have i2:Cl 75 [.int .i64 10] (plD k10):=by rw[hk10];exact i2
 have r1:Cl 119 [plD k10,.int .i64 n] (plD ten):=by rw[hk10];exact r1
 have i0:Cl 75 [.int .i64 0] (plD (U 0)):=by rw[V0];exact i0
 clear hk1000 hk10 hb hfin hv hw hd V0 p10
 unfold plD at i0 i1 i2 r1 tk t9 m1 o1
 refine V.en tbOk Tryz.func74 ?_
 (conv=>whnf)
 refine V.st ?_
 repeat ((try ((with_reducible refine .ext ?_);(conv=>whnf)));(with_reducible refine jaa (r:=?_) ?_ ?_);rotate_left;(focus (first|exact(i0)));(conv=>whnf);refine V.st ?_)
 refine jac (0:Nat) (fun k=>k≤12∧k≤xs.length) (fun k=>12-k) (fun k=>[(4,.int .i64 k)]) (fun k=>[(3,.box [.bool (decide (U k<0)),.ints .i64 (mg 10000 (U k).natAbs)])]) ?_ ?_ ?_
 ·exact V.wk
 ·exact⟨by omega,by omega⟩
 intro k hk
 have hkc:((k:Int)+1)=((k+1:Nat):Int):=by omega
 (conv=>whnf)
 refine V.st ?_
 refine V.br (fun hq=>?_) (fun hq=>?_)
 ·simp only[jhX,decide_eq_true_eq] at hq
  obtain⟨x,hx,ex⟩:=getxn (xs:=xs) (k:=k) (by omega)
  have hst:=st k (by omega)
  rw[ex] at hst
  have hbk:=bd k (by omega)
  have hbk1:=bd (k+1) (by omega)
  have h1:=tk k (by omega)
  have h2:=jbk (x%1000) (by simp only[InR,V.lo,V.hi];omega)
  have h3:=plus_c (U k*1000) (x%1000) ((sm _ (by omega) (by omega)).mono (by omega)) ((sm _ (by omega) (by omega)).mono (by omega))
  rw[← hst] at h3
  unfold plD at h2 h3
  obtain⟨r,hr⟩:∃ r,x%1000=r:=⟨_,rfl⟩
  rw[hr] at h2 h3
  (conv=>whnf)
  refine V.st ?_
  refine⟨(V.tk [0,3,4,5,6,7,8,9] (V.e1 1 [9,8,7,6,5,4,3,0] (V.e1 2 [9,8,7,6,5,4,3] (V.e1 10 [] (V.e1 11 [] (V.e1 12 [] .done)))))),[],V.pok,.go (jae ?_)⟩
  (conv=>whnf)
  (try simp only[jh5,ex,hr,hkc])
  repeat ((first|refine V.s1 ?_|((with_reducible refine jaj ?_ ?_);(focus ((conv=>whnf);(try simp only[jh5,ex,hr,hkc]);(repeat ((first|refine V.s1 ?_);(try simp only[jh5,ex,hr,hkc])));exact⟨rfl⟩));(conv=>whnf))|((try ((with_reducible refine .ext ?_);(conv=>whnf);(try simp only[jh5,ex,hr,hkc])));(with_reducible refine jaa (r:=?_) ?_ ?_);rotate_left;(focus (first|exact(i1)|exact(h1)|exact(h2)|exact(h3)));(conv=>whnf)));(try simp only[jh5,ex,hr,hkc]))
  exact⟨k+1,⟨by omega,by omega⟩,by omega,V.wk⟩
 ·have hk12:U k=U 12:=Vn k (fun h=>by rw[Bool.and_eq_false_iff,decide_eq_false_iff_not,decide_eq_false_iff_not] at hq;omega) hk.1
  rw[hk12]
  (conv=>whnf)
  refine V.st ?_
  refine⟨(V.tk [0,2,3,4,5] (V.e1 1 [5,4,3,2,0] (V.e1 6 [0] (V.e1 7 [] (V.e1 8 [] .done))))),[],V.pok,.go (jae ?_)⟩
  (conv=>whnf)
  (try simp only[hzm])
  repeat ((first|refine V.s1 ?_|((with_reducible refine jaj ?_ ?_);(focus ((conv=>whnf);(try simp only[hzm]);(repeat ((first|refine V.s1 ?_);(try simp only[hzm])));exact⟨rfl⟩));(conv=>whnf))|((try ((with_reducible refine .ext ?_);(conv=>whnf);(try simp only[hzm])));(with_reducible refine jaa (r:=?_) ?_ ?_);rotate_left;(focus (first|exact(i2)|exact(r1)|exact(t9)));(conv=>whnf)));(try simp only[hzm]))
  (conv=>whnf)
  refine V.st ?_
  repeat ((try ((with_reducible refine .ext ?_);(conv=>whnf)));(with_reducible refine jaa (r:=?_) ?_ ?_);rotate_left;(focus (first|exact(m1)|exact(o1)));(conv=>whnf);refine V.st ?_)
  exact Fin.of rfl
theorem jhs (b:Bool)(xs:List Int)(z:Int)(b2:Bool)(xs2:List Int)(z2:Int)(hz:0≤z∧z≤65535)(hz2:0≤z2∧z2≤65535):∃ q:Rat,okF q=true ∧
  Cl 43 [.agg [.bool b,.ints .u16 xs,.int .u16 z,.bool b2,.ints .u16 xs2,.int .u16 z2]] (frT_o q):=by
 obtain⟨r,hr⟩:∃ r,z%4=r:=⟨_,rfl⟩
 obtain⟨r2,hr2⟩:∃ r,z2%4=r:=⟨_,rfl⟩
 obtain⟨v,hv,w1⟩:=dwhole_c b xs r (by omega)
 obtain⟨v2,hv2,w2⟩:=dwhole_c b2 xs2 r2 (by omega)
 obtain⟨y,hy⟩:∃ y,y=if v2=0 then 1 else v2:=⟨_,rfl⟩
 have hy0:y≠0 ∧ -10000000000000000000000000000000000000000<y∧y<10000000000000000000000000000000000000000:=by
  rw[hy];split<;>omega
 have n40:=divInt_40 v y hv hy0
 have hok:=okF_40 n40.1 n40.2
 have l40:∀ a:Int,(-10000000000000000000000000000000000000000<a∧a<10000000000000000000000000000000000000000)→Sm 10 a∧(dec a.natAbs).length≤600:=fun a ha=>
  ⟨Sm.lit (by omega),jie (jaU 40 a.natAbs (by omega) (by omega)).1 (by omega)⟩
 have i1:=in01_c_o (decZ v) (jbC v (l40 v hv).2)
 have i2:=in01_c_o (decZ v2) (jbC v2 (l40 v2 hv2).2)
 rw[jbf] at i1 i2
 have k1:=jbk 1 (by constructor<;>decide)
 have lw:=lowest_c v y ((l40 v hv).1.mono (by omega)) ((l40 y hy0.2).1.mono (by omega)) hy0.1
 have q4:Q4 10 (Rat.divInt v y):=Q4.of (l40 v hv).1 (l40 y hy0.2).1 hy0.1
 have o1:=out02_c (Rat.divInt v y) (q4.1.mono (by omega)) (q4.2.mono (by omega))
 unfold frR at o1
 rw[hok] at o1
 simp only[cond_true] at o1
 refine⟨_,hok,?_⟩
 have hnil:=jbR (B:=10000) (n:=v2.natAbs) (by omega)
 clear q4 hok n40 l40
 generalize Rat.divInt v y=q at *
 unfold frT_o raD plD at *
 generalize decZ v=t1 at *
 generalize decZ v2=t2 at *
 refine V.en tbOk Tryz.func43 ?_
 (conv=>whnf)
 refine V.st ?_
 refine⟨(V.tk [0,1,2,3] (.ev (.cons 4 [3,2,1,0] (V.e1 5 [3,2,1,0] (V.e1 6 [3,2] (V.e1 7 [] .done))) (.cons 5 [3,2,1,0] (V.e1 4 [3,2,1,0] (V.e1 6 [3,2] (V.e1 7 [] .done))) .nil)))),[],V.pok,?_⟩
 refine jab [(3,.box 3 0),(4,.box 4 0)] [(3,.box [.bool b,.ints .u16 xs,.int .u16 z]),(4,.box [.bool b2,.ints .u16 xs2,.int .u16 z2])] ?_ ?_
 ·exact V.d0 @jh3
 (conv=>whnf)
 refine V.st ?_
 refine⟨(V.tk [0,1,2,3,4,5,6] (V.e1 7 [5,4,3] (V.tk [8] (V.e1 9 [] .done)))),[],V.pok,?_⟩
 refine jab [] [(3,.box [.bool b,.ints .u16 xs,.int .u16 r]),(4,.box [.bool b2,.ints .u16 xs2,.int .u16 r2])] ?_ ?_
 ·exact V.d0 (V.a3 @jh3 hr hr2)
 (conv=>whnf)
 refine V.st ?_
 refine⟨(V.tk [0,3] (.ev (.cons 1 [3] (.ev (.cons 2 [3] (.ev (.cons 4 [] (.ev (.cons 5 [] (.ev (.cons 6 [] (V.e1 7 [] (V.e1 8 [] (V.e1 9 [] .done))) (.cons 7 [] (V.e1 6 [] (V.e1 8 [] (V.e1 9 [] .done))) .nil))) (.cons 6 [] (.ev (.cons 5 [] (V.e1 7 [] (V.e1 8 [] (V.e1 9 [] .done))) (.cons 7 [] (V.e1 5 [] (V.e1 8 [] (V.e1 9 [] .done))) .nil))) (.cons 7 [] (.ev (.cons 5 [] (V.e1 6 [] (V.e1 8 [] (V.e1 9 [] .done))) (.cons 6 [] (V.e1 5 [] (V.e1 8 [] (V.e1 9 [] .done))) .nil))) .nil)))) (.cons 6 [3] (.ev (.cons 4 [] (.ev (.cons 5 [] (V.e1 7 [] (V.e1 8 [] (V.e1 9 [] .done))) (.cons 7 [] (V.e1 5 [] (V.e1 8 [] (V.e1 9 [] .done))) .nil))) (.cons 7 [3] (V.e1 4 [] (V.e1 5 [] (V.e1 8 [] (V.e1 9 [] .done)))) .nil))) (.cons 7 [3] (.ev (.cons 4 [] (.ev (.cons 5 [] (V.e1 6 [] (V.e1 8 [] (V.e1 9 [] .done))) (.cons 6 [] (V.e1 5 [] (V.e1 8 [] (V.e1 9 [] .done))) .nil))) (.cons 6 [3] (V.e1 4 [] (V.e1 5 [] (V.e1 8 [] (V.e1 9 [] .done)))) .nil))) .nil)))) (.cons 6 [3] (.ev (.cons 2 [3] (.ev (.cons 4 [] (.ev (.cons 5 [] (V.e1 7 [] (V.e1 8 [] (V.e1 9 [] .done))) (.cons 7 [] (V.e1 5 [] (V.e1 8 [] (V.e1 9 [] .done))) .nil))) (.cons 7 [3] (V.e1 4 [] (V.e1 5 [] (V.e1 8 [] (V.e1 9 [] .done)))) .nil))) (.cons 7 [3] (V.e1 2 [3] (V.e1 4 [] (V.e1 5 [] (V.e1 8 [] (V.e1 9 [] .done))))) .nil))) (.cons 7 [3] (.ev (.cons 2 [3] (.ev (.cons 4 [] (.ev (.cons 5 [] (V.e1 6 [] (V.e1 8 [] (V.e1 9 [] .done))) (.cons 6 [] (V.e1 5 [] (V.e1 8 [] (V.e1 9 [] .done))) .nil))) (.cons 6 [3] (V.e1 4 [] (V.e1 5 [] (V.e1 8 [] (V.e1 9 [] .done)))) .nil))) (.cons 6 [3] (V.e1 2 [3] (V.e1 4 [] (V.e1 5 [] (V.e1 8 [] (V.e1 9 [] .done))))) .nil))) .nil)))) (.cons 6 [3,0] (.ev (.cons 1 [3] (.ev (.cons 2 [3] (.ev (.cons 4 [] (.ev (.cons 5 [] (V.e1 7 [] (V.e1 8 [] (V.e1 9 [] .done))) (.cons 7 [] (V.e1 5 [] (V.e1 8 [] (V.e1 9 [] .done))) .nil))) (.cons 7 [3] (V.e1 4 [] (V.e1 5 [] (V.e1 8 [] (V.e1 9 [] .done)))) .nil))) (.cons 7 [3] (V.e1 2 [3] (V.e1 4 [] (V.e1 5 [] (V.e1 8 [] (V.e1 9 [] .done))))) .nil))) (.cons 7 [3,0] (V.e1 1 [3] (V.e1 2 [3] (V.e1 4 [] (V.e1 5 [] (V.e1 8 [] (V.e1 9 [] .done)))))) .nil))) (.cons 7 [3,0] (.ev (.cons 1 [3] (.ev (.cons 2 [3] (.ev (.cons 4 [] (.ev (.cons 5 [] (V.e1 6 [] (V.e1 8 [] (V.e1 9 [] .done))) (.cons 6 [] (V.e1 5 [] (V.e1 8 [] (V.e1 9 [] .done))) .nil))) (.cons 6 [3] (V.e1 4 [] (V.e1 5 [] (V.e1 8 [] (V.e1 9 [] .done)))) .nil))) (.cons 6 [3] (V.e1 2 [3] (V.e1 4 [] (V.e1 5 [] (V.e1 8 [] (V.e1 9 [] .done))))) .nil))) (.cons 6 [3,0] (V.e1 1 [3] (V.e1 2 [3] (V.e1 4 [] (V.e1 5 [] (V.e1 8 [] (V.e1 9 [] .done)))))) .nil))) .nil))))),[],V.pok,?_⟩
 refine jab [(5,.box 5 0),(6,.box 6 0)] [(5,.box [.bool (decide (v<0)),.ints .i64 (mg 10000 v.natAbs)]),(6,.box [.bool (decide (v2<0)),.ints .i64 (mg 10000 v2.natAbs)])] ?_ ?_
 ·exact V.d4 @jh3 w1 w2 i1 i2
 (conv=>whnf)
 refine V.st ?_
 refine V.br (fun hq=>?_) (fun hq=>?_)
 ·have h0:v2=0:=by
   rw[decide_eq_true_eq] at hq
   have:=hnil.1 (jiB.1 (by omega))
   omega
  rw[if_pos h0] at hy
  subst hy
  (conv=>whnf)
  refine V.st ?_
  repeat ((try ((with_reducible refine .ext ?_);(conv=>whnf)));(with_reducible refine jaa (r:=?_) ?_ ?_);rotate_left;(focus (first|exact(k1)|exact(lw)|exact(o1)));(conv=>whnf);refine V.st ?_)
  exact Fin.of rfl
 ·have h0:v2≠0:=fun h=>by
   rw[decide_eq_false_iff_not] at hq
   exact hq (by rw[hnil.2 (by omega)];rfl)
  rw[if_neg h0] at hy
  subst hy
  (conv=>whnf)
  refine V.st ?_
  repeat ((try ((with_reducible refine .ext ?_);(conv=>whnf)));(with_reducible refine jaa (r:=?_) ?_ ?_);rotate_left;(focus (first|exact(lw)|exact(o1)));(conv=>whnf);refine V.st ?_)
  exact Fin.of rfl
def axq (a:Nat→Int)(i:Nat):Rat:=Rat.divInt (a i) 840
def cxq (a:Nat→Int)(i:Nat):Rat:=Rat.divInt (IntKind.wrap .u16 (a i)%841) 840
theorem axq_fq {a:Nat→Int}{i:Nat}(h : -32768≤a i∧a i≤32767):Fq 40 (axq a i):=
 (jaW (n:=5) (d:=840) (by decide) (by omega) (by decide)).mono (by decide)
theorem colorq1 {at' z1 z2 : Nat → Int} (b1 b2 : Nat → Bool) (p1 p2 : Nat → List Int) (ha : ∀ i, -32768 ≤ at' i ∧ at' i ≤ 32767) (h1 : ∀ i, 0 ≤ z1 i ∧ z1 i ≤ 65535) (h2 : ∀ i, 0 ≤ z2 i ∧ z2 i ≤ 65535) :
    ∃ X : Nat → Tx, Cl 13 [(colD at' z1 z2 b1 b2 p1 p2), .int .i64 1] (.agg [slQ (fun i => txq (axq at' i)) 1, slQ X 1, slQ (fun i => txq (cxq at' i)) 1]) := by
  have hx : ∀ i, ∃ q : Rat, Cl 43 [.agg [.bool (b1 i), .ints .u16 (p1 i), .int .u16 (z1 i), .bool (b2 i), .ints .u16 (p2 i), .int .u16 (z2 i)]] (.agg [.str (txq q).1, .str (txq q).2]) := fun i => by
    obtain ⟨q, _, c⟩ := jhs (b1 i) (p1 i) (z1 i) (b2 i) (p2 i) (z2 i) (h1 i) (h2 i)
    exact ⟨q, c⟩
  obtain ⟨q, hq⟩ := Classical.axiomOfChoice hx
  exact ⟨fun i => txq (q i), color1_t at' z1 z2 b1 b2 p1 p2 (fun i => txq (axq at' i)) (fun i => txq (q i)) (fun v => txq (Rat.divInt (v % 841) 840))
    (fun i _ => lof_c (n := at' i) (m := 840) (by have := ha i; omega) (by omega)) (fun i _ => hq i) (fun v => lof_c (n := v % 841) (m := 840) (by omega) (by omega))⟩
theorem colorq2 {at' z1 z2 : Nat → Int} (b1 b2 : Nat → Bool) (p1 p2 : Nat → List Int) (ha : ∀ i, -32768 ≤ at' i ∧ at' i ≤ 32767) (h1 : ∀ i, 0 ≤ z1 i ∧ z1 i ≤ 65535) (h2 : ∀ i, 0 ≤ z2 i ∧ z2 i ≤ 65535) :
    ∃ X : Nat → Tx, Cl 13 [(colD at' z1 z2 b1 b2 p1 p2), .int .i64 2] (.agg [slQ (fun i => txq (axq at' i)) 2, slQ X 2, slQ (fun i => txq (cxq at' i)) 2]) := by
  have hx : ∀ i, ∃ q : Rat, Cl 43 [.agg [.bool (b1 i), .ints .u16 (p1 i), .int .u16 (z1 i), .bool (b2 i), .ints .u16 (p2 i), .int .u16 (z2 i)]] (.agg [.str (txq q).1, .str (txq q).2]) := fun i => by
    obtain ⟨q, _, c⟩ := jhs (b1 i) (p1 i) (z1 i) (b2 i) (p2 i) (z2 i) (h1 i) (h2 i)
    exact ⟨q, c⟩
  obtain ⟨q, hq⟩ := Classical.axiomOfChoice hx
  exact ⟨fun i => txq (q i), color2_t at' z1 z2 b1 b2 p1 p2 (fun i => txq (axq at' i)) (fun i => txq (q i)) (fun v => txq (Rat.divInt (v % 841) 840))
    (fun i _ => lof_c (n := at' i) (m := 840) (by have := ha i; omega) (by omega)) (fun i _ => hq i) (fun v => lof_c (n := v % 841) (m := 840) (by omega) (by omega))⟩
theorem colorq3 {at' z1 z2 : Nat → Int} (b1 b2 : Nat → Bool) (p1 p2 : Nat → List Int) (ha : ∀ i, -32768 ≤ at' i ∧ at' i ≤ 32767) (h1 : ∀ i, 0 ≤ z1 i ∧ z1 i ≤ 65535) (h2 : ∀ i, 0 ≤ z2 i ∧ z2 i ≤ 65535) :
    ∃ X : Nat → Tx, Cl 13 [(colD at' z1 z2 b1 b2 p1 p2), .int .i64 3] (.agg [slQ (fun i => txq (axq at' i)) 3, slQ X 3, slQ (fun i => txq (cxq at' i)) 3]) := by
  have hx : ∀ i, ∃ q : Rat, Cl 43 [.agg [.bool (b1 i), .ints .u16 (p1 i), .int .u16 (z1 i), .bool (b2 i), .ints .u16 (p2 i), .int .u16 (z2 i)]] (.agg [.str (txq q).1, .str (txq q).2]) := fun i => by
    obtain ⟨q, _, c⟩ := jhs (b1 i) (p1 i) (z1 i) (b2 i) (p2 i) (z2 i) (h1 i) (h2 i)
    exact ⟨q, c⟩
  obtain ⟨q, hq⟩ := Classical.axiomOfChoice hx
  exact ⟨fun i => txq (q i), color3_t at' z1 z2 b1 b2 p1 p2 (fun i => txq (axq at' i)) (fun i => txq (q i)) (fun v => txq (Rat.divInt (v % 841) 840))
    (fun i _ => lof_c (n := at' i) (m := 840) (by have := ha i; omega) (by omega)) (fun i _ => hq i) (fun v => lof_c (n := v % 841) (m := 840) (by omega) (by omega))⟩
def flU (x:Rat):Int:=(x*1000000000000).floor
def clU (x:Rat):Int := -((-(x*1000000000000)).floor)
theorem jgb (m:Int):unit m=(m:Rat)/1000000000000:=by
 unfold unit
 rw[Rat.divInt_eq_div]
 rfl
theorem jeh {x:Rat}{m:Int} : unit m≤x↔(m:Rat)≤x*1000000000000:=by
 rw[jgb]
 constructor<;>intro h<;>grind
theorem jey {x:Rat}{m:Int} : x≤unit m↔x*1000000000000≤(m:Rat):=by
 rw[jgb]
 constructor<;>intro h<;>grind
theorem jfn {x:Rat}{m:Int} : m≤flU x↔(m:Rat)≤x*1000000000000:=Rat.le_floor_iff
theorem jfr {x:Rat}{m:Int} : clU x≤m↔x*1000000000000≤(m:Rat):=by
 unfold clU
 have:=Rat.le_floor_iff (x := -m) (a := -(x*1000000000000))
 rw[Rat.intCast_neg] at this
 constructor
 ·intro h
  have:=this.1 (by omega)
  grind
 ·intro h
  have:=this.2 (by grind)
  omega
theorem flU_mono {x y:Rat}(h:x≤y):flU x≤flU y:=jfn.2 (by
 have:=jfn.1 (Int.le_refl (flU x))
 grind)
theorem clU_mono {x y:Rat}(h:x≤y):clU x≤clU y:=jfr.2 (by
 have:=jfr.1 (Int.le_refl (clU y))
 grind)
theorem fl_cl {x y:Rat}(h:x≤y):flU x≤clU y:=by
 have h1:=jfn.1 (Int.le_refl (flU x))
 have h2:=jfr.1 (Int.le_refl (clU y))
 have h3:((flU x:Int):Rat)≤((clU y:Int):Rat):=by grind
 exact Rat.intCast_le_intCast.1 h3
theorem around_fl {x:Rat}(h : -100000≤x∧x≤100000):jc3 x=(flU x,clU x,0)∧(-100000000000000001≤nearZ x 1000000000000∧nearZ x 1000000000000≤100000000000000001):=by
 have hd:=x.den_pos
 have k1:x.num≤100000*x.den:=by
  have:=(Rat.le_iff (a:=x) (b:=100000)).1 h.2
  rw[show (100000:Rat).num=100000 from rfl,show (100000:Rat).den=1 from rfl] at this
  omega
 have k2 : -(100000*(x.den:Int))≤x.num:=by
  have:=(Rat.le_iff (a := -100000) (b:=x)).1 h.1
  rw[show (-100000:Rat).num = -100000 from rfl,show (-100000:Rat).den=1 from rfl] at this
  omega
 have nl:=near_le x 100000 ⟨k2,k1⟩
 refine⟨?_,by omega⟩
 obtain⟨p,q,e,hv,hq,hh,hu⟩:=around_law x (by omega)
 have hb:=(jf1 x p q).1 hh
 have p1:unit p≤x:=Rat.not_lt.1 fun g=>by have:=(jg7 p x).1 g;omega
 have q1:x≤unit q:=Rat.not_lt.1 fun g=>by have:=(jfA q x).1 g;omega
 have vi:=jby.1 hv
 have f1:p≤flU x:=jfn.2 (jeh.1 p1)
 have c1:clU x≤q:=jfr.2 (jey.1 q1)
 have f2:flU x≤p:=by
  have g1:=jfn.1 (Int.le_refl (flU x))
  rcases Int.lt_or_le p (flU x) with g|g
  ·have e2:flU x≤q:=Int.le_trans (fl_cl Rat.le_refl) c1
   have e3:flU x=q:=by omega
   have e4:unit q=x:=Rat.le_antisymm (jeh.2 (by rw[← e3];exact g1)) q1
   have e5:=jeY q (jby.2 (by omega))
   rw[e4,e] at e5
   have:p=q:=congrArg Prod.fst e5
   omega
  ·exact g
 have c2:q≤clU x:=by
  have g1:=jfr.1 (Int.le_refl (clU x))
  rcases Int.lt_or_le (clU x) q with g|g
  ·have e2:p≤clU x:=Int.le_trans f1 (fl_cl Rat.le_refl)
   have e3:clU x=p:=by omega
   have e4:unit p=x:=Rat.le_antisymm p1 (jey.2 (by rw[← e3];exact g1))
   have e5:=jeY p (jby.2 (by omega))
   rw[e4,e] at e5
   have:q=p:=congrArg (fun r=>r.2.1) e5
   omega
  ·exact g
 rw[e,show p=flU x from by omega,show q=clU x from by omega]
theorem jed {n:Nat}{x:Rat}(h:Fq n x)(h0:0<n∧n≤600)(hb : -100000≤x∧x≤100000):Cl 102 [frT x] (.tup [.agg [.int .i64 (flU x),.int .i64 (clU x)],.int .i64 0]):=by
 have o:=jaV (h.ok h0.1 h0.2)
 have a:=around_fl hb
 have c:=around_b (decZ x.num) (dec x.den) o.1 (by rw[o.2];omega)
 rw[o.2,a.1] at c
 exact c
end Go.Proofs.YtgjgpdceghjajaaGreatDoor
end
