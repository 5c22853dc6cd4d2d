/- What functions of the program answer at given values, part 10. Conditions: those that each theorem names. -/
import Derived.Test.YtbnghipgicmpdaaGreatDoorSimplexBandsH9
import Derived.Test.YtbnghipgicmpdaaGreatDoorSimplexBandsH4
import Derived.Test.YtbnghipgicmpdaaGreatDoorSimplexBandsH8
import Derived.Test.YtbnghipgicmpdaaGreatDoorSimplexBandsH7
set_option linter.unusedSimpArgs false
set_option linter.unusedVariables false
set_option maxHeartbeats 8000000
set_option maxRecDepth 100000
section
namespace Go.Proofs.YtbnghipgicmpdaaGreatDoor
open Go Go.V Go.Nb Go.Gr
def cnP (out:Int)(ns:List Nat):Nat→Int
 | 0=>out
 | k+1=>cnP out ns k*(ns.getD k 1:Nat)
theorem cnP_bd {out:Int}{ns:List Nat}(ho:1≤out∧out≤4)(h2:∀ n∈ns,2≤n∧n≤9):∀ k,1≤cnP out ns k∧cnP out ns k≤4*9^k
 | 0=>by simp only[cnP];omega
 | k+1=>by
  have ih:=cnP_bd ho h2 k
  have hb:1≤ns.getD k 1∧ns.getD k 1≤9:=by
   rw[jj8]
   cases h:ns[k]? with
   | none=>simp
   | some n=>have:=h2 n (jkc h);simp;omega
  simp only[cnP,Int.pow_succ]
  generalize ns.getD k 1=b at hb
  generalize (9:Int)^k=p at ih
  have h1:cnP out ns k*1≤cnP out ns k*(b:Int):=jjU Jo Jo
  have h3:cnP out ns k*(b:Int)≤cnP out ns k*9:=jjU Jo Jo
  omega
theorem rpow9 (k:Nat)(h:k≤4):(4:Int)*9^k≤26244:=by
 have:k=0∨k=1∨k=2∨k=3∨k=4:=Jo
 rcases this with rfl|rfl|rfl|rfl|rfl<;>decide
theorem wce_at (Y:Nat→Tx):∀ n k,k<n→List.take 2 (List.drop (k*2) (wce Y n))=[.str (Y k).1,.str (Y k).2]
 | 0,k,h=>absurd h (Nat.not_lt_zero _)
 | n+1,k,h=>by
  have hl:∀ n,(wce Y n).length=n*2:=fun n=>by
   induction n with
   | zero=>rfl
   | succ n ih=>simp only[wce,jkd,ih];simp;omega
  rw[wce]
  rcases jjO k n with g|g
  ·have ih:=wce_at Y n k g
   rw[jkm (by rw[hl];omega),jkl (by rw[jkt,hl];omega),ih]
  ·have:k=n:=Jo
   subst this
   rw[List.drop_append,jkq (by rw[hl];omega),hl,Nat.sub_self]
   rfl
theorem jia (sz:List Int):Cl 60 [Jj sz] (.fn 114 [] [.ref [Jj sz]]):=by
 refine V.en tbOk Tryz.func60 ?_
 refine V.r0 @jjC ?_
 exact Fin.of rfl
theorem jgw (g:Nat→Int){o k:Nat}(h:k<o):((List.range o).map g).take (k+1)=((List.range o).map g).take k++[g k]:=by
 rw[jky]
 congr 1
 simp[h]
theorem ji8:type_of% @jjF∧type_of% @jjC∧type_of% @tn0∧type_of% @tn1∧type_of% @tn2∧type_of% @tn3∧type_of% @xt4:=⟨@jjF,@jjC,@tn0,@tn1,@tn2,@tn3,@xt4⟩
theorem zX45_1:type_of% @jjF∧type_of% @jjC:=⟨@jjF,@jjC⟩
theorem zX45_2:type_of% @jjF∧type_of% @jku ∧ type_of% @List.take_succ_cons.{0} ∧ type_of% @List.take_zero.{0} ∧ type_of% @jjC∧type_of% @tn0∧type_of% @tn1∧type_of% @tn2∧type_of% @tn3∧type_of% @xt4:=⟨@jjF,@jku,@List.take_succ_cons.{0},@List.take_zero.{0},@jjC,@tn0,@tn1,@tn2,@tn3,@xt4⟩
theorem refine2_t (zs data:List Int)(out:Int)(ns:List Nat)(X Y:Nat→Nat→Tx)(W:Nat→Nat→Int)(hl:zs.length=2)(hn:ns.length=2)(h2:∀ n∈ns,2≤n∧n≤9)(ho:1≤out∧out≤4)(hc:cnP out ns 2≤4096)
  (gr:Cl 58 [.agg [Jj zs,Ji out,Jj data]] (Ji 0))
  (ov:∀ m i,m<PR ns→i<2→Cl 51 [Ji ((pad4 (ixl ns m)).getD i 0),Ji ((nz ns).getD i 0-1)] (Jt (X m i)))
  (ev:∀ m,m<PR ns→Cl 13 [.agg [Jj zs,Ji out,Jj data],V.sl2 2 [.str (X m 0).1,.str (X m 0).2,.str (X m 1).1,.str (X m 1).2]] (.tup [.slf 2 out.toNat (fun j=>List.take 2 (List.drop (j*2) (wce (Y m) out.toNat))),Ji 0]))
  (nr:∀ m j,m<PR ns→j<out.toNat→Cl 61 [Jt (Y m j),Ji 65535] (.tup [Ji (W m j),Ji 0])) :
  Cl 26 [.agg [Jj zs,Ji out,Jj data],Jj (nz ns)] (.tup [.agg [Jj (nz ns),Ji out,Jj (flat ns (fun m=>(List.range out.toNat).map (W m)) (PR ns))],Ji 0]):=by
 have hlen:(nz ns).length=ns.length:=by simp[nz]
 have hlz:(nz ns).length=2:=by rw[hlen,hn]
 have hli:((nz ns).length:Int)=2:=by rw[hlz];rfl
 have hz:((zs.length:Nat):Int)=2:=by rw[hl];rfl
 have h1:1≤ns.length∧ns.length≤4:=Jo
 have po:=jia (nz ns)
 have cl:=clone_c (nz ns) Jo
 have hcb:=cnP_bd ho h2
 refine V.en tbOk Tryz.func26 ?_
 refine V.r1 ji8 gr ?_
 refine Cnd.split (CondB.mk (fun h=>absurd h (by rw[hl,hlz];simp)) (fun _=>?_))
 refine V.r0 ji8 ?_
 refine lp_go (ns.length) (fun k=>True) (fun k=>[(38,Ji k),(7,Ji (cnP out ns k))]) (fun k=>[]) V.wk ?_ ?_
 ·trivial
 intro k hk _
 have hck:=hcb k
 have hck1:=hcb (k+1)
 have hk9:(4:Int)*9^k≤26244:=rpow9 k Jo
 (conv=>whnf)
 refine V.st ?_
 refine V.br (fun h=>?_) (fun h=>?_)
 ·rw[hlen] at h
  simp only[decide_eq_true_eq] at h
  have hk1:k<ns.length:=Jo
  have hk91:(4:Int)*9^(k+1)≤26244:=rpow9 (k+1) Jo
  obtain⟨n,hnk⟩:∃ n,ns[k]? = some n:=⟨ns[k],jkb hk1⟩
  have hn0:=h2 n (jkc hnk)
  have en:(nz ns).getD k 0=n:=by simp[nz,jj8,hnk]
  have ec:cnP out ns (k+1)=cnP out ns k*(n:Int):=by simp[cnP,jj8,hnk]
  rw[ec] at hck1
  refine V.r0 (V.a2 ji8 @en) ?_
  refine Cnd.split (CondB.mk (fun h=>absurd h (by simp;omega)) (fun _=>?_))
  (conv=>whnf)
  (try simp only[ji8,en,← ec])
  repeat ((first|refine V.s1 ?_);(try simp only[ji8,en,← ec]))
  exact⟨k+1,⟨Jo,trivial⟩,Jo,V.wk⟩
 ·rw[hlen] at h
  simp only[decide_eq_false_iff_not] at h
  have hk1:k=2:=Jo
  subst hk1
  clear hck hck1
  refine V.r0 ji8 ?_
  refine Cnd.split (CondB.mk (fun h=>absurd h (by simp;omega)) (fun _=>?_))
  refine V.r0 ji8 ?_
  refine⟨(V.tk [0,2,3] (.ev (.cons 1 [3,2] (V.tk [4] (V.e1 5 [4,3,2] (V.e1 6 [] .done))) (.cons 5 [3,2,0] (V.e1 1 [3,2] (V.tk [4] (V.e1 6 [] .done))) .nil)))),[],V.pok,?_⟩
  refine jab [(10,.box 10 0)] [(10,.box [Jj (nz ns),Ji out,.nil])] ?_ ?_
  ·exact V.d1 ji8 cl
  refine V.r1 ji8 po ?_
  refine⟨_,_,⟨Tryz.func114,rfl,rfl,jjw rfl⟩,?_⟩
  refine V.r0 @jjC ?_
  refine lp_go (ns.length) (fun k=>True) (fun k=>[(10,Ji k)]) (fun k=>[(122,.arr .i64 (pad4 ((lastL ns).take k)))]) V.wk ?_ ?_
  ·trivial
  intro k hk _
  (conv=>whnf)
  refine V.st ?_
  refine V.br (fun h=>?_) (fun h=>?_)
  ·rw[hlen] at h
   simp only[decide_eq_true_eq] at h
   have hk1:k<ns.length:=Jo
   obtain⟨n,hnk⟩:∃ n,ns[k]? = some n:=⟨ns[k],jkb hk1⟩
   have hn0:=h2 n (jkc hnk)
   have en:(nz ns).getD k 0=n:=by simp[nz,jj8,hnk]
   have hll:(lastL ns)[k]? = some ((n:Int)-1):=by simp[lastL,hnk]
   have hp4:(pad4 ((lastL ns).take k)).length=4:=jaG (by simp[lastL];omega)
   have hps:=jgO hll (by simp[lastL];omega)
   refine V.r0 (V.a3 zX45_1 @en hps) ?_
   exact⟨k+1,⟨Jo,trivial⟩,Jo,V.wk⟩
  ·rw[hlen] at h
   simp only[decide_eq_false_iff_not] at h
   have hk1:k=ns.length:=Jo
   subst hk1
   have e0:(lastL ns).take ns.length=lastL ns:=jko (by simp[lastL])
   rw[e0]
   (conv=>whnf)
   refine V.st ?_
   refine Lp.ghostBox 279 10 2 .i64 Jd Jd ?_
   (conv=>whnf)
   have e1:=ixl_pad0 h1 h2
   have hpos:∀ n∈ns,0<n:=fun n hn=>by have:=h2 n hn;omega
   refine jad (0) (fun k=>k<PR ns) (fun k=>PR ns-k) (fun k=>[]) (fun k=>[(117,.lp none),(121,.arr .i64 (pad4 (ixl ns k))),(10,.box [Jj (nz ns),Ji out,.osl 279 0 (flat ns (fun m=>(List.range out.toNat).map (W m)) k).length]),(279,.arr .i64 (flat ns (fun m=>(List.range out.toNat).map (W m)) k))]) ?_ ?_ ?_
   ·rw[e1]
    exact V.wk
   ·exact jey hpos
   intro m hm
   have evm:=ev m hm
   have hlm:((List.range out.toNat).map (W m)).length=out.toNat:=Js
   have hp4:(pad4 (ixl ns m)).length=4:=jaG (by rw[jar];omega)
   have hp4l:(pad4 (lastL ns)).length=4:=jaG (by simp[lastL];omega)
   have hfl:(flat ns (fun m=>(List.range out.toNat).map (W m)) m).length≤4*m:=flat_len (fun j hj=>by simp;omega)
   have hPR:=PR_le h1.2 h2
   have xb:∀ i n,ns[i]? = some n→(0≤(pad4 (ixl ns m)).getD i 0∧(pad4 (ixl ns m)).getD i 0≤8)∧(2≤(nz ns).getD i 0∧(nz ns).getD i 0≤9):=by
    intro i n h
    have e:=jeh ns m i n h
    have b:=jdm hpos h e
    have b2:=h2 n (jkc h)
    have hi:=(jkh.1 h).1
    have e2:=jcz (k:=ns.length) e hi (by rw[jar];omega)
    rw[jko (by rw[jar];omega)] at e2
    rw[e2]
    simp[nz,jj8,h]
    simp at b
    omega
   have i69:=fun i (hi:i<2)=>ns.getElem?_eq_getElem (show i<ns.length by omega)
   refine V.r0 (V.a2 ji8 hli) ?_
   refine jad (0:Nat) (fun k=>k≤2) (fun k=>2-k) (fun k=>[(69,Ji (k:Nat))]) (fun k=>[(232,.box (preD (2*k) [.str (X m 0).1,.str (X m 0).2,.str (X m 1).1,.str (X m 1).2]))]) ?_ ?_ ?_
   ·exact V.wk
   ·exact jjx _
   intro k hk
   have hk4:k=0∨k=1∨k=2:=Jo
   rcases hk4 with e|e|e
   all_goals subst e
   ·simp only[k0]
    have c:=ov m 0 hm Jo
    have xb0:=xb 0 _ (i69 0 Jo)
    refine V.r1 (V.a2 ji8 hli) c ?_
    exact⟨1,Jo,Jo,V.wk⟩
   ·simp only[k1]
    have c:=ov m 1 hm Jo
    have xb1:=xb 1 _ (i69 1 Jo)
    refine V.r1 (V.a2 ji8 hli) c ?_
    exact⟨2,Jo,Jo,V.wk⟩
   ·simp only[k2]
    refine V.r1 (V.a2 ji8 hli) evm ?_
    obtain⟨E,hE0,hEs,hEn,hEl⟩:∃ E:Nat→List Int,E 0=flat ns (fun m=>(List.range out.toNat).map (W m)) m∧(∀ k,k<out.toNat→E k++[W m k]=E (k+1))∧E out.toNat=flat ns (fun m=>(List.range out.toNat).map (W m)) (m+1) ∧ ∀ k,k≤out.toNat→(E k).length≤30000:=by
     refine⟨fun k=>flat ns (fun m=>(List.range out.toNat).map (W m)) m++((List.range out.toNat).map (W m)).take k,Js,fun k hk=>?_,?_,fun k hk=>?_⟩
     ·show flat ns _ m++((List.range out.toNat).map (W m)).take k++[W m k]=flat ns _ m++((List.range out.toNat).map (W m)).take (k+1)
      rw[jgw _ hk,jkf]
     ·show flat _ _ _++_=_
      rw[jdY,jko Js]
     ·show (flat _ _ _++_).length≤_
      rw[jkd,jke]
      omega
    rw[← hE0]
    refine lp_go (out.toNat) (fun k=>True) (fun k=>[(96,Ji k)]) (fun k=>[(10,.box [Jj (nz ns),Ji out,.osl 279 0 (E k).length]),(279,.arr .i64 (E k))]) V.wk ?_ ?_
    ·trivial
    intro k hk _
    (conv=>whnf)
    refine V.st ?_
    refine V.br (fun h=>?_) (fun h=>?_)
    ·simp only[decide_eq_true_eq] at h
     have hk1:k<out.toNat:=Jo
     have e:=wce_at (Y m) out.toNat k hk1
     have nrk:=nr m k hm hk1
     have hEk:=hEs k hk1
     have hEl1:=hEl k hk
     have hEl2:(E k).length+1=(E (k+1)).length:=by rw[← hEk];simp
     (conv=>whnf)
     (try simp only[zX45_2,hEk,hEl2,← jkd])
     repeat ((first|refine V.s1 ?_|((try ((with_reducible refine .ext ?_);(conv=>whnf);(try simp only[zX45_2,hEk,hEl2,← jkd])));(with_reducible refine jaa (r:=?_) ?_ ?_);rotate_left;(focus (first|exact(nrk)));(conv=>whnf))|((simp only[e]);(conv=>whnf)));(try simp only[zX45_2,hEk,hEl2,← jkd]))
     exact⟨k+1,⟨Jo,trivial⟩,Jo,V.wk⟩
    ·simp only[decide_eq_false_iff_not] at h
     have hk1:k=out.toNat:=Jo
     subst hk1
     rw[hEn]
     (conv=>whnf)
     refine V.st ?_
     refine V.br (fun hq=>?_) (fun hq=>?_)
     ·have hq2:ixl ns m≠lastL ns:=fun e=>by rw[e] at hq;simp at hq
      have hil:=jar ns m
      have hll:(lastL ns).length=ns.length:=by simp[lastL]
      (conv=>whnf)
      refine V.st ?_
      rw[hlen]
      have e2:(ixl ns m).take ns.length=ixl ns m:=jko Jo
      refine jad (ns.length) (fun k=>(1≤k∧k≤ns.length)∧(ixl ns m).drop k=(lastL ns).drop k) (fun k=>k) (fun k=>[(7,Ji ((k:Int)-1))]) (fun k=>[(121,.arr .i64 (pad4 ((ixl ns m).take k)))]) ?_ ?_ ?_
      ·rw[e2]
       exact V.wk
      ·exact⟨⟨h1.1,jjG _⟩,by rw[jkq Jo,jkq Jo]⟩
      rintro p ⟨⟨hp1,hp2⟩,hp3⟩
      obtain⟨p,rfl⟩:∃ q,p=q+1:=⟨p-1,Jo⟩
      obtain⟨x,hx⟩:∃ x,(ixl ns m)[p]? = some x:=⟨_,jkb Jo⟩
      obtain⟨n,hn⟩:∃ n,ns[p]? = some n:=⟨ns[p],jkb Jo⟩
      have hpx:=jcz hx (by omega:p<p+1) Jo
      have hpl:(lastL ns)[p]? = some ((n:Int)-1):=by simp[lastL,hn]
      have hpl2:=jcz (k:=4) hpl Jo Jo
      rw[jko Jo] at hpl2
      have hp5:(pad4 ((ixl ns m).take (p+1))).length=4:=jaG (by simp;omega)
      have e3:((p+1:Nat):Int)-1=(p:Int):=Jo
      have e4:=jfb hx Jo
      (conv=>whnf)
      refine V.st ?_
      refine⟨(V.tk [0,1,2,3,4,5,6] .done),[],V.pok,.go (jac ?_)⟩
      refine V.r0 (V.a4 zX45_1 e3 hpx hpl2) ?_
      refine V.br (fun hc=>?_) (fun hc=>?_)
      ·simp only[decide_eq_true_eq] at hc
       have hd:(ixl ns m).drop p=(lastL ns).drop p:=by
        rw[jks (by omega:p<(ixl ns m).length),jks (by omega:p<(lastL ns).length),hp3,(jkh.1 hx).2,(jkh.1 hpl).2,hc]
       have hp0:1≤p:=by
        rcases jjI p with e|e
        ·subst e;exact absurd (by simpa using hd) hq2
        ·exact e
       refine V.r0 (V.a3 zX45_1 e3 e4) ?_
       exact⟨p,⟨⟨hp0,Jo⟩,hd⟩,Jo,V.wk⟩
      ·simp only[decide_eq_false_iff_not] at hc
       have hsu:=jgZ ns hpos m p n hn x hx (by rw[hp3];simp[lastL]) hc
       have e5:=jdN (y:=x+1) hx Jo (by omega:(ixl ns m).length≤4)
       rw[hil,← hsu] at e5
       have hxb:=jdm hpos hn hx
       have hnb:=h2 n (jkc hn)
       have hm1:m+1<PR ns:=by
        rcases jjO (m+1) (PR ns) with e|e
        ·exact e
        ·exfalso
         exact hq2 (jeJ ns hpos m (by rw[jjL hm];omega))
       refine V.r0 (V.a4 zX45_1 e3 hpx e5) ?_
       exact⟨m+1,hm1,Jo,V.wk⟩
     ·have hq2:ixl ns m=lastL ns:=jgP (by rw[jar];simp[lastL]) (by simpa using hq)
      have hq3:=jeH ns hpos m hq2
      rw[jjL hm] at hq3
      have hq4:m+1=PR ns:=Jo
      rw[hq4]
      (conv=>whnf)
      refine V.st ?_
      rw[jko (jjG _)]
      exact Fin.of rfl
end Go.Proofs.YtbnghipgicmpdaaGreatDoor
end
section
namespace Go.Proofs.YtbnghipgicmpdaaGreatDoor
open Go Go.V Go.Nb
def flU (x:Rat):Int:=(x*1000000000000).floor
def clU (x:Rat):Int := -((-(x*1000000000000)).floor)
theorem jhg (m:Int):unit m=(m:Rat)/1000000000000:=by
 unfold unit
 rw[Rat.divInt_eq_div]
 rfl
theorem jeY {x:Rat}{m:Int} : unit m≤x↔(m:Rat)≤x*1000000000000:=by
 rw[jhg]
 constructor<;>intro h<;>grind
theorem jfo {x:Rat}{m:Int} : x≤unit m↔x*1000000000000≤(m:Rat):=by
 rw[jhg]
 constructor<;>intro h<;>grind
theorem jgh {x:Rat}{m:Int} : m≤flU x↔(m:Rat)≤x*1000000000000:=Rat.le_floor_iff
theorem jgm {x:Rat}{m:Int} : clU x≤m↔x*1000000000000≤(m:Rat):=by
 unfold clU
 have:=Rat.le_floor_iff (x := -m) (a := -(x*1000000000000))
 rw[Rat.intCast_neg] at this
 constructor
 ·intro h
  have:=this.1 Jo
  grind
 ·intro h
  have:=this.2 (by grind)
  omega
theorem flU_mono {x y:Rat}(h:x≤y):flU x≤flU y:=jgh.2 (by
 have:=jgh.1 (Int.le_refl (flU x))
 grind)
theorem clU_mono {x y:Rat}(h:x≤y):clU x≤clU y:=jgm.2 (by
 have:=jgm.1 (Int.le_refl (clU y))
 grind)
theorem fl_cl {x y:Rat}(h:x≤y):flU x≤clU y:=by
 have h1:=jgh.1 (Int.le_refl (flU x))
 have h2:=jgm.1 (Int.le_refl (clU y))
 have h3:((flU x:Int):Rat)≤((clU y:Int):Rat):=by grind
 exact Rat.intCast_le_intCast.1 h3
theorem jhS {x:Rat}(h : -100000≤x∧x≤100000):jcI x=(flU x,clU x,0)∧(-100000000000000001≤nearZ x 1000000000000∧nearZ x 1000000000000≤100000000000000001):=by
 have hd:=x.den_pos
 have k1:x.num≤100000*x.den:=by
  have:=(Rat.le_iff (a:=x) (b:=100000)).1 h.2
  rw[show (100000:Rat).num=100000 from rfl,show (100000:Rat).den=1 from rfl] at this
  omega
 have k2 : -(100000*(x.den:Int))≤x.num:=by
  have:=(Rat.le_iff (a := -100000) (b:=x)).1 h.1
  rw[show (-100000:Rat).num = -100000 from rfl,show (-100000:Rat).den=1 from rfl] at this
  omega
 have nl:=near_le x 100000 ⟨k2,k1⟩
 refine⟨?_,Jo⟩
 obtain⟨p,q,e,hv,hq,hh,hu⟩:=around_law x Jo
 have hb:=(jg3 x p q).1 hh
 have p1:unit p≤x:=Rat.not_lt.1 fun g=>by have:=(jgX p x).1 g;omega
 have q1:x≤unit q:=Rat.not_lt.1 fun g=>by have:=(jeX q x).1 g;omega
 have vi:=jbC.1 hv
 have f1:p≤flU x:=jgh.2 (jeY.1 p1)
 have c1:clU x≤q:=jgm.2 (jfo.1 q1)
 have f2:flU x≤p:=by
  have g1:=jgh.1 (Int.le_refl (flU x))
  rcases Int.lt_or_le p (flU x) with g|g
  ·have e2:flU x≤q:=Int.le_trans (fl_cl Rat.le_refl) c1
   have e3:flU x=q:=Jo
   have e4:unit q=x:=Rat.le_antisymm (jeY.2 (by rw[← e3];exact g1)) q1
   have e5:=jfN q (jbC.2 Jo)
   rw[e4,e] at e5
   have:p=q:=congrArg Prod.fst e5
   omega
  ·exact g
 have c2:q≤clU x:=by
  have g1:=jgm.1 (Int.le_refl (clU x))
  rcases Int.lt_or_le (clU x) q with g|g
  ·have e2:p≤clU x:=Int.le_trans f1 (fl_cl Rat.le_refl)
   have e3:clU x=p:=Jo
   have e4:unit p=x:=Rat.le_antisymm p1 (jfo.2 (by rw[← e3];exact g1))
   have e5:=jfN p (jbC.2 Jo)
   rw[e4,e] at e5
   have:q=p:=congrArg (fun r=>r.2.1) e5
   omega
  ·exact g
 rw[e,show p=flU x from Jo,show q=clU x from by omega]
theorem jeT {n:Nat}{x:Rat}(h:Fq n x)(h0:0<n∧n≤600)(hb : -100000≤x∧x≤100000):Cl 107 [frT x] (.tup [.agg [Ji (flU x),Ji (clU x)],Ji 0]):=by
 have o:=jaE (h.ok h0.1 h0.2)
 have a:=jhS hb
 have c:=around_b (decZ x.num) (dec x.den) o.1 (by rw[o.2];omega)
 rw[o.2,a.1] at c
 exact c
def preI (k:Nat)(l:List D):List D:=l.take k++List.replicate (l.length-k) (Ji 0)
theorem jiR:type_of% @jjC∧type_of% @tn0∧type_of% @tn1∧type_of% @tn2∧type_of% @tn3∧type_of% @xt4:=⟨@jjC,@tn0,@tn1,@tn2,@tn3,@xt4⟩
theorem blist1a {F:Nat}{e0 n0:Nat}{f0:Nat→List D}(T:Nat→Int×Int)(c0:Cl F (Ji 0::[.ref [.slf e0 n0 f0]]) (.tup [.agg [Ji (T 0).1,Ji (T 0).2],Ji 0])) :
  Cl 48 [Ji 1,.fn F [] [.ref [.slf e0 n0 f0]]] (.tup [V.sl2 1 [Ji (T 0).1,Ji (T 0).2],Ji 0]):=by
 refine V.en tbOk Tryz.func48 ?_
 refine V.r0 @jjC ?_
 refine jad (0) (fun k=>k≤1) (fun k=>1-k) (fun k=>[(14,Ji k)]) (fun k=>[(11,.box (preI (2*k) [Ji (T 0).1,Ji (T 0).2]))]) ?_ ?_ ?_
 ·exact V.wk
 ·exact jjx _
 intro k hk
 have hk4:k=0∨k=1:=Jo
 rcases hk4 with e|e
 all_goals subst e
 ·simp only[k0]
  refine V.r1 jiR c0 ?_
  exact⟨1,Jo,Jo,V.wk⟩
 ·simp only[k1]
  refine V.r0 @jjC ?_
  exact Fin.of rfl
theorem blist2a {F:Nat}{e0 n0:Nat}{f0:Nat→List D}(T:Nat→Int×Int)(c0:Cl F (Ji 0::[.ref [.slf e0 n0 f0]]) (.tup [.agg [Ji (T 0).1,Ji (T 0).2],Ji 0]))(c1:Cl F (Ji 1::[.ref [.slf e0 n0 f0]]) (.tup [.agg [Ji (T 1).1,Ji (T 1).2],Ji 0])) :
  Cl 48 [Ji 2,.fn F [] [.ref [.slf e0 n0 f0]]] (.tup [V.sl2 2 [Ji (T 0).1,Ji (T 0).2,Ji (T 1).1,Ji (T 1).2],Ji 0]):=by
 refine V.en tbOk Tryz.func48 ?_
 refine V.r0 @jjC ?_
 refine jad (0) (fun k=>k≤2) (fun k=>2-k) (fun k=>[(14,Ji k)]) (fun k=>[(11,.box (preI (2*k) [Ji (T 0).1,Ji (T 0).2,Ji (T 1).1,Ji (T 1).2]))]) ?_ ?_ ?_
 ·exact V.wk
 ·exact jjx _
 intro k hk
 have hk4:k=0∨k=1∨k=2:=Jo
 rcases hk4 with e|e|e
 all_goals subst e
 ·simp only[k0]
  refine V.r1 jiR c0 ?_
  exact⟨1,Jo,Jo,V.wk⟩
 ·simp only[k1]
  refine V.r1 jiR c1 ?_
  exact⟨2,Jo,Jo,V.wk⟩
 ·simp only[k2]
  refine V.r0 @jjC ?_
  exact Fin.of rfl
theorem blist3a {F:Nat}{e0 n0:Nat}{f0:Nat→List D}(T:Nat→Int×Int)(c0:Cl F (Ji 0::[.ref [.slf e0 n0 f0]]) (.tup [.agg [Ji (T 0).1,Ji (T 0).2],Ji 0]))(c1:Cl F (Ji 1::[.ref [.slf e0 n0 f0]]) (.tup [.agg [Ji (T 1).1,Ji (T 1).2],Ji 0]))(c2:Cl F (Ji 2::[.ref [.slf e0 n0 f0]]) (.tup [.agg [Ji (T 2).1,Ji (T 2).2],Ji 0])) :
  Cl 48 [Ji 3,.fn F [] [.ref [.slf e0 n0 f0]]] (.tup [V.sl2 3 [Ji (T 0).1,Ji (T 0).2,Ji (T 1).1,Ji (T 1).2,Ji (T 2).1,Ji (T 2).2],Ji 0]):=by
 refine V.en tbOk Tryz.func48 ?_
 refine V.r0 @jjC ?_
 refine jad (0) (fun k=>k≤3) (fun k=>3-k) (fun k=>[(14,Ji k)]) (fun k=>[(11,.box (preI (2*k) [Ji (T 0).1,Ji (T 0).2,Ji (T 1).1,Ji (T 1).2,Ji (T 2).1,Ji (T 2).2]))]) ?_ ?_ ?_
 ·exact V.wk
 ·exact jjx _
 intro k hk
 have hk4:k=0∨k=1∨k=2∨k=3:=Jo
 rcases hk4 with e|e|e|e
 all_goals subst e
 ·simp only[k0]
  refine V.r1 jiR c0 ?_
  exact⟨1,Jo,Jo,V.wk⟩
 ·simp only[k1]
  refine V.r1 jiR c1 ?_
  exact⟨2,Jo,Jo,V.wk⟩
 ·simp only[k2]
  refine V.r1 jiR c2 ?_
  exact⟨3,Jo,Jo,V.wk⟩
 ·simp only[k3]
  refine V.r0 @jjC ?_
  exact Fin.of rfl
theorem blist4b {F:Nat}{p0 p1 p2 p3 q0 q1 q2 q3:List UInt8}(T:Nat→Int×Int)(c0:Cl F (Ji 0::[.ref [.str p0,.str q0],.ref [.str p1,.str q1],.ref [.str p2,.str q2],.ref [.str p3,.str q3]]) (.tup [.agg [Ji (T 0).1,Ji (T 0).2],Ji 0]))(c1:Cl F (Ji 1::[.ref [.str p0,.str q0],.ref [.str p1,.str q1],.ref [.str p2,.str q2],.ref [.str p3,.str q3]]) (.tup [.agg [Ji (T 1).1,Ji (T 1).2],Ji 0]))(c2:Cl F (Ji 2::[.ref [.str p0,.str q0],.ref [.str p1,.str q1],.ref [.str p2,.str q2],.ref [.str p3,.str q3]]) (.tup [.agg [Ji (T 2).1,Ji (T 2).2],Ji 0]))(c3:Cl F (Ji 3::[.ref [.str p0,.str q0],.ref [.str p1,.str q1],.ref [.str p2,.str q2],.ref [.str p3,.str q3]]) (.tup [.agg [Ji (T 3).1,Ji (T 3).2],Ji 0])) :
  Cl 48 [Ji 4,.fn F [] [.ref [.str p0,.str q0],.ref [.str p1,.str q1],.ref [.str p2,.str q2],.ref [.str p3,.str q3]]] (.tup [V.sl2 4 [Ji (T 0).1,Ji (T 0).2,Ji (T 1).1,Ji (T 1).2,Ji (T 2).1,Ji (T 2).2,Ji (T 3).1,Ji (T 3).2],Ji 0]):=by
 refine V.en tbOk Tryz.func48 ?_
 refine V.r0 @jjC ?_
 refine jad (0) (fun k=>k≤4) (fun k=>4-k) (fun k=>[(14,Ji k)]) (fun k=>[(11,.box (preI (2*k) [Ji (T 0).1,Ji (T 0).2,Ji (T 1).1,Ji (T 1).2,Ji (T 2).1,Ji (T 2).2,Ji (T 3).1,Ji (T 3).2]))]) ?_ ?_ ?_
 ·exact V.wk
 ·exact jjx _
 intro k hk
 have hk4:k=0∨k=1∨k=2∨k=3∨k=4:=Jo
 rcases hk4 with e|e|e|e|e
 all_goals subst e
 ·simp only[k0]
  refine V.r1 jiR c0 ?_
  exact⟨1,Jo,Jo,V.wk⟩
 ·simp only[k1]
  refine V.r1 jiR c1 ?_
  exact⟨2,Jo,Jo,V.wk⟩
 ·simp only[k2]
  refine V.r1 jiR c2 ?_
  exact⟨3,Jo,Jo,V.wk⟩
 ·simp only[k3]
  refine V.r1 jiR c3 ?_
  exact⟨4,Jo,Jo,V.wk⟩
 ·simp only[xk4]
  refine V.r0 @jjC ?_
  exact Fin.of rfl
theorem blist1c {F:Nat}{e0 n0 e1 n1 e2 n2:Nat}{f0 f1 f2:Nat→List D}{g0 g1:List Int}(T:Nat→Int×Int)(c0:Cl F (Ji 0::[.ref [.slf e0 n0 f0],.ref [.slf e1 n1 f1],.ref [.slf e2 n2 f2],.ref [Jj g0],.ref [Jj g1]]) (.tup [.agg [Ji (T 0).1,Ji (T 0).2],Ji 0])) :
  Cl 48 [Ji 1,.fn F [] [.ref [.slf e0 n0 f0],.ref [.slf e1 n1 f1],.ref [.slf e2 n2 f2],.ref [Jj g0],.ref [Jj g1]]] (.tup [V.sl2 1 [Ji (T 0).1,Ji (T 0).2],Ji 0]):=by
 refine V.en tbOk Tryz.func48 ?_
 refine V.r0 @jjC ?_
 refine jad (0) (fun k=>k≤1) (fun k=>1-k) (fun k=>[(14,Ji k)]) (fun k=>[(11,.box (preI (2*k) [Ji (T 0).1,Ji (T 0).2]))]) ?_ ?_ ?_
 ·exact V.wk
 ·exact jjx _
 intro k hk
 have hk4:k=0∨k=1:=Jo
 rcases hk4 with e|e
 all_goals subst e
 ·simp only[k0]
  refine V.r1 jiR c0 ?_
  exact⟨1,Jo,Jo,V.wk⟩
 ·simp only[k1]
  refine V.r0 @jjC ?_
  exact Fin.of rfl
theorem blist2c {F:Nat}{e0 n0 e1 n1 e2 n2:Nat}{f0 f1 f2:Nat→List D}{g0 g1:List Int}(T:Nat→Int×Int)(c0:Cl F (Ji 0::[.ref [.slf e0 n0 f0],.ref [.slf e1 n1 f1],.ref [.slf e2 n2 f2],.ref [Jj g0],.ref [Jj g1]]) (.tup [.agg [Ji (T 0).1,Ji (T 0).2],Ji 0]))(c1:Cl F (Ji 1::[.ref [.slf e0 n0 f0],.ref [.slf e1 n1 f1],.ref [.slf e2 n2 f2],.ref [Jj g0],.ref [Jj g1]]) (.tup [.agg [Ji (T 1).1,Ji (T 1).2],Ji 0])) :
  Cl 48 [Ji 2,.fn F [] [.ref [.slf e0 n0 f0],.ref [.slf e1 n1 f1],.ref [.slf e2 n2 f2],.ref [Jj g0],.ref [Jj g1]]] (.tup [V.sl2 2 [Ji (T 0).1,Ji (T 0).2,Ji (T 1).1,Ji (T 1).2],Ji 0]):=by
 refine V.en tbOk Tryz.func48 ?_
 refine V.r0 @jjC ?_
 refine jad (0) (fun k=>k≤2) (fun k=>2-k) (fun k=>[(14,Ji k)]) (fun k=>[(11,.box (preI (2*k) [Ji (T 0).1,Ji (T 0).2,Ji (T 1).1,Ji (T 1).2]))]) ?_ ?_ ?_
 ·exact V.wk
 ·exact jjx _
 intro k hk
 have hk4:k=0∨k=1∨k=2:=Jo
 rcases hk4 with e|e|e
 all_goals subst e
 ·simp only[k0]
  refine V.r1 jiR c0 ?_
  exact⟨1,Jo,Jo,V.wk⟩
 ·simp only[k1]
  refine V.r1 jiR c1 ?_
  exact⟨2,Jo,Jo,V.wk⟩
 ·simp only[k2]
  refine V.r0 @jjC ?_
  exact Fin.of rfl
theorem blist3c {F:Nat}{e0 n0 e1 n1 e2 n2:Nat}{f0 f1 f2:Nat→List D}{g0 g1:List Int}(T:Nat→Int×Int)(c0:Cl F (Ji 0::[.ref [.slf e0 n0 f0],.ref [.slf e1 n1 f1],.ref [.slf e2 n2 f2],.ref [Jj g0],.ref [Jj g1]]) (.tup [.agg [Ji (T 0).1,Ji (T 0).2],Ji 0]))(c1:Cl F (Ji 1::[.ref [.slf e0 n0 f0],.ref [.slf e1 n1 f1],.ref [.slf e2 n2 f2],.ref [Jj g0],.ref [Jj g1]]) (.tup [.agg [Ji (T 1).1,Ji (T 1).2],Ji 0]))(c2:Cl F (Ji 2::[.ref [.slf e0 n0 f0],.ref [.slf e1 n1 f1],.ref [.slf e2 n2 f2],.ref [Jj g0],.ref [Jj g1]]) (.tup [.agg [Ji (T 2).1,Ji (T 2).2],Ji 0])) :
  Cl 48 [Ji 3,.fn F [] [.ref [.slf e0 n0 f0],.ref [.slf e1 n1 f1],.ref [.slf e2 n2 f2],.ref [Jj g0],.ref [Jj g1]]] (.tup [V.sl2 3 [Ji (T 0).1,Ji (T 0).2,Ji (T 1).1,Ji (T 1).2,Ji (T 2).1,Ji (T 2).2],Ji 0]):=by
 refine V.en tbOk Tryz.func48 ?_
 refine V.r0 @jjC ?_
 refine jad (0) (fun k=>k≤3) (fun k=>3-k) (fun k=>[(14,Ji k)]) (fun k=>[(11,.box (preI (2*k) [Ji (T 0).1,Ji (T 0).2,Ji (T 1).1,Ji (T 1).2,Ji (T 2).1,Ji (T 2).2]))]) ?_ ?_ ?_
 ·exact V.wk
 ·exact jjx _
 intro k hk
 have hk4:k=0∨k=1∨k=2∨k=3:=Jo
 rcases hk4 with e|e|e|e
 all_goals subst e
 ·simp only[k0]
  refine V.r1 jiR c0 ?_
  exact⟨1,Jo,Jo,V.wk⟩
 ·simp only[k1]
  refine V.r1 jiR c1 ?_
  exact⟨2,Jo,Jo,V.wk⟩
 ·simp only[k2]
  refine V.r1 jiR c2 ?_
  exact⟨3,Jo,Jo,V.wk⟩
 ·simp only[k3]
  refine V.r0 @jjC ?_
  exact Fin.of rfl
theorem conf1_0 (p0 p1 p2 p3 q0 q1 q2 q3:List UInt8)(b:Int×Int)(c:Cl 107 [.agg [.str p0,.str q0]] (.tup [.agg [Ji b.1,Ji b.2],Ji 0])):Cl 106 (Ji 0::[.ref [.str p0,.str q0],.ref [.str p1,.str q1],.ref [.str p2,.str q2],.ref [.str p3,.str q3]]) (.tup [.agg [Ji b.1,Ji b.2],Ji 0]):=by
 refine V.en tbOk Tryz.func106 ?_
 refine V.r1 jiR c ?_
 exact Fin.of rfl
theorem conf1_1 (p0 p1 p2 p3 q0 q1 q2 q3:List UInt8)(b:Int×Int)(c:Cl 107 [.agg [.str p1,.str q1]] (.tup [.agg [Ji b.1,Ji b.2],Ji 0])):Cl 106 (Ji 1::[.ref [.str p0,.str q0],.ref [.str p1,.str q1],.ref [.str p2,.str q2],.ref [.str p3,.str q3]]) (.tup [.agg [Ji b.1,Ji b.2],Ji 0]):=by
 refine V.en tbOk Tryz.func106 ?_
 refine V.r1 jiR c ?_
 exact Fin.of rfl
theorem conf1_2 (p0 p1 p2 p3 q0 q1 q2 q3:List UInt8)(b:Int×Int)(c:Cl 107 [.agg [.str p2,.str q2]] (.tup [.agg [Ji b.1,Ji b.2],Ji 0])):Cl 106 (Ji 2::[.ref [.str p0,.str q0],.ref [.str p1,.str q1],.ref [.str p2,.str q2],.ref [.str p3,.str q3]]) (.tup [.agg [Ji b.1,Ji b.2],Ji 0]):=by
 refine V.en tbOk Tryz.func106 ?_
 refine V.r1 jiR c ?_
 exact Fin.of rfl
theorem conf1_3 (p0 p1 p2 p3 q0 q1 q2 q3:List UInt8)(b:Int×Int)(c:Cl 107 [.agg [.str p3,.str q3]] (.tup [.agg [Ji b.1,Ji b.2],Ji 0])):Cl 106 (Ji 3::[.ref [.str p0,.str q0],.ref [.str p1,.str q1],.ref [.str p2,.str q2],.ref [.str p3,.str q3]]) (.tup [.agg [Ji b.1,Ji b.2],Ji 0]):=by
 refine V.en tbOk Tryz.func106 ?_
 refine V.r1 jiR c ?_
 exact Fin.of rfl
theorem bands1_10 (X:Nat→Int×Int)(b:Int×Int)(c:Cl 50 [.agg [Ji (X 0).1,Ji (X 0).2],Ji 0,Ji 1000000000000] (.tup [.agg [Ji b.1,Ji b.2],Ji 0])):Cl 49 (Ji 0::[.ref [V.sl2 1 [Ji (X 0).1,Ji (X 0).2]]]) (.tup [.agg [Ji b.1,Ji b.2],Ji 0]):=by
 refine V.en tbOk Tryz.func49 ?_
 refine V.r1 jiR c ?_
 exact Fin.of rfl
theorem jhR (X:Nat→Int×Int)(b:Int×Int)(c:Cl 50 [.agg [Ji (X 0).1,Ji (X 0).2],Ji 0,Ji 1000000000000] (.tup [.agg [Ji b.1,Ji b.2],Ji 0])):Cl 49 (Ji 0::[.ref [V.sl2 2 [Ji (X 0).1,Ji (X 0).2,Ji (X 1).1,Ji (X 1).2]]]) (.tup [.agg [Ji b.1,Ji b.2],Ji 0]):=by
 refine V.en tbOk Tryz.func49 ?_
 refine V.r1 jiR c ?_
 exact Fin.of rfl
theorem jhQ (X:Nat→Int×Int)(b:Int×Int)(c:Cl 50 [.agg [Ji (X 1).1,Ji (X 1).2],Ji 0,Ji 1000000000000] (.tup [.agg [Ji b.1,Ji b.2],Ji 0])):Cl 49 (Ji 1::[.ref [V.sl2 2 [Ji (X 0).1,Ji (X 0).2,Ji (X 1).1,Ji (X 1).2]]]) (.tup [.agg [Ji b.1,Ji b.2],Ji 0]):=by
 refine V.en tbOk Tryz.func49 ?_
 refine V.r1 jiR c ?_
 exact Fin.of rfl
theorem bands1_30 (X:Nat→Int×Int)(b:Int×Int)(c:Cl 50 [.agg [Ji (X 0).1,Ji (X 0).2],Ji 0,Ji 1000000000000] (.tup [.agg [Ji b.1,Ji b.2],Ji 0])):Cl 49 (Ji 0::[.ref [V.sl2 3 [Ji (X 0).1,Ji (X 0).2,Ji (X 1).1,Ji (X 1).2,Ji (X 2).1,Ji (X 2).2]]]) (.tup [.agg [Ji b.1,Ji b.2],Ji 0]):=by
 refine V.en tbOk Tryz.func49 ?_
 refine V.r1 jiR c ?_
 exact Fin.of rfl
theorem bands1_31 (X:Nat→Int×Int)(b:Int×Int)(c:Cl 50 [.agg [Ji (X 1).1,Ji (X 1).2],Ji 0,Ji 1000000000000] (.tup [.agg [Ji b.1,Ji b.2],Ji 0])):Cl 49 (Ji 1::[.ref [V.sl2 3 [Ji (X 0).1,Ji (X 0).2,Ji (X 1).1,Ji (X 1).2,Ji (X 2).1,Ji (X 2).2]]]) (.tup [.agg [Ji b.1,Ji b.2],Ji 0]):=by
 refine V.en tbOk Tryz.func49 ?_
 refine V.r1 jiR c ?_
 exact Fin.of rfl
theorem bands1_32 (X:Nat→Int×Int)(b:Int×Int)(c:Cl 50 [.agg [Ji (X 2).1,Ji (X 2).2],Ji 0,Ji 1000000000000] (.tup [.agg [Ji b.1,Ji b.2],Ji 0])):Cl 49 (Ji 2::[.ref [V.sl2 3 [Ji (X 0).1,Ji (X 0).2,Ji (X 1).1,Ji (X 1).2,Ji (X 2).1,Ji (X 2).2]]]) (.tup [.agg [Ji b.1,Ji b.2],Ji 0]):=by
 refine V.en tbOk Tryz.func49 ?_
 refine V.r1 jiR c ?_
 exact Fin.of rfl
theorem jiL:type_of% @jjC∧type_of% @tn0∧type_of% @tn1∧type_of% @tn2∧type_of% @tn3∧type_of% @xt4:=⟨@jjC,@tn0,@tn1,@tn2,@tn3,@xt4⟩
theorem list1_i {F e1 n1:Nat}{f1:Nat→List D}{g0:List Int}(T:Nat→Tx)(c0:Cl F (Ji 0::[.ref [Jj g0],.ref [.slf e1 n1 f1]]) (.tup [Jt (T 0),Ji 0])) :
  Cl 84 [Ji 1,.fn F [] [.ref [Jj g0],.ref [.slf e1 n1 f1]]] (.tup [V.sl2 1 [.str (T 0).1,.str (T 0).2],Ji 0]):=by
 refine V.en tbOk Tryz.func84 ?_
 refine V.r0 @jjC ?_
 refine jad (0) (fun k=>k≤1) (fun k=>1-k) (fun k=>[(14,Ji k)]) (fun k=>[(11,.box (preD (2*k) [.str (T 0).1,.str (T 0).2]))]) ?_ ?_ ?_
 ·exact V.wk
 ·exact jjx _
 intro k hk
 have hk4:k=0∨k=1:=Jo
 rcases hk4 with e|e
 all_goals subst e
 ·simp only[k0]
  refine V.r1 jiL c0 ?_
  exact⟨1,Jo,Jo,V.wk⟩
 ·simp only[k1]
  refine V.r0 @jjC ?_
  exact Fin.of rfl
theorem list2_i {F e1 n1:Nat}{f1:Nat→List D}{g0:List Int}(T:Nat→Tx)(c0:Cl F (Ji 0::[.ref [Jj g0],.ref [.slf e1 n1 f1]]) (.tup [Jt (T 0),Ji 0]))(c1:Cl F (Ji 1::[.ref [Jj g0],.ref [.slf e1 n1 f1]]) (.tup [Jt (T 1),Ji 0])) :
  Cl 84 [Ji 2,.fn F [] [.ref [Jj g0],.ref [.slf e1 n1 f1]]] (.tup [V.sl2 2 [.str (T 0).1,.str (T 0).2,.str (T 1).1,.str (T 1).2],Ji 0]):=by
 refine V.en tbOk Tryz.func84 ?_
 refine V.r0 @jjC ?_
 refine jad (0) (fun k=>k≤2) (fun k=>2-k) (fun k=>[(14,Ji k)]) (fun k=>[(11,.box (preD (2*k) [.str (T 0).1,.str (T 0).2,.str (T 1).1,.str (T 1).2]))]) ?_ ?_ ?_
 ·exact V.wk
 ·exact jjx _
 intro k hk
 have hk4:k=0∨k=1∨k=2:=Jo
 rcases hk4 with e|e|e
 all_goals subst e
 ·simp only[k0]
  refine V.r1 jiL c0 ?_
  exact⟨1,Jo,Jo,V.wk⟩
 ·simp only[k1]
  refine V.r1 jiL c1 ?_
  exact⟨2,Jo,Jo,V.wk⟩
 ·simp only[k2]
  refine V.r0 @jjC ?_
  exact Fin.of rfl
theorem list3_i {F e1 n1:Nat}{f1:Nat→List D}{g0:List Int}(T:Nat→Tx)(c0:Cl F (Ji 0::[.ref [Jj g0],.ref [.slf e1 n1 f1]]) (.tup [Jt (T 0),Ji 0]))(c1:Cl F (Ji 1::[.ref [Jj g0],.ref [.slf e1 n1 f1]]) (.tup [Jt (T 1),Ji 0]))(c2:Cl F (Ji 2::[.ref [Jj g0],.ref [.slf e1 n1 f1]]) (.tup [Jt (T 2),Ji 0])) :
  Cl 84 [Ji 3,.fn F [] [.ref [Jj g0],.ref [.slf e1 n1 f1]]] (.tup [V.sl2 3 [.str (T 0).1,.str (T 0).2,.str (T 1).1,.str (T 1).2,.str (T 2).1,.str (T 2).2],Ji 0]):=by
 refine V.en tbOk Tryz.func84 ?_
 refine V.r0 @jjC ?_
 refine jad (0) (fun k=>k≤3) (fun k=>3-k) (fun k=>[(14,Ji k)]) (fun k=>[(11,.box (preD (2*k) [.str (T 0).1,.str (T 0).2,.str (T 1).1,.str (T 1).2,.str (T 2).1,.str (T 2).2]))]) ?_ ?_ ?_
 ·exact V.wk
 ·exact jjx _
 intro k hk
 have hk4:k=0∨k=1∨k=2∨k=3:=Jo
 rcases hk4 with e|e|e|e
 all_goals subst e
 ·simp only[k0]
  refine V.r1 jiL c0 ?_
  exact⟨1,Jo,Jo,V.wk⟩
 ·simp only[k1]
  refine V.r1 jiL c1 ?_
  exact⟨2,Jo,Jo,V.wk⟩
 ·simp only[k2]
  refine V.r1 jiL c2 ?_
  exact⟨3,Jo,Jo,V.wk⟩
 ·simp only[k3]
  refine V.r0 @jjC ?_
  exact Fin.of rfl
theorem sum1 (P:Nat→Tx):Cl 89 [V.sl2 1 [.str (P 0).1,.str (P 0).2]] (.tup [Jt (P 0),Ji 0]):=by
 refine V.en tbOk Tryz.func89 ?_
 refine V.r0 jiL ?_
 refine jad (0) (fun k=>k=0) (fun k=>0-k) (fun k=>[(14,Ji k)]) (fun k=>[(4,.box [.str (P 0).1,.str (P 0).2])]) ?_ ?_ ?_
 ·exact V.wk
 ·rfl
 intro k hk
 subst hk
 simp only[k0]
 refine V.r0 @jjC ?_
 exact Fin.of rfl
theorem spr1_10 (st:List Int)(H:Nat→Tx)(g0 g1 m0 m1:List UInt8)(hl:st.length=1)(ig:Cl 88 [Ji (st.getD 0 0)] (.agg [.str g0,.str g1]))(mu:Cl 87 [.agg [.str g0,.str g1],Jt (H 0)] (.tup [.agg [.str m0,.str m1],Ji 0])) :
  Cl 103 [Ji 0,.ref [Jj st],.ref [V.sl2 1 [.str (H 0).1,.str (H 0).2]]] (.tup [.agg [.str m0,.str m1],Ji 0]):=by
 refine V.en tbOk Tryz.func103 ?_
 refine V.r0 jiL ?_
 refine⟨Pq52z,[],V.pok,?_⟩
 refine jab [(5,Ji 0)] [(4,.box [.str m0,.str m1])] ?_ ?_
 ·exact V.d2 jiL ig mu
 refine V.r0 @jjC ?_
 exact Fin.of rfl
theorem spr_1 (st:List Int)(H M:Nat→Tx)(u0 u1 f0 f1 y0 y1:List UInt8)(hl:st.length=1)(li:Cl 84 [Ji 1,.fn 103 [] [.ref [Jj st],.ref [V.sl2 1 [.str (H 0).1,.str (H 0).2]]]] (.tup [V.sl2 1 [.str (M 0).1,.str (M 0).2],Ji 0]))
  (su:Cl 89 [V.sl2 1 [.str (M 0).1,.str (M 0).2]] (.tup [.agg [.str u0,.str u1],Ji 0])) (fu:Cl 88 [Ji 65535] (.agg [.str f0,.str f1])) (dv:Cl 90 [.agg [.str u0,.str u1],.agg [.str f0,.str f1]] (.tup [.agg [.str y0,.str y1],Ji 0])) :
  Cl 53 [Jj st,V.sl2 1 [.str (H 0).1,.str (H 0).2]] (.tup [.agg [.str y0,.str y1],Ji 0]):=by
 have hi:((st.length:Nat):Int)=1:=by rw[hl];rfl
 refine V.en tbOk Tryz.func53 ?_
 (conv=>whnf)
 (conv=>whnf)
 (try simp only[jjC,hi])
 repeat ((first|refine V.s1 ?_|((try ((with_reducible refine .ext ?_);(conv=>whnf);(try simp only[jjC,hi])));(with_reducible refine jaa (r:=?_) ?_ ?_);rotate_left;(focus (first|exact(li)|exact(su)));(conv=>whnf)));(try simp only[jjC,hi]))
 refine⟨Pq91z,[],V.pok,?_⟩
 refine jab [(5,Ji 0)] [(4,.box [.str y0,.str y1])] ?_ ?_
 ·exact V.d2 @jjC fu dv
 refine V.r0 @jjC ?_
 exact Fin.of rfl
theorem spr1_20 (st:List Int)(H:Nat→Tx)(g0 g1 m0 m1:List UInt8)(hl:st.length=2)(ig:Cl 88 [Ji (st.getD 0 0)] (.agg [.str g0,.str g1]))(mu:Cl 87 [.agg [.str g0,.str g1],Jt (H 0)] (.tup [.agg [.str m0,.str m1],Ji 0])) :
  Cl 103 [Ji 0,.ref [Jj st],.ref [V.sl2 2 [.str (H 0).1,.str (H 0).2,.str (H 1).1,.str (H 1).2]]] (.tup [.agg [.str m0,.str m1],Ji 0]):=by
 refine V.en tbOk Tryz.func103 ?_
 refine V.r0 jiL ?_
 refine⟨Pq52z,[],V.pok,?_⟩
 refine jab [(5,Ji 0)] [(4,.box [.str m0,.str m1])] ?_ ?_
 ·exact V.d2 jiL ig mu
 refine V.r0 @jjC ?_
 exact Fin.of rfl
theorem spr1_21 (st:List Int)(H:Nat→Tx)(g0 g1 m0 m1:List UInt8)(hl:st.length=2)(ig:Cl 88 [Ji (st.getD 1 0)] (.agg [.str g0,.str g1]))(mu:Cl 87 [.agg [.str g0,.str g1],Jt (H 1)] (.tup [.agg [.str m0,.str m1],Ji 0])) :
  Cl 103 [Ji 1,.ref [Jj st],.ref [V.sl2 2 [.str (H 0).1,.str (H 0).2,.str (H 1).1,.str (H 1).2]]] (.tup [.agg [.str m0,.str m1],Ji 0]):=by
 refine V.en tbOk Tryz.func103 ?_
 refine V.r0 jiL ?_
 refine⟨Pq52z,[],V.pok,?_⟩
 refine jab [(5,Ji 0)] [(4,.box [.str m0,.str m1])] ?_ ?_
 ·exact V.d2 jiL ig mu
 refine V.r0 @jjC ?_
 exact Fin.of rfl
theorem spr_2 (st:List Int)(H M:Nat→Tx)(u0 u1 f0 f1 y0 y1:List UInt8)(hl:st.length=2)(li:Cl 84 [Ji 2,.fn 103 [] [.ref [Jj st],.ref [V.sl2 2 [.str (H 0).1,.str (H 0).2,.str (H 1).1,.str (H 1).2]]]] (.tup [V.sl2 2 [.str (M 0).1,.str (M 0).2,.str (M 1).1,.str (M 1).2],Ji 0]))
  (su:Cl 89 [V.sl2 2 [.str (M 0).1,.str (M 0).2,.str (M 1).1,.str (M 1).2]] (.tup [.agg [.str u0,.str u1],Ji 0])) (fu:Cl 88 [Ji 65535] (.agg [.str f0,.str f1])) (dv:Cl 90 [.agg [.str u0,.str u1],.agg [.str f0,.str f1]] (.tup [.agg [.str y0,.str y1],Ji 0])) :
  Cl 53 [Jj st,V.sl2 2 [.str (H 0).1,.str (H 0).2,.str (H 1).1,.str (H 1).2]] (.tup [.agg [.str y0,.str y1],Ji 0]):=by
 have hi:((st.length:Nat):Int)=2:=by rw[hl];rfl
 refine V.en tbOk Tryz.func53 ?_
 (conv=>whnf)
 (conv=>whnf)
 (try simp only[jjC,hi])
 repeat ((first|refine V.s1 ?_|((try ((with_reducible refine .ext ?_);(conv=>whnf);(try simp only[jjC,hi])));(with_reducible refine jaa (r:=?_) ?_ ?_);rotate_left;(focus (first|exact(li)|exact(su)));(conv=>whnf)));(try simp only[jjC,hi]))
 refine⟨Pq91z,[],V.pok,?_⟩
 refine jab [(5,Ji 0)] [(4,.box [.str y0,.str y1])] ?_ ?_
 ·exact V.d2 @jjC fu dv
 refine V.r0 @jjC ?_
 exact Fin.of rfl
theorem spr1_30 (st:List Int)(H:Nat→Tx)(g0 g1 m0 m1:List UInt8)(hl:st.length=3)(ig:Cl 88 [Ji (st.getD 0 0)] (.agg [.str g0,.str g1]))(mu:Cl 87 [.agg [.str g0,.str g1],Jt (H 0)] (.tup [.agg [.str m0,.str m1],Ji 0])) :
  Cl 103 [Ji 0,.ref [Jj st],.ref [V.sl2 3 [.str (H 0).1,.str (H 0).2,.str (H 1).1,.str (H 1).2,.str (H 2).1,.str (H 2).2]]] (.tup [.agg [.str m0,.str m1],Ji 0]):=by
 refine V.en tbOk Tryz.func103 ?_
 refine V.r0 jiL ?_
 refine⟨Pq52z,[],V.pok,?_⟩
 refine jab [(5,Ji 0)] [(4,.box [.str m0,.str m1])] ?_ ?_
 ·exact V.d2 jiL ig mu
 refine V.r0 @jjC ?_
 exact Fin.of rfl
theorem spr1_31 (st:List Int)(H:Nat→Tx)(g0 g1 m0 m1:List UInt8)(hl:st.length=3)(ig:Cl 88 [Ji (st.getD 1 0)] (.agg [.str g0,.str g1]))(mu:Cl 87 [.agg [.str g0,.str g1],Jt (H 1)] (.tup [.agg [.str m0,.str m1],Ji 0])) :
  Cl 103 [Ji 1,.ref [Jj st],.ref [V.sl2 3 [.str (H 0).1,.str (H 0).2,.str (H 1).1,.str (H 1).2,.str (H 2).1,.str (H 2).2]]] (.tup [.agg [.str m0,.str m1],Ji 0]):=by
 refine V.en tbOk Tryz.func103 ?_
 refine V.r0 jiL ?_
 refine⟨Pq52z,[],V.pok,?_⟩
 refine jab [(5,Ji 0)] [(4,.box [.str m0,.str m1])] ?_ ?_
 ·exact V.d2 jiL ig mu
 refine V.r0 @jjC ?_
 exact Fin.of rfl
theorem spr1_32 (st:List Int)(H:Nat→Tx)(g0 g1 m0 m1:List UInt8)(hl:st.length=3)(ig:Cl 88 [Ji (st.getD 2 0)] (.agg [.str g0,.str g1]))(mu:Cl 87 [.agg [.str g0,.str g1],Jt (H 2)] (.tup [.agg [.str m0,.str m1],Ji 0])) :
  Cl 103 [Ji 2,.ref [Jj st],.ref [V.sl2 3 [.str (H 0).1,.str (H 0).2,.str (H 1).1,.str (H 1).2,.str (H 2).1,.str (H 2).2]]] (.tup [.agg [.str m0,.str m1],Ji 0]):=by
 refine V.en tbOk Tryz.func103 ?_
 refine V.r0 jiL ?_
 refine⟨Pq52z,[],V.pok,?_⟩
 refine jab [(5,Ji 0)] [(4,.box [.str m0,.str m1])] ?_ ?_
 ·exact V.d2 jiL ig mu
 refine V.r0 @jjC ?_
 exact Fin.of rfl
theorem spr_3 (st:List Int)(H M:Nat→Tx)(u0 u1 f0 f1 y0 y1:List UInt8)(hl:st.length=3)(li:Cl 84 [Ji 3,.fn 103 [] [.ref [Jj st],.ref [V.sl2 3 [.str (H 0).1,.str (H 0).2,.str (H 1).1,.str (H 1).2,.str (H 2).1,.str (H 2).2]]]] (.tup [V.sl2 3 [.str (M 0).1,.str (M 0).2,.str (M 1).1,.str (M 1).2,.str (M 2).1,.str (M 2).2],Ji 0]))
  (su:Cl 89 [V.sl2 3 [.str (M 0).1,.str (M 0).2,.str (M 1).1,.str (M 1).2,.str (M 2).1,.str (M 2).2]] (.tup [.agg [.str u0,.str u1],Ji 0])) (fu:Cl 88 [Ji 65535] (.agg [.str f0,.str f1])) (dv:Cl 90 [.agg [.str u0,.str u1],.agg [.str f0,.str f1]] (.tup [.agg [.str y0,.str y1],Ji 0])) :
  Cl 53 [Jj st,V.sl2 3 [.str (H 0).1,.str (H 0).2,.str (H 1).1,.str (H 1).2,.str (H 2).1,.str (H 2).2]] (.tup [.agg [.str y0,.str y1],Ji 0]):=by
 have hi:((st.length:Nat):Int)=3:=by rw[hl];rfl
 refine V.en tbOk Tryz.func53 ?_
 (conv=>whnf)
 (conv=>whnf)
 (try simp only[jjC,hi])
 repeat ((first|refine V.s1 ?_|((try ((with_reducible refine .ext ?_);(conv=>whnf);(try simp only[jjC,hi])));(with_reducible refine jaa (r:=?_) ?_ ?_);rotate_left;(focus (first|exact(li)|exact(su)));(conv=>whnf)));(try simp only[jjC,hi]))
 refine⟨Pq91z,[],V.pok,?_⟩
 refine jab [(5,Ji 0)] [(4,.box [.str y0,.str y1])] ?_ ?_
 ·exact V.d2 @jjC fu dv
 refine V.r0 @jjC ?_
 exact Fin.of rfl
theorem confined_t (p0 p1 p2 p3 q0 q1 q2 q3 s0 s1 a0 a1:List UInt8)(T:Nat→Int×Int)(h o:Int×Int)(sb:Cl 104 [.agg [.str p0,.str q0],.agg [.str p1,.str q1]] (.tup [.agg [.str s0,.str s1],Ji 0]))(ad:Cl 105 [.agg [.str p0,.str q0],.agg [.str p1,.str q1]] (.tup [.agg [.str a0,.str a1],Ji 0]))
  (li:Cl 48 [Ji 4,.fn 106 [] [.ref [.str s0,.str s1],.ref [.str a0,.str a1],.ref [.str p2,.str q2],.ref [.str p3,.str q3]]] (.tup [V.sl2 4 [Ji (T 0).1,Ji (T 0).2,Ji (T 1).1,Ji (T 1).2,Ji (T 2).1,Ji (T 2).2,Ji (T 3).1,Ji (T 3).2],Ji 0]))
  (hu:Cl 108 [.agg [Ji (T 0).1,Ji (T 0).2],.agg [Ji (T 1).1,Ji (T 1).2]] (.tup [.agg [Ji h.1,Ji h.2],Ji 0])) (ob:Cl 109 [Ji (max h.1 (T 2).1),Ji (min h.2 (T 3).2)] (.tup [.agg [Ji o.1,Ji o.2],Ji 0])) :
  Cl 54 [.agg [.str p0,.str q0],.agg [.str p1,.str q1],.agg [.str p2,.str q2],.agg [.str p3,.str q3]] (.tup [.agg [Ji o.1,Ji o.2],Ji 0]):=by
 refine V.en tbOk Tryz.func54 ?_
 refine V.r3 jiL sb ad li ?_
 refine⟨(V.tk [0,1,2,3,4,5] (.ev (.cons 6 [] (V.tk [7,8,9] (V.e1 10 [9,8,7] (V.e1 11 [9] (V.tk [12] .done)))) (.cons 10 [5,4,3,2,1,0] (V.e1 6 [] (V.tk [7,8,9] (V.e1 11 [9] (V.tk [12] .done)))) .nil)))),[],V.pok,?_⟩
 refine jab [(14,.box 14 0),(11,Ji 0)] [(14,.box [Ji h.1,Ji h.2])] ?_ ?_
 ·exact V.d1 jiL hu
 refine V.r0 jiL ?_
 refine⟨(V.tk [0,1,2,3,4,5,6,7,8,9,10,11,12,13] (V.e1 14 [] (V.tk [15,16] (V.e1 17 [] (V.tk [18] .done))))),[],V.pok,?_⟩
 refine jab [(9,Ji 0)] [(8,.box [Ji o.1,Ji o.2])] ?_ ?_
 ·exact V.d1 jiL ob
 refine V.r0 @jjC ?_
 exact Fin.of rfl
theorem bands2_110 (T:Nat→List Int)(H Y:Nat→Tx)(lo hi:List Int)(d0 d1 l0 l1 h0 h1:List UInt8)(b:Int×Int)(hlo:lo.length=1)(hhi:hi.length=1)(sp:Cl 53 [Jj (T 0),V.sl2 1 [.str (H 0).1,.str (H 0).2]] (.tup [.agg [.str d0,.str d1],Ji 0]))(o1:Cl 51 [Ji (lo.getD 0 0),Ji 65535] (.agg [.str l0,.str l1]))(o2:Cl 51 [Ji (hi.getD 0 0),Ji 65535] (.agg [.str h0,.str h1]))
  (cf:Cl 54 [Jt (Y 0),.agg [.str d0,.str d1],.agg [.str l0,.str l1],.agg [.str h0,.str h1]] (.tup [.agg [Ji b.1,Ji b.2],Ji 0])) :
  Cl 52 (Ji 0::[.ref [.slf 1 1 (fun j=>List.take 1 (List.drop (j*1) [Jj (T 0)]))],.ref [V.sl2 1 [.str (H 0).1,.str (H 0).2]],.ref [V.sl2 1 [.str (Y 0).1,.str (Y 0).2]],.ref [Jj lo],.ref [Jj hi]]) (.tup [.agg [Ji b.1,Ji b.2],Ji 0]):=by
 refine V.en tbOk Tryz.func52 ?_
 refine V.r0 jiL ?_
 refine⟨Pq45z,[],V.pok,?_⟩
 refine jab [(9,.box 9 0),(10,Ji 0)] [(9,.box [.str d0,.str d1])] ?_ ?_
 ·exact V.d1 jiL sp
 refine V.r0 jiL ?_
 refine⟨Pq1z,[],V.pok,?_⟩
 refine jab [(8,Ji 0)] [(7,.box [Ji b.1,Ji b.2])] ?_ ?_
 ·exact V.d3 jiL o1 o2 cf
 refine V.r0 @jjC ?_
 exact Fin.of rfl
theorem bands2_120 (T:Nat→List Int)(H Y:Nat→Tx)(lo hi:List Int)(d0 d1 l0 l1 h0 h1:List UInt8)(b:Int×Int)(hlo:lo.length=2)(hhi:hi.length=2)(sp:Cl 53 [Jj (T 0),V.sl2 1 [.str (H 0).1,.str (H 0).2]] (.tup [.agg [.str d0,.str d1],Ji 0]))(o1:Cl 51 [Ji (lo.getD 0 0),Ji 65535] (.agg [.str l0,.str l1]))(o2:Cl 51 [Ji (hi.getD 0 0),Ji 65535] (.agg [.str h0,.str h1]))
  (cf:Cl 54 [Jt (Y 0),.agg [.str d0,.str d1],.agg [.str l0,.str l1],.agg [.str h0,.str h1]] (.tup [.agg [Ji b.1,Ji b.2],Ji 0])) :
  Cl 52 (Ji 0::[.ref [.slf 1 2 (fun j=>List.take 1 (List.drop (j*1) [Jj (T 0),Jj (T 1)]))],.ref [V.sl2 1 [.str (H 0).1,.str (H 0).2]],.ref [V.sl2 2 [.str (Y 0).1,.str (Y 0).2,.str (Y 1).1,.str (Y 1).2]],.ref [Jj lo],.ref [Jj hi]]) (.tup [.agg [Ji b.1,Ji b.2],Ji 0]):=by
 refine V.en tbOk Tryz.func52 ?_
 refine V.r0 jiL ?_
 refine⟨Pq45z,[],V.pok,?_⟩
 refine jab [(9,.box 9 0),(10,Ji 0)] [(9,.box [.str d0,.str d1])] ?_ ?_
 ·exact V.d1 jiL sp
 refine V.r0 jiL ?_
 refine⟨Pq1z,[],V.pok,?_⟩
 refine jab [(8,Ji 0)] [(7,.box [Ji b.1,Ji b.2])] ?_ ?_
 ·exact V.d3 jiL o1 o2 cf
 refine V.r0 @jjC ?_
 exact Fin.of rfl
theorem bands2_121 (T:Nat→List Int)(H Y:Nat→Tx)(lo hi:List Int)(d0 d1 l0 l1 h0 h1:List UInt8)(b:Int×Int)(hlo:lo.length=2)(hhi:hi.length=2)(sp:Cl 53 [Jj (T 1),V.sl2 1 [.str (H 0).1,.str (H 0).2]] (.tup [.agg [.str d0,.str d1],Ji 0]))(o1:Cl 51 [Ji (lo.getD 1 0),Ji 65535] (.agg [.str l0,.str l1]))(o2:Cl 51 [Ji (hi.getD 1 0),Ji 65535] (.agg [.str h0,.str h1]))
  (cf:Cl 54 [Jt (Y 1),.agg [.str d0,.str d1],.agg [.str l0,.str l1],.agg [.str h0,.str h1]] (.tup [.agg [Ji b.1,Ji b.2],Ji 0])) :
  Cl 52 (Ji 1::[.ref [.slf 1 2 (fun j=>List.take 1 (List.drop (j*1) [Jj (T 0),Jj (T 1)]))],.ref [V.sl2 1 [.str (H 0).1,.str (H 0).2]],.ref [V.sl2 2 [.str (Y 0).1,.str (Y 0).2,.str (Y 1).1,.str (Y 1).2]],.ref [Jj lo],.ref [Jj hi]]) (.tup [.agg [Ji b.1,Ji b.2],Ji 0]):=by
 refine V.en tbOk Tryz.func52 ?_
 refine V.r0 jiL ?_
 refine⟨Pq45z,[],V.pok,?_⟩
 refine jab [(9,.box 9 0),(10,Ji 0)] [(9,.box [.str d0,.str d1])] ?_ ?_
 ·exact V.d1 jiL sp
 refine V.r0 jiL ?_
 refine⟨Pq1z,[],V.pok,?_⟩
 refine jab [(8,Ji 0)] [(7,.box [Ji b.1,Ji b.2])] ?_ ?_
 ·exact V.d3 jiL o1 o2 cf
 refine V.r0 @jjC ?_
 exact Fin.of rfl
theorem bands2_130 (T:Nat→List Int)(H Y:Nat→Tx)(lo hi:List Int)(d0 d1 l0 l1 h0 h1:List UInt8)(b:Int×Int)(hlo:lo.length=3)(hhi:hi.length=3)(sp:Cl 53 [Jj (T 0),V.sl2 1 [.str (H 0).1,.str (H 0).2]] (.tup [.agg [.str d0,.str d1],Ji 0]))(o1:Cl 51 [Ji (lo.getD 0 0),Ji 65535] (.agg [.str l0,.str l1]))(o2:Cl 51 [Ji (hi.getD 0 0),Ji 65535] (.agg [.str h0,.str h1]))
  (cf:Cl 54 [Jt (Y 0),.agg [.str d0,.str d1],.agg [.str l0,.str l1],.agg [.str h0,.str h1]] (.tup [.agg [Ji b.1,Ji b.2],Ji 0])) :
  Cl 52 (Ji 0::[.ref [.slf 1 3 (fun j=>List.take 1 (List.drop (j*1) [Jj (T 0),Jj (T 1),Jj (T 2)]))],.ref [V.sl2 1 [.str (H 0).1,.str (H 0).2]],.ref [V.sl2 3 [.str (Y 0).1,.str (Y 0).2,.str (Y 1).1,.str (Y 1).2,.str (Y 2).1,.str (Y 2).2]],.ref [Jj lo],.ref [Jj hi]]) (.tup [.agg [Ji b.1,Ji b.2],Ji 0]):=by
 refine V.en tbOk Tryz.func52 ?_
 refine V.r0 jiL ?_
 refine⟨Pq45z,[],V.pok,?_⟩
 refine jab [(9,.box 9 0),(10,Ji 0)] [(9,.box [.str d0,.str d1])] ?_ ?_
 ·exact V.d1 jiL sp
 refine V.r0 jiL ?_
 refine⟨Pq1z,[],V.pok,?_⟩
 refine jab [(8,Ji 0)] [(7,.box [Ji b.1,Ji b.2])] ?_ ?_
 ·exact V.d3 jiL o1 o2 cf
 refine V.r0 @jjC ?_
 exact Fin.of rfl
theorem bands2_131 (T:Nat→List Int)(H Y:Nat→Tx)(lo hi:List Int)(d0 d1 l0 l1 h0 h1:List UInt8)(b:Int×Int)(hlo:lo.length=3)(hhi:hi.length=3)(sp:Cl 53 [Jj (T 1),V.sl2 1 [.str (H 0).1,.str (H 0).2]] (.tup [.agg [.str d0,.str d1],Ji 0]))(o1:Cl 51 [Ji (lo.getD 1 0),Ji 65535] (.agg [.str l0,.str l1]))(o2:Cl 51 [Ji (hi.getD 1 0),Ji 65535] (.agg [.str h0,.str h1]))
  (cf:Cl 54 [Jt (Y 1),.agg [.str d0,.str d1],.agg [.str l0,.str l1],.agg [.str h0,.str h1]] (.tup [.agg [Ji b.1,Ji b.2],Ji 0])) :
  Cl 52 (Ji 1::[.ref [.slf 1 3 (fun j=>List.take 1 (List.drop (j*1) [Jj (T 0),Jj (T 1),Jj (T 2)]))],.ref [V.sl2 1 [.str (H 0).1,.str (H 0).2]],.ref [V.sl2 3 [.str (Y 0).1,.str (Y 0).2,.str (Y 1).1,.str (Y 1).2,.str (Y 2).1,.str (Y 2).2]],.ref [Jj lo],.ref [Jj hi]]) (.tup [.agg [Ji b.1,Ji b.2],Ji 0]):=by
 refine V.en tbOk Tryz.func52 ?_
 refine V.r0 jiL ?_
 refine⟨Pq45z,[],V.pok,?_⟩
 refine jab [(9,.box 9 0),(10,Ji 0)] [(9,.box [.str d0,.str d1])] ?_ ?_
 ·exact V.d1 jiL sp
 refine V.r0 jiL ?_
 refine⟨Pq1z,[],V.pok,?_⟩
 refine jab [(8,Ji 0)] [(7,.box [Ji b.1,Ji b.2])] ?_ ?_
 ·exact V.d3 jiL o1 o2 cf
 refine V.r0 @jjC ?_
 exact Fin.of rfl
theorem bands2_132 (T:Nat→List Int)(H Y:Nat→Tx)(lo hi:List Int)(d0 d1 l0 l1 h0 h1:List UInt8)(b:Int×Int)(hlo:lo.length=3)(hhi:hi.length=3)(sp:Cl 53 [Jj (T 2),V.sl2 1 [.str (H 0).1,.str (H 0).2]] (.tup [.agg [.str d0,.str d1],Ji 0]))(o1:Cl 51 [Ji (lo.getD 2 0),Ji 65535] (.agg [.str l0,.str l1]))(o2:Cl 51 [Ji (hi.getD 2 0),Ji 65535] (.agg [.str h0,.str h1]))
  (cf:Cl 54 [Jt (Y 2),.agg [.str d0,.str d1],.agg [.str l0,.str l1],.agg [.str h0,.str h1]] (.tup [.agg [Ji b.1,Ji b.2],Ji 0])) :
  Cl 52 (Ji 2::[.ref [.slf 1 3 (fun j=>List.take 1 (List.drop (j*1) [Jj (T 0),Jj (T 1),Jj (T 2)]))],.ref [V.sl2 1 [.str (H 0).1,.str (H 0).2]],.ref [V.sl2 3 [.str (Y 0).1,.str (Y 0).2,.str (Y 1).1,.str (Y 1).2,.str (Y 2).1,.str (Y 2).2]],.ref [Jj lo],.ref [Jj hi]]) (.tup [.agg [Ji b.1,Ji b.2],Ji 0]):=by
 refine V.en tbOk Tryz.func52 ?_
 refine V.r0 jiL ?_
 refine⟨Pq45z,[],V.pok,?_⟩
 refine jab [(9,.box 9 0),(10,Ji 0)] [(9,.box [.str d0,.str d1])] ?_ ?_
 ·exact V.d1 jiL sp
 refine V.r0 jiL ?_
 refine⟨Pq1z,[],V.pok,?_⟩
 refine jab [(8,Ji 0)] [(7,.box [Ji b.1,Ji b.2])] ?_ ?_
 ·exact V.d3 jiL o1 o2 cf
 refine V.r0 @jjC ?_
 exact Fin.of rfl
theorem jgo (T:Nat→List Int)(H Y:Nat→Tx)(lo hi:List Int)(d0 d1 l0 l1 h0 h1:List UInt8)(b:Int×Int)(hlo:lo.length=1)(hhi:hi.length=1)(sp:Cl 53 [Jj (T 0),V.sl2 2 [.str (H 0).1,.str (H 0).2,.str (H 1).1,.str (H 1).2]] (.tup [.agg [.str d0,.str d1],Ji 0]))(o1:Cl 51 [Ji (lo.getD 0 0),Ji 65535] (.agg [.str l0,.str l1]))(o2:Cl 51 [Ji (hi.getD 0 0),Ji 65535] (.agg [.str h0,.str h1]))
  (cf:Cl 54 [Jt (Y 0),.agg [.str d0,.str d1],.agg [.str l0,.str l1],.agg [.str h0,.str h1]] (.tup [.agg [Ji b.1,Ji b.2],Ji 0])) :
  Cl 52 (Ji 0::[.ref [.slf 1 1 (fun j=>List.take 1 (List.drop (j*1) [Jj (T 0)]))],.ref [V.sl2 2 [.str (H 0).1,.str (H 0).2,.str (H 1).1,.str (H 1).2]],.ref [V.sl2 1 [.str (Y 0).1,.str (Y 0).2]],.ref [Jj lo],.ref [Jj hi]]) (.tup [.agg [Ji b.1,Ji b.2],Ji 0]):=by
 refine V.en tbOk Tryz.func52 ?_
 refine V.r0 jiL ?_
 refine⟨Pq45z,[],V.pok,?_⟩
 refine jab [(9,.box 9 0),(10,Ji 0)] [(9,.box [.str d0,.str d1])] ?_ ?_
 ·exact V.d1 jiL sp
 refine V.r0 jiL ?_
 refine⟨Pq1z,[],V.pok,?_⟩
 refine jab [(8,Ji 0)] [(7,.box [Ji b.1,Ji b.2])] ?_ ?_
 ·exact V.d3 jiL o1 o2 cf
 refine V.r0 @jjC ?_
 exact Fin.of rfl
theorem bands2_220 (T:Nat→List Int)(H Y:Nat→Tx)(lo hi:List Int)(d0 d1 l0 l1 h0 h1:List UInt8)(b:Int×Int)(hlo:lo.length=2)(hhi:hi.length=2)(sp:Cl 53 [Jj (T 0),V.sl2 2 [.str (H 0).1,.str (H 0).2,.str (H 1).1,.str (H 1).2]] (.tup [.agg [.str d0,.str d1],Ji 0]))(o1:Cl 51 [Ji (lo.getD 0 0),Ji 65535] (.agg [.str l0,.str l1]))(o2:Cl 51 [Ji (hi.getD 0 0),Ji 65535] (.agg [.str h0,.str h1]))
  (cf:Cl 54 [Jt (Y 0),.agg [.str d0,.str d1],.agg [.str l0,.str l1],.agg [.str h0,.str h1]] (.tup [.agg [Ji b.1,Ji b.2],Ji 0])) :
  Cl 52 (Ji 0::[.ref [.slf 1 2 (fun j=>List.take 1 (List.drop (j*1) [Jj (T 0),Jj (T 1)]))],.ref [V.sl2 2 [.str (H 0).1,.str (H 0).2,.str (H 1).1,.str (H 1).2]],.ref [V.sl2 2 [.str (Y 0).1,.str (Y 0).2,.str (Y 1).1,.str (Y 1).2]],.ref [Jj lo],.ref [Jj hi]]) (.tup [.agg [Ji b.1,Ji b.2],Ji 0]):=by
 refine V.en tbOk Tryz.func52 ?_
 refine V.r0 jiL ?_
 refine⟨Pq45z,[],V.pok,?_⟩
 refine jab [(9,.box 9 0),(10,Ji 0)] [(9,.box [.str d0,.str d1])] ?_ ?_
 ·exact V.d1 jiL sp
 refine V.r0 jiL ?_
 refine⟨Pq1z,[],V.pok,?_⟩
 refine jab [(8,Ji 0)] [(7,.box [Ji b.1,Ji b.2])] ?_ ?_
 ·exact V.d3 jiL o1 o2 cf
 refine V.r0 @jjC ?_
 exact Fin.of rfl
theorem bands2_221 (T:Nat→List Int)(H Y:Nat→Tx)(lo hi:List Int)(d0 d1 l0 l1 h0 h1:List UInt8)(b:Int×Int)(hlo:lo.length=2)(hhi:hi.length=2)(sp:Cl 53 [Jj (T 1),V.sl2 2 [.str (H 0).1,.str (H 0).2,.str (H 1).1,.str (H 1).2]] (.tup [.agg [.str d0,.str d1],Ji 0]))(o1:Cl 51 [Ji (lo.getD 1 0),Ji 65535] (.agg [.str l0,.str l1]))(o2:Cl 51 [Ji (hi.getD 1 0),Ji 65535] (.agg [.str h0,.str h1]))
  (cf:Cl 54 [Jt (Y 1),.agg [.str d0,.str d1],.agg [.str l0,.str l1],.agg [.str h0,.str h1]] (.tup [.agg [Ji b.1,Ji b.2],Ji 0])) :
  Cl 52 (Ji 1::[.ref [.slf 1 2 (fun j=>List.take 1 (List.drop (j*1) [Jj (T 0),Jj (T 1)]))],.ref [V.sl2 2 [.str (H 0).1,.str (H 0).2,.str (H 1).1,.str (H 1).2]],.ref [V.sl2 2 [.str (Y 0).1,.str (Y 0).2,.str (Y 1).1,.str (Y 1).2]],.ref [Jj lo],.ref [Jj hi]]) (.tup [.agg [Ji b.1,Ji b.2],Ji 0]):=by
 refine V.en tbOk Tryz.func52 ?_
 refine V.r0 jiL ?_
 refine⟨Pq45z,[],V.pok,?_⟩
 refine jab [(9,.box 9 0),(10,Ji 0)] [(9,.box [.str d0,.str d1])] ?_ ?_
 ·exact V.d1 jiL sp
 refine V.r0 jiL ?_
 refine⟨Pq1z,[],V.pok,?_⟩
 refine jab [(8,Ji 0)] [(7,.box [Ji b.1,Ji b.2])] ?_ ?_
 ·exact V.d3 jiL o1 o2 cf
 refine V.r0 @jjC ?_
 exact Fin.of rfl
theorem bands2_230 (T:Nat→List Int)(H Y:Nat→Tx)(lo hi:List Int)(d0 d1 l0 l1 h0 h1:List UInt8)(b:Int×Int)(hlo:lo.length=3)(hhi:hi.length=3)(sp:Cl 53 [Jj (T 0),V.sl2 2 [.str (H 0).1,.str (H 0).2,.str (H 1).1,.str (H 1).2]] (.tup [.agg [.str d0,.str d1],Ji 0]))(o1:Cl 51 [Ji (lo.getD 0 0),Ji 65535] (.agg [.str l0,.str l1]))(o2:Cl 51 [Ji (hi.getD 0 0),Ji 65535] (.agg [.str h0,.str h1]))
  (cf:Cl 54 [Jt (Y 0),.agg [.str d0,.str d1],.agg [.str l0,.str l1],.agg [.str h0,.str h1]] (.tup [.agg [Ji b.1,Ji b.2],Ji 0])) :
  Cl 52 (Ji 0::[.ref [.slf 1 3 (fun j=>List.take 1 (List.drop (j*1) [Jj (T 0),Jj (T 1),Jj (T 2)]))],.ref [V.sl2 2 [.str (H 0).1,.str (H 0).2,.str (H 1).1,.str (H 1).2]],.ref [V.sl2 3 [.str (Y 0).1,.str (Y 0).2,.str (Y 1).1,.str (Y 1).2,.str (Y 2).1,.str (Y 2).2]],.ref [Jj lo],.ref [Jj hi]]) (.tup [.agg [Ji b.1,Ji b.2],Ji 0]):=by
 refine V.en tbOk Tryz.func52 ?_
 refine V.r0 jiL ?_
 refine⟨Pq45z,[],V.pok,?_⟩
 refine jab [(9,.box 9 0),(10,Ji 0)] [(9,.box [.str d0,.str d1])] ?_ ?_
 ·exact V.d1 jiL sp
 refine V.r0 jiL ?_
 refine⟨Pq1z,[],V.pok,?_⟩
 refine jab [(8,Ji 0)] [(7,.box [Ji b.1,Ji b.2])] ?_ ?_
 ·exact V.d3 jiL o1 o2 cf
 refine V.r0 @jjC ?_
 exact Fin.of rfl
theorem bands2_231 (T:Nat→List Int)(H Y:Nat→Tx)(lo hi:List Int)(d0 d1 l0 l1 h0 h1:List UInt8)(b:Int×Int)(hlo:lo.length=3)(hhi:hi.length=3)(sp:Cl 53 [Jj (T 1),V.sl2 2 [.str (H 0).1,.str (H 0).2,.str (H 1).1,.str (H 1).2]] (.tup [.agg [.str d0,.str d1],Ji 0]))(o1:Cl 51 [Ji (lo.getD 1 0),Ji 65535] (.agg [.str l0,.str l1]))(o2:Cl 51 [Ji (hi.getD 1 0),Ji 65535] (.agg [.str h0,.str h1]))
  (cf:Cl 54 [Jt (Y 1),.agg [.str d0,.str d1],.agg [.str l0,.str l1],.agg [.str h0,.str h1]] (.tup [.agg [Ji b.1,Ji b.2],Ji 0])) :
  Cl 52 (Ji 1::[.ref [.slf 1 3 (fun j=>List.take 1 (List.drop (j*1) [Jj (T 0),Jj (T 1),Jj (T 2)]))],.ref [V.sl2 2 [.str (H 0).1,.str (H 0).2,.str (H 1).1,.str (H 1).2]],.ref [V.sl2 3 [.str (Y 0).1,.str (Y 0).2,.str (Y 1).1,.str (Y 1).2,.str (Y 2).1,.str (Y 2).2]],.ref [Jj lo],.ref [Jj hi]]) (.tup [.agg [Ji b.1,Ji b.2],Ji 0]):=by
 refine V.en tbOk Tryz.func52 ?_
 refine V.r0 jiL ?_
 refine⟨Pq45z,[],V.pok,?_⟩
 refine jab [(9,.box 9 0),(10,Ji 0)] [(9,.box [.str d0,.str d1])] ?_ ?_
 ·exact V.d1 jiL sp
 refine V.r0 jiL ?_
 refine⟨Pq1z,[],V.pok,?_⟩
 refine jab [(8,Ji 0)] [(7,.box [Ji b.1,Ji b.2])] ?_ ?_
 ·exact V.d3 jiL o1 o2 cf
 refine V.r0 @jjC ?_
 exact Fin.of rfl
theorem bands2_232 (T:Nat→List Int)(H Y:Nat→Tx)(lo hi:List Int)(d0 d1 l0 l1 h0 h1:List UInt8)(b:Int×Int)(hlo:lo.length=3)(hhi:hi.length=3)(sp:Cl 53 [Jj (T 2),V.sl2 2 [.str (H 0).1,.str (H 0).2,.str (H 1).1,.str (H 1).2]] (.tup [.agg [.str d0,.str d1],Ji 0]))(o1:Cl 51 [Ji (lo.getD 2 0),Ji 65535] (.agg [.str l0,.str l1]))(o2:Cl 51 [Ji (hi.getD 2 0),Ji 65535] (.agg [.str h0,.str h1]))
  (cf:Cl 54 [Jt (Y 2),.agg [.str d0,.str d1],.agg [.str l0,.str l1],.agg [.str h0,.str h1]] (.tup [.agg [Ji b.1,Ji b.2],Ji 0])) :
  Cl 52 (Ji 2::[.ref [.slf 1 3 (fun j=>List.take 1 (List.drop (j*1) [Jj (T 0),Jj (T 1),Jj (T 2)]))],.ref [V.sl2 2 [.str (H 0).1,.str (H 0).2,.str (H 1).1,.str (H 1).2]],.ref [V.sl2 3 [.str (Y 0).1,.str (Y 0).2,.str (Y 1).1,.str (Y 1).2,.str (Y 2).1,.str (Y 2).2]],.ref [Jj lo],.ref [Jj hi]]) (.tup [.agg [Ji b.1,Ji b.2],Ji 0]):=by
 refine V.en tbOk Tryz.func52 ?_
 refine V.r0 jiL ?_
 refine⟨Pq45z,[],V.pok,?_⟩
 refine jab [(9,.box 9 0),(10,Ji 0)] [(9,.box [.str d0,.str d1])] ?_ ?_
 ·exact V.d1 jiL sp
 refine V.r0 jiL ?_
 refine⟨Pq1z,[],V.pok,?_⟩
 refine jab [(8,Ji 0)] [(7,.box [Ji b.1,Ji b.2])] ?_ ?_
 ·exact V.d3 jiL o1 o2 cf
 refine V.r0 @jjC ?_
 exact Fin.of rfl
theorem bands2_310 (T:Nat→List Int)(H Y:Nat→Tx)(lo hi:List Int)(d0 d1 l0 l1 h0 h1:List UInt8)(b:Int×Int)(hlo:lo.length=1)(hhi:hi.length=1)(sp:Cl 53 [Jj (T 0),V.sl2 3 [.str (H 0).1,.str (H 0).2,.str (H 1).1,.str (H 1).2,.str (H 2).1,.str (H 2).2]] (.tup [.agg [.str d0,.str d1],Ji 0]))(o1:Cl 51 [Ji (lo.getD 0 0),Ji 65535] (.agg [.str l0,.str l1]))(o2:Cl 51 [Ji (hi.getD 0 0),Ji 65535] (.agg [.str h0,.str h1]))
  (cf:Cl 54 [Jt (Y 0),.agg [.str d0,.str d1],.agg [.str l0,.str l1],.agg [.str h0,.str h1]] (.tup [.agg [Ji b.1,Ji b.2],Ji 0])) :
  Cl 52 (Ji 0::[.ref [.slf 1 1 (fun j=>List.take 1 (List.drop (j*1) [Jj (T 0)]))],.ref [V.sl2 3 [.str (H 0).1,.str (H 0).2,.str (H 1).1,.str (H 1).2,.str (H 2).1,.str (H 2).2]],.ref [V.sl2 1 [.str (Y 0).1,.str (Y 0).2]],.ref [Jj lo],.ref [Jj hi]]) (.tup [.agg [Ji b.1,Ji b.2],Ji 0]):=by
 refine V.en tbOk Tryz.func52 ?_
 refine V.r0 jiL ?_
 refine⟨Pq45z,[],V.pok,?_⟩
 refine jab [(9,.box 9 0),(10,Ji 0)] [(9,.box [.str d0,.str d1])] ?_ ?_
 ·exact V.d1 jiL sp
 refine V.r0 jiL ?_
 refine⟨Pq1z,[],V.pok,?_⟩
 refine jab [(8,Ji 0)] [(7,.box [Ji b.1,Ji b.2])] ?_ ?_
 ·exact V.d3 jiL o1 o2 cf
 refine V.r0 @jjC ?_
 exact Fin.of rfl
theorem bands2_320 (T:Nat→List Int)(H Y:Nat→Tx)(lo hi:List Int)(d0 d1 l0 l1 h0 h1:List UInt8)(b:Int×Int)(hlo:lo.length=2)(hhi:hi.length=2)(sp:Cl 53 [Jj (T 0),V.sl2 3 [.str (H 0).1,.str (H 0).2,.str (H 1).1,.str (H 1).2,.str (H 2).1,.str (H 2).2]] (.tup [.agg [.str d0,.str d1],Ji 0]))(o1:Cl 51 [Ji (lo.getD 0 0),Ji 65535] (.agg [.str l0,.str l1]))(o2:Cl 51 [Ji (hi.getD 0 0),Ji 65535] (.agg [.str h0,.str h1]))
  (cf:Cl 54 [Jt (Y 0),.agg [.str d0,.str d1],.agg [.str l0,.str l1],.agg [.str h0,.str h1]] (.tup [.agg [Ji b.1,Ji b.2],Ji 0])) :
  Cl 52 (Ji 0::[.ref [.slf 1 2 (fun j=>List.take 1 (List.drop (j*1) [Jj (T 0),Jj (T 1)]))],.ref [V.sl2 3 [.str (H 0).1,.str (H 0).2,.str (H 1).1,.str (H 1).2,.str (H 2).1,.str (H 2).2]],.ref [V.sl2 2 [.str (Y 0).1,.str (Y 0).2,.str (Y 1).1,.str (Y 1).2]],.ref [Jj lo],.ref [Jj hi]]) (.tup [.agg [Ji b.1,Ji b.2],Ji 0]):=by
 refine V.en tbOk Tryz.func52 ?_
 refine V.r0 jiL ?_
 refine⟨Pq45z,[],V.pok,?_⟩
 refine jab [(9,.box 9 0),(10,Ji 0)] [(9,.box [.str d0,.str d1])] ?_ ?_
 ·exact V.d1 jiL sp
 refine V.r0 jiL ?_
 refine⟨Pq1z,[],V.pok,?_⟩
 refine jab [(8,Ji 0)] [(7,.box [Ji b.1,Ji b.2])] ?_ ?_
 ·exact V.d3 jiL o1 o2 cf
 refine V.r0 @jjC ?_
 exact Fin.of rfl
theorem bands2_321 (T:Nat→List Int)(H Y:Nat→Tx)(lo hi:List Int)(d0 d1 l0 l1 h0 h1:List UInt8)(b:Int×Int)(hlo:lo.length=2)(hhi:hi.length=2)(sp:Cl 53 [Jj (T 1),V.sl2 3 [.str (H 0).1,.str (H 0).2,.str (H 1).1,.str (H 1).2,.str (H 2).1,.str (H 2).2]] (.tup [.agg [.str d0,.str d1],Ji 0]))(o1:Cl 51 [Ji (lo.getD 1 0),Ji 65535] (.agg [.str l0,.str l1]))(o2:Cl 51 [Ji (hi.getD 1 0),Ji 65535] (.agg [.str h0,.str h1]))
  (cf:Cl 54 [Jt (Y 1),.agg [.str d0,.str d1],.agg [.str l0,.str l1],.agg [.str h0,.str h1]] (.tup [.agg [Ji b.1,Ji b.2],Ji 0])) :
  Cl 52 (Ji 1::[.ref [.slf 1 2 (fun j=>List.take 1 (List.drop (j*1) [Jj (T 0),Jj (T 1)]))],.ref [V.sl2 3 [.str (H 0).1,.str (H 0).2,.str (H 1).1,.str (H 1).2,.str (H 2).1,.str (H 2).2]],.ref [V.sl2 2 [.str (Y 0).1,.str (Y 0).2,.str (Y 1).1,.str (Y 1).2]],.ref [Jj lo],.ref [Jj hi]]) (.tup [.agg [Ji b.1,Ji b.2],Ji 0]):=by
 refine V.en tbOk Tryz.func52 ?_
 refine V.r0 jiL ?_
 refine⟨Pq45z,[],V.pok,?_⟩
 refine jab [(9,.box 9 0),(10,Ji 0)] [(9,.box [.str d0,.str d1])] ?_ ?_
 ·exact V.d1 jiL sp
 refine V.r0 jiL ?_
 refine⟨Pq1z,[],V.pok,?_⟩
 refine jab [(8,Ji 0)] [(7,.box [Ji b.1,Ji b.2])] ?_ ?_
 ·exact V.d3 jiL o1 o2 cf
 refine V.r0 @jjC ?_
 exact Fin.of rfl
theorem bands2_330 (T:Nat→List Int)(H Y:Nat→Tx)(lo hi:List Int)(d0 d1 l0 l1 h0 h1:List UInt8)(b:Int×Int)(hlo:lo.length=3)(hhi:hi.length=3)(sp:Cl 53 [Jj (T 0),V.sl2 3 [.str (H 0).1,.str (H 0).2,.str (H 1).1,.str (H 1).2,.str (H 2).1,.str (H 2).2]] (.tup [.agg [.str d0,.str d1],Ji 0]))(o1:Cl 51 [Ji (lo.getD 0 0),Ji 65535] (.agg [.str l0,.str l1]))(o2:Cl 51 [Ji (hi.getD 0 0),Ji 65535] (.agg [.str h0,.str h1]))
  (cf:Cl 54 [Jt (Y 0),.agg [.str d0,.str d1],.agg [.str l0,.str l1],.agg [.str h0,.str h1]] (.tup [.agg [Ji b.1,Ji b.2],Ji 0])) :
  Cl 52 (Ji 0::[.ref [.slf 1 3 (fun j=>List.take 1 (List.drop (j*1) [Jj (T 0),Jj (T 1),Jj (T 2)]))],.ref [V.sl2 3 [.str (H 0).1,.str (H 0).2,.str (H 1).1,.str (H 1).2,.str (H 2).1,.str (H 2).2]],.ref [V.sl2 3 [.str (Y 0).1,.str (Y 0).2,.str (Y 1).1,.str (Y 1).2,.str (Y 2).1,.str (Y 2).2]],.ref [Jj lo],.ref [Jj hi]]) (.tup [.agg [Ji b.1,Ji b.2],Ji 0]):=by
 refine V.en tbOk Tryz.func52 ?_
 refine V.r0 jiL ?_
 refine⟨Pq45z,[],V.pok,?_⟩
 refine jab [(9,.box 9 0),(10,Ji 0)] [(9,.box [.str d0,.str d1])] ?_ ?_
 ·exact V.d1 jiL sp
 refine V.r0 jiL ?_
 refine⟨Pq1z,[],V.pok,?_⟩
 refine jab [(8,Ji 0)] [(7,.box [Ji b.1,Ji b.2])] ?_ ?_
 ·exact V.d3 jiL o1 o2 cf
 refine V.r0 @jjC ?_
 exact Fin.of rfl
theorem bands2_331 (T:Nat→List Int)(H Y:Nat→Tx)(lo hi:List Int)(d0 d1 l0 l1 h0 h1:List UInt8)(b:Int×Int)(hlo:lo.length=3)(hhi:hi.length=3)(sp:Cl 53 [Jj (T 1),V.sl2 3 [.str (H 0).1,.str (H 0).2,.str (H 1).1,.str (H 1).2,.str (H 2).1,.str (H 2).2]] (.tup [.agg [.str d0,.str d1],Ji 0]))(o1:Cl 51 [Ji (lo.getD 1 0),Ji 65535] (.agg [.str l0,.str l1]))(o2:Cl 51 [Ji (hi.getD 1 0),Ji 65535] (.agg [.str h0,.str h1]))
  (cf:Cl 54 [Jt (Y 1),.agg [.str d0,.str d1],.agg [.str l0,.str l1],.agg [.str h0,.str h1]] (.tup [.agg [Ji b.1,Ji b.2],Ji 0])) :
  Cl 52 (Ji 1::[.ref [.slf 1 3 (fun j=>List.take 1 (List.drop (j*1) [Jj (T 0),Jj (T 1),Jj (T 2)]))],.ref [V.sl2 3 [.str (H 0).1,.str (H 0).2,.str (H 1).1,.str (H 1).2,.str (H 2).1,.str (H 2).2]],.ref [V.sl2 3 [.str (Y 0).1,.str (Y 0).2,.str (Y 1).1,.str (Y 1).2,.str (Y 2).1,.str (Y 2).2]],.ref [Jj lo],.ref [Jj hi]]) (.tup [.agg [Ji b.1,Ji b.2],Ji 0]):=by
 refine V.en tbOk Tryz.func52 ?_
 refine V.r0 jiL ?_
 refine⟨Pq45z,[],V.pok,?_⟩
 refine jab [(9,.box 9 0),(10,Ji 0)] [(9,.box [.str d0,.str d1])] ?_ ?_
 ·exact V.d1 jiL sp
 refine V.r0 jiL ?_
 refine⟨Pq1z,[],V.pok,?_⟩
 refine jab [(8,Ji 0)] [(7,.box [Ji b.1,Ji b.2])] ?_ ?_
 ·exact V.d3 jiL o1 o2 cf
 refine V.r0 @jjC ?_
 exact Fin.of rfl
theorem bands2_332 (T:Nat→List Int)(H Y:Nat→Tx)(lo hi:List Int)(d0 d1 l0 l1 h0 h1:List UInt8)(b:Int×Int)(hlo:lo.length=3)(hhi:hi.length=3)(sp:Cl 53 [Jj (T 2),V.sl2 3 [.str (H 0).1,.str (H 0).2,.str (H 1).1,.str (H 1).2,.str (H 2).1,.str (H 2).2]] (.tup [.agg [.str d0,.str d1],Ji 0]))(o1:Cl 51 [Ji (lo.getD 2 0),Ji 65535] (.agg [.str l0,.str l1]))(o2:Cl 51 [Ji (hi.getD 2 0),Ji 65535] (.agg [.str h0,.str h1]))
  (cf:Cl 54 [Jt (Y 2),.agg [.str d0,.str d1],.agg [.str l0,.str l1],.agg [.str h0,.str h1]] (.tup [.agg [Ji b.1,Ji b.2],Ji 0])) :
  Cl 52 (Ji 2::[.ref [.slf 1 3 (fun j=>List.take 1 (List.drop (j*1) [Jj (T 0),Jj (T 1),Jj (T 2)]))],.ref [V.sl2 3 [.str (H 0).1,.str (H 0).2,.str (H 1).1,.str (H 1).2,.str (H 2).1,.str (H 2).2]],.ref [V.sl2 3 [.str (Y 0).1,.str (Y 0).2,.str (Y 1).1,.str (Y 1).2,.str (Y 2).1,.str (Y 2).2]],.ref [Jj lo],.ref [Jj hi]]) (.tup [.agg [Ji b.1,Ji b.2],Ji 0]):=by
 refine V.en tbOk Tryz.func52 ?_
 refine V.r0 jiL ?_
 refine⟨Pq45z,[],V.pok,?_⟩
 refine jab [(9,.box 9 0),(10,Ji 0)] [(9,.box [.str d0,.str d1])] ?_ ?_
 ·exact V.d1 jiL sp
 refine V.r0 jiL ?_
 refine⟨Pq1z,[],V.pok,?_⟩
 refine jab [(8,Ji 0)] [(7,.box [Ji b.1,Ji b.2])] ?_ ?_
 ·exact V.d3 jiL o1 o2 cf
 refine V.r0 @jjC ?_
 exact Fin.of rfl
theorem jiQ:type_of% @jjC∧type_of% @tn0∧type_of% @tn1∧type_of% @tn2∧type_of% @tn3∧type_of% @xt4:=⟨@jjC,@tn0,@tn1,@tn2,@tn3,@xt4⟩
theorem jeS (zs data lo hi:List Int)(out:Int)(X I:Nat→Int×Int)(MD HV:Nat→Tx)(o e o2:Nat)(Y B S:Nat→List D)(hl:zs.length=1)(hI:∀ i,i<1→(0≤(I i).1∧(I i).1≤1000000000000)∧(0≤(I i).2∧(I i).2≤1000000000000))(gr:Cl 47 [.agg [Jj zs,Ji out,Jj data]] (.tup [Jj lo,Jj hi,Ji 0]))
  (li:Cl 48 [Ji 1,.fn 49 [] [.ref [V.sl2 1 [Ji (X 0).1,Ji (X 0).2]]]] (.tup [V.sl2 1 [Ji (I 0).1,Ji (I 0).2],Ji 0]))
  (om:∀ i,i<1→Cl 51 [Ji ((I i).1+(I i).2),Ji 2000000000000] (Jt (MD i))) (oh:∀ i,i<1→Cl 51 [Ji ((I i).2-(I i).1),Ji 2000000000000] (Jt (HV i)))
  (ev:Cl 13 [.agg [Jj zs,Ji out,Jj data],V.sl2 1 [.str (MD 0).1,.str (MD 0).2]] (.tup [.slf 2 o Y,Ji 0])) (st:Cl 22 [.agg [Jj zs,Ji out,Jj data]] (.tup [.slf 1 o2 S,Ji 0]))
  (l2:Cl 48 [Ji out,.fn 52 [] [.ref [.slf 1 o2 S],.ref [V.sl2 1 [.str (HV 0).1,.str (HV 0).2]],.ref [.slf 2 o Y],.ref [Jj lo],.ref [Jj hi]]] (.tup [.slf 2 e B,Ji 0])) :
  Cl 19 [.agg [Jj zs,Ji out,Jj data],V.sl2 1 [Ji (X 0).1,Ji (X 0).2]] (.tup [.slf 2 e B,Ji 0]):=by
 have hz:((zs.length:Nat):Int)=1:=by rw[hl];rfl
 refine V.en tbOk Tryz.func19 ?_
 refine V.r1 jiQ gr ?_
 refine Cnd.split (CondB.mk (fun h=>absurd h (by rw[hl];decide)) (fun _=>?_))
 refine V.r1 jiQ li ?_
 refine jbn (β:=Unit) 0 (fun _=>True) (fun _=>[(46,.any),(49,.any)]) (fun _=>[(43,.box [.str (MD 0).1,.str (MD 0).2]),(46,.gone),(11,.box [V.sl2 1 [.str (HV 0).1,.str (HV 0).2]])]) ?_ ?_
 rotate_left
 ·intro _ _
  refine V.r3 jiQ ev st l2 ?_
  exact Fin.of rfl
 refine jad (0) (fun k=>k≤1) (fun k=>1-k) (fun k=>[(49,Ji k)]) (fun k=>[(43,.box (preD (2*k) [.str (MD 0).1,.str (MD 0).2])),(46,.box (preD (2*k) [.str (HV 0).1,.str (HV 0).2]))]) ?_ ?_ ?_
 ·exact V.wk
 ·exact jjx _
 intro k hk
 have hk4:k=0∨k=1:=Jo
 rcases hk4 with e1|e1
 all_goals subst e1
 ·simp only[k0]
  have c1:=om 0 Jo
  have c2:=oh 0 Jo
  have hh:=hI 0 Jo
  refine V.r1 jiQ c1 ?_
  refine⟨Pq34z,[],V.pok,?_⟩
  refine jab [] [(46,.box (preD (2*1) [.str (HV 0).1,.str (HV 0).2]))] ?_ ?_
  ·exact V.d1 jiQ c2
  refine V.r0 jiQ ?_
  exact⟨1,Jo,Jo,V.wk⟩
 ·simp only[k1]
  refine V.r0 jiQ ?_
  refine⟨(),trivial,?_⟩
  refine Wk.pub 46 ?_
  (conv=>whnf)
  simp only[jjC]
  exact V.wk
theorem jd6 (zs data lo hi:List Int)(out:Int)(X I:Nat→Int×Int)(MD HV:Nat→Tx)(o e o2:Nat)(Y B S:Nat→List D)(hl:zs.length=2)(hI:∀ i,i<2→(0≤(I i).1∧(I i).1≤1000000000000)∧(0≤(I i).2∧(I i).2≤1000000000000))(gr:Cl 47 [.agg [Jj zs,Ji out,Jj data]] (.tup [Jj lo,Jj hi,Ji 0]))
  (li:Cl 48 [Ji 2,.fn 49 [] [.ref [V.sl2 2 [Ji (X 0).1,Ji (X 0).2,Ji (X 1).1,Ji (X 1).2]]]] (.tup [V.sl2 2 [Ji (I 0).1,Ji (I 0).2,Ji (I 1).1,Ji (I 1).2],Ji 0]))
  (om:∀ i,i<2→Cl 51 [Ji ((I i).1+(I i).2),Ji 2000000000000] (Jt (MD i))) (oh:∀ i,i<2→Cl 51 [Ji ((I i).2-(I i).1),Ji 2000000000000] (Jt (HV i)))
  (ev:Cl 13 [.agg [Jj zs,Ji out,Jj data],V.sl2 2 [.str (MD 0).1,.str (MD 0).2,.str (MD 1).1,.str (MD 1).2]] (.tup [.slf 2 o Y,Ji 0])) (st:Cl 22 [.agg [Jj zs,Ji out,Jj data]] (.tup [.slf 1 o2 S,Ji 0]))
  (l2:Cl 48 [Ji out,.fn 52 [] [.ref [.slf 1 o2 S],.ref [V.sl2 2 [.str (HV 0).1,.str (HV 0).2,.str (HV 1).1,.str (HV 1).2]],.ref [.slf 2 o Y],.ref [Jj lo],.ref [Jj hi]]] (.tup [.slf 2 e B,Ji 0])) :
  Cl 19 [.agg [Jj zs,Ji out,Jj data],V.sl2 2 [Ji (X 0).1,Ji (X 0).2,Ji (X 1).1,Ji (X 1).2]] (.tup [.slf 2 e B,Ji 0]):=by
 have hz:((zs.length:Nat):Int)=2:=by rw[hl];rfl
 refine V.en tbOk Tryz.func19 ?_
 refine V.r1 jiQ gr ?_
 refine Cnd.split (CondB.mk (fun h=>absurd h (by rw[hl];decide)) (fun _=>?_))
 refine V.r1 jiQ li ?_
 refine jbn (β:=Unit) 0 (fun _=>True) (fun _=>[(46,.any),(49,.any)]) (fun _=>[(43,.box [.str (MD 0).1,.str (MD 0).2,.str (MD 1).1,.str (MD 1).2]),(46,.gone),(11,.box [V.sl2 2 [.str (HV 0).1,.str (HV 0).2,.str (HV 1).1,.str (HV 1).2]])]) ?_ ?_
 rotate_left
 ·intro _ _
  refine V.r3 jiQ ev st l2 ?_
  exact Fin.of rfl
 refine jad (0) (fun k=>k≤2) (fun k=>2-k) (fun k=>[(49,Ji k)]) (fun k=>[(43,.box (preD (2*k) [.str (MD 0).1,.str (MD 0).2,.str (MD 1).1,.str (MD 1).2])),(46,.box (preD (2*k) [.str (HV 0).1,.str (HV 0).2,.str (HV 1).1,.str (HV 1).2]))]) ?_ ?_ ?_
 ·exact V.wk
 ·exact jjx _
 intro k hk
 have hk4:k=0∨k=1∨k=2:=Jo
 rcases hk4 with e1|e1|e1
 all_goals subst e1
 ·simp only[k0]
  have c1:=om 0 Jo
  have c2:=oh 0 Jo
  have hh:=hI 0 Jo
  refine V.r1 jiQ c1 ?_
  refine⟨Pq34z,[],V.pok,?_⟩
  refine jab [] [(46,.box (preD (2*1) [.str (HV 0).1,.str (HV 0).2,.str (HV 1).1,.str (HV 1).2]))] ?_ ?_
  ·exact V.d1 jiQ c2
  refine V.r0 jiQ ?_
  exact⟨1,Jo,Jo,V.wk⟩
 ·simp only[k1]
  have c1:=om 1 Jo
  have c2:=oh 1 Jo
  have hh:=hI 1 Jo
  refine V.r1 jiQ c1 ?_
  refine⟨Pq34z,[],V.pok,?_⟩
  refine jab [] [(46,.box (preD (2*2) [.str (HV 0).1,.str (HV 0).2,.str (HV 1).1,.str (HV 1).2]))] ?_ ?_
  ·exact V.d1 jiQ c2
  refine V.r0 jiQ ?_
  exact⟨2,Jo,Jo,V.wk⟩
 ·simp only[k2]
  refine V.r0 jiQ ?_
  refine⟨(),trivial,?_⟩
  refine Wk.pub 46 ?_
  (conv=>whnf)
  simp only[jjC]
  exact V.wk
theorem jeR (zs data lo hi:List Int)(out:Int)(X I:Nat→Int×Int)(MD HV:Nat→Tx)(o e o2:Nat)(Y B S:Nat→List D)(hl:zs.length=3)(hI:∀ i,i<3→(0≤(I i).1∧(I i).1≤1000000000000)∧(0≤(I i).2∧(I i).2≤1000000000000))(gr:Cl 47 [.agg [Jj zs,Ji out,Jj data]] (.tup [Jj lo,Jj hi,Ji 0]))
  (li:Cl 48 [Ji 3,.fn 49 [] [.ref [V.sl2 3 [Ji (X 0).1,Ji (X 0).2,Ji (X 1).1,Ji (X 1).2,Ji (X 2).1,Ji (X 2).2]]]] (.tup [V.sl2 3 [Ji (I 0).1,Ji (I 0).2,Ji (I 1).1,Ji (I 1).2,Ji (I 2).1,Ji (I 2).2],Ji 0]))
  (om:∀ i,i<3→Cl 51 [Ji ((I i).1+(I i).2),Ji 2000000000000] (Jt (MD i))) (oh:∀ i,i<3→Cl 51 [Ji ((I i).2-(I i).1),Ji 2000000000000] (Jt (HV i)))
  (ev:Cl 13 [.agg [Jj zs,Ji out,Jj data],V.sl2 3 [.str (MD 0).1,.str (MD 0).2,.str (MD 1).1,.str (MD 1).2,.str (MD 2).1,.str (MD 2).2]] (.tup [.slf 2 o Y,Ji 0])) (st:Cl 22 [.agg [Jj zs,Ji out,Jj data]] (.tup [.slf 1 o2 S,Ji 0]))
  (l2:Cl 48 [Ji out,.fn 52 [] [.ref [.slf 1 o2 S],.ref [V.sl2 3 [.str (HV 0).1,.str (HV 0).2,.str (HV 1).1,.str (HV 1).2,.str (HV 2).1,.str (HV 2).2]],.ref [.slf 2 o Y],.ref [Jj lo],.ref [Jj hi]]] (.tup [.slf 2 e B,Ji 0])) :
  Cl 19 [.agg [Jj zs,Ji out,Jj data],V.sl2 3 [Ji (X 0).1,Ji (X 0).2,Ji (X 1).1,Ji (X 1).2,Ji (X 2).1,Ji (X 2).2]] (.tup [.slf 2 e B,Ji 0]):=by
 have hz:((zs.length:Nat):Int)=3:=by rw[hl];rfl
 refine V.en tbOk Tryz.func19 ?_
 refine V.r1 jiQ gr ?_
 refine Cnd.split (CondB.mk (fun h=>absurd h (by rw[hl];decide)) (fun _=>?_))
 refine V.r1 jiQ li ?_
 refine jbn (β:=Unit) 0 (fun _=>True) (fun _=>[(46,.any),(49,.any)]) (fun _=>[(43,.box [.str (MD 0).1,.str (MD 0).2,.str (MD 1).1,.str (MD 1).2,.str (MD 2).1,.str (MD 2).2]),(46,.gone),(11,.box [V.sl2 3 [.str (HV 0).1,.str (HV 0).2,.str (HV 1).1,.str (HV 1).2,.str (HV 2).1,.str (HV 2).2]])]) ?_ ?_
 rotate_left
 ·intro _ _
  refine V.r3 jiQ ev st l2 ?_
  exact Fin.of rfl
 refine jad (0) (fun k=>k≤3) (fun k=>3-k) (fun k=>[(49,Ji k)]) (fun k=>[(43,.box (preD (2*k) [.str (MD 0).1,.str (MD 0).2,.str (MD 1).1,.str (MD 1).2,.str (MD 2).1,.str (MD 2).2])),(46,.box (preD (2*k) [.str (HV 0).1,.str (HV 0).2,.str (HV 1).1,.str (HV 1).2,.str (HV 2).1,.str (HV 2).2]))]) ?_ ?_ ?_
 ·exact V.wk
 ·exact jjx _
 intro k hk
 have hk4:k=0∨k=1∨k=2∨k=3:=Jo
 rcases hk4 with e1|e1|e1|e1
 all_goals subst e1
 ·simp only[k0]
  have c1:=om 0 Jo
  have c2:=oh 0 Jo
  have hh:=hI 0 Jo
  refine V.r1 jiQ c1 ?_
  refine⟨Pq34z,[],V.pok,?_⟩
  refine jab [] [(46,.box (preD (2*1) [.str (HV 0).1,.str (HV 0).2,.str (HV 1).1,.str (HV 1).2,.str (HV 2).1,.str (HV 2).2]))] ?_ ?_
  ·exact V.d1 jiQ c2
  refine V.r0 jiQ ?_
  exact⟨1,Jo,Jo,V.wk⟩
 ·simp only[k1]
  have c1:=om 1 Jo
  have c2:=oh 1 Jo
  have hh:=hI 1 Jo
  refine V.r1 jiQ c1 ?_
  refine⟨Pq34z,[],V.pok,?_⟩
  refine jab [] [(46,.box (preD (2*2) [.str (HV 0).1,.str (HV 0).2,.str (HV 1).1,.str (HV 1).2,.str (HV 2).1,.str (HV 2).2]))] ?_ ?_
  ·exact V.d1 jiQ c2
  refine V.r0 jiQ ?_
  exact⟨2,Jo,Jo,V.wk⟩
 ·simp only[k2]
  have c1:=om 2 Jo
  have c2:=oh 2 Jo
  have hh:=hI 2 Jo
  refine V.r1 jiQ c1 ?_
  refine⟨Pq34z,[],V.pok,?_⟩
  refine jab [] [(46,.box (preD (2*3) [.str (HV 0).1,.str (HV 0).2,.str (HV 1).1,.str (HV 1).2,.str (HV 2).1,.str (HV 2).2]))] ?_ ?_
  ·exact V.d1 jiQ c2
  refine V.r0 jiQ ?_
  exact⟨3,Jo,Jo,V.wk⟩
 ·simp only[k3]
  refine V.r0 jiQ ?_
  refine⟨(),trivial,?_⟩
  refine Wk.pub 46 ?_
  (conv=>whnf)
  simp only[jjC]
  exact V.wk
def confB (y d l h:Rat):Int×Int:=(max (flU (y-d)) (flU l),min (clU (y+d)) (clU h))
theorem flU_bd {x:Rat}(h : -100000≤x∧x≤100000) : -100000000000000000≤flU x∧flU x≤clU x∧clU x≤100000000000000000:=
 ⟨jgh.2 (by rw[show ((-100000000000000000:Int):Rat) = -100000*1000000000000 from by decide +kernel];grind),fl_cl Rat.le_refl,jgm.2 (by rw[show ((100000000000000000:Int):Rat)=100000*1000000000000 from by decide +kernel];grind)⟩
theorem hull_q {p q p2 q2:Int}(h1 : -100000000000000000≤p∧p≤q∧q≤100000000000000000)(h2 : -100000000000000000≤p2∧p2≤q2∧q2≤100000000000000000):Cl 108 [.agg [Ji p,Ji q],.agg [Ji p2,Ji q2]] (.tup [.agg [Ji (min p p2),Ji (max q q2)],Ji 0]):=by
 have c:=hull_b p q p2 q2
 have e:(if vb p q=true∧vb p2 q2=true then (if p=p2∧q=q2 then (p,q,(0:Int)) else if max q q2<min p p2 then (0,0,4) else (min p p2,max q q2,0)) else (0,0,30))=(min p p2,max q q2,0):=by
  rw[if_pos ⟨jbC.2 Jo,jbC.2 Jo⟩]
  split
  ·rename_i g
   rw[g.1,g.2,Int.min_self,Int.max_self]
  ·rw[if_neg Jo]
 rw[e] at c
 exact c
theorem conf_q {y d l h:Rat}(fy:Fq 376 y)(fd:Fq 70 d)(fl:Fq 10 l)(fh:Fq 10 h)(d0:0≤d∧d≤50000)(l0:0≤l∧l≤y)(h0:y≤h∧h≤1) :
  Cl 54 [frT y,frT d,frT l,frT h] (.tup [.agg [Ji (confB y d l h).1,Ji (confB y d l h).2],Ji 0]):=by
 have b0 : -100000≤y-d∧y-d≤100000:=by constructor<;>grind
 have b1 : -100000≤y+d∧y+d≤100000:=by constructor<;>grind
 have b2 : -100000≤l∧l≤100000:=by constructor<;>grind
 have b3 : -100000≤h∧h≤100000:=by constructor<;>grind
 have u0:=flU_bd b0
 have u1:=flU_bd b1
 have u2:=flU_bd b2
 have u3:=flU_bd b3
 have sb:=zsub fy fd Jd Jd Jd
 have ad:=zadd fy fd Jd Jd Jd
 have a0:=jeT (fy.sub fd) Jd b0
 have a1:=jeT (fy.add fd) Jd b1
 have a2:=jeT fl Jd b2
 have a3:=jeT fh Jd b3
 have m1:flU (y-d)≤flU (y+d):=flU_mono (by grind)
 have m2:clU (y-d)≤clU (y+d):=clU_mono (by grind)
 have m3:flU (y-d)≤clU h:=fl_cl (by grind)
 have m4:flU l≤clU (y+d):=fl_cl (by grind)
 have m5:flU l≤clU h:=fl_cl (by grind)
 have m6:flU (y-d)≤clU (y+d):=fl_cl (by grind)
 have hu:=hull_q u0 u1
 rw[show min (flU (y-d)) (flU (y+d))=flU (y-d) from Jo,show max (clU (y-d)) (clU (y+d))=clU (y+d) from by omega] at hu
 have ob:=of_b (max (flU (y-d)) (flU l)) (min (clU (y+d)) (clU h))
 rw[if_pos (jbC.2 Jo)] at ob
 let T:Nat→Int×Int:=fun i=>match i with|0=>(flU (y-d),clU (y-d))|1=>(flU (y+d),clU (y+d))|2=>(flU l,clU l)|_=>(flU h,clU h)
 have li:=blist4b (F:=106) T (conf1_0 _ _ _ _ _ _ _ _ (T 0) a0) (conf1_1 _ _ _ _ _ _ _ _ (T 1) a1) (conf1_2 _ _ _ _ _ _ _ _ (T 2) a2) (conf1_3 _ _ _ _ _ _ _ _ (T 3) a3)
 exact confined_t _ _ _ _ _ _ _ _ _ _ _ _ T (flU (y-d),clU (y+d)) (confB y d l h) sb ad li hu ob
theorem spr_q1 {st:List Int}{H:Nat→Rat}(hs:rowOk 1 st)(hf:∀ i,i<1→Fq 14 (H i)):Cl 53 [Jj st,slQ (fun i=>txq (H i)) 1] (.tup [frT (smF (fun i=>((st.getD i 0:Int):Rat)*H i) 0/65535),Ji 0])∧Fq 70 (smF (fun i=>((st.getD i 0:Int):Rat)*H i) 0/65535):=by
 have w0:Fq 6 ((st.getD 0 0:Int):Rat):=jav (by have:=hs.2 0;omega) Jd
 have i0:=jap (n:=st.getD 0 0) (by have:=hs.2 0;omega)
 have u0:=zmul w0 (hf 0 Jd) Jd Jd Jd
 have m0:=spr1_10 st (fun i=>txq (H i)) _ _ _ _ hs.1 i0 u0
 have li:=list1_i (fun i=>txq (((st.getD i 0:Int):Rat)*H i)) m0
 have s0:Fq 20 (smF (fun i=>((st.getD i 0:Int):Rat)*H i) 0):=w0.mul (hf 0 Jd)
 have su:=sum1 (fun i=>txq (((st.getD i 0:Int):Rat)*H i))
 have fu:=jap (n:=65535) Jo
 have f5:=jav (n:=5) (z:=65535) jaC Jd
 have dv:=zdiv s0 f5 jaX Jd Jd Jd
 have fd:=(s0.div f5 jaX).mono (show _≤70 by decide)
 rw[show ((65535:Int):Rat)=65535 from rfl] at fu dv fd
 exact⟨spr_1 st (fun i=>txq (H i)) (fun i=>txq (((st.getD i 0:Int):Rat)*H i)) _ _ _ _ _ _ hs.1 li su fu dv,fd⟩
theorem spr_q2 {st:List Int}{H:Nat→Rat}(hs:rowOk 2 st)(hf:∀ i,i<2→Fq 14 (H i)):Cl 53 [Jj st,slQ (fun i=>txq (H i)) 2] (.tup [frT (smF (fun i=>((st.getD i 0:Int):Rat)*H i) 1/65535),Ji 0])∧Fq 70 (smF (fun i=>((st.getD i 0:Int):Rat)*H i) 1/65535):=by
 have w0:Fq 6 ((st.getD 0 0:Int):Rat):=jav (by have:=hs.2 0;omega) Jd
 have i0:=jap (n:=st.getD 0 0) (by have:=hs.2 0;omega)
 have u0:=zmul w0 (hf 0 Jd) Jd Jd Jd
 have m0:=spr1_20 st (fun i=>txq (H i)) _ _ _ _ hs.1 i0 u0
 have w1:Fq 6 ((st.getD 1 0:Int):Rat):=jav (by have:=hs.2 1;omega) Jd
 have i1:=jap (n:=st.getD 1 0) (by have:=hs.2 1;omega)
 have u1:=zmul w1 (hf 1 Jd) Jd Jd Jd
 have m1:=spr1_21 st (fun i=>txq (H i)) _ _ _ _ hs.1 i1 u1
 have li:=list2_i (fun i=>txq (((st.getD i 0:Int):Rat)*H i)) m0 m1
 have s0:Fq 20 (smF (fun i=>((st.getD i 0:Int):Rat)*H i) 0):=w0.mul (hf 0 Jd)
 have s1:Fq 41 (smF (fun i=>((st.getD i 0:Int):Rat)*H i) 1):=s0.add (w1.mul (hf 1 Jd))
 have su:=sum2 (fun i=>txq (((st.getD i 0:Int):Rat)*H i)) (fun i=>txq (smF (fun i=>((st.getD i 0:Int):Rat)*H i) i)) rfl (zadd s0 (w1.mul (hf 1 Jd)) Jd Jd Jd)
 have fu:=jap (n:=65535) Jo
 have f5:=jav (n:=5) (z:=65535) jaC Jd
 have dv:=zdiv s1 f5 jaX Jd Jd Jd
 have fd:=(s1.div f5 jaX).mono (show _≤70 by decide)
 rw[show ((65535:Int):Rat)=65535 from rfl] at fu dv fd
 exact⟨spr_2 st (fun i=>txq (H i)) (fun i=>txq (((st.getD i 0:Int):Rat)*H i)) _ _ _ _ _ _ hs.1 li su fu dv,fd⟩
theorem spr_q3 {st:List Int}{H:Nat→Rat}(hs:rowOk 3 st)(hf:∀ i,i<3→Fq 14 (H i)):Cl 53 [Jj st,slQ (fun i=>txq (H i)) 3] (.tup [frT (smF (fun i=>((st.getD i 0:Int):Rat)*H i) 2/65535),Ji 0])∧Fq 70 (smF (fun i=>((st.getD i 0:Int):Rat)*H i) 2/65535):=by
 have w0:Fq 6 ((st.getD 0 0:Int):Rat):=jav (by have:=hs.2 0;omega) Jd
 have i0:=jap (n:=st.getD 0 0) (by have:=hs.2 0;omega)
 have u0:=zmul w0 (hf 0 Jd) Jd Jd Jd
 have m0:=spr1_30 st (fun i=>txq (H i)) _ _ _ _ hs.1 i0 u0
 have w1:Fq 6 ((st.getD 1 0:Int):Rat):=jav (by have:=hs.2 1;omega) Jd
 have i1:=jap (n:=st.getD 1 0) (by have:=hs.2 1;omega)
 have u1:=zmul w1 (hf 1 Jd) Jd Jd Jd
 have m1:=spr1_31 st (fun i=>txq (H i)) _ _ _ _ hs.1 i1 u1
 have w2:Fq 6 ((st.getD 2 0:Int):Rat):=jav (by have:=hs.2 2;omega) Jd
 have i2:=jap (n:=st.getD 2 0) (by have:=hs.2 2;omega)
 have u2:=zmul w2 (hf 2 Jd) Jd Jd Jd
 have m2:=spr1_32 st (fun i=>txq (H i)) _ _ _ _ hs.1 i2 u2
 have li:=list3_i (fun i=>txq (((st.getD i 0:Int):Rat)*H i)) m0 m1 m2
 have s0:Fq 20 (smF (fun i=>((st.getD i 0:Int):Rat)*H i) 0):=w0.mul (hf 0 Jd)
 have s1:Fq 41 (smF (fun i=>((st.getD i 0:Int):Rat)*H i) 1):=s0.add (w1.mul (hf 1 Jd))
 have s2:Fq 62 (smF (fun i=>((st.getD i 0:Int):Rat)*H i) 2):=s1.add (w2.mul (hf 2 Jd))
 have su:=sum3 (fun i=>txq (((st.getD i 0:Int):Rat)*H i)) (fun i=>txq (smF (fun i=>((st.getD i 0:Int):Rat)*H i) i)) rfl (zadd s0 (w1.mul (hf 1 Jd)) Jd Jd Jd) (zadd s1 (w2.mul (hf 2 Jd)) Jd Jd Jd)
 have fu:=jap (n:=65535) Jo
 have f5:=jav (n:=5) (z:=65535) jaC Jd
 have dv:=zdiv s2 f5 jaX Jd Jd Jd
 have fd:=(s2.div f5 jaX).mono (show _≤70 by decide)
 rw[show ((65535:Int):Rat)=65535 from rfl] at fu dv fd
 exact⟨spr_3 st (fun i=>txq (H i)) (fun i=>txq (((st.getD i 0:Int):Rat)*H i)) _ _ _ _ _ _ hs.1 li su fu dv,fd⟩
end Go.Proofs.YtbnghipgicmpdaaGreatDoor
end
section
namespace Go.Proofs.YtbnghipgicmpdaaGreatDoor
open Go Go.V Go.Gr
theorem all_c (xs:List Int):Cl 151 [Jj xs] (.fn 190 [] [.ref [Jj xs]]):=by
 refine V.en tbOk Tryz.func151 ?_
 (conv=>whnf)
 refine V.st ?_
 exact Fin.same _
theorem nz_of {size:List Int}(h:size.all (fun n=>decide (2≤n∧n≤9))=true):∃ ns:List Nat,size=nz ns∧size.map Int.toNat=ns ∧ ∀ n∈ns,2≤n∧n≤9:=by
 rw[jj7] at h
 refine⟨size.map Int.toNat,?_,rfl,fun n hn=>?_⟩
 ·unfold nz
  rw[List.map_map]
  refine List.ext_getElem Js fun k h1 h2=>?_
  have:=h size[k] (List.getElem_mem h1)
  simp at this ⊢
  omega
 ·obtain⟨x,hx,rfl⟩:=List.mem_map.1 hn
  have:=h x hx
  simp at this
  omega
def upd (lt:Int→Int→Bool)(o v:List Int):List Int:=List.zipWith (fun a b=>if lt b a then b else a) o v
def mst (lt:Int→Int→Bool)(data:List Int)(w:Nat):Nat→List Int
 | 0=>slot data 0 w
 | m+1=>upd lt (mst lt data w m) (slot data ((m*w:Nat):Int) w)
theorem lt_c (a b:Int):Cl 96 [Ji a,Ji b] (.bool (decide (a<b))):=by
 refine V.en tbOk Tryz.func96 ?_
 (conv=>whnf)
 refine V.st ?_
 exact Fin.of rfl
theorem gt_c (a b:Int):Cl 97 [Ji a,Ji b] (.bool (decide (a>b))):=by
 refine V.en tbOk Tryz.func97 ?_
 (conv=>whnf)
 refine V.st ?_
 exact Fin.of rfl
theorem tpoints_c (size:List Int)(out:Int)(data:List Int):Cl 95 [gridD size out data] (.fn 150 [] [.ref [Jj size,Ji out,Jj data],.ref [.fn 149 [gridD size out data] []]]):=by
 refine V.en tbOk Tryz.func95 ?_
 (conv=>whnf)
 refine V.st ?_
 exact Fin.of rfl
theorem jhm {data:List Int}{w m n:Nat}(h:data.length=n*w)(hm:m<n):(slot data ((m*w:Nat):Int) w).length=w:=by
 unfold slot
 rw[jjF,jjF]
 simp
 have:(m+1)*w≤n*w:=Nat.mul_le_mul_right w hm
 rw[Nat.add_mul] at this
 omega
theorem jdd {lt:Int→Int→Bool}{data:List Int}{w m n:Nat}(h:data.length=n*w)(hm:m≤n)(hn:0<n):(mst lt data w m).length=w:=by
 induction m with
 | zero=>have:=jhm (m:=0) h hn;simpa [mst] using this
 | succ m ih=>
  unfold mst upd
  rw[List.length_zipWith,ih Jo,jhm h Jo]
  omega
theorem jgv {lt:Int→Int→Bool}{o v:List Int}{k:Nat}{a b:Int}(ha:o[k]? = some a)(hb:v[k]? = some b)(hl:o.length=v.length) :
  ((upd lt o v).take k++o.drop k).set k (if lt b a then b else a)=(upd lt o v).take (k+1)++o.drop (k+1):=by
 have h1:=(jkh.1 ha)
 have h2:=(jkh.1 hb)
 have hul:(upd lt o v).length=o.length:=by unfold upd;rw[List.length_zipWith];omega
 have h3:((upd lt o v).take k).length=k:=by have:=h1.1;rw[jke];omega
 have h4:(upd lt o v)[k]? = some (if lt b a then b else a):=by
  unfold upd
  rw[List.getElem?_zipWith,ha,hb]
 rw[List.set_append_right _ _ Jo,h3,Nat.sub_self,jks h1.1,List.set_cons_zero,jky,h4]
 simp
theorem jhY {lt:Int→Int→Bool}{o v:List Int}{k:Nat}{a:Int}(ha:o[k]? = some a)(hl:o.length=v.length):((upd lt o v).take k++o.drop k).getD k 0=a:=by
 have h1:=(jkh.1 ha)
 have hul:(upd lt o v).length=o.length:=by unfold upd;rw[List.length_zipWith];omega
 have h3:((upd lt o v).take k).length=k:=by have:=h1.1;rw[jke];omega
 rw[jj8,jkp Jo,h3,Nat.sub_self,List.getElem?_drop,jjD,ha]
 rfl
theorem upd_same {lt:Int→Int→Bool}{o v:List Int}{k:Nat}{a b:Int}(ha:o[k]? = some a)(hb:v[k]? = some b)(hl:o.length=v.length)(h:lt b a=false) :
  (upd lt o v).take k++o.drop k=(upd lt o v).take (k+1)++o.drop (k+1):=by
 rw[← jgv ha hb hl,h]
 have h1:=(jkh.1 ha)
 have hul:(upd lt o v).length=o.length:=by unfold upd;rw[List.length_zipWith];omega
 have h3:((upd lt o v).take k).length=k:=by have:=h1.1;rw[jke];omega
 rw[List.set_append_right _ _ Jo,h3,Nat.sub_self,jks h1.1,List.set_cons_zero,h1.2]
 rfl
theorem ji3:type_of% @jjF∧type_of% @jjC:=⟨@jjF,@jjC⟩
theorem most_c (size : List Int) (w : Nat) (data : List Int) (g : Nat) (lt : Int → Int → Bool) (hg : jaf size w data = true) (hf : ∀ a b, Cl g [Ji a, Ji b] (.bool (lt a b))) (hirr : ∀ a, lt a a = false) :
    Cl 94 [.fn 150 [] [.ref [Jj size, Ji w, Jj data], .ref [.fn 149 [gridD size w data] []]], .fn g [] []] (Jj (mst lt data w (PR (size.map Int.toNat)))) := by
  have hG := jaT hg
  obtain ⟨ns, hn0, hn1, hn2⟩ := nz_of hG.2.2.2.2.1
  have hsl : size.length = ns.length := by rw [hn0]; simp [nz]
  have hpos : ∀ n ∈ ns, 0 < n := fun n hn => by have := hn2 n hn; omega
  have hPR := PR_le Jo hn2
  have hPP := jey hpos
  have hprod : prod size = (PR ns : Nat) := by rw [hn0, jcV]
  have hdl : data.length = PR ns * w := by
    have := hG.2.2.2.2.2.2.1
    rw [hprod, ← jjQ] at this
    omega
  rw [hn1]
  have h1 : 1 ≤ ns.length ∧ ns.length ≤ 4 := Jo
  have hok : ∀ m, okIdx size (ixl ns m) = true := fun m => ja7.2 ⟨by rw [jar]; omega, fun k n x h1 h2 => by
    rw [hn0] at h1
    simp only [nz, List.getElem?_map, Option.map_eq_some_iff] at h1
    obtain ⟨n', h3, rfl⟩ := h1
    exact jdm hpos h3 h2⟩
  have hvc : ∀ m, m < PR ns → Cl 149 [gridD size w data, .iarr .i64 (pad4 (ixl ns m))] (Jj (slot data ((m * w : Nat) : Int) w)) := fun m hm => by
    have hpad := jfi (hok m) hG.2.1
    have := values_c size w data _ hg hpad.1 hpad.2
    have hpz : pz (size.zip (pad4 (ixl ns m))) = (m : Int) := by
      rw [zip_pad (hok m), hn0]
      have := jf4 ns hpos m 0
      rw [jjL hm] at this
      unfold pz nz
      simpa using this
    rw [hpz, ← jjQ] at this
    exact this
  have hlen : size.length = ns.length := hsl
  refine V.en tbOk Tryz.func94 ?_
  (conv => whnf)
  refine V.st ?_
  refine ⟨_, _, ⟨Tryz.func150, rfl, rfl, jjw rfl⟩, ?_⟩
  (conv => whnf)
  refine V.st ?_
  repeat ((try ((with_reducible refine .ext ?_); (conv => whnf))); (with_reducible refine jaa (r := ?_) ?_ ?_); rotate_left; (focus (first | exact (all_c _))); (conv => whnf); refine V.st ?_)
  refine ⟨_, _, ⟨Tryz.func190, rfl, rfl, jjw rfl⟩, ?_⟩
  refine V.r0 @jjC ?_
  refine lp_go (ns.length) (fun k => True) (fun k => [(10, Ji k)]) (fun k => [(57, .arr .i64 (pad4 ((lastL ns).take k)))]) V.wk ?_ ?_
  · trivial
  intro k hk _
  (conv => whnf)
  refine V.st ?_
  refine V.br (fun h => ?_) (fun h => ?_)
  · rw [hlen] at h
    simp only [decide_eq_true_eq] at h
    have hk1 : k < ns.length := Jo
    obtain ⟨n, hn⟩ : ∃ n, ns[k]? = some n := ⟨ns[k], jkb hk1⟩
    have hnb := hn2 n (jkc hn)
    have en : size.getD k 0 = n := by rw [hn0]; simp [nz, jj8, hn]
    have hll : (lastL ns)[k]? = some ((n : Int) - 1) := by simp [lastL, hn]
    have hp4 : (pad4 ((lastL ns).take k)).length = 4 := jaG (by simp [lastL]; omega)
    have hps := jgO hll (by simp [lastL]; omega)
    refine V.r0 (V.a3 ji3 @en hps) ?_
    exact ⟨k + 1, ⟨Jo, trivial⟩, Jo, V.wk⟩
  · rw [hlen] at h
    simp only [decide_eq_false_iff_not] at h
    have hk1 : k = ns.length := Jo
    subst hk1
    have e0 : (lastL ns).take ns.length = lastL ns := jko (by simp [lastL])
    rw [e0]
    (conv => whnf)
    refine V.st ?_
    have e1 := ixl_pad0 h1 hn2
    have hp4l : (pad4 (lastL ns)).length = 4 := jaG (by simp [lastL]; omega)
    refine jad 0 (fun k => k < PR ns) (fun k => PR ns - k) (fun k => []) (fun k => match k with
      | 0 => [(56, .arr .i64 (pad4 (ixl ns 0))), (5, .box [.nil])]
      | m + 1 => [(56, .arr .i64 (pad4 (ixl ns (m + 1)))), (5, .box [.osl 159 0 w]), (159, .arr .i64 (mst lt data w (m + 1)))]) ?_ hPP ?_
    · simp only [e1]
      exact V.wk
    intro m hm
    have hvm := hvc m hm
    have hp4 : (pad4 (ixl ns m)).length = 4 := jaG (by rw [jar]; omega)
    have hvl := jhm hdl hm
    have hml := jdd (lt := lt) hdl (Nat.le_of_lt hm) hPP
    have hul : (upd lt (mst lt data w m) (slot data ((m * w : Nat) : Int) w)).length = w := by unfold upd; rw [List.length_zipWith]; omega
    cases m with
    | zero =>
      have hm0 : slot data ((0 * w : Nat) : Int) w = mst lt data w 0 := by simp [mst]
      rw [hm0] at hvm hvl hul
      have hvf : upd lt (mst lt data w 0) (mst lt data w 0) = mst lt data w 1 := by
        conv => rhs; unfold mst
        rw [hm0]
      generalize hv : mst lt data w 0 = vs at *
      (conv => whnf)
      refine V.st ?_
      repeat ((try ((with_reducible refine .ext ?_); (conv => whnf))); (with_reducible refine jaa (r := ?_) ?_ ?_); rotate_left; (focus (first | exact (hvm))); (conv => whnf); refine V.st ?_)
      refine ⟨(V.tk [0,1,2] (V.e1 3 [0] (V.e1 4 [] (V.tk [5] .done)))), [], V.pok, .go (jac ?_)⟩
      (conv => whnf)
      refine V.st ?_
      repeat ((try ((with_reducible refine .ext ?_); (conv => whnf))); (with_reducible refine jaa (r := ?_) ?_ ?_); rotate_left; (focus (first | exact (hvm))); (conv => whnf); refine V.st ?_)
      refine V.il Tryz.func25 ?_
      (conv => whnf)
      refine AnyB.mk (fun h => ?_) (fun _ => ?_)
      · have := h rfl
        rw [this] at hvl
        simp at hvl
        omega
      (conv => whnf)
      try refine And.intro (fun _ => ⟨rfl, by simp; omega⟩) ?_
      have hol : vs.length = w := hml
      have he0 : vs = (upd lt vs vs).take 0 ++ vs.drop 0 := Js
      refine V.r0 (V.a4 @jjC @jjD @jkk hvl) ?_
      refine lp_go w (fun _ => True) (fun k => [(17, Ji k)]) (fun k => [(159, .arr .i64 ((upd lt vs vs).take k ++ vs.drop k))]) ?_ trivial ?_
      · rw [← he0]
        exact V.wk
      intro k hk _
      (conv => whnf)
      refine V.st ?_
      refine V.br (fun hq => ?_) (fun hq => ?_)
      · rw [decide_eq_true_eq] at hq
        have hk1 : k < w := Jo
        obtain ⟨v, hv1, ev⟩ := getxn (xs := vs) (k := k) Jo
        obtain ⟨o, ho1, eo⟩ := getxn (xs := vs) (k := k) Jo
        have hug := jhY (lt := lt) (v := vs) ho1 Jo
        have hus := jgv (lt := lt) ho1 hv1 Jo
        have hul2 : ((upd lt vs vs).take k ++ vs.drop k).length = w := by simp; omega
        refine V.r0 (V.a2 ji3 ev) ?_
        refine ⟨(V.tk [0,1,2,3,4,5] (V.e1 6 [] .done)), [], V.pok, .go (jac ?_)⟩
        (conv => whnf)
        (try simp only [ji3, ev, hug])
        repeat ((first | refine V.s1 ?_ | ((try ((with_reducible refine .ext ?_); (conv => whnf); (try simp only [ji3, ev, hug]))); (with_reducible refine jaa (r := ?_) ?_ ?_); rotate_left; (focus (first | exact (hf _ _))); (conv => whnf))); (try simp only [ji3, ev, hug]))
        refine ja5 [] [(159, .arr .i64 ((upd lt vs vs).take (k + 1) ++ vs.drop (k + 1)))] (CondB.mk (fun hc => ?_) (fun hc => ?_)) ?_
        · rw [hc, if_pos rfl] at hus
          refine V.r0 (V.a3 ji3 ev hus) ?_
          exact V.wk
        · have hsm := upd_same ho1 hv1 Jo hc
          rw [← hsm]
          (conv => whnf)
          refine V.st ?_
          exact V.wk
        (conv => whnf)
        refine V.st ?_
        exact ⟨k + 1, ⟨Jo, trivial⟩, Jo, V.wk⟩
      · rw [decide_eq_false_iff_not] at hq
        have hk1 : k = w := Jo
        subst hk1
        have hfin : (upd lt vs vs).take k ++ vs.drop k = mst lt data k 1 := by
          rw [jko Jo, jkq Jo, List.append_nil]
          exact hvf
        rw [hfin]
        (conv => whnf)
        refine V.st ?_
        refine V.br (fun hq => ?_) (fun hq => ?_)
        · rw [decide_eq_true_eq] at hq
          have hq2 : ixl ns (0) = lastL ns := jgP (by rw [jar]; simp [lastL]) hq
          have hq3 := jeH ns hpos (0) hq2
          rw [jjL hm] at hq3
          have hq4 : 1 = PR ns := Jo
          have hml3 := jdd (lt := lt) hdl (Nat.le_of_eq hq4) hPP
          (conv => whnf)
          refine V.st ?_
          rw [jko Jo, hq4]
          exact Fin.of rfl
        · rw [decide_eq_false_iff_not] at hq
          have hq2 : ixl ns (0) ≠ lastL ns := fun e => hq (by rw [← e])
          have hil := jar ns (0)
          have hll : (lastL ns).length = ns.length := by simp [lastL]
          (conv => whnf)
          refine V.st ?_
          rw [hlen]
          have e2 : (ixl ns (0)).take ns.length = ixl ns (0) := jko Jo
          refine jad (ns.length) (fun k => (1 ≤ k ∧ k ≤ ns.length) ∧ (ixl ns (0)).drop k = (lastL ns).drop k) (fun k => k) (fun k => [(7, Ji ((k : Int) - 1))]) (fun k => [(56, .arr .i64 (pad4 ((ixl ns (0)).take k)))]) ?_ ?_ ?_
          · rw [e2]
            exact V.wk
          · exact ⟨⟨h1.1, jjG _⟩, by rw [jkq Jo, jkq Jo]⟩
          rintro p ⟨⟨hp1, hp2⟩, hp3⟩
          obtain ⟨p, rfl⟩ : ∃ q, p = q + 1 := ⟨p - 1, Jo⟩
          obtain ⟨x, hx⟩ : ∃ x, (ixl ns (0))[p]? = some x := ⟨_, jkb Jo⟩
          obtain ⟨n, hn⟩ : ∃ n, ns[p]? = some n := ⟨ns[p], jkb Jo⟩
          have hpx := jcz hx (by omega : p < p + 1) Jo
          have hpl : (lastL ns)[p]? = some ((n : Int) - 1) := by simp [lastL, hn]
          have hpl2 := jcz (k := 4) hpl Jo Jo
          rw [jko Jo] at hpl2
          have hp5 : (pad4 ((ixl ns (0)).take (p + 1))).length = 4 := jaG (by simp; omega)
          have e3 : ((p + 1 : Nat) : Int) - 1 = (p : Int) := Jo
          have e4 := jfb hx Jo
          (conv => whnf)
          refine V.st ?_
          refine ⟨(V.tk [0,1,2,3,4,5,6] .done), [], V.pok, .go (jac ?_)⟩
          refine V.r0 (V.a4 ji3 e3 hpx hpl2) ?_
          refine V.br (fun hc => ?_) (fun hc => ?_)
          · rw [decide_eq_true_eq] at hc
            have hd : (ixl ns (0)).drop p = (lastL ns).drop p := by
              rw [jks (by omega : p < (ixl ns (0)).length), jks (by omega : p < (lastL ns).length), hp3, (jkh.1 hx).2, (jkh.1 hpl).2, hc]
            have hp0 : 1 ≤ p := by
              rcases jjI p with e | e
              · subst e; exact absurd (by simpa using hd) hq2
              · exact e
            refine V.r0 (V.a3 ji3 e3 e4) ?_
            exact ⟨p, ⟨⟨hp0, Jo⟩, hd⟩, Jo, V.wk⟩
          · rw [decide_eq_false_iff_not] at hc
            have hsu := jgZ ns hpos (0) p n hn x hx (by rw [hp3]; simp [lastL]) hc
            have e5 := jdN (y := x + 1) hx Jo (by omega : (ixl ns (0)).length ≤ 4)
            rw [hil, ← hsu] at e5
            have hxb := jdm hpos hn hx
            have hnb := hn2 n (jkc hn)
            have hm1 : 1 < PR ns := by
              rcases jjO (1) (PR ns) with e | e
              · exact e
              · exfalso
                exact hq2 (jeJ ns hpos (0) (by rw [jjL hm]; omega))
            refine V.r0 (V.a4 ji3 e3 hpx e5) ?_
            exact ⟨1, hm1, Jo, V.wk⟩
    | succ m =>
      have hvf : upd lt (mst lt data w (m + 1)) (slot data (((m + 1) * w : Nat) : Int) w) = mst lt data w (m + 2) := by
        conv => rhs; unfold mst
      generalize hv : mst lt data w (m + 1) = vs at *
      generalize hv2 : slot data (((m + 1) * w : Nat) : Int) w = ws at *
      (conv => whnf)
      refine V.st ?_
      repeat ((try ((with_reducible refine .ext ?_); (conv => whnf))); (with_reducible refine jaa (r := ?_) ?_ ?_); rotate_left; (focus (first | exact (hvm))); (conv => whnf); refine V.st ?_)
      refine ⟨(V.tk [0,1,2] (V.e1 3 [0] (V.e1 4 [] (V.tk [5] .done)))), [], V.pok, .go (jac ?_)⟩
      (conv => whnf)
      refine V.st ?_
      repeat ((try ((with_reducible refine .ext ?_); (conv => whnf))); (with_reducible refine jaa (r := ?_) ?_ ?_); rotate_left; (focus (first | exact (hvm))); (conv => whnf); refine V.st ?_)
      have hol : vs.length = w := hml
      have he0 : vs = (upd lt vs ws).take 0 ++ vs.drop 0 := Js
      refine V.r0 (V.a4 @jjC @jjD @jkk hvl) ?_
      refine lp_go w (fun _ => True) (fun k => [(17, Ji k)]) (fun k => [(159, .arr .i64 ((upd lt vs ws).take k ++ vs.drop k))]) ?_ trivial ?_
      · rw [← he0, ← hv]
        exact V.wk
      intro k hk _
      (conv => whnf)
      refine V.st ?_
      refine V.br (fun hq => ?_) (fun hq => ?_)
      · rw [decide_eq_true_eq] at hq
        have hk1 : k < w := Jo
        obtain ⟨v, hv1, ev⟩ := getxn (xs := ws) (k := k) Jo
        obtain ⟨o, ho1, eo⟩ := getxn (xs := vs) (k := k) Jo
        have hug := jhY (lt := lt) (v := ws) ho1 Jo
        have hus := jgv (lt := lt) ho1 hv1 Jo
        have hul2 : ((upd lt vs ws).take k ++ vs.drop k).length = w := by simp; omega
        refine V.r0 (V.a2 ji3 ev) ?_
        refine ⟨(V.tk [0,1,2,3,4,5] (V.e1 6 [] .done)), [], V.pok, .go (jac ?_)⟩
        (conv => whnf)
        (try simp only [ji3, ev, hug])
        repeat ((first | refine V.s1 ?_ | ((try ((with_reducible refine .ext ?_); (conv => whnf); (try simp only [ji3, ev, hug]))); (with_reducible refine jaa (r := ?_) ?_ ?_); rotate_left; (focus (first | exact (hf _ _))); (conv => whnf))); (try simp only [ji3, ev, hug]))
        refine ja5 [] [(159, .arr .i64 ((upd lt vs ws).take (k + 1) ++ vs.drop (k + 1)))] (CondB.mk (fun hc => ?_) (fun hc => ?_)) ?_
        · rw [hc, if_pos rfl] at hus
          refine V.r0 (V.a3 ji3 ev hus) ?_
          exact V.wk
        · have hsm := upd_same ho1 hv1 Jo hc
          rw [← hsm]
          (conv => whnf)
          refine V.st ?_
          exact V.wk
        (conv => whnf)
        refine V.st ?_
        exact ⟨k + 1, ⟨Jo, trivial⟩, Jo, V.wk⟩
      · rw [decide_eq_false_iff_not] at hq
        have hk1 : k = w := Jo
        subst hk1
        have hfin : (upd lt vs ws).take k ++ vs.drop k = mst lt data k (m + 2) := by
          rw [jko Jo, jkq Jo, List.append_nil]
          exact hvf
        rw [hfin]
        (conv => whnf)
        refine V.st ?_
        refine V.br (fun hq => ?_) (fun hq => ?_)
        · rw [decide_eq_true_eq] at hq
          have hq2 : ixl ns (m + 1) = lastL ns := jgP (by rw [jar]; simp [lastL]) hq
          have hq3 := jeH ns hpos (m + 1) hq2
          rw [jjL hm] at hq3
          have hq4 : m + 2 = PR ns := Jo
          have hml3 := jdd (lt := lt) hdl (Nat.le_of_eq hq4) hPP
          (conv => whnf)
          refine V.st ?_
          rw [jko Jo, hq4]
          exact Fin.of rfl
        · rw [decide_eq_false_iff_not] at hq
          have hq2 : ixl ns (m + 1) ≠ lastL ns := fun e => hq (by rw [← e])
          have hil := jar ns (m + 1)
          have hll : (lastL ns).length = ns.length := by simp [lastL]
          (conv => whnf)
          refine V.st ?_
          rw [hlen]
          have e2 : (ixl ns (m + 1)).take ns.length = ixl ns (m + 1) := jko Jo
          refine jad (ns.length) (fun k => (1 ≤ k ∧ k ≤ ns.length) ∧ (ixl ns (m + 1)).drop k = (lastL ns).drop k) (fun k => k) (fun k => [(7, Ji ((k : Int) - 1))]) (fun k => [(56, .arr .i64 (pad4 ((ixl ns (m + 1)).take k)))]) ?_ ?_ ?_
          · rw [e2]
            exact V.wk
          · exact ⟨⟨h1.1, jjG _⟩, by rw [jkq Jo, jkq Jo]⟩
          rintro p ⟨⟨hp1, hp2⟩, hp3⟩
          obtain ⟨p, rfl⟩ : ∃ q, p = q + 1 := ⟨p - 1, Jo⟩
          obtain ⟨x, hx⟩ : ∃ x, (ixl ns (m + 1))[p]? = some x := ⟨_, jkb Jo⟩
          obtain ⟨n, hn⟩ : ∃ n, ns[p]? = some n := ⟨ns[p], jkb Jo⟩
          have hpx := jcz hx (by omega : p < p + 1) Jo
          have hpl : (lastL ns)[p]? = some ((n : Int) - 1) := by simp [lastL, hn]
          have hpl2 := jcz (k := 4) hpl Jo Jo
          rw [jko Jo] at hpl2
          have hp5 : (pad4 ((ixl ns (m + 1)).take (p + 1))).length = 4 := jaG (by simp; omega)
          have e3 : ((p + 1 : Nat) : Int) - 1 = (p : Int) := Jo
          have e4 := jfb hx Jo
          (conv => whnf)
          refine V.st ?_
          refine ⟨(V.tk [0,1,2,3,4,5,6] .done), [], V.pok, .go (jac ?_)⟩
          refine V.r0 (V.a4 ji3 e3 hpx hpl2) ?_
          refine V.br (fun hc => ?_) (fun hc => ?_)
          · rw [decide_eq_true_eq] at hc
            have hd : (ixl ns (m + 1)).drop p = (lastL ns).drop p := by
              rw [jks (by omega : p < (ixl ns (m + 1)).length), jks (by omega : p < (lastL ns).length), hp3, (jkh.1 hx).2, (jkh.1 hpl).2, hc]
            have hp0 : 1 ≤ p := by
              rcases jjI p with e | e
              · subst e; exact absurd (by simpa using hd) hq2
              · exact e
            refine V.r0 (V.a3 ji3 e3 e4) ?_
            exact ⟨p, ⟨⟨hp0, Jo⟩, hd⟩, Jo, V.wk⟩
          · rw [decide_eq_false_iff_not] at hc
            have hsu := jgZ ns hpos (m + 1) p n hn x hx (by rw [hp3]; simp [lastL]) hc
            have e5 := jdN (y := x + 1) hx Jo (by omega : (ixl ns (m + 1)).length ≤ 4)
            rw [hil, ← hsu] at e5
            have hxb := jdm hpos hn hx
            have hnb := hn2 n (jkc hn)
            have hm1 : m + 2 < PR ns := by
              rcases jjO (m + 2) (PR ns) with e | e
              · exact e
              · exfalso
                exact hq2 (jeJ ns hpos (m + 1) (by rw [jjL hm]; omega))
            refine V.r0 (V.a4 ji3 e3 hpx e5) ?_
            exact ⟨m + 2, hm1, Jo, V.wk⟩
theorem rl_mst {lt:Int→Int→Bool}{data:List Int}{w n:Nat}(h:data.length=n*w)(hw:0<w):∀ m,m≤n→rl lt data w (m*w)=mst lt data w m:=by
 intro m
 induction m with
 | zero=>intro _;simp[rl,mst]
 | succ m ih=>
  intro hm
  have ih:=ih Jo
  have hwl:w≤data.length:=by rw[h];exact Nat.le_mul_of_pos_left _ Jo
  have hR:=jcR (lt:=lt) hwl (m*w)
  have hS:=jhm h (by omega:m<n)
  have key:∀ k,k≤w→rl lt data w (m*w+k)=(upd lt (rl lt data w (m*w)) (slot data ((m*w:Nat):Int) w)).take k++(rl lt data w (m*w)).drop k:=by
   intro k
   induction k with
   | zero=>intro _;simp
   | succ k ihk=>
    intro hk
    have ihk:=ihk Jo
    have e1:(m*w+k)%w=k:=by
     rw[Nat.add_comm,Nat.add_mul_mod_self_right,jjL Jo]
    obtain⟨a,ha⟩:∃ a,(rl lt data w (m*w))[k]? = some a:=⟨_,jkb Jo⟩
    obtain⟨b,hb⟩:∃ b,(slot data ((m*w:Nat):Int) w)[k]? = some b:=⟨_,jkb Jo⟩
    have hb2:data.getD (m*w+k) 0=b:=by
     have:=hb
     unfold slot at this
     rw[jjF,jjF,jkx Jo,List.getElem?_drop] at this
     rw[jj8,this];rfl
    have hug:=jhY (lt:=lt) (v:=slot data ((m*w:Nat):Int) w) ha Jo
    have hus:=jgv (lt:=lt) ha hb Jo
    rw[← hus,← Nat.add_assoc]
    conv=>lhs;unfold rl
    rw[e1,ihk,hb2,hug]
  have hk:=key w (jjG _)
  have hul:(upd lt (rl lt data w (m*w)) (slot data ((m*w:Nat):Int) w)).length=w:=by unfold upd;rw[List.length_zipWith];omega
  rw[Nat.add_mul,Nat.one_mul,hk,jko Jo,jkq Jo,List.append_nil,ih]
  rfl
theorem range_c (size:List Int)(out:Int)(data:List Int)(hs:size.length≤281474976710656)(hd:data.length≤281474976710656) :
  Cl 47 [gridD size out data] (.tup [Jj (if jaf size out data then rl (fun a b=>decide (a<b)) data out.toNat data.length else []),Jj (if jaf size out data then rl (fun a b=>decide (a>b)) data out.toNat data.length else []),Ji (if jaf size out data then 0 else 100)]):=by
 refine V.en tbOk Tryz.func47 ?_
 (conv=>whnf)
 refine V.st ?_
 repeat ((try ((with_reducible refine .ext ?_);(conv=>whnf)));(with_reducible refine jaa (r:=?_) ?_ ?_);rotate_left;(focus (first|exact(jfJ _ _ _ hs hd)));(conv=>whnf);refine V.st ?_)
 cases hg:jaf size out data with
 | false=>
  refine V.br (fun h=>?_) (fun h=>?_)
  ·(conv=>whnf)
   refine V.st ?_
   exact Fin.tup ⟨Fin.nil _,Fin.nil _,Fin.of rfl,trivial⟩
  ·simp at h
 | true=>
  have hG:=jaT hg
  obtain⟨w,rfl⟩:∃ w:Nat,out=w:=⟨out.toNat,Jo⟩
  obtain⟨ns,hn0,hn1,hn2⟩:=nz_of hG.2.2.2.2.1
  have hprod:prod size=(PR ns:Nat):=by rw[hn0,jcV]
  have hdl:data.length=PR ns*w:=by
   have:=hG.2.2.2.2.2.2.1
   rw[hprod,← jjQ] at this
   omega
  have e1:=rl_mst (lt:=fun a b=>decide (a<b)) hdl Jo (PR ns) (jjG _)
  have e2:=rl_mst (lt:=fun a b=>decide (a>b)) hdl Jo (PR ns) (jjG _)
  rw[← hdl] at e1 e2
  have m1:=most_c size w data 96 (fun a b=>decide (a<b)) hg lt_c (fun a=>Js)
  have m2:=most_c size w data 97 (fun a b=>decide (a>b)) hg gt_c (fun a=>Js)
  rw[hn1,← e1] at m1
  rw[hn1,← e2] at m2
  refine V.br (fun h=>?_) (fun h=>?_)
  ·simp at h
  (conv=>whnf)
  refine V.st ?_
  repeat ((try ((with_reducible refine .ext ?_);(conv=>whnf)));(with_reducible refine jaa (r:=?_) ?_ ?_);rotate_left;(focus (first|exact(tpoints_c _ _ _)|exact(m1)|exact(m2)));(conv=>whnf);refine V.st ?_)
  exact Fin.of rfl
theorem pzf (ns:List Nat)(x:List Int)(p:Int):x.length=ns.length→((nz ns).zip x).foldl (fun p a=>p*a.1+a.2) p=p*(PR ns:Int)+pz ((nz ns).zip x):=by
 induction ns generalizing x p with
 | nil=>intro _;simp[pz,nz,PR]
 | cons n r ih=>
  intro hl
  cases x with
  | nil=>simp at hl
  | cons a s=>
   have hl':s.length=r.length:=by simpa using hl
   simp only[nz,List.map_cons,List.zip_cons_cons,List.foldl_cons,pz,PR]
   have e1:=ih s (p*(n:Int)+a) hl'
   have e2:=ih s (0*(n:Int)+a) hl'
   simp only[nz] at e1 e2
   rw[e1,e2]
   simp only[jjQ,jj1,jjT,Int.zero_mul,Int.zero_add]
   omega
theorem je6 (n:Nat)(r:List Nat)(a:Int)(s:List Int)(h:s.length=r.length):pz ((nz (n::r)).zip (a::s))=a*(PR r:Int)+pz ((nz r).zip s):=by
 have:=pzf r s a h
 unfold pz at this ⊢
 simp only[nz,List.map_cons,List.zip_cons_cons,List.foldl_cons,Int.zero_mul,Int.zero_add] at this ⊢
 exact this
theorem ixl_pz:∀ (ns:List Nat) (x:List Int),okIdx (nz ns) x=true→(0≤pz ((nz ns).zip x)∧pz ((nz ns).zip x)<PR ns)∧ixl ns (pz ((nz ns).zip x)).toNat=x
 | [],x,h=>by
  have h1:=(ja7.1 h).1
  simp[nz] at h1
  subst h1
  simp[pz,nz,PR,ixl]
 | n::r,[],h=>by
  have h1:=(ja7.1 h).1
  simp[nz] at h1
 | n::r,a::s,h=>by
  obtain⟨h1,h2⟩:=ja7.1 h
  have hl:s.length=r.length:=by simpa [nz] using h1
  have ha:=h2 0 n a (by simp[nz]) rfl
  have hr:okIdx (nz r) s=true:=ja7.2 ⟨by simpa [nz] using hl,fun k n' x' g1 g2=>h2 (k+1) n' x' (by simpa [nz] using g1) (by simpa using g2)⟩
  obtain⟨⟨i1,i2⟩,i3⟩:=ixl_pz r s hr
  rw[je6 n r a s hl]
  have hpos:∀ y∈r,0<y:=fun y hy=>by
   obtain⟨k,hk⟩:=List.getElem?_of_mem hy
   have hk2:k<s.length:=by have:=(jkh.1 hk).1;omega
   have:=h2 (k+1) y s[k] (by simp[nz,hk]) (by simp[hk2])
   omega
  have hP:=jey hpos
  generalize pz ((nz r).zip s)=q at *
  obtain⟨q,rfl⟩:∃ m:Nat,q=m:=⟨q.toNat,Jo⟩
  obtain⟨a,rfl⟩:∃ m:Nat,a=m:=⟨a.toNat,Jo⟩
  have e:((a:Int)*(PR r:Int)+(q:Int))=((a*PR r+q:Nat):Int):=Js
  have hq:q<PR r:=Jo
  have han:a<n:=Jo
  rw[e,jjF] at *
  refine⟨⟨Jo,?_⟩,?_⟩
  ·have:a*PR r+q<(a+1)*PR r:=by rw[Nat.add_mul];omega
   have h5:(a+1)*PR r≤n*PR r:=Nat.mul_le_mul_right _ han
   rw[PR]
   omega
  ·have e1:(a*PR r+q)/PR r=a:=by
    rw[jjK,Nat.mul_add_div hP,Nat.div_eq_of_lt hq,jjD]
   have e2:ixl r (a*PR r+q)=s:=by
    rw[← jin r hpos,jjK,Nat.mul_add_mod,jin r hpos]
    exact i3
   simp only[ixl,e1,e2,jjL han]
structure Ord (lt:Int→Int→Bool):Prop where
 irr:∀ a,lt a a=false
 tr:∀ a b c,lt b a=false→lt c b=false→lt c a=false
 anti:∀ a b,lt a b=false→lt b a=false→a=b
 asym:∀ a b,lt a b=true→lt b a=false
theorem ord_lt:Ord fun a b=>decide (a<b):=⟨fun a=>Js,fun a b c h1 h2=>by simp at *; omega,fun a b h1 h2=>by simp at *; omega,fun a b h=>by simp at *; omega⟩
theorem ord_gt:Ord fun a b=>decide (a>b):=⟨fun a=>Js,fun a b c h1 h2=>by simp at *; omega,fun a b h1 h2=>by simp at *; omega,fun a b h=>by simp at *; omega⟩
def col (data:List Int)(w m k:Nat):Int:=(slot data ((m*w:Nat):Int) w).getD k 0
theorem updGet {lt:Int→Int→Bool}{o v:List Int}{k:Nat}(h1:k<o.length)(h2:k<v.length):(upd lt o v).getD k 0=if lt (v.getD k 0) (o.getD k 0) then v.getD k 0 else o.getD k 0:=by
 unfold upd
 simp[jj8,List.getElem?_zipWith,h1,h2]
theorem mst_spec {lt:Int→Int→Bool}(O:Ord lt){data:List Int}{w n:Nat}(h:data.length=n*w){k:Nat}(hk:k<w):∀ m,m≤n→0<n →
  (∀ j,j<m→lt (col data w j k) ((mst lt data w m).getD k 0)=false) ∧ ∃ j,j<max m 1∧(mst lt data w m).getD k 0=col data w j k:=by
 intro m
 induction m with
 | zero=>intro _ _;exact⟨fun j hj=>Jo,0,Jo,by simp[mst,col]⟩
 | succ m ih=>
  intro hm hn
  obtain⟨h1,j,hj,h2⟩:=ih Jo hn
  have hl1:=jdd (lt:=lt) h (by omega:m≤n) hn
  have hl2:=jhm h (by omega:m<n)
  have hu:=updGet (lt:=lt) (o:=mst lt data w m) (v:=slot data ((m*w:Nat):Int) w) (k:=k) Jo Jo
  have hc:(slot data ((m*w:Nat):Int) w).getD k 0=col data w m k:=rfl
  rw[hc] at hu
  simp only[mst]
  rw[hu]
  cases hb:lt (col data w m k) ((mst lt data w m).getD k 0) with
  | true=>
   rw[if_pos rfl]
   refine⟨fun i hi=>?_,m,Jo,rfl⟩
   by_cases him:i=m
   ·subst him;exact O.irr _
   ·have h3:=h1 i Jo
    cases hc2:lt (col data w i k) (col data w m k) with
    | false=>rfl
    | true=>
     have h4:=O.asym _ _ hb
     rw[O.tr _ _ _ h4 h3] at hc2
     cases hc2
  | false=>
   rw[if_neg Js]
   refine⟨fun i hi=>?_,j,Jo,h2⟩
   by_cases him:i=m
   ·subst him;exact hb
   ·exact h1 i Jo
def sg (ns:List Nat)(a b m:Nat):Nat:=(pz ((nz ns).zip (swp (ixl (swn ns a b) m) a b))).toNat
end Go.Proofs.YtbnghipgicmpdaaGreatDoor
end
section
namespace Go.Proofs.YtbnghipgicmpdaaGreatDoor
open Go Go.V Go.Gr Go.Nb
theorem nz_ofz {zs:List Int}(h:∀ z∈zs,0≤z):nz (zs.map Int.toNat)=zs:=by
 unfold nz
 rw[List.map_map]
 conv=>rhs;rw[← List.map_id zs]
 exact List.map_congr_left fun z hz=>jjE (h z hz)
def loL (out:Int)(data:List Int):List Int:=rl (fun a b=>decide (a<b)) data out.toNat data.length
def hiL (out:Int)(data:List Int):List Int:=rl (fun a b=>decide (a>b)) data out.toNat data.length
theorem jf3 {zs:List Int}{out:Int}{data:List Int}(hg:jaf zs out data=true):data.length=PR (zs.map Int.toNat)*out.toNat∧0<PR (zs.map Int.toNat)∧(loL out data).length=out.toNat∧(hiL out data).length=out.toNat:=by
 have og:=jaq hg
 have e:=nz_ofz (zs:=zs) fun z hz=>by have:=og.2.1 z hz;omega
 have p:=jcV (zs.map Int.toNat)
 rw[e] at p
 have h1:(data.length:Int)=((PR (zs.map Int.toNat)*out.toNat:Nat):Int):=by
  rw[og.2.2.1.2,p,jjQ,jjE Jo]
 have h2:data.length=PR (zs.map Int.toNat)*out.toNat:=by exact_mod_cast h1
 have h3:0<PR (zs.map Int.toNat):=by
  have:∀ l:List Int,(∀ z∈l,2≤z∧z≤9)→0<prod l:=fun l hl=>by
   have g:∀ (l:List Int) (a:Int),0<a→(∀ z∈l,2≤z∧z≤9)→0<l.foldl (· * ·) a:=by
    intro l
    induction l with
    | nil=>exact fun a ha _=>ha
    | cons z l ih=>exact fun a ha hz=>ih (a*z) (Int.mul_pos ha (by have:=hz z (List.mem_cons_self ..);omega)) fun y hy=>hz y (List.mem_cons_of_mem _ hy)
   exact g l 1 Jd hl
  have:=this zs og.2.1
  omega
 have h4:out.toNat≤data.length:=by
  rw[h2]
  exact Nat.le_mul_of_pos_left _ h3
 exact⟨h2,h3,jcR h4 _,jcR h4 _⟩
theorem col_bd {data:List Int}(h:∀ v∈data,0≤v∧v≤65535)(w m k:Nat):0≤col data w m k∧col data w m k≤65535:=jaS h _ _ _
theorem jbL {zs:List Int}{out:Int}{data:List Int}(hg:jaf zs out data=true){j:Nat}(hj:j<out.toNat) :
  (0≤(loL out data).getD j 0∧(loL out data).getD j 0≤65535)∧(0≤(hiL out data).getD j 0∧(hiL out data).getD j 0≤65535) ∧
  ∀ xs,okIdx zs xs=true→(loL out data).getD j 0≤(slot data (pz (zs.zip xs)*out) out).getD j 0∧(slot data (pz (zs.zip xs)*out) out).getD j 0≤(hiL out data).getD j 0:=by
 have og:=jaq hg
 have r:=jf3 hg
 have s1:=mst_spec ord_lt r.1 hj (PR (zs.map Int.toNat)) (jjG _) r.2.1
 have s2:=mst_spec ord_gt r.1 hj (PR (zs.map Int.toNat)) (jjG _) r.2.1
 have e1:=rl_mst (lt:=fun a b=>decide (a<b)) r.1 Jo (PR (zs.map Int.toNat)) (jjG _)
 have e2:=rl_mst (lt:=fun a b=>decide (a>b)) r.1 Jo (PR (zs.map Int.toNat)) (jjG _)
 rw[← r.1] at e1 e2
 rw[← e1] at s1
 rw[← e2] at s2
 refine⟨?_,?_,fun xs hx=>?_⟩
 ·obtain⟨_,m,_,e⟩:=s1
  show 0≤(rl _ data out.toNat data.length).getD j 0∧(rl _ data out.toNat data.length).getD j 0≤65535
  rw[e]
  exact col_bd og.2.2.2 _ _ _
 ·obtain⟨_,m,_,e⟩:=s2
  show 0≤(rl _ data out.toNat data.length).getD j 0∧(rl _ data out.toNat data.length).getD j 0≤65535
  rw[e]
  exact col_bd og.2.2.2 _ _ _
 ·have e:=nz_ofz (zs:=zs) fun z hz=>by have:=og.2.1 z hz;omega
  have ip:=ixl_pz (zs.map Int.toNat) xs (by rw[e];exact hx)
  rw[e] at ip
  have em:pz (zs.zip xs)*out=(((pz (zs.zip xs)).toNat*out.toNat:Nat):Int):=by
   rw[jjQ,jjE ip.1.1,jjE Jo]
  have hm:(pz (zs.zip xs)).toNat<PR (zs.map Int.toNat):=Jo
  have a1:=s1.1 _ hm
  have a2:=s2.1 _ hm
  have ec:(slot data (pz (zs.zip xs)*out) out).getD j 0=col data out.toNat (pz (zs.zip xs)).toNat j:=by
   unfold col
   rw[em,show ((out.toNat:Nat):Int)=out from by omega]
  rw[ec]
  simp only[decide_eq_false_iff_not] at a1 a2
  unfold loL hiL
  omega
theorem jbH {zs:List Int}{out:Int}{data:List Int}(hg:jaf zs out data=true)(hl:zs.length≤4):Cl 47 [gridD zs out data] (.tup [Jj (loL out data),Jj (hiL out data),Ji 0]):=by
 have og:=jaq hg
 have c:=range_c zs out data Jo Jo
 rw[hg] at c
 exact c
def clI (v:Int):Int:=min (max v 0) 1000000000000
def midB (b:Int×Int):Rat:=Rat.divInt (clI b.1+clI b.2) 2000000000000
def halB (b:Int×Int):Rat:=Rat.divInt (clI b.2-clI b.1) 2000000000000
def bce (B:Nat→Int×Int):Nat→List D
 | 0=>[]
 | k+1=>bce B k++[Ji (B k).1,Ji (B k).2]
def slB (B:Nat→Int×Int)(n:Nat):D:=V.sl2 n (bce B n)
theorem jam (v:Int):0≤clI v∧clI v≤1000000000000:=by unfold clI;omega
theorem clI_mono {a b:Int}(h:a≤b):clI a≤clI b:=by unfold clI;omega
theorem jcG {b:Int×Int}(h:vb b.1 b.2=true):Cl 50 [.agg [Ji b.1,Ji b.2],Ji 0,Ji 1000000000000] (.tup [.agg [Ji (clI b.1),Ji (clI b.2)],Ji 0]):=by
 have c:=clamp_b b.1 b.2 0 1000000000000
 have v:=jbC.1 h
 have b1:=jam b.1
 have b2:=jam b.2
 have m:=clI_mono v.2.1
 rw[if_pos h,if_pos (jbC.2 Jo)] at c
 have e:mk (min (max b.1 0) 1000000000000) (min (max b.2 0) 1000000000000)=(clI b.1,clI b.2,0):=by
  unfold mk
  rw[if_pos (jbC.2 (by unfold clI at *; omega))]
  rfl
 rw[e] at c
 exact c
theorem divQ (a:Int):Rat.divInt a 2000000000000=(a:Rat)/2000000000000:=by
 rw[Rat.divInt_eq_div]
 rfl
theorem divF (a:Int):Rat.divInt a 65535=(a:Rat)/65535:=by
 rw[Rat.divInt_eq_div]
 rfl
theorem jbv (b:Int×Int):Fq 14 (midB b):=by
 have b1:=jam b.1
 have b2:=jam b.2
 exact ja1 (n:=14) (d:=2000000000000) Jd Jo Jd
theorem jdn (b:Int×Int):Fq 14 (halB b):=by
 have b1:=jam b.1
 have b2:=jam b.2
 exact ja1 (n:=14) (d:=2000000000000) Jd Jo Jd
theorem hal_bd {b:Int×Int}(h:vb b.1 b.2=true):0≤halB b∧halB b≤1:=by
 have b1:=jam b.1
 have b2:=jam b.2
 have m:=clI_mono (jbC.1 h).2.1
 unfold halB
 rw[divQ]
 have g1:(0:Rat)≤((clI b.2-clI b.1:Int):Rat):=by exact_mod_cast (show (0:Int)≤clI b.2-clI b.1 by omega)
 have g2:((clI b.2-clI b.1:Int):Rat)≤((1000000000000:Int):Rat):=Rat.intCast_le_intCast.2 Jo
 rw[show ((1000000000000:Int):Rat)=1000000000000 from rfl] at g2
 constructor<;>grind
theorem jci {v:Int}(h:0≤v∧v≤65535):Fq 10 (Rat.divInt v 65535):=ja1 (n:=10) (d:=65535) Jd Jo Jd
def sprQ (zs data:List Int)(out:Int)(n:Nat)(X:Nat→Int×Int)(j:Nat):Rat:=smF (fun i=>(((outS zs data out zs.length j).getD i 0:Int):Rat)*halB (X i)) (n-1)/65535
theorem jdB {st:List Int}{n i:Nat}{b:Int×Int}(hs:rowOk n st)(h:vb b.1 b.2=true):0≤((st.getD i 0:Int):Rat)*halB b∧((st.getD i 0:Int):Rat)*halB b≤600000:=by
 have g:=hal_bd h
 have s:=hs.2 i
 have s0:(0:Rat)≤((st.getD i 0:Int):Rat):=by exact_mod_cast s.1
 have s1:((st.getD i 0:Int):Rat)≤((600000:Int):Rat):=Rat.intCast_le_intCast.2 s.2
 rw[show ((600000:Int):Rat)=600000 from rfl] at s1
 have m1:=Rat.mul_le_mul_of_nonneg_left g.2 s0
 have m0:=Rat.mul_le_mul_of_nonneg_left g.1 s0
 constructor<;>grind
theorem jf0 {P:Nat→Rat}{n:Nat}(h:∀ i,i≤n→0≤P i∧P i≤600000):∀ k,k≤n→0≤smF P k∧smF P k≤600000*(((k+1:Nat):Int):Rat)
 | 0,hk=>by
  have:=h 0 hk
  simp only[smF]
  rw[show (((0+1:Nat):Int):Rat)=1 from rfl]
  constructor<;>grind
 | k+1,hk=>by
  have a:=jf0 h k Jo
  have b:=h (k+1) hk
  simp only[smF]
  rw[show (((k+1+1:Nat):Int):Rat)=(((k+1:Nat):Int):Rat)+1 by rw[Int.natCast_add,Rat.intCast_add];rfl]
  constructor<;>grind
theorem fq_ev1 {x0:Rat}{z0 out:Int}{data:List Int}(hg:jaf [z0] out data=true)(h0:Fq 40 x0)(j:Nat):Fq 376 (evQ [z0] out data x0 0 0 j):=by
 have og:=jaq hg
 have s0:=og.2.1 z0 Js
 have f0:=ja0 h0 Jd s0
 have fr:∀ k,Fq 43 (rqN (spR z0 x0) 0 0 k):=fq_rq f0 jbd jbd
 rw[ev1_sm s0.1]
 have fm:∀ k,Fq 92 ((fun k=>wqN (rqN (spR z0 x0) 0 0) [0] 1 k*(((slot data (pz ([z0].zip ((atK [spB z0 x0,0,0,0] [0] k).take 1))*out) out).getD j 0:Int):Rat)) k):=fun k=>(fq_wq fr _ 1 k).mul (jav (n:=5) (by have:=jaS og.2.2.2 (pz ([z0].zip ((atK [spB z0 x0,0,0,0] [0] k).take 1))*out) out j;omega) Jo)
 have s:=fq_sm fm 1
 have q:=s.div (jav (n:=5) (z:=65535) jaC Jd) jaX
 rw[show ((65535:Int):Rat)=65535 from rfl] at q
 exact q.mono Jd
theorem ev_in1 {x0:Rat}{z0 out:Int}{data:List Int}(hg:jaf [z0] out data=true){j:Nat}(hj:j<out.toNat):Rat.divInt ((loL out data).getD j 0) 65535≤evQ [z0] out data x0 0 0 j∧evQ [z0] out data x0 0 0 j≤Rat.divInt ((hiL out data).getD j 0) 65535:=by
 have og:=jaq hg
 have rb:=jbL hg hj
 have s0:=og.2.1 z0 Js
 have b:=ev_bd (s0:=z0) (s1:=2) (s2:=2) (v:=gvF [z0] out data j) (m:=(((loL out data).getD j 0:Int):Rat)) (M:=(((hiL out data).getD j 0:Int):Rat)) Jo (fun i k l hi hk hl=>by
  have g:=rb.2.2 [i] (by simp[okIdx];omega)
  exact⟨Rat.intCast_le_intCast.2 g.1,Rat.intCast_le_intCast.2 g.2⟩) x0 0 0
 rw[divF,divF]
 show _≤evF z0 2 2 (gvF [z0] out data j) x0 0 0/65535∧evF z0 2 2 (gvF [z0] out data j) x0 0 0/65535≤_
 constructor<;>grind
theorem fq_ev2 {x0 x1:Rat}{z0 z1 out:Int}{data:List Int}(hg:jaf [z0,z1] out data=true)(h0:Fq 40 x0)(h1:Fq 40 x1)(j:Nat):Fq 376 (evQ [z0,z1] out data x0 x1 0 j):=by
 have og:=jaq hg
 have s0:=og.2.1 z0 Js
 have f0:=ja0 h0 Jd s0
 have s1:=og.2.1 z1 Js
 have f1:=ja0 h1 Jd s1
 have fr:∀ k,Fq 43 (rqN (spR z0 x0) (spR z1 x1) 0 k):=fq_rq f0 f1 jbd
 rw[ev2_sm s0.1 s1.1]
 have fm:∀ k,Fq 92 ((fun k=>wqN (rqN (spR z0 x0) (spR z1 x1) 0) (ord2 (spR z0 x0) (spR z1 x1)) 2 k*(((slot data (pz ([z0,z1].zip ((atK [spB z0 x0,spB z1 x1,0,0] (ord2 (spR z0 x0) (spR z1 x1)) k).take 2))*out) out).getD j 0:Int):Rat)) k):=fun k=>(fq_wq fr _ 2 k).mul (jav (n:=5) (by have:=jaS og.2.2.2 (pz ([z0,z1].zip ((atK [spB z0 x0,spB z1 x1,0,0] (ord2 (spR z0 x0) (spR z1 x1)) k).take 2))*out) out j;omega) Jo)
 have s:=fq_sm fm 2
 have q:=s.div (jav (n:=5) (z:=65535) jaC Jd) jaX
 rw[show ((65535:Int):Rat)=65535 from rfl] at q
 exact q.mono Jd
theorem ev_in2 {x0 x1:Rat}{z0 z1 out:Int}{data:List Int}(hg:jaf [z0,z1] out data=true){j:Nat}(hj:j<out.toNat):Rat.divInt ((loL out data).getD j 0) 65535≤evQ [z0,z1] out data x0 x1 0 j∧evQ [z0,z1] out data x0 x1 0 j≤Rat.divInt ((hiL out data).getD j 0) 65535:=by
 have og:=jaq hg
 have rb:=jbL hg hj
 have s0:=og.2.1 z0 Js
 have s1:=og.2.1 z1 Js
 have b:=ev_bd (s0:=z0) (s1:=z1) (s2:=2) (v:=gvF [z0,z1] out data j) (m:=(((loL out data).getD j 0:Int):Rat)) (M:=(((hiL out data).getD j 0:Int):Rat)) Jo (fun i k l hi hk hl=>by
  have g:=rb.2.2 [i,k] (by simp[okIdx];omega)
  exact⟨Rat.intCast_le_intCast.2 g.1,Rat.intCast_le_intCast.2 g.2⟩) x0 x1 0
 rw[divF,divF]
 show _≤evF z0 z1 2 (gvF [z0,z1] out data j) x0 x1 0/65535∧evF z0 z1 2 (gvF [z0,z1] out data j) x0 x1 0/65535≤_
 constructor<;>grind
theorem fq_ev3 {x0 x1 x2:Rat}{z0 z1 z2 out:Int}{data:List Int}(hg:jaf [z0,z1,z2] out data=true)(h0:Fq 40 x0)(h1:Fq 40 x1)(h2:Fq 40 x2)(j:Nat):Fq 376 (evQ [z0,z1,z2] out data x0 x1 x2 j):=by
 have og:=jaq hg
 have s0:=og.2.1 z0 Js
 have f0:=ja0 h0 Jd s0
 have s1:=og.2.1 z1 Js
 have f1:=ja0 h1 Jd s1
 have s2:=og.2.1 z2 Js
 have f2:=ja0 h2 Jd s2
 have fr:∀ k,Fq 43 (rqN (spR z0 x0) (spR z1 x1) (spR z2 x2) k):=fq_rq f0 f1 f2
 rw[ev3_sm s0.1 s1.1 s2.1]
 have fm:∀ k,Fq 92 ((fun k=>wqN (rqN (spR z0 x0) (spR z1 x1) (spR z2 x2)) (ord3 (spR z0 x0) (spR z1 x1) (spR z2 x2)) 3 k*(((slot data (pz ([z0,z1,z2].zip ((atK [spB z0 x0,spB z1 x1,spB z2 x2,0] (ord3 (spR z0 x0) (spR z1 x1) (spR z2 x2)) k).take 3))*out) out).getD j 0:Int):Rat)) k):=fun k=>(fq_wq fr _ 3 k).mul (jav (n:=5) (by have:=jaS og.2.2.2 (pz ([z0,z1,z2].zip ((atK [spB z0 x0,spB z1 x1,spB z2 x2,0] (ord3 (spR z0 x0) (spR z1 x1) (spR z2 x2)) k).take 3))*out) out j;omega) Jo)
 have s:=fq_sm fm 3
 have q:=s.div (jav (n:=5) (z:=65535) jaC Jd) jaX
 rw[show ((65535:Int):Rat)=65535 from rfl] at q
 exact q.mono Jd
theorem ev_in3 {x0 x1 x2:Rat}{z0 z1 z2 out:Int}{data:List Int}(hg:jaf [z0,z1,z2] out data=true){j:Nat}(hj:j<out.toNat):Rat.divInt ((loL out data).getD j 0) 65535≤evQ [z0,z1,z2] out data x0 x1 x2 j∧evQ [z0,z1,z2] out data x0 x1 x2 j≤Rat.divInt ((hiL out data).getD j 0) 65535:=by
 have og:=jaq hg
 have rb:=jbL hg hj
 have s0:=og.2.1 z0 Js
 have s1:=og.2.1 z1 Js
 have s2:=og.2.1 z2 Js
 have b:=ev_bd (s0:=z0) (s1:=z1) (s2:=z2) (v:=gvF [z0,z1,z2] out data j) (m:=(((loL out data).getD j 0:Int):Rat)) (M:=(((hiL out data).getD j 0:Int):Rat)) Jo (fun i k l hi hk hl=>by
  have g:=rb.2.2 [i,k,l] (by simp[okIdx];omega)
  exact⟨Rat.intCast_le_intCast.2 g.1,Rat.intCast_le_intCast.2 g.2⟩) x0 x1 x2
 rw[divF,divF]
 show _≤evF z0 z1 z2 (gvF [z0,z1,z2] out data j) x0 x1 x2/65535∧evF z0 z1 z2 (gvF [z0,z1,z2] out data j) x0 x1 x2/65535≤_
 constructor<;>grind
end Go.Proofs.YtbnghipgicmpdaaGreatDoor
end
section
namespace Go.Proofs.YtbnghipgicmpdaaGreatDoor
open Go Go.V Go.Nb Go.Gr
theorem nearU_bd {x:Rat}(h0:0≤x)(h1:x≤1):0≤nearZ x 65535∧nearZ x 65535≤65535:=by
 have hd:(0:Int)<x.den:=by have:=x.den_pos;omega
 have hn:0≤x.num:=Rat.num_nonneg.2 h0
 have hn1:x.num≤x.den:=by
  have:=Rat.le_iff (a:=x) (b:=1) |>.1 h1
  simpa using this
 unfold nearZ
 have e1:((65535*2:Nat):Int)=131070:=rfl
 have e2:((x.den*2:Nat):Int)=2*(x.den:Int):=by push_cast;omega
 rw[e1,e2]
 refine⟨jjy Jo Jo,?_⟩
 have:(x.num*131070+x.den)/(2*(x.den:Int))<65536:=Int.ediv_lt_of_lt_mul Jo Jo
 omega
theorem near_q {n:Nat}{x:Rat}(h:Fq n x)(h0:0<n∧n≤600)(hb:0≤x∧x≤1):Cl 61 [frT x,Ji 65535] (.tup [Ji (nearZ x 65535),Ji 0]):=by
 have o:=jaE (h.ok h0.1 h0.2)
 have b:=nearU_bd hb.1 hb.2
 have c:=near_f (decZ x.num) (dec x.den) 65535 o.1 Jo Jo (by rw[o.2];omega)
 rw[o.2] at c
 exact c
def xR (ts:List Nat)(m i:Nat):Rat:=Rat.divInt ((pad4 (ixl ts m)).getD i 0) ((nz ts).getD i 0-1)
def rfW (zs:List Int)(out:Int)(data:List Int)(ts:List Nat)(m j:Nat):Int:=nearZ (evQ zs out data (xR ts m 0) (xR ts m 1) (xR ts m 2) j) 65535
def rfD (zs:List Int)(out:Int)(data:List Int)(ts:List Nat):List Int:=flat ts (fun m=>(List.range out.toNat).map (rfW zs out data ts m)) (PR ts)
theorem jfc (l:List Int)(i:Nat):(pad4 l).getD i 0=l.getD i 0:=by
 unfold pad4
 rw[jj8,jj8]
 rcases jjO i l.length with h|h
 ·rw[jkg h]
 ·rw[jkp h,List.getElem?_eq_none h]
  cases e:(List.replicate (4-l.length) (0:Int))[i-l.length]? with
  | none=>rfl
  | some v=>have:=jkc e;rw[List.mem_replicate] at this;rw[this.2];rfl
theorem xR_off {ts:List Nat}{m i:Nat}(h:ts.length≤i):xR ts m i=0:=by
 unfold xR
 rw[jfc,jj8,List.getElem?_eq_none (by rw[jar];exact h)]
 simp
theorem xR_at {ts:List Nat}{m i n:Nat}(h2:∀ n∈ts,2≤n∧n≤9)(h:ts[i]? = some n):∃ a:Int,(pad4 (ixl ts m)).getD i 0=a∧(ixl ts m).getD i 0=a∧(0≤a∧a≤(n:Int)-1)∧(nz ts).getD i 0=n∧xR ts m i=Rat.divInt a ((n:Int)-1):=by
 have e:=jeh ts m i n h
 have b:=jdm (m:=m) (fun n hn=>by have:=h2 n hn;omega) h e
 have en:(nz ts).getD i 0=n:=by simp[nz,jj8,h]
 have e1:(ixl ts m).getD i 0=((m/PR (ts.drop (i+1))%n:Nat):Int):=by rw[jj8,e];rfl
 exact⟨_,by rw[jfc,e1],e1,b,en,by unfold xR;rw[jfc,e1,en]⟩
theorem xR_fq {ts:List Nat}(h2:∀ n∈ts,2≤n∧n≤9)(m i:Nat):Fq 40 (xR ts m i):=by
 rcases jjO i ts.length with h|h
 ·have hn:=jkb h
  have hb:=h2 _ (List.getElem_mem h)
  obtain⟨a,_,_,ha,_,e⟩:=xR_at (m:=m) h2 hn
  rw[e]
  generalize ts[i]=n at *
  obtain⟨d,hd⟩:∃ d:Nat,(n:Int)-1=(d:Int):=⟨n-1,Jo⟩
  rw[hd]
  refine ja1 Jo ?_ ?_
  ·exact Nat.lt_of_le_of_lt (show a.natAbs≤9 by omega) Jd
  ·exact Nat.lt_of_le_of_lt (show d≤9 by omega) Jd
 ·rw[xR_off h];exact⟨Jd,Jd⟩
theorem ev_unit2 {z0 z1 out:Int}{data:List Int}(hg:jaf [z0,z1] out data=true)(x0 x1:Rat){j:Nat}(hj:j<out.toNat):0≤evQ [z0,z1] out data x0 x1 0 j∧evQ [z0,z1] out data x0 x1 0 j≤1:=by
 obtain⟨b1,b2⟩:=ev_in2 (x0:=x0) (x1:=x1) hg hj
 obtain⟨r1,r2,_⟩:=jbL hg hj
 rw[divF] at b1
 generalize (loL out data).getD j 0=a at *
 generalize (hiL out data).getD j 0=b at *
 have a0:(0:Rat)≤(a:Rat):=Rat.intCast_le_intCast.2 r1.1
 have b0:(b:Rat)≤65535:=by
  have:=Rat.intCast_le_intCast.2 r2.2
  rwa [show ((65535:Int):Rat)=65535 from by decide +kernel] at this
 rw[divF] at b2
 constructor<;>grind
theorem rfW2 {z0 z1 out:Int}{data:List Int}{ts:List Nat}(ht:ts.length=2)(m j:Nat):rfW [z0,z1] out data ts m j=nearZ (evQ [z0,z1] out data (xR ts m 0) (xR ts m 1) 0 j) 65535:=by
 unfold rfW
 rw[xR_off (i:=2) Jo]
theorem refq2 {z0 z1 out:Int}{data:List Int}(hg:jaf [z0,z1] out data=true)(ts:List Nat)(ht:ts.length=2)(h2:∀ n∈ts,2≤n∧n≤9)(hc:cnP out ts 2≤4096):Cl 26 [gridD [z0,z1] out data,Jj (nz ts)] (.tup [gridD (nz ts) out (rfD [z0,z1] out data ts),Ji 0]):=by
 have ho:=(jaq hg).1
 have hl:=(jaq hg).2.2.1.1
 have fx:=fun m i=>xR_fq h2 m i
 have ck:=Called.cast (jfJ [z0,z1] out data Js Jo) (by rw[hg];first|done|rfl)
 refine refine2_t [z0,z1] data out ts (fun m i=>txq (xR ts m i)) (fun m j=>txq (evQ [z0,z1] out data (xR ts m 0) (xR ts m 1) 0 j)) (rfW [z0,z1] out data ts) rfl ht h2 ho hc ck (fun m i hm hi=>?_) (fun m hm=>evalq2 hg (fx m 0) (fx m 1)) (fun m j hm hj=>?_)
 ·obtain⟨n,hn⟩:∃ n,ts[i]? = some n:=⟨ts[i],jkb Jo⟩
  obtain⟨a,e1,e2,ha,e3,e4⟩:=xR_at (m:=m) h2 hn
  have hb:=h2 n (jkc hn)
  have c:=jbD (n:=a) (m:=(n:Int)-1) Jo Jo
  rw[e1,e3]
  rw[← e4] at c
  exact c
 ·rw[rfW2 ht]
  exact near_q (fq_ev2 hg (fx m 0) (fx m 1) j) Jd (ev_unit2 hg (xR ts m 0) (xR ts m 1) hj)
theorem pz_at {ns:List Nat}(hpos:∀ n∈ns,0<n){m:Nat}(hm:m<PR ns):pz ((nz ns).zip (ixl ns m))=(m:Int):=by
 have e:=jf4 ns hpos m 0
 rw[jjL hm,Int.zero_mul,Int.zero_add] at e
 exact e
def nxt (x:List Int)(i:Nat):List Int:=x.set i (x.getD i 0+1)
def atv (size data:List Int)(out:Int)(x:List Int)(j:Nat):Int:=(slot data (pz (size.zip x)*out) out).getD j 0
def sdM (size data:List Int)(out:Int)(ns:List Nat)(i j:Nat):Nat→Int
 | 0=>0
 | m+1=>if okIdx size (nxt (ixl ns m) i) then max (max (sdM size data out ns i j m) (atv size data out (ixl ns m) j-atv size data out (nxt (ixl ns m) i) j)) (atv size data out (nxt (ixl ns m) i) j-atv size data out (ixl ns m) j) else sdM size data out ns i j m
theorem pz_nxt:∀ (ns:List Nat) (x:List Int) (i:Nat),x.length=ns.length→i<ns.length→pz ((nz ns).zip (nxt x i))=pz ((nz ns).zip x)+(PR (ns.drop (i+1)):Nat)
 | [],x,i,_,hi=>absurd hi (Nat.not_lt_zero _)
 | n::r,[],i,h,_=>by simp at h
 | n::r,a::s,0,h,_=>by
  have h':s.length=r.length:=by simpa using h
  show pz ((nz (n::r)).zip ((a+1)::s))=_
  rw[je6 n r _ s h',je6 n r a s h']
  simp only[List.drop_succ_cons,jku,jj1,jj2]
  omega
 | n::r,a::s,i+1,h,hi=>by
  have h':s.length=r.length:=by simpa using h
  have ih:=pz_nxt r s i h' (by simpa using hi)
  have e:nxt (a::s) (i+1)=a::nxt s i:=by simp[nxt]
  rw[e,je6 n r a _ (by simp[nxt,h']),je6 n r a s h',ih]
  simp only[List.drop_succ_cons]
  omega
theorem ok_nxt {ns:List Nat}(hp:∀ n∈ns,0<n){m i n:Nat}(hn:ns[i]? = some n):okIdx (nz ns) (nxt (ixl ns m) i)=true ↔ ¬ m/PR (ns.drop (i+1))%n=n-1:=by
 have hi:i<ns.length:=(jkh.1 hn).1
 have hx:=jeh ns m i n hn
 have hm:=jjJ (m/PR (ns.drop (i+1))) (hp n (jkc hn))
 have e:nxt (ixl ns m) i=(ixl ns m).set i (((m/PR (ns.drop (i+1))%n:Nat):Int)+1):=by
  unfold nxt
  rw[jj8,hx]
  rfl
 rw[ja7,e]
 constructor
 ·intro h
  have g:=h.2 i n _ (by simp[nz,hn]) (by rw[List.getElem?_set_self (by rw[jar];exact hi)])
  omega
 ·intro h
  refine⟨by simp[nz,jar],fun k a x ha hx'=>?_⟩
  by_cases hk:k=i
  ·subst hk
   rw[List.getElem?_set_self (by rw[jar];exact hi)] at hx'
   simp only[nz,List.getElem?_map,hn,Option.map_some,Option.some.injEq] at ha hx'
   omega
  ·rw[List.getElem?_set_ne (fun h=>hk h.symm)] at hx'
   simp only[nz,List.getElem?_map,Option.map_eq_some_iff] at ha
   obtain⟨n',h3,rfl⟩:=ha
   exact jdm hp h3 hx'
theorem jip {data:List Int}{out s z:Int}{i i':Nat}(hi:i'≠i){w:Nat→List Int} : ∀ a r,(inS data out s z i' w a r).getD i 0=(w r).getD i 0
 | 0,r=>rfl
 | a+1,r=>by
  have h:=jip (data:=data) (out:=out) (s:=s) (z:=z) hi (w:=w) a r
  simp only[inS,stp]
  split
  ·exact h
  ·split
   ·rw[jj8,List.getElem?_set_ne hi,← jj8];exact h
   ·exact h
theorem outS_lo {zs data:List Int}{out:Int}{i r:Nat} : ∀ k,k+i<zs.length→(outS zs data out k r).getD i 0=0
 | 0,_=>jaR (l:=List.replicate zs.length (0:Int)) (p:=fun v=>v=0) (fun v hv=>List.eq_of_mem_replicate hv) rfl i
 | k+1,h=>(jip Jo _ _).trans (outS_lo k Jo)
theorem outS_hi {zs data:List Int}{out:Int}{i r:Nat} : ∀ d,d≤i→i<zs.length→(outS zs data out (zs.length-i+d) r).getD i 0=(outS zs data out (zs.length-i) r).getD i 0
 | 0,_,_=>rfl
 | d+1,h,hi=>by
  have e:zs.length-1-(zs.length-i+d)≠i:=Jo
  exact(jip e _ _).trans (outS_hi d Jo hi)
theorem jg0 {data:List Int}{out s z:Int}{i:Nat}{w:Nat→List Int}{r:Nat} : ∀ d a:Nat,(∀ b:Nat,a≤b→b<a+d→(b:Int)%out≠r)→inS data out s z i w (a+d) r=inS data out s z i w a r
 | 0,a,_=>rfl
 | d+1,a,h=>by
  have ih:=jg0 (data:=data) (out:=out) (s:=s) (z:=z) (i:=i) (w:=w) (r:=r) d a (fun b h1 h2=>h b h1 Jo)
  have e:inS data out s z i w (a+(d+1)) r=stp data out s z i (inS data out s z i w (a+d)) (a+d) r:=rfl
  rw[e]
  unfold stp
  rw[if_neg (h (a+d) Jo Jo)]
  split<;>exact ih
theorem jgT {c a b:Int}(hc:0≤c):c*max a b=max (c*a) (c*b):=by
 rcases Int.le_total a b with h|h
 ·rw[Int.max_eq_right h,Int.max_eq_right (jjU h hc)]
 ·rw[Int.max_eq_left h,Int.max_eq_left (jjU h hc)]
theorem strd_nz {ns:List Nat}{out:Int} : ∀ k,k≤ns.length→strd (nz ns) out k=out*(PR (ns.drop (ns.length-k)):Nat)
 | 0,_=>by simp[strd,PR]
 | k+1,h=>by
  have ih:=strd_nz (ns:=ns) (out:=out) k Jo
  have hl:(nz ns).length=ns.length:=by simp[nz]
  have e:ns.drop (ns.length-(k+1))=ns[ns.length-(k+1)]::ns.drop (ns.length-k):=by
   rw[jks (show ns.length-(k+1)<ns.length by omega),show ns.length-(k+1)+1=ns.length-k by omega]
  have g:(nz ns).getD ((nz ns).length-1-k) 0=(ns[ns.length-(k+1)]:Nat):=by
   rw[hl,show ns.length-1-k=ns.length-(k+1) by omega]
   simp[nz,jj8,show ns.length-(k+1)<ns.length by omega]
  simp only[strd]
  rw[ih,g,e,PR,jjQ,jjT,jjS ((PR (ns.drop (ns.length-k)):Nat):Int)]
theorem pass_at {ns:List Nat}{data:List Int}{out:Int}{i j n:Nat}{w:Nat→List Int}(hp:∀ n∈ns,2≤n∧n≤9)(ho:1≤out)(hl:(data.length:Int)=(PR ns:Nat)*out)(hj:j<out.toNat)(hn:ns[i]? = some n)
  (hw:∀ r,(w r).length=ns.length) (h0:(w j).getD i 0=0):∀ m,m≤PR ns→(inS data out (out*(PR (ns.drop (i+1)):Nat)) n i w (m*out.toNat) j).getD i 0=((n:Int)-1)*sdM (nz ns) data out ns i j m
 | 0,_=>by
  rw[Nat.zero_mul]
  show (w j).getD i 0=_
  rw[h0]
  simp[sdM]
 | m+1,hm=>by
  have hpos:∀ n∈ns,0<n:=fun n hn=>by have:=hp n hn;omega
  have hi:i<ns.length:=(jkh.1 hn).1
  have hnb:=hp n (jkc hn)
  have ih:=pass_at (data:=data) (w:=w) hp ho hl hj hn hw h0 m Jo
  obtain⟨o,rfl⟩:∃ o:Nat,out=o:=⟨out.toNat,Jo⟩
  rw[jjF] at *
  have md:∀ c:Nat,c<o→((m*o+c:Nat):Int)%(o:Int)=c:=fun c hc=>by
   have:=(dv_at (q:=(m:Int)) (o:=(o:Int)) (r:=(c:Int)) Jo Jo).2
   push_cast
   exact this
  obtain⟨s,hs⟩:∃ s:Int,s=(o:Int)*(PR (ns.drop (i+1)):Nat):=⟨_,rfl⟩
  rw[← hs] at ih ⊢
  have e1:inS data o s n i w ((m+1)*o) j=inS data o s n i w (m*o+j+1) j:=by
   have:=jg0 (data:=data) (out:=o) (s:=s) (z:=n) (i:=i) (w:=w) (r:=j) (o-1-j) (m*o+j+1) (fun b h1 h2=>by
    have:=md (b-m*o) Jo
    rw[show m*o+(b-m*o)=b by omega] at this
    omega)
   rw[← this,Nat.add_mul]
   congr 1
   omega
  have e2:inS data o s n i w (m*o+j) j=inS data o s n i w (m*o) j:=jg0 (data:=data) (out:=o) (s:=s) (z:=n) (i:=i) (w:=w) (r:=j) j (m*o) (fun b h1 h2=>by
    have:=md (b-m*o) Jo
    rw[show m*o+(b-m*o)=b by omega] at this
    omega)
  rw[e1]
  show (stp data o s n i (inS data o s n i w (m*o+j)) (m*o+j) j).getD i 0=_
  have hlen:=jiq (data:=data) (out:=(o:Int)) (s:=s) (z:=(n:Int)) (i:=i) hw (m*o) j
  obtain⟨t,ht⟩:∃ t,PR (ns.drop (i+1))=t:=⟨_,rfl⟩
  have hdv:((m*o+j:Nat):Int)/s=((m/t:Nat):Int):=by
   have:=(dv_at (q:=(m:Int)) (o:=(o:Int)) (r:=(j:Int)) Jo Jo).1
   rw[hs,ht,dv_mul Jo]
   push_cast
   rw[this]
  have ok:=ok_nxt hpos (m:=m) hn
  rw[ht] at ok
  have hmn:=jjJ (m/t) (show 0<n by omega)
  unfold stp
  rw[hdv,md j hj,if_pos rfl,e2]
  simp only[sdM]
  by_cases hc:m/t%n=n-1
  ·rw[if_pos (by rw[← Int.natCast_emod,hc];omega),if_neg (fun h=>ok.1 h hc)]
   exact ih
  ·rw[if_neg (by rw[← Int.natCast_emod];omega),if_pos (ok.2 hc)]
   have pn:=pz_nxt ns (ixl ns m) i (jar ns m) hi
   rw[pz_at hpos Jo,ht] at pn
   have pb:=(ixl_pz ns _ (ok.2 hc)).1
   rw[pn] at pb
   have N:=hl
   obtain⟨a,a1,a2,a3,a4,a5⟩:=pos_at (q:=(m:Int)) (r:=j) ho hl Jo Jo
   obtain⟨b,b1,b2,b3,b4,b5⟩:=pos_at (q:=(m:Int)+(t:Int)) (r:=j) ho hl Jo Jo
   have ea:a=m*o+j:=by
    have:((m*o+j:Nat):Int)=a:=by rw[a1];push_cast;rfl
    omega
   have eb:(b:Int)=((m*o+j:Nat):Int)+s:=by
    rw[b1,hs,ht,jj1,jjS (t:Int)]
    push_cast
    omega
   have va:atv (nz ns) data o (ixl ns m) j=data.getD (m*o+j) 0:=by
    unfold atv
    rw[pz_at hpos Jo,a5,ea]
   have vb:atv (nz ns) data o (nxt (ixl ns m) i) j=data.getD b 0:=by
    unfold atv
    rw[pn,b5]
   rw[jdW _ i i _ Jo,if_pos rfl,ih,va,vb,jgT Jo,jgT Jo]
   unfold grd
   rw[← eb,jjF,jgT Jo]
   omega
theorem steep_is {ns:List Nat}{data:List Int}{out:Int}{i j:Nat}(hp:∀ n∈ns,2≤n∧n≤9)(ho:1≤out)(hl:(data.length:Int)=(PR ns:Nat)*out)(hj:j<out.toNat)(hi:i<ns.length) :
  (outS (nz ns) data out ns.length j).getD i 0=sdM (nz ns) data out ns i j (PR ns)*((nz ns).getD i 0-1):=by
 have hn:ns[i]? = some ns[i]:=jkb hi
 have hz:(nz ns).length=ns.length:=by simp[nz]
 have en:(nz ns).getD i 0=(ns[i]:Nat):=by simp[nz,jj8,hi]
 have u:=outS_hi (zs:=nz ns) (data:=data) (out:=out) (r:=j) i (jjG i) Jo
 rw[hz,show ns.length-i+i=ns.length by omega] at u
 have e:outS (nz ns) data out (ns.length-i)=inS data out (strd (nz ns) out (ns.length-1-i)) ((nz ns).getD i 0) i (outS (nz ns) data out (ns.length-1-i)) data.length:=by
  rw[show ns.length-i=(ns.length-1-i)+1 by omega,outS,hz,show ns.length-1-(ns.length-1-i)=i by omega]
 have st:=strd_nz (ns:=ns) (out:=out) (ns.length-1-i) Jo
 rw[show ns.length-(ns.length-1-i)=i+1 by omega] at st
 have lo:=outS_lo (zs:=nz ns) (data:=data) (out:=out) (i:=i) (r:=j) (ns.length-1-i) Jo
 have p:=pass_at (w:=outS (nz ns) data out (ns.length-1-i)) hp ho hl hj hn (fun r=>(jeE _ r).trans hz) lo (PR ns) (jjG _)
 have el:PR ns*out.toNat=data.length:=by
  have:((PR ns*out.toNat:Nat):Int)=data.length:=by
   rw[jjQ,hl,show ((out.toNat:Nat):Int)=out by omega]
  omega
 rw[u,e,st,en,← el,p,jjS]
theorem sdM_bd {size data:List Int}{out:Int}{ns:List Nat}{i j:Nat}(hv:∀ v∈data,0≤v∧v≤65535):∀ m,0≤sdM size data out ns i j m∧sdM size data out ns i j m≤65535
 | 0=>by simp[sdM]
 | m+1=>by
  have ih:=sdM_bd (size:=size) (out:=out) (ns:=ns) (i:=i) (j:=j) hv m
  have a:∀ x,0≤atv size data out x j∧atv size data out x j≤65535:=fun x=>jaS hv _ _ _
  have a1:=a (ixl ns m)
  have a2:=a (nxt (ixl ns m) i)
  simp only[sdM]
  split<;>omega
theorem jjn:type_of% @jjF∧type_of% @jjD∧type_of% @jjC:=⟨@jjF,@jjD,@jjC⟩
theorem jjm:type_of% @jjF∧type_of% @jku ∧ type_of% @jkk ∧ type_of% @jjD∧type_of% @jjC:=⟨@jjF,@jku,@jkk,@jjD,@jjC⟩
theorem rsteep_c {ns:List Nat}{out:Int}{data:List Int}{i j:Nat}(hg:jaf (nz ns) out data=true)(hi:i<ns.length)(hj:j<out.toNat) :
  Cl 59 [.agg [Jj (nz ns),Ji out,Jj data],Ji j,Ji i] (Ji (sdM (nz ns) data out ns i j (PR ns)*((nz ns).getD i 0-1))):=by
 have hG:=jaT hg
 have og:=jaq hg
 have hlen:(nz ns).length=ns.length:=by simp[nz]
 have h2:∀ n∈ns,2≤n∧n≤9:=fun n hn=>by
  have:=og.2.1 (n:Int) (by unfold nz;exact List.mem_map_of_mem hn)
  omega
 have hpos:∀ n∈ns,0<n:=fun n hn=>by have:=h2 n hn;omega
 have l4:1≤ns.length∧ns.length≤4:=Jo
 have hp:=jdq hG.2.2.2.2.1
 have pc:Cl 62 [Jj (nz ns)] (Ji (PR ns:Nat)):=by
  have c:=jgL (nz ns) (fun k _=>(hp k).2.2 hG.2.1) Jo
  rw[jcV] at c
  exact c
 have hPR:PR ns≤6561:=PR_le l4.2 h2
 have oki:∀ m,okIdx (nz ns) (ixl ns m)=true:=fun m=>ja7.2 ⟨by rw[jar,hlen],fun k n x hn hx=>by
  simp only[nz,List.getElem?_map,Option.map_eq_some_iff] at hn
  obtain⟨n',h3,rfl⟩:=hn
  exact jdm hpos h3 hx⟩
 have sb:=sdM_bd (size:=nz ns) (out:=out) (ns:=ns) (i:=i) (j:=j) og.2.2.2
 have zi:2≤(nz ns).getD i 0∧(nz ns).getD i 0≤9:=by
  rw[jj8,jkb Jo]
  exact og.2.1 _ (List.getElem_mem _)
 have il:(nz ns).length=ns.length:=hlen
 refine V.en tbOk Tryz.func59 ?_
 refine V.r0 jjn ?_
 refine jad ((0:Nat)) (fun k=>k≤PR ns) (fun k=>PR ns-k) (fun k=>[(8,Ji k),(7,Ji (sdM (nz ns) data out ns i j k))]) (fun k=>[]) ?_ ?_ ?_
 ·exact V.wk
 ·exact jjx _
 intro m hm
 have sm:=sb m
 have sm1:=sb (m+1)
 have hmc:((m:Int)+1)=((m+1:Nat):Int):=Jo
 by_cases hmn:m<PR ns
 ·have hlt:decide ((m:Int)<(PR ns:Nat))=true:=decide_eq_true Jo
  have hil:=jar ns m
  have xb:0≤(ixl ns m).getD i 0∧(ixl ns m).getD i 0≤8:=by
   obtain⟨n,hn⟩:∃ n,ns[i]? = some n:=⟨_,jkb hi⟩
   have hx:=jeh ns m i n hn
   have b:=jdm hpos hn hx
   have:=h2 n (jkc hn)
   rw[jj8,hx]
   simp only[Option.getD_some]
   omega
  refine V.r1 (V.a2 jjn hlt) pc ?_
  refine V.il Tryz.func63 ?_
  refine V.r0 (V.a2 jjn hlen) ?_
  have e0:List.replicate ns.length (0:Int)=List.replicate ns.length 0++(ixl ns m).drop ns.length:=by
   rw[jkq Jo,List.append_nil]
  have e1:(m:Int)=((m/PR (ns.drop ns.length):Nat):Int):=by simp[PR]
  refine jad (ns.length) (fun k=>k≤ns.length) (fun k=>k) (fun k=>[(1,Ji ((m/PR (ns.drop k):Nat):Int)),(6,Ji ((k:Int)-1))]) (fun k=>[(83,.arr .i64 (List.replicate k 0++(ixl ns m).drop k))]) ?_ ?_ ?_
  ·rw[← e0,← e1]
   exact V.wk
  ·exact jjG _
  intro p hpl
  (conv=>whnf)
  refine V.st ?_
  refine V.br (fun hq=>?_) (fun hq=>?_)
  ·have hp0:0<p:=by simp at hq;omega
   obtain⟨p,rfl⟩:∃ q,p=q+1:=⟨p-1,Jo⟩
   have hp1:p<ns.length:=Jo
   obtain⟨n,hn⟩:∃ n,ns[p]? = some n:=⟨_,jkb hp1⟩
   have hn0:=h2 n (jkc hn)
   have en:(nz ns).getD p 0=n:=by simp[nz,jj8,hn]
   have e2:(((p+1:Nat):Int)-1)=(p:Int):=Jo
   have hst:=jge (m:=m) hn hp1
   have e3:((m/PR (ns.drop (p+1)):Nat):Int)%(n:Int)=((m/PR (ns.drop (p+1))%n:Nat):Int):=Js
   have e4:((m/PR (ns.drop (p+1)):Nat):Int)/(n:Int)=((m/PR (ns.drop p):Nat):Int):=by rw[← hst.2];simp
   have hl2:(List.replicate (p+1) (0:Int)++(ixl ns m).drop (p+1)).length=ns.length:=by simp[jar];omega
   have hl3:m/PR (ns.drop (p+1))≤m:=jjX _ _
   generalize hqq:m/PR (ns.drop (p+1))=q at *
   refine V.r0 (V.a4 e2 @en @jjF @jjC) ?_
   rw[e3,hst.1]
   refine V.st ?_
   rw[e4]
   exact⟨p,Jo,Jo,V.wk⟩
  ·have hp0:p=0:=by simp at hq;omega
   subst hp0
   have h0:(List.replicate 0 (0:Int)++(ixl ns m).drop 0)=ixl ns m:=Js
   rw[h0]
   have tk:List.take ns.length (ixl ns m)=ixl ns m:=jko Jo
   obtain⟨pb,pd⟩:=jdJ hg (oki m)
   have pl:Cl 91 [.agg [Jj (nz ns),Ji out,Jj data],Jj (List.take ns.length (ixl ns m))] (.tup [Ji (pz ((nz ns).zip (ixl ns m))*out),Ji 0]):=by
    have r:=jc8 (nz ns) out data (ixl ns m) Jo Jo Jo
    rw[hg,oki m] at r
    rw[tk]
    exact r
   obtain⟨u,eu⟩:∃ u,slot data (pz ((nz ns).zip (ixl ns m))*out) out=u:=⟨_,rfl⟩
   have pU:=jcN (data:=data) pb (show 0≤out by omega)
   rw[eu] at pU
   have uv:∀ k,0≤u.getD k 0∧u.getD k 0≤65535:=fun k=>by rw[← eu];exact jaS og.2.2.2 _ _ k
   have ul:u.length=out.toNat:=by rw[← eu];exact ja6 hg (oki m)
   have ea:atv (nz ns) data out (ixl ns m) j=u.getD j 0:=by rw[← eu];rfl
   generalize pz ((nz ns).zip (ixl ns m))*out=P at *
   refine V.r0 jjn ?_
   refine .inl ?_
   (conv=>whnf)
   refine⟨100,_,_,⟨Tryz.func44,rfl,rfl,jjw rfl⟩,?_⟩
   refine V.r0 jjm ?_
   refine .len ?_
   (conv=>whnf)
   refine⟨83,?_⟩
   (conv=>whnf)
   refine jaa (r:=?_) ?_ ?_
   rotate_left
   ·exact pl
   refine V.r0 (V.a2 jjm pU) ?_
   have nx:(ixl ns m).set i ((ixl ns m).getD i 0+1)=nxt (ixl ns m) i:=rfl
   rw[nx]
   have nl:(nxt (ixl ns m) i).length=ns.length:=by unfold nxt;rw[jkw];omega
   have tk2:List.take ns.length (nxt (ixl ns m) i)=nxt (ixl ns m) i:=jko Jo
   cases ok2:okIdx (nz ns) (nxt (ixl ns m) i) with
   | true=>
    obtain⟨pb2,pd2⟩:=jdJ hg ok2
    have pl2:Cl 91 [.agg [Jj (nz ns),Ji out,Jj data],Jj (List.take ns.length (nxt (ixl ns m) i))] (.tup [Ji (pz ((nz ns).zip (nxt (ixl ns m) i))*out),Ji 0]):=by
     have r:=jc8 (nz ns) out data (nxt (ixl ns m) i) Jo Jo Jo
     rw[hg,ok2] at r
     rw[tk2]
     exact r
    obtain⟨w,ew⟩:∃ w,slot data (pz ((nz ns).zip (nxt (ixl ns m) i))*out) out=w:=⟨_,rfl⟩
    have pW:=jcN (data:=data) pb2 (show 0≤out by omega)
    rw[ew] at pW
    have wv:∀ k,0≤w.getD k 0∧w.getD k 0≤65535:=fun k=>by rw[← ew];exact jaS og.2.2.2 _ _ k
    have wl:w.length=out.toNat:=by rw[← ew];exact ja6 hg ok2
    have eb:atv (nz ns) data out (nxt (ixl ns m) i) j=w.getD j 0:=by rw[← ew];rfl
    generalize pz ((nz ns).zip (nxt (ixl ns m) i))*out=Q at *
    have es:sdM (nz ns) data out ns i j (m+1)=max (max (sdM (nz ns) data out ns i j m) (u.getD j 0-w.getD j 0)) (w.getD j 0-u.getD j 0):=by
     simp only[sdM]
     rw[if_pos ok2,ea,eb]
    have uj:=uv j
    have wj:=wv j
    refine .inl ?_
    (conv=>whnf)
    refine⟨200,_,_,⟨Tryz.func44,rfl,rfl,jjw rfl⟩,?_⟩
    refine V.r0 jjm ?_
    refine .len ?_
    (conv=>whnf)
    refine⟨83,?_⟩
    (conv=>whnf)
    refine jaa (r:=?_) ?_ ?_
    rotate_left
    ·exact pl2
    refine V.r0 (V.a2 jjm pW) ?_
    refine⟨(V.tk [0,1,2,3,4,5,6,7,8,9,10,11,12,13,14,15,16,17,18,19] (V.e1 20 [] .done)),[],V.pok,.go (jac ?_)⟩
    refine V.r0 (V.a2 jjn hmc) ?_
    refine⟨m+1,Jo,Jo,?_⟩
    try dsimp only
    rw[es]
    exact V.wk
   | false=>
    have pl2:Cl 91 [.agg [Jj (nz ns),Ji out,Jj data],Jj (List.take ns.length (nxt (ixl ns m) i))] (.tup [Ji 0,Ji 2]):=by
     have r:=jc8 (nz ns) out data (nxt (ixl ns m) i) Jo Jo Jo
     rw[hg,ok2] at r
     rw[tk2]
     exact r
    have es:sdM (nz ns) data out ns i j (m+1)=sdM (nz ns) data out ns i j m:=by
     simp only[sdM]
     rw[if_neg (by rw[ok2];decide)]
    refine .inl ?_
    (conv=>whnf)
    refine⟨200,_,_,⟨Tryz.func44,rfl,rfl,jjw rfl⟩,?_⟩
    refine V.r0 (V.a2 jjm hmc) ?_
    refine .len ?_
    (conv=>whnf)
    refine⟨83,?_⟩
    (conv=>whnf)
    refine jaa (r:=?_) ?_ ?_
    rotate_left
    ·exact pl2
    refine V.r0 (V.a2 jjm hmc) ?_
    refine⟨m+1,Jo,Jo,?_⟩
    try dsimp only
    rw[es]
    exact V.wk
 ·have hlf:decide ((m:Int)<(PR ns:Nat))=false:=decide_eq_false Jo
  obtain rfl:m=PR ns:=Jo
  have sp:sdM (nz ns) data out ns i j (PR ns)*((nz ns).getD i 0-1)≤65535*8:=Int.mul_le_mul sm.2 Jo Jo Jd
  have sp0:0≤sdM (nz ns) data out ns i j (PR ns)*((nz ns).getD i 0-1):=jjB sm.1 Jo
  refine V.r1 (V.a2 jjn hlf) pc ?_
  exact Fin.of rfl
end Go.Proofs.YtbnghipgicmpdaaGreatDoor
end
