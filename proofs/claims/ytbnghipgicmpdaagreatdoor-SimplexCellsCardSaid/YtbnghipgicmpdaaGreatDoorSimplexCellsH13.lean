/- What functions of the program answer at given values, part 13. Conditions: those that each theorem names. -/
import Derived.Test.YtbnghipgicmpdaaGreatDoorSimplexCellsH10
import Derived.Test.YtbnghipgicmpdaaGreatDoorSimplexCellsH8
import Derived.Test.YtbnghipgicmpdaaGreatDoorSimplexCellsH4
import Derived.Test.YtbnghipgicmpdaaGreatDoorSimplexCellsH12
import Derived.Test.YtbnghipgicmpdaaGreatDoorSimplexCellsH11
set_option linter.unusedSimpArgs false
set_option linter.unusedVariables false
set_option maxHeartbeats 8000000
set_option maxRecDepth 100000
section
namespace Go.Proofs.YtbnghipgicmpdaaGreatDoor
open Go Go.V Go.Nb
def preI (k:Nat)(l:List D):List D:=l.take k++List.replicate (l.length-k) (.int .i64 0)
theorem jiu:type_of% @jiX∧type_of% @tn0∧type_of% @tn1∧type_of% @tn2∧type_of% @tn3∧type_of% @xt4:=⟨@jiX,@tn0,@tn1,@tn2,@tn3,@xt4⟩
theorem blist2a {F:Nat}{e0 n0:Nat}{f0:Nat→List D}(T:Nat→Int×Int)(c0:Cl F (.int .i64 0::[.ref [.slf e0 n0 f0]]) (.tup [.agg [.int .i64 (T 0).1,.int .i64 (T 0).2],.int .i64 0]))(c1:Cl F (.int .i64 1::[.ref [.slf e0 n0 f0]]) (.tup [.agg [.int .i64 (T 1).1,.int .i64 (T 1).2],.int .i64 0])) :
  Cl 48 [.int .i64 2,.fn F [] [.ref [.slf e0 n0 f0]]] (.tup [V.sl2 2 [.int .i64 (T 0).1,.int .i64 (T 0).2,.int .i64 (T 1).1,.int .i64 (T 1).2],.int .i64 0]):=by
 refine V.en tbOk Tryz.func48 ?_
 refine V.r0 @jiX ?_
 refine jad (0) (fun k=>k≤2) (fun k=>2-k) (fun k=>[(14,.int .i64 k)]) (fun k=>[(11,.box (preI (2*k) [.int .i64 (T 0).1,.int .i64 (T 0).2,.int .i64 (T 1).1,.int .i64 (T 1).2]))]) ?_ ?_ ?_
 ·exact V.wk
 ·exact jiT _
 intro k hk
 have hk4:k=0∨k=1∨k=2:=by omega
 rcases hk4 with e|e|e
 all_goals subst e
 ·simp only[k0]
  refine V.r1 jiu c0 ?_
  exact⟨1,by omega,by omega,V.wk⟩
 ·simp only[k1]
  refine V.r1 jiu c1 ?_
  exact⟨2,by omega,by omega,V.wk⟩
 ·simp only[k2]
  refine V.r0 @jiX ?_
  exact Fin.of rfl
theorem blist4b {F:Nat}{p0 p1 p2 p3 q0 q1 q2 q3:List UInt8}(T:Nat→Int×Int)(c0:Cl F (.int .i64 0::[.ref [.str p0,.str q0],.ref [.str p1,.str q1],.ref [.str p2,.str q2],.ref [.str p3,.str q3]]) (.tup [.agg [.int .i64 (T 0).1,.int .i64 (T 0).2],.int .i64 0]))(c1:Cl F (.int .i64 1::[.ref [.str p0,.str q0],.ref [.str p1,.str q1],.ref [.str p2,.str q2],.ref [.str p3,.str q3]]) (.tup [.agg [.int .i64 (T 1).1,.int .i64 (T 1).2],.int .i64 0]))(c2:Cl F (.int .i64 2::[.ref [.str p0,.str q0],.ref [.str p1,.str q1],.ref [.str p2,.str q2],.ref [.str p3,.str q3]]) (.tup [.agg [.int .i64 (T 2).1,.int .i64 (T 2).2],.int .i64 0]))(c3:Cl F (.int .i64 3::[.ref [.str p0,.str q0],.ref [.str p1,.str q1],.ref [.str p2,.str q2],.ref [.str p3,.str q3]]) (.tup [.agg [.int .i64 (T 3).1,.int .i64 (T 3).2],.int .i64 0])) :
  Cl 48 [.int .i64 4,.fn F [] [.ref [.str p0,.str q0],.ref [.str p1,.str q1],.ref [.str p2,.str q2],.ref [.str p3,.str q3]]] (.tup [V.sl2 4 [.int .i64 (T 0).1,.int .i64 (T 0).2,.int .i64 (T 1).1,.int .i64 (T 1).2,.int .i64 (T 2).1,.int .i64 (T 2).2,.int .i64 (T 3).1,.int .i64 (T 3).2],.int .i64 0]):=by
 refine V.en tbOk Tryz.func48 ?_
 refine V.r0 @jiX ?_
 refine jad (0) (fun k=>k≤4) (fun k=>4-k) (fun k=>[(14,.int .i64 k)]) (fun k=>[(11,.box (preI (2*k) [.int .i64 (T 0).1,.int .i64 (T 0).2,.int .i64 (T 1).1,.int .i64 (T 1).2,.int .i64 (T 2).1,.int .i64 (T 2).2,.int .i64 (T 3).1,.int .i64 (T 3).2]))]) ?_ ?_ ?_
 ·exact V.wk
 ·exact jiT _
 intro k hk
 have hk4:k=0∨k=1∨k=2∨k=3∨k=4:=by omega
 rcases hk4 with e|e|e|e|e
 all_goals subst e
 ·simp only[k0]
  refine V.r1 jiu c0 ?_
  exact⟨1,by omega,by omega,V.wk⟩
 ·simp only[k1]
  refine V.r1 jiu c1 ?_
  exact⟨2,by omega,by omega,V.wk⟩
 ·simp only[k2]
  refine V.r1 jiu c2 ?_
  exact⟨3,by omega,by omega,V.wk⟩
 ·simp only[k3]
  refine V.r1 jiu c3 ?_
  exact⟨4,by omega,by omega,V.wk⟩
 ·simp only[xk4]
  refine V.r0 @jiX ?_
  exact Fin.of rfl
theorem blist1c {F:Nat}{e0 n0 e1 n1 e2 n2:Nat}{f0 f1 f2:Nat→List D}{g0 g1:List Int}(T:Nat→Int×Int)(c0:Cl F (.int .i64 0::[.ref [.slf e0 n0 f0],.ref [.slf e1 n1 f1],.ref [.slf e2 n2 f2],.ref [.ints .i64 g0],.ref [.ints .i64 g1]]) (.tup [.agg [.int .i64 (T 0).1,.int .i64 (T 0).2],.int .i64 0])) :
  Cl 48 [.int .i64 1,.fn F [] [.ref [.slf e0 n0 f0],.ref [.slf e1 n1 f1],.ref [.slf e2 n2 f2],.ref [.ints .i64 g0],.ref [.ints .i64 g1]]] (.tup [V.sl2 1 [.int .i64 (T 0).1,.int .i64 (T 0).2],.int .i64 0]):=by
 refine V.en tbOk Tryz.func48 ?_
 refine V.r0 @jiX ?_
 refine jad (0) (fun k=>k≤1) (fun k=>1-k) (fun k=>[(14,.int .i64 k)]) (fun k=>[(11,.box (preI (2*k) [.int .i64 (T 0).1,.int .i64 (T 0).2]))]) ?_ ?_ ?_
 ·exact V.wk
 ·exact jiT _
 intro k hk
 have hk4:k=0∨k=1:=by omega
 rcases hk4 with e|e
 all_goals subst e
 ·simp only[k0]
  refine V.r1 jiu c0 ?_
  exact⟨1,by omega,by omega,V.wk⟩
 ·simp only[k1]
  refine V.r0 @jiX ?_
  exact Fin.of rfl
theorem conf1_0 (p0 p1 p2 p3 q0 q1 q2 q3:List UInt8)(b:Int×Int)(c:Cl 107 [.agg [.str p0,.str q0]] (.tup [.agg [.int .i64 b.1,.int .i64 b.2],.int .i64 0])):Cl 106 (.int .i64 0::[.ref [.str p0,.str q0],.ref [.str p1,.str q1],.ref [.str p2,.str q2],.ref [.str p3,.str q3]]) (.tup [.agg [.int .i64 b.1,.int .i64 b.2],.int .i64 0]):=by
 refine V.en tbOk Tryz.func106 ?_
 refine V.r1 jiu c ?_
 exact Fin.of rfl
theorem conf1_1 (p0 p1 p2 p3 q0 q1 q2 q3:List UInt8)(b:Int×Int)(c:Cl 107 [.agg [.str p1,.str q1]] (.tup [.agg [.int .i64 b.1,.int .i64 b.2],.int .i64 0])):Cl 106 (.int .i64 1::[.ref [.str p0,.str q0],.ref [.str p1,.str q1],.ref [.str p2,.str q2],.ref [.str p3,.str q3]]) (.tup [.agg [.int .i64 b.1,.int .i64 b.2],.int .i64 0]):=by
 refine V.en tbOk Tryz.func106 ?_
 refine V.r1 jiu c ?_
 exact Fin.of rfl
theorem conf1_2 (p0 p1 p2 p3 q0 q1 q2 q3:List UInt8)(b:Int×Int)(c:Cl 107 [.agg [.str p2,.str q2]] (.tup [.agg [.int .i64 b.1,.int .i64 b.2],.int .i64 0])):Cl 106 (.int .i64 2::[.ref [.str p0,.str q0],.ref [.str p1,.str q1],.ref [.str p2,.str q2],.ref [.str p3,.str q3]]) (.tup [.agg [.int .i64 b.1,.int .i64 b.2],.int .i64 0]):=by
 refine V.en tbOk Tryz.func106 ?_
 refine V.r1 jiu c ?_
 exact Fin.of rfl
theorem conf1_3 (p0 p1 p2 p3 q0 q1 q2 q3:List UInt8)(b:Int×Int)(c:Cl 107 [.agg [.str p3,.str q3]] (.tup [.agg [.int .i64 b.1,.int .i64 b.2],.int .i64 0])):Cl 106 (.int .i64 3::[.ref [.str p0,.str q0],.ref [.str p1,.str q1],.ref [.str p2,.str q2],.ref [.str p3,.str q3]]) (.tup [.agg [.int .i64 b.1,.int .i64 b.2],.int .i64 0]):=by
 refine V.en tbOk Tryz.func106 ?_
 refine V.r1 jiu c ?_
 exact Fin.of rfl
theorem bands1_20 (X:Nat→Int×Int)(b:Int×Int)(c:Cl 50 [.agg [.int .i64 (X 0).1,.int .i64 (X 0).2],.int .i64 0,.int .i64 1000000000000] (.tup [.agg [.int .i64 b.1,.int .i64 b.2],.int .i64 0])):Cl 49 (.int .i64 0::[.ref [V.sl2 2 [.int .i64 (X 0).1,.int .i64 (X 0).2,.int .i64 (X 1).1,.int .i64 (X 1).2]]]) (.tup [.agg [.int .i64 b.1,.int .i64 b.2],.int .i64 0]):=by
 refine V.en tbOk Tryz.func49 ?_
 refine V.r1 jiu c ?_
 exact Fin.of rfl
theorem bands1_21 (X:Nat→Int×Int)(b:Int×Int)(c:Cl 50 [.agg [.int .i64 (X 1).1,.int .i64 (X 1).2],.int .i64 0,.int .i64 1000000000000] (.tup [.agg [.int .i64 b.1,.int .i64 b.2],.int .i64 0])):Cl 49 (.int .i64 1::[.ref [V.sl2 2 [.int .i64 (X 0).1,.int .i64 (X 0).2,.int .i64 (X 1).1,.int .i64 (X 1).2]]]) (.tup [.agg [.int .i64 b.1,.int .i64 b.2],.int .i64 0]):=by
 refine V.en tbOk Tryz.func49 ?_
 refine V.r1 jiu c ?_
 exact Fin.of rfl
end Go.Proofs.YtbnghipgicmpdaaGreatDoor
end
section
namespace Go.V
open Go Go.RowKit
def Env.alias (E:Env)(i j:Nat):Env:=⟨fun x=>if x=j then E.blk i else E.blk x,fun x=>if x=j then E.siz i else E.siz x,fun x=>if x=j then E.kn i else E.kn x,fun x=>if x=j then E.real i else E.real x,fun x=>if x=j then E.lpr i else E.lpr x⟩
theorem Env.off_alias (E:Env)(i j:Nat):E.off (E.alias i j) j:=fun k hk=>by simp[Env.alias,hk]
section
variable {cx : Cx} {E : Env} {h : Pub} {a : Act} {w : World} {L : Sl} {H : Hp}
theorem Sat.renArr (S:Sat cx E h a w L H){i j:Nat}{k:IntKind}{xs:List Int}(hij:i≠j)(hoff':cx.off≤j)(hi:lookH H i=some (.arr k xs)) :
  Sat cx (E.alias i j) h a w (purge j L) ((j,.arr k xs)::(i,.gone)::jaI j H):=by
 have hoff:=E.off_alias i j
 have ej:(E.alias i j).blk j=E.blk i∧(E.alias i j).siz j=E.siz i∧(E.alias i j).kn j=E.kn i∧(E.alias i j).real j=E.real i:=by simp[Env.alias]
 have ne:∀ x,x≠j→(E.alias i j).blk x=E.blk x∧(E.alias i j).real x=E.real x:=fun x hx=>⟨(hoff x hx).1,(hoff x hx).2.2.2.1⟩
 have live:∀ x c',x≠j→lookH ((j,.arr k xs)::(i,.gone)::jaI j H) x=some c'→c'.live=true→x≠i ∧ ∃ c0,lookH H x=some c0∧c'=jb5 j c0∧c0.live=true:=by
  intro x c' hx hc' hl
  rw[jag,if_neg (Ne.symm hx),jag] at hc'
  by_cases hxi:i=x
  ·rw[if_pos hxi] at hc';cases hc';cases hl
  ·rw[if_neg hxi] at hc'
   obtain⟨c0,h1,h2⟩:=jbj hc'
   exact⟨Ne.symm hxi,c0,h1,h2,by rw[h2,jbi] at hl;exact hl⟩
 have atj:∀ c',lookH ((j,.arr k xs)::(i,.gone)::jaI j H) j=some c'→c' = .arr k xs:=fun c' hc'=>by
  rw[jag,if_pos rfl] at hc';cases hc';rfl
 refine { knows:=?_,mem:=?_,agree:=S.agree,since:=S.since,low:=fun x hx=>je2 S.low hoff hoff' x hx,side:=S.side }
 ·exact fun t=>jbU hoff (S.knows t)
 ·refine { ok:=?_,base:=?_,unpub:=?_,inj:=?_ }
  ·intro x c' hc'
   by_cases hx:x=j
   ·subst hx
    rw[atj c' hc']
    have:=S.mem.ok i _ hi
    simp only[ChunkOk] at this ⊢
    rw[ej.1,ej.2.1,ej.2.2.1,ej.2.2.2]
    exact this
   ·cases hl:c'.live with
    | false=>cases c'<;>first|trivial|(simp[Chunk.live] at hl)
    | true=>
     obtain⟨_,c0,h1,rfl,hl'⟩:=live x c' hx hc' hl
     exact ChunkOk.env hoff hx (S.mem.ok x _ h1)
  ·intro x c' hc' hl hr
   by_cases hx:x=j
   ·subst hx
    rw[ej.2.2.2] at hr
    rw[ej.1]
    exact S.mem.base i _ hi rfl hr
   ·obtain⟨_,c0,h1,rfl,hl'⟩:=live x c' hx hc' hl
    rw[(ne x hx).2] at hr
    rw[(ne x hx).1]
    exact S.mem.base x _ h1 hl' hr
  ·intro x c' hc' hl hr o
   by_cases hx:x=j
   ·subst hx
    rw[ej.2.2.2] at hr
    rw[ej.1]
    exact S.mem.unpub i _ hi rfl hr o
   ·obtain⟨_,c0,h1,rfl,hl'⟩:=live x c' hx hc' hl
    rw[(ne x hx).2] at hr
    rw[(ne x hx).1]
    exact S.mem.unpub x _ h1 hl' hr o
  ·intro x y c1 c2 hxy h1 h2 l1 l2 r1 r2
   by_cases hx:x=j
   ·subst hx
    obtain⟨hyi,c0',g2,rfl,l2'⟩:=live y c2 (Ne.symm hxy) h2 l2
    rw[ej.2.2.2] at r1
    rw[(ne y (Ne.symm hxy)).2] at r2
    rw[ej.1,(ne y (Ne.symm hxy)).1]
    exact S.mem.inj i y _ _ (Ne.symm hyi) hi g2 rfl l2' r1 r2
   ·obtain⟨hxi,c0,g1,rfl,l1'⟩:=live x c1 hx h1 l1
    rw[(ne x hx).2] at r1
    rw[(ne x hx).1]
    by_cases hy:y=j
    ·subst hy
     rw[ej.2.2.2] at r2
     rw[ej.1]
     exact S.mem.inj x i _ _ hxi g1 hi l1' rfl r1 r2
    ·obtain⟨hyi,c0',g2,rfl,l2'⟩:=live y c2 hy h2 l2
     rw[(ne y hy).2] at r2
     rw[(ne y hy).1]
     exact S.mem.inj x y _ _ hxy g1 g2 l1' l2' r1 r2
end
theorem Wk.renBox {off:Nat}{L:Sl}{H:Hp}{L2:Sl}{H2:Hp}(i j b p n:Nat){k:IntKind}{xs:List Int}{ds:List D}(hij:i≠j)(hb:b≠i∧b≠j)(hoff:off≤j)(hi:lookH H i=some (.arr k xs))(hj:lookH (jaI j H) b=some (.box ds))(hp:ds[p]? = some (.osl i 0 n))
  (h:Wk off (purge j L) ((b,.box (ds.set p (.osl j 0 n)))::(j,.arr k xs)::(i,.gone)::jaI j H) L2 H2):Wk off L H L2 H2:=by
 refine⟨fun cx E h' a w e S=>?_⟩
 subst e
 have S1:=S.renArr hij hoff hi
 have hb1:lookH ((j,.arr k xs)::(i,.gone)::jaI j H) b=some (.box ds):=by
  rw[jag,if_neg (Ne.symm hb.2),jag,if_neg (Ne.symm hb.1)];exact hj
 have fe:∀ v,Den (E.alias i j) h' (.osl i 0 n) v→Den (E.alias i j) h' (.osl j 0 n) v:=fun v hv=>by
  simp only[Den,Env.alias,if_true,if_neg hij] at hv ⊢
  exact hv
 refine h.out cx (E.alias i j) h' a w rfl (S1.rechunk hb1 rfl ?_)
 obtain⟨h1,vs,rest,T,h2,h3,h4⟩:=S1.mem.ok b _ hb1
 exact⟨h1,vs,rest,T,h2,jgC h3 hp fe,h4⟩
end Go.V
end
section
namespace Go.Proofs.YtbnghipgicmpdaaGreatDoor
open Go Go.V Go.Nb
def grd (data:List Int)(s z:Int)(a:Nat):Int:=(z-1)*max (data.getD ((a:Int)+s).toNat 0-data.getD a 0) (data.getD a 0-data.getD ((a:Int)+s).toNat 0)
def stp (data:List Int)(out s z:Int)(i:Nat)(w:Nat→List Int)(a:Nat)(r:Nat):List Int:=
 if (a:Int)/s%z=z-1 then w r else if (a:Int)%out=r then (w r).set i (max ((w r).getD i 0) (grd data s z a)) else w r
def inS (data:List Int)(out s z:Int)(i:Nat)(w:Nat→List Int):Nat→Nat→List Int
 | 0=>w
 | a+1=>stp data out s z i (inS data out s z i w a) a
def strd (zs:List Int)(out:Int):Nat→Int
 | 0=>out
 | k+1=>strd zs out k*zs.getD (zs.length-1-k) 0
def outS (zs data:List Int)(out:Int):Nat→Nat→List Int
 | 0=>fun _=>List.replicate zs.length 0
 | k+1=>inS data out (strd zs out k) (zs.getD (zs.length-1-k) 0) (zs.length-1-k) (outS zs data out k) data.length
def rowOk (n:Nat)(l:List Int):Prop:=l.length=n ∧ ∀ j,0≤l.getD j 0∧l.getD j 0≤600000
theorem grd_bd {data:List Int}{s z:Int}{a:Nat}(hd:∀ v∈data,0≤v∧v≤65535)(hz:2≤z∧z≤9):0≤grd data s z a∧grd data s z a≤600000:=by
 have h1:=jbP (p:=fun v=>0≤v∧v≤65535) hd (by omega) a
 have h2:=jbP (p:=fun v=>0≤v∧v≤65535) hd (by omega) ((a:Int)+s).toNat
 unfold grd
 generalize hx:max (data.getD ((a:Int)+s).toNat 0-data.getD a 0) (data.getD a 0-data.getD ((a:Int)+s).toNat 0)=x
 have hx2:0≤x∧x≤65535:=by omega
 constructor
 ·exact jiW (by omega) hx2.1
 ·have:=Int.mul_le_mul (show z-1≤8 by omega) hx2.2 hx2.1 (by omega)
  omega
theorem rowOk_set {n:Nat}{l:List Int}{i:Nat}{v:Int}(h:rowOk n l)(hv:0≤v∧v≤600000):rowOk n (l.set i v):=by
 refine⟨by rw[jjQ];exact h.1,fun j=>?_⟩
 by_cases hi:i<l.length
 ·rw[je9 l i j v hi]
  split
  ·exact hv
  ·exact h.2 j
 ·rw[List.set_eq_of_length_le (by omega)]
  exact h.2 j
theorem inS_ok {data:List Int}{out s z:Int}{i n:Nat}{w:Nat→List Int}(hd:∀ v∈data,0≤v∧v≤65535)(hz:2≤z∧z≤9)(hw:∀ r,rowOk n (w r)):∀ a r,rowOk n (inS data out s z i w a r)
 | 0,r=>hw r
 | a+1,r=>by
  have h:=inS_ok (out:=out) (s:=s) (z:=z) (i:=i) hd hz hw a r
  have g:=grd_bd (s:=s) (a:=a) hd hz
  simp only[inS,stp]
  split
  ·exact h
  ·split
   ·refine rowOk_set h ?_
    have:=h.2 i
    omega
   ·exact h
theorem jcR {l:List Int}{p:Int→Prop}(h:∀ v∈l,p v){j:Nat}(hj:j<l.length):p (l.getD j 0):=by
 rw[jjr,jju hj]
 exact h _ (jjv hj)
theorem jhB {zs data : List Int} {out : Int} (hd : ∀ v ∈ data, 0 ≤ v ∧ v ≤ 65535) (hz : ∀ z ∈ zs, 2 ≤ z ∧ z ≤ 9) : ∀ k, k ≤ zs.length → ∀ r, rowOk zs.length (outS zs data out k r)
  | 0, _, r => ⟨by simp [outS], fun j => by
      have := jbP (l := List.replicate zs.length (0 : Int)) (p := fun v => v = 0) (fun v hv => List.eq_of_mem_replicate hv) rfl j
      show 0 ≤ (List.replicate zs.length (0 : Int)).getD j 0 ∧ (List.replicate zs.length (0 : Int)).getD j 0 ≤ 600000
      omega⟩
  | k + 1, hk, r => inS_ok hd (jcR (l := zs) (p := fun z => 2 ≤ z ∧ z ≤ 9) hz (by omega)) (jhB hd hz k (by omega)) _ r
theorem strd_pos {zs:List Int}{out:Int}(ho:1≤out∧out≤4)(hz:∀ z∈zs,2≤z∧z≤9):∀ k,k≤zs.length→0<strd zs out k∧strd zs out k≤4*9^k
 | 0,_=>by simp only[strd];omega
 | k+1,hk=>by
  have h:=strd_pos ho hz k (by omega)
  have g:=jcR (p:=fun z=>2≤z∧z≤9) hz (j:=zs.length-1-k) (by omega)
  simp only[strd]
  constructor
  ·exact Int.mul_pos h.1 (by omega)
  ·have:=Int.mul_le_mul h.2 g.2 (by omega) (jiW (by decide) (Int.pow_nonneg (by decide)))
   rw[Int.pow_succ]
   omega
theorem jgL {zs:List Int}{out:Int} : ∀ k,k≤zs.length→prod zs*out=prod (zs.take (zs.length-k))*strd zs out k
 | 0,_=>by simp only[strd,Nat.sub_zero,jjT]
 | k+1,hk=>by
  have h:=jgL (zs:=zs) (out:=out) k (by omega)
  have e0:zs[zs.length-(k+1)]? = some (zs.getD (zs.length-1-k) 0):=by
   rw[show zs.length-1-k=zs.length-(k+1) from by omega,jjr,jju (show zs.length-(k+1)<zs.length from by omega)]
   rfl
  rw[h,show zs.length-k=(zs.length-(k+1))+1 from by omega,jcc e0]
  simp only[strd]
  rw[jjd,jjc (zs.getD (zs.length-1-k) 0)]
theorem pow9 (k:Nat)(h:k≤4):(4:Int)*9^k≤26244:=by
 have g:k=0∨k=1∨k=2∨k=3∨k=4:=by omega
 rcases g with rfl|rfl|rfl|rfl|rfl<;>decide
theorem stp_in {s z q:Int}{a:Nat}{len:Int}(hs:0<s)(hz:0<z)(hl:len=q*(s*z))(ha:(a:Int)<len)(h:¬ (a:Int)/s%z=z-1):(a:Int)+s<len:=by
 have h1:=jiU ((a:Int)/s) (show z≠0 by omega)
 have h2:=jji ((a:Int)/s) hz
 have h3:(a:Int)/s<q*z:=(Int.ediv_lt_iff_lt_mul hs).2 (by rw[jjd,jjc z s,← hl];exact ha)
 have h4:=Int.mul_ediv_add_emod ((a:Int)/s) z
 have h5:=Int.mul_ediv_add_emod (a:Int) s
 have h6:=jji (a:Int) hs
 have h7:(a:Int)/s/z<q:=(Int.ediv_lt_iff_lt_mul hz).2 h3
 have h8:(a:Int)/s+2≤q*z:=by
  have:=jje (show (a:Int)/s/z+1≤q by omega) (show 0≤z by omega)
  rw[jjb,Int.mul_one,jjc z q] at this
  omega
 have h9:=jje h8 (show 0≤s by omega)
 rw[jjb] at h9
 have h10:s*(q*z)=len:=by rw[hl,Int.mul_left_comm]
 omega
def stB1 (n:Nat):Nat→Hp
 | 0=>[(21,.box [.nil])]
 | _=>[(21,.box [.osl 200 0 n]),(200,.arr .i64 (List.replicate n 0))]
theorem jix:type_of% @ji0∧type_of% @jiX∧type_of% @tn0∧type_of% @tn1∧type_of% @tn2∧type_of% @tn3∧type_of% @xt4:=⟨@ji0,@jiX,@tn0,@tn1,@tn2,@tn3,@xt4⟩
theorem steep1_t (zs data:List Int)(T:Nat→List Int)(hg:jak zs 1 data=true)(hl:zs.length≤4)(hT:outS zs data 1 zs.length=T):Cl 22 [.agg [.ints .i64 zs,.int .i64 1,.ints .i64 data]] (.tup [.slf 1 1 (fun j=>List.take 1 (List.drop (j*1) [.ints .i64 (T 0)])),.int .i64 0]):=by
 have ck:Cl 58 [.agg [.ints .i64 zs,.int .i64 1,.ints .i64 data]] (.int .i64 0):=jdH hg hl
 have og:=jav hg
 refine V.en tbOk Tryz.func22 ?_
 refine V.r1 jix ck ?_
 refine jad 0 (fun k=>k≤1) (fun k=>1-k) (fun k=>[(24,.int .i64 k)]) (fun k=>stB1 zs.length k) ?_ ?_ ?_
 ·simp only[stB1]
  exact V.wk
 ·exact jiT _
 intro k hk
 have hk4:k=0∨k=1:=by omega
 rcases hk4 with e|e
 all_goals subst e
 ·simp only[k0,stB1]
  refine V.r0 jix ?_
  refine⟨1,by omega,by omega,?_⟩
  simp only[stB1]
  refine Wk.renBox 32 200 21 0 zs.length (by decide) (by decide) (by decide) rfl rfl rfl ?_
  exact V.wk
 ·simp only[k1,stB1]
  refine V.r0 jix ?_
  refine jcM (β:=Unit) 2 (fun _=>True) (fun _=>[(5,.slf 1 1 (fun j=>List.take 1 (List.drop (j*1) [.ints .i64 (T 0)]))),(7,.any),(8,.any),(21,.any),(22,.any)]) (fun _=>[(21,.gone),(200,.gone)]) ?_ ?_
  rotate_left
  ·intro _ _
   refine V.r0 @jiX ?_
   exact Fin.of rfl
  refine jad ((0,(zs.length:Int)-1,1,outS zs data 1 0):Nat×Int×Int×(Nat→List Int)) (fun y=>y.1≤zs.length∧y.2.1=(zs.length:Int)-1-y.1∧y.2.2.1=strd zs 1 y.1∧y.2.2.2=outS zs data 1 y.1) (fun y=>zs.length-y.1) (fun y=>[(8,.int .i64 y.2.1),(7,.int .i64 y.2.2.1)]) (fun y=>[(200,.arr .i64 (y.2.2.2 0))]) ?_ ?_ ?_
  ·exact V.wk
  ·exact⟨jiT _,(by show (zs.length:Int)-1=(zs.length:Int)-1-((0:Nat):Int);omega),rfl,rfl⟩
  rintro⟨k,x8,s,w⟩ ⟨hk,h8,hs,hw⟩
  dsimp only at hk h8 hs hw ⊢
  have wo:∀ r,rowOk zs.length (w r):=fun r=>by rw[hw];exact jhB og.2.2.2 og.2.1 k hk r
  refine V.r0 jix ?_
  refine V.br (fun h=>?_) (fun h=>?_)
  ·have hx:=of_decide_eq_true h
   obtain⟨i,rfl⟩:∃ i:Nat,x8=i:=⟨x8.toNat,by omega⟩
   have hi:i=zs.length-1-k:=by omega
   obtain⟨z,hz⟩:∃ z,zs.getD i 0=z:=⟨_,rfl⟩
   have zb:2≤z∧z≤9:=by rw[← hz];exact jcR og.2.1 (by omega)
   have sp:=strd_pos og.1 og.2.1 k hk
   refine V.r0 (V.a2 jix hz) ?_
   have s0:0<s:=by rw[hs];exact sp.1
   have pp:=jgL (zs:=zs) (out:=1) (k+1) (by omega)
   have hlen:(data.length:Int)=prod (zs.take (zs.length-(k+1)))*(s*z):=by rw[og.2.2.1.2,pp,hs,← hz,hi];rfl
   have sm:s≤26244:=by
    have:=pow9 k (by omega)
    omega
   have io:=inS_ok (out:=1) (s:=s) (z:=z) (i:=i) og.2.2.2 zb wo
   refine jad (0:Nat) (fun a=>a≤data.length) (fun a=>data.length-a) (fun a=>[(53,.int .i64 (a:Nat))]) (fun a=>[(200,.arr .i64 (inS data 1 s z i w a 0))]) ?_ ?_ ?_
   ·exact V.wk
   ·exact jiT _
   intro a ha
   have b0:=jbP (p:=fun v=>0≤v∧v≤65535) og.2.2.2 (by omega) a
   have r0:=io a 0
   have q0:=r0.2 i
   have l0:=r0.1
   refine V.r0 jix ?_
   refine V.br (fun c=>?_) (fun c=>?_)
   ·have hx2:=of_decide_eq_true c
    have hq:0≤(a:Int)/s:=Int.ediv_nonneg (by omega) (by omega)
    refine V.r0 jix ?_
    refine V.br (fun f=>?_) (fun f=>?_)
    ·have he:=of_decide_eq_true f
     have e0:inS data 1 s z i w (a+1) 0=inS data 1 s z i w a 0:=if_pos he
     refine V.r0 jix ?_
     refine⟨a+1,by omega,by omega,?_⟩
     simp only[e0]
     exact V.wk
    ·have he:=of_decide_eq_false f
     have hin:=stp_in s0 (by omega) hlen hx2 he
     have b1:=jbP (p:=fun v=>0≤v∧v≤65535) og.2.2.2 (by omega) ((a:Int)+s).toNat
     have gb:=grd_bd (s:=s) (a:=a) og.2.2.2 zb
     unfold grd at gb
     have hm:InR .i64 ((z-1)*max (data.getD ((a:Int)+s).toNat 0-data.getD a 0) (data.getD a 0-data.getD ((a:Int)+s).toNat 0)):=⟨Int.le_trans (by decide) gb.1,Int.le_trans gb.2 (by decide)⟩
     have g:(a:Int)%1=0:=by omega
     ·have u0:inS data 1 s z i w (a+1) 0=(inS data 1 s z i w a 0).set i (max ((inS data 1 s z i w a 0).getD i 0) (grd data s z a)):=(if_neg he).trans (if_pos (show (a:Int)%1=((0:Nat):Int) from g))
      (conv=>whnf)
      (try simp only[jix])
      repeat ((first|refine V.s1 ?_|((try ((with_reducible refine .ext ?_);(conv=>whnf);(try simp only[jix])));(with_reducible refine jaa (r:=?_) ?_ ?_);rotate_left;(focus (first|fail));(conv=>whnf))|((simp only[g]);(conv=>whnf)));(try simp only[jix]))
      refine⟨a+1,by omega,by omega,?_⟩
      simp only[u0]
      exact V.wk
   ·have hx2:=of_decide_eq_false c
    obtain rfl:a=data.length:=by omega
    have hsz0:=Int.mul_le_mul sm zb.2 (by omega) (by decide)
    have hsz1:=jiW (show 0≤s by omega) (show 0≤z by omega)
    have hsz:InR .i64 (s*z):=⟨Int.le_trans (by decide) hsz1,Int.le_trans hsz0 (by decide)⟩
    refine V.r0 jix ?_
    refine⟨(k+1,(i:Int)-1,s*z,inS data 1 s z i w data.length),⟨by show k+1≤zs.length;omega,by show (i:Int)-1=(zs.length:Int)-1-((k+1:Nat):Int);omega,?_,?_⟩,by show zs.length-(k+1)<zs.length-k;omega,?_⟩
    ·show s*z=strd zs 1 k*zs.getD (zs.length-1-k) 0
     rw[hs,← hz,hi]
    ·show _=inS data 1 (strd zs 1 k) (zs.getD (zs.length-1-k) 0) (zs.length-1-k) (outS zs data 1 k) data.length
     rw[← hs,← hw,← hi,hz]
    ·dsimp only
     exact V.wk
  ·have hx:=of_decide_eq_false h
   have hkn:k=zs.length:=by omega
   have hwT:w=T:=by rw[hw,hkn,hT]
   subst hwT
   refine V.r0 @jiX ?_
   refine⟨(),trivial,?_⟩
   have t0:(w 0).take zs.length=w 0:=jjI (Nat.le_of_eq (wo 0).1)
   refine Wk.pub 200 ?_
   (conv=>whnf)
   simp only[t0]
   refine Wk.pub 21 ?_
   (conv=>whnf)
   simp only[jiX]
   exact V.wk
theorem jis:type_of% @jiX∧type_of% @tn0∧type_of% @tn1∧type_of% @tn2∧type_of% @tn3∧type_of% @xt4:=⟨@jiX,@tn0,@tn1,@tn2,@tn3,@xt4⟩
theorem list2_i {F e1 n1:Nat}{f1:Nat→List D}{g0:List Int}(T:Nat→Tx)(c0:Cl F (.int .i64 0::[.ref [.ints .i64 g0],.ref [.slf e1 n1 f1]]) (.tup [.agg [.str (T 0).1,.str (T 0).2],.int .i64 0]))(c1:Cl F (.int .i64 1::[.ref [.ints .i64 g0],.ref [.slf e1 n1 f1]]) (.tup [.agg [.str (T 1).1,.str (T 1).2],.int .i64 0])) :
  Cl 84 [.int .i64 2,.fn F [] [.ref [.ints .i64 g0],.ref [.slf e1 n1 f1]]] (.tup [V.sl2 2 [.str (T 0).1,.str (T 0).2,.str (T 1).1,.str (T 1).2],.int .i64 0]):=by
 refine V.en tbOk Tryz.func84 ?_
 refine V.r0 @jiX ?_
 refine jad (0) (fun k=>k≤2) (fun k=>2-k) (fun k=>[(14,.int .i64 k)]) (fun k=>[(11,.box (preD (2*k) [.str (T 0).1,.str (T 0).2,.str (T 1).1,.str (T 1).2]))]) ?_ ?_ ?_
 ·exact V.wk
 ·exact jiT _
 intro k hk
 have hk4:k=0∨k=1∨k=2:=by omega
 rcases hk4 with e|e|e
 all_goals subst e
 ·simp only[k0]
  refine V.r1 jis c0 ?_
  exact⟨1,by omega,by omega,V.wk⟩
 ·simp only[k1]
  refine V.r1 jis c1 ?_
  exact⟨2,by omega,by omega,V.wk⟩
 ·simp only[k2]
  refine V.r0 @jiX ?_
  exact Fin.of rfl
theorem spr1_20 (st:List Int)(H:Nat→Tx)(g0 g1 m0 m1:List UInt8)(hl:st.length=2)(ig:Cl 88 [.int .i64 (st.getD 0 0)] (.agg [.str g0,.str g1]))(mu:Cl 87 [.agg [.str g0,.str g1],.agg [.str (H 0).1,.str (H 0).2]] (.tup [.agg [.str m0,.str m1],.int .i64 0])) :
  Cl 103 [.int .i64 0,.ref [.ints .i64 st],.ref [V.sl2 2 [.str (H 0).1,.str (H 0).2,.str (H 1).1,.str (H 1).2]]] (.tup [.agg [.str m0,.str m1],.int .i64 0]):=by
 refine V.en tbOk Tryz.func103 ?_
 refine V.r0 jis ?_
 refine⟨Pq51z,[],V.pok,?_⟩
 refine jab [(5,.int .i64 0)] [(4,.box [.str m0,.str m1])] ?_ ?_
 ·exact V.d2 jis ig mu
 refine V.r0 @jiX ?_
 exact Fin.of rfl
theorem spr1_21 (st:List Int)(H:Nat→Tx)(g0 g1 m0 m1:List UInt8)(hl:st.length=2)(ig:Cl 88 [.int .i64 (st.getD 1 0)] (.agg [.str g0,.str g1]))(mu:Cl 87 [.agg [.str g0,.str g1],.agg [.str (H 1).1,.str (H 1).2]] (.tup [.agg [.str m0,.str m1],.int .i64 0])) :
  Cl 103 [.int .i64 1,.ref [.ints .i64 st],.ref [V.sl2 2 [.str (H 0).1,.str (H 0).2,.str (H 1).1,.str (H 1).2]]] (.tup [.agg [.str m0,.str m1],.int .i64 0]):=by
 refine V.en tbOk Tryz.func103 ?_
 refine V.r0 jis ?_
 refine⟨Pq51z,[],V.pok,?_⟩
 refine jab [(5,.int .i64 0)] [(4,.box [.str m0,.str m1])] ?_ ?_
 ·exact V.d2 jis ig mu
 refine V.r0 @jiX ?_
 exact Fin.of rfl
theorem spr_2 (st:List Int)(H M:Nat→Tx)(u0 u1 f0 f1 y0 y1:List UInt8)(hl:st.length=2)(li:Cl 84 [.int .i64 2,.fn 103 [] [.ref [.ints .i64 st],.ref [V.sl2 2 [.str (H 0).1,.str (H 0).2,.str (H 1).1,.str (H 1).2]]]] (.tup [V.sl2 2 [.str (M 0).1,.str (M 0).2,.str (M 1).1,.str (M 1).2],.int .i64 0]))
  (su:Cl 89 [V.sl2 2 [.str (M 0).1,.str (M 0).2,.str (M 1).1,.str (M 1).2]] (.tup [.agg [.str u0,.str u1],.int .i64 0])) (fu:Cl 88 [.int .i64 65535] (.agg [.str f0,.str f1])) (dv:Cl 90 [.agg [.str u0,.str u1],.agg [.str f0,.str f1]] (.tup [.agg [.str y0,.str y1],.int .i64 0])) :
  Cl 53 [.ints .i64 st,V.sl2 2 [.str (H 0).1,.str (H 0).2,.str (H 1).1,.str (H 1).2]] (.tup [.agg [.str y0,.str y1],.int .i64 0]):=by
 have hi:((st.length:Nat):Int)=2:=by rw[hl];rfl
 refine V.en tbOk Tryz.func53 ?_
 (conv=>whnf)
 (conv=>whnf)
 (try simp only[jiX,hi])
 repeat ((first|refine V.s1 ?_|((try ((with_reducible refine .ext ?_);(conv=>whnf);(try simp only[jiX,hi])));(with_reducible refine jaa (r:=?_) ?_ ?_);rotate_left;(focus (first|exact(li)|exact(su)));(conv=>whnf)));(try simp only[jiX,hi]))
 refine⟨Pq92z,[],V.pok,?_⟩
 refine jab [(5,.int .i64 0)] [(4,.box [.str y0,.str y1])] ?_ ?_
 ·exact V.d2 @jiX fu dv
 refine V.r0 @jiX ?_
 exact Fin.of rfl
theorem confined_t (p0 p1 p2 p3 q0 q1 q2 q3 s0 s1 a0 a1:List UInt8)(T:Nat→Int×Int)(h o:Int×Int)(sb:Cl 104 [.agg [.str p0,.str q0],.agg [.str p1,.str q1]] (.tup [.agg [.str s0,.str s1],.int .i64 0]))(ad:Cl 105 [.agg [.str p0,.str q0],.agg [.str p1,.str q1]] (.tup [.agg [.str a0,.str a1],.int .i64 0]))
  (li:Cl 48 [.int .i64 4,.fn 106 [] [.ref [.str s0,.str s1],.ref [.str a0,.str a1],.ref [.str p2,.str q2],.ref [.str p3,.str q3]]] (.tup [V.sl2 4 [.int .i64 (T 0).1,.int .i64 (T 0).2,.int .i64 (T 1).1,.int .i64 (T 1).2,.int .i64 (T 2).1,.int .i64 (T 2).2,.int .i64 (T 3).1,.int .i64 (T 3).2],.int .i64 0]))
  (hu:Cl 108 [.agg [.int .i64 (T 0).1,.int .i64 (T 0).2],.agg [.int .i64 (T 1).1,.int .i64 (T 1).2]] (.tup [.agg [.int .i64 h.1,.int .i64 h.2],.int .i64 0])) (ob:Cl 109 [.int .i64 (max h.1 (T 2).1),.int .i64 (min h.2 (T 3).2)] (.tup [.agg [.int .i64 o.1,.int .i64 o.2],.int .i64 0])) :
  Cl 54 [.agg [.str p0,.str q0],.agg [.str p1,.str q1],.agg [.str p2,.str q2],.agg [.str p3,.str q3]] (.tup [.agg [.int .i64 o.1,.int .i64 o.2],.int .i64 0]):=by
 refine V.en tbOk Tryz.func54 ?_
 refine V.r3 jis sb ad li ?_
 refine⟨(V.tk [0,1,2,3,4,5] (.ev (.cons 6 [] (V.tk [7,8,9] (V.e1 10 [9,8,7] (V.e1 11 [9] (V.tk [12] .done)))) (.cons 10 [5,4,3,2,1,0] (V.e1 6 [] (V.tk [7,8,9] (V.e1 11 [9] (V.tk [12] .done)))) .nil)))),[],V.pok,?_⟩
 refine jab [(14,.box 14 0),(11,.int .i64 0)] [(14,.box [.int .i64 h.1,.int .i64 h.2])] ?_ ?_
 ·exact V.d1 jis hu
 refine V.r0 jis ?_
 refine⟨(V.tk [0,1,2,3,4,5,6,7,8,9,10,11,12,13] (V.e1 14 [] (V.tk [15,16] (V.e1 17 [] (V.tk [18] .done))))),[],V.pok,?_⟩
 refine jab [(9,.int .i64 0)] [(8,.box [.int .i64 o.1,.int .i64 o.2])] ?_ ?_
 ·exact V.d1 jis ob
 refine V.r0 @jiX ?_
 exact Fin.of rfl
theorem bands2_210 (T:Nat→List Int)(H Y:Nat→Tx)(lo hi:List Int)(d0 d1 l0 l1 h0 h1:List UInt8)(b:Int×Int)(hlo:lo.length=1)(hhi:hi.length=1)(sp:Cl 53 [.ints .i64 (T 0),V.sl2 2 [.str (H 0).1,.str (H 0).2,.str (H 1).1,.str (H 1).2]] (.tup [.agg [.str d0,.str d1],.int .i64 0]))(o1:Cl 51 [.int .i64 (lo.getD 0 0),.int .i64 65535] (.agg [.str l0,.str l1]))(o2:Cl 51 [.int .i64 (hi.getD 0 0),.int .i64 65535] (.agg [.str h0,.str h1]))
  (cf:Cl 54 [.agg [.str (Y 0).1,.str (Y 0).2],.agg [.str d0,.str d1],.agg [.str l0,.str l1],.agg [.str h0,.str h1]] (.tup [.agg [.int .i64 b.1,.int .i64 b.2],.int .i64 0])) :
  Cl 52 (.int .i64 0::[.ref [.slf 1 1 (fun j=>List.take 1 (List.drop (j*1) [.ints .i64 (T 0)]))],.ref [V.sl2 2 [.str (H 0).1,.str (H 0).2,.str (H 1).1,.str (H 1).2]],.ref [V.sl2 1 [.str (Y 0).1,.str (Y 0).2]],.ref [.ints .i64 lo],.ref [.ints .i64 hi]]) (.tup [.agg [.int .i64 b.1,.int .i64 b.2],.int .i64 0]):=by
 refine V.en tbOk Tryz.func52 ?_
 refine V.r0 jis ?_
 refine⟨Pq44z,[],V.pok,?_⟩
 refine jab [(9,.box 9 0),(10,.int .i64 0)] [(9,.box [.str d0,.str d1])] ?_ ?_
 ·exact V.d1 jis sp
 refine V.r0 jis ?_
 refine⟨(V.tk [0,1,2,3,4,5,6,7,8,10,11,12,13] (V.e1 9 [13,12,11,10,4,3,2,1,0] (V.e1 14 [4,3,2,1,0] (V.e1 15 [] (V.tk [16,17] (V.e1 18 [] (V.tk [19] .done))))))),[],V.pok,?_⟩
 refine jab [(8,.int .i64 0)] [(7,.box [.int .i64 b.1,.int .i64 b.2])] ?_ ?_
 ·exact V.d3 jis o1 o2 cf
 refine V.r0 @jiX ?_
 exact Fin.of rfl
theorem jiC:type_of% @jiX∧type_of% @tn0∧type_of% @tn1∧type_of% @tn2∧type_of% @tn3∧type_of% @xt4:=⟨@jiX,@tn0,@tn1,@tn2,@tn3,@xt4⟩
theorem bands2_t (zs data lo hi:List Int)(out:Int)(X I:Nat→Int×Int)(MD HV:Nat→Tx)(o e o2:Nat)(Y B S:Nat→List D)(hl:zs.length=2)(hI:∀ i,i<2→(0≤(I i).1∧(I i).1≤1000000000000)∧(0≤(I i).2∧(I i).2≤1000000000000))(gr:Cl 47 [.agg [.ints .i64 zs,.int .i64 out,.ints .i64 data]] (.tup [.ints .i64 lo,.ints .i64 hi,.int .i64 0]))
  (li:Cl 48 [.int .i64 2,.fn 49 [] [.ref [V.sl2 2 [.int .i64 (X 0).1,.int .i64 (X 0).2,.int .i64 (X 1).1,.int .i64 (X 1).2]]]] (.tup [V.sl2 2 [.int .i64 (I 0).1,.int .i64 (I 0).2,.int .i64 (I 1).1,.int .i64 (I 1).2],.int .i64 0]))
  (om:∀ i,i<2→Cl 51 [.int .i64 ((I i).1+(I i).2),.int .i64 2000000000000] (.agg [.str (MD i).1,.str (MD i).2])) (oh:∀ i,i<2→Cl 51 [.int .i64 ((I i).2-(I i).1),.int .i64 2000000000000] (.agg [.str (HV i).1,.str (HV i).2]))
  (ev:Cl 13 [.agg [.ints .i64 zs,.int .i64 out,.ints .i64 data],V.sl2 2 [.str (MD 0).1,.str (MD 0).2,.str (MD 1).1,.str (MD 1).2]] (.tup [.slf 2 o Y,.int .i64 0])) (st:Cl 22 [.agg [.ints .i64 zs,.int .i64 out,.ints .i64 data]] (.tup [.slf 1 o2 S,.int .i64 0]))
  (l2:Cl 48 [.int .i64 out,.fn 52 [] [.ref [.slf 1 o2 S],.ref [V.sl2 2 [.str (HV 0).1,.str (HV 0).2,.str (HV 1).1,.str (HV 1).2]],.ref [.slf 2 o Y],.ref [.ints .i64 lo],.ref [.ints .i64 hi]]] (.tup [.slf 2 e B,.int .i64 0])) :
  Cl 19 [.agg [.ints .i64 zs,.int .i64 out,.ints .i64 data],V.sl2 2 [.int .i64 (X 0).1,.int .i64 (X 0).2,.int .i64 (X 1).1,.int .i64 (X 1).2]] (.tup [.slf 2 e B,.int .i64 0]):=by
 have hz:((zs.length:Nat):Int)=2:=by rw[hl];rfl
 refine V.en tbOk Tryz.func19 ?_
 refine V.r1 jiC gr ?_
 refine Cnd.split (CondB.mk (fun h=>absurd h (by rw[hl];decide)) (fun _=>?_))
 refine V.r1 jiC li ?_
 refine jcM (β:=Unit) 0 (fun _=>True) (fun _=>[(46,.any),(49,.any)]) (fun _=>[(43,.box [.str (MD 0).1,.str (MD 0).2,.str (MD 1).1,.str (MD 1).2]),(46,.gone),(11,.box [V.sl2 2 [.str (HV 0).1,.str (HV 0).2,.str (HV 1).1,.str (HV 1).2]])]) ?_ ?_
 rotate_left
 ·intro _ _
  refine V.r3 jiC ev st l2 ?_
  exact Fin.of rfl
 refine jad (0) (fun k=>k≤2) (fun k=>2-k) (fun k=>[(49,.int .i64 k)]) (fun k=>[(43,.box (preD (2*k) [.str (MD 0).1,.str (MD 0).2,.str (MD 1).1,.str (MD 1).2])),(46,.box (preD (2*k) [.str (HV 0).1,.str (HV 0).2,.str (HV 1).1,.str (HV 1).2]))]) ?_ ?_ ?_
 ·exact V.wk
 ·exact jiT _
 intro k hk
 have hk4:k=0∨k=1∨k=2:=by omega
 rcases hk4 with e1|e1|e1
 all_goals subst e1
 ·simp only[k0]
  have c1:=om 0 (by omega)
  have c2:=oh 0 (by omega)
  have hh:=hI 0 (by omega)
  refine V.r1 jiC c1 ?_
  refine⟨Pq31z,[],V.pok,?_⟩
  refine jab [] [(46,.box (preD (2*1) [.str (HV 0).1,.str (HV 0).2,.str (HV 1).1,.str (HV 1).2]))] ?_ ?_
  ·exact V.d1 jiC c2
  refine V.r0 jiC ?_
  exact⟨1,by omega,by omega,V.wk⟩
 ·simp only[k1]
  have c1:=om 1 (by omega)
  have c2:=oh 1 (by omega)
  have hh:=hI 1 (by omega)
  refine V.r1 jiC c1 ?_
  refine⟨Pq31z,[],V.pok,?_⟩
  refine jab [] [(46,.box (preD (2*2) [.str (HV 0).1,.str (HV 0).2,.str (HV 1).1,.str (HV 1).2]))] ?_ ?_
  ·exact V.d1 jiC c2
  refine V.r0 jiC ?_
  exact⟨2,by omega,by omega,V.wk⟩
 ·simp only[k2]
  refine V.r0 jiC ?_
  refine⟨(),trivial,?_⟩
  refine Wk.pub 46 ?_
  (conv=>whnf)
  simp only[jiX]
  exact V.wk
def confB (y d l h:Rat):Int×Int:=(max (flU (y-d)) (flU l),min (clU (y+d)) (clU h))
theorem flU_bd {x:Rat}(h : -100000≤x∧x≤100000) : -100000000000000000≤flU x∧flU x≤clU x∧clU x≤100000000000000000:=
 ⟨jfU.2 (by rw[show ((-100000000000000000:Int):Rat) = -100000*1000000000000 from by decide +kernel];grind),fl_cl Rat.le_refl,jfZ.2 (by rw[show ((100000000000000000:Int):Rat)=100000*1000000000000 from by decide +kernel];grind)⟩
theorem hull_q {p q p2 q2:Int}(h1 : -100000000000000000≤p∧p≤q∧q≤100000000000000000)(h2 : -100000000000000000≤p2∧p2≤q2∧q2≤100000000000000000):Cl 108 [.agg [.int .i64 p,.int .i64 q],.agg [.int .i64 p2,.int .i64 q2]] (.tup [.agg [.int .i64 (min p p2),.int .i64 (max q q2)],.int .i64 0]):=by
 have c:=hull_b p q p2 q2
 have e:(if vb p q=true∧vb p2 q2=true then (if p=p2∧q=q2 then (p,q,(0:Int)) else if max q q2<min p p2 then (0,0,4) else (min p p2,max q q2,0)) else (0,0,30))=(min p p2,max q q2,0):=by
  rw[if_pos ⟨jbJ.2 (by omega),jbJ.2 (by omega)⟩]
  split
  ·rename_i g
   rw[g.1,g.2,Int.min_self,Int.max_self]
  ·rw[if_neg (by omega)]
 rw[e] at c
 exact c
theorem conf_q {y d l h:Rat}(fy:Fq 376 y)(fd:Fq 70 d)(fl:Fq 10 l)(fh:Fq 10 h)(d0:0≤d∧d≤50000)(l0:0≤l∧l≤y)(h0:y≤h∧h≤1) :
  Cl 54 [frT y,frT d,frT l,frT h] (.tup [.agg [.int .i64 (confB y d l h).1,.int .i64 (confB y d l h).2],.int .i64 0]):=by
 have b0 : -100000≤y-d∧y-d≤100000:=by constructor<;>grind
 have b1 : -100000≤y+d∧y+d≤100000:=by constructor<;>grind
 have b2 : -100000≤l∧l≤100000:=by constructor<;>grind
 have b3 : -100000≤h∧h≤100000:=by constructor<;>grind
 have u0:=flU_bd b0
 have u1:=flU_bd b1
 have u2:=flU_bd b2
 have u3:=flU_bd b3
 have sb:=zsub fy fd (by decide) (by decide) (by decide)
 have ad:=zadd fy fd (by decide) (by decide) (by decide)
 have a0:=jew (fy.sub fd) (by decide) b0
 have a1:=jew (fy.add fd) (by decide) b1
 have a2:=jew fl (by decide) b2
 have a3:=jew fh (by decide) b3
 have m1:flU (y-d)≤flU (y+d):=flU_mono (by grind)
 have m2:clU (y-d)≤clU (y+d):=clU_mono (by grind)
 have m3:flU (y-d)≤clU h:=fl_cl (by grind)
 have m4:flU l≤clU (y+d):=fl_cl (by grind)
 have m5:flU l≤clU h:=fl_cl (by grind)
 have m6:flU (y-d)≤clU (y+d):=fl_cl (by grind)
 have hu:=hull_q u0 u1
 rw[show min (flU (y-d)) (flU (y+d))=flU (y-d) from by omega,show max (clU (y-d)) (clU (y+d))=clU (y+d) from by omega] at hu
 have ob:=of_b (max (flU (y-d)) (flU l)) (min (clU (y+d)) (clU h))
 rw[if_pos (jbJ.2 (by omega))] at ob
 let T:Nat→Int×Int:=fun i=>match i with|0=>(flU (y-d),clU (y-d))|1=>(flU (y+d),clU (y+d))|2=>(flU l,clU l)|_=>(flU h,clU h)
 have li:=blist4b (F:=106) T (conf1_0 _ _ _ _ _ _ _ _ (T 0) a0) (conf1_1 _ _ _ _ _ _ _ _ (T 1) a1) (conf1_2 _ _ _ _ _ _ _ _ (T 2) a2) (conf1_3 _ _ _ _ _ _ _ _ (T 3) a3)
 exact confined_t _ _ _ _ _ _ _ _ _ _ _ _ T (flU (y-d),clU (y+d)) (confB y d l h) sb ad li hu ob
theorem spr_q2 {st:List Int}{H:Nat→Rat}(hs:rowOk 2 st)(hf:∀ i,i<2→Fq 14 (H i)):Cl 53 [.ints .i64 st,slQ (fun i=>txq (H i)) 2] (.tup [frT (smF (fun i=>((st.getD i 0:Int):Rat)*H i) 1/65535),.int .i64 0])∧Fq 70 (smF (fun i=>((st.getD i 0:Int):Rat)*H i) 1/65535):=by
 have w0:Fq 6 ((st.getD 0 0:Int):Rat):=jaD (by have:=hs.2 0;omega) (by decide)
 have i0:=jas (n:=st.getD 0 0) (by have:=hs.2 0;omega)
 have u0:=zmul w0 (hf 0 (by decide)) (by decide) (by decide) (by decide)
 have m0:=spr1_20 st (fun i=>txq (H i)) _ _ _ _ hs.1 i0 u0
 have w1:Fq 6 ((st.getD 1 0:Int):Rat):=jaD (by have:=hs.2 1;omega) (by decide)
 have i1:=jas (n:=st.getD 1 0) (by have:=hs.2 1;omega)
 have u1:=zmul w1 (hf 1 (by decide)) (by decide) (by decide) (by decide)
 have m1:=spr1_21 st (fun i=>txq (H i)) _ _ _ _ hs.1 i1 u1
 have li:=list2_i (fun i=>txq (((st.getD i 0:Int):Rat)*H i)) m0 m1
 have s0:Fq 20 (smF (fun i=>((st.getD i 0:Int):Rat)*H i) 0):=w0.mul (hf 0 (by decide))
 have s1:Fq 41 (smF (fun i=>((st.getD i 0:Int):Rat)*H i) 1):=s0.add (w1.mul (hf 1 (by decide)))
 have su:=sum2 (fun i=>txq (((st.getD i 0:Int):Rat)*H i)) (fun i=>txq (smF (fun i=>((st.getD i 0:Int):Rat)*H i) i)) rfl (zadd s0 (w1.mul (hf 1 (by decide))) (by decide) (by decide) (by decide))
 have fu:=jas (n:=65535) (by omega)
 have f5:=jaD (n:=5) (z:=65535) jaN (by decide)
 have dv:=zdiv s1 f5 jbQ (by decide) (by decide) (by decide)
 have fd:=(s1.div f5 jbQ).mono (show _≤70 by decide)
 rw[show ((65535:Int):Rat)=65535 from rfl] at fu dv fd
 exact⟨spr_2 st (fun i=>txq (H i)) (fun i=>txq (((st.getD i 0:Int):Rat)*H i)) _ _ _ _ _ _ hs.1 li su fu dv,fd⟩
end Go.Proofs.YtbnghipgicmpdaaGreatDoor
end
section
namespace Go.Proofs.YtbnghipgicmpdaaGreatDoor
open Go Go.V Go.Gr
theorem all_c (xs:List Int):Cl 151 [.ints .i64 xs] (.fn 190 [] [.ref [.ints .i64 xs]]):=by
 refine V.en tbOk Tryz.func151 ?_
 (conv=>whnf)
 refine V.st ?_
 exact Fin.same _
theorem nz_of {size:List Int}(h:size.all (fun n=>decide (2≤n∧n≤9))=true):∃ ns:List Nat,size=nz ns∧size.map Int.toNat=ns ∧ ∀ n∈ns,2≤n∧n≤9:=by
 rw[jjq] at h
 refine⟨size.map Int.toNat,?_,rfl,fun n hn=>?_⟩
 ·unfold nz
  rw[List.map_map]
  refine List.ext_getElem (by simp) fun k h1 h2=>?_
  have:=h size[k] (jjv h1)
  simp at this ⊢
  omega
 ·obtain⟨x,hx,rfl⟩:=List.mem_map.1 hn
  have:=h x hx
  simp at this
  omega
def upd (lt:Int→Int→Bool)(o v:List Int):List Int:=List.zipWith (fun a b=>if lt b a then b else a) o v
def mst (lt:Int→Int→Bool)(data:List Int)(w:Nat):Nat→List Int
 | 0=>slot data 0 w
 | m+1=>upd lt (mst lt data w m) (slot data ((m*w:Nat):Int) w)
theorem lt_c (a b:Int):Cl 96 [.int .i64 a,.int .i64 b] (.bool (decide (a<b))):=by
 refine V.en tbOk Tryz.func96 ?_
 (conv=>whnf)
 refine V.st ?_
 exact Fin.of rfl
theorem gt_c (a b:Int):Cl 97 [.int .i64 a,.int .i64 b] (.bool (decide (a>b))):=by
 refine V.en tbOk Tryz.func97 ?_
 (conv=>whnf)
 refine V.st ?_
 exact Fin.of rfl
theorem tpoints_c (size:List Int)(out:Int)(data:List Int):Cl 95 [gridD size out data] (.fn 150 [] [.ref [.ints .i64 size,.int .i64 out,.ints .i64 data],.ref [.fn 149 [gridD size out data] []]]):=by
 refine V.en tbOk Tryz.func95 ?_
 (conv=>whnf)
 refine V.st ?_
 exact Fin.of rfl
theorem jgO {data:List Int}{w m n:Nat}(h:data.length=n*w)(hm:m<n):(slot data ((m*w:Nat):Int) w).length=w:=by
 unfold slot
 rw[ji0,ji0]
 simp
 have:(m+1)*w≤n*w:=Nat.mul_le_mul_right w hm
 rw[Nat.add_mul] at this
 omega
theorem jc0 {lt:Int→Int→Bool}{data:List Int}{w m n:Nat}(h:data.length=n*w)(hm:m≤n)(hn:0<n):(mst lt data w m).length=w:=by
 induction m with
 | zero=>have:=jgO (m:=0) h hn;simpa [mst] using this
 | succ m ih=>
  unfold mst upd
  rw[List.length_zipWith,ih (by omega),jgO h (by omega)]
  omega
theorem jf6 {lt:Int→Int→Bool}{o v:List Int}{k:Nat}{a b:Int}(ha:o[k]? = some a)(hb:v[k]? = some b)(hl:o.length=v.length) :
  ((upd lt o v).take k++o.drop k).set k (if lt b a then b else a)=(upd lt o v).take (k+1)++o.drop (k+1):=by
 have h1:=(jjB.1 ha)
 have h2:=(jjB.1 hb)
 have hul:(upd lt o v).length=o.length:=by unfold upd;rw[List.length_zipWith];omega
 have h3:((upd lt o v).take k).length=k:=by have:=h1.1;rw[jjy];omega
 have h4:(upd lt o v)[k]? = some (if lt b a then b else a):=by
  unfold upd
  rw[List.getElem?_zipWith,ha,hb]
 rw[List.set_append_right _ _ (by omega),h3,Nat.sub_self,jjM h1.1,List.set_cons_zero,jjS,h4]
 simp
theorem jhk {lt:Int→Int→Bool}{o v:List Int}{k:Nat}{a:Int}(ha:o[k]? = some a)(hl:o.length=v.length):((upd lt o v).take k++o.drop k).getD k 0=a:=by
 have h1:=(jjB.1 ha)
 have hul:(upd lt o v).length=o.length:=by unfold upd;rw[List.length_zipWith];omega
 have h3:((upd lt o v).take k).length=k:=by have:=h1.1;rw[jjy];omega
 rw[jjr,jjJ (by omega),h3,Nat.sub_self,List.getElem?_drop,jiY,ha]
 rfl
theorem upd_same {lt:Int→Int→Bool}{o v:List Int}{k:Nat}{a b:Int}(ha:o[k]? = some a)(hb:v[k]? = some b)(hl:o.length=v.length)(h:lt b a=false) :
  (upd lt o v).take k++o.drop k=(upd lt o v).take (k+1)++o.drop (k+1):=by
 rw[← jf6 ha hb hl,h]
 have h1:=(jjB.1 ha)
 have hul:(upd lt o v).length=o.length:=by unfold upd;rw[List.length_zipWith];omega
 have h3:((upd lt o v).take k).length=k:=by have:=h1.1;rw[jjy];omega
 rw[List.set_append_right _ _ (by omega),h3,Nat.sub_self,jjM h1.1,List.set_cons_zero,h1.2]
 rfl
theorem jio:type_of% @ji0∧type_of% @jiX:=⟨@ji0,@jiX⟩
theorem most_c (size : List Int) (w : Nat) (data : List Int) (g : Nat) (lt : Int → Int → Bool) (hg : jak size w data = true) (hf : ∀ a b, Cl g [.int .i64 a, .int .i64 b] (.bool (lt a b))) (hirr : ∀ a, lt a a = false) :
    Cl 94 [.fn 150 [] [.ref [.ints .i64 size, .int .i64 w, .ints .i64 data], .ref [.fn 149 [gridD size w data] []]], .fn g [] []] (.ints .i64 (mst lt data w (PR (size.map Int.toNat)))) := by
  have hG := jbm hg
  obtain ⟨ns, hn0, hn1, hn2⟩ := nz_of hG.2.2.2.2.1
  have hsl : size.length = ns.length := by rw [hn0]; simp [nz]
  have hpos : ∀ n ∈ ns, 0 < n := fun n hn => by have := hn2 n hn; omega
  have hPR := PR_le (by omega) hn2
  have hPP := jfw hpos
  have hprod : prod size = (PR ns : Nat) := by rw [hn0, jeP]
  have hdl : data.length = PR ns * w := by
    have := hG.2.2.2.2.2.2.1
    rw [hprod, ← jja] at this
    omega
  rw [hn1]
  have h1 : 1 ≤ ns.length ∧ ns.length ≤ 4 := by omega
  have hok : ∀ m, okIdx size (ixl ns m) = true := fun m => jbq.2 ⟨by rw [jaw]; omega, fun k n x h1 h2 => by
    rw [hn0] at h1
    simp only [nz, List.getElem?_map, Option.map_eq_some_iff] at h1
    obtain ⟨n', h3, rfl⟩ := h1
    exact je4 hpos h3 h2⟩
  have hvc : ∀ m, m < PR ns → Cl 149 [gridD size w data, .iarr .i64 (pad4 (ixl ns m))] (.ints .i64 (slot data ((m * w : Nat) : Int) w)) := fun m hm => by
    have hpad := jeW (hok m) hG.2.1
    have := values_c size w data _ hg hpad.1 hpad.2
    have hpz : pz (size.zip (pad4 (ixl ns m))) = (m : Int) := by
      rw [zip_pad (hok m), hn0]
      have := pz_ixl_aux ns hpos m 0
      rw [ji5 hm] at this
      unfold pz nz
      simpa using this
    rw [hpz, ← jja] at this
    exact this
  have hlen : size.length = ns.length := hsl
  refine V.en tbOk Tryz.func94 ?_
  (conv => whnf)
  refine V.st ?_
  refine ⟨_, _, ⟨Tryz.func150, rfl, rfl, jiS rfl⟩, ?_⟩
  (conv => whnf)
  refine V.st ?_
  repeat ((try ((with_reducible refine .ext ?_); (conv => whnf))); (with_reducible refine jaa (r := ?_) ?_ ?_); rotate_left; (focus (first | exact (all_c _))); (conv => whnf); refine V.st ?_)
  refine ⟨_, _, ⟨Tryz.func190, rfl, rfl, jiS rfl⟩, ?_⟩
  refine V.r0 @jiX ?_
  refine lp_go (ns.length) (fun k => True) (fun k => [(10, .int .i64 k)]) (fun k => [(57, .arr .i64 (pad4 ((lastL ns).take k)))]) V.wk ?_ ?_
  · trivial
  intro k hk _
  (conv => whnf)
  refine V.st ?_
  refine V.br (fun h => ?_) (fun h => ?_)
  · rw [hlen] at h
    simp only [decide_eq_true_eq] at h
    have hk1 : k < ns.length := by omega
    obtain ⟨n, hn⟩ : ∃ n, ns[k]? = some n := ⟨ns[k], jju hk1⟩
    have hnb := hn2 n (jjw hn)
    have en : size.getD k 0 = n := by rw [hn0]; simp [nz, jjr, hn]
    have hll : (lastL ns)[k]? = some ((n : Int) - 1) := by simp [lastL, hn]
    have hp4 : (pad4 ((lastL ns).take k)).length = 4 := jaE (by simp [lastL]; omega)
    have hps := jgp hll (by simp [lastL]; omega)
    refine V.r0 (V.a3 jio @en hps) ?_
    exact ⟨k + 1, ⟨by omega, trivial⟩, by omega, V.wk⟩
  · rw [hlen] at h
    simp only [decide_eq_false_iff_not] at h
    have hk1 : k = ns.length := by omega
    subst hk1
    have e0 : (lastL ns).take ns.length = lastL ns := jjI (by simp [lastL])
    rw [e0]
    (conv => whnf)
    refine V.st ?_
    have e1 := ixl_pad0 h1 hn2
    have hp4l : (pad4 (lastL ns)).length = 4 := jaE (by simp [lastL]; omega)
    refine jad 0 (fun k => k < PR ns) (fun k => PR ns - k) (fun k => []) (fun k => match k with
      | 0 => [(56, .arr .i64 (pad4 (ixl ns 0))), (5, .box [.nil])]
      | m + 1 => [(56, .arr .i64 (pad4 (ixl ns (m + 1)))), (5, .box [.osl 159 0 w]), (159, .arr .i64 (mst lt data w (m + 1)))]) ?_ hPP ?_
    · simp only [e1]
      exact V.wk
    intro m hm
    have hvm := hvc m hm
    have hp4 : (pad4 (ixl ns m)).length = 4 := jaE (by rw [jaw]; omega)
    have hvl := jgO hdl hm
    have hml := jc0 (lt := lt) hdl (Nat.le_of_lt hm) hPP
    have hul : (upd lt (mst lt data w m) (slot data ((m * w : Nat) : Int) w)).length = w := by unfold upd; rw [List.length_zipWith]; omega
    cases m with
    | zero =>
      have hm0 : slot data ((0 * w : Nat) : Int) w = mst lt data w 0 := by simp [mst]
      rw [hm0] at hvm hvl hul
      have hvf : upd lt (mst lt data w 0) (mst lt data w 0) = mst lt data w 1 := by
        conv => rhs; unfold mst
        rw [hm0]
      generalize hv : mst lt data w 0 = vs at *
      (conv => whnf)
      refine V.st ?_
      repeat ((try ((with_reducible refine .ext ?_); (conv => whnf))); (with_reducible refine jaa (r := ?_) ?_ ?_); rotate_left; (focus (first | exact (hvm))); (conv => whnf); refine V.st ?_)
      refine ⟨(V.tk [0,1,2] (V.e1 3 [0] (V.e1 4 [] (V.tk [5] .done)))), [], V.pok, .go (jac ?_)⟩
      (conv => whnf)
      refine V.st ?_
      repeat ((try ((with_reducible refine .ext ?_); (conv => whnf))); (with_reducible refine jaa (r := ?_) ?_ ?_); rotate_left; (focus (first | exact (hvm))); (conv => whnf); refine V.st ?_)
      refine .inl ?_
      (conv => whnf)
      refine ⟨0, _, _, ⟨Tryz.func25, rfl, rfl, jiS rfl⟩, ?_⟩
      (conv => whnf)
      refine AnyB.mk (fun h => ?_) (fun _ => ?_)
      · have := h rfl
        rw [this] at hvl
        simp at hvl
        omega
      (conv => whnf)
      try refine And.intro (fun _ => ⟨rfl, by simp; omega⟩) ?_
      have hol : vs.length = w := hml
      have he0 : vs = (upd lt vs vs).take 0 ++ vs.drop 0 := by simp
      refine V.r0 (V.a4 @jiX @jiY @jjE hvl) ?_
      refine lp_go w (fun _ => True) (fun k => [(17, .int .i64 k)]) (fun k => [(159, .arr .i64 ((upd lt vs vs).take k ++ vs.drop k))]) ?_ trivial ?_
      · rw [← he0]
        exact V.wk
      intro k hk _
      (conv => whnf)
      refine V.st ?_
      refine V.br (fun hq => ?_) (fun hq => ?_)
      · rw [decide_eq_true_eq] at hq
        have hk1 : k < w := by omega
        obtain ⟨v, hv1, ev⟩ := getxn (xs := vs) (k := k) (by omega)
        obtain ⟨o, ho1, eo⟩ := getxn (xs := vs) (k := k) (by omega)
        have hug := jhk (lt := lt) (v := vs) ho1 (by omega)
        have hus := jf6 (lt := lt) ho1 hv1 (by omega)
        have hul2 : ((upd lt vs vs).take k ++ vs.drop k).length = w := by simp; omega
        refine V.r0 (V.a2 jio ev) ?_
        refine ⟨(V.tk [0,1,2,3,4,5] (V.e1 6 [] .done)), [], V.pok, .go (jac ?_)⟩
        (conv => whnf)
        (try simp only [jio, ev, hug])
        repeat ((first | refine V.s1 ?_ | ((try ((with_reducible refine .ext ?_); (conv => whnf); (try simp only [jio, ev, hug]))); (with_reducible refine jaa (r := ?_) ?_ ?_); rotate_left; (focus (first | exact (hf _ _))); (conv => whnf))); (try simp only [jio, ev, hug]))
        refine jbh [] [(159, .arr .i64 ((upd lt vs vs).take (k + 1) ++ vs.drop (k + 1)))] (CondB.mk (fun hc => ?_) (fun hc => ?_)) ?_
        · rw [hc, if_pos rfl] at hus
          refine V.r0 (V.a3 jio ev hus) ?_
          exact V.wk
        · have hsm := upd_same ho1 hv1 (by omega) hc
          rw [← hsm]
          (conv => whnf)
          refine V.st ?_
          exact V.wk
        (conv => whnf)
        refine V.st ?_
        exact ⟨k + 1, ⟨by omega, trivial⟩, by omega, V.wk⟩
      · rw [decide_eq_false_iff_not] at hq
        have hk1 : k = w := by omega
        subst hk1
        have hfin : (upd lt vs vs).take k ++ vs.drop k = mst lt data k 1 := by
          rw [jjI (by omega), jjK (by omega), jjH]
          exact hvf
        rw [hfin]
        (conv => whnf)
        refine V.st ?_
        refine V.br (fun hq => ?_) (fun hq => ?_)
        · rw [decide_eq_true_eq] at hq
          have hq2 : ixl ns (0) = lastL ns := jgq (by rw [jaw]; simp [lastL]) hq
          have hq3 := jeo ns hpos (0) hq2
          rw [ji5 hm] at hq3
          have hq4 : 1 = PR ns := by omega
          have hml3 := jc0 (lt := lt) hdl (Nat.le_of_eq hq4) hPP
          (conv => whnf)
          refine V.st ?_
          rw [jjI (by omega), hq4]
          exact Fin.of rfl
        · rw [decide_eq_false_iff_not] at hq
          have hq2 : ixl ns (0) ≠ lastL ns := fun e => hq (by rw [← e])
          have hil := jaw ns (0)
          have hll : (lastL ns).length = ns.length := by simp [lastL]
          (conv => whnf)
          refine V.st ?_
          rw [hlen]
          have e2 : (ixl ns (0)).take ns.length = ixl ns (0) := jjI (by omega)
          refine jad (ns.length) (fun k => (1 ≤ k ∧ k ≤ ns.length) ∧ (ixl ns (0)).drop k = (lastL ns).drop k) (fun k => k) (fun k => [(7, .int .i64 ((k : Int) - 1))]) (fun k => [(56, .arr .i64 (pad4 ((ixl ns (0)).take k)))]) ?_ ?_ ?_
          · rw [e2]
            exact V.wk
          · exact ⟨⟨h1.1, ji1 _⟩, by rw [jjK (by omega), jjK (by omega)]⟩
          rintro p ⟨⟨hp1, hp2⟩, hp3⟩
          obtain ⟨p, rfl⟩ : ∃ q, p = q + 1 := ⟨p - 1, by omega⟩
          obtain ⟨x, hx⟩ : ∃ x, (ixl ns (0))[p]? = some x := ⟨_, jju (by omega)⟩
          obtain ⟨n, hn⟩ : ∃ n, ns[p]? = some n := ⟨ns[p], jju (by omega)⟩
          have hpx := jcw hx (by omega : p < p + 1) (by omega)
          have hpl : (lastL ns)[p]? = some ((n : Int) - 1) := by simp [lastL, hn]
          have hpl2 := jcw (k := 4) hpl (by omega) (by omega)
          rw [jjI (by omega)] at hpl2
          have hp5 : (pad4 ((ixl ns (0)).take (p + 1))).length = 4 := jaE (by simp; omega)
          have e3 : ((p + 1 : Nat) : Int) - 1 = (p : Int) := by omega
          have e4 := jeQ hx (by omega)
          (conv => whnf)
          refine V.st ?_
          refine ⟨(V.tk [0,1,2,3,4,5,6] .done), [], V.pok, .go (jac ?_)⟩
          refine V.r0 (V.a4 jio e3 hpx hpl2) ?_
          refine V.br (fun hc => ?_) (fun hc => ?_)
          · rw [decide_eq_true_eq] at hc
            have hd : (ixl ns (0)).drop p = (lastL ns).drop p := by
              rw [jjM (by omega : p < (ixl ns (0)).length), jjM (by omega : p < (lastL ns).length), hp3, (jjB.1 hx).2, (jjB.1 hpl).2, hc]
            have hp0 : 1 ≤ p := by
              rcases ji3 p with e | e
              · subst e; exact absurd (by simpa using hd) hq2
              · exact e
            refine V.r0 (V.a3 jio e3 e4) ?_
            exact ⟨p, ⟨⟨hp0, by omega⟩, hd⟩, by omega, V.wk⟩
          · rw [decide_eq_false_iff_not] at hc
            have hsu := jgx ns hpos (0) p n hn x hx (by rw [hp3]; simp [lastL]) hc
            have e5 := jdu (y := x + 1) hx (by omega) (by omega : (ixl ns (0)).length ≤ 4)
            rw [hil, ← hsu] at e5
            have hxb := je4 hpos hn hx
            have hnb := hn2 n (jjw hn)
            have hm1 : 1 < PR ns := by
              rcases ji8 (1) (PR ns) with e | e
              · exact e
              · exfalso
                exact hq2 (jep ns hpos (0) (by rw [ji5 hm]; omega))
            refine V.r0 (V.a4 jio e3 hpx e5) ?_
            exact ⟨1, hm1, by omega, V.wk⟩
    | succ m =>
      have hvf : upd lt (mst lt data w (m + 1)) (slot data (((m + 1) * w : Nat) : Int) w) = mst lt data w (m + 2) := by
        conv => rhs; unfold mst
      generalize hv : mst lt data w (m + 1) = vs at *
      generalize hv2 : slot data (((m + 1) * w : Nat) : Int) w = ws at *
      (conv => whnf)
      refine V.st ?_
      repeat ((try ((with_reducible refine .ext ?_); (conv => whnf))); (with_reducible refine jaa (r := ?_) ?_ ?_); rotate_left; (focus (first | exact (hvm))); (conv => whnf); refine V.st ?_)
      refine ⟨(V.tk [0,1,2] (V.e1 3 [0] (V.e1 4 [] (V.tk [5] .done)))), [], V.pok, .go (jac ?_)⟩
      (conv => whnf)
      refine V.st ?_
      repeat ((try ((with_reducible refine .ext ?_); (conv => whnf))); (with_reducible refine jaa (r := ?_) ?_ ?_); rotate_left; (focus (first | exact (hvm))); (conv => whnf); refine V.st ?_)
      have hol : vs.length = w := hml
      have he0 : vs = (upd lt vs ws).take 0 ++ vs.drop 0 := by simp
      refine V.r0 (V.a4 @jiX @jiY @jjE hvl) ?_
      refine lp_go w (fun _ => True) (fun k => [(17, .int .i64 k)]) (fun k => [(159, .arr .i64 ((upd lt vs ws).take k ++ vs.drop k))]) ?_ trivial ?_
      · rw [← he0, ← hv]
        exact V.wk
      intro k hk _
      (conv => whnf)
      refine V.st ?_
      refine V.br (fun hq => ?_) (fun hq => ?_)
      · rw [decide_eq_true_eq] at hq
        have hk1 : k < w := by omega
        obtain ⟨v, hv1, ev⟩ := getxn (xs := ws) (k := k) (by omega)
        obtain ⟨o, ho1, eo⟩ := getxn (xs := vs) (k := k) (by omega)
        have hug := jhk (lt := lt) (v := ws) ho1 (by omega)
        have hus := jf6 (lt := lt) ho1 hv1 (by omega)
        have hul2 : ((upd lt vs ws).take k ++ vs.drop k).length = w := by simp; omega
        refine V.r0 (V.a2 jio ev) ?_
        refine ⟨(V.tk [0,1,2,3,4,5] (V.e1 6 [] .done)), [], V.pok, .go (jac ?_)⟩
        (conv => whnf)
        (try simp only [jio, ev, hug])
        repeat ((first | refine V.s1 ?_ | ((try ((with_reducible refine .ext ?_); (conv => whnf); (try simp only [jio, ev, hug]))); (with_reducible refine jaa (r := ?_) ?_ ?_); rotate_left; (focus (first | exact (hf _ _))); (conv => whnf))); (try simp only [jio, ev, hug]))
        refine jbh [] [(159, .arr .i64 ((upd lt vs ws).take (k + 1) ++ vs.drop (k + 1)))] (CondB.mk (fun hc => ?_) (fun hc => ?_)) ?_
        · rw [hc, if_pos rfl] at hus
          refine V.r0 (V.a3 jio ev hus) ?_
          exact V.wk
        · have hsm := upd_same ho1 hv1 (by omega) hc
          rw [← hsm]
          (conv => whnf)
          refine V.st ?_
          exact V.wk
        (conv => whnf)
        refine V.st ?_
        exact ⟨k + 1, ⟨by omega, trivial⟩, by omega, V.wk⟩
      · rw [decide_eq_false_iff_not] at hq
        have hk1 : k = w := by omega
        subst hk1
        have hfin : (upd lt vs ws).take k ++ vs.drop k = mst lt data k (m + 2) := by
          rw [jjI (by omega), jjK (by omega), jjH]
          exact hvf
        rw [hfin]
        (conv => whnf)
        refine V.st ?_
        refine V.br (fun hq => ?_) (fun hq => ?_)
        · rw [decide_eq_true_eq] at hq
          have hq2 : ixl ns (m + 1) = lastL ns := jgq (by rw [jaw]; simp [lastL]) hq
          have hq3 := jeo ns hpos (m + 1) hq2
          rw [ji5 hm] at hq3
          have hq4 : m + 2 = PR ns := by omega
          have hml3 := jc0 (lt := lt) hdl (Nat.le_of_eq hq4) hPP
          (conv => whnf)
          refine V.st ?_
          rw [jjI (by omega), hq4]
          exact Fin.of rfl
        · rw [decide_eq_false_iff_not] at hq
          have hq2 : ixl ns (m + 1) ≠ lastL ns := fun e => hq (by rw [← e])
          have hil := jaw ns (m + 1)
          have hll : (lastL ns).length = ns.length := by simp [lastL]
          (conv => whnf)
          refine V.st ?_
          rw [hlen]
          have e2 : (ixl ns (m + 1)).take ns.length = ixl ns (m + 1) := jjI (by omega)
          refine jad (ns.length) (fun k => (1 ≤ k ∧ k ≤ ns.length) ∧ (ixl ns (m + 1)).drop k = (lastL ns).drop k) (fun k => k) (fun k => [(7, .int .i64 ((k : Int) - 1))]) (fun k => [(56, .arr .i64 (pad4 ((ixl ns (m + 1)).take k)))]) ?_ ?_ ?_
          · rw [e2]
            exact V.wk
          · exact ⟨⟨h1.1, ji1 _⟩, by rw [jjK (by omega), jjK (by omega)]⟩
          rintro p ⟨⟨hp1, hp2⟩, hp3⟩
          obtain ⟨p, rfl⟩ : ∃ q, p = q + 1 := ⟨p - 1, by omega⟩
          obtain ⟨x, hx⟩ : ∃ x, (ixl ns (m + 1))[p]? = some x := ⟨_, jju (by omega)⟩
          obtain ⟨n, hn⟩ : ∃ n, ns[p]? = some n := ⟨ns[p], jju (by omega)⟩
          have hpx := jcw hx (by omega : p < p + 1) (by omega)
          have hpl : (lastL ns)[p]? = some ((n : Int) - 1) := by simp [lastL, hn]
          have hpl2 := jcw (k := 4) hpl (by omega) (by omega)
          rw [jjI (by omega)] at hpl2
          have hp5 : (pad4 ((ixl ns (m + 1)).take (p + 1))).length = 4 := jaE (by simp; omega)
          have e3 : ((p + 1 : Nat) : Int) - 1 = (p : Int) := by omega
          have e4 := jeQ hx (by omega)
          (conv => whnf)
          refine V.st ?_
          refine ⟨(V.tk [0,1,2,3,4,5,6] .done), [], V.pok, .go (jac ?_)⟩
          refine V.r0 (V.a4 jio e3 hpx hpl2) ?_
          refine V.br (fun hc => ?_) (fun hc => ?_)
          · rw [decide_eq_true_eq] at hc
            have hd : (ixl ns (m + 1)).drop p = (lastL ns).drop p := by
              rw [jjM (by omega : p < (ixl ns (m + 1)).length), jjM (by omega : p < (lastL ns).length), hp3, (jjB.1 hx).2, (jjB.1 hpl).2, hc]
            have hp0 : 1 ≤ p := by
              rcases ji3 p with e | e
              · subst e; exact absurd (by simpa using hd) hq2
              · exact e
            refine V.r0 (V.a3 jio e3 e4) ?_
            exact ⟨p, ⟨⟨hp0, by omega⟩, hd⟩, by omega, V.wk⟩
          · rw [decide_eq_false_iff_not] at hc
            have hsu := jgx ns hpos (m + 1) p n hn x hx (by rw [hp3]; simp [lastL]) hc
            have e5 := jdu (y := x + 1) hx (by omega) (by omega : (ixl ns (m + 1)).length ≤ 4)
            rw [hil, ← hsu] at e5
            have hxb := je4 hpos hn hx
            have hnb := hn2 n (jjw hn)
            have hm1 : m + 2 < PR ns := by
              rcases ji8 (m + 2) (PR ns) with e | e
              · exact e
              · exfalso
                exact hq2 (jep ns hpos (m + 1) (by rw [ji5 hm]; omega))
            refine V.r0 (V.a4 jio e3 hpx e5) ?_
            exact ⟨m + 2, hm1, by omega, V.wk⟩
theorem rl_mst {lt:Int→Int→Bool}{data:List Int}{w n:Nat}(h:data.length=n*w)(hw:0<w):∀ m,m≤n→rl lt data w (m*w)=mst lt data w m:=by
 intro m
 induction m with
 | zero=>intro _;simp[rl,mst]
 | succ m ih=>
  intro hm
  have ih:=ih (by omega)
  have hwl:w≤data.length:=by rw[h];exact Nat.le_mul_of_pos_left _ (by omega)
  have hR:=jeI (lt:=lt) hwl (m*w)
  have hS:=jgO h (by omega:m<n)
  have key:∀ k,k≤w→rl lt data w (m*w+k)=(upd lt (rl lt data w (m*w)) (slot data ((m*w:Nat):Int) w)).take k++(rl lt data w (m*w)).drop k:=by
   intro k
   induction k with
   | zero=>intro _;simp
   | succ k ihk=>
    intro hk
    have ihk:=ihk (by omega)
    have e1:(m*w+k)%w=k:=by
     rw[Nat.add_comm,Nat.add_mul_mod_self_right,ji5 (by omega)]
    obtain⟨a,ha⟩:∃ a,(rl lt data w (m*w))[k]? = some a:=⟨_,jju (by omega)⟩
    obtain⟨b,hb⟩:∃ b,(slot data ((m*w:Nat):Int) w)[k]? = some b:=⟨_,jju (by omega)⟩
    have hb2:data.getD (m*w+k) 0=b:=by
     have:=hb
     unfold slot at this
     rw[ji0,ji0,jjR (by omega),List.getElem?_drop] at this
     rw[jjr,this];rfl
    have hug:=jhk (lt:=lt) (v:=slot data ((m*w:Nat):Int) w) ha (by omega)
    have hus:=jf6 (lt:=lt) ha hb (by omega)
    rw[← hus,← Nat.add_assoc]
    conv=>lhs;unfold rl
    rw[e1,ihk,hb2,hug]
  have hk:=key w (ji1 _)
  have hul:(upd lt (rl lt data w (m*w)) (slot data ((m*w:Nat):Int) w)).length=w:=by unfold upd;rw[List.length_zipWith];omega
  rw[Nat.add_mul,Nat.one_mul,hk,jjI (by omega),jjK (by omega),jjH,ih]
  rfl
theorem range_c (size:List Int)(out:Int)(data:List Int)(hs:size.length≤281474976710656)(hd:data.length≤281474976710656) :
  Cl 47 [gridD size out data] (.tup [.ints .i64 (if jak size out data then rl (fun a b=>decide (a<b)) data out.toNat data.length else []),.ints .i64 (if jak size out data then rl (fun a b=>decide (a>b)) data out.toNat data.length else []),.int .i64 (if jak size out data then 0 else 100)]):=by
 refine V.en tbOk Tryz.func47 ?_
 (conv=>whnf)
 refine V.st ?_
 repeat ((try ((with_reducible refine .ext ?_);(conv=>whnf)));(with_reducible refine jaa (r:=?_) ?_ ?_);rotate_left;(focus (first|exact(jd4 _ _ _ hs hd)));(conv=>whnf);refine V.st ?_)
 cases hg:jak size out data with
 | false=>
  refine V.br (fun h=>?_) (fun h=>?_)
  ·(conv=>whnf)
   refine V.st ?_
   exact Fin.tup ⟨Fin.nil _,Fin.nil _,Fin.of rfl,trivial⟩
  ·simp at h
 | true=>
  have hG:=jbm hg
  obtain⟨w,rfl⟩:∃ w:Nat,out=w:=⟨out.toNat,by omega⟩
  obtain⟨ns,hn0,hn1,hn2⟩:=nz_of hG.2.2.2.2.1
  have hprod:prod size=(PR ns:Nat):=by rw[hn0,jeP]
  have hdl:data.length=PR ns*w:=by
   have:=hG.2.2.2.2.2.2.1
   rw[hprod,← jja] at this
   omega
  have e1:=rl_mst (lt:=fun a b=>decide (a<b)) hdl (by omega) (PR ns) (ji1 _)
  have e2:=rl_mst (lt:=fun a b=>decide (a>b)) hdl (by omega) (PR ns) (ji1 _)
  rw[← hdl] at e1 e2
  have m1:=most_c size w data 96 (fun a b=>decide (a<b)) hg lt_c (fun a=>by simp)
  have m2:=most_c size w data 97 (fun a b=>decide (a>b)) hg gt_c (fun a=>by simp)
  rw[hn1,← e1] at m1
  rw[hn1,← e2] at m2
  refine V.br (fun h=>?_) (fun h=>?_)
  ·simp at h
  (conv=>whnf)
  refine V.st ?_
  repeat ((try ((with_reducible refine .ext ?_);(conv=>whnf)));(with_reducible refine jaa (r:=?_) ?_ ?_);rotate_left;(focus (first|exact(tpoints_c _ _ _)|exact(m1)|exact(m2)));(conv=>whnf);refine V.st ?_)
  exact Fin.of rfl
theorem pzf (ns:List Nat)(x:List Int)(p:Int):x.length=ns.length→((nz ns).zip x).foldl (fun p a=>p*a.1+a.2) p=p*(PR ns:Int)+pz ((nz ns).zip x):=by
 induction ns generalizing x p with
 | nil=>intro _;simp[pz,nz,PR]
 | cons n r ih=>
  intro hl
  cases x with
  | nil=>simp at hl
  | cons a s=>
   have hl':s.length=r.length:=by simpa using hl
   simp only[nz,List.map_cons,List.zip_cons_cons,List.foldl_cons,pz,PR]
   have e1:=ih s (p*(n:Int)+a) hl'
   have e2:=ih s (0*(n:Int)+a) hl'
   simp only[nz] at e1 e2
   rw[e1,e2]
   simp only[jja,jjl,jjd,Int.zero_mul,Int.zero_add]
   omega
theorem pz_cons (n:Nat)(r:List Nat)(a:Int)(s:List Int)(h:s.length=r.length):pz ((nz (n::r)).zip (a::s))=a*(PR r:Int)+pz ((nz r).zip s):=by
 have:=pzf r s a h
 unfold pz at this ⊢
 simp only[nz,List.map_cons,List.zip_cons_cons,List.foldl_cons,Int.zero_mul,Int.zero_add] at this ⊢
 exact this
theorem ixl_pz:∀ (ns:List Nat) (x:List Int),okIdx (nz ns) x=true→(0≤pz ((nz ns).zip x)∧pz ((nz ns).zip x)<PR ns)∧ixl ns (pz ((nz ns).zip x)).toNat=x
 | [],x,h=>by
  have h1:=(jbq.1 h).1
  simp[nz] at h1
  subst h1
  simp[pz,nz,PR,ixl]
 | n::r,[],h=>by
  have h1:=(jbq.1 h).1
  simp[nz] at h1
 | n::r,a::s,h=>by
  obtain⟨h1,h2⟩:=jbq.1 h
  have hl:s.length=r.length:=by simpa [nz] using h1
  have ha:=h2 0 n a (by simp[nz]) rfl
  have hr:okIdx (nz r) s=true:=jbq.2 ⟨by simpa [nz] using hl,fun k n' x' g1 g2=>h2 (k+1) n' x' (by simpa [nz] using g1) (by simpa using g2)⟩
  obtain⟨⟨i1,i2⟩,i3⟩:=ixl_pz r s hr
  rw[pz_cons n r a s hl]
  have hpos:∀ y∈r,0<y:=fun y hy=>by
   obtain⟨k,hk⟩:=List.getElem?_of_mem hy
   have hk2:k<s.length:=by have:=(jjB.1 hk).1;omega
   have:=h2 (k+1) y s[k] (by simp[nz,hk]) (by simp[hk2])
   omega
  have hP:=jfw hpos
  generalize pz ((nz r).zip s)=q at *
  obtain⟨q,rfl⟩:∃ m:Nat,q=m:=⟨q.toNat,by omega⟩
  obtain⟨a,rfl⟩:∃ m:Nat,a=m:=⟨a.toNat,by omega⟩
  have e:((a:Int)*(PR r:Int)+(q:Int))=((a*PR r+q:Nat):Int):=by simp
  have hq:q<PR r:=by omega
  have han:a<n:=by omega
  rw[e,ji0] at *
  refine⟨⟨by omega,?_⟩,?_⟩
  ·have:a*PR r+q<(a+1)*PR r:=by rw[Nat.add_mul];omega
   have h5:(a+1)*PR r≤n*PR r:=Nat.mul_le_mul_right _ han
   rw[PR]
   omega
  ·have e1:(a*PR r+q)/PR r=a:=by
    rw[ji4,Nat.mul_add_div hP,Nat.div_eq_of_lt hq,jiY]
   have e2:ixl r (a*PR r+q)=s:=by
    rw[← jhN r hpos,ji4,Nat.mul_add_mod,jhN r hpos]
    exact i3
   simp only[ixl,e1,e2,ji5 han]
structure Ord (lt:Int→Int→Bool):Prop where
 irr:∀ a,lt a a=false
 tr:∀ a b c,lt b a=false→lt c b=false→lt c a=false
 anti:∀ a b,lt a b=false→lt b a=false→a=b
 asym:∀ a b,lt a b=true→lt b a=false
theorem ord_lt:Ord fun a b=>decide (a<b):=⟨fun a=>by simp,fun a b c h1 h2=>by simp at *; omega,fun a b h1 h2=>by simp at *; omega,fun a b h=>by simp at *; omega⟩
theorem ord_gt:Ord fun a b=>decide (a>b):=⟨fun a=>by simp,fun a b c h1 h2=>by simp at *; omega,fun a b h1 h2=>by simp at *; omega,fun a b h=>by simp at *; omega⟩
def col (data:List Int)(w m k:Nat):Int:=(slot data ((m*w:Nat):Int) w).getD k 0
theorem updGet {lt:Int→Int→Bool}{o v:List Int}{k:Nat}(h1:k<o.length)(h2:k<v.length):(upd lt o v).getD k 0=if lt (v.getD k 0) (o.getD k 0) then v.getD k 0 else o.getD k 0:=by
 unfold upd
 simp[jjr,List.getElem?_zipWith,h1,h2]
theorem mst_spec {lt:Int→Int→Bool}(O:Ord lt){data:List Int}{w n:Nat}(h:data.length=n*w){k:Nat}(hk:k<w):∀ m,m≤n→0<n →
  (∀ j,j<m→lt (col data w j k) ((mst lt data w m).getD k 0)=false) ∧ ∃ j,j<max m 1∧(mst lt data w m).getD k 0=col data w j k:=by
 intro m
 induction m with
 | zero=>intro _ _;exact⟨fun j hj=>by omega,0,by omega,by simp[mst,col]⟩
 | succ m ih=>
  intro hm hn
  obtain⟨h1,j,hj,h2⟩:=ih (by omega) hn
  have hl1:=jc0 (lt:=lt) h (by omega:m≤n) hn
  have hl2:=jgO h (by omega:m<n)
  have hu:=updGet (lt:=lt) (o:=mst lt data w m) (v:=slot data ((m*w:Nat):Int) w) (k:=k) (by omega) (by omega)
  have hc:(slot data ((m*w:Nat):Int) w).getD k 0=col data w m k:=rfl
  rw[hc] at hu
  simp only[mst]
  rw[hu]
  cases hb:lt (col data w m k) ((mst lt data w m).getD k 0) with
  | true=>
   rw[if_pos rfl]
   refine⟨fun i hi=>?_,m,by omega,rfl⟩
   by_cases him:i=m
   ·subst him;exact O.irr _
   ·have h3:=h1 i (by omega)
    cases hc2:lt (col data w i k) (col data w m k) with
    | false=>rfl
    | true=>
     have h4:=O.asym _ _ hb
     rw[O.tr _ _ _ h4 h3] at hc2
     cases hc2
  | false=>
   rw[if_neg (by simp)]
   refine⟨fun i hi=>?_,j,by omega,h2⟩
   by_cases him:i=m
   ·subst him;exact hb
   ·exact h1 i (by omega)
def sg (ns:List Nat)(a b m:Nat):Nat:=(pz ((nz ns).zip (swp (ixl (swn ns a b) m) a b))).toNat
end Go.Proofs.YtbnghipgicmpdaaGreatDoor
end
section
namespace Go.Proofs.YtbnghipgicmpdaaGreatDoor
open Go Go.V Go.Gr Go.Nb
theorem nz_ofz {zs:List Int}(h:∀ z∈zs,0≤z):nz (zs.map Int.toNat)=zs:=by
 unfold nz
 rw[List.map_map]
 conv=>rhs;rw[← List.map_id zs]
 exact List.map_congr_left fun z hz=>jiZ (h z hz)
def loL (out:Int)(data:List Int):List Int:=rl (fun a b=>decide (a<b)) data out.toNat data.length
def hiL (out:Int)(data:List Int):List Int:=rl (fun a b=>decide (a>b)) data out.toNat data.length
theorem rng_ok {zs:List Int}{out:Int}{data:List Int}(hg:jak zs out data=true):data.length=PR (zs.map Int.toNat)*out.toNat∧0<PR (zs.map Int.toNat)∧(loL out data).length=out.toNat∧(hiL out data).length=out.toNat:=by
 have og:=jav hg
 have e:=nz_ofz (zs:=zs) fun z hz=>by have:=og.2.1 z hz;omega
 have p:=jeP (zs.map Int.toNat)
 rw[e] at p
 have h1:(data.length:Int)=((PR (zs.map Int.toNat)*out.toNat:Nat):Int):=by
  rw[og.2.2.1.2,p,jja,jiZ (by omega)]
 have h2:data.length=PR (zs.map Int.toNat)*out.toNat:=by exact_mod_cast h1
 have h3:0<PR (zs.map Int.toNat):=by
  have:∀ l:List Int,(∀ z∈l,2≤z∧z≤9)→0<prod l:=fun l hl=>by
   have g:∀ (l:List Int) (a:Int),0<a→(∀ z∈l,2≤z∧z≤9)→0<l.foldl (· * ·) a:=by
    intro l
    induction l with
    | nil=>exact fun a ha _=>ha
    | cons z l ih=>exact fun a ha hz=>ih (a*z) (Int.mul_pos ha (by have:=hz z (List.mem_cons_self ..);omega)) fun y hy=>hz y (List.mem_cons_of_mem _ hy)
   exact g l 1 (by decide) hl
  have:=this zs og.2.1
  omega
 have h4:out.toNat≤data.length:=by
  rw[h2]
  exact Nat.le_mul_of_pos_left _ h3
 exact⟨h2,h3,jeI h4 _,jeI h4 _⟩
theorem col_bd {data:List Int}(h:∀ v∈data,0≤v∧v≤65535)(w m k:Nat):0≤col data w m k∧col data w m k≤65535:=jbF h _ _ _
theorem jgQ {zs:List Int}{out:Int}{data:List Int}(hg:jak zs out data=true){j:Nat}(hj:j<out.toNat) :
  (0≤(loL out data).getD j 0∧(loL out data).getD j 0≤65535)∧(0≤(hiL out data).getD j 0∧(hiL out data).getD j 0≤65535) ∧
  ∀ xs,okIdx zs xs=true→(loL out data).getD j 0≤(slot data (pz (zs.zip xs)*out) out).getD j 0∧(slot data (pz (zs.zip xs)*out) out).getD j 0≤(hiL out data).getD j 0:=by
 have og:=jav hg
 have r:=rng_ok hg
 have s1:=mst_spec ord_lt r.1 hj (PR (zs.map Int.toNat)) (ji1 _) r.2.1
 have s2:=mst_spec ord_gt r.1 hj (PR (zs.map Int.toNat)) (ji1 _) r.2.1
 have e1:=rl_mst (lt:=fun a b=>decide (a<b)) r.1 (by omega) (PR (zs.map Int.toNat)) (ji1 _)
 have e2:=rl_mst (lt:=fun a b=>decide (a>b)) r.1 (by omega) (PR (zs.map Int.toNat)) (ji1 _)
 rw[← r.1] at e1 e2
 rw[← e1] at s1
 rw[← e2] at s2
 refine⟨?_,?_,fun xs hx=>?_⟩
 ·obtain⟨_,m,_,e⟩:=s1
  show 0≤(rl _ data out.toNat data.length).getD j 0∧(rl _ data out.toNat data.length).getD j 0≤65535
  rw[e]
  exact col_bd og.2.2.2 _ _ _
 ·obtain⟨_,m,_,e⟩:=s2
  show 0≤(rl _ data out.toNat data.length).getD j 0∧(rl _ data out.toNat data.length).getD j 0≤65535
  rw[e]
  exact col_bd og.2.2.2 _ _ _
 ·have e:=nz_ofz (zs:=zs) fun z hz=>by have:=og.2.1 z hz;omega
  have ip:=ixl_pz (zs.map Int.toNat) xs (by rw[e];exact hx)
  rw[e] at ip
  have em:pz (zs.zip xs)*out=(((pz (zs.zip xs)).toNat*out.toNat:Nat):Int):=by
   rw[jja,jiZ ip.1.1,jiZ (by omega)]
  have hm:(pz (zs.zip xs)).toNat<PR (zs.map Int.toNat):=by omega
  have a1:=s1.1 _ hm
  have a2:=s2.1 _ hm
  have ec:(slot data (pz (zs.zip xs)*out) out).getD j 0=col data out.toNat (pz (zs.zip xs)).toNat j:=by
   unfold col
   rw[em,show ((out.toNat:Nat):Int)=out from by omega]
  rw[ec]
  simp only[decide_eq_false_iff_not] at a1 a2
  unfold loL hiL
  omega
theorem range_q {zs:List Int}{out:Int}{data:List Int}(hg:jak zs out data=true)(hl:zs.length≤4):Cl 47 [gridD zs out data] (.tup [.ints .i64 (loL out data),.ints .i64 (hiL out data),.int .i64 0]):=by
 have og:=jav hg
 have c:=range_c zs out data (by omega) (by omega)
 rw[hg] at c
 exact c
def clI (v:Int):Int:=min (max v 0) 1000000000000
def midB (b:Int×Int):Rat:=Rat.divInt (clI b.1+clI b.2) 2000000000000
def halB (b:Int×Int):Rat:=Rat.divInt (clI b.2-clI b.1) 2000000000000
def bce (B:Nat→Int×Int):Nat→List D
 | 0=>[]
 | k+1=>bce B k++[.int .i64 (B k).1,.int .i64 (B k).2]
def slB (B:Nat→Int×Int)(n:Nat):D:=V.sl2 n (bce B n)
theorem jca (v:Int):0≤clI v∧clI v≤1000000000000:=by unfold clI;omega
theorem clI_mono {a b:Int}(h:a≤b):clI a≤clI b:=by unfold clI;omega
theorem clamp_q {b:Int×Int}(h:vb b.1 b.2=true):Cl 50 [.agg [.int .i64 b.1,.int .i64 b.2],.int .i64 0,.int .i64 1000000000000] (.tup [.agg [.int .i64 (clI b.1),.int .i64 (clI b.2)],.int .i64 0]):=by
 have c:=clamp_b b.1 b.2 0 1000000000000
 have v:=jbJ.1 h
 have b1:=jca b.1
 have b2:=jca b.2
 have m:=clI_mono v.2.1
 rw[if_pos h,if_pos (jbJ.2 (by omega))] at c
 have e:mk (min (max b.1 0) 1000000000000) (min (max b.2 0) 1000000000000)=(clI b.1,clI b.2,0):=by
  unfold mk
  rw[if_pos (jbJ.2 (by unfold clI at *; omega))]
  rfl
 rw[e] at c
 exact c
theorem divQ (a:Int):Rat.divInt a 2000000000000=(a:Rat)/2000000000000:=by
 rw[Rat.divInt_eq_div]
 rfl
theorem divF (a:Int):Rat.divInt a 65535=(a:Rat)/65535:=by
 rw[Rat.divInt_eq_div]
 rfl
theorem fq_mid (b:Int×Int):Fq 14 (midB b):=by
 have b1:=jca b.1
 have b2:=jca b.2
 exact jaX (n:=14) (d:=2000000000000) (by decide) (by omega) (by decide)
theorem fq_hal (b:Int×Int):Fq 14 (halB b):=by
 have b1:=jca b.1
 have b2:=jca b.2
 exact jaX (n:=14) (d:=2000000000000) (by decide) (by omega) (by decide)
theorem hal_bd {b:Int×Int}(h:vb b.1 b.2=true):0≤halB b∧halB b≤1:=by
 have b1:=jca b.1
 have b2:=jca b.2
 have m:=clI_mono (jbJ.1 h).2.1
 unfold halB
 rw[divQ]
 have g1:(0:Rat)≤((clI b.2-clI b.1:Int):Rat):=by exact_mod_cast (show (0:Int)≤clI b.2-clI b.1 by omega)
 have g2:((clI b.2-clI b.1:Int):Rat)≤((1000000000000:Int):Rat):=Rat.intCast_le_intCast.2 (by omega)
 rw[show ((1000000000000:Int):Rat)=1000000000000 from rfl] at g2
 constructor<;>grind
theorem fq_full {v:Int}(h:0≤v∧v≤65535):Fq 10 (Rat.divInt v 65535):=jaX (n:=10) (d:=65535) (by decide) (by omega) (by decide)
def sprQ (zs data:List Int)(out:Int)(n:Nat)(X:Nat→Int×Int)(j:Nat):Rat:=smF (fun i=>(((outS zs data out zs.length j).getD i 0:Int):Rat)*halB (X i)) (n-1)/65535
theorem spr_term {st:List Int}{n i:Nat}{b:Int×Int}(hs:rowOk n st)(h:vb b.1 b.2=true):0≤((st.getD i 0:Int):Rat)*halB b∧((st.getD i 0:Int):Rat)*halB b≤600000:=by
 have g:=hal_bd h
 have s:=hs.2 i
 have s0:(0:Rat)≤((st.getD i 0:Int):Rat):=by exact_mod_cast s.1
 have s1:((st.getD i 0:Int):Rat)≤((600000:Int):Rat):=Rat.intCast_le_intCast.2 s.2
 rw[show ((600000:Int):Rat)=600000 from rfl] at s1
 have m1:=Rat.mul_le_mul_of_nonneg_left g.2 s0
 have m0:=Rat.mul_le_mul_of_nonneg_left g.1 s0
 constructor<;>grind
theorem smF_bd {P:Nat→Rat}{n:Nat}(h:∀ i,i≤n→0≤P i∧P i≤600000):∀ k,k≤n→0≤smF P k∧smF P k≤600000*(((k+1:Nat):Int):Rat)
 | 0,hk=>by
  have:=h 0 hk
  simp only[smF]
  rw[show (((0+1:Nat):Int):Rat)=1 from rfl]
  constructor<;>grind
 | k+1,hk=>by
  have a:=smF_bd h k (by omega)
  have b:=h (k+1) hk
  simp only[smF]
  rw[show (((k+1+1:Nat):Int):Rat)=(((k+1:Nat):Int):Rat)+1 by rw[Int.natCast_add,Rat.intCast_add];rfl]
  constructor<;>grind
theorem fq_ev2 {x0 x1:Rat}{z0 z1 out:Int}{data:List Int}(hg:jak [z0,z1] out data=true)(h0:Fq 40 x0)(h1:Fq 40 x1)(j:Nat):Fq 376 (evQ [z0,z1] out data x0 x1 0 j):=by
 have og:=jav hg
 have s0:=og.2.1 z0 (by simp)
 have f0:=jbc h0 (by decide) s0
 have s1:=og.2.1 z1 (by simp)
 have f1:=jbc h1 (by decide) s1
 have fr:∀ k,Fq 43 (rqN (spR z0 x0) (spR z1 x1) 0 k):=fq_rq f0 f1 jcf
 rw[ev2_sm s0.1 s1.1]
 have fm:∀ k,Fq 92 ((fun k=>wqN (rqN (spR z0 x0) (spR z1 x1) 0) (ord2 (spR z0 x0) (spR z1 x1)) 2 k*(((slot data (pz ([z0,z1].zip ((atK [spB z0 x0,spB z1 x1,0,0] (ord2 (spR z0 x0) (spR z1 x1)) k).take 2))*out) out).getD j 0:Int):Rat)) k):=fun k=>(fq_wq fr _ 2 k).mul (jaD (n:=5) (by have:=jbF og.2.2.2 (pz ([z0,z1].zip ((atK [spB z0 x0,spB z1 x1,0,0] (ord2 (spR z0 x0) (spR z1 x1)) k).take 2))*out) out j;omega) (by omega))
 have s:=fq_sm fm 2
 have q:=s.div (jaD (n:=5) (z:=65535) jaN (by decide)) jbQ
 rw[show ((65535:Int):Rat)=65535 from rfl] at q
 exact q.mono (by decide)
theorem ev_in2 {x0 x1:Rat}{z0 z1 out:Int}{data:List Int}(hg:jak [z0,z1] out data=true){j:Nat}(hj:j<out.toNat):Rat.divInt ((loL out data).getD j 0) 65535≤evQ [z0,z1] out data x0 x1 0 j∧evQ [z0,z1] out data x0 x1 0 j≤Rat.divInt ((hiL out data).getD j 0) 65535:=by
 have og:=jav hg
 have rb:=jgQ hg hj
 have s0:=og.2.1 z0 (by simp)
 have s1:=og.2.1 z1 (by simp)
 have b:=ev_bd (s0:=z0) (s1:=z1) (s2:=2) (v:=gvF [z0,z1] out data j) (m:=(((loL out data).getD j 0:Int):Rat)) (M:=(((hiL out data).getD j 0:Int):Rat)) (by omega) (fun i k l hi hk hl=>by
  have g:=rb.2.2 [i,k] (by simp[okIdx];omega)
  exact⟨Rat.intCast_le_intCast.2 g.1,Rat.intCast_le_intCast.2 g.2⟩) x0 x1 0
 rw[divF,divF]
 show _≤evF z0 z1 2 (gvF [z0,z1] out data j) x0 x1 0/65535∧evF z0 z1 2 (gvF [z0,z1] out data j) x0 x1 0/65535≤_
 constructor<;>grind
end Go.Proofs.YtbnghipgicmpdaaGreatDoor
end
section
namespace Go.Proofs.YtbnghipgicmpdaaGreatDoor
open Go Go.V Go.Nb Go.Gr
theorem nearU_bd {x:Rat}(h0:0≤x)(h1:x≤1):0≤nearZ x 65535∧nearZ x 65535≤65535:=by
 have hd:(0:Int)<x.den:=by have:=x.den_pos;omega
 have hn:0≤x.num:=Rat.num_nonneg.2 h0
 have hn1:x.num≤x.den:=by
  have:=Rat.le_iff (a:=x) (b:=1) |>.1 h1
  simpa using this
 unfold nearZ
 have e1:((65535*2:Nat):Int)=131070:=rfl
 have e2:((x.den*2:Nat):Int)=2*(x.den:Int):=by push_cast;omega
 rw[e1,e2]
 refine⟨Int.ediv_nonneg (by omega) (by omega),?_⟩
 have:(x.num*131070+x.den)/(2*(x.den:Int))<65536:=Int.ediv_lt_of_lt_mul (by omega) (by omega)
 omega
theorem near_q {n:Nat}{x:Rat}(h:Fq n x)(h0:0<n∧n≤600)(hb:0≤x∧x≤1):Cl 61 [frT x,.int .i64 65535] (.tup [.int .i64 (nearZ x 65535),.int .i64 0]):=by
 have o:=jaB (h.ok h0.1 h0.2)
 have b:=nearU_bd hb.1 hb.2
 have c:=near_f (decZ x.num) (dec x.den) 65535 o.1 (by omega) (by omega) (by rw[o.2];omega)
 rw[o.2] at c
 exact c
def xR (ts:List Nat)(m i:Nat):Rat:=Rat.divInt ((pad4 (ixl ts m)).getD i 0) ((nz ts).getD i 0-1)
def rfW (zs:List Int)(out:Int)(data:List Int)(ts:List Nat)(m j:Nat):Int:=nearZ (evQ zs out data (xR ts m 0) (xR ts m 1) (xR ts m 2) j) 65535
def rfD (zs:List Int)(out:Int)(data:List Int)(ts:List Nat):List Int:=flat ts (fun m=>(List.range out.toNat).map (rfW zs out data ts m)) (PR ts)
theorem jeR (l:List Int)(i:Nat):(pad4 l).getD i 0=l.getD i 0:=by
 unfold pad4
 rw[jjr,jjr]
 rcases ji8 i l.length with h|h
 ·rw[jjA h]
 ·rw[jjJ h,List.getElem?_eq_none h]
  cases e:(List.replicate (4-l.length) (0:Int))[i-l.length]? with
  | none=>rfl
  | some v=>have:=jjw e;rw[List.mem_replicate] at this;rw[this.2];rfl
theorem xR_off {ts:List Nat}{m i:Nat}(h:ts.length≤i):xR ts m i=0:=by
 unfold xR
 rw[jeR,jjr,List.getElem?_eq_none (by rw[jaw];exact h)]
 simp
theorem xR_at {ts:List Nat}{m i n:Nat}(h2:∀ n∈ts,2≤n∧n≤9)(h:ts[i]? = some n):∃ a:Int,(pad4 (ixl ts m)).getD i 0=a∧(ixl ts m).getD i 0=a∧(0≤a∧a≤(n:Int)-1)∧(nz ts).getD i 0=n∧xR ts m i=Rat.divInt a ((n:Int)-1):=by
 have e:=jgy ts m i n h
 have b:=je4 (m:=m) (fun n hn=>by have:=h2 n hn;omega) h e
 have en:(nz ts).getD i 0=n:=by simp[nz,jjr,h]
 have e1:(ixl ts m).getD i 0=((m/PR (ts.drop (i+1))%n:Nat):Int):=by rw[jjr,e];rfl
 exact⟨_,by rw[jeR,e1],e1,b,en,by unfold xR;rw[jeR,e1,en]⟩
theorem xR_fq {ts:List Nat}(h2:∀ n∈ts,2≤n∧n≤9)(m i:Nat):Fq 40 (xR ts m i):=by
 rcases ji8 i ts.length with h|h
 ·have hn:=jju h
  have hb:=h2 _ (jjv h)
  obtain⟨a,_,_,ha,_,e⟩:=xR_at (m:=m) h2 hn
  rw[e]
  generalize ts[i]=n at *
  obtain⟨d,hd⟩:∃ d:Nat,(n:Int)-1=(d:Int):=⟨n-1,by omega⟩
  rw[hd]
  refine jaX (by omega) ?_ ?_
  ·exact Nat.lt_of_le_of_lt (show a.natAbs≤9 by omega) (by decide)
  ·exact Nat.lt_of_le_of_lt (show d≤9 by omega) (by decide)
 ·rw[xR_off h];exact⟨by decide,by decide⟩
theorem ev_unit2 {z0 z1 out:Int}{data:List Int}(hg:jak [z0,z1] out data=true)(x0 x1:Rat){j:Nat}(hj:j<out.toNat):0≤evQ [z0,z1] out data x0 x1 0 j∧evQ [z0,z1] out data x0 x1 0 j≤1:=by
 obtain⟨b1,b2⟩:=ev_in2 (x0:=x0) (x1:=x1) hg hj
 obtain⟨r1,r2,_⟩:=jgQ hg hj
 rw[divF] at b1
 generalize (loL out data).getD j 0=a at *
 generalize (hiL out data).getD j 0=b at *
 have a0:(0:Rat)≤(a:Rat):=Rat.intCast_le_intCast.2 r1.1
 have b0:(b:Rat)≤65535:=by
  have:=Rat.intCast_le_intCast.2 r2.2
  rwa [show ((65535:Int):Rat)=65535 from by decide +kernel] at this
 rw[divF] at b2
 constructor<;>grind
theorem rfW2 {z0 z1 out:Int}{data:List Int}{ts:List Nat}(ht:ts.length=2)(m j:Nat):rfW [z0,z1] out data ts m j=nearZ (evQ [z0,z1] out data (xR ts m 0) (xR ts m 1) 0 j) 65535:=by
 unfold rfW
 rw[xR_off (i:=2) (by omega)]
theorem refq2 {z0 z1 out:Int}{data:List Int}(hg:jak [z0,z1] out data=true)(ts:List Nat)(ht:ts.length=2)(h2:∀ n∈ts,2≤n∧n≤9)(hc:cnP out ts 2≤4096):Cl 26 [gridD [z0,z1] out data,.ints .i64 (nz ts)] (.tup [gridD (nz ts) out (rfD [z0,z1] out data ts),.int .i64 0]):=by
 have ho:=(jav hg).1
 have hl:=(jav hg).2.2.1.1
 have fx:=fun m i=>xR_fq h2 m i
 have ck:=Called.cast (jd4 [z0,z1] out data (by simp) (by omega)) (by rw[hg];first|done|rfl)
 refine refine2_t [z0,z1] data out ts (fun m i=>txq (xR ts m i)) (fun m j=>txq (evQ [z0,z1] out data (xR ts m 0) (xR ts m 1) 0 j)) (rfW [z0,z1] out data ts) rfl ht h2 ho hc ck (fun m i hm hi=>?_) (fun m hm=>evalq2 hg (fx m 0) (fx m 1)) (fun m j hm hj=>?_)
 ·obtain⟨n,hn⟩:∃ n,ts[i]? = some n:=⟨ts[i],jju (by omega)⟩
  obtain⟨a,e1,e2,ha,e3,e4⟩:=xR_at (m:=m) h2 hn
  have hb:=h2 n (jjw hn)
  have c:=jfM (n:=a) (m:=(n:Int)-1) (by omega) (by omega)
  rw[e1,e3]
  rw[← e4] at c
  exact c
 ·rw[rfW2 ht]
  exact near_q (fq_ev2 hg (fx m 0) (fx m 1) j) (by decide) (ev_unit2 hg (xR ts m 0) (xR ts m 1) hj)
theorem bandq2_1 {z0 z1 out:Int}(ho:out=1){data:List Int}(hg:jak [z0,z1] out data=true)(X:Nat→Int×Int)(hX:∀ i,i<2→vb (X i).1 (X i).2=true) :
  Cl 19 [gridD [z0,z1] out data,slB X 2] (.tup [slB (fun j=>confB (evQ [z0,z1] out data (midB (X 0)) (midB (X 1)) 0 j) (sprQ [z0,z1] data out 2 X j) (Rat.divInt ((loL out data).getD j 0) 65535) (Rat.divInt ((hiL out data).getD j 0) 65535)) out.toNat,.int .i64 0]):=by
 have og:=jav hg
 have so:=jhB (out:=out) og.2.2.2 og.2.1 2 (ji1 _)
 have rl:=rng_ok hg
 have li:=blist2a (F:=49) (fun i=>(clI (X i).1,clI (X i).2)) (bands1_20 X (clI (X 0).1,clI (X 0).2) (clamp_q (hX 0 (by decide)))) (bands1_21 X (clI (X 1).1,clI (X 1).2) (clamp_q (hX 1 (by decide))))
 have fm0:=(fq_mid (X 0)).mono (show 14≤40 by decide)
 have fm1:=(fq_mid (X 1)).mono (show 14≤40 by decide)
 have om:∀ i,i<2→Cl 51 [.int .i64 (clI (X i).1+clI (X i).2),.int .i64 2000000000000] (frT (midB (X i))):=fun i _=>jfM (by have:=jca (X i).1;have:=jca (X i).2;omega) (by decide)
 have oh:∀ i,i<2→Cl 51 [.int .i64 (clI (X i).2-clI (X i).1),.int .i64 2000000000000] (frT (halB (X i))):=fun i _=>jfM (by have:=jca (X i).1;have:=jca (X i).2;omega) (by decide)
 have ev:=evalq2 hg fm0 fm1
 have b2:∀ j,j<out.toNat→Cl 54 [frT (evQ [z0,z1] out data (midB (X 0)) (midB (X 1)) 0 j),frT (sprQ [z0,z1] data out 2 X j),frT (Rat.divInt ((loL out data).getD j 0) 65535),frT (Rat.divInt ((hiL out data).getD j 0) 65535)] (.tup [.agg [.int .i64 ((fun j=>confB (evQ [z0,z1] out data (midB (X 0)) (midB (X 1)) 0 j) (sprQ [z0,z1] data out 2 X j) (Rat.divInt ((loL out data).getD j 0) 65535) (Rat.divInt ((hiL out data).getD j 0) 65535)) j).1,.int .i64 ((fun j=>confB (evQ [z0,z1] out data (midB (X 0)) (midB (X 1)) 0 j) (sprQ [z0,z1] data out 2 X j) (Rat.divInt ((loL out data).getD j 0) 65535) (Rat.divInt ((hiL out data).getD j 0) 65535)) j).2],.int .i64 0]):=fun j hj=>by
  have rb:=jgQ hg hj
  have ei:=ev_in2 (x0:=midB (X 0)) (x1:=midB (X 1)) hg hj
  have sp:=spr_q2 (so j) (H:=fun i=>halB (X i)) (fun i _=>fq_hal (X i))
  have sb:=smF_bd (P:=fun i=>(((outS [z0,z1] data out [z0,z1].length j).getD i 0:Int):Rat)*halB (X i)) (n:=1) (fun i hi=>spr_term (so j) (hX i (by omega))) 1 (ji1 _)
  have n3:(((1+1:Nat):Int):Rat)≤3:=by decide +kernel
  refine conf_q (fq_ev2 hg fm0 fm1 j) sp.2 (fq_full rb.1) (fq_full rb.2.1) ?_ ⟨?_,ei.1⟩ ⟨ei.2,?_⟩
  ·show 0≤smF _ _/65535∧smF _ _/65535≤50000
   constructor<;>grind
  ·rw[divF]
   have:(0:Rat)≤(((loL out data).getD j 0:Int):Rat):=by exact_mod_cast rb.1.1
   grind
  ·rw[divF]
   have:(((hiL out data).getD j 0:Int):Rat)≤((65535:Int):Rat):=Rat.intCast_le_intCast.2 rb.2.1.2
   rw[show ((65535:Int):Rat)=65535 from rfl] at this
   grind
 have o1:∀ j,j<out.toNat→Cl 51 [.int .i64 ((loL out data).getD j 0),.int .i64 65535] (frT (Rat.divInt ((loL out data).getD j 0) 65535)):=fun j hj=>jfM (by have:=jgQ hg hj;omega) (by decide)
 have o2:∀ j,j<out.toNat→Cl 51 [.int .i64 ((hiL out data).getD j 0),.int .i64 65535] (frT (Rat.divInt ((hiL out data).getD j 0) 65535)):=fun j hj=>jfM (by have:=jgQ hg hj;omega) (by decide)
 have sp:∀ j,Cl 53 [.ints .i64 (outS [z0,z1] data out [z0,z1].length j),slQ (fun i=>txq (halB (X i))) 2] (.tup [frT (sprQ [z0,z1] data out 2 X j),.int .i64 0]):=fun j=>(spr_q2 (so j) (H:=fun i=>halB (X i)) (fun i _=>fq_hal (X i))).1
 subst ho
 exact bands2_t [z0,z1] data _ _ 1 X (fun i=>(clI (X i).1,clI (X i).2)) (fun i=>txq (midB (X i))) (fun i=>txq (halB (X i))) _ _ _ _ _ _ rfl (fun i _=>⟨jca _,jca _⟩) (range_q hg (by simp)) li om oh ev (steep1_t [z0,z1] data (outS [z0,z1] data 1 [z0,z1].length) hg (by simp) rfl) (blist1c (F:=52) (fun j=>confB (evQ [z0,z1] 1 data (midB (X 0)) (midB (X 1)) 0 j) (sprQ [z0,z1] data 1 2 X j) (Rat.divInt ((loL 1 data).getD j 0) 65535) (Rat.divInt ((hiL 1 data).getD j 0) 65535)) (bands2_210 (outS [z0,z1] data 1 [z0,z1].length) (fun i=>txq (halB (X i))) (fun j=>txq (evQ [z0,z1] 1 data (midB (X 0)) (midB (X 1)) 0 j)) _ _ _ _ _ _ _ _ ((fun j=>confB (evQ [z0,z1] 1 data (midB (X 0)) (midB (X 1)) 0 j) (sprQ [z0,z1] data 1 2 X j) (Rat.divInt ((loL 1 data).getD j 0) 65535) (Rat.divInt ((hiL 1 data).getD j 0) 65535)) 0) rl.2.2.1 rl.2.2.2 (sp 0) (o1 0 (by decide)) (o2 0 (by decide)) (b2 0 (by decide))))
def wkQ:Nat→Rat
 | 0=>Rat.divInt 1 2
 | 1=>Rat.divInt 1 4
 | 2=>Rat.divInt 7 20
 | 3=>Rat.divInt 3 10
 | 4=>Rat.divInt 1 1
 | _=>Rat.divInt 2 1
theorem jd6:∀ k,Fq 40 (wkQ k)
 | 0=>⟨by decide +kernel,by decide +kernel⟩
 | 1=>⟨by decide +kernel,by decide +kernel⟩
 | 2=>⟨by decide +kernel,by decide +kernel⟩
 | 3=>⟨by decide +kernel,by decide +kernel⟩
 | 4=>⟨by decide +kernel,by decide +kernel⟩
 | _+5=>by
  show Fq 40 (Rat.divInt 2 1)
  exact⟨by decide +kernel,by decide +kernel⟩
theorem jd1:jak [2,2] 1 [0,13107,26214,65535]=true:=by decide +kernel
theorem wk_ev {x0 x1 y:Rat}(h0:Fq 40 x0)(h1:Fq 40 x1)(e:evQ [2,2] 1 [0,13107,26214,65535] x0 x1 0 0=y):Cl 31 [gridD [2,2] 1 [0,13107,26214,65535],frT y,slQ (fun i=>txq (rqN x0 x1 0 i)) 2] (.bool true):=by
 have v:Cl 31 [gridD [2,2] 1 [0,13107,26214,65535],frT (evQ [2,2] 1 [0,13107,26214,65535] x0 x1 0 0),slQ (fun i=>txq (rqN x0 x1 0 i)) 2] (.bool true):=value_t _ _ _ 2 _ (fun j=>txq (evQ [2,2] 1 [0,13107,26214,65535] x0 x1 0 j)) (evalq2 jd1 h0 h1)
 rw[e] at v
 exact v
theorem wk_cell:Cl 11 [gridD [2,2] 1 [0,13107,26214,65535],slQ (fun i=>txq (wkQ i)) 2] (.tup [.ints .i64 [0,0],.ints .i64 [0,1],V.sl2 3 [.str (txq (wkQ 0)).1,.str (txq (wkQ 0)).2,.str (txq (wkQ 1)).1,.str (txq (wkQ 1)).2,.str (txq (wkQ 1)).1,.str (txq (wkQ 1)).2],.int .i64 0]):=by
 have c:=cellq2 jd1 (jd6 0) (jd6 1)
 have e0:spB 2 (wkQ 0)=0:=by decide +kernel
 have e1:spB 2 (wkQ 1)=0:=by decide +kernel
 have e2:ord2 (spR 2 (wkQ 0)) (spR 2 (wkQ 1))=[0,1]:=by decide +kernel
 rw[e0,e1,e2] at c
 have w0:wqN (rqN (spR 2 (wkQ 0)) (spR 2 (wkQ 1)) 0) [0,1] 2 0=wkQ 0:=by decide +kernel
 have w1:wqN (rqN (spR 2 (wkQ 0)) (spR 2 (wkQ 1)) 0) [0,1] 2 1=wkQ 1:=by decide +kernel
 have w2:wqN (rqN (spR 2 (wkQ 0)) (spR 2 (wkQ 1)) 0) [0,1] 2 2=wkQ 1:=by decide +kernel
 have hw:wce (fun k=>txq (wqN (rqN (spR 2 (wkQ 0)) (spR 2 (wkQ 1)) 0) [0,1] 2 k)) 3=[.str (txq (wkQ 0)).1,.str (txq (wkQ 0)).2,.str (txq (wkQ 1)).1,.str (txq (wkQ 1)).2,.str (txq (wkQ 1)).1,.str (txq (wkQ 1)).2]:=by
  simp only[wce,w0,w1,w2]
  rfl
 unfold slQ at c
 rw[hw] at c
 exact c
theorem wk_steep:Cl 22 [gridD [2,2] 1 [0,13107,26214,65535]] (.tup [.slf 1 1 (fun j=>List.take 1 (List.drop (j*1) [.ints .i64 [52428,39321]])),.int .i64 0]):=by
 have c:=steep1_t [2,2] [0,13107,26214,65535] _ jd1 (by decide) rfl
 have e:outS [2,2] [0,13107,26214,65535] 1 ([2,2]:List Int).length 0=[52428,39321]:=by decide +kernel
 rw[e] at c
 exact c
def wkB (a b c d:Int)(k:Nat):Int×Int:=if k=0 then (a,b) else (c,d)
theorem slB1 {B:Nat→Int×Int}{y z:Int}(h:B 0=(y,z)):slB B 1=V.sl2 1 [.int .i64 y,.int .i64 z]:=by
 show V.sl2 1 [.int .i64 (B 0).1,.int .i64 (B 0).2]=_
 rw[h]
theorem wk_bands {a b c d y z:Int}(h:vb a b=true∧vb c d=true)(e:confB (evQ [2,2] 1 [0,13107,26214,65535] (midB (a,b)) (midB (c,d)) 0 0) (sprQ [2,2] [0,13107,26214,65535] 1 2 (wkB a b c d) 0) (Rat.divInt ((loL 1 [0,13107,26214,65535]).getD 0 0) 65535) (Rat.divInt ((hiL 1 [0,13107,26214,65535]).getD 0 0) 65535)=(y,z)) :
  Cl 19 [gridD [2,2] 1 [0,13107,26214,65535],V.sl2 2 [.int .i64 a,.int .i64 b,.int .i64 c,.int .i64 d]] (.tup [V.sl2 1 [.int .i64 y,.int .i64 z],.int .i64 0]):=by
 have q:=bandq2_1 rfl jd1 (wkB a b c d) (fun i hi=>by
  have:i=0∨i=1:=by omega
  rcases this with rfl|rfl
  ·exact h.1
  ·exact h.2)
 refine Called.cast q ?_
 rw[show (1:Int).toNat=1 from rfl,slB1 (y:=y) (z:=z)]
 exact e
theorem wk_refine:Cl 26 [gridD [2,2] 1 [0,13107,26214,65535],.ints .i64 [3,2]] (.tup [.agg [.ints .i64 [3,2],.int .i64 1,.ints .i64 [0,13107,13107,39321,26214,65535]],.int .i64 0]):=by
 have c:=refq2 jd1 [3,2] rfl (by decide) (by decide)
 have e:rfD [2,2] 1 [0,13107,26214,65535] [3,2]=[0,13107,13107,39321,26214,65535]:=by decide +kernel
 rw[e] at c
 exact c
theorem wk_len (X:Nat→List D):Cl 13 [gridD [2,2] 1 [0,13107,26214,65535],.slf 2 1 X] (.tup [.nil,.int .i64 2]):=by
 have ck:=Called.cast (jd4 [2,2] 1 [0,13107,26214,65535] (by decide) (by decide)) (by rw[jd1];first|done|rfl)
 exact eval_e _ _ _ 2 (by decide) 1 X (loc_len _ _ _ 1 X (by decide) ck)
theorem wakes_c:Cl 6 [] (.bool true):=by
 refine wakes_t (fun k=>txq (wkQ k)) (lof_c (by omega) (by omega)) (lof_c (by omega) (by omega)) (lof_c (by omega) (by omega)) (lof_c (by omega) (by omega)) (lof_c (by omega) (by omega)) (lof_c (by omega) (by omega)) lfour_c wk_cell wk_steep
  (wk_bands (by decide +kernel) (by decide +kernel)) (wk_bands (by decide +kernel) (by decide +kernel)) wk_refine (wk_len _) (wk_ev (y:=wkQ 2) (jd6 0) (jd6 1) (by decide +kernel)) (wk_ev (y:=wkQ 3) (jd6 1) (jd6 0) (by decide +kernel)) (wk_ev (y:=wkQ 4) (jd6 5) (jd6 4) (by decide +kernel))
end Go.Proofs.YtbnghipgicmpdaaGreatDoor
end
section
namespace Go.Proofs.YtbnghipgicmpdaaGreatDoor
open Go Go.V Go.Nb
theorem cells_c (X:List (List UInt8×List UInt8))(ds:List Int)(o:Int)(vals:List Int)(sm:Bool)(kb:Int)(a z1 z2:Nat→Int)(b1 b2:Nat→Bool)(p1 p2:Nat→List Int)(hX:X.length≤281474976710656)(hk8:0≤kb∧kb≤255)(hd:∀ v∈ds,0≤v∧v≤255)(hdl:ds.length≤281474976710656)(ho:0≤o∧o≤255)(hv:∀ v∈vals,0≤v∧v≤65535)(hvl:vals.length≤281474976710656)(ha:∀ i, -32768≤a i∧a i≤32767)(hz1:∀ i,0≤z1 i∧z1 i≤65535)(hz2:∀ i,0≤z2 i∧z2 i≤65535) :
  Cl 3 [.agg [.ints .u8 ds,.int .u8 o,.ints .u16 vals,.bool sm],.int .u8 kb,(colD a z1 z2 b1 b2 p1 p2),V.sl2 X.length (tcl X)] (.bool true):=by
 have gd:=draft_c ds o vals sm hd hdl ho hv hvl
 have hg:=draft_ok ds o vals sm hv
 have hb:=nsD_bd ds
 have hl:(nz (nsD ds)).length=(nsD ds).length:=by simp[nz]
 have wk:=wakes_c
 cases X with
 | nil=>exact cells_0 ds o vals sm kb a z1 z2 b1 b2 p1 p2 _ _ _ hk8 (by omega) hg ha hz1 hz2 wk gd
 | cons q X=>exact cells_x (q::X) ds o vals sm kb a z1 z2 b1 b2 p1 p2 _ _ _ hX (by simp) hk8 (by omega) hg ha hz1 hz2 wk gd
end Go.Proofs.YtbnghipgicmpdaaGreatDoor
end
