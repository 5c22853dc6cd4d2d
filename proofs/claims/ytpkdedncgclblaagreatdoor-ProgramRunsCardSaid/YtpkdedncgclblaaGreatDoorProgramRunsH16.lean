/- What functions of the program answer at given values, part 16. Conditions: those that each theorem names. -/
import Derived.Test.YtpkdedncgclblaaGreatDoorProgramRunsH14
import Derived.Test.YtpkdedncgclblaaGreatDoorProgramRunsH15
import Derived.Test.YtpkdedncgclblaaGreatDoorProgramRunsH6
import Derived.Test.YtpkdedncgclblaaGreatDoorProgramRunsH11
import Derived.Test.YtpkdedncgclblaaGreatDoorProgramRunsH13
import Derived.Test.YtpkdedncgclblaaGreatDoorProgramRunsH12
import Derived.Test.YtpkdedncgclblaaGreatDoorProgramRunsH10
set_option linter.unusedSimpArgs false
set_option linter.unusedVariables false
set_option maxHeartbeats 8000000
set_option maxRecDepth 100000
section
namespace Go.Proofs.YtpkdedncgclblaaGreatDoor
open Go Go.V Go.Nb
theorem rtakes_c (c:Int):Cl 46 [.int .i64 c] (.int .i64 (if tkb c=true then tkn c else -1)):=by
 by_cases e1:c=1
 ·subst e1
  refine V.en tbOk Tryz.func46 ?_
  (conv=>whnf)
  refine V.st ?_
  exact Fin.of rfl
 by_cases e2:c=2
 ·subst e2
  refine V.en tbOk Tryz.func46 ?_
  (conv=>whnf)
  refine V.st ?_
  exact Fin.of rfl
 by_cases e11:c=11
 ·subst e11
  refine V.en tbOk Tryz.func46 ?_
  (conv=>whnf)
  refine V.st ?_
  exact Fin.of rfl
 by_cases e8:c=8
 ·subst e8
  refine V.en tbOk Tryz.func46 ?_
  (conv=>whnf)
  refine V.st ?_
  exact Fin.of rfl
 by_cases e9:c=9
 ·subst e9
  refine V.en tbOk Tryz.func46 ?_
  (conv=>whnf)
  refine V.st ?_
  exact Fin.of rfl
 by_cases e12:c=12
 ·subst e12
  refine V.en tbOk Tryz.func46 ?_
  (conv=>whnf)
  refine V.st ?_
  exact Fin.of rfl
 by_cases e3:c=3
 ·subst e3
  refine V.en tbOk Tryz.func46 ?_
  (conv=>whnf)
  refine V.st ?_
  exact Fin.of rfl
 by_cases e4:c=4
 ·subst e4
  refine V.en tbOk Tryz.func46 ?_
  (conv=>whnf)
  refine V.st ?_
  exact Fin.of rfl
 by_cases e5:c=5
 ·subst e5
  refine V.en tbOk Tryz.func46 ?_
  (conv=>whnf)
  refine V.st ?_
  exact Fin.of rfl
 by_cases e6:c=6
 ·subst e6
  refine V.en tbOk Tryz.func46 ?_
  (conv=>whnf)
  refine V.st ?_
  exact Fin.of rfl
 by_cases e7:c=7
 ·subst e7
  refine V.en tbOk Tryz.func46 ?_
  (conv=>whnf)
  refine V.st ?_
  exact Fin.of rfl
 by_cases e10:c=10
 ·subst e10
  refine V.en tbOk Tryz.func46 ?_
  (conv=>whnf)
  refine V.st ?_
  exact Fin.of rfl
 have h1:tkn c=0:=by unfold tkn;simp[e1,e2,e3,e4,e5,e6,e7,e8,e9,e10,e11,e12]
 have h2:tkb c=false:=decide_eq_false (by omega)
 rw[h2]
 have f1:=decide_eq_false e1
 have f2:=decide_eq_false e2
 have f3:=decide_eq_false e3
 have f4:=decide_eq_false e4
 have f5:=decide_eq_false e5
 have f6:=decide_eq_false e6
 have f7:=decide_eq_false e7
 have f8:=decide_eq_false e8
 have f9:=decide_eq_false e9
 have f10:=decide_eq_false e10
 have f11:=decide_eq_false e11
 have f12:=decide_eq_false e12
 refine V.en tbOk Tryz.func46 ?_
 (conv=>whnf)
 (conv=>whnf)
 (try simp only[f1,f2,f3,f4,f5,f6,f7,f8,f9,f10,f11,f12])
 repeat ((first|refine V.s1 ?_);(try simp only[f1,f2,f3,f4,f5,f6,f7,f8,f9,f10,f11,f12]))
 exact Fin.of rfl
theorem rtk {c:Int}(h:tkb c=true):Cl 46 [.int .i64 c] (.int .i64 (tkn c)):=by
 have r:=rtakes_c c
 rw[if_pos h] at r
 exact r
abbrev dsD (l:List (Int×Int)):D := .slf 2 l.length (fun j=>[.int .u8 (l.getD j (0,0)).1,.int .i16 (l.getD j (0,0)).2])
abbrev drD (I O:Int)(l:List (Int×Int)):D := .agg [.int .u8 I,.int .u8 O,dsD l]
theorem dins_c (I O:Int)(l:List (Int×Int))(hI:0≤I∧I≤255):Cl 26 [drD I O l] (.int .i64 (1+I%3)):=by
 refine V.en tbOk Tryz.func26 ?_
 (conv=>whnf)
 (conv=>whnf)
 (try simp only[])
 repeat ((first|refine V.s1 ?_);(try simp only[]))
 exact Fin.of rfl
theorem jhT (I O:Int)(l:List (Int×Int))(hO:0≤O∧O≤255):Cl 21 [drD I O l] (.int .i64 (1+O%3)):=by
 refine V.en tbOk Tryz.func21 ?_
 (conv=>whnf)
 (conv=>whnf)
 (try simp only[])
 repeat ((first|refine V.s1 ?_);(try simp only[]))
 exact Fin.of rfl
theorem wrap16 (a m:Int):(a%65536)%m=(IntKind.u16.wrap a).tmod m:=by
 have e:IntKind.u16.wrap a=a%65536:=by
  simp[IntKind.wrap,IntKind.bits,IntKind.signed]
 rw[e,Int.tmod_eq_emod_of_nonneg (jiu _ (by decide))]
theorem dcode_11 {n c:Int}(hn:0≤n)(h:dcode n c=11):0<n:=by
 unfold dcode at h
 split at h
 ·split at h<;>omega
 ·omega
theorem dst_len (ins:Int)(t:List (Int×Int)×Int)(s:Int×Int):(dst ins t s).1.length=t.1.length+1:=by unfold dst;simp
theorem dfo_len (ins:Int):∀ (l:List (Int×Int)) (t:List (Int×Int)×Int),(l.foldl (dst ins) t).1.length=t.1.length+l.length
 | [],t=>rfl
 | s::l,t=>by
  rw[List.foldl_cons,dfo_len ins l,dst_len,jji];omega
theorem program_c (I O:Int)(l:List (Int×Int))(hI:0≤I∧I≤255)(hO:0≤O∧O≤255)(hl:∀ s∈l,(0≤s.1∧s.1≤255) ∧ -32768≤s.2∧s.2≤32767)(hlen:l.length≤281474976710656):Cl 17 [drD I O l] (oL (dprog (1+I%3) (1+O%3) l)):=by
 have ci:=dins_c I O l hI
 have co:=jhT I O l hO
 refine V.en tbOk Tryz.func17 ?_
 (conv=>whnf)
 (conv=>whnf)
 (try simp only[])
 repeat ((first|refine V.s1 ?_);(try simp only[]))
 refine Lp.of ⟨Nat,fun k=>k≤12∧k≤l.length,fun k=>match k with|0=>[(1,.box 1 0),(3,.nil),(4,.int .i64 0),(5,.int .i64 0)]|k+1=>[(1,.box 1 0),(3,.bsl 300 0 (k+1) 2),(4,.int .i64 (dfo (1+I%3) (l.take (k+1))).2),(5,.int .i64 ((k+1:Nat):Int))],fun k=>match k with|0=>[(1,.box [.int .u8 I,.int .u8 O,dsD l])]|k+1=>[(1,.box [.int .u8 I,.int .u8 O,dsD l]),(300,.box (bcl (dfo (1+I%3) (l.take (k+1))).1))],fun k=>12-k,⟨0,⟨by omega,by omega⟩,V.wk⟩,?_⟩
 rintro k ⟨hk1,hk2⟩
 have hkc:((k:Int)+1)=((k+1:Nat):Int):=by omega
 cases k with
 | zero=>
  dsimp only
  refine V.r0 @jiA ?_
  refine V.br (fun hq=>?_) (fun hq=>?_)
  ·simp only[jir,decide_eq_true_eq] at hq
   have hkl:0<l.length:=by omega
   have hX:=hl (l.getD 0 (0,0)) (by rw[ji3,ji6 hkl];exact ji7 hkl)
   have hS:dfo (1+I%3) (l.take (0+1))=dst (1+I%3) ([],0) (l.getD 0 (0,0)):=by rw[jbF l 0 (0,0) hkl,dfo_snoc];rfl
   obtain⟨c,a,hca⟩:∃ c a,l.getD 0 (0,0)=(c,a):=⟨_,_,rfl⟩
   have hca2:l.getD (Int.toNat 0) (0,0)=(c,a):=hca
   rw[hca] at hS hX
   dsimp only at hX
   have tk:=rtk (c:=1+c%12) (by unfold tkb;simp only[decide_eq_true_eq];omega)
   (conv=>whnf)
   (try simp only[hca2])
   repeat ((first|refine V.s1 ?_|((try ((with_reducible refine .ext ?_);(conv=>whnf);(try simp only[hca2])));(with_reducible refine jaa (r:=?_) ?_ ?_);rotate_left;(focus (first|exact(tk)));(conv=>whnf))|((refine⟨_,fun _=>tk,?_⟩);(conv=>whnf)));(try simp only[hca2]))
   refine jbP [(1,.box 1 0),(3,.nil),(4,.int .i64 0),(5,.int .i64 0),(6,.box 6 0)] [(1,.box [.int .u8 I,.int .u8 O,dsD l]),(6,.box [.int .i64 1,.int .i64 0])] (CondB.mk (fun h=>?_) (fun h=>absurd h (by simp))) ?_
   ·(conv=>whnf)
    (try simp only[])
    repeat ((first|refine V.s1 ?_);(try simp only[]))
    exact V.wk
   have tk1:Cl 46 [.int .i64 1] (.int .i64 0):=rtk (c:=1) rfl
   have hS2:dst (1+I%3) ([],0) (c,a)=([(1,(IntKind.u16.wrap a).tmod (1+I%3))],1):=by
    have e1:dcode 0 (1+c%12)=1:=by unfold dcode;rw[if_pos (by omega)];rfl
    unfold dst dop
    dsimp only
    rw[e1]
    unfold darg
    rw[if_pos rfl,wrap16]
    rfl
   rw[hS2] at hS
   refine V.r0 hca2 ?_
   refine .inr ?_
   refine V.r2 hca2 ci tk1 ?_
   refine⟨0+1,⟨by omega,by omega⟩,by omega,?_⟩
   dsimp only
   rw[hS]
   refine Wk.renS 86 300 3 1 2 (by decide) (by decide) rfl rfl rfl ?_
   exact V.wk
  ·simp only[jiW,decide_eq_false_iff_not] at hq
   have hl0:l=[]:=by
    cases l with
    | nil=>rfl
    | cons q l=>simp at hq<;>omega
   have hfin:dfo (1+I%3) (l.take 12)=([],0):=by rw[hl0];rfl
   (conv=>whnf)
   (try simp only[])
   repeat ((first|refine V.s1 ?_);(try simp only[]))
   have hD:∃ D2,D2=dup (1+I%3) (1+O%3) 3 ([],0):=⟨_,rfl⟩
   obtain⟨D2,hD2⟩:=hD
   refine Lp.of ⟨List (Int×Int)×Int,fun t=>0≤t.2∧t.2≤9∧t.1.length≤20∧(t.1=[]→t.2=0) ∧ ∃ j:Nat,j≤3∧(1+O%3)-t.2≤j∧t.1.length+j≤15∧dup (1+I%3) (1+O%3) j t=D2,fun t=>match t.1 with|[]=>[(1,.box 1 0),(3,.nil),(4,.int .i64 t.2)]|q::r=>[(1,.box 1 0),(3,.bsl 300 0 (r.length+1) 2),(4,.int .i64 t.2)],fun t=>match t.1 with|[]=>[(1,.box [.int .u8 I,.int .u8 O,dsD l])]|q::r=>[(1,.box [.int .u8 I,.int .u8 O,dsD l]),(300,.box (bcl (q::r)))],fun t=>(9-t.2).toNat,⟨([],0),⟨Int.le_refl _,by decide,by simp,by simp,3,by omega,by omega,by simp<;>omega,hD2.symm⟩,V.wk⟩,?_⟩
   rintro⟨P2,n2⟩ ⟨j1,j2,j3,j4,j,j5,j6,j7,j8⟩
   dsimp only at j1 j2 j3 j4 j6 j7 j8
   cases P2 with
   | nil=>
    try dsimp only
    (conv=>whnf)
    (try simp only[])
    repeat ((first|refine V.s1 ?_|((try ((with_reducible refine .ext ?_);(conv=>whnf);(try simp only[])));(with_reducible refine jaa (r:=?_) ?_ ?_);rotate_left;(focus (first|exact(co)));(conv=>whnf)));(try simp only[]))
    refine V.br (fun hq2=>?_) (fun hq2=>?_)
    ·simp only[decide_eq_true_eq] at hq2
     (conv=>whnf)
     (try simp only[])
     repeat ((first|refine V.s1 ?_|((try ((with_reducible refine .ext ?_);(conv=>whnf);(try simp only[])));(with_reducible refine jaa (r:=?_) ?_ ?_);rotate_left;(focus (first|exact(ci)));(conv=>whnf)));(try simp only[]))
     refine⟨([]++[(1,n2%(1+I%3))],n2+1),⟨by dsimp only;omega,by dsimp only;omega,by simp at j7 ⊢ <;> omega,by simp,j-1,by omega,by dsimp only;omega,by simp at j7 ⊢; omega,?_⟩,by dsimp only;omega,?_⟩
     ·obtain⟨j',rfl⟩:∃ j',j=j'+1:=⟨j-1,by omega⟩
      rw[← j8]
      show dup (1+I%3) (1+O%3) j' _=dup (1+I%3) (1+O%3) (j'+1) ([],n2)
      rw[dup,if_pos hq2]
     ·dsimp only
      refine Wk.renS 104 300 3 1 2 (by decide) (by decide) rfl rfl rfl ?_
      exact V.wk
    ·simp only[decide_eq_false_iff_not] at hq2
     have e9:dup (1+I%3) (1+O%3) j ([],n2)=([],n2):=by
      cases j with
      | zero=>rfl
      | succ j=>rw[dup,if_neg hq2]
     rw[e9] at j8
     exact absurd (j4 rfl) (by omega)
   | cons q2 r2=>
    have pg2:=jaA (q2::r2)
    have hb:Nat.beq (bcl (q2::r2)).length ((r2.length+1)*2)=true:=by rw[jaU];exact jip _
    have hf:∀ i,D.freeL i (bcl (q2::r2)++[.int .i64 1,.int .i64 (n2%(1+I%3))])=true:=jaB (q2::r2) 1 (n2%(1+I%3))
    have e2:bcl (q2::(r2++[(1,n2%(1+I%3))]))=bcl (q2::r2)++[.int .i64 1,.int .i64 (n2%(1+I%3))]:=jaM (q2::r2) [(1,n2%(1+I%3))]
    obtain⟨B2,hB2⟩:∃ B2,B2=bcl (q2::r2):=⟨_,rfl⟩
    dsimp only
    simp only[← hB2] at pg2 hb hf e2 ⊢
    try dsimp only
    (conv=>whnf)
    (try simp only[])
    repeat ((first|refine V.s1 ?_|((try ((with_reducible refine .ext ?_);(conv=>whnf);(try simp only[])));(with_reducible refine jaa (r:=?_) ?_ ?_);rotate_left;(focus (first|exact(co)));(conv=>whnf))|(((rewrite [pg2];(conv=>whnf)));(conv=>whnf)));(try simp only[]))
    refine V.br (fun hq2=>?_) (fun hq2=>?_)
    ·simp only[decide_eq_true_eq] at hq2
     have ht:Nat.ble (r2.length+1+1) 1000000=true:=by rw[ji0];simp at j3;omega
     (conv=>whnf)
     (try simp only[])
     repeat ((first|refine V.s1 ?_|((try ((with_reducible refine .ext ?_);(conv=>whnf);(try simp only[])));(with_reducible refine jaa (r:=?_) ?_ ?_);rotate_left;(focus (first|exact(ci)));(conv=>whnf))|(((rewrite [pg2];(conv=>whnf)));(conv=>whnf))|(((simp only[hb,ht,jju,hf];(conv=>whnf)));(conv=>whnf)));(try simp only[]))
     refine⟨((q2::r2)++[(1,n2%(1+I%3))],n2+1),⟨by dsimp only;omega,by dsimp only;omega,by simp at j7 ⊢ <;> omega,by simp,j-1,by omega,by dsimp only;omega,by simp at j7 ⊢; omega,?_⟩,by dsimp only;omega,?_⟩
     ·obtain⟨j',rfl⟩:∃ j',j=j'+1:=⟨j-1,by omega⟩
      rw[← j8]
      show dup (1+I%3) (1+O%3) j' _=dup (1+I%3) (1+O%3) (j'+1) ((q2::r2),n2)
      rw[dup,if_pos hq2]
     ·dsimp only
      have e1:(r2++[((1:Int),n2%(1+I%3))]).length=r2.length+1:=by simp
      rw[ji1]
      dsimp only
      rw[e1,e2]
      refine Wk.renS 104 300 3 (r2.length+1+1) 2 (by decide) (by decide) (hf _) rfl rfl ?_
      exact V.wk
    ·simp only[decide_eq_false_iff_not] at hq2
     have e9:dup (1+I%3) (1+O%3) j ((q2::r2),n2)=((q2::r2),n2):=by
      cases j with
      | zero=>rfl
      | succ j=>rw[dup,if_neg hq2]
     rw[e9] at j8
     have hD3:dup (1+I%3) (1+O%3) 3 ([],0)=(q2::r2,n2):=hD2.symm.trans j8.symm
     have hne:0<n2:=by omega
     have hfin2:dprog (1+I%3) (1+O%3) l=(ddn (1+O%3) 9 ((q2::r2),n2)).1:=by
      unfold dprog;rw[hfin,show dup (1+I%3) (1+O%3) 3 ([],0)=(q2::r2,n2) from hD3]
     (conv=>whnf)
     (try simp only[])
     repeat ((first|refine V.s1 ?_|((try ((with_reducible refine .ext ?_);(conv=>whnf);(try simp only[])));(with_reducible refine jaa (r:=?_) ?_ ?_);rotate_left;(focus (first|fail));(conv=>whnf))|(((rewrite [pg2];(conv=>whnf)));(conv=>whnf)));(try simp only[]))
     rw[hB2]
     refine Lp.of ⟨List (Int×Int)×Int,fun t=>t.1≠[]∧t.1.length≤100∧t.2≤9∧1+O%3≤t.2 ∧ ∃ j:Nat,j≤9∧t.2-(1+O%3)≤j∧t.1.length+j≤40∧ddn (1+O%3) j t=ddn (1+O%3) 9 ((q2::r2),n2),fun t=>match t.1 with|[]=>[]|q::r=>[(1,.box 1 0),(3,.bsl 300 0 (r.length+1) 2),(4,.int .i64 t.2)],fun t=>match t.1 with|[]=>[]|q::r=>[(1,.box [.int .u8 I,.int .u8 O,dsD l]),(300,.box (bcl (q::r)))],fun t=>t.2.toNat,⟨((q2::r2),n2),⟨by simp,by simp at j3 ⊢; omega,by omega,by omega,9,by omega,by omega,by simp at j3 ⊢; omega,rfl⟩,V.wk⟩,?_⟩
     rintro⟨P3,n3⟩ ⟨i1,i2,i3,i4,j,i5,i6,i7,i8⟩
     dsimp only at i1 i2 i3 i4 i6 i7 i8
     cases P3 with
     | nil=>exact absurd rfl i1
     | cons q3 r3=>
      dsimp only
      have pg3:=jaA (q3::r3)
      have pb3:=jbs (q3::r3)
      have bo3:bslOk (bcl (q3::r3)) 0 (r3.length+1) 2=true:=jbO (q3::r3)
      have hb:Nat.beq (bcl (q3::r3)).length ((r3.length+1)*2)=true:=by rw[jaU];exact jip _
      have hf:∀ i,D.freeL i (bcl (q3::r3)++[.int .i64 3,.int .i64 0])=true:=jaB (q3::r3) 3 0
      have e2:bcl (q3::(r3++[(3,0)]))=bcl (q3::r3)++[.int .i64 3,.int .i64 0]:=jaM (q3::r3) [(3,0)]
      have eo:oL (q3::r3)=sl2 (r3.length+1) (bcl (q3::r3)):=rfl
      obtain⟨B3,hB3⟩:∃ B3,B3=bcl (q3::r3):=⟨_,rfl⟩
      simp only[← hB3] at pg3 pb3 bo3 hb hf e2 eo ⊢
      (conv=>whnf)
      (try simp only[])
      repeat ((first|refine V.s1 ?_|((try ((with_reducible refine .ext ?_);(conv=>whnf);(try simp only[])));(with_reducible refine jaa (r:=?_) ?_ ?_);rotate_left;(focus (first|exact(co)));(conv=>whnf))|(((rewrite [pg3];(conv=>whnf)));(conv=>whnf)));(try simp only[]))
      refine V.br (fun hq3=>?_) (fun hq3=>?_)
      ·simp only[decide_eq_true_eq] at hq3
       have ht:Nat.ble (r3.length+1+1) 1000000=true:=by rw[ji0];simp at i2;omega
       (conv=>whnf)
       (try simp only[])
       repeat ((first|refine V.s1 ?_|((try ((with_reducible refine .ext ?_);(conv=>whnf);(try simp only[])));(with_reducible refine jaa (r:=?_) ?_ ?_);rotate_left;(focus (first|fail));(conv=>whnf))|(((rewrite [pg3];(conv=>whnf)));(conv=>whnf))|(((simp only[hb,ht,jju,hf];(conv=>whnf)));(conv=>whnf)));(try simp only[]))
       refine⟨(q3::(r3++[(3,0)]),n3-1),⟨by simp,by simp at i7 ⊢; omega,by dsimp only;omega,by dsimp only;omega,j-1,by omega,by dsimp only;omega,by simp at i7 ⊢; omega,?_⟩,by dsimp only;omega,?_⟩
       ·obtain⟨j',rfl⟩:∃ j',j=j'+1:=⟨j-1,by omega⟩
        rw[← i8]
        show ddn (1+O%3) j' _=ddn (1+O%3) (j'+1) (q3::r3,n3)
        rw[ddn,if_pos hq3]
        rfl
       ·dsimp only
        have e1:(r3++[((3:Int),(0:Int))]).length=r3.length+1:=by simp
        rw[e1,e2]
        refine Wk.renS 114 300 3 (r3.length+1+1) 2 (by decide) (by decide) (hf _) rfl rfl ?_
        exact V.wk
      ·simp only[decide_eq_false_iff_not] at hq3
       have e9:ddn (1+O%3) j (q3::r3,n3)=(q3::r3,n3):=by
        cases j with
        | zero=>rfl
        | succ j=>rw[ddn,if_neg hq3]
       rw[hfin2,← i8,e9]
       dsimp only
       rw[eo]
       (conv=>whnf)
       (try simp only[jiy])
       repeat ((first|refine V.s1 ?_|((try ((with_reducible refine .ext ?_);(conv=>whnf);(try simp only[jiy])));(with_reducible refine jaa (r:=?_) ?_ ?_);rotate_left;(focus (first|fail));(conv=>whnf))|(((rewrite [pg3];(conv=>whnf)));(conv=>whnf))|(((rewrite [bo3];(conv=>whnf)));(conv=>whnf))|(((rewrite [pb3];(conv=>whnf)));(conv=>whnf)));(try simp only[jiy]))
       exact Fin.of rfl
 | succ k=>
  dsimp only
  have hkk:(((k+1:Nat):Int)+1)=((k+1+1:Nat):Int):=by omega
  have hP:(dfo (1+I%3) (l.take (k+1))).1.length=k+1:=by
   unfold dfo;rw[dfo_len,ji9];simp;omega
  have hG:=good_dfo (ins:=1+I%3) (by omega) (l.take (k+1)) (fun s hs=>(hl s (jjf hs)).2)
  have hn:=And.intro hG.lo hG.hi
  have hS:k+1<l.length→dfo (1+I%3) (l.take (k+1+1))=dst (1+I%3) (dfo (1+I%3) (l.take (k+1))) (l.getD (k+1) (0,0)):=fun h=>by rw[jbF l (k+1) (0,0) h,dfo_snoc]
  have hX:k+1<l.length→(0≤(l.getD (k+1) (0,0)).1∧(l.getD (k+1) (0,0)).1≤255) ∧ -32768≤(l.getD (k+1) (0,0)).2∧(l.getD (k+1) (0,0)).2≤32767:=fun h=>hl _ (by rw[ji3,ji6 h];exact ji7 h)
  clear hG
  obtain⟨t,hT⟩:∃ t,t=dfo (1+I%3) (l.take (k+1)):=⟨_,rfl⟩
  rw[← hT] at hP hn hS ⊢
  obtain⟨P,n⟩:=t
  dsimp only at hP hn hS ⊢
  have pg:=jaA P
  refine V.r0 @jiA ?_
  refine V.br (fun hq=>?_) (fun hq=>?_)
  ·simp only[jir,decide_eq_true_eq] at hq
   have hkl:k+1<l.length:=by omega
   have hS:=hS hkl
   have hX:=hX hkl
   obtain⟨c,a,hca⟩:∃ c a,l.getD (k+1) (0,0)=(c,a):=⟨_,_,rfl⟩
   rw[hca] at hS hX
   dsimp only at hX
   have tk:=rtk (c:=1+c%12) (by unfold tkb;simp only[decide_eq_true_eq];omega)
   (conv=>whnf)
   (try simp only[jiA,hca])
   repeat ((first|refine V.s1 ?_|((try ((with_reducible refine .ext ?_);(conv=>whnf);(try simp only[jiA,hca])));(with_reducible refine jaa (r:=?_) ?_ ?_);rotate_left;(focus (first|exact(tk)));(conv=>whnf))|((refine⟨_,fun _=>tk,?_⟩);(conv=>whnf))|(((rewrite [pg];(conv=>whnf)));(conv=>whnf)));(try simp only[jiA,hca]))
   refine⟨fun h1 h2=>by rw[h1,h2];rfl,?_⟩
   (conv=>whnf)
   (try simp only[jiA,hca])
   repeat ((first|refine V.s1 ?_|((try ((with_reducible refine .ext ?_);(conv=>whnf);(try simp only[jiA,hca])));(with_reducible refine jaa (r:=?_) ?_ ?_);rotate_left;(focus (first|exact(tk)));(conv=>whnf))|(((rewrite [pg];(conv=>whnf)));(conv=>whnf)));(try simp only[jiA,hca]))
   refine jbP [(1,.box 1 0),(3,.bsl 300 0 (k+1) 2),(4,.int .i64 n),(5,.int .i64 ((k+1:Nat):Int)),(6,.box 6 0)] [(1,.box [.int .u8 I,.int .u8 O,dsD l]),(300,.box (bcl P)),(6,.box [.int .i64 (dcode n (1+c%12)),.int .i64 0])] (CondB.mk (fun h=>?_) (fun h=>?_)) ?_
   ·have e:dcode n (1+c%12)=if n>8 then 3 else 1:=by
     unfold dcode
     simp only[jiJ,jir,decide_eq_true_eq] at h
     rw[if_pos (by omega)]
    rw[e]
    (conv=>whnf)
    (try simp only[])
    repeat ((first|refine V.s1 ?_|((try ((with_reducible refine .ext ?_);(conv=>whnf);(try simp only[])));(with_reducible refine jaa (r:=?_) ?_ ?_);rotate_left;(focus (first|fail));(conv=>whnf))|(((rewrite [pg];(conv=>whnf)));(conv=>whnf)));(try simp only[]))
    refine V.br (fun h8=>?_) (fun h8=>?_)
    ·rw[if_pos (of_decide_eq_true h8)]
     (conv=>whnf)
     (try simp only[])
     repeat ((first|refine V.s1 ?_|((try ((with_reducible refine .ext ?_);(conv=>whnf);(try simp only[])));(with_reducible refine jaa (r:=?_) ?_ ?_);rotate_left;(focus (first|fail));(conv=>whnf))|(((rewrite [pg];(conv=>whnf)));(conv=>whnf)));(try simp only[]))
     exact V.wk
    ·rw[if_neg (of_decide_eq_false h8)]
     (conv=>whnf)
     exact V.wk
   ·have e:dcode n (1+c%12)=1+c%12:=by
     unfold dcode
     simp only[jiK,jiW,decide_eq_false_iff_not] at h
     rw[if_neg (by omega)]
    rw[e]
    (conv=>whnf)
    exact V.wk
   have hcb:tkb (dcode n (1+c%12))=true:=dop_code 0 n (c,a)
   have hS2:dst (1+I%3) (P,n) (c,a)=(P++[(dcode n (1+c%12),darg (1+I%3) n (dcode n (1+c%12)) a)],n-tkn (dcode n (1+c%12))+1):=rfl
   rw[hS2] at hS
   have h11:dcode n (1+c%12)=11→0<n:=dcode_11 hn.1
   generalize dcode n (1+c%12)=cc at *
   (conv=>whnf)
   (try simp only[jiA,hca])
   repeat ((first|refine V.s1 ?_|((try ((with_reducible refine .ext ?_);(conv=>whnf);(try simp only[jiA,hca])));(with_reducible refine jaa (r:=?_) ?_ ?_);rotate_left;(focus (first|fail));(conv=>whnf))|(((rewrite [pg];(conv=>whnf)));(conv=>whnf)));(try simp only[jiA,hca]))
   refine jbP [(1,.box 1 0),(3,.bsl 300 0 (k+1) 2),(4,.int .i64 n),(5,.int .i64 ((k+1:Nat):Int)),(6,.box 6 0)] [(1,.box [.int .u8 I,.int .u8 O,dsD l]),(300,.box (bcl P)),(6,.box [.int .i64 cc,.int .i64 (darg (1+I%3) n cc a)])] (CondB.mk (fun h=>?_) (fun h=>?_)) ?_
   ·have e1:=of_decide_eq_true h
    have e:darg (1+I%3) n cc a=(IntKind.u16.wrap a).tmod (1+I%3):=by unfold darg;rw[if_pos e1,wrap16]
    rw[e]
    (conv=>whnf)
    (try simp only[])
    repeat ((first|refine V.s1 ?_|((try ((with_reducible refine .ext ?_);(conv=>whnf);(try simp only[])));(with_reducible refine jaa (r:=?_) ?_ ?_);rotate_left;(focus (first|exact(ci)));(conv=>whnf))|(((rewrite [pg];(conv=>whnf)));(conv=>whnf)));(try simp only[]))
    refine .inr ?_
    (conv=>whnf)
    (try simp only[])
    repeat ((first|refine V.s1 ?_|((try ((with_reducible refine .ext ?_);(conv=>whnf);(try simp only[])));(with_reducible refine jaa (r:=?_) ?_ ?_);rotate_left;(focus (first|exact(ci)));(conv=>whnf))|(((rewrite [pg];(conv=>whnf)));(conv=>whnf)));(try simp only[]))
    exact V.wk
   ·have e1:=of_decide_eq_false h
    (conv=>whnf)
    (try simp only[])
    repeat ((first|refine V.s1 ?_|((try ((with_reducible refine .ext ?_);(conv=>whnf);(try simp only[])));(with_reducible refine jaa (r:=?_) ?_ ?_);rotate_left;(focus (first|fail));(conv=>whnf))|(((rewrite [pg];(conv=>whnf)));(conv=>whnf)));(try simp only[]))
    refine V.br (fun h2=>?_) (fun h2=>?_)
    ·have e2:=of_decide_eq_true h2
     have e:darg (1+I%3) n cc a=100*a:=by unfold darg;rw[if_neg e1,if_pos e2]
     rw[e]
     (conv=>whnf)
     (try simp only[])
     repeat ((first|refine V.s1 ?_|((try ((with_reducible refine .ext ?_);(conv=>whnf);(try simp only[])));(with_reducible refine jaa (r:=?_) ?_ ?_);rotate_left;(focus (first|fail));(conv=>whnf))|(((rewrite [pg];(conv=>whnf)));(conv=>whnf)));(try simp only[]))
     exact V.wk
    ·have e2:=of_decide_eq_false h2
     (conv=>whnf)
     (try simp only[])
     repeat ((first|refine V.s1 ?_|((try ((with_reducible refine .ext ?_);(conv=>whnf);(try simp only[])));(with_reducible refine jaa (r:=?_) ?_ ?_);rotate_left;(focus (first|fail));(conv=>whnf))|(((rewrite [pg];(conv=>whnf)));(conv=>whnf)));(try simp only[]))
     refine V.br (fun h3=>?_) (fun h3=>?_)
     ·have e3:=of_decide_eq_true h3
      have e:darg (1+I%3) n cc a=(IntKind.u16.wrap a).tmod n:=by unfold darg;rw[if_neg e1,if_neg e2,if_pos e3,wrap16]
      rw[e]
      (conv=>whnf)
      (try simp only[])
      repeat ((first|refine V.s1 ?_|((try ((with_reducible refine .ext ?_);(conv=>whnf);(try simp only[])));(with_reducible refine jaa (r:=?_) ?_ ?_);rotate_left;(focus (first|fail));(conv=>whnf))|(((rewrite [pg];(conv=>whnf)));(conv=>whnf)));(try simp only[]))
      have n0:=h11 e3
      refine .inr ?_
      (conv=>whnf)
      (try simp only[])
      repeat ((first|refine V.s1 ?_|((try ((with_reducible refine .ext ?_);(conv=>whnf);(try simp only[])));(with_reducible refine jaa (r:=?_) ?_ ?_);rotate_left;(focus (first|fail));(conv=>whnf))|(((rewrite [pg];(conv=>whnf)));(conv=>whnf)));(try simp only[]))
      exact V.wk
     ·have e3:=of_decide_eq_false h3
      have e:darg (1+I%3) n cc a=0:=by unfold darg;rw[if_neg e1,if_neg e2,if_neg e3]
      rw[e]
      (conv=>whnf)
      exact V.wk
   have tk2:=rtk hcb
   have htk:=jeB cc
   have hb:Nat.beq (bcl P).length ((k+1)*2)=true:=by rw[jaU,hP];exact jip _
   have ht:Nat.ble (k+1+1) 1000000=true:=by rw[ji0];omega
   generalize darg (1+I%3) n cc a=ag at *
   have hf:∀ i,D.freeL i (bcl P++[.int .i64 cc,.int .i64 ag])=true:=jaB P cc ag
   (conv=>whnf)
   (try simp only[jiA,hkk])
   repeat ((first|refine V.s1 ?_|((try ((with_reducible refine .ext ?_);(conv=>whnf);(try simp only[jiA,hkk])));(with_reducible refine jaa (r:=?_) ?_ ?_);rotate_left;(focus (first|exact(tk2)));(conv=>whnf))|(((rewrite [pg];(conv=>whnf)));(conv=>whnf))|(((simp only[hb,ht,jju,hf];(conv=>whnf)));(conv=>whnf)));(try simp only[jiA,hkk]))
   refine⟨k+1+1,⟨by omega,by omega⟩,by omega,?_⟩
   dsimp only
   rw[hS]
   dsimp only
   rw[jaM]
   refine Wk.renS 86 300 3 (k+1+1) 2 (by decide) (by decide) (hf _) rfl rfl ?_
   exact V.wk
  ·simp only[jiW,decide_eq_false_iff_not] at hq
   have hfin:dfo (1+I%3) (l.take 12)=(P,n):=by
    rcases jiI (k+1) l.length with g|g
    ·rw[show 12=k+1 by omega];exact hT.symm
    ·rw[jjl (by omega)]
     rw[jjl g] at hT
     exact hT.symm
   (conv=>whnf)
   (try simp only[])
   repeat ((first|refine V.s1 ?_|((try ((with_reducible refine .ext ?_);(conv=>whnf);(try simp only[])));(with_reducible refine jaa (r:=?_) ?_ ?_);rotate_left;(focus (first|fail));(conv=>whnf))|(((rewrite [pg];(conv=>whnf)));(conv=>whnf)));(try simp only[]))
   cases P with
   | nil=>simp at hP
   | cons q0 r0=>
    obtain rfl:k=r0.length:=by simpa using hP.symm
    have hD:∃ D2,D2=dup (1+I%3) (1+O%3) 3 (q0::r0,n):=⟨_,rfl⟩
    obtain⟨D2,hD2⟩:=hD
    refine Lp.of ⟨List (Int×Int)×Int,fun t=>0≤t.2∧t.2≤9∧t.1.length≤20∧(t.1=[]→t.2=0) ∧ ∃ j:Nat,j≤3∧(1+O%3)-t.2≤j∧t.1.length+j≤15∧dup (1+I%3) (1+O%3) j t=D2,fun t=>match t.1 with|[]=>[(1,.box 1 0),(3,.nil),(4,.int .i64 t.2)]|q::r=>[(1,.box 1 0),(3,.bsl 300 0 (r.length+1) 2),(4,.int .i64 t.2)],fun t=>match t.1 with|[]=>[(1,.box [.int .u8 I,.int .u8 O,dsD l])]|q::r=>[(1,.box [.int .u8 I,.int .u8 O,dsD l]),(300,.box (bcl (q::r)))],fun t=>(9-t.2).toNat,⟨(q0::r0,n),⟨by dsimp only;omega,by dsimp only;omega,by simp<;>omega,by simp,3,by omega,by omega,by simp<;>omega,hD2.symm⟩,V.wk⟩,?_⟩
    rintro⟨P2,n2⟩ ⟨j1,j2,j3,j4,j,j5,j6,j7,j8⟩
    dsimp only at j1 j2 j3 j4 j6 j7 j8
    cases P2 with
    | nil=>
     try dsimp only
     (conv=>whnf)
     (try simp only[])
     repeat ((first|refine V.s1 ?_|((try ((with_reducible refine .ext ?_);(conv=>whnf);(try simp only[])));(with_reducible refine jaa (r:=?_) ?_ ?_);rotate_left;(focus (first|exact(co)));(conv=>whnf)));(try simp only[]))
     refine V.br (fun hq2=>?_) (fun hq2=>?_)
     ·simp only[decide_eq_true_eq] at hq2
      (conv=>whnf)
      (try simp only[])
      repeat ((first|refine V.s1 ?_|((try ((with_reducible refine .ext ?_);(conv=>whnf);(try simp only[])));(with_reducible refine jaa (r:=?_) ?_ ?_);rotate_left;(focus (first|exact(ci)));(conv=>whnf)));(try simp only[]))
      refine⟨([]++[(1,n2%(1+I%3))],n2+1),⟨by dsimp only;omega,by dsimp only;omega,by simp at j7 ⊢ <;> omega,by simp,j-1,by omega,by dsimp only;omega,by simp at j7 ⊢; omega,?_⟩,by dsimp only;omega,?_⟩
      ·obtain⟨j',rfl⟩:∃ j',j=j'+1:=⟨j-1,by omega⟩
       rw[← j8]
       show dup (1+I%3) (1+O%3) j' _=dup (1+I%3) (1+O%3) (j'+1) ([],n2)
       rw[dup,if_pos hq2]
      ·dsimp only
       refine Wk.renS 104 300 3 1 2 (by decide) (by decide) rfl rfl rfl ?_
       exact V.wk
     ·simp only[decide_eq_false_iff_not] at hq2
      have e9:dup (1+I%3) (1+O%3) j ([],n2)=([],n2):=by
       cases j with
       | zero=>rfl
       | succ j=>rw[dup,if_neg hq2]
      rw[e9] at j8
      exact absurd (j4 rfl) (by omega)
    | cons q2 r2=>
     have pg2:=jaA (q2::r2)
     have hb:Nat.beq (bcl (q2::r2)).length ((r2.length+1)*2)=true:=by rw[jaU];exact jip _
     have hf:∀ i,D.freeL i (bcl (q2::r2)++[.int .i64 1,.int .i64 (n2%(1+I%3))])=true:=jaB (q2::r2) 1 (n2%(1+I%3))
     have e2:bcl (q2::(r2++[(1,n2%(1+I%3))]))=bcl (q2::r2)++[.int .i64 1,.int .i64 (n2%(1+I%3))]:=jaM (q2::r2) [(1,n2%(1+I%3))]
     obtain⟨B2,hB2⟩:∃ B2,B2=bcl (q2::r2):=⟨_,rfl⟩
     dsimp only
     simp only[← hB2] at pg2 hb hf e2 ⊢
     try dsimp only
     (conv=>whnf)
     (try simp only[])
     repeat ((first|refine V.s1 ?_|((try ((with_reducible refine .ext ?_);(conv=>whnf);(try simp only[])));(with_reducible refine jaa (r:=?_) ?_ ?_);rotate_left;(focus (first|exact(co)));(conv=>whnf))|(((rewrite [pg2];(conv=>whnf)));(conv=>whnf)));(try simp only[]))
     refine V.br (fun hq2=>?_) (fun hq2=>?_)
     ·simp only[decide_eq_true_eq] at hq2
      have ht:Nat.ble (r2.length+1+1) 1000000=true:=by rw[ji0];simp at j3;omega
      (conv=>whnf)
      (try simp only[])
      repeat ((first|refine V.s1 ?_|((try ((with_reducible refine .ext ?_);(conv=>whnf);(try simp only[])));(with_reducible refine jaa (r:=?_) ?_ ?_);rotate_left;(focus (first|exact(ci)));(conv=>whnf))|(((rewrite [pg2];(conv=>whnf)));(conv=>whnf))|(((simp only[hb,ht,jju,hf];(conv=>whnf)));(conv=>whnf)));(try simp only[]))
      refine⟨((q2::r2)++[(1,n2%(1+I%3))],n2+1),⟨by dsimp only;omega,by dsimp only;omega,by simp at j7 ⊢ <;> omega,by simp,j-1,by omega,by dsimp only;omega,by simp at j7 ⊢; omega,?_⟩,by dsimp only;omega,?_⟩
      ·obtain⟨j',rfl⟩:∃ j',j=j'+1:=⟨j-1,by omega⟩
       rw[← j8]
       show dup (1+I%3) (1+O%3) j' _=dup (1+I%3) (1+O%3) (j'+1) ((q2::r2),n2)
       rw[dup,if_pos hq2]
      ·dsimp only
       have e1:(r2++[((1:Int),n2%(1+I%3))]).length=r2.length+1:=by simp
       rw[ji1]
       dsimp only
       rw[e1,e2]
       refine Wk.renS 104 300 3 (r2.length+1+1) 2 (by decide) (by decide) (hf _) rfl rfl ?_
       exact V.wk
     ·simp only[decide_eq_false_iff_not] at hq2
      have e9:dup (1+I%3) (1+O%3) j ((q2::r2),n2)=((q2::r2),n2):=by
       cases j with
       | zero=>rfl
       | succ j=>rw[dup,if_neg hq2]
      rw[e9] at j8
      have hD3:dup (1+I%3) (1+O%3) 3 (q0::r0,n)=(q2::r2,n2):=hD2.symm.trans j8.symm
      have hne:0<n2:=by omega
      have hfin2:dprog (1+I%3) (1+O%3) l=(ddn (1+O%3) 9 ((q2::r2),n2)).1:=by
       unfold dprog;rw[hfin,show dup (1+I%3) (1+O%3) 3 (q0::r0,n)=(q2::r2,n2) from hD3]
      (conv=>whnf)
      (try simp only[])
      repeat ((first|refine V.s1 ?_|((try ((with_reducible refine .ext ?_);(conv=>whnf);(try simp only[])));(with_reducible refine jaa (r:=?_) ?_ ?_);rotate_left;(focus (first|fail));(conv=>whnf))|(((rewrite [pg2];(conv=>whnf)));(conv=>whnf)));(try simp only[]))
      rw[hB2]
      refine Lp.of ⟨List (Int×Int)×Int,fun t=>t.1≠[]∧t.1.length≤100∧t.2≤9∧1+O%3≤t.2 ∧ ∃ j:Nat,j≤9∧t.2-(1+O%3)≤j∧t.1.length+j≤40∧ddn (1+O%3) j t=ddn (1+O%3) 9 ((q2::r2),n2),fun t=>match t.1 with|[]=>[]|q::r=>[(1,.box 1 0),(3,.bsl 300 0 (r.length+1) 2),(4,.int .i64 t.2)],fun t=>match t.1 with|[]=>[]|q::r=>[(1,.box [.int .u8 I,.int .u8 O,dsD l]),(300,.box (bcl (q::r)))],fun t=>t.2.toNat,⟨((q2::r2),n2),⟨by simp,by simp at j3 ⊢; omega,by omega,by omega,9,by omega,by omega,by simp at j3 ⊢; omega,rfl⟩,V.wk⟩,?_⟩
      rintro⟨P3,n3⟩ ⟨i1,i2,i3,i4,j,i5,i6,i7,i8⟩
      dsimp only at i1 i2 i3 i4 i6 i7 i8
      cases P3 with
      | nil=>exact absurd rfl i1
      | cons q3 r3=>
       dsimp only
       have pg3:=jaA (q3::r3)
       have pb3:=jbs (q3::r3)
       have bo3:bslOk (bcl (q3::r3)) 0 (r3.length+1) 2=true:=jbO (q3::r3)
       have hb:Nat.beq (bcl (q3::r3)).length ((r3.length+1)*2)=true:=by rw[jaU];exact jip _
       have hf:∀ i,D.freeL i (bcl (q3::r3)++[.int .i64 3,.int .i64 0])=true:=jaB (q3::r3) 3 0
       have e2:bcl (q3::(r3++[(3,0)]))=bcl (q3::r3)++[.int .i64 3,.int .i64 0]:=jaM (q3::r3) [(3,0)]
       have eo:oL (q3::r3)=sl2 (r3.length+1) (bcl (q3::r3)):=rfl
       obtain⟨B3,hB3⟩:∃ B3,B3=bcl (q3::r3):=⟨_,rfl⟩
       simp only[← hB3] at pg3 pb3 bo3 hb hf e2 eo ⊢
       (conv=>whnf)
       (try simp only[])
       repeat ((first|refine V.s1 ?_|((try ((with_reducible refine .ext ?_);(conv=>whnf);(try simp only[])));(with_reducible refine jaa (r:=?_) ?_ ?_);rotate_left;(focus (first|exact(co)));(conv=>whnf))|(((rewrite [pg3];(conv=>whnf)));(conv=>whnf)));(try simp only[]))
       refine V.br (fun hq3=>?_) (fun hq3=>?_)
       ·simp only[decide_eq_true_eq] at hq3
        have ht:Nat.ble (r3.length+1+1) 1000000=true:=by rw[ji0];simp at i2;omega
        (conv=>whnf)
        (try simp only[])
        repeat ((first|refine V.s1 ?_|((try ((with_reducible refine .ext ?_);(conv=>whnf);(try simp only[])));(with_reducible refine jaa (r:=?_) ?_ ?_);rotate_left;(focus (first|fail));(conv=>whnf))|(((rewrite [pg3];(conv=>whnf)));(conv=>whnf))|(((simp only[hb,ht,jju,hf];(conv=>whnf)));(conv=>whnf)));(try simp only[]))
        refine⟨(q3::(r3++[(3,0)]),n3-1),⟨by simp,by simp at i7 ⊢; omega,by dsimp only;omega,by dsimp only;omega,j-1,by omega,by dsimp only;omega,by simp at i7 ⊢; omega,?_⟩,by dsimp only;omega,?_⟩
        ·obtain⟨j',rfl⟩:∃ j',j=j'+1:=⟨j-1,by omega⟩
         rw[← i8]
         show ddn (1+O%3) j' _=ddn (1+O%3) (j'+1) (q3::r3,n3)
         rw[ddn,if_pos hq3]
         rfl
        ·dsimp only
         have e1:(r3++[((3:Int),(0:Int))]).length=r3.length+1:=by simp
         rw[e1,e2]
         refine Wk.renS 114 300 3 (r3.length+1+1) 2 (by decide) (by decide) (hf _) rfl rfl ?_
         exact V.wk
       ·simp only[decide_eq_false_iff_not] at hq3
        have e9:ddn (1+O%3) j (q3::r3,n3)=(q3::r3,n3):=by
         cases j with
         | zero=>rfl
         | succ j=>rw[ddn,if_neg hq3]
        rw[hfin2,← i8,e9]
        dsimp only
        rw[eo]
        (conv=>whnf)
        (try simp only[jiy])
        repeat ((first|refine V.s1 ?_|((try ((with_reducible refine .ext ?_);(conv=>whnf);(try simp only[jiy])));(with_reducible refine jaa (r:=?_) ?_ ?_);rotate_left;(focus (first|fail));(conv=>whnf))|(((rewrite [pg3];(conv=>whnf)));(conv=>whnf))|(((rewrite [bo3];(conv=>whnf)));(conv=>whnf))|(((rewrite [pb3];(conv=>whnf)));(conv=>whnf)));(try simp only[jiy]))
        exact Fin.of rfl
def argR (c a i n:Int):Bool:=if c=1 then decide (0≤a) && decide (a<i) else if c=2 then decide (-1000000000≤a) && decide (a≤1000000000) else if c=11 then decide (0≤a) && decide (a<n) else decide (a=0)
theorem argued_c (c a i n:Int):Cl 128 [.agg [.int .i64 c,.int .i64 a],.int .i64 i,.int .i64 n] (.bool (argR c a i n)):=by
 by_cases e1:c=1
 ·subst e1
  refine V.en tbOk Tryz.func128 ?_
  (conv=>whnf)
  (conv=>whnf)
  (try simp only[])
  repeat ((first|refine V.s1 ?_);(try simp only[]))
  exact Fin.of rfl
 by_cases e2:c=2
 ·subst e2
  refine V.en tbOk Tryz.func128 ?_
  (conv=>whnf)
  (conv=>whnf)
  (try simp only[])
  repeat ((first|refine V.s1 ?_);(try simp only[]))
  exact Fin.of rfl
 by_cases e11:c=11
 ·subst e11
  refine V.en tbOk Tryz.func128 ?_
  (conv=>whnf)
  (conv=>whnf)
  (try simp only[])
  repeat ((first|refine V.s1 ?_);(try simp only[]))
  exact Fin.of rfl
 have h1:argR c a i n=decide (a=0):=by unfold argR;rw[if_neg e1,if_neg e2,if_neg e11]
 rw[h1]
 have f1:=decide_eq_false e1
 have f2:=decide_eq_false e2
 have f11:=decide_eq_false e11
 refine V.en tbOk Tryz.func128 ?_
 refine V.r0 (V.a3 f1 f2 f11) ?_
 exact Fin.of rfl
def tkR (c:Int):Int:=if tkb c=true then tkn c else -1
def rS (i:Int)(s:Int×Int)(o:Int×Int):Option (Int×Int):=
 if (decide (tkR o.1<0) || decide (s.1<tkR o.1) || !(argR o.1 o.2 i s.1))=true then none else some (s.1-tkR o.1+1,max s.2 (s.1-tkR o.1+1))
def rL (i:Int)(s:Int×Int):List (Int×Int)→Option (Int×Int)
 | []=>some s
 | o::p=>match rS i s o with|some s'=>rL i s' p|none=>none
def rD (p:List (Int×Int))(i o:Int):Int×Bool:=
 if (decide (i<1) || decide (4<i) || decide (o<1) || decide (4<o) || decide (40<(p.length:Int)))=true then (0,false) else match rL i (0,0) p with|some (n,d)=>(d,decide (d≤16) && decide (n=o))|none=>(0,false)
theorem rL_app (i:Int)(s:Int×Int)(p q:List (Int×Int)):rL i s (p++q)=match rL i s p with|some s'=>rL i s' q|none=>none:=by
 induction p generalizing s with
 | nil=>rfl
 | cons o p ih=>
  simp only[ji1,rL]
  cases rS i s o with
  | none=>rfl
  | some s'=>exact ih s'
theorem rL_snoc (i:Int)(p:List (Int×Int))(k:Nat)(h:k<p.length):rL i (0,0) (p.take (k+1))=match rL i (0,0) (p.take k) with|some s=>rS i s (p.getD k (0,0))|none=>none:=by
 rw[jbF p k (0,0) h,rL_app]
 cases rL i (0,0) (p.take k) with
 | none=>rfl
 | some s=>
  simp only[rL]
  cases rS i s (p.getD k (0,0))<;>rfl
theorem rL_none {i:Int}{p:List (Int×Int)}{k:Nat}(h:rL i (0,0) (p.take k)=none):rL i (0,0) p=none:=by
 conv=>lhs;rw[← jjb k p]
 rw[rL_app,h]
theorem tkR_bd (c:Int) : -1≤tkR c∧tkR c≤3:=by
 unfold tkR
 have:=jeB c
 split<;>omega
theorem rL_bd {i:Int} : ∀ {p:List (Int×Int)} {s s':Int×Int},rL i s p=some s'→0≤s.1→0≤s'.1∧s'.1≤s.1+p.length∧s.2≤s'.2∧s'.2≤max s.2 (s.1+p.length)
 | [],s,s',h,h0=>by cases h;simp;omega
 | o::p,s,s',h,h0=>by
  simp only[rL] at h
  cases hs:rS i s o with
  | none=>rw[hs] at h;cases h
  | some t=>
   rw[hs] at h
   have b:=tkR_bd o.1
   unfold rS at hs
   split at hs
   ·cases hs
   ·rename_i hn
    simp only[jiJ,decide_eq_true_eq,not_or,Int.not_lt] at hn
    cases hs
    have:=rL_bd h (by dsimp only;omega)
    simp only[jji] at this ⊢
    omega
theorem rdepth_c (p:List (Int×Int))(i o:Int):Cl 60 [opsD p,.int .i64 i,.int .i64 o] (.tup [.int .i64 (rD p i o).1,.bool (rD p i o).2]):=by
 cases hL:(decide (i<1) || decide (4<i) || decide (o<1) || decide (4<o) || decide (40<(p.length:Int))) with
 | true=>
  have hs:rD p i o=(0,false):=by unfold rD;rw[if_pos hL]
  rw[hs]
  refine V.en tbOk Tryz.func60 ?_
  refine V.r0 hL ?_
  exact Fin.of rfl
 | false=>
  have hs:rD p i o=match rL i (0,0) p with|some (n,d)=>(d,decide (d≤16) && decide (n=o))|none=>(0,false):=by unfold rD;rw[if_neg (by rw[hL];decide)]<;>rfl
  have hb:1≤i∧i≤4∧1≤o∧o≤4∧p.length≤40:=by simp at hL;omega
  refine V.en tbOk Tryz.func60 ?_
  refine V.r0 hL ?_
  refine jaf (((0:Nat),(0:Int),(0:Int))) (fun k=>k.1≤p.length∧rL i (0,0) (p.take k.1)=some (k.2.1,k.2.2)) (fun k=>p.length-k.1) (fun k=>[(8,.int .i64 k.2.1),(9,.int .i64 k.2.2),(10,.int .i64 k.1)]) (fun k=>[]) ?_ ?_ ?_
  ·exact V.wk
  ·exact⟨jit _,rfl⟩
  rintro⟨k,n,d⟩ ⟨hk,hr⟩
  dsimp only at hk hr ⊢
  have hbd:=rL_bd hr (by simp)
  dsimp only at hbd
  rw[ji9] at hbd
  have hkc:((k:Int)+1)=((k+1:Nat):Int):=by omega
  (conv=>whnf)
  refine V.st ?_
  refine V.br (fun hq=>?_) (fun hq=>?_)
  ·simp only[decide_eq_true_eq] at hq
   have hk2:k<p.length:=by omega
   have hsn:=rL_snoc i p k hk2
   rw[hr] at hsn
   obtain⟨c,a,hca⟩:∃ c a,p.getD k (0,0)=(c,a):=⟨_,_,rfl⟩
   rw[hca] at hsn
   dsimp only at hsn
   have tk:=rtakes_c c
   rw[show (if tkb c=true then tkn c else -1)=tkR c from rfl] at tk
   have ag:=argued_c c a i n
   have tb:=tkR_bd c
   cases h1:(decide (tkR c<0) || decide (n<tkR c) || !(argR c a i n)) with
   | true=>
    have hn:rS i (n,d) (c,a)=none:=if_pos h1
    rw[hn] at hsn
    rw[hs,rL_none hsn]
    (conv=>whnf)
    (try simp only[jiA,hca,h1])
    repeat ((first|refine V.s1 ?_|((try ((with_reducible refine .ext ?_);(conv=>whnf);(try simp only[jiA,hca,h1])));(with_reducible refine jaa (r:=?_) ?_ ?_);rotate_left;(focus (first|exact(tk)));(conv=>whnf))|((refine⟨_,fun _=>ag,?_⟩);(conv=>whnf)));(try simp only[jiA,hca,h1]))
    exact Fin.of rfl
   | false=>
    have hn:rS i (n,d) (c,a)=some (n-tkR c+1,max d (n-tkR c+1)):=if_neg (by rw[h1];decide)
    rw[hn] at hsn
    have hbd2:0≤n-tkR c+1∧n-tkR c+1≤42:=by
     simp only[jiK,decide_eq_false_iff_not,Int.not_lt] at h1
     omega
    (conv=>whnf)
    (try simp only[jiA,hca,h1,hkc])
    repeat ((first|refine V.s1 ?_|((try ((with_reducible refine .ext ?_);(conv=>whnf);(try simp only[jiA,hca,h1,hkc])));(with_reducible refine jaa (r:=?_) ?_ ?_);rotate_left;(focus (first|exact(tk)));(conv=>whnf))|((refine⟨_,fun _=>ag,?_⟩);(conv=>whnf)));(try simp only[jiA,hca,h1,hkc]))
    exact⟨(k+1,n-tkR c+1,max d (n-tkR c+1)),⟨by dsimp only;omega,hsn⟩,by dsimp only;omega,V.wk⟩
  ·simp only[decide_eq_false_iff_not] at hq
   have hke:k=p.length:=by omega
   rw[hke,jjs] at hr
   rw[hr] at hs
   dsimp only at hs
   rw[hs]
   (conv=>whnf)
   (try simp only[])
   repeat ((first|refine V.s1 ?_);(try simp only[]))
   exact Fin.of rfl
theorem argR_e {c a i n:Int}(hc:tkb c=true):argR c a i n=(decide (loA c≤a) && decide (a≤hiA c i n)):=by
 unfold argR loA hiA
 have key:∀ x:Int,decide (a<x)=decide (a≤x-1):=fun x=>by
  rw[decide_eq_decide];omega
 by_cases e1:c=1
 ·subst e1;simp[key]
 ·by_cases e2:c=2
  ·subst e2;simp
  ·by_cases e11:c=11
   ·subst e11;simp[key]
   ·rw[if_neg e1,if_neg e2,if_neg e11,if_neg e2,if_neg e1,if_neg e2,if_neg e11]
    by_cases h:a=0
    ·subst h;rfl
    ·rw[decide_eq_false h]
     symm
     rw[jiW,decide_eq_false_iff_not,decide_eq_false_iff_not]
     omega
theorem rS_e (i:Int)(s:Int×Int)(o:Int×Int):(∀ t,svS i s o=some t→rS i s o=some t)∧(∀ t,rS i s o=some t→t.2≤16→svS i s o=some t):=by
 unfold svS rS
 cases hc:tkb o.1 with
 | false=>
  have hk:tkR o.1 = -1:=by unfold tkR;rw[hc];rfl
  refine⟨fun t h=>?_,fun t h=>?_⟩
  ·rw[if_neg (by rintro⟨h,_⟩;cases h)] at h;cases h
  ·rw[hk,if_pos (by simp)] at h;cases h
 | true=>
  have hk:tkR o.1=tkn o.1:=by unfold tkR;rw[hc];rfl
  have b:=jeB o.1
  rw[argR_e hc,hk]
  have e:s.1-tkn o.1+1=s.1+(1-tkn o.1):=by omega
  rw[e]
  refine⟨fun t h=>?_,fun t h ht=>?_⟩
  ·split at h
   ·rename_i g
    rw[if_neg]
    ·exact h
    ·simp only[jiJ,decide_eq_true_eq,Bool.not_eq_true',jiW,decide_eq_false_iff_not]
     omega
   ·cases h
  ·split at h
   ·cases h
   ·rename_i g
    simp only[jiJ,decide_eq_true_eq,Bool.not_eq_true',jiW,decide_eq_false_iff_not] at g
    cases h
    dsimp only at ht
    rw[if_pos ⟨rfl,by omega,by omega,by omega,by omega⟩]
theorem rL_e (i:Int):∀ (p:List (Int×Int)) (s:Int×Int),0≤s.1→(∀ t,svL i s p=some t→rL i s p=some t)∧(∀ t,rL i s p=some t→t.2≤16→svL i s p=some t)
 | [],s,_=>⟨fun t h=>h,fun t h _=>h⟩
 | o::p,s,h0=>by
  have e:=rS_e i s o
  simp only[svL,rL]
  refine⟨fun t h=>?_,fun t h ht=>?_⟩
  ·cases hs:svS i s o with
   | none=>rw[hs] at h;cases h
   | some u=>
    rw[hs] at h
    rw[e.1 u hs]
    refine(rL_e i p u ?_).1 t h
    have:=rL_bd (show rL i s [o]=some u by simp only[rL,e.1 u hs]) h0
    exact this.1
  ·cases hs:rS i s o with
   | none=>rw[hs] at h;cases h
   | some u=>
    rw[hs] at h
    have b:=rL_bd (show rL i s [o]=some u by simp only[rL,hs]) h0
    have b2:=rL_bd h b.1
    rw[e.2 u hs (by omega)]
    exact(rL_e i p u b.1).2 t h ht
theorem svL_16 {i:Int} : ∀ {p:List (Int×Int)} {s t:Int×Int},svL i s p=some t→s.2≤16→t.2≤16
 | [],s,t,h,k=>by cases h;exact k
 | o::p,s,t,h,k=>by
  simp only[svL] at h
  cases hs:svS i s o with
  | none=>rw[hs] at h;cases h
  | some u=>
   rw[hs] at h
   refine svL_16 h ?_
   unfold svS at hs
   split at hs
   ·cases hs;dsimp only;omega
   ·cases hs
theorem rD_e (p:List (Int×Int))(i o:Int):(rD p i o).2=(surv p i o).isSome ∧ ∀ d,surv p i o=some d→(rD p i o).1=d:=by
 unfold rD surv
 by_cases hb:1≤i∧i≤4∧1≤o∧o≤4∧p.length≤40
 ·rw[if_pos hb,if_neg (by simp only[jiJ,decide_eq_true_eq];omega)]
  have e:=rL_e i p (0,0) (by decide)
  cases hs:svL i (0,0) p with
  | some t=>
   obtain⟨n,d⟩:=t
   have h16:=svL_16 hs (by decide)
   rw[e.1 _ hs]
   dsimp only at h16 ⊢
   rw[decide_eq_true h16,Bool.true_and]
   by_cases hn:n=o
   ·rw[if_pos hn,decide_eq_true hn]
    exact⟨rfl,fun d' h=>by cases h;rfl⟩
   ·rw[if_neg hn,decide_eq_false hn]
    exact⟨rfl,fun d' h=>by cases h⟩
  | none=>
   dsimp only
   refine⟨?_,fun d h=>by cases h⟩
   cases hr:rL i (0,0) p with
   | none=>rfl
   | some t=>
    obtain⟨n,d⟩:=t
    dsimp only
    have:¬ d≤16:=fun h=>by rw[e.2 _ hr h] at hs;cases hs
    rw[decide_eq_false this]
    rfl
 ·rw[if_neg hb,if_pos (by simp only[jiJ,decide_eq_true_eq];omega)]
  exact⟨rfl,fun d h=>by cases h⟩
theorem rright_c (p:List (Int×Int))(i o:Int):Cl 61 [opsD p,.int .i64 i,.int .i64 o] (.bool (surv p i o).isSome):=by
 have d:=rdepth_c p i o
 rw[(rD_e p i o).1] at d
 refine V.en tbOk Tryz.func61 ?_
 (conv=>whnf)
 (conv=>whnf)
 (try simp only[])
 repeat ((first|refine V.s1 ?_|((try ((with_reducible refine .ext ?_);(conv=>whnf);(try simp only[])));(with_reducible refine jaa (r:=?_) ?_ ?_);rotate_left;(focus (first|exact(d)));(conv=>whnf)));(try simp only[]))
 exact Fin.of rfl
theorem rright_o (p:List (Int×Int))(i o:Int):Cl 61 [oL p,.int .i64 i,.int .i64 o] (.bool (surv p i o).isSome):=
 arg3 (rright_c p i o) (fin_o p) (Fin.same _) (Fin.same _)
structure Bnd where
 W:Int
 A:Int
 c:Int
 a:Int
structure BndOk (b:Bnd):Prop where
 W:0≤b.W∧b.W≤255
 A:0≤b.A∧b.A≤255
 c:InR .i64 b.c
 a:InR .i64 b.a
abbrev bndD (b d:Bnd):D := .agg [.int .u8 b.W,.int .u8 b.A,.int .i64 b.c,.int .i64 b.a,.int .u8 d.W,.int .u8 d.A,.int .i64 d.c,.int .i64 d.a]
def bent (b:Bnd)(p:List (Int×Int)):List (Int×Int):=bendP b.W b.A (b.c,b.a) p
theorem three_c (I O:Int)(l:List (Int×Int))(b d:Bnd)(hI:0≤I∧I≤255)(hO:0≤O∧O≤255)(hl:∀ s∈l,(0≤s.1∧s.1≤255) ∧ -32768≤s.2∧s.2≤32767)(hlen:l.length≤281474976710656)(hb:BndOk b)(hd:BndOk d) :
  Cl 33 [drD I O l,bndD b d] (.agg [oL (dprog (1+I%3) (1+O%3) l),oL (bent b (dprog (1+I%3) (1+O%3) l)),oL (bent d (bent b (dprog (1+I%3) (1+O%3) l)))]):=by
 have pc:=program_c I O l hI hO hl hlen
 have hl24:=(dprog_ok (ins:=1+I%3) (o:=1+O%3) (by omega) (by omega) l (fun s hs=>(hl s hs).2)).2
 obtain⟨p,hp⟩:∃ p,p=dprog (1+I%3) (1+O%3) l:=⟨_,rfl⟩
 rw[← hp] at pc hl24 ⊢
 have hl1:=bendP_len p b.W b.A (b.c,b.a) hb.A
 have b1:=bend_c p b.W b.A b.c b.a (by omega) hb.W hb.A hb.c hb.a
 obtain⟨p1,hp1⟩:∃ p1,p1=bent b p:=⟨_,rfl⟩
 rw[← hp1]
 rw[show bendP b.W b.A (b.c,b.a) p=p1 from hp1.symm] at b1 hl1
 have b2:=bend_c p1 d.W d.A d.c d.a (by omega) hd.W hd.A hd.c hd.a
 obtain⟨p2,hp2⟩:∃ p2,p2=bent d p1:=⟨_,rfl⟩
 rw[← hp2]
 rw[show bendP d.W d.A (d.c,d.a) p1=p2 from hp2.symm] at b2
 refine V.en tbOk Tryz.func33 ?_
 (conv=>whnf)
 (conv=>whnf)
 (try simp only[])
 repeat ((first|refine V.s1 ?_|((try ((with_reducible refine .ext ?_);(conv=>whnf);(try simp only[])));(with_reducible refine jaa (r:=?_) ?_ ?_);rotate_left;(focus (first|exact(pc)|exact(b1)|exact(b2)));(conv=>whnf)));(try simp only[]))
 exact Fin.of rfl
end Go.Proofs.YtpkdedncgclblaaGreatDoor
end
section
namespace Go.Proofs.YtpkdedncgclblaaGreatDoor
open Go Go.V Go.Nb Go.RowKit
def bndL:List Lf:=[.int .u8,.int .u8,.int .i64,.int .i64,.int .u8,.int .u8,.int .i64,.int .i64]
theorem bnd_den {w:World}{cs:Array Value}(h:leavesOk w bndL cs.toList):∃ b d:Bnd,Den Env.dummy (pubOf w) (bndD b d) (.agg cs)∧BndOk b∧BndOk d:=by
 obtain⟨v0,r0,e0,⟨W,h0,k0⟩,v1,r1,e1,⟨A,h1,k1⟩,v2,r2,e2,⟨c,h2,k2⟩,v3,r3,e3,⟨a,h3,k3⟩,v4,r4,e4,⟨W',h4,k4⟩,v5,r5,e5,⟨A',h5,k5⟩,v6,r6,e6,⟨c',h6,k6⟩,v7,r7,e7,⟨a',h7,k7⟩,e8⟩:=h
 subst e8 e7 e6 e5 e4 e3 e2 e1
 obtain rfl:cs = #[v0,v1,v2,v3,v4,v5,v6,v7]:=by cases cs;simp_all
 subst h0 h1 h2 h3 h4 h5 h6 h7
 have u8:∀ {x:Int},InR .u8 x→0≤x∧x≤255:=fun h=>by simpa [InR,V.lo,V.hi] using h
 refine⟨⟨W,A,c,a⟩,⟨W',A',c',a'⟩,⟨_,rfl,⟨_,_,rfl,⟨rfl,k0⟩,_,_,rfl,⟨rfl,k1⟩,_,_,rfl,⟨rfl,k2⟩,_,_,rfl,⟨rfl,k3⟩,_,_,rfl,⟨rfl,k4⟩,_,_,rfl,⟨rfl,k5⟩,_,_,rfl,⟨rfl,k6⟩,_,_,rfl,⟨rfl,k7⟩,rfl⟩,?_⟩,⟨u8 k0,u8 k1,k2,k3⟩,⟨u8 k4,u8 k5,k6,k7⟩⟩
 intro v hv
 simp only[ji5,jjr,or_false] at hv
 rcases hv with rfl|rfl|rfl|rfl|rfl|rfl|rfl|rfl<;>rfl
end Go.Proofs.YtpkdedncgclblaaGreatDoor
end
section
namespace Go.Proofs.YtpkdedncgclblaaGreatDoor
open Go Go.V Go.Nb
theorem in01_c_o (s:List UInt8)(h:okW s=true):Cl 68 [.str s] (plD (wval s)):=by
 obtain⟨d,j,neg,S,e1,e2⟩:=sg_of s
 rw[e2]
 rw[e1] at h
 unfold okD at h
 simp only[jir,Bool.not_eq_true',jiK,decide_eq_false_iff_not,ji2] at h
 exact in01_g s d j neg S h.1.2 (by omega) (by have:=S.hl;omega)
theorem jhc {α:Type}(l:List α)(d:α)(h:1≤l.length):l.drop (l.length-1)=[l.getD (l.length-1) d]:=by
 rw[List.drop_eq_getElem_cons (by omega),ji3,ji6 (by omega),jjt (by omega)]
 rfl
theorem je6 {α:Type}(l:List α)(d:α)(h:2≤l.length):l.drop (l.length-2)=[l.getD (l.length-2) d,l.getD (l.length-1) d]:=by
 rw[List.drop_eq_getElem_cons (by omega),ji3,ji6 (by omega),show l.length-2+1=l.length-1 by omega,jhc l d (by omega)]
 rfl
theorem drop_3 {α:Type}(l:List α)(d:α)(h:3≤l.length):l.drop (l.length-3)=[l.getD (l.length-3) d,l.getD (l.length-2) d,l.getD (l.length-1) d]:=by
 rw[List.drop_eq_getElem_cons (by omega),ji3,ji6 (by omega),show l.length-3+1=l.length-2 by omega,je6 l d (by omega)]
 rfl
theorem jhx {n m:Int}(hn : -9223372036854775807≤n∧n≤9223372036854775807)(hm:1≤m∧m≤9223372036854775807):Cl 129 [.int .i64 n,.int .i64 m] (frT (Rat.divInt n m)):=by
 have c:=y_rof hn hm
 unfold frT at *
 generalize Rat.divInt n m=q at *
 refine V.en tbOk Tryz.func129 ?_
 (conv=>whnf)
 refine V.st ?_
 repeat ((try ((with_reducible refine .ext ?_);(conv=>whnf)));(with_reducible refine jaa (r:=?_) ?_ ?_);rotate_left;(focus (first|exact(c)));(conv=>whnf);refine V.st ?_)
 exact Fin.of rfl
inductive All2 {α β : Type} (R : α → β → Prop) : List α → List β → Prop
  | nil : All2 R [] []
  | cons {a : α} {b : β} {l : List α} {m : List β} (h : R a b) (t : All2 R l m) : All2 R (a :: l) (b :: m)
theorem All2.len {α β:Type}{R:α→β→Prop}{l:List α}{m:List β}(h:All2 R l m):l.length=m.length:=by
 induction h with
 | nil=>rfl
 | cons _ _ ih=>simp[ih]
theorem All2.app {α β:Type}{R:α→β→Prop}{l l2:List α}{m m2:List β}(h:All2 R l m)(g:All2 R l2 m2):All2 R (l++l2) (m++m2):=by
 induction h with
 | nil=>exact g
 | cons h _ ih=>exact .cons h ih
theorem All2.take {α β:Type}{R:α→β→Prop}{l:List α}{m:List β}(h:All2 R l m):∀ n,All2 R (l.take n) (m.take n):=by
 induction h with
 | nil=>intro n;simp;exact .nil
 | cons h _ ih=>intro n;cases n with
  | zero=>exact .nil
  | succ n=>exact .cons h (ih n)
theorem All2.drop {α β:Type}{R:α→β→Prop}{l:List α}{m:List β}(h:All2 R l m):∀ n,All2 R (l.drop n) (m.drop n):=by
 induction h with
 | nil=>intro n;simp;exact .nil
 | cons h t ih=>intro n;cases n with
  | zero=>exact .cons h t
  | succ n=>exact ih n
theorem All2.get {α β:Type}{R:α→β→Prop}{l:List α}{m:List β}(h:All2 R l m)(a:α)(b:β):∀ i,i<l.length→R (l.getD i a) (m.getD i b):=by
 induction h with
 | nil=>intro i hi;simp at hi
 | cons h t ih=>intro i hi;cases i with
  | zero=>exact h
  | succ i=>exact ih i (by simpa using hi)
theorem All2.one {α β:Type}{R:α→β→Prop}{t:List α}{s:List β}(h:All2 R t s)(hl:t.length=1):∃ u u',t=[u]∧s=[u']∧R u u':=by
 match h,hl with
 | @All2.cons _ _ _ u u' _ _ hu .nil,_=>exact⟨u,u',rfl,rfl,hu⟩
theorem All2.two {α β:Type}{R:α→β→Prop}{t:List α}{s:List β}(h:All2 R t s)(hl:t.length=2):∃ u u' v v',t=[u,v]∧s=[u',v']∧R u u'∧R v v':=by
 match h,hl with
 | @All2.cons _ _ _ u u' _ _ hu (@All2.cons _ _ _ v v' _ _ hv .nil),_=>exact⟨u,u',v,v',rfl,rfl,hu,hv⟩
theorem All2.three {α β:Type}{R:α→β→Prop}{t:List α}{s:List β}(h:All2 R t s)(hl:t.length=3):∃ u u' v v' w w',t=[u,v,w]∧s=[u',v',w']∧R u u'∧R v v'∧R w w':=by
 match h,hl with
 | @All2.cons _ _ _ u u' _ _ hu (@All2.cons _ _ _ v v' _ _ hv (@All2.cons _ _ _ w w' _ _ hw .nil)),_=>exact⟨u,u',v,v',w,w',rfl,rfl,hu,hv,hw⟩
theorem surv_out {p:List (Int×Int)}{i o d:Int}(h:surv p i o=some d):(1≤i∧i≤4∧1≤o∧o≤4∧p.length≤40)∧svL i (0,0) p=some (o,d):=by
 unfold surv at h
 split at h
 case isFalse=>cases h
 rename_i c
 refine⟨c,?_⟩
 split at h
 case h_2=>cases h
 rename_i n d' e
 split at h
 ·rename_i e2;cases h;rw[e,e2]
 ·cases h
theorem rn_len {α:Type}[Inhabited α]{M:Mc α}{x:List α}{i:Int} : ∀ {p:List (Int×Int)} {s t:Int×Int} {l l':List α},svL i s p=some t→s.1=(l.length:Int)→rnM M x p l = .ok l'→t.1=(l'.length:Int)
 | [],_,_,_,_,h,hl,h1=>by cases h;cases h1;exact hl
 | o::p,s,t,l,l',h,hl,h1=>by
  simp only[svL,rnM] at h h1
  cases e:svS i s o with
  | none=>rw[e] at h;cases h
  | some s2=>
   rw[e] at h
   cases e2:stM M x o l with
   | error er=>rw[e2] at h1;cases h1
   | ok l2=>rw[e2] at h1;exact rn_len h (jfZ e hl e2) h1
theorem surv_len {α:Type}[Inhabited α]{M:Mc α}{x:List α}{p:List (Int×Int)}{i o d:Int}{l:List α}(hs:surv p i o=some d)(h:rnM M x p [] = .ok l):(l.length:Int)=o:=(rn_len (surv_out hs).2 rfl h).symm
theorem getD_bd {xs:List Int}(hb:∀ x∈xs, -32768≤x∧x≤32767)(i:Nat) : -32768≤xs.getD i 0∧xs.getD i 0≤32767:=by
 rw[ji3]
 rcases jiI i xs.length with h|h
 ·rw[ji6 h];exact hb _ (ji7 h)
 ·rw[List.getElem?_eq_none h];simp
end Go.Proofs.YtpkdedncgclblaaGreatDoor
end
section
namespace Go.V
open Go Go.RowKit
theorem Wk.nilS {off:Nat}{L:Sl}{H:Hp}{L2:Sl}{H2:Hp}(t e:Nat)(f:Nat→List D)(ht:look L t = .nil)(h:Wk off ((t,.slf e 0 f)::L) H L2 H2):Wk off L H L2 H2:=by
 refine⟨fun cx E h' a w e' S=>?_⟩
 subst e'
 have hv:=S.knows t
 rw[ht] at hv
 refine h.out cx E h' a w rfl (S.reslot ?_)
 simp only[Den] at hv ⊢
 exact⟨none,0,hv,jiB _,by omega,by simp⟩
end Go.V
namespace Go.Proofs.YtpkdedncgclblaaGreatDoor
open Go Go.V Go.Nb
end Go.Proofs.YtpkdedncgclblaaGreatDoor
end
section
namespace Go.Proofs.YtpkdedncgclblaaGreatDoor
open Go Go.V Go.Nb
theorem jbz {q:Rat}(h:okF q=true):Cl 41 [frT q] (.bool true):=by
 obtain⟨o,e⟩:=jbg h
 have c:=jbG (decZ q.num) (dec q.den) (ja9 o).1 (ja9 o).2
 rw[o] at c
 exact c
theorem rin_f {q:Rat}(h:okF q=true):Cl 44 [frT q] (raD q):=by
 obtain⟨o,e⟩:=jbg h
 have c:=jeX (decZ q.num) (dec q.den) o
 rw[e] at c
 exact c
theorem rq4_f {q:Rat}(h:okF q=true):Q4 30000000 q:=by
 obtain⟨o,e⟩:=jbg h
 have c:=q4_qv o
 rw[e] at c
 exact c.mono (by omega)
theorem jgJ {n:Nat}{q:Rat}(h:Fq n q)(h6:n≤1600):Sm 90000000 q.num∧Sm 90000000 (q.den:Int):=by
 have h2:=h.mono (n:=4*400) (by omega)
 obtain⟨k,hk⟩:∃ k,400=k:=⟨_,rfl⟩
 rw[hk] at h2
 exact⟨sm_nat (by omega) h2.1,by unfold Sm;rw[jiQ];exact sm_nat (by omega) h2.2⟩
theorem radd_f {p q:Rat}(hp:okF p=true)(hq:okF q=true):Cl 13 [frT p,frT q] (frR (p+q)):=by
 obtain⟨o1,e1⟩:=jbg hp
 obtain⟨o2,e2⟩:=jbg hq
 have s:=jgJ ((jaS hp).add (jaS hq)) (by omega)
 have c:=radd (decZ p.num) (dec p.den) (decZ q.num) (dec q.den) o1 o2 (by rw[e1,e2];exact s.1) (by rw[e1,e2];exact s.2)
 rw[e1,e2] at c
 exact c
theorem rsub_f {p q:Rat}(hp:okF p=true)(hq:okF q=true):Cl 133 [frT p,frT q] (frR (p-q)):=by
 obtain⟨o1,e1⟩:=jbg hp
 obtain⟨o2,e2⟩:=jbg hq
 have s:=jgJ ((jaS hp).sub (jaS hq)) (by omega)
 have c:=rsub (decZ p.num) (dec p.den) (decZ q.num) (dec q.den) o1 o2 (by rw[e1,e2];exact s.1) (by rw[e1,e2];exact s.2)
 rw[e1,e2] at c
 exact c
theorem rmul_f {p q:Rat}(hp:okF p=true)(hq:okF q=true):Cl 14 [frT p,frT q] (frR (p*q)):=by
 obtain⟨o1,e1⟩:=jbg hp
 obtain⟨o2,e2⟩:=jbg hq
 have s:=jgJ ((jaS hp).mul (jaS hq)) (by omega)
 have c:=rmul (decZ p.num) (dec p.den) (decZ q.num) (dec q.den) o1 o2 (by rw[e1,e2];exact s.1) (by rw[e1,e2];exact s.2)
 rw[e1,e2] at c
 exact c
theorem rneg_f {q:Rat}(h:okF q=true):Cl 130 [frT q] (.tup [frT (-q),.int .i64 0]):=by
 have r:=jbz h
 have i:=rin_f h
 have t:=turn02_c q ((rq4_f h).mono (by omega))
 have s:=jgJ (jaS (jdW h)) (by omega)
 have w:=jdd (-q) s.1 s.2
 rw[je1 (jdW h)] at w
 unfold frT at *
 generalize -q=u at *
 refine V.en tbOk Tryz.func130 ?_
 (conv=>whnf)
 (conv=>whnf)
 (try simp only[])
 repeat ((first|refine V.s1 ?_|((try ((with_reducible refine .ext ?_);(conv=>whnf);(try simp only[])));(with_reducible refine jaa (r:=?_) ?_ ?_);rotate_left;(focus (first|exact(r)|exact(i)|exact(t)|exact(w)));(conv=>whnf)));(try simp only[]))
 exact Fin.of rfl
theorem jhD (q p:Rat):q<p∨q=p∨p<q:=by
 rcases Rat.le_total (a:=q) (b:=p) with h|h
 ·by_cases e:q=p
  ·exact .inr (.inl e)
  ·exact .inl (Rat.lt_of_le_of_ne h e)
 ·by_cases e:q=p
  ·exact .inr (.inl e)
  ·exact .inr (.inr (Rat.lt_of_le_of_ne h (Ne.symm e)))
theorem rmin_f {p q:Rat}(hp:okF p=true)(hq:okF q=true):Cl 134 [frT p,frT q] (.tup [frT (if q<p then q else p),.int .i64 0]):=by
 have r1:=jbz hp
 have r2:=jbz hq
 have i1:=rin_f hp
 have i2:=rin_f hq
 have o:=jcp q p ((rq4_f hq).mono (by omega)) ((rq4_f hp).mono (by omega))
 have e:decide (ordQ q p<0)=decide (q<p):=by
  rw[decide_eq_decide]
  unfold ordQ
  have t:=jhD q p
  split
  ·rename_i h;simp[h]
  ·split
   ·rename_i h h2;subst h2;simp[Rat.lt_irrefl]
   ·rename_i h h2;simp[h]
 unfold frT at *
 generalize ordQ q p=z at *
 by_cases hc:q<p
 ·rw[if_pos hc]
  rw[decide_eq_true hc] at e
  refine V.en tbOk Tryz.func134 ?_
  refine V.r2 e r1 r2 ?_
  refine⟨Pq55z,[],V.pok,.go (jab ?_)⟩
  refine V.r3 e i1 i2 o ?_
  exact Fin.of rfl
 ·rw[if_neg hc]
  rw[decide_eq_false hc] at e
  refine V.en tbOk Tryz.func134 ?_
  refine V.r2 e r1 r2 ?_
  refine⟨Pq55z,[],V.pok,.go (jab ?_)⟩
  refine V.r3 e i1 i2 o ?_
  exact Fin.of rfl
theorem rmax_f {p q:Rat}(hp:okF p=true)(hq:okF q=true):Cl 135 [frT p,frT q] (.tup [frT (if p<q then q else p),.int .i64 0]):=by
 have r1:=jbz hp
 have r2:=jbz hq
 have i1:=rin_f hp
 have i2:=rin_f hq
 have o:=jcp q p ((rq4_f hq).mono (by omega)) ((rq4_f hp).mono (by omega))
 have e:decide (0<ordQ q p)=decide (p<q):=by
  rw[decide_eq_decide]
  unfold ordQ
  have t:=jhD q p
  split
  ·rename_i h;simp[Rat.not_lt.2 (Rat.le_of_lt h)]
  ·split
   ·rename_i h h2;subst h2;simp[Rat.lt_irrefl]
   ·rename_i h h2;rcases t with t|t|t<;>first|exact absurd t h|exact absurd t h2|simp[t]
 unfold frT at *
 generalize ordQ q p=z at *
 by_cases hc:p<q
 ·rw[if_pos hc]
  rw[decide_eq_true hc] at e
  refine V.en tbOk Tryz.func135 ?_
  refine V.r2 e r1 r2 ?_
  refine⟨Pq55z,[],V.pok,.go (jab ?_)⟩
  refine V.r3 e i1 i2 o ?_
  exact Fin.of rfl
 ·rw[if_neg hc]
  rw[decide_eq_false hc] at e
  refine V.en tbOk Tryz.func135 ?_
  refine V.r2 e r1 r2 ?_
  refine⟨Pq55z,[],V.pok,.go (jab ?_)⟩
  refine V.r3 e i1 i2 o ?_
  exact Fin.of rfl
theorem rsign_f {q:Rat}(h:okF q=true):Cl 136 [frT q] (.tup [.int .i64 (ordQ q 0),.int .i64 0]):=by
 have r:=jbz h
 have i:=rin_f h
 have z:Cl 66 [.int .i64 0,.int .i64 1] (raD 0):=quick_c 0 1 (by simp[InR,V.lo,V.hi]) (by simp[InR,V.lo,V.hi]) (by decide)
 have o:=jcp q 0 ((rq4_f h).mono (by omega)) ((show Q4 30000000 0 from rq4_f (q:=0) (by decide +kernel)).mono (by omega))
 unfold frT at *
 generalize (0:Rat)=zz at *
 generalize ordQ q zz=w at *
 refine V.en tbOk Tryz.func136 ?_
 (conv=>whnf)
 (conv=>whnf)
 (try simp only[])
 repeat ((first|refine V.s1 ?_|((try ((with_reducible refine .ext ?_);(conv=>whnf);(try simp only[])));(with_reducible refine jaa (r:=?_) ?_ ?_);rotate_left;(focus (first|exact(r)|exact(i)|exact(z)|exact(o)));(conv=>whnf)));(try simp only[]))
 exact Fin.of rfl
theorem rabs_f {q:Rat}(h:okF q=true):Cl 131 [frT q] (.tup [frT (absQ q),.int .i64 0]):=by
 have r:=jbz h
 have i:=rin_f h
 have s:=jgJ (jaS (jdX h)) (by omega)
 have w:=jdd (absQ q) s.1 s.2
 rw[je1 (jdX h)] at w
 have e:raD (absQ q) = .agg [.bool false,.ints .i64 (mg 10000 q.num.natAbs),.bool false,.ints .i64 (mg 10000 q.den)]:=by
  have e1:(absQ q).num.natAbs=q.num.natAbs:=by
   unfold absQ;split
   ·rw[Rat.neg_num,Int.natAbs_neg]
   ·rfl
  have e2:(absQ q).den=q.den:=by
   unfold absQ;split
   ·rw[Rat.neg_den]
   ·rfl
  have e3:decide ((absQ q).num<0)=false:=by
   unfold absQ;split
   ·rw[Rat.neg_num];exact decide_eq_false (by omega)
   ·exact decide_eq_false (by omega)
  unfold raD
  rw[e1,e2,e3]
 rw[e] at w
 unfold raD at i
 unfold frT at *
 generalize absQ q=u at *
 refine V.en tbOk Tryz.func131 ?_
 (conv=>whnf)
 (conv=>whnf)
 (try simp only[])
 repeat ((first|refine V.s1 ?_|((try ((with_reducible refine .ext ?_);(conv=>whnf);(try simp only[])));(with_reducible refine jaa (r:=?_) ?_ ?_);rotate_left;(focus (first|exact(r)|exact(i)|exact(w)));(conv=>whnf)));(try simp only[]))
 exact Fin.of rfl
theorem rclamp_f {q:Rat}(h:okF q=true):Cl 132 [frT q,frT 0,frT 1] (.tup [frT (clQ q),.int .i64 0]):=by
 have h0:okF 0=true:=by decide +kernel
 have h1:okF 1=true:=by decide +kernel
 have r:=jbz h
 have r0:=jbz h0
 have r1:=jbz h1
 have i:=rin_f h
 have i0:=rin_f h0
 have i1:=rin_f h1
 have q4:=rq4_f h
 have z4:=rq4_f h0
 have o4:=rq4_f h1
 have o01:=jcp 0 1 (z4.mono (by omega)) (o4.mono (by omega))
 have oq0:=jcp q 0 (q4.mono (by omega)) (z4.mono (by omega))
 have oq1:=jcp q 1 (q4.mono (by omega)) (o4.mono (by omega))
 have e01:ordQ 0 1 = -1:=by decide +kernel
 rw[e01] at o01
 have e0:decide (ordQ q 0<0)=decide (q<0):=by
  rw[decide_eq_decide]
  unfold ordQ
  split
  ·rename_i h;simp[h]
  ·split
   ·rename_i h h2;subst h2;simp[Rat.lt_irrefl]
   ·rename_i h h2;simp[h]
 have e1:decide (0<ordQ q 1)=decide (1<q):=by
  rw[decide_eq_decide]
  unfold ordQ
  have t:=jhD q 1
  split
  ·rename_i h;simp[Rat.not_lt.2 (Rat.le_of_lt h)]
  ·split
   ·rename_i h h2;subst h2;simp[Rat.lt_irrefl]
   ·rename_i h h2;rcases t with t|t|t<;>first|exact absurd t h|exact absurd t h2|simp[t]
 have hcl:clQ q=if q<0 then 0 else if 1<q then 1 else q:=by
  unfold clQ
  by_cases g:q<0
  ·rw[if_pos g,if_pos g,if_neg (by decide +kernel)]
  ·rw[if_neg g,if_neg g]
 rw[hcl]
 unfold frT at *
 generalize ordQ q 0=z at *
 generalize ordQ q 1=y at *
 by_cases g0:q<0
 ·rw[if_pos g0]
  rw[decide_eq_true g0] at e0
  generalize (0:Rat)=zz at *
  generalize (1:Rat)=oo at *
  refine V.en tbOk Tryz.func132 ?_
  refine V.r3 e0 r r0 r1 ?_
  refine⟨Pq55z,[],V.pok,.go (jab ?_)⟩
  refine V.r3 e0 i0 i1 o01 ?_
  refine⟨Pq55z,[],V.pok,.go (jab ?_)⟩
  refine V.r3 e0 i i0 oq0 ?_
  exact Fin.of rfl
 ·rw[if_neg g0]
  rw[decide_eq_false g0] at e0
  by_cases g1:1<q
  ·rw[if_pos g1]
   rw[decide_eq_true g1] at e1
   generalize (0:Rat)=zz at *
   generalize (1:Rat)=oo at *
   refine V.en tbOk Tryz.func132 ?_
   (conv=>whnf)
   (conv=>whnf)
   (try simp only[e0,e1])
   repeat ((first|refine V.s1 ?_|((try ((with_reducible refine .ext ?_);(conv=>whnf);(try simp only[e0,e1])));(with_reducible refine jaa (r:=?_) ?_ ?_);rotate_left;(focus (first|exact(r)|exact(r0)|exact(r1)));(conv=>whnf)));(try simp only[e0,e1]))
   refine⟨Pq55z,[],V.pok,.go (jab ?_)⟩
   (conv=>whnf)
   (try simp only[e0,e1])
   repeat ((first|refine V.s1 ?_|((try ((with_reducible refine .ext ?_);(conv=>whnf);(try simp only[e0,e1])));(with_reducible refine jaa (r:=?_) ?_ ?_);rotate_left;(focus (first|exact(i0)|exact(i1)|exact(o01)));(conv=>whnf)));(try simp only[e0,e1]))
   refine⟨Pq55z,[],V.pok,.go (jab ?_)⟩
   (conv=>whnf)
   (try simp only[e0,e1])
   repeat ((first|refine V.s1 ?_|((try ((with_reducible refine .ext ?_);(conv=>whnf);(try simp only[e0,e1])));(with_reducible refine jaa (r:=?_) ?_ ?_);rotate_left;(focus (first|exact(i)|exact(i0)|exact(oq0)));(conv=>whnf)));(try simp only[e0,e1]))
   refine⟨Pq55z,[],V.pok,.go (jab ?_)⟩
   (conv=>whnf)
   (try simp only[e0,e1])
   repeat ((first|refine V.s1 ?_|((try ((with_reducible refine .ext ?_);(conv=>whnf);(try simp only[e0,e1])));(with_reducible refine jaa (r:=?_) ?_ ?_);rotate_left;(focus (first|exact(i)|exact(i1)|exact(oq1)));(conv=>whnf)));(try simp only[e0,e1]))
   exact Fin.of rfl
  ·rw[if_neg g1]
   rw[decide_eq_false g1] at e1
   generalize (0:Rat)=zz at *
   generalize (1:Rat)=oo at *
   refine V.en tbOk Tryz.func132 ?_
   (conv=>whnf)
   (conv=>whnf)
   (try simp only[e0,e1])
   repeat ((first|refine V.s1 ?_|((try ((with_reducible refine .ext ?_);(conv=>whnf);(try simp only[e0,e1])));(with_reducible refine jaa (r:=?_) ?_ ?_);rotate_left;(focus (first|exact(r)|exact(r0)|exact(r1)));(conv=>whnf)));(try simp only[e0,e1]))
   refine⟨Pq55z,[],V.pok,.go (jab ?_)⟩
   (conv=>whnf)
   (try simp only[e0,e1])
   repeat ((first|refine V.s1 ?_|((try ((with_reducible refine .ext ?_);(conv=>whnf);(try simp only[e0,e1])));(with_reducible refine jaa (r:=?_) ?_ ?_);rotate_left;(focus (first|exact(i0)|exact(i1)|exact(o01)));(conv=>whnf)));(try simp only[e0,e1]))
   refine⟨Pq55z,[],V.pok,.go (jab ?_)⟩
   (conv=>whnf)
   (try simp only[e0,e1])
   repeat ((first|refine V.s1 ?_|((try ((with_reducible refine .ext ?_);(conv=>whnf);(try simp only[e0,e1])));(with_reducible refine jaa (r:=?_) ?_ ?_);rotate_left;(focus (first|exact(i)|exact(i0)|exact(oq0)));(conv=>whnf)));(try simp only[e0,e1]))
   refine⟨Pq55z,[],V.pok,.go (jab ?_)⟩
   (conv=>whnf)
   (try simp only[e0,e1])
   repeat ((first|refine V.s1 ?_|((try ((with_reducible refine .ext ?_);(conv=>whnf);(try simp only[e0,e1])));(with_reducible refine jaa (r:=?_) ?_ ?_);rotate_left;(focus (first|exact(i)|exact(i1)|exact(oq1)));(conv=>whnf)));(try simp only[e0,e1]))
   exact Fin.of rfl
def stF (x l:List Rat)(o:Int×Int):Rat×Int:=
 if o.1=1 then (x.getD o.2.toNat 0,0) else if o.1=2 then (mF.num o.2,0) else if o.1=11 then (l.getD (l.length-1-o.2.toNat) 0,0) else mF.op o.1 (l.drop (l.length-(tkn o.1).toNat))
abbrev stDF (r:Rat×Int):D := .tup [.agg [.str (cond (decide (r.2=0)) (decZ r.1.num) []),.str (cond (decide (r.2=0)) (dec r.1.den) [])],.int .i64 r.2]
theorem ja8 {l:List Rat}(okl:∀ q∈l,okF q=true){k:Nat}(h:k<l.length):okF (l.getD k 0)=true:=by
 rw[ji3,ji6 h]
 exact okl _ (ji7 h)
theorem frR_st (r:Rat):frR r=stDF (r,cond (okF r) 0 6):=by
 unfold frR
 cases okF r<;>rfl
theorem rsf_8 (x l:List Rat)(a:Int)(hl:l.length≤40)(okl:∀ b∈l,okF b=true)(ht:1≤l.length):Cl 63 [.agg [.int .i64 8,.int .i64 a],inF x,inF l] (stDF (stF x l (8,a))):=by
 have hs:stF x l (8,a)=(-(l.getD (l.length-1) 0),0):=by
  show mF.op 8 (l.drop (l.length-1))=_
  rw[jhc l 0 ht]
  rfl
 rw[hs]
 have hv:=ja8 okl (k:=l.length-1) (by omega)
 have e1:((l.length:Int)-1).toNat=l.length-1:=by omega
 obtain⟨u,hu⟩:∃ u,u=l.getD (l.length-1) 0:=⟨_,rfl⟩
 rw[← hu] at hv ⊢
 have k:=rneg_f hv
 obtain⟨R,hR⟩:∃ R:Rat,R = -u:=⟨_,rfl⟩
 rw[← hR] at k ⊢
 have k:Cl 130 [.agg [.str (decZ u.num),.str (dec u.den)]] (.tup [.agg [.str (decZ R.num),.str (dec R.den)],.int .i64 0]):=k
 refine V.en tbOk Tryz.func63 ?_
 (conv=>whnf)
 (conv=>whnf)
 (try simp only[e1,← hu])
 repeat ((first|refine V.s1 ?_|((try ((with_reducible refine .ext ?_);(conv=>whnf);(try simp only[e1,← hu])));(with_reducible refine jaa (r:=?_) ?_ ?_);rotate_left;(focus (first|exact(k)));(conv=>whnf)));(try simp only[e1,← hu]))
 exact Fin.of rfl
theorem rsf_9 (x l:List Rat)(a:Int)(hl:l.length≤40)(okl:∀ b∈l,okF b=true)(ht:1≤l.length):Cl 63 [.agg [.int .i64 9,.int .i64 a],inF x,inF l] (stDF (stF x l (9,a))):=by
 have hs:stF x l (9,a)=(absQ (l.getD (l.length-1) 0),0):=by
  show mF.op 9 (l.drop (l.length-1))=_
  rw[jhc l 0 ht]
  rfl
 rw[hs]
 have hv:=ja8 okl (k:=l.length-1) (by omega)
 have e1:((l.length:Int)-1).toNat=l.length-1:=by omega
 obtain⟨u,hu⟩:∃ u,u=l.getD (l.length-1) 0:=⟨_,rfl⟩
 rw[← hu] at hv ⊢
 have k:=rabs_f hv
 obtain⟨R,hR⟩:∃ R:Rat,R=absQ u:=⟨_,rfl⟩
 rw[← hR] at k ⊢
 have k:Cl 131 [.agg [.str (decZ u.num),.str (dec u.den)]] (.tup [.agg [.str (decZ R.num),.str (dec R.den)],.int .i64 0]):=k
 refine V.en tbOk Tryz.func63 ?_
 (conv=>whnf)
 (conv=>whnf)
 (try simp only[e1,← hu])
 repeat ((first|refine V.s1 ?_|((try ((with_reducible refine .ext ?_);(conv=>whnf);(try simp only[e1,← hu])));(with_reducible refine jaa (r:=?_) ?_ ?_);rotate_left;(focus (first|exact(k)));(conv=>whnf)));(try simp only[e1,← hu]))
 exact Fin.of rfl
theorem rsf_3 (x l:List Rat)(a:Int)(hl:l.length≤40)(okl:∀ b∈l,okF b=true)(ht:2≤l.length):Cl 63 [.agg [.int .i64 3,.int .i64 a],inF x,inF l] (stDF (stF x l (3,a))):=by
 have hu':=ja8 okl (k:=l.length-2) (by omega)
 have hv':=ja8 okl (k:=l.length-1) (by omega)
 have e1:((l.length:Int)-1).toNat=l.length-1:=by omega
 have e2:((l.length:Int)-2).toNat=l.length-2:=by omega
 obtain⟨u,hu⟩:∃ u,u=l.getD (l.length-2) 0:=⟨_,rfl⟩
 obtain⟨v,hv⟩:∃ v,v=l.getD (l.length-1) 0:=⟨_,rfl⟩
 rw[← hu] at hu'
 rw[← hv] at hv'
 have hs:stF x l (3,a)=(u+v,cond (okF (u+v)) 0 6):=by
  show mF.op 3 (l.drop (l.length-2))=_
  rw[je6 l 0 ht,← hu,← hv]
  rfl
 rw[hs]
 have k:Cl 13 [frT u,frT v] (stDF (u+v,cond (okF (u+v)) 0 6)):=by rw[← frR_st];exact radd_f hu' hv'
 generalize u+v=R at *
 generalize (cond (okF R) 0 6:Int)=E at *
 have k:Cl 13 [.agg [.str (decZ u.num),.str (dec u.den)],.agg [.str (decZ v.num),.str (dec v.den)]] (.tup [.agg [.str (cond (decide (E=0)) (decZ R.num) []),.str (cond (decide (E=0)) (dec R.den) [])],.int .i64 E]):=k
 refine V.en tbOk Tryz.func63 ?_
 (conv=>whnf)
 (conv=>whnf)
 (try simp only[])
 repeat ((first|refine V.s1 ?_);(try simp only[]))
 refine⟨Pq6z,[],V.pok,.go (jab ?_)⟩
 (conv=>whnf)
 (try simp only[e1,e2,← hu,← hv])
 repeat ((first|refine V.s1 ?_|((try ((with_reducible refine .ext ?_);(conv=>whnf);(try simp only[e1,e2,← hu,← hv])));(with_reducible refine jaa (r:=?_) ?_ ?_);rotate_left;(focus (first|exact(k)));(conv=>whnf)));(try simp only[e1,e2,← hu,← hv]))
 exact Fin.of rfl
theorem rsf_4 (x l:List Rat)(a:Int)(hl:l.length≤40)(okl:∀ b∈l,okF b=true)(ht:2≤l.length):Cl 63 [.agg [.int .i64 4,.int .i64 a],inF x,inF l] (stDF (stF x l (4,a))):=by
 have hu':=ja8 okl (k:=l.length-2) (by omega)
 have hv':=ja8 okl (k:=l.length-1) (by omega)
 have e1:((l.length:Int)-1).toNat=l.length-1:=by omega
 have e2:((l.length:Int)-2).toNat=l.length-2:=by omega
 obtain⟨u,hu⟩:∃ u,u=l.getD (l.length-2) 0:=⟨_,rfl⟩
 obtain⟨v,hv⟩:∃ v,v=l.getD (l.length-1) 0:=⟨_,rfl⟩
 rw[← hu] at hu'
 rw[← hv] at hv'
 have hs:stF x l (4,a)=(u-v,cond (okF (u-v)) 0 6):=by
  show mF.op 4 (l.drop (l.length-2))=_
  rw[je6 l 0 ht,← hu,← hv]
  rfl
 rw[hs]
 have k:Cl 133 [frT u,frT v] (stDF (u-v,cond (okF (u-v)) 0 6)):=by rw[← frR_st];exact rsub_f hu' hv'
 generalize u-v=R at *
 generalize (cond (okF R) 0 6:Int)=E at *
 have k:Cl 133 [.agg [.str (decZ u.num),.str (dec u.den)],.agg [.str (decZ v.num),.str (dec v.den)]] (.tup [.agg [.str (cond (decide (E=0)) (decZ R.num) []),.str (cond (decide (E=0)) (dec R.den) [])],.int .i64 E]):=k
 refine V.en tbOk Tryz.func63 ?_
 (conv=>whnf)
 (conv=>whnf)
 (try simp only[])
 repeat ((first|refine V.s1 ?_);(try simp only[]))
 refine⟨Pq6z,[],V.pok,.go (jab ?_)⟩
 (conv=>whnf)
 (try simp only[e1,e2,← hu,← hv])
 repeat ((first|refine V.s1 ?_|((try ((with_reducible refine .ext ?_);(conv=>whnf);(try simp only[e1,e2,← hu,← hv])));(with_reducible refine jaa (r:=?_) ?_ ?_);rotate_left;(focus (first|exact(k)));(conv=>whnf)));(try simp only[e1,e2,← hu,← hv]))
 exact Fin.of rfl
theorem rsf_5 (x l:List Rat)(a:Int)(hl:l.length≤40)(okl:∀ b∈l,okF b=true)(ht:2≤l.length):Cl 63 [.agg [.int .i64 5,.int .i64 a],inF x,inF l] (stDF (stF x l (5,a))):=by
 have hu':=ja8 okl (k:=l.length-2) (by omega)
 have hv':=ja8 okl (k:=l.length-1) (by omega)
 have e1:((l.length:Int)-1).toNat=l.length-1:=by omega
 have e2:((l.length:Int)-2).toNat=l.length-2:=by omega
 obtain⟨u,hu⟩:∃ u,u=l.getD (l.length-2) 0:=⟨_,rfl⟩
 obtain⟨v,hv⟩:∃ v,v=l.getD (l.length-1) 0:=⟨_,rfl⟩
 rw[← hu] at hu'
 rw[← hv] at hv'
 have hs:stF x l (5,a)=(u*v,cond (okF (u*v)) 0 6):=by
  show mF.op 5 (l.drop (l.length-2))=_
  rw[je6 l 0 ht,← hu,← hv]
  rfl
 rw[hs]
 have k:Cl 14 [frT u,frT v] (stDF (u*v,cond (okF (u*v)) 0 6)):=by rw[← frR_st];exact rmul_f hu' hv'
 generalize u*v=R at *
 generalize (cond (okF R) 0 6:Int)=E at *
 have k:Cl 14 [.agg [.str (decZ u.num),.str (dec u.den)],.agg [.str (decZ v.num),.str (dec v.den)]] (.tup [.agg [.str (cond (decide (E=0)) (decZ R.num) []),.str (cond (decide (E=0)) (dec R.den) [])],.int .i64 E]):=k
 refine V.en tbOk Tryz.func63 ?_
 (conv=>whnf)
 (conv=>whnf)
 (try simp only[])
 repeat ((first|refine V.s1 ?_);(try simp only[]))
 refine⟨Pq6z,[],V.pok,.go (jab ?_)⟩
 (conv=>whnf)
 (try simp only[e1,e2,← hu,← hv])
 repeat ((first|refine V.s1 ?_|((try ((with_reducible refine .ext ?_);(conv=>whnf);(try simp only[e1,e2,← hu,← hv])));(with_reducible refine jaa (r:=?_) ?_ ?_);rotate_left;(focus (first|exact(k)));(conv=>whnf)));(try simp only[e1,e2,← hu,← hv]))
 exact Fin.of rfl
theorem rsf_6 (x l:List Rat)(a:Int)(hl:l.length≤40)(okl:∀ b∈l,okF b=true)(ht:2≤l.length):Cl 63 [.agg [.int .i64 6,.int .i64 a],inF x,inF l] (stDF (stF x l (6,a))):=by
 have hu':=ja8 okl (k:=l.length-2) (by omega)
 have hv':=ja8 okl (k:=l.length-1) (by omega)
 have e1:((l.length:Int)-1).toNat=l.length-1:=by omega
 have e2:((l.length:Int)-2).toNat=l.length-2:=by omega
 obtain⟨u,hu⟩:∃ u,u=l.getD (l.length-2) 0:=⟨_,rfl⟩
 obtain⟨v,hv⟩:∃ v,v=l.getD (l.length-1) 0:=⟨_,rfl⟩
 rw[← hu] at hu'
 rw[← hv] at hv'
 have hs:stF x l (6,a)=((if v<u then v else u),cond (okF ((if v<u then v else u))) 0 6):=by
  show mF.op 6 (l.drop (l.length-2))=_
  rw[je6 l 0 ht,← hu,← hv]
  rfl
 rw[hs]
 have k:Cl 134 [frT u,frT v] (stDF ((if v<u then v else u),cond (okF ((if v<u then v else u))) 0 6)):=by
  rw[jgW hv' hu']
  exact rmin_f hu' hv'
 generalize (if v<u then v else u)=R at *
 generalize (cond (okF R) 0 6:Int)=E at *
 have k:Cl 134 [.agg [.str (decZ u.num),.str (dec u.den)],.agg [.str (decZ v.num),.str (dec v.den)]] (.tup [.agg [.str (cond (decide (E=0)) (decZ R.num) []),.str (cond (decide (E=0)) (dec R.den) [])],.int .i64 E]):=k
 refine V.en tbOk Tryz.func63 ?_
 (conv=>whnf)
 (conv=>whnf)
 (try simp only[])
 repeat ((first|refine V.s1 ?_);(try simp only[]))
 refine⟨Pq6z,[],V.pok,.go (jab ?_)⟩
 (conv=>whnf)
 (try simp only[e1,e2,← hu,← hv])
 repeat ((first|refine V.s1 ?_|((try ((with_reducible refine .ext ?_);(conv=>whnf);(try simp only[e1,e2,← hu,← hv])));(with_reducible refine jaa (r:=?_) ?_ ?_);rotate_left;(focus (first|exact(k)));(conv=>whnf)));(try simp only[e1,e2,← hu,← hv]))
 exact Fin.of rfl
theorem rsf_7 (x l:List Rat)(a:Int)(hl:l.length≤40)(okl:∀ b∈l,okF b=true)(ht:2≤l.length):Cl 63 [.agg [.int .i64 7,.int .i64 a],inF x,inF l] (stDF (stF x l (7,a))):=by
 have hu':=ja8 okl (k:=l.length-2) (by omega)
 have hv':=ja8 okl (k:=l.length-1) (by omega)
 have e1:((l.length:Int)-1).toNat=l.length-1:=by omega
 have e2:((l.length:Int)-2).toNat=l.length-2:=by omega
 obtain⟨u,hu⟩:∃ u,u=l.getD (l.length-2) 0:=⟨_,rfl⟩
 obtain⟨v,hv⟩:∃ v,v=l.getD (l.length-1) 0:=⟨_,rfl⟩
 rw[← hu] at hu'
 rw[← hv] at hv'
 have hs:stF x l (7,a)=((if u<v then v else u),cond (okF ((if u<v then v else u))) 0 6):=by
  show mF.op 7 (l.drop (l.length-2))=_
  rw[je6 l 0 ht,← hu,← hv]
  rfl
 rw[hs]
 have k:Cl 135 [frT u,frT v] (stDF ((if u<v then v else u),cond (okF ((if u<v then v else u))) 0 6)):=by
  rw[jgW hv' hu']
  exact rmax_f hu' hv'
 generalize (if u<v then v else u)=R at *
 generalize (cond (okF R) 0 6:Int)=E at *
 have k:Cl 135 [.agg [.str (decZ u.num),.str (dec u.den)],.agg [.str (decZ v.num),.str (dec v.den)]] (.tup [.agg [.str (cond (decide (E=0)) (decZ R.num) []),.str (cond (decide (E=0)) (dec R.den) [])],.int .i64 E]):=k
 refine V.en tbOk Tryz.func63 ?_
 (conv=>whnf)
 (conv=>whnf)
 (try simp only[])
 repeat ((first|refine V.s1 ?_);(try simp only[]))
 refine⟨Pq6z,[],V.pok,.go (jab ?_)⟩
 (conv=>whnf)
 (try simp only[e1,e2,← hu,← hv])
 repeat ((first|refine V.s1 ?_|((try ((with_reducible refine .ext ?_);(conv=>whnf);(try simp only[e1,e2,← hu,← hv])));(with_reducible refine jaa (r:=?_) ?_ ?_);rotate_left;(focus (first|exact(k)));(conv=>whnf)));(try simp only[e1,e2,← hu,← hv]))
 exact Fin.of rfl
theorem rsf_1 (x l:List Rat)(a:Int)(h:0≤a∧a<x.length):Cl 63 [.agg [.int .i64 1,.int .i64 a],inF x,inF l] (stDF (stF x l (1,a))):=by
 have hs:stF x l (1,a)=(x.getD a.toNat 0,0):=rfl
 rw[hs]
 refine V.en tbOk Tryz.func63 ?_
 (conv=>whnf)
 (conv=>whnf)
 (try simp only[])
 repeat ((first|refine V.s1 ?_);(try simp only[]))
 exact Fin.of rfl
theorem rsf_11 (x l:List Rat)(a:Int)(hl:l.length≤40)(h:0≤a∧a<l.length):Cl 63 [.agg [.int .i64 11,.int .i64 a],inF x,inF l] (stDF (stF x l (11,a))):=by
 have hs:stF x l (11,a)=(l.getD (l.length-1-a.toNat) 0,0):=rfl
 rw[hs]
 have e:((l.length:Int)-1-a).toNat=l.length-1-a.toNat:=by omega
 refine V.en tbOk Tryz.func63 ?_
 refine V.r0 e ?_
 exact Fin.of rfl
theorem rsf_2 (x l:List Rat)(a:Int)(h : -1000000000≤a∧a≤1000000000):Cl 63 [.agg [.int .i64 2,.int .i64 a],inF x,inF l] (stDF (stF x l (2,a))):=by
 have hs:stF x l (2,a)=(Rat.divInt a 1000000,0):=rfl
 rw[hs]
 have k1:=jhx (n:=a) (m:=1000000) (by omega) (by omega)
 unfold frT at k1
 generalize Rat.divInt a 1000000=S at *
 refine V.en tbOk Tryz.func63 ?_
 (conv=>whnf)
 (conv=>whnf)
 (try simp only[])
 repeat ((first|refine V.s1 ?_|((try ((with_reducible refine .ext ?_);(conv=>whnf);(try simp only[])));(with_reducible refine jaa (r:=?_) ?_ ?_);rotate_left;(focus (first|exact(k1)));(conv=>whnf)));(try simp only[]))
 exact Fin.of rfl
theorem rsf_12 (x l:List Rat)(a:Int)(hl:l.length≤40)(okl:∀ b∈l,okF b=true)(ht:1≤l.length):Cl 63 [.agg [.int .i64 12,.int .i64 a],inF x,inF l] (stDF (stF x l (12,a))):=by
 have hs:stF x l (12,a)=(clQ (l.getD (l.length-1) 0),0):=by
  show mF.op 12 (l.drop (l.length-1))=_
  rw[jhc l 0 ht]
  rfl
 rw[hs]
 have hv:=ja8 okl (k:=l.length-1) (by omega)
 have e1:((l.length:Int)-1).toNat=l.length-1:=by omega
 obtain⟨u,hu⟩:∃ u,u=l.getD (l.length-1) 0:=⟨_,rfl⟩
 rw[← hu] at hv ⊢
 have k:=rclamp_f hv
 have k0:=jhx (n:=0) (m:=1) (by omega) (by omega)
 have k1:=jhx (n:=1) (m:=1) (by omega) (by omega)
 rw[show Rat.divInt 0 1=0 by decide +kernel] at k0
 rw[show Rat.divInt 1 1=1 by decide +kernel] at k1
 unfold frT at *
 generalize (1:Rat)=oo at *
 obtain⟨zz,hz⟩:∃ zz:Rat,zz=0:=⟨_,rfl⟩
 rw[← hz] at k k0
 generalize clQ u=R at *
 refine V.en tbOk Tryz.func63 ?_
 (conv=>whnf)
 (conv=>whnf)
 (try simp only[])
 repeat ((first|refine V.s1 ?_);(try simp only[]))
 refine⟨(V.tk [0,1,2,3,4] (V.e1 5 [4,3,2,1,0] (V.e1 6 [4,3,2,1,0] (V.e1 7 [] (V.tk [8,9] (V.e1 10 [] (V.tk [11] .done))))))),[],V.pok,.go (jab ?_)⟩
 (conv=>whnf)
 (try simp only[e1,← hu])
 repeat ((first|refine V.s1 ?_|((with_reducible refine jax ?_ ?_);(focus ((conv=>whnf);(try simp only[e1,← hu]);(repeat ((first|refine V.s1 ?_);(try simp only[e1,← hu])));exact⟨rfl⟩));(conv=>whnf))|((try ((with_reducible refine .ext ?_);(conv=>whnf);(try simp only[e1,← hu])));(with_reducible refine jaa (r:=?_) ?_ ?_);rotate_left;(focus (first|exact(k0)|exact(k1)|exact(k)));(conv=>whnf)));(try simp only[e1,← hu]))
 exact Fin.of rfl
theorem rsf_10 (x l:List Rat)(a:Int)(hl:l.length≤40)(okl:∀ b∈l,okF b=true)(ht:3≤l.length):Cl 63 [.agg [.int .i64 10,.int .i64 a],inF x,inF l] (stDF (stF x l (10,a))):=by
 have e1:((l.length:Int)-1).toNat=l.length-1:=by omega
 have e2:((l.length:Int)-2).toNat=l.length-2:=by omega
 have e3:((l.length:Int)-3).toNat=l.length-3:=by omega
 have hw':=ja8 okl (k:=l.length-1) (by omega)
 obtain⟨u,hu⟩:∃ u,u=l.getD (l.length-3) 0:=⟨_,rfl⟩
 obtain⟨v,hv⟩:∃ v,v=l.getD (l.length-2) 0:=⟨_,rfl⟩
 obtain⟨w,hw⟩:∃ w,w=l.getD (l.length-1) 0:=⟨_,rfl⟩
 rw[← hw] at hw'
 have e:decide (ordQ w 0<0)=decide (w.num.sign<0):=by
  have sg:w.num.sign<0↔w<0:=by
   rw[show w<0↔w.num<0 by rw[← Rat.not_le,← Rat.num_nonneg];omega]
   rcases Int.lt_trichotomy w.num 0 with h|h|h
   ·rw[jiX h];omega
   ·rw[h];decide
   ·rw[jiY h];omega
  rw[decide_eq_decide,sg]
  unfold ordQ
  split
  ·rename_i h;simp[h]
  ·split
   ·rename_i h h2;subst h2;simp[Rat.lt_irrefl]
   ·rename_i h h2;simp[h]
 have hs:stF x l (10,a)=(if w.num.sign<0 then v else u,0):=by
  show mF.op 10 (l.drop (l.length-3))=_
  rw[drop_3 l 0 ht,← hu,← hv,← hw]
  rfl
 rw[hs]
 have k:=rsign_f hw'
 unfold frT at k
 generalize ordQ w 0=z at *
 by_cases h1:w.num.sign<0
 ·rw[if_pos h1]
  rw[decide_eq_true h1] at e
  refine V.en tbOk Tryz.func63 ?_
  (conv=>whnf)
  (conv=>whnf)
  (try simp only[e,e1,e2,e3,← hu,← hv,← hw])
  repeat ((first|refine V.s1 ?_|((try ((with_reducible refine .ext ?_);(conv=>whnf);(try simp only[e,e1,e2,e3,← hu,← hv,← hw])));(with_reducible refine jaa (r:=?_) ?_ ?_);rotate_left;(focus (first|exact(k)));(conv=>whnf)));(try simp only[e,e1,e2,e3,← hu,← hv,← hw]))
  exact Fin.of rfl
 ·rw[if_neg h1]
  rw[decide_eq_false h1] at e
  refine V.en tbOk Tryz.func63 ?_
  (conv=>whnf)
  (conv=>whnf)
  (try simp only[e,e1,e2,e3,← hu,← hv,← hw])
  repeat ((first|refine V.s1 ?_|((try ((with_reducible refine .ext ?_);(conv=>whnf);(try simp only[e,e1,e2,e3,← hu,← hv,← hw])));(with_reducible refine jaa (r:=?_) ?_ ?_);rotate_left;(focus (first|exact(k)));(conv=>whnf)));(try simp only[e,e1,e2,e3,← hu,← hv,← hw]))
  exact Fin.of rfl
theorem rstep_f (x l:List Rat)(c a:Int)(hl:l.length≤40)(okl:∀ b∈l,okF b=true)(hc:tkb c=true)(ht:tkn c≤l.length)(h1:loA c≤a)(h2:a≤hiA c x.length l.length):Cl 63 [.agg [.int .i64 c,.int .i64 a],inF x,inF l] (stDF (stF x l (c,a))):=by
 have h:c=1∨c=2∨c=3∨c=4∨c=5∨c=6∨c=7∨c=8∨c=9∨c=10∨c=11∨c=12:=by unfold tkb at hc;simp only[decide_eq_true_eq] at hc;omega
 rcases h with rfl|rfl|rfl|rfl|rfl|rfl|rfl|rfl|rfl|rfl|rfl|rfl
 ·have h1:0≤a:=h1
  have h2:a≤(x.length:Int)-1:=h2
  exact rsf_1 x l a ⟨h1,by omega⟩
 ·have h1 : -1000000000≤a:=h1
  have h2:a≤1000000000:=h2
  exact rsf_2 x l a ⟨h1,h2⟩
 ·have ht:(2:Int)≤l.length:=ht
  exact rsf_3 x l a hl okl (by omega)
 ·have ht:(2:Int)≤l.length:=ht
  exact rsf_4 x l a hl okl (by omega)
 ·have ht:(2:Int)≤l.length:=ht
  exact rsf_5 x l a hl okl (by omega)
 ·have ht:(2:Int)≤l.length:=ht
  exact rsf_6 x l a hl okl (by omega)
 ·have ht:(2:Int)≤l.length:=ht
  exact rsf_7 x l a hl okl (by omega)
 ·have ht:(1:Int)≤l.length:=ht
  exact rsf_8 x l a hl okl (by omega)
 ·have ht:(1:Int)≤l.length:=ht
  exact rsf_9 x l a hl okl (by omega)
 ·have ht:(3:Int)≤l.length:=ht
  exact rsf_10 x l a hl okl (by omega)
 ·have h1:0≤a:=h1
  have h2:a≤(l.length:Int)-1:=h2
  exact rsf_11 x l a hl ⟨h1,by omega⟩
 ·have ht:(1:Int)≤l.length:=ht
  exact rsf_12 x l a hl okl (by omega)
theorem okF_40 {q:Rat}(h1:q.num.natAbs<10^40)(h2:q.den<10^40):okF q=true:=by
 unfold okF
 simp only[jir,decide_eq_true_eq]
 exact⟨jiC (ja0 40 _ (by omega) h1).1 (by omega),jiC (ja0 40 _ (by omega) h2).1 (by omega)⟩
theorem divInt_40 (n d:Int)(hn : -10000000000000000000000000000000000000000<n∧n<10000000000000000000000000000000000000000)(hd:d≠0 ∧ -10000000000000000000000000000000000000000<d∧d<10000000000000000000000000000000000000000) :
  (Rat.divInt n d).num.natAbs<10^40∧(Rat.divInt n d).den<10^40:=by
 rcases (by omega:0<d∨d<0) with h|h
 ·obtain⟨k,rfl⟩:∃ k:Nat,d=k:=⟨d.toNat,by omega⟩
  have:=je9 n k (by omega)
  constructor
  ·exact Nat.lt_of_le_of_lt this.1 (by omega)
  ·exact Nat.lt_of_le_of_lt this.2 (by omega)
 ·rw[← Rat.neg_divInt_neg]
  obtain⟨k,hk⟩:∃ k:Nat, -d=k:=⟨(-d).toNat,by omega⟩
  rw[hk]
  have:=je9 (-n) k (by omega)
  constructor
  ·exact Nat.lt_of_le_of_lt this.1 (by omega)
  ·exact Nat.lt_of_le_of_lt this.2 (by omega)
end Go.Proofs.YtpkdedncgclblaaGreatDoor
end
