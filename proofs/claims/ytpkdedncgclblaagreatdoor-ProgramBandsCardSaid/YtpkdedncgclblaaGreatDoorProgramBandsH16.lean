/- What functions of the program answer at given values, part 16. Conditions: those that each theorem names. -/
import Derived.Test.YtpkdedncgclblaaGreatDoorProgramBandsH14
import Derived.Test.YtpkdedncgclblaaGreatDoorProgramBandsH15
import Derived.Test.YtpkdedncgclblaaGreatDoorProgramBandsH6
import Derived.Test.YtpkdedncgclblaaGreatDoorProgramBandsH11
import Derived.Test.YtpkdedncgclblaaGreatDoorProgramBandsH13
import Derived.Test.YtpkdedncgclblaaGreatDoorProgramBandsH12
import Derived.Test.YtpkdedncgclblaaGreatDoorProgramBandsH10
set_option linter.unusedSimpArgs false
set_option linter.unusedVariables false
set_option maxHeartbeats 8000000
set_option maxRecDepth 100000
section
namespace Go.Proofs.YtpkdedncgclblaaGreatDoor
open Go Go.V Go.Nb
theorem rtakes_c (c:Int):Cl 46 [.int .i64 c] (.int .i64 (if tkb c=true then tkn c else -1)):=by
 by_cases e1:c=1
 ·subst e1
  refine V.en tbOk Tryz.func46 ?_
  (conv=>whnf)
  refine V.st ?_
  exact Fin.of rfl
 by_cases e2:c=2
 ·subst e2
  refine V.en tbOk Tryz.func46 ?_
  (conv=>whnf)
  refine V.st ?_
  exact Fin.of rfl
 by_cases e11:c=11
 ·subst e11
  refine V.en tbOk Tryz.func46 ?_
  (conv=>whnf)
  refine V.st ?_
  exact Fin.of rfl
 by_cases e8:c=8
 ·subst e8
  refine V.en tbOk Tryz.func46 ?_
  (conv=>whnf)
  refine V.st ?_
  exact Fin.of rfl
 by_cases e9:c=9
 ·subst e9
  refine V.en tbOk Tryz.func46 ?_
  (conv=>whnf)
  refine V.st ?_
  exact Fin.of rfl
 by_cases e12:c=12
 ·subst e12
  refine V.en tbOk Tryz.func46 ?_
  (conv=>whnf)
  refine V.st ?_
  exact Fin.of rfl
 by_cases e3:c=3
 ·subst e3
  refine V.en tbOk Tryz.func46 ?_
  (conv=>whnf)
  refine V.st ?_
  exact Fin.of rfl
 by_cases e4:c=4
 ·subst e4
  refine V.en tbOk Tryz.func46 ?_
  (conv=>whnf)
  refine V.st ?_
  exact Fin.of rfl
 by_cases e5:c=5
 ·subst e5
  refine V.en tbOk Tryz.func46 ?_
  (conv=>whnf)
  refine V.st ?_
  exact Fin.of rfl
 by_cases e6:c=6
 ·subst e6
  refine V.en tbOk Tryz.func46 ?_
  (conv=>whnf)
  refine V.st ?_
  exact Fin.of rfl
 by_cases e7:c=7
 ·subst e7
  refine V.en tbOk Tryz.func46 ?_
  (conv=>whnf)
  refine V.st ?_
  exact Fin.of rfl
 by_cases e10:c=10
 ·subst e10
  refine V.en tbOk Tryz.func46 ?_
  (conv=>whnf)
  refine V.st ?_
  exact Fin.of rfl
 have h1:tkn c=0:=by unfold tkn;simp[e1,e2,e3,e4,e5,e6,e7,e8,e9,e10,e11,e12]
 have h2:tkb c=false:=decide_eq_false (by omega)
 rw[h2]
 have f1:=decide_eq_false e1
 have f2:=decide_eq_false e2
 have f3:=decide_eq_false e3
 have f4:=decide_eq_false e4
 have f5:=decide_eq_false e5
 have f6:=decide_eq_false e6
 have f7:=decide_eq_false e7
 have f8:=decide_eq_false e8
 have f9:=decide_eq_false e9
 have f10:=decide_eq_false e10
 have f11:=decide_eq_false e11
 have f12:=decide_eq_false e12
 refine V.en tbOk Tryz.func46 ?_
 (conv=>whnf)
 (conv=>whnf)
 (try simp only[f1,f2,f3,f4,f5,f6,f7,f8,f9,f10,f11,f12])
 repeat ((first|refine V.s1 ?_);(try simp only[f1,f2,f3,f4,f5,f6,f7,f8,f9,f10,f11,f12]))
 exact Fin.of rfl
theorem rtk {c:Int}(h:tkb c=true):Cl 46 [.int .i64 c] (.int .i64 (tkn c)):=by
 have r:=rtakes_c c
 rw[if_pos h] at r
 exact r
abbrev dsD (l:List (Int×Int)):D := .slf 2 l.length (fun j=>[.int .u8 (l.getD j (0,0)).1,.int .i16 (l.getD j (0,0)).2])
abbrev drD (I O:Int)(l:List (Int×Int)):D := .agg [.int .u8 I,.int .u8 O,dsD l]
theorem dins_c (I O:Int)(l:List (Int×Int))(hI:0≤I∧I≤255):Cl 26 [drD I O l] (.int .i64 (1+I%3)):=by
 refine V.en tbOk Tryz.func26 ?_
 (conv=>whnf)
 (conv=>whnf)
 (try simp only[])
 repeat ((first|refine V.s1 ?_);(try simp only[]))
 exact Fin.of rfl
theorem douts_c (I O:Int)(l:List (Int×Int))(hO:0≤O∧O≤255):Cl 21 [drD I O l] (.int .i64 (1+O%3)):=by
 refine V.en tbOk Tryz.func21 ?_
 (conv=>whnf)
 (conv=>whnf)
 (try simp only[])
 repeat ((first|refine V.s1 ?_);(try simp only[]))
 exact Fin.of rfl
theorem wrap16 (a m:Int):(a%65536)%m=(IntKind.u16.wrap a).tmod m:=by
 have e:IntKind.u16.wrap a=a%65536:=by
  simp[IntKind.wrap,IntKind.bits,IntKind.signed]
 rw[e,Int.tmod_eq_emod_of_nonneg (jiy _ (by decide))]
theorem dcode_11 {n c:Int}(hn:0≤n)(h:dcode n c=11):0<n:=by
 unfold dcode at h
 split at h
 ·split at h<;>omega
 ·omega
theorem dst_len (ins:Int)(t:List (Int×Int)×Int)(s:Int×Int):(dst ins t s).1.length=t.1.length+1:=by unfold dst;simp
theorem dfo_len (ins:Int):∀ (l:List (Int×Int)) (t:List (Int×Int)×Int),(l.foldl (dst ins) t).1.length=t.1.length+l.length
 | [],t=>rfl
 | s::l,t=>by
  rw[List.foldl_cons,dfo_len ins l,dst_len,jjj];omega
theorem program_c (I O:Int)(l:List (Int×Int))(hI:0≤I∧I≤255)(hO:0≤O∧O≤255)(hl:∀ s∈l,(0≤s.1∧s.1≤255) ∧ -32768≤s.2∧s.2≤32767)(hlen:l.length≤281474976710656):Cl 17 [drD I O l] (oL (dprog (1+I%3) (1+O%3) l)):=by
 have ci:=dins_c I O l hI
 have co:=douts_c I O l hO
 refine V.en tbOk Tryz.func17 ?_
 (conv=>whnf)
 (conv=>whnf)
 (try simp only[])
 repeat ((first|refine V.s1 ?_);(try simp only[]))
 refine Lp.of ⟨Nat,fun k=>k≤12∧k≤l.length,fun k=>match k with|0=>[(1,.box 1 0),(3,.nil),(4,.int .i64 0),(5,.int .i64 0)]|k+1=>[(1,.box 1 0),(3,.bsl 300 0 (k+1) 2),(4,.int .i64 (dfo (1+I%3) (l.take (k+1))).2),(5,.int .i64 ((k+1:Nat):Int))],fun k=>match k with|0=>[(1,.box [.int .u8 I,.int .u8 O,dsD l])]|k+1=>[(1,.box [.int .u8 I,.int .u8 O,dsD l]),(300,.box (bcl (dfo (1+I%3) (l.take (k+1))).1))],fun k=>12-k,⟨0,⟨by omega,by omega⟩,V.wk⟩,?_⟩
 rintro k ⟨hk1,hk2⟩
 have hkc:((k:Int)+1)=((k+1:Nat):Int):=by omega
 cases k with
 | zero=>
  dsimp only
  refine V.r0 @jiD ?_
  refine V.br (fun hq=>?_) (fun hq=>?_)
  ·simp only[jiv,decide_eq_true_eq] at hq
   have hkl:0<l.length:=by omega
   have hX:=hl (l.getD 0 (0,0)) (by rw[ji5,ji8 hkl];exact ji9 hkl)
   have hS:dfo (1+I%3) (l.take (0+1))=dst (1+I%3) ([],0) (l.getD 0 (0,0)):=by rw[jcd l 0 (0,0) hkl,dfo_snoc];rfl
   obtain⟨c,a,hca⟩:∃ c a,l.getD 0 (0,0)=(c,a):=⟨_,_,rfl⟩
   have hca2:l.getD (Int.toNat 0) (0,0)=(c,a):=hca
   rw[hca] at hS hX
   dsimp only at hX
   have tk:=rtk (c:=1+c%12) (by unfold tkb;simp only[decide_eq_true_eq];omega)
   (conv=>whnf)
   (try simp only[hca2])
   repeat ((first|refine V.s1 ?_|((try ((with_reducible refine .ext ?_);(conv=>whnf);(try simp only[hca2])));(with_reducible refine jaa (r:=?_) ?_ ?_);rotate_left;(focus (first|exact(tk)));(conv=>whnf))|((refine⟨_,fun _=>tk,?_⟩);(conv=>whnf)));(try simp only[hca2]))
   refine jbE [(1,.box 1 0),(3,.nil),(4,.int .i64 0),(5,.int .i64 0),(6,.box 6 0)] [(1,.box [.int .u8 I,.int .u8 O,dsD l]),(6,.box [.int .i64 1,.int .i64 0])] (CondB.mk (fun h=>?_) (fun h=>absurd h (by simp))) ?_
   ·(conv=>whnf)
    (try simp only[])
    repeat ((first|refine V.s1 ?_);(try simp only[]))
    exact V.wk
   have tk1:Cl 46 [.int .i64 1] (.int .i64 0):=rtk (c:=1) rfl
   have hS2:dst (1+I%3) ([],0) (c,a)=([(1,(IntKind.u16.wrap a).tmod (1+I%3))],1):=by
    have e1:dcode 0 (1+c%12)=1:=by unfold dcode;rw[if_pos (by omega)];rfl
    unfold dst dop
    dsimp only
    rw[e1]
    unfold darg
    rw[if_pos rfl,wrap16]
    rfl
   rw[hS2] at hS
   refine V.r0 hca2 ?_
   refine .inr ?_
   refine V.r2 hca2 ci tk1 ?_
   refine⟨0+1,⟨by omega,by omega⟩,by omega,?_⟩
   dsimp only
   rw[hS]
   refine Wk.renS 86 300 3 1 2 (by decide) (by decide) rfl rfl rfl ?_
   exact V.wk
  ·simp only[Bool.and_eq_false_iff,decide_eq_false_iff_not] at hq
   have hl0:l=[]:=by
    cases l with
    | nil=>rfl
    | cons q l=>simp at hq<;>omega
   have hfin:dfo (1+I%3) (l.take 12)=([],0):=by rw[hl0];rfl
   (conv=>whnf)
   (try simp only[])
   repeat ((first|refine V.s1 ?_);(try simp only[]))
   have hD:∃ D2,D2=dup (1+I%3) (1+O%3) 3 ([],0):=⟨_,rfl⟩
   obtain⟨D2,hD2⟩:=hD
   refine Lp.of ⟨List (Int×Int)×Int,fun t=>0≤t.2∧t.2≤9∧t.1.length≤20∧(t.1=[]→t.2=0) ∧ ∃ j:Nat,j≤3∧(1+O%3)-t.2≤j∧t.1.length+j≤15∧dup (1+I%3) (1+O%3) j t=D2,fun t=>match t.1 with|[]=>[(1,.box 1 0),(3,.nil),(4,.int .i64 t.2)]|q::r=>[(1,.box 1 0),(3,.bsl 300 0 (r.length+1) 2),(4,.int .i64 t.2)],fun t=>match t.1 with|[]=>[(1,.box [.int .u8 I,.int .u8 O,dsD l])]|q::r=>[(1,.box [.int .u8 I,.int .u8 O,dsD l]),(300,.box (bcl (q::r)))],fun t=>(9-t.2).toNat,⟨([],0),⟨Int.le_refl _,by decide,by simp,by simp,3,by omega,by omega,by simp<;>omega,hD2.symm⟩,V.wk⟩,?_⟩
   rintro⟨P2,n2⟩ ⟨j1,j2,j3,j4,j,j5,j6,j7,j8⟩
   dsimp only at j1 j2 j3 j4 j6 j7 j8
   cases P2 with
   | nil=>
    try dsimp only
    (conv=>whnf)
    (try simp only[])
    repeat ((first|refine V.s1 ?_|((try ((with_reducible refine .ext ?_);(conv=>whnf);(try simp only[])));(with_reducible refine jaa (r:=?_) ?_ ?_);rotate_left;(focus (first|exact(co)));(conv=>whnf)));(try simp only[]))
    refine V.br (fun hq2=>?_) (fun hq2=>?_)
    ·simp only[decide_eq_true_eq] at hq2
     (conv=>whnf)
     (try simp only[])
     repeat ((first|refine V.s1 ?_|((try ((with_reducible refine .ext ?_);(conv=>whnf);(try simp only[])));(with_reducible refine jaa (r:=?_) ?_ ?_);rotate_left;(focus (first|exact(ci)));(conv=>whnf)));(try simp only[]))
     refine⟨([]++[(1,n2%(1+I%3))],n2+1),⟨by dsimp only;omega,by dsimp only;omega,by simp at j7 ⊢ <;> omega,by simp,j-1,by omega,by dsimp only;omega,by simp at j7 ⊢; omega,?_⟩,by dsimp only;omega,?_⟩
     ·obtain⟨j',rfl⟩:∃ j',j=j'+1:=⟨j-1,by omega⟩
      rw[← j8]
      show dup (1+I%3) (1+O%3) j' _=dup (1+I%3) (1+O%3) (j'+1) ([],n2)
      rw[dup,if_pos hq2]
     ·dsimp only
      refine Wk.renS 104 300 3 1 2 (by decide) (by decide) rfl rfl rfl ?_
      exact V.wk
    ·simp only[decide_eq_false_iff_not] at hq2
     have e9:dup (1+I%3) (1+O%3) j ([],n2)=([],n2):=by
      cases j with
      | zero=>rfl
      | succ j=>rw[dup,if_neg hq2]
     rw[e9] at j8
     exact absurd (j4 rfl) (by omega)
   | cons q2 r2=>
    have pg2:=jaA (q2::r2)
    have hb:Nat.beq (bcl (q2::r2)).length ((r2.length+1)*2)=true:=by rw[jaN];exact Nat.beq_refl _
    have hf:∀ i,D.freeL i (bcl (q2::r2)++[.int .i64 1,.int .i64 (n2%(1+I%3))])=true:=jay (q2::r2) 1 (n2%(1+I%3))
    have e2:bcl (q2::(r2++[(1,n2%(1+I%3))]))=bcl (q2::r2)++[.int .i64 1,.int .i64 (n2%(1+I%3))]:=jaC (q2::r2) [(1,n2%(1+I%3))]
    obtain⟨B2,hB2⟩:∃ B2,B2=bcl (q2::r2):=⟨_,rfl⟩
    dsimp only
    simp only[← hB2] at pg2 hb hf e2 ⊢
    try dsimp only
    (conv=>whnf)
    (try simp only[])
    repeat ((first|refine V.s1 ?_|((try ((with_reducible refine .ext ?_);(conv=>whnf);(try simp only[])));(with_reducible refine jaa (r:=?_) ?_ ?_);rotate_left;(focus (first|exact(co)));(conv=>whnf))|(((rewrite [pg2];(conv=>whnf)));(conv=>whnf)));(try simp only[]))
    refine V.br (fun hq2=>?_) (fun hq2=>?_)
    ·simp only[decide_eq_true_eq] at hq2
     have ht:Nat.ble (r2.length+1+1) 1000000=true:=by rw[ji2];simp at j3;omega
     (conv=>whnf)
     (try simp only[])
     repeat ((first|refine V.s1 ?_|((try ((with_reducible refine .ext ?_);(conv=>whnf);(try simp only[])));(with_reducible refine jaa (r:=?_) ?_ ?_);rotate_left;(focus (first|exact(ci)));(conv=>whnf))|(((rewrite [pg2];(conv=>whnf)));(conv=>whnf))|(((simp only[hb,ht,jjt,hf];(conv=>whnf)));(conv=>whnf)));(try simp only[]))
     refine⟨((q2::r2)++[(1,n2%(1+I%3))],n2+1),⟨by dsimp only;omega,by dsimp only;omega,by simp at j7 ⊢ <;> omega,by simp,j-1,by omega,by dsimp only;omega,by simp at j7 ⊢; omega,?_⟩,by dsimp only;omega,?_⟩
     ·obtain⟨j',rfl⟩:∃ j',j=j'+1:=⟨j-1,by omega⟩
      rw[← j8]
      show dup (1+I%3) (1+O%3) j' _=dup (1+I%3) (1+O%3) (j'+1) ((q2::r2),n2)
      rw[dup,if_pos hq2]
     ·dsimp only
      have e1:(r2++[((1:Int),n2%(1+I%3))]).length=r2.length+1:=by simp
      rw[ji3]
      dsimp only
      rw[e1,e2]
      refine Wk.renS 104 300 3 (r2.length+1+1) 2 (by decide) (by decide) (hf _) rfl rfl ?_
      exact V.wk
    ·simp only[decide_eq_false_iff_not] at hq2
     have e9:dup (1+I%3) (1+O%3) j ((q2::r2),n2)=((q2::r2),n2):=by
      cases j with
      | zero=>rfl
      | succ j=>rw[dup,if_neg hq2]
     rw[e9] at j8
     have hD3:dup (1+I%3) (1+O%3) 3 ([],0)=(q2::r2,n2):=hD2.symm.trans j8.symm
     have hne:0<n2:=by omega
     have hfin2:dprog (1+I%3) (1+O%3) l=(ddn (1+O%3) 9 ((q2::r2),n2)).1:=by
      unfold dprog;rw[hfin,show dup (1+I%3) (1+O%3) 3 ([],0)=(q2::r2,n2) from hD3]
     (conv=>whnf)
     (try simp only[])
     repeat ((first|refine V.s1 ?_|((try ((with_reducible refine .ext ?_);(conv=>whnf);(try simp only[])));(with_reducible refine jaa (r:=?_) ?_ ?_);rotate_left;(focus (first|fail));(conv=>whnf))|(((rewrite [pg2];(conv=>whnf)));(conv=>whnf)));(try simp only[]))
     rw[hB2]
     refine Lp.of ⟨List (Int×Int)×Int,fun t=>t.1≠[]∧t.1.length≤100∧t.2≤9∧1+O%3≤t.2 ∧ ∃ j:Nat,j≤9∧t.2-(1+O%3)≤j∧t.1.length+j≤40∧ddn (1+O%3) j t=ddn (1+O%3) 9 ((q2::r2),n2),fun t=>match t.1 with|[]=>[]|q::r=>[(1,.box 1 0),(3,.bsl 300 0 (r.length+1) 2),(4,.int .i64 t.2)],fun t=>match t.1 with|[]=>[]|q::r=>[(1,.box [.int .u8 I,.int .u8 O,dsD l]),(300,.box (bcl (q::r)))],fun t=>t.2.toNat,⟨((q2::r2),n2),⟨by simp,by simp at j3 ⊢; omega,by omega,by omega,9,by omega,by omega,by simp at j3 ⊢; omega,rfl⟩,V.wk⟩,?_⟩
     rintro⟨P3,n3⟩ ⟨i1,i2,i3,i4,j,i5,i6,i7,i8⟩
     dsimp only at i1 i2 i3 i4 i6 i7 i8
     cases P3 with
     | nil=>exact absurd rfl i1
     | cons q3 r3=>
      dsimp only
      have pg3:=jaA (q3::r3)
      have pb3:=jaY (q3::r3)
      have bo3:bslOk (bcl (q3::r3)) 0 (r3.length+1) 2=true:=jbm (q3::r3)
      have hb:Nat.beq (bcl (q3::r3)).length ((r3.length+1)*2)=true:=by rw[jaN];exact Nat.beq_refl _
      have hf:∀ i,D.freeL i (bcl (q3::r3)++[.int .i64 3,.int .i64 0])=true:=jay (q3::r3) 3 0
      have e2:bcl (q3::(r3++[(3,0)]))=bcl (q3::r3)++[.int .i64 3,.int .i64 0]:=jaC (q3::r3) [(3,0)]
      have eo:oL (q3::r3)=sl2 (r3.length+1) (bcl (q3::r3)):=rfl
      obtain⟨B3,hB3⟩:∃ B3,B3=bcl (q3::r3):=⟨_,rfl⟩
      simp only[← hB3] at pg3 pb3 bo3 hb hf e2 eo ⊢
      (conv=>whnf)
      (try simp only[])
      repeat ((first|refine V.s1 ?_|((try ((with_reducible refine .ext ?_);(conv=>whnf);(try simp only[])));(with_reducible refine jaa (r:=?_) ?_ ?_);rotate_left;(focus (first|exact(co)));(conv=>whnf))|(((rewrite [pg3];(conv=>whnf)));(conv=>whnf)));(try simp only[]))
      refine V.br (fun hq3=>?_) (fun hq3=>?_)
      ·simp only[decide_eq_true_eq] at hq3
       have ht:Nat.ble (r3.length+1+1) 1000000=true:=by rw[ji2];simp at i2;omega
       (conv=>whnf)
       (try simp only[])
       repeat ((first|refine V.s1 ?_|((try ((with_reducible refine .ext ?_);(conv=>whnf);(try simp only[])));(with_reducible refine jaa (r:=?_) ?_ ?_);rotate_left;(focus (first|fail));(conv=>whnf))|(((rewrite [pg3];(conv=>whnf)));(conv=>whnf))|(((simp only[hb,ht,jjt,hf];(conv=>whnf)));(conv=>whnf)));(try simp only[]))
       refine⟨(q3::(r3++[(3,0)]),n3-1),⟨by simp,by simp at i7 ⊢; omega,by dsimp only;omega,by dsimp only;omega,j-1,by omega,by dsimp only;omega,by simp at i7 ⊢; omega,?_⟩,by dsimp only;omega,?_⟩
       ·obtain⟨j',rfl⟩:∃ j',j=j'+1:=⟨j-1,by omega⟩
        rw[← i8]
        show ddn (1+O%3) j' _=ddn (1+O%3) (j'+1) (q3::r3,n3)
        rw[ddn,if_pos hq3]
        rfl
       ·dsimp only
        have e1:(r3++[((3:Int),(0:Int))]).length=r3.length+1:=by simp
        rw[e1,e2]
        refine Wk.renS 114 300 3 (r3.length+1+1) 2 (by decide) (by decide) (hf _) rfl rfl ?_
        exact V.wk
      ·simp only[decide_eq_false_iff_not] at hq3
       have e9:ddn (1+O%3) j (q3::r3,n3)=(q3::r3,n3):=by
        cases j with
        | zero=>rfl
        | succ j=>rw[ddn,if_neg hq3]
       rw[hfin2,← i8,e9]
       dsimp only
       rw[eo]
       (conv=>whnf)
       (try simp only[jiC])
       repeat ((first|refine V.s1 ?_|((try ((with_reducible refine .ext ?_);(conv=>whnf);(try simp only[jiC])));(with_reducible refine jaa (r:=?_) ?_ ?_);rotate_left;(focus (first|fail));(conv=>whnf))|(((rewrite [pg3];(conv=>whnf)));(conv=>whnf))|(((rewrite [bo3];(conv=>whnf)));(conv=>whnf))|(((rewrite [pb3];(conv=>whnf)));(conv=>whnf)));(try simp only[jiC]))
       exact Fin.of rfl
 | succ k=>
  dsimp only
  have hkk:(((k+1:Nat):Int)+1)=((k+1+1:Nat):Int):=by omega
  have hP:(dfo (1+I%3) (l.take (k+1))).1.length=k+1:=by
   unfold dfo;rw[dfo_len,jjb];simp;omega
  have hG:=good_dfo (ins:=1+I%3) (by omega) (l.take (k+1)) (fun s hs=>(hl s (jjh hs)).2)
  have hn:=And.intro hG.lo hG.hi
  have hS:k+1<l.length→dfo (1+I%3) (l.take (k+1+1))=dst (1+I%3) (dfo (1+I%3) (l.take (k+1))) (l.getD (k+1) (0,0)):=fun h=>by rw[jcd l (k+1) (0,0) h,dfo_snoc]
  have hX:k+1<l.length→(0≤(l.getD (k+1) (0,0)).1∧(l.getD (k+1) (0,0)).1≤255) ∧ -32768≤(l.getD (k+1) (0,0)).2∧(l.getD (k+1) (0,0)).2≤32767:=fun h=>hl _ (by rw[ji5,ji8 h];exact ji9 h)
  clear hG
  obtain⟨t,hT⟩:∃ t,t=dfo (1+I%3) (l.take (k+1)):=⟨_,rfl⟩
  rw[← hT] at hP hn hS ⊢
  obtain⟨P,n⟩:=t
  dsimp only at hP hn hS ⊢
  have pg:=jaA P
  refine V.r0 @jiD ?_
  refine V.br (fun hq=>?_) (fun hq=>?_)
  ·simp only[jiv,decide_eq_true_eq] at hq
   have hkl:k+1<l.length:=by omega
   have hS:=hS hkl
   have hX:=hX hkl
   obtain⟨c,a,hca⟩:∃ c a,l.getD (k+1) (0,0)=(c,a):=⟨_,_,rfl⟩
   rw[hca] at hS hX
   dsimp only at hX
   have tk:=rtk (c:=1+c%12) (by unfold tkb;simp only[decide_eq_true_eq];omega)
   (conv=>whnf)
   (try simp only[jiD,hca])
   repeat ((first|refine V.s1 ?_|((try ((with_reducible refine .ext ?_);(conv=>whnf);(try simp only[jiD,hca])));(with_reducible refine jaa (r:=?_) ?_ ?_);rotate_left;(focus (first|exact(tk)));(conv=>whnf))|((refine⟨_,fun _=>tk,?_⟩);(conv=>whnf))|(((rewrite [pg];(conv=>whnf)));(conv=>whnf)));(try simp only[jiD,hca]))
   refine⟨fun h1 h2=>by rw[h1,h2];rfl,?_⟩
   (conv=>whnf)
   (try simp only[jiD,hca])
   repeat ((first|refine V.s1 ?_|((try ((with_reducible refine .ext ?_);(conv=>whnf);(try simp only[jiD,hca])));(with_reducible refine jaa (r:=?_) ?_ ?_);rotate_left;(focus (first|exact(tk)));(conv=>whnf))|(((rewrite [pg];(conv=>whnf)));(conv=>whnf)));(try simp only[jiD,hca]))
   refine jbE [(1,.box 1 0),(3,.bsl 300 0 (k+1) 2),(4,.int .i64 n),(5,.int .i64 ((k+1:Nat):Int)),(6,.box 6 0)] [(1,.box [.int .u8 I,.int .u8 O,dsD l]),(300,.box (bcl P)),(6,.box [.int .i64 (dcode n (1+c%12)),.int .i64 0])] (CondB.mk (fun h=>?_) (fun h=>?_)) ?_
   ·have e:dcode n (1+c%12)=if n>8 then 3 else 1:=by
     unfold dcode
     simp only[jiM,jiv,decide_eq_true_eq] at h
     rw[if_pos (by omega)]
    rw[e]
    (conv=>whnf)
    (try simp only[])
    repeat ((first|refine V.s1 ?_|((try ((with_reducible refine .ext ?_);(conv=>whnf);(try simp only[])));(with_reducible refine jaa (r:=?_) ?_ ?_);rotate_left;(focus (first|fail));(conv=>whnf))|(((rewrite [pg];(conv=>whnf)));(conv=>whnf)));(try simp only[]))
    refine V.br (fun h8=>?_) (fun h8=>?_)
    ·rw[if_pos (of_decide_eq_true h8)]
     (conv=>whnf)
     (try simp only[])
     repeat ((first|refine V.s1 ?_|((try ((with_reducible refine .ext ?_);(conv=>whnf);(try simp only[])));(with_reducible refine jaa (r:=?_) ?_ ?_);rotate_left;(focus (first|fail));(conv=>whnf))|(((rewrite [pg];(conv=>whnf)));(conv=>whnf)));(try simp only[]))
     exact V.wk
    ·rw[if_neg (of_decide_eq_false h8)]
     (conv=>whnf)
     exact V.wk
   ·have e:dcode n (1+c%12)=1+c%12:=by
     unfold dcode
     simp only[jiN,Bool.and_eq_false_iff,decide_eq_false_iff_not] at h
     rw[if_neg (by omega)]
    rw[e]
    (conv=>whnf)
    exact V.wk
   have hcb:tkb (dcode n (1+c%12))=true:=dop_code 0 n (c,a)
   have hS2:dst (1+I%3) (P,n) (c,a)=(P++[(dcode n (1+c%12),darg (1+I%3) n (dcode n (1+c%12)) a)],n-tkn (dcode n (1+c%12))+1):=rfl
   rw[hS2] at hS
   have h11:dcode n (1+c%12)=11→0<n:=dcode_11 hn.1
   generalize dcode n (1+c%12)=cc at *
   (conv=>whnf)
   (try simp only[jiD,hca])
   repeat ((first|refine V.s1 ?_|((try ((with_reducible refine .ext ?_);(conv=>whnf);(try simp only[jiD,hca])));(with_reducible refine jaa (r:=?_) ?_ ?_);rotate_left;(focus (first|fail));(conv=>whnf))|(((rewrite [pg];(conv=>whnf)));(conv=>whnf)));(try simp only[jiD,hca]))
   refine jbE [(1,.box 1 0),(3,.bsl 300 0 (k+1) 2),(4,.int .i64 n),(5,.int .i64 ((k+1:Nat):Int)),(6,.box 6 0)] [(1,.box [.int .u8 I,.int .u8 O,dsD l]),(300,.box (bcl P)),(6,.box [.int .i64 cc,.int .i64 (darg (1+I%3) n cc a)])] (CondB.mk (fun h=>?_) (fun h=>?_)) ?_
   ·have e1:=of_decide_eq_true h
    have e:darg (1+I%3) n cc a=(IntKind.u16.wrap a).tmod (1+I%3):=by unfold darg;rw[if_pos e1,wrap16]
    rw[e]
    (conv=>whnf)
    (try simp only[])
    repeat ((first|refine V.s1 ?_|((try ((with_reducible refine .ext ?_);(conv=>whnf);(try simp only[])));(with_reducible refine jaa (r:=?_) ?_ ?_);rotate_left;(focus (first|exact(ci)));(conv=>whnf))|(((rewrite [pg];(conv=>whnf)));(conv=>whnf)));(try simp only[]))
    refine .inr ?_
    (conv=>whnf)
    (try simp only[])
    repeat ((first|refine V.s1 ?_|((try ((with_reducible refine .ext ?_);(conv=>whnf);(try simp only[])));(with_reducible refine jaa (r:=?_) ?_ ?_);rotate_left;(focus (first|exact(ci)));(conv=>whnf))|(((rewrite [pg];(conv=>whnf)));(conv=>whnf)));(try simp only[]))
    exact V.wk
   ·have e1:=of_decide_eq_false h
    (conv=>whnf)
    (try simp only[])
    repeat ((first|refine V.s1 ?_|((try ((with_reducible refine .ext ?_);(conv=>whnf);(try simp only[])));(with_reducible refine jaa (r:=?_) ?_ ?_);rotate_left;(focus (first|fail));(conv=>whnf))|(((rewrite [pg];(conv=>whnf)));(conv=>whnf)));(try simp only[]))
    refine V.br (fun h2=>?_) (fun h2=>?_)
    ·have e2:=of_decide_eq_true h2
     have e:darg (1+I%3) n cc a=100*a:=by unfold darg;rw[if_neg e1,if_pos e2]
     rw[e]
     (conv=>whnf)
     (try simp only[])
     repeat ((first|refine V.s1 ?_|((try ((with_reducible refine .ext ?_);(conv=>whnf);(try simp only[])));(with_reducible refine jaa (r:=?_) ?_ ?_);rotate_left;(focus (first|fail));(conv=>whnf))|(((rewrite [pg];(conv=>whnf)));(conv=>whnf)));(try simp only[]))
     exact V.wk
    ·have e2:=of_decide_eq_false h2
     (conv=>whnf)
     (try simp only[])
     repeat ((first|refine V.s1 ?_|((try ((with_reducible refine .ext ?_);(conv=>whnf);(try simp only[])));(with_reducible refine jaa (r:=?_) ?_ ?_);rotate_left;(focus (first|fail));(conv=>whnf))|(((rewrite [pg];(conv=>whnf)));(conv=>whnf)));(try simp only[]))
     refine V.br (fun h3=>?_) (fun h3=>?_)
     ·have e3:=of_decide_eq_true h3
      have e:darg (1+I%3) n cc a=(IntKind.u16.wrap a).tmod n:=by unfold darg;rw[if_neg e1,if_neg e2,if_pos e3,wrap16]
      rw[e]
      (conv=>whnf)
      (try simp only[])
      repeat ((first|refine V.s1 ?_|((try ((with_reducible refine .ext ?_);(conv=>whnf);(try simp only[])));(with_reducible refine jaa (r:=?_) ?_ ?_);rotate_left;(focus (first|fail));(conv=>whnf))|(((rewrite [pg];(conv=>whnf)));(conv=>whnf)));(try simp only[]))
      have n0:=h11 e3
      refine .inr ?_
      (conv=>whnf)
      (try simp only[])
      repeat ((first|refine V.s1 ?_|((try ((with_reducible refine .ext ?_);(conv=>whnf);(try simp only[])));(with_reducible refine jaa (r:=?_) ?_ ?_);rotate_left;(focus (first|fail));(conv=>whnf))|(((rewrite [pg];(conv=>whnf)));(conv=>whnf)));(try simp only[]))
      exact V.wk
     ·have e3:=of_decide_eq_false h3
      have e:darg (1+I%3) n cc a=0:=by unfold darg;rw[if_neg e1,if_neg e2,if_neg e3]
      rw[e]
      (conv=>whnf)
      exact V.wk
   have tk2:=rtk hcb
   have htk:=jeC cc
   have hb:Nat.beq (bcl P).length ((k+1)*2)=true:=by rw[jaN,hP];exact Nat.beq_refl _
   have ht:Nat.ble (k+1+1) 1000000=true:=by rw[ji2];omega
   generalize darg (1+I%3) n cc a=ag at *
   have hf:∀ i,D.freeL i (bcl P++[.int .i64 cc,.int .i64 ag])=true:=jay P cc ag
   (conv=>whnf)
   (try simp only[jiD,hkk])
   repeat ((first|refine V.s1 ?_|((try ((with_reducible refine .ext ?_);(conv=>whnf);(try simp only[jiD,hkk])));(with_reducible refine jaa (r:=?_) ?_ ?_);rotate_left;(focus (first|exact(tk2)));(conv=>whnf))|(((rewrite [pg];(conv=>whnf)));(conv=>whnf))|(((simp only[hb,ht,jjt,hf];(conv=>whnf)));(conv=>whnf)));(try simp only[jiD,hkk]))
   refine⟨k+1+1,⟨by omega,by omega⟩,by omega,?_⟩
   dsimp only
   rw[hS]
   dsimp only
   rw[jaC]
   refine Wk.renS 86 300 3 (k+1+1) 2 (by decide) (by decide) (hf _) rfl rfl ?_
   exact V.wk
  ·simp only[Bool.and_eq_false_iff,decide_eq_false_iff_not] at hq
   have hfin:dfo (1+I%3) (l.take 12)=(P,n):=by
    rcases jiL (k+1) l.length with g|g
    ·rw[show 12=k+1 by omega];exact hT.symm
    ·rw[jjm (by omega)]
     rw[jjm g] at hT
     exact hT.symm
   (conv=>whnf)
   (try simp only[])
   repeat ((first|refine V.s1 ?_|((try ((with_reducible refine .ext ?_);(conv=>whnf);(try simp only[])));(with_reducible refine jaa (r:=?_) ?_ ?_);rotate_left;(focus (first|fail));(conv=>whnf))|(((rewrite [pg];(conv=>whnf)));(conv=>whnf)));(try simp only[]))
   cases P with
   | nil=>simp at hP
   | cons q0 r0=>
    obtain rfl:k=r0.length:=by simpa using hP.symm
    have hD:∃ D2,D2=dup (1+I%3) (1+O%3) 3 (q0::r0,n):=⟨_,rfl⟩
    obtain⟨D2,hD2⟩:=hD
    refine Lp.of ⟨List (Int×Int)×Int,fun t=>0≤t.2∧t.2≤9∧t.1.length≤20∧(t.1=[]→t.2=0) ∧ ∃ j:Nat,j≤3∧(1+O%3)-t.2≤j∧t.1.length+j≤15∧dup (1+I%3) (1+O%3) j t=D2,fun t=>match t.1 with|[]=>[(1,.box 1 0),(3,.nil),(4,.int .i64 t.2)]|q::r=>[(1,.box 1 0),(3,.bsl 300 0 (r.length+1) 2),(4,.int .i64 t.2)],fun t=>match t.1 with|[]=>[(1,.box [.int .u8 I,.int .u8 O,dsD l])]|q::r=>[(1,.box [.int .u8 I,.int .u8 O,dsD l]),(300,.box (bcl (q::r)))],fun t=>(9-t.2).toNat,⟨(q0::r0,n),⟨by dsimp only;omega,by dsimp only;omega,by simp<;>omega,by simp,3,by omega,by omega,by simp<;>omega,hD2.symm⟩,V.wk⟩,?_⟩
    rintro⟨P2,n2⟩ ⟨j1,j2,j3,j4,j,j5,j6,j7,j8⟩
    dsimp only at j1 j2 j3 j4 j6 j7 j8
    cases P2 with
    | nil=>
     try dsimp only
     (conv=>whnf)
     (try simp only[])
     repeat ((first|refine V.s1 ?_|((try ((with_reducible refine .ext ?_);(conv=>whnf);(try simp only[])));(with_reducible refine jaa (r:=?_) ?_ ?_);rotate_left;(focus (first|exact(co)));(conv=>whnf)));(try simp only[]))
     refine V.br (fun hq2=>?_) (fun hq2=>?_)
     ·simp only[decide_eq_true_eq] at hq2
      (conv=>whnf)
      (try simp only[])
      repeat ((first|refine V.s1 ?_|((try ((with_reducible refine .ext ?_);(conv=>whnf);(try simp only[])));(with_reducible refine jaa (r:=?_) ?_ ?_);rotate_left;(focus (first|exact(ci)));(conv=>whnf)));(try simp only[]))
      refine⟨([]++[(1,n2%(1+I%3))],n2+1),⟨by dsimp only;omega,by dsimp only;omega,by simp at j7 ⊢ <;> omega,by simp,j-1,by omega,by dsimp only;omega,by simp at j7 ⊢; omega,?_⟩,by dsimp only;omega,?_⟩
      ·obtain⟨j',rfl⟩:∃ j',j=j'+1:=⟨j-1,by omega⟩
       rw[← j8]
       show dup (1+I%3) (1+O%3) j' _=dup (1+I%3) (1+O%3) (j'+1) ([],n2)
       rw[dup,if_pos hq2]
      ·dsimp only
       refine Wk.renS 104 300 3 1 2 (by decide) (by decide) rfl rfl rfl ?_
       exact V.wk
     ·simp only[decide_eq_false_iff_not] at hq2
      have e9:dup (1+I%3) (1+O%3) j ([],n2)=([],n2):=by
       cases j with
       | zero=>rfl
       | succ j=>rw[dup,if_neg hq2]
      rw[e9] at j8
      exact absurd (j4 rfl) (by omega)
    | cons q2 r2=>
     have pg2:=jaA (q2::r2)
     have hb:Nat.beq (bcl (q2::r2)).length ((r2.length+1)*2)=true:=by rw[jaN];exact Nat.beq_refl _
     have hf:∀ i,D.freeL i (bcl (q2::r2)++[.int .i64 1,.int .i64 (n2%(1+I%3))])=true:=jay (q2::r2) 1 (n2%(1+I%3))
     have e2:bcl (q2::(r2++[(1,n2%(1+I%3))]))=bcl (q2::r2)++[.int .i64 1,.int .i64 (n2%(1+I%3))]:=jaC (q2::r2) [(1,n2%(1+I%3))]
     obtain⟨B2,hB2⟩:∃ B2,B2=bcl (q2::r2):=⟨_,rfl⟩
     dsimp only
     simp only[← hB2] at pg2 hb hf e2 ⊢
     try dsimp only
     (conv=>whnf)
     (try simp only[])
     repeat ((first|refine V.s1 ?_|((try ((with_reducible refine .ext ?_);(conv=>whnf);(try simp only[])));(with_reducible refine jaa (r:=?_) ?_ ?_);rotate_left;(focus (first|exact(co)));(conv=>whnf))|(((rewrite [pg2];(conv=>whnf)));(conv=>whnf)));(try simp only[]))
     refine V.br (fun hq2=>?_) (fun hq2=>?_)
     ·simp only[decide_eq_true_eq] at hq2
      have ht:Nat.ble (r2.length+1+1) 1000000=true:=by rw[ji2];simp at j3;omega
      (conv=>whnf)
      (try simp only[])
      repeat ((first|refine V.s1 ?_|((try ((with_reducible refine .ext ?_);(conv=>whnf);(try simp only[])));(with_reducible refine jaa (r:=?_) ?_ ?_);rotate_left;(focus (first|exact(ci)));(conv=>whnf))|(((rewrite [pg2];(conv=>whnf)));(conv=>whnf))|(((simp only[hb,ht,jjt,hf];(conv=>whnf)));(conv=>whnf)));(try simp only[]))
      refine⟨((q2::r2)++[(1,n2%(1+I%3))],n2+1),⟨by dsimp only;omega,by dsimp only;omega,by simp at j7 ⊢ <;> omega,by simp,j-1,by omega,by dsimp only;omega,by simp at j7 ⊢; omega,?_⟩,by dsimp only;omega,?_⟩
      ·obtain⟨j',rfl⟩:∃ j',j=j'+1:=⟨j-1,by omega⟩
       rw[← j8]
       show dup (1+I%3) (1+O%3) j' _=dup (1+I%3) (1+O%3) (j'+1) ((q2::r2),n2)
       rw[dup,if_pos hq2]
      ·dsimp only
       have e1:(r2++[((1:Int),n2%(1+I%3))]).length=r2.length+1:=by simp
       rw[ji3]
       dsimp only
       rw[e1,e2]
       refine Wk.renS 104 300 3 (r2.length+1+1) 2 (by decide) (by decide) (hf _) rfl rfl ?_
       exact V.wk
     ·simp only[decide_eq_false_iff_not] at hq2
      have e9:dup (1+I%3) (1+O%3) j ((q2::r2),n2)=((q2::r2),n2):=by
       cases j with
       | zero=>rfl
       | succ j=>rw[dup,if_neg hq2]
      rw[e9] at j8
      have hD3:dup (1+I%3) (1+O%3) 3 (q0::r0,n)=(q2::r2,n2):=hD2.symm.trans j8.symm
      have hne:0<n2:=by omega
      have hfin2:dprog (1+I%3) (1+O%3) l=(ddn (1+O%3) 9 ((q2::r2),n2)).1:=by
       unfold dprog;rw[hfin,show dup (1+I%3) (1+O%3) 3 (q0::r0,n)=(q2::r2,n2) from hD3]
      (conv=>whnf)
      (try simp only[])
      repeat ((first|refine V.s1 ?_|((try ((with_reducible refine .ext ?_);(conv=>whnf);(try simp only[])));(with_reducible refine jaa (r:=?_) ?_ ?_);rotate_left;(focus (first|fail));(conv=>whnf))|(((rewrite [pg2];(conv=>whnf)));(conv=>whnf)));(try simp only[]))
      rw[hB2]
      refine Lp.of ⟨List (Int×Int)×Int,fun t=>t.1≠[]∧t.1.length≤100∧t.2≤9∧1+O%3≤t.2 ∧ ∃ j:Nat,j≤9∧t.2-(1+O%3)≤j∧t.1.length+j≤40∧ddn (1+O%3) j t=ddn (1+O%3) 9 ((q2::r2),n2),fun t=>match t.1 with|[]=>[]|q::r=>[(1,.box 1 0),(3,.bsl 300 0 (r.length+1) 2),(4,.int .i64 t.2)],fun t=>match t.1 with|[]=>[]|q::r=>[(1,.box [.int .u8 I,.int .u8 O,dsD l]),(300,.box (bcl (q::r)))],fun t=>t.2.toNat,⟨((q2::r2),n2),⟨by simp,by simp at j3 ⊢; omega,by omega,by omega,9,by omega,by omega,by simp at j3 ⊢; omega,rfl⟩,V.wk⟩,?_⟩
      rintro⟨P3,n3⟩ ⟨i1,i2,i3,i4,j,i5,i6,i7,i8⟩
      dsimp only at i1 i2 i3 i4 i6 i7 i8
      cases P3 with
      | nil=>exact absurd rfl i1
      | cons q3 r3=>
       dsimp only
       have pg3:=jaA (q3::r3)
       have pb3:=jaY (q3::r3)
       have bo3:bslOk (bcl (q3::r3)) 0 (r3.length+1) 2=true:=jbm (q3::r3)
       have hb:Nat.beq (bcl (q3::r3)).length ((r3.length+1)*2)=true:=by rw[jaN];exact Nat.beq_refl _
       have hf:∀ i,D.freeL i (bcl (q3::r3)++[.int .i64 3,.int .i64 0])=true:=jay (q3::r3) 3 0
       have e2:bcl (q3::(r3++[(3,0)]))=bcl (q3::r3)++[.int .i64 3,.int .i64 0]:=jaC (q3::r3) [(3,0)]
       have eo:oL (q3::r3)=sl2 (r3.length+1) (bcl (q3::r3)):=rfl
       obtain⟨B3,hB3⟩:∃ B3,B3=bcl (q3::r3):=⟨_,rfl⟩
       simp only[← hB3] at pg3 pb3 bo3 hb hf e2 eo ⊢
       (conv=>whnf)
       (try simp only[])
       repeat ((first|refine V.s1 ?_|((try ((with_reducible refine .ext ?_);(conv=>whnf);(try simp only[])));(with_reducible refine jaa (r:=?_) ?_ ?_);rotate_left;(focus (first|exact(co)));(conv=>whnf))|(((rewrite [pg3];(conv=>whnf)));(conv=>whnf)));(try simp only[]))
       refine V.br (fun hq3=>?_) (fun hq3=>?_)
       ·simp only[decide_eq_true_eq] at hq3
        have ht:Nat.ble (r3.length+1+1) 1000000=true:=by rw[ji2];simp at i2;omega
        (conv=>whnf)
        (try simp only[])
        repeat ((first|refine V.s1 ?_|((try ((with_reducible refine .ext ?_);(conv=>whnf);(try simp only[])));(with_reducible refine jaa (r:=?_) ?_ ?_);rotate_left;(focus (first|fail));(conv=>whnf))|(((rewrite [pg3];(conv=>whnf)));(conv=>whnf))|(((simp only[hb,ht,jjt,hf];(conv=>whnf)));(conv=>whnf)));(try simp only[]))
        refine⟨(q3::(r3++[(3,0)]),n3-1),⟨by simp,by simp at i7 ⊢; omega,by dsimp only;omega,by dsimp only;omega,j-1,by omega,by dsimp only;omega,by simp at i7 ⊢; omega,?_⟩,by dsimp only;omega,?_⟩
        ·obtain⟨j',rfl⟩:∃ j',j=j'+1:=⟨j-1,by omega⟩
         rw[← i8]
         show ddn (1+O%3) j' _=ddn (1+O%3) (j'+1) (q3::r3,n3)
         rw[ddn,if_pos hq3]
         rfl
        ·dsimp only
         have e1:(r3++[((3:Int),(0:Int))]).length=r3.length+1:=by simp
         rw[e1,e2]
         refine Wk.renS 114 300 3 (r3.length+1+1) 2 (by decide) (by decide) (hf _) rfl rfl ?_
         exact V.wk
       ·simp only[decide_eq_false_iff_not] at hq3
        have e9:ddn (1+O%3) j (q3::r3,n3)=(q3::r3,n3):=by
         cases j with
         | zero=>rfl
         | succ j=>rw[ddn,if_neg hq3]
        rw[hfin2,← i8,e9]
        dsimp only
        rw[eo]
        (conv=>whnf)
        (try simp only[jiC])
        repeat ((first|refine V.s1 ?_|((try ((with_reducible refine .ext ?_);(conv=>whnf);(try simp only[jiC])));(with_reducible refine jaa (r:=?_) ?_ ?_);rotate_left;(focus (first|fail));(conv=>whnf))|(((rewrite [pg3];(conv=>whnf)));(conv=>whnf))|(((rewrite [bo3];(conv=>whnf)));(conv=>whnf))|(((rewrite [pb3];(conv=>whnf)));(conv=>whnf)));(try simp only[jiC]))
        exact Fin.of rfl
def argR (c a i n:Int):Bool:=if c=1 then decide (0≤a) && decide (a<i) else if c=2 then decide (-1000000000≤a) && decide (a≤1000000000) else if c=11 then decide (0≤a) && decide (a<n) else decide (a=0)
theorem argued_c (c a i n:Int):Cl 128 [.agg [.int .i64 c,.int .i64 a],.int .i64 i,.int .i64 n] (.bool (argR c a i n)):=by
 by_cases e1:c=1
 ·subst e1
  refine V.en tbOk Tryz.func128 ?_
  (conv=>whnf)
  (conv=>whnf)
  (try simp only[])
  repeat ((first|refine V.s1 ?_);(try simp only[]))
  exact Fin.of rfl
 by_cases e2:c=2
 ·subst e2
  refine V.en tbOk Tryz.func128 ?_
  (conv=>whnf)
  (conv=>whnf)
  (try simp only[])
  repeat ((first|refine V.s1 ?_);(try simp only[]))
  exact Fin.of rfl
 by_cases e11:c=11
 ·subst e11
  refine V.en tbOk Tryz.func128 ?_
  (conv=>whnf)
  (conv=>whnf)
  (try simp only[])
  repeat ((first|refine V.s1 ?_);(try simp only[]))
  exact Fin.of rfl
 have h1:argR c a i n=decide (a=0):=by unfold argR;rw[if_neg e1,if_neg e2,if_neg e11]
 rw[h1]
 have f1:=decide_eq_false e1
 have f2:=decide_eq_false e2
 have f11:=decide_eq_false e11
 refine V.en tbOk Tryz.func128 ?_
 refine V.r0 (V.a3 f1 f2 f11) ?_
 exact Fin.of rfl
def tkR (c:Int):Int:=if tkb c=true then tkn c else -1
def rS (i:Int)(s:Int×Int)(o:Int×Int):Option (Int×Int):=
 if (decide (tkR o.1<0) || decide (s.1<tkR o.1) || !(argR o.1 o.2 i s.1))=true then none else some (s.1-tkR o.1+1,max s.2 (s.1-tkR o.1+1))
def rL (i:Int)(s:Int×Int):List (Int×Int)→Option (Int×Int)
 | []=>some s
 | o::p=>match rS i s o with|some s'=>rL i s' p|none=>none
def rD (p:List (Int×Int))(i o:Int):Int×Bool:=
 if (decide (i<1) || decide (4<i) || decide (o<1) || decide (4<o) || decide (40<(p.length:Int)))=true then (0,false) else match rL i (0,0) p with|some (n,d)=>(d,decide (d≤16) && decide (n=o))|none=>(0,false)
theorem rL_app (i:Int)(s:Int×Int)(p q:List (Int×Int)):rL i s (p++q)=match rL i s p with|some s'=>rL i s' q|none=>none:=by
 induction p generalizing s with
 | nil=>rfl
 | cons o p ih=>
  simp only[ji3,rL]
  cases rS i s o with
  | none=>rfl
  | some s'=>exact ih s'
theorem rL_snoc (i:Int)(p:List (Int×Int))(k:Nat)(h:k<p.length):rL i (0,0) (p.take (k+1))=match rL i (0,0) (p.take k) with|some s=>rS i s (p.getD k (0,0))|none=>none:=by
 rw[jcd p k (0,0) h,rL_app]
 cases rL i (0,0) (p.take k) with
 | none=>rfl
 | some s=>
  simp only[rL]
  cases rS i s (p.getD k (0,0))<;>rfl
theorem rL_none {i:Int}{p:List (Int×Int)}{k:Nat}(h:rL i (0,0) (p.take k)=none):rL i (0,0) p=none:=by
 conv=>lhs;rw[← jjd k p]
 rw[rL_app,h]
theorem tkR_bd (c:Int) : -1≤tkR c∧tkR c≤3:=by
 unfold tkR
 have:=jeC c
 split<;>omega
theorem rL_bd {i:Int} : ∀ {p:List (Int×Int)} {s s':Int×Int},rL i s p=some s'→0≤s.1→0≤s'.1∧s'.1≤s.1+p.length∧s.2≤s'.2∧s'.2≤max s.2 (s.1+p.length)
 | [],s,s',h,h0=>by cases h;simp;omega
 | o::p,s,s',h,h0=>by
  simp only[rL] at h
  cases hs:rS i s o with
  | none=>rw[hs] at h;cases h
  | some t=>
   rw[hs] at h
   have b:=tkR_bd o.1
   unfold rS at hs
   split at hs
   ·cases hs
   ·rename_i hn
    simp only[jiM,decide_eq_true_eq,not_or,Int.not_lt] at hn
    cases hs
    have:=rL_bd h (by dsimp only;omega)
    simp only[jjj] at this ⊢
    omega
theorem rdepth_c (p:List (Int×Int))(i o:Int):Cl 60 [opsD p,.int .i64 i,.int .i64 o] (.tup [.int .i64 (rD p i o).1,.bool (rD p i o).2]):=by
 cases hL:(decide (i<1) || decide (4<i) || decide (o<1) || decide (4<o) || decide (40<(p.length:Int))) with
 | true=>
  have hs:rD p i o=(0,false):=by unfold rD;rw[if_pos hL]
  rw[hs]
  refine V.en tbOk Tryz.func60 ?_
  refine V.r0 hL ?_
  exact Fin.of rfl
 | false=>
  have hs:rD p i o=match rL i (0,0) p with|some (n,d)=>(d,decide (d≤16) && decide (n=o))|none=>(0,false):=by unfold rD;rw[if_neg (by rw[hL];decide)]<;>rfl
  have hb:1≤i∧i≤4∧1≤o∧o≤4∧p.length≤40:=by simp at hL;omega
  refine V.en tbOk Tryz.func60 ?_
  refine V.r0 hL ?_
  refine jai (((0:Nat),(0:Int),(0:Int))) (fun k=>k.1≤p.length∧rL i (0,0) (p.take k.1)=some (k.2.1,k.2.2)) (fun k=>p.length-k.1) (fun k=>[(8,.int .i64 k.2.1),(9,.int .i64 k.2.2),(10,.int .i64 k.1)]) (fun k=>[]) ?_ ?_ ?_
  ·exact V.wk
  ·exact⟨jix _,rfl⟩
  rintro⟨k,n,d⟩ ⟨hk,hr⟩
  dsimp only at hk hr ⊢
  have hbd:=rL_bd hr (by simp)
  dsimp only at hbd
  rw[jjb] at hbd
  have hkc:((k:Int)+1)=((k+1:Nat):Int):=by omega
  (conv=>whnf)
  refine V.st ?_
  refine V.br (fun hq=>?_) (fun hq=>?_)
  ·simp only[decide_eq_true_eq] at hq
   have hk2:k<p.length:=by omega
   have hsn:=rL_snoc i p k hk2
   rw[hr] at hsn
   obtain⟨c,a,hca⟩:∃ c a,p.getD k (0,0)=(c,a):=⟨_,_,rfl⟩
   rw[hca] at hsn
   dsimp only at hsn
   have tk:=rtakes_c c
   rw[show (if tkb c=true then tkn c else -1)=tkR c from rfl] at tk
   have ag:=argued_c c a i n
   have tb:=tkR_bd c
   cases h1:(decide (tkR c<0) || decide (n<tkR c) || !(argR c a i n)) with
   | true=>
    have hn:rS i (n,d) (c,a)=none:=if_pos h1
    rw[hn] at hsn
    rw[hs,rL_none hsn]
    (conv=>whnf)
    (try simp only[jiD,hca,h1])
    repeat ((first|refine V.s1 ?_|((try ((with_reducible refine .ext ?_);(conv=>whnf);(try simp only[jiD,hca,h1])));(with_reducible refine jaa (r:=?_) ?_ ?_);rotate_left;(focus (first|exact(tk)));(conv=>whnf))|((refine⟨_,fun _=>ag,?_⟩);(conv=>whnf)));(try simp only[jiD,hca,h1]))
    exact Fin.of rfl
   | false=>
    have hn:rS i (n,d) (c,a)=some (n-tkR c+1,max d (n-tkR c+1)):=if_neg (by rw[h1];decide)
    rw[hn] at hsn
    have hbd2:0≤n-tkR c+1∧n-tkR c+1≤42:=by
     simp only[jiN,decide_eq_false_iff_not,Int.not_lt] at h1
     omega
    (conv=>whnf)
    (try simp only[jiD,hca,h1,hkc])
    repeat ((first|refine V.s1 ?_|((try ((with_reducible refine .ext ?_);(conv=>whnf);(try simp only[jiD,hca,h1,hkc])));(with_reducible refine jaa (r:=?_) ?_ ?_);rotate_left;(focus (first|exact(tk)));(conv=>whnf))|((refine⟨_,fun _=>ag,?_⟩);(conv=>whnf)));(try simp only[jiD,hca,h1,hkc]))
    exact⟨(k+1,n-tkR c+1,max d (n-tkR c+1)),⟨by dsimp only;omega,hsn⟩,by dsimp only;omega,V.wk⟩
  ·simp only[decide_eq_false_iff_not] at hq
   have hke:k=p.length:=by omega
   rw[hke,jjr] at hr
   rw[hr] at hs
   dsimp only at hs
   rw[hs]
   (conv=>whnf)
   (try simp only[])
   repeat ((first|refine V.s1 ?_);(try simp only[]))
   exact Fin.of rfl
theorem argR_e {c a i n:Int}(hc:tkb c=true):argR c a i n=(decide (loA c≤a) && decide (a≤hiA c i n)):=by
 unfold argR loA hiA
 have key:∀ x:Int,decide (a<x)=decide (a≤x-1):=fun x=>by
  rw[decide_eq_decide];omega
 by_cases e1:c=1
 ·subst e1;simp[key]
 ·by_cases e2:c=2
  ·subst e2;simp
  ·by_cases e11:c=11
   ·subst e11;simp[key]
   ·rw[if_neg e1,if_neg e2,if_neg e11,if_neg e2,if_neg e1,if_neg e2,if_neg e11]
    by_cases h:a=0
    ·subst h;rfl
    ·rw[decide_eq_false h]
     symm
     rw[Bool.and_eq_false_iff,decide_eq_false_iff_not,decide_eq_false_iff_not]
     omega
theorem rS_e (i:Int)(s:Int×Int)(o:Int×Int):(∀ t,svS i s o=some t→rS i s o=some t)∧(∀ t,rS i s o=some t→t.2≤16→svS i s o=some t):=by
 unfold svS rS
 cases hc:tkb o.1 with
 | false=>
  have hk:tkR o.1 = -1:=by unfold tkR;rw[hc];rfl
  refine⟨fun t h=>?_,fun t h=>?_⟩
  ·rw[if_neg (by rintro⟨h,_⟩;cases h)] at h;cases h
  ·rw[hk,if_pos (by simp)] at h;cases h
 | true=>
  have hk:tkR o.1=tkn o.1:=by unfold tkR;rw[hc];rfl
  have b:=jeC o.1
  rw[argR_e hc,hk]
  have e:s.1-tkn o.1+1=s.1+(1-tkn o.1):=by omega
  rw[e]
  refine⟨fun t h=>?_,fun t h ht=>?_⟩
  ·split at h
   ·rename_i g
    rw[if_neg]
    ·exact h
    ·simp only[jiM,decide_eq_true_eq,Bool.not_eq_true',Bool.and_eq_false_iff,decide_eq_false_iff_not]
     omega
   ·cases h
  ·split at h
   ·cases h
   ·rename_i g
    simp only[jiM,decide_eq_true_eq,Bool.not_eq_true',Bool.and_eq_false_iff,decide_eq_false_iff_not] at g
    cases h
    dsimp only at ht
    rw[if_pos ⟨rfl,by omega,by omega,by omega,by omega⟩]
theorem rL_e (i:Int):∀ (p:List (Int×Int)) (s:Int×Int),0≤s.1→(∀ t,svL i s p=some t→rL i s p=some t)∧(∀ t,rL i s p=some t→t.2≤16→svL i s p=some t)
 | [],s,_=>⟨fun t h=>h,fun t h _=>h⟩
 | o::p,s,h0=>by
  have e:=rS_e i s o
  simp only[svL,rL]
  refine⟨fun t h=>?_,fun t h ht=>?_⟩
  ·cases hs:svS i s o with
   | none=>rw[hs] at h;cases h
   | some u=>
    rw[hs] at h
    rw[e.1 u hs]
    refine(rL_e i p u ?_).1 t h
    have:=rL_bd (show rL i s [o]=some u by simp only[rL,e.1 u hs]) h0
    exact this.1
  ·cases hs:rS i s o with
   | none=>rw[hs] at h;cases h
   | some u=>
    rw[hs] at h
    have b:=rL_bd (show rL i s [o]=some u by simp only[rL,hs]) h0
    have b2:=rL_bd h b.1
    rw[e.2 u hs (by omega)]
    exact(rL_e i p u b.1).2 t h ht
theorem svL_16 {i:Int} : ∀ {p:List (Int×Int)} {s t:Int×Int},svL i s p=some t→s.2≤16→t.2≤16
 | [],s,t,h,k=>by cases h;exact k
 | o::p,s,t,h,k=>by
  simp only[svL] at h
  cases hs:svS i s o with
  | none=>rw[hs] at h;cases h
  | some u=>
   rw[hs] at h
   refine svL_16 h ?_
   unfold svS at hs
   split at hs
   ·cases hs;dsimp only;omega
   ·cases hs
theorem rD_e (p:List (Int×Int))(i o:Int):(rD p i o).2=(surv p i o).isSome ∧ ∀ d,surv p i o=some d→(rD p i o).1=d:=by
 unfold rD surv
 by_cases hb:1≤i∧i≤4∧1≤o∧o≤4∧p.length≤40
 ·rw[if_pos hb,if_neg (by simp only[jiM,decide_eq_true_eq];omega)]
  have e:=rL_e i p (0,0) (by decide)
  cases hs:svL i (0,0) p with
  | some t=>
   obtain⟨n,d⟩:=t
   have h16:=svL_16 hs (by decide)
   rw[e.1 _ hs]
   dsimp only at h16 ⊢
   rw[decide_eq_true h16,Bool.true_and]
   by_cases hn:n=o
   ·rw[if_pos hn,decide_eq_true hn]
    exact⟨rfl,fun d' h=>by cases h;rfl⟩
   ·rw[if_neg hn,decide_eq_false hn]
    exact⟨rfl,fun d' h=>by cases h⟩
  | none=>
   dsimp only
   refine⟨?_,fun d h=>by cases h⟩
   cases hr:rL i (0,0) p with
   | none=>rfl
   | some t=>
    obtain⟨n,d⟩:=t
    dsimp only
    have:¬ d≤16:=fun h=>by rw[e.2 _ hr h] at hs;cases hs
    rw[decide_eq_false this]
    rfl
 ·rw[if_neg hb,if_pos (by simp only[jiM,decide_eq_true_eq];omega)]
  exact⟨rfl,fun d h=>by cases h⟩
theorem rright_c (p:List (Int×Int))(i o:Int):Cl 61 [opsD p,.int .i64 i,.int .i64 o] (.bool (surv p i o).isSome):=by
 have d:=rdepth_c p i o
 rw[(rD_e p i o).1] at d
 refine V.en tbOk Tryz.func61 ?_
 (conv=>whnf)
 (conv=>whnf)
 (try simp only[])
 repeat ((first|refine V.s1 ?_|((try ((with_reducible refine .ext ?_);(conv=>whnf);(try simp only[])));(with_reducible refine jaa (r:=?_) ?_ ?_);rotate_left;(focus (first|exact(d)));(conv=>whnf)));(try simp only[]))
 exact Fin.of rfl
theorem rright_o (p:List (Int×Int))(i o:Int):Cl 61 [oL p,.int .i64 i,.int .i64 o] (.bool (surv p i o).isSome):=
 arg3 (rright_c p i o) (fin_o p) (Fin.same _) (Fin.same _)
structure Bnd where
 W:Int
 A:Int
 c:Int
 a:Int
structure BndOk (b:Bnd):Prop where
 W:0≤b.W∧b.W≤255
 A:0≤b.A∧b.A≤255
 c:InR .i64 b.c
 a:InR .i64 b.a
abbrev bndD (b d:Bnd):D := .agg [.int .u8 b.W,.int .u8 b.A,.int .i64 b.c,.int .i64 b.a,.int .u8 d.W,.int .u8 d.A,.int .i64 d.c,.int .i64 d.a]
def bent (b:Bnd)(p:List (Int×Int)):List (Int×Int):=bendP b.W b.A (b.c,b.a) p
theorem three_c (I O:Int)(l:List (Int×Int))(b d:Bnd)(hI:0≤I∧I≤255)(hO:0≤O∧O≤255)(hl:∀ s∈l,(0≤s.1∧s.1≤255) ∧ -32768≤s.2∧s.2≤32767)(hlen:l.length≤281474976710656)(hb:BndOk b)(hd:BndOk d) :
  Cl 33 [drD I O l,bndD b d] (.agg [oL (dprog (1+I%3) (1+O%3) l),oL (bent b (dprog (1+I%3) (1+O%3) l)),oL (bent d (bent b (dprog (1+I%3) (1+O%3) l)))]):=by
 have pc:=program_c I O l hI hO hl hlen
 have hl24:=(dprog_ok (ins:=1+I%3) (o:=1+O%3) (by omega) (by omega) l (fun s hs=>(hl s hs).2)).2
 obtain⟨p,hp⟩:∃ p,p=dprog (1+I%3) (1+O%3) l:=⟨_,rfl⟩
 rw[← hp] at pc hl24 ⊢
 have hl1:=bendP_len p b.W b.A (b.c,b.a) hb.A
 have b1:=bend_c p b.W b.A b.c b.a (by omega) hb.W hb.A hb.c hb.a
 obtain⟨p1,hp1⟩:∃ p1,p1=bent b p:=⟨_,rfl⟩
 rw[← hp1]
 rw[show bendP b.W b.A (b.c,b.a) p=p1 from hp1.symm] at b1 hl1
 have b2:=bend_c p1 d.W d.A d.c d.a (by omega) hd.W hd.A hd.c hd.a
 obtain⟨p2,hp2⟩:∃ p2,p2=bent d p1:=⟨_,rfl⟩
 rw[← hp2]
 rw[show bendP d.W d.A (d.c,d.a) p1=p2 from hp2.symm] at b2
 refine V.en tbOk Tryz.func33 ?_
 (conv=>whnf)
 (conv=>whnf)
 (try simp only[])
 repeat ((first|refine V.s1 ?_|((try ((with_reducible refine .ext ?_);(conv=>whnf);(try simp only[])));(with_reducible refine jaa (r:=?_) ?_ ?_);rotate_left;(focus (first|exact(pc)|exact(b1)|exact(b2)));(conv=>whnf)));(try simp only[]))
 exact Fin.of rfl
end Go.Proofs.YtpkdedncgclblaaGreatDoor
end
section
namespace Go.Proofs.YtpkdedncgclblaaGreatDoor
open Go Go.V Go.Nb Go.RowKit
def opsL:List Lf:=[.recs [.int .i64,.int .i64]]
theorem ops_of {n:Nat}{f:Nat→List D}(h:∀ j,j<n→l0sD [.int .i64,.int .i64] (f j)):∃ l:List (Int×Int),l.length=n∧(∀ j,j<n→f j=[.int .i64 (l.getD j (0,0)).1,.int .i64 (l.getD j (0,0)).2]) ∧ ∀ s∈l,InR .i64 s.1∧InR .i64 s.2:=by
 induction n with
 | zero=>exact⟨[],rfl,fun j hj=>absurd hj (Nat.not_lt_zero _),fun s hs=>by simp at hs⟩
 | succ n ih=>
  obtain⟨l,h1,h2,h3⟩:=ih (fun j hj=>h j (by omega))
  obtain⟨d,ds,e1,⟨a,ea,ha⟩,d2,ds2,e2,⟨b,eb,hb⟩,e3⟩:=h n (by omega)
  subst e3 e2 ea eb
  refine⟨l++[(a,b)],by simp[h1],fun j hj=>?_,fun s hs=>?_⟩
  ·rcases jiL j n with g|g
   ·rw[h2 j g]
    simp only[ji5,jje (show j<l.length by omega)]
   ·obtain rfl:j=n:=by omega
    rw[e1]
    simp only[ji5,jjn (show l.length≤j by omega),show j-l.length=0 by omega]
    rfl
  ·rcases List.mem_append.1 hs with g|g
   ·exact h3 s g
   ·rw[List.mem_singleton.1 g]
    exact⟨ha,hb⟩
theorem ops_den {w:World}{v:Value}(h:leavesOk w opsL [v]):∃ R:List (Int×Int),Den Env.dummy (pubOf w) (oL R) v∧R.length≤281474976710656 ∧ ∀ s∈R,InR .i64 s.1∧InR .i64 s.2:=by
 obtain⟨v0,r0,e0,⟨n,f,hd,hn,hf⟩,e1⟩:=h
 subst e1
 simp only[List.cons.injEq,and_true] at e0
 subst e0
 obtain⟨l,l1,l2,l3⟩:=ops_of hf
 subst l1
 exact⟨l,jgQ (fun j hj=>by rw[l2 j hj,jfn l j hj]) hd,by omega,l3⟩
def bndL:List Lf:=[.int .u8,.int .u8,.int .i64,.int .i64,.int .u8,.int .u8,.int .i64,.int .i64]
theorem bnd_den {w:World}{cs:Array Value}(h:leavesOk w bndL cs.toList):∃ b d:Bnd,Den Env.dummy (pubOf w) (bndD b d) (.agg cs)∧BndOk b∧BndOk d:=by
 obtain⟨v0,r0,e0,⟨W,h0,k0⟩,v1,r1,e1,⟨A,h1,k1⟩,v2,r2,e2,⟨c,h2,k2⟩,v3,r3,e3,⟨a,h3,k3⟩,v4,r4,e4,⟨W',h4,k4⟩,v5,r5,e5,⟨A',h5,k5⟩,v6,r6,e6,⟨c',h6,k6⟩,v7,r7,e7,⟨a',h7,k7⟩,e8⟩:=h
 subst e8 e7 e6 e5 e4 e3 e2 e1
 obtain rfl:cs = #[v0,v1,v2,v3,v4,v5,v6,v7]:=by cases cs;simp_all
 subst h0 h1 h2 h3 h4 h5 h6 h7
 have u8:∀ {x:Int},InR .u8 x→0≤x∧x≤255:=fun h=>by simpa [InR,V.lo,V.hi] using h
 refine⟨⟨W,A,c,a⟩,⟨W',A',c',a'⟩,⟨_,rfl,⟨_,_,rfl,⟨rfl,k0⟩,_,_,rfl,⟨rfl,k1⟩,_,_,rfl,⟨rfl,k2⟩,_,_,rfl,⟨rfl,k3⟩,_,_,rfl,⟨rfl,k4⟩,_,_,rfl,⟨rfl,k5⟩,_,_,rfl,⟨rfl,k6⟩,_,_,rfl,⟨rfl,k7⟩,rfl⟩,?_⟩,⟨u8 k0,u8 k1,k2,k3⟩,⟨u8 k4,u8 k5,k6,k7⟩⟩
 intro v hv
 simp only[ji7,List.not_mem_nil,or_false] at hv
 rcases hv with rfl|rfl|rfl|rfl|rfl|rfl|rfl|rfl<;>rfl
end Go.Proofs.YtpkdedncgclblaaGreatDoor
end
section
namespace Go.Proofs.YtpkdedncgclblaaGreatDoor
open Go Go.V Go.Nb
theorem add_r (p q p2 q2:Int):Cl 141 [bA p q,bA p2 q2] (bD (if vb p q=true∧vb p2 q2=true then mk (p+p2) (q+q2) else (0,0,30))):=by
 have r1:=jaz p q
 have r2:=jaz p2 q2
 by_cases hv:vb p q=true∧vb p2 q2=true
 ·rw[if_pos hv]
  rw[hv.1] at r1
  rw[hv.2] at r2
  have b1:=jam.1 hv.1
  have b2:=jam.1 hv.2
  have ir:∀ z:Int, -1000000000000000000≤z∧z≤1000000000000000000→InR .i64 z:=fun z hz=>by simp only[InR,V.lo,V.hi];omega
  have v1:=jby p (ir p (by omega))
  have v2:=jby q (ir q (by omega))
  have v3:=jby p2 (ir p2 (by omega))
  have v4:=jby q2 (ir q2 (by omega))
  rw[show ∀ z,Rat.divInt z 1000000000000=unit z from fun _=>rfl] at v1 v2 v3 v4
  have qq:∀ z:Int, -1000000000000000000≤z∧z≤1000000000000000000→Q4 5 (unit z):=fun z hz=>jc9 z (by omega)
  have s1:=jgf (unit p) (unit p2) ((qq p (by omega)).mono (by omega)) ((qq p2 (by omega)).mono (by omega));have s2:=jgf (unit q) (unit q2) ((qq q (by omega)).mono (by omega)) ((qq q2 (by omega)).mono (by omega));have t:=jf1 (unit p+unit p2) (unit q+unit q2) (by rw[jdn];exact(jc9 _ (by omega)).mono (by omega)) (by rw[jdn];exact(jc9 _ (by omega)).mono (by omega))
  rw[jdo,jdn,jdn,jgs,jgx] at t
  rw[jdn] at s1 s2
  generalize mk (p+p2) (q+q2)=r at *
  clear ir qq b1 b2 hv
  refine V.en tbOk Tryz.func141 ?_
  (conv=>whnf)
  refine V.st ?_
  repeat ((try ((with_reducible refine .ext ?_);(conv=>whnf)));(with_reducible refine jaa (r:=?_) ?_ ?_);rotate_left;(focus (first|exact(r1)|exact(r2)));(conv=>whnf);refine V.st ?_)
  refine⟨Pq39z,[],V.pok,.go (jab ?_)⟩
  (conv=>whnf)
  refine V.st ?_
  repeat ((try ((with_reducible refine .ext ?_);(conv=>whnf)));(with_reducible refine jaa (r:=?_) ?_ ?_);rotate_left;(focus (first|exact(v1)|exact(v2)|exact(v3)|exact(v4)|exact(s1)|exact(s2)|exact(t)));(conv=>whnf);refine V.st ?_)
  exact Fin.of rfl
 ·rw[if_neg hv]
  by_cases h1:vb p q=true
  ·have h2:vb p2 q2=false:=Bool.eq_false_iff.2 (fun h=>hv ⟨h1,h⟩)
   rw[h1] at r1
   rw[h2] at r2
   refine V.en tbOk Tryz.func141 ?_
   (conv=>whnf)
   refine V.st ?_
   repeat ((try ((with_reducible refine .ext ?_);(conv=>whnf)));(with_reducible refine jaa (r:=?_) ?_ ?_);rotate_left;(focus (first|exact(r1)|exact(r2)));(conv=>whnf);refine V.st ?_)
   exact Fin.of rfl
  ·rw[Bool.eq_false_iff.2 h1] at r1
   refine V.en tbOk Tryz.func141 ?_
   (conv=>whnf)
   refine V.st ?_
   repeat ((try ((with_reducible refine .ext ?_);(conv=>whnf)));(with_reducible refine jaa (r:=?_) ?_ ?_);rotate_left;(focus (first|exact(r1)));(conv=>whnf);refine V.st ?_)
   try refine⟨.bool false,fun h=>by simp at h,?_⟩
   (conv=>whnf)
   refine V.st ?_
   exact Fin.of rfl
theorem sub_r (p q p2 q2:Int):Cl 142 [bA p q,bA p2 q2] (bD (if vb p q=true∧vb p2 q2=true then mk (p-q2) (q-p2) else (0,0,30))):=by
 have r1:=jaz p q
 have r2:=jaz p2 q2
 by_cases hv:vb p q=true∧vb p2 q2=true
 ·rw[if_pos hv]
  rw[hv.1] at r1
  rw[hv.2] at r2
  have b1:=jam.1 hv.1
  have b2:=jam.1 hv.2
  have ir:∀ z:Int, -1000000000000000000≤z∧z≤1000000000000000000→InR .i64 z:=fun z hz=>by simp only[InR,V.lo,V.hi];omega
  have v1:=jby p (ir p (by omega))
  have v2:=jby q (ir q (by omega))
  have v3:=jby p2 (ir p2 (by omega))
  have v4:=jby q2 (ir q2 (by omega))
  rw[show ∀ z,Rat.divInt z 1000000000000=unit z from fun _=>rfl] at v1 v2 v3 v4
  have qq:∀ z:Int, -1000000000000000000≤z∧z≤1000000000000000000→Q4 5 (unit z):=fun z hz=>jc9 z (by omega)
  have s1:=jg4 (unit p) (unit q2) ((qq p (by omega)).mono (by omega)) ((qq q2 (by omega)).mono (by omega));have s2:=jg4 (unit q) (unit p2) ((qq q (by omega)).mono (by omega)) ((qq p2 (by omega)).mono (by omega));have t:=jf1 (unit p-unit q2) (unit q-unit p2) (by rw[jdm];exact(jc9 _ (by omega)).mono (by omega)) (by rw[jdm];exact(jc9 _ (by omega)).mono (by omega))
  rw[jdo,jdm,jdm,jgs,jgx] at t
  rw[jdm] at s1 s2
  generalize mk (p-q2) (q-p2)=r at *
  clear ir qq b1 b2 hv
  refine V.en tbOk Tryz.func142 ?_
  (conv=>whnf)
  refine V.st ?_
  repeat ((try ((with_reducible refine .ext ?_);(conv=>whnf)));(with_reducible refine jaa (r:=?_) ?_ ?_);rotate_left;(focus (first|exact(r1)|exact(r2)));(conv=>whnf);refine V.st ?_)
  refine⟨Pq39z,[],V.pok,.go (jab ?_)⟩
  (conv=>whnf)
  refine V.st ?_
  repeat ((try ((with_reducible refine .ext ?_);(conv=>whnf)));(with_reducible refine jaa (r:=?_) ?_ ?_);rotate_left;(focus (first|exact(v1)|exact(v2)|exact(v3)|exact(v4)|exact(s1)|exact(s2)|exact(t)));(conv=>whnf);refine V.st ?_)
  exact Fin.of rfl
 ·rw[if_neg hv]
  by_cases h1:vb p q=true
  ·have h2:vb p2 q2=false:=Bool.eq_false_iff.2 (fun h=>hv ⟨h1,h⟩)
   rw[h1] at r1
   rw[h2] at r2
   refine V.en tbOk Tryz.func142 ?_
   (conv=>whnf)
   refine V.st ?_
   repeat ((try ((with_reducible refine .ext ?_);(conv=>whnf)));(with_reducible refine jaa (r:=?_) ?_ ?_);rotate_left;(focus (first|exact(r1)|exact(r2)));(conv=>whnf);refine V.st ?_)
   exact Fin.of rfl
  ·rw[Bool.eq_false_iff.2 h1] at r1
   refine V.en tbOk Tryz.func142 ?_
   (conv=>whnf)
   refine V.st ?_
   repeat ((try ((with_reducible refine .ext ?_);(conv=>whnf)));(with_reducible refine jaa (r:=?_) ?_ ?_);rotate_left;(focus (first|exact(r1)));(conv=>whnf);refine V.st ?_)
   try refine⟨.bool false,fun h=>by simp at h,?_⟩
   (conv=>whnf)
   refine V.st ?_
   exact Fin.of rfl
theorem min_r (p q p2 q2:Int):Cl 144 [bA p q,bA p2 q2] (bD (if vb p q=true∧vb p2 q2=true then (min p p2,min q q2,0) else (0,0,30))):=by
 have r1:=jaz p q
 have r2:=jaz p2 q2
 by_cases hv:vb p q=true∧vb p2 q2=true
 ·rw[if_pos hv]
  rw[hv.1] at r1
  rw[hv.2] at r2
  refine V.en tbOk Tryz.func144 ?_
  (conv=>whnf)
  refine V.st ?_
  repeat ((try ((with_reducible refine .ext ?_);(conv=>whnf)));(with_reducible refine jaa (r:=?_) ?_ ?_);rotate_left;(focus (first|exact(r1)|exact(r2)));(conv=>whnf);refine V.st ?_)
  exact Fin.of rfl
 ·rw[if_neg hv]
  by_cases h1:vb p q=true
  ·have h2:vb p2 q2=false:=Bool.eq_false_iff.2 (fun h=>hv ⟨h1,h⟩)
   rw[h1] at r1
   rw[h2] at r2
   refine V.en tbOk Tryz.func144 ?_
   (conv=>whnf)
   refine V.st ?_
   repeat ((try ((with_reducible refine .ext ?_);(conv=>whnf)));(with_reducible refine jaa (r:=?_) ?_ ?_);rotate_left;(focus (first|exact(r1)|exact(r2)));(conv=>whnf);refine V.st ?_)
   exact Fin.of rfl
  ·rw[Bool.eq_false_iff.2 h1] at r1
   refine V.en tbOk Tryz.func144 ?_
   (conv=>whnf)
   refine V.st ?_
   repeat ((try ((with_reducible refine .ext ?_);(conv=>whnf)));(with_reducible refine jaa (r:=?_) ?_ ?_);rotate_left;(focus (first|exact(r1)));(conv=>whnf);refine V.st ?_)
   try refine⟨.bool false,fun h=>by simp at h,?_⟩
   (conv=>whnf)
   refine V.st ?_
   exact Fin.of rfl
theorem max_r (p q p2 q2:Int):Cl 145 [bA p q,bA p2 q2] (bD (if vb p q=true∧vb p2 q2=true then (max p p2,max q q2,0) else (0,0,30))):=by
 have r1:=jaz p q
 have r2:=jaz p2 q2
 by_cases hv:vb p q=true∧vb p2 q2=true
 ·rw[if_pos hv]
  rw[hv.1] at r1
  rw[hv.2] at r2
  refine V.en tbOk Tryz.func145 ?_
  (conv=>whnf)
  refine V.st ?_
  repeat ((try ((with_reducible refine .ext ?_);(conv=>whnf)));(with_reducible refine jaa (r:=?_) ?_ ?_);rotate_left;(focus (first|exact(r1)|exact(r2)));(conv=>whnf);refine V.st ?_)
  exact Fin.of rfl
 ·rw[if_neg hv]
  by_cases h1:vb p q=true
  ·have h2:vb p2 q2=false:=Bool.eq_false_iff.2 (fun h=>hv ⟨h1,h⟩)
   rw[h1] at r1
   rw[h2] at r2
   refine V.en tbOk Tryz.func145 ?_
   (conv=>whnf)
   refine V.st ?_
   repeat ((try ((with_reducible refine .ext ?_);(conv=>whnf)));(with_reducible refine jaa (r:=?_) ?_ ?_);rotate_left;(focus (first|exact(r1)|exact(r2)));(conv=>whnf);refine V.st ?_)
   exact Fin.of rfl
  ·rw[Bool.eq_false_iff.2 h1] at r1
   refine V.en tbOk Tryz.func145 ?_
   (conv=>whnf)
   refine V.st ?_
   repeat ((try ((with_reducible refine .ext ?_);(conv=>whnf)));(with_reducible refine jaa (r:=?_) ?_ ?_);rotate_left;(focus (first|exact(r1)));(conv=>whnf);refine V.st ?_)
   try refine⟨.bool false,fun h=>by simp at h,?_⟩
   (conv=>whnf)
   refine V.st ?_
   exact Fin.of rfl
theorem hull_r (p q p2 q2:Int):Cl 146 [bA p q,bA p2 q2] (bD (if vb p q=true∧vb p2 q2=true then (min p p2,max q q2,0) else (0,0,30))):=by
 have r1:=jaz p q
 have r2:=jaz p2 q2
 by_cases hv:vb p q=true∧vb p2 q2=true
 ·rw[if_pos hv]
  rw[hv.1] at r1
  rw[hv.2] at r2
  refine V.en tbOk Tryz.func146 ?_
  (conv=>whnf)
  refine V.st ?_
  repeat ((try ((with_reducible refine .ext ?_);(conv=>whnf)));(with_reducible refine jaa (r:=?_) ?_ ?_);rotate_left;(focus (first|exact(r1)|exact(r2)));(conv=>whnf);refine V.st ?_)
  exact Fin.of rfl
 ·rw[if_neg hv]
  by_cases h1:vb p q=true
  ·have h2:vb p2 q2=false:=Bool.eq_false_iff.2 (fun h=>hv ⟨h1,h⟩)
   rw[h1] at r1
   rw[h2] at r2
   refine V.en tbOk Tryz.func146 ?_
   (conv=>whnf)
   refine V.st ?_
   repeat ((try ((with_reducible refine .ext ?_);(conv=>whnf)));(with_reducible refine jaa (r:=?_) ?_ ?_);rotate_left;(focus (first|exact(r1)|exact(r2)));(conv=>whnf);refine V.st ?_)
   exact Fin.of rfl
  ·rw[Bool.eq_false_iff.2 h1] at r1
   refine V.en tbOk Tryz.func146 ?_
   (conv=>whnf)
   refine V.st ?_
   repeat ((try ((with_reducible refine .ext ?_);(conv=>whnf)));(with_reducible refine jaa (r:=?_) ?_ ?_);rotate_left;(focus (first|exact(r1)));(conv=>whnf);refine V.st ?_)
   try refine⟨.bool false,fun h=>by simp at h,?_⟩
   (conv=>whnf)
   refine V.st ?_
   exact Fin.of rfl
def lsD (nm:Nat):Nat→D
 | 0 => .nil
 | n+1 => .bsl nm 0 (n+1) 4
def clD (x1 x2 x3 x4:Rat):Nat→List D
 | 0=>[]
 | 1=>raL x1
 | 2=>raL x1++raL x2
 | 3=>raL x1++raL x2++raL x3
 | _=>raL x1++raL x2++raL x3++raL x4
def lsH (nm:Nat)(x1 x2 x3 x4:Rat):Nat→Hp
 | 0=>[]
 | n+1=>[(nm,.box (clD x1 x2 x3 x4 (n+1)))]
theorem mul_r (p q p2 q2:Int):Cl 143 [bA p q,bA p2 q2] (bD (if vb p q=true∧vb p2 q2=true then mulR p q p2 q2 else (0,0,30))):=by
 have r1:=jaz p q
 have r2:=jaz p2 q2
 by_cases hv:vb p q=true∧vb p2 q2=true
 ·rw[if_pos hv]
  rw[hv.1] at r1
  rw[hv.2] at r2
  have b1:=jam.1 hv.1
  have b2:=jam.1 hv.2
  have ir:∀ z:Int, -1000000000000000000≤z∧z≤1000000000000000000→InR .i64 z:=fun z hz=>by simp only[InR,V.lo,V.hi];omega
  have v1:=jby p (ir p (by omega))
  have v2:=jby q (ir q (by omega))
  have v3:=jby p2 (ir p2 (by omega))
  have v4:=jby q2 (ir q2 (by omega))
  rw[show ∀ z,Rat.divInt z 1000000000000=unit z from fun _=>rfl] at v1 v2 v3 v4
  have qq:∀ z:Int, -1000000000000000000≤z∧z≤1000000000000000000→Q4 5 (unit z):=fun z hz=>jc9 z (by omega)
  have m1:=jcc (unit p) (unit p2) ((qq p (by omega)).mono (by omega)) ((qq p2 (by omega)).mono (by omega))
  have m2:=jcc (unit p) (unit q2) ((qq p (by omega)).mono (by omega)) ((qq q2 (by omega)).mono (by omega))
  have m3:=jcc (unit q) (unit p2) ((qq q (by omega)).mono (by omega)) ((qq p2 (by omega)).mono (by omega))
  have m4:=jcc (unit q) (unit q2) ((qq q (by omega)).mono (by omega)) ((qq q2 (by omega)).mono (by omega))
  have z1:Q4 1000 (unit p*unit p2):=((qq p (by omega)).mul (qq p2 (by omega))).mono (by omega)
  have z2:Q4 1000 (unit p*unit q2):=((qq p (by omega)).mul (qq q2 (by omega))).mono (by omega)
  have z3:Q4 1000 (unit q*unit p2):=((qq q (by omega)).mul (qq p2 (by omega))).mono (by omega)
  have z4:Q4 1000 (unit q*unit q2):=((qq q (by omega)).mul (qq q2 (by omega))).mono (by omega)
  have t:=tight4 (unit p*unit p2) (unit p*unit q2) (unit q*unit p2) (unit q*unit q2)
  simp only[loE_mul,hiE_mul] at t
  have e:mulR p q p2 q2=jeD ([unit p*unit q2,unit q*unit p2,unit q*unit q2].foldl lsr (unit p*unit p2)) ([unit p*unit q2,unit q*unit p2,unit q*unit q2].foldl gtr (unit p*unit p2)):=t.symm
  rw[e]
  clear t e ir qq b1 b2 hv
  generalize unit p*unit p2=x1 at *
  generalize unit p*unit q2=x2 at *
  generalize unit q*unit p2=x3 at *
  generalize unit q*unit q2=x4 at *
  have bt:=fun f h0 h=>between_c x1 [x2,x3,x4] (by simp) z1 (fun y hy=>by simp only[ji7,List.not_mem_nil,or_false] at hy;rcases hy with rfl|rfl|rfl<;>assumption) f h0 h
  generalize jeD ([x2,x3,x4].foldl lsr x1) ([x2,x3,x4].foldl gtr x1)=r at *
  have bt:=bt (fun k=>List.take 4 (List.drop (0+k*4) (clD x1 x2 x3 x4 4))) rfl (fun j hj=>by
   simp only[jjj,List.length_nil] at hj
   rcases (by omega:j=0∨j=1∨j=2) with e|e|e<;>subst e<;>rfl)
  clear z1 z2 z3 z4
  refine V.en tbOk Tryz.func143 ?_
  (conv=>whnf)
  refine V.st ?_
  repeat ((try ((with_reducible refine .ext ?_);(conv=>whnf)));(with_reducible refine jaa (r:=?_) ?_ ?_);rotate_left;(focus (first|exact(r1)|exact(r2)));(conv=>whnf);refine V.st ?_)
  refine jai (0:Nat) (fun i=>i≤2) (fun i=>2-i) (fun i=>[(25,.int .i64 i),(6,lsD 43 (2*i))]) (fun i=>lsH 43 x1 x2 x3 x4 (2*i)) ?_ ?_ ?_
  ·exact V.wk
  ·exact jix _
  intro i hi
  rcases (by omega:i=0∨i=1∨i=2) with e|e|e
  ·subst e
   (conv=>whnf)
   refine V.st ?_
   refine jai (0:Nat) (fun j=>j≤2) (fun j=>2-j) (fun j=>[(33,.int .i64 j),(6,lsD 43 (0+j))]) (fun j=>lsH 43 x1 x2 x3 x4 (0+j)) ?_ ?_ ?_
   ·exact V.wk
   ·exact jix _
   intro j hj
   rcases (by omega:j=0∨j=1∨j=2) with e|e|e
   ·subst e
    (conv=>whnf)
    refine V.st ?_
    repeat ((try ((with_reducible refine .ext ?_);(conv=>whnf)));(with_reducible refine jaa (r:=?_) ?_ ?_);rotate_left;(focus (first|exact(v1)|exact(v3)|exact(m1)));(conv=>whnf);refine V.st ?_)
    exact⟨1,by omega,by omega,V.wk⟩
   ·subst e
    (conv=>whnf)
    refine V.st ?_
    repeat ((try ((with_reducible refine .ext ?_);(conv=>whnf)));(with_reducible refine jaa (r:=?_) ?_ ?_);rotate_left;(focus (first|exact(v1)|exact(v4)|exact(m2)));(conv=>whnf);refine V.st ?_)
    exact⟨2,by omega,by omega,V.wk⟩
   ·subst e
    (conv=>whnf)
    refine V.st ?_
    exact⟨1,by omega,by omega,V.wk⟩
  ·subst e
   (conv=>whnf)
   refine V.st ?_
   refine jai (0:Nat) (fun j=>j≤2) (fun j=>2-j) (fun j=>[(33,.int .i64 j),(6,lsD 43 (2+j))]) (fun j=>lsH 43 x1 x2 x3 x4 (2+j)) ?_ ?_ ?_
   ·exact V.wk
   ·exact jix _
   intro j hj
   rcases (by omega:j=0∨j=1∨j=2) with e|e|e
   ·subst e
    (conv=>whnf)
    refine V.st ?_
    repeat ((try ((with_reducible refine .ext ?_);(conv=>whnf)));(with_reducible refine jaa (r:=?_) ?_ ?_);rotate_left;(focus (first|exact(v2)|exact(v3)|exact(m3)));(conv=>whnf);refine V.st ?_)
    exact⟨1,by omega,by omega,V.wk⟩
   ·subst e
    (conv=>whnf)
    refine V.st ?_
    repeat ((try ((with_reducible refine .ext ?_);(conv=>whnf)));(with_reducible refine jaa (r:=?_) ?_ ?_);rotate_left;(focus (first|exact(v2)|exact(v4)|exact(m4)));(conv=>whnf);refine V.st ?_)
    exact⟨2,by omega,by omega,V.wk⟩
   ·subst e
    (conv=>whnf)
    refine V.st ?_
    exact⟨2,by omega,by omega,V.wk⟩
  ·subst e
   (conv=>whnf)
   refine V.st ?_
   repeat ((try ((with_reducible refine .ext ?_);(conv=>whnf)));(with_reducible refine jaa (r:=?_) ?_ ?_);rotate_left;(focus (first|exact(bt)));(conv=>whnf);refine V.st ?_)
   exact Fin.of rfl
 ·rw[if_neg hv]
  by_cases h1:vb p q=true
  ·have h2:vb p2 q2=false:=Bool.eq_false_iff.2 (fun h=>hv ⟨h1,h⟩)
   rw[h1] at r1
   rw[h2] at r2
   refine V.en tbOk Tryz.func143 ?_
   (conv=>whnf)
   refine V.st ?_
   repeat ((try ((with_reducible refine .ext ?_);(conv=>whnf)));(with_reducible refine jaa (r:=?_) ?_ ?_);rotate_left;(focus (first|exact(r1)|exact(r2)));(conv=>whnf);refine V.st ?_)
   exact Fin.of rfl
  ·rw[Bool.eq_false_iff.2 h1] at r1
   refine V.en tbOk Tryz.func143 ?_
   (conv=>whnf)
   refine V.st ?_
   repeat ((try ((with_reducible refine .ext ?_);(conv=>whnf)));(with_reducible refine jaa (r:=?_) ?_ ?_);rotate_left;(focus (first|exact(r1)));(conv=>whnf);refine V.st ?_)
   try refine⟨.bool false,fun h=>by simp at h,?_⟩
   (conv=>whnf)
   refine V.st ?_
   exact Fin.of rfl
theorem neg_r (p q:Int):Cl 138 [bA p q] (bD (if vb p q=true then mk (0-q) (0-p) else (0,0,30))):=by
 have r1:=jaz p q
 by_cases hv:vb p q=true
 ·rw[if_pos hv]
  rw[hv] at r1
  have b1:=jam.1 hv
  rw[mk_ok (by omega)]
  refine V.en tbOk Tryz.func138 ?_
  (conv=>whnf)
  refine V.st ?_
  repeat ((try ((with_reducible refine .ext ?_);(conv=>whnf)));(with_reducible refine jaa (r:=?_) ?_ ?_);rotate_left;(focus (first|exact(r1)));(conv=>whnf);refine V.st ?_)
  exact Fin.of rfl
 ·rw[if_neg hv]
  rw[Bool.eq_false_iff.2 hv] at r1
  refine V.en tbOk Tryz.func138 ?_
  (conv=>whnf)
  refine V.st ?_
  repeat ((try ((with_reducible refine .ext ?_);(conv=>whnf)));(with_reducible refine jaa (r:=?_) ?_ ?_);rotate_left;(focus (first|exact(r1)));(conv=>whnf);refine V.st ?_)
  exact Fin.of rfl
theorem abs_r (p q:Int):Cl 139 [bA p q] (bD (if vb p q=true then mk (max (max p (0-q)) 0) (max (0-p) q) else (0,0,30))):=by
 have r1:=jaz p q
 by_cases hv:vb p q=true
 ·rw[if_pos hv]
  rw[hv] at r1
  rw[abs_mk hv]
  have b1:=jam.1 hv
  refine V.en tbOk Tryz.func139 ?_
  (conv=>whnf)
  refine V.st ?_
  repeat ((try ((with_reducible refine .ext ?_);(conv=>whnf)));(with_reducible refine jaa (r:=?_) ?_ ?_);rotate_left;(focus (first|exact(r1)));(conv=>whnf);refine V.st ?_)
  refine V.br (fun g1=>?_) (fun g1=>?_)
  ·rw[decide_eq_true_eq] at g1
   rw[show max (max p (0-q)) 0=p by omega,show max (0-p) q=q by omega]
   (conv=>whnf)
   refine V.st ?_
   exact Fin.of rfl
  ·rw[decide_eq_false_iff_not] at g1
   (conv=>whnf)
   refine V.st ?_
   refine V.br (fun g2=>?_) (fun g2=>?_)
   ·rw[decide_eq_true_eq] at g2
    rw[show max (max p (0-q)) 0=0-q by omega,show max (0-p) q=0-p by omega]
    (conv=>whnf)
    refine V.st ?_
    exact Fin.of rfl
   ·rw[decide_eq_false_iff_not] at g2
    rw[show max (max p (0-q)) 0=0 by omega]
    (conv=>whnf)
    refine V.st ?_
    exact Fin.of rfl
 ·rw[if_neg hv]
  rw[Bool.eq_false_iff.2 hv] at r1
  refine V.en tbOk Tryz.func139 ?_
  (conv=>whnf)
  refine V.st ?_
  repeat ((try ((with_reducible refine .ext ?_);(conv=>whnf)));(with_reducible refine jaa (r:=?_) ?_ ?_);rotate_left;(focus (first|exact(r1)));(conv=>whnf);refine V.st ?_)
  exact Fin.of rfl
theorem jeI (s:List UInt8)(hs:s.length≤281474976710656):Cl 67 [.str s] (.bool (okW s)):=by
 obtain⟨d,j,neg,S,e1,_⟩:=sg_of s
 rw[e1]
 exact right01_g s d j neg S hs
theorem jet (s:List UInt8)(h:okW s=true):Cl 68 [.str s] (plD (wval s)):=by
 obtain⟨d,j,neg,S,e1,e2⟩:=sg_of s
 rw[e2]
 rw[e1] at h
 unfold okD at h
 simp only[jiv,Bool.not_eq_true',jiN,decide_eq_false_iff_not,ji4] at h
 exact in01_g s d j neg S h.1.2 (by omega) (by have:=S.hl;omega)
theorem jcf {s:List UInt8}(h:okW s=true):Sm 151 (wval s):=by
 obtain⟨d,j,neg,S,e1,e2⟩:=sg_of s
 rw[e1] at h
 unfold okD at h
 simp only[jiv,Bool.not_eq_true',jiN,decide_eq_false_iff_not,ji4] at h
 have hlt:=jeJ (s:=d) h.1.2
 have h2:∀ k,d.length≤4*k→rdv d<10000^k:=fun k hk=>by
  refine jiK hlt ?_
  rw[show (10000:Nat)=10^4 from rfl,← Nat.pow_mul]
  exact jiU (by omega) hk
 have e:(wval s).natAbs=rdv d:=by
  rw[e2];split<;>omega
 unfold Sm
 rw[e]
 exact jaq (by omega) (h2 151 (by omega))
theorem jhE (s t : List UInt8) (hs : s.length ≤ 281474976710656) (ht : t.length ≤ 281474976710656) : Cl 41 [.agg [.str s, .str t]] (.bool (okP s t)) := by
  have r1 := jeI s hs
  have r2 := jeI t ht
  by_cases h1 : okW s = true
  · rw [h1] at r1
    by_cases h2 : okW t = true
    · rw [h2] at r2
      have i1 := jet s h1
      have i2 := jet t h2
      have g1 := jfa (wval s) (wval t) ((jcf h1).mono (by omega)) ((jcf h2).mono (by omega))
      have hz := jci (B := 10000) (n := (wval t).natAbs) (by omega)
      have gl : Sm 151 (Int.gcd (wval s) (wval t) : Int) := by
        by_cases h0 : wval t = 0
        · rw [h0, Int.gcd_zero_right]
          exact (jcf h1).le (by omega)
        · exact (jcf h2).le (by
            rw [jiT]
            exact Nat.le_of_dvd (by omega) (Int.ofNat_dvd_left.1 (Int.gcd_dvd_right _ _)))
      have x1 := text_c _ (gl.mono (by omega))
      have hp : okP s t = (decide (0 < wval t) && decide (decZ (Int.gcd (wval s) (wval t) : Int) = [49])) := by
        unfold okP
        rw [h1, h2, Bool.true_and, Bool.true_and]
        congr 1
        refine decide_eq_decide.2 ⟨fun h => ?_, fun h => ?_⟩
        · rw [show Int.gcd (wval s) (wval t) = 1 from h]; decide
        · have := jbt (Int.gcd (wval s) (wval t) : Int)
          rw [h] at this
          have e49 : wval [49] = 1 := by decide
          rw [e49] at this
          show Int.gcd (wval s) (wval t) = 1
          omega
      rw [hp]
      clear hp gl
      generalize wval s = x at *
      generalize wval t = y at *
      generalize (Int.gcd x y : Int) = g at *
      generalize decZ g = gt at *
      have hy : (decide (y < 0) || decide ((((mg 10000 y.natAbs).length : Nat) : Int) = 0)) = !decide (0 < y) := by
        rw [Bool.eq_iff_iff]
        simp only [jiM, decide_eq_true_eq, Bool.not_eq_true', decide_eq_false_iff_not]
        constructor
        · rintro (h | h)
          · omega
          · have : mg 10000 y.natAbs = [] := ji6.1 (by omega)
            have := hz.1 this
            omega
        · intro h
          by_cases h0 : y < 0
          · exact .inl h0
          · right
            have : mg 10000 y.natAbs = [] := hz.2 (by omega)
            rw [this]; rfl
      unfold plD at *
      refine V.en tbOk Tryz.func41 ?_
      (conv => whnf)
      refine V.st ?_
      repeat ((try ((with_reducible refine .ext ?_); (conv => whnf))); (with_reducible refine jaa (r := ?_) ?_ ?_); rotate_left; (focus (first | exact (r1) | exact (r2))); (conv => whnf); refine V.st ?_)
      refine ⟨Pq40z, [], V.pok, ?_⟩
      refine jaK [(3, .box 3 0), (4, .box 4 0)] [(3, .box [.bool (decide (x < 0)), .ints .i64 (mg 10000 x.natAbs)]), (4, .box [.bool (decide (y < 0)), .ints .i64 (mg 10000 y.natAbs)])] ?_ ?_
      · exact V.d2 @jiC i1 i2
      refine V.r0 hy ?_
      refine V.br (fun hq => ?_) (fun hq => ?_)
      · simp only [Bool.not_eq_true', decide_eq_false_iff_not] at hq
        rw [decide_eq_false hq, Bool.false_and]
        (conv => whnf)
        refine V.st ?_
        exact Fin.of rfl
      · simp only [Bool.not_eq_false', decide_eq_true_eq] at hq
        rw [decide_eq_true hq, Bool.true_and]
        (conv => whnf)
        refine V.st ?_
        repeat ((try ((with_reducible refine .ext ?_); (conv => whnf))); (with_reducible refine jaa (r := ?_) ?_ ?_); rotate_left; (focus (first | exact (g1) | exact (x1))); (conv => whnf); refine V.st ?_)
        exact Fin.of rfl
    · rw [Bool.eq_false_iff.2 h2] at r2
      have hp : okP s t = false := by unfold okP; rw [Bool.eq_false_iff.2 h2, Bool.and_false, Bool.false_and, Bool.false_and]
      rw [hp]
      refine V.en tbOk Tryz.func41 ?_
      (conv => whnf)
      refine V.st ?_
      repeat ((try ((with_reducible refine .ext ?_); (conv => whnf))); (with_reducible refine jaa (r := ?_) ?_ ?_); rotate_left; (focus (first | exact (r1) | exact (r2))); (conv => whnf); refine V.st ?_)
      exact Fin.of rfl
  · rw [Bool.eq_false_iff.2 h1] at r1
    have hp : okP s t = false := by unfold okP; rw [Bool.eq_false_iff.2 h1, Bool.false_and, Bool.false_and, Bool.false_and]
    rw [hp]
    refine V.en tbOk Tryz.func41 ?_
    (conv => whnf)
    refine V.st ?_
    repeat ((try ((with_reducible refine .ext ?_); (conv => whnf))); (with_reducible refine jaa (r := ?_) ?_ ?_); rotate_left; (focus (first | exact (r1) | exact (r2))); (conv => whnf); refine V.st ?_)
    refine V.br (fun hq => ?_) (fun hq => ?_)
    · (conv => whnf)
      refine V.st ?_
      exact Fin.of rfl
    · simp at hq
theorem q4_qv_n {s t:List UInt8}(h:okP s t=true):Q4 151 (qv s t):=by
 obtain⟨h1,h2,h3,h4⟩:=jg0 h
 obtain⟨p1,p2⟩:=jep h
 exact⟨by rw[p1];exact jcf h1,by rw[p2];exact(jcf h2).le (by omega)⟩
theorem in02_c_n (s t:List UInt8)(h:okP s t=true):Cl 44 [.agg [.str s,.str t]] (raD (qv s t)):=by
 obtain⟨h1,h2,h3,h4⟩:=jg0 h
 obtain⟨p1,p2⟩:=jep h
 have i1:=jet s h1
 have i2:=jet t h2
 unfold raD
 rw[p1,p2]
 unfold plD at i1 i2
 rw[decide_eq_false (show ¬ wval t<0 by omega)] at i2
 refine V.en tbOk Tryz.func44 ?_
 (conv=>whnf)
 refine V.st ?_
 refine⟨(V.tk [0,1,3,4] (V.e1 2 [4,3] (V.e1 5 [] (V.tk [6] (V.e1 7 [] .done))))),[],V.pok,.go (jab ?_)⟩
 (conv=>whnf)
 refine V.st ?_
 repeat ((try ((with_reducible refine .ext ?_);(conv=>whnf)));(with_reducible refine jaa (r:=?_) ?_ ?_);rotate_left;(focus (first|exact(i1)|exact(i2)));(conv=>whnf);refine V.st ?_)
 exact Fin.of rfl
theorem jib (p q:Int):Cl 64 [bA p q] (.int .i64 (if vb p q=true then 0 else 30)):=by
 have r1:=jaz p q
 by_cases hv:vb p q=true
 ·rw[if_pos hv]
  rw[hv] at r1
  refine V.en tbOk Tryz.func64 ?_
  (conv=>whnf)
  refine V.st ?_
  repeat ((try ((with_reducible refine .ext ?_);(conv=>whnf)));(with_reducible refine jaa (r:=?_) ?_ ?_);rotate_left;(focus (first|exact(r1)));(conv=>whnf);refine V.st ?_)
  exact Fin.of rfl
 ·rw[if_neg hv]
  rw[Bool.eq_false_iff.2 hv] at r1
  refine V.en tbOk Tryz.func64 ?_
  (conv=>whnf)
  refine V.st ?_
  repeat ((try ((with_reducible refine .ext ?_);(conv=>whnf)));(with_reducible refine jaa (r:=?_) ?_ ?_);rotate_left;(focus (first|exact(r1)));(conv=>whnf);refine V.st ?_)
  exact Fin.of rfl
def jgI (s t:List UInt8):Int×Int×Int:=if okP s t=true then mk (loE (qv s t)) (hiE (qv s t)) else (0,0,20)
theorem around_r (s t:List UInt8)(hs:s.length≤281474976710656)(ht:t.length≤281474976710656):Cl 137 [.agg [.str s,.str t]] (bD (jgI s t)):=by
 have r1:=jhE s t hs ht
 unfold jgI
 by_cases h:okP s t=true
 ·rw[if_pos h]
  rw[h] at r1
  have i1:=in02_c_n s t h
  have q1:=q4_qv_n h
  have t1:=jf1 (qv s t) (qv s t) (q1.mono (by omega)) (q1.mono (by omega))
  rw[jdo] at t1
  generalize mk (loE (qv s t)) (hiE (qv s t))=r at *
  generalize qv s t=x at *
  unfold raD at *
  refine V.en tbOk Tryz.func137 ?_
  (conv=>whnf)
  refine V.st ?_
  repeat ((try ((with_reducible refine .ext ?_);(conv=>whnf)));(with_reducible refine jaa (r:=?_) ?_ ?_);rotate_left;(focus (first|exact(r1)|exact(i1)|exact(t1)));(conv=>whnf);refine V.st ?_)
  exact Fin.of rfl
 ·rw[if_neg h]
  rw[Bool.eq_false_iff.2 h] at r1
  refine V.en tbOk Tryz.func137 ?_
  (conv=>whnf)
  refine V.st ?_
  repeat ((try ((with_reducible refine .ext ?_);(conv=>whnf)));(with_reducible refine jaa (r:=?_) ?_ ?_);rotate_left;(focus (first|exact(r1)));(conv=>whnf);refine V.st ?_)
  exact Fin.of rfl
end Go.Proofs.YtpkdedncgclblaaGreatDoor
end
