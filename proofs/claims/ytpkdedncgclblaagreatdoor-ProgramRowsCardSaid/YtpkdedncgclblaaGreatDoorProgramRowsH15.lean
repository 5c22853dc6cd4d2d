/- What functions of the program answer at given values, part 15. Conditions: those that each theorem names. -/
import Derived.Test.YtpkdedncgclblaaGreatDoorProgramRowsH14
import Derived.Test.YtpkdedncgclblaaGreatDoorProgramRowsH6
import Derived.Test.YtpkdedncgclblaaGreatDoorProgramRowsH13
import Derived.Test.YtpkdedncgclblaaGreatDoorProgramRowsH12
import Derived.Test.YtpkdedncgclblaaGreatDoorProgramRowsH10
import Derived.Test.YtpkdedncgclblaaGreatDoorProgramRowsH11
set_option linter.unusedSimpArgs false
set_option linter.unusedVariables false
set_option maxHeartbeats 8000000
set_option maxRecDepth 100000
section
namespace Go.Proofs.YtpkdedncgclblaaGreatDoor
open Go Go.V Go.Nb
theorem rtakes_c (c:Int):Cl 46 [.int .i64 c] (.int .i64 (if tkb c=true then tkn c else -1)):=by
 by_cases e1:c=1
 ·subst e1
  refine V.en tbOk Tryz.func46 ?_
  (conv=>whnf)
  refine V.st ?_
  exact Fin.of rfl
 by_cases e2:c=2
 ·subst e2
  refine V.en tbOk Tryz.func46 ?_
  (conv=>whnf)
  refine V.st ?_
  exact Fin.of rfl
 by_cases e11:c=11
 ·subst e11
  refine V.en tbOk Tryz.func46 ?_
  (conv=>whnf)
  refine V.st ?_
  exact Fin.of rfl
 by_cases e8:c=8
 ·subst e8
  refine V.en tbOk Tryz.func46 ?_
  (conv=>whnf)
  refine V.st ?_
  exact Fin.of rfl
 by_cases e9:c=9
 ·subst e9
  refine V.en tbOk Tryz.func46 ?_
  (conv=>whnf)
  refine V.st ?_
  exact Fin.of rfl
 by_cases e12:c=12
 ·subst e12
  refine V.en tbOk Tryz.func46 ?_
  (conv=>whnf)
  refine V.st ?_
  exact Fin.of rfl
 by_cases e3:c=3
 ·subst e3
  refine V.en tbOk Tryz.func46 ?_
  (conv=>whnf)
  refine V.st ?_
  exact Fin.of rfl
 by_cases e4:c=4
 ·subst e4
  refine V.en tbOk Tryz.func46 ?_
  (conv=>whnf)
  refine V.st ?_
  exact Fin.of rfl
 by_cases e5:c=5
 ·subst e5
  refine V.en tbOk Tryz.func46 ?_
  (conv=>whnf)
  refine V.st ?_
  exact Fin.of rfl
 by_cases e6:c=6
 ·subst e6
  refine V.en tbOk Tryz.func46 ?_
  (conv=>whnf)
  refine V.st ?_
  exact Fin.of rfl
 by_cases e7:c=7
 ·subst e7
  refine V.en tbOk Tryz.func46 ?_
  (conv=>whnf)
  refine V.st ?_
  exact Fin.of rfl
 by_cases e10:c=10
 ·subst e10
  refine V.en tbOk Tryz.func46 ?_
  (conv=>whnf)
  refine V.st ?_
  exact Fin.of rfl
 have h1:tkn c=0:=by unfold tkn;simp[e1,e2,e3,e4,e5,e6,e7,e8,e9,e10,e11,e12]
 have h2:tkb c=false:=decide_eq_false (by omega)
 rw[h2]
 have f1:=decide_eq_false e1
 have f2:=decide_eq_false e2
 have f3:=decide_eq_false e3
 have f4:=decide_eq_false e4
 have f5:=decide_eq_false e5
 have f6:=decide_eq_false e6
 have f7:=decide_eq_false e7
 have f8:=decide_eq_false e8
 have f9:=decide_eq_false e9
 have f10:=decide_eq_false e10
 have f11:=decide_eq_false e11
 have f12:=decide_eq_false e12
 refine V.en tbOk Tryz.func46 ?_
 (conv=>whnf)
 (conv=>whnf)
 (try simp only[f1,f2,f3,f4,f5,f6,f7,f8,f9,f10,f11,f12])
 repeat ((first|refine V.s1 ?_);(try simp only[f1,f2,f3,f4,f5,f6,f7,f8,f9,f10,f11,f12]))
 exact Fin.of rfl
theorem rtk {c:Int}(h:tkb c=true):Cl 46 [.int .i64 c] (.int .i64 (tkn c)):=by
 have r:=rtakes_c c
 rw[if_pos h] at r
 exact r
abbrev dsD (l:List (Int×Int)):D := .slf 2 l.length (fun j=>[.int .u8 (l.getD j (0,0)).1,.int .i16 (l.getD j (0,0)).2])
abbrev drD (I O:Int)(l:List (Int×Int)):D := .agg [.int .u8 I,.int .u8 O,dsD l]
theorem dins_c (I O:Int)(l:List (Int×Int))(hI:0≤I∧I≤255):Cl 26 [drD I O l] (.int .i64 (1+I%3)):=by
 refine V.en tbOk Tryz.func26 ?_
 (conv=>whnf)
 (conv=>whnf)
 (try simp only[])
 repeat ((first|refine V.s1 ?_);(try simp only[]))
 exact Fin.of rfl
theorem jg9 (I O:Int)(l:List (Int×Int))(hO:0≤O∧O≤255):Cl 21 [drD I O l] (.int .i64 (1+O%3)):=by
 refine V.en tbOk Tryz.func21 ?_
 (conv=>whnf)
 (conv=>whnf)
 (try simp only[])
 repeat ((first|refine V.s1 ?_);(try simp only[]))
 exact Fin.of rfl
theorem wrap16 (a m:Int):(a%65536)%m=(IntKind.u16.wrap a).tmod m:=by
 have e:IntKind.u16.wrap a=a%65536:=by
  simp[IntKind.wrap,IntKind.bits,IntKind.signed]
 rw[e,Int.tmod_eq_emod_of_nonneg (Int.emod_nonneg _ (by decide))]
theorem dcode_11 {n c:Int}(hn:0≤n)(h:dcode n c=11):0<n:=by
 unfold dcode at h
 split at h
 ·split at h<;>omega
 ·omega
theorem dst_len (ins:Int)(t:List (Int×Int)×Int)(s:Int×Int):(dst ins t s).1.length=t.1.length+1:=by unfold dst;simp
theorem dfo_len (ins:Int):∀ (l:List (Int×Int)) (t:List (Int×Int)×Int),(l.foldl (dst ins) t).1.length=t.1.length+l.length
 | [],t=>rfl
 | s::l,t=>by
  rw[List.foldl_cons,dfo_len ins l,dst_len,jil];omega
theorem jgb (I O:Int)(l:List (Int×Int))(hI:0≤I∧I≤255)(hO:0≤O∧O≤255)(hl:∀ s∈l,(0≤s.1∧s.1≤255) ∧ -32768≤s.2∧s.2≤32767)(hlen:l.length≤281474976710656):Cl 17 [drD I O l] (oL (dprog (1+I%3) (1+O%3) l)):=by
 have ci:=dins_c I O l hI
 have co:=jg9 I O l hO
 refine V.en tbOk Tryz.func17 ?_
 (conv=>whnf)
 (conv=>whnf)
 (try simp only[])
 repeat ((first|refine V.s1 ?_);(try simp only[]))
 refine Lp.of ⟨Nat,fun k=>k≤12∧k≤l.length,fun k=>match k with|0=>[(1,.box 1 0),(3,.nil),(4,.int .i64 0),(5,.int .i64 0)]|k+1=>[(1,.box 1 0),(3,.bsl 300 0 (k+1) 2),(4,.int .i64 (dfo (1+I%3) (l.take (k+1))).2),(5,.int .i64 ((k+1:Nat):Int))],fun k=>match k with|0=>[(1,.box [.int .u8 I,.int .u8 O,dsD l])]|k+1=>[(1,.box [.int .u8 I,.int .u8 O,dsD l]),(300,.box (bcl (dfo (1+I%3) (l.take (k+1))).1))],fun k=>12-k,⟨0,⟨by omega,by omega⟩,V.wk⟩,?_⟩
 rintro k ⟨hk1,hk2⟩
 have hkc:((k:Int)+1)=((k+1:Nat):Int):=by omega
 cases k with
 | zero=>
  dsimp only
  refine V.r0 @jhJ ?_
  refine V.br (fun hq=>?_) (fun hq=>?_)
  ·simp only[jhC,decide_eq_true_eq] at hq
   have hkl:0<l.length:=by omega
   have hX:=hl (l.getD 0 (0,0)) (by rw[jia,jid hkl];exact List.getElem_mem hkl)
   have hS:dfo (1+I%3) (l.take (0+1))=dst (1+I%3) ([],0) (l.getD 0 (0,0)):=by rw[jca l 0 (0,0) hkl,dfo_snoc];rfl
   obtain⟨c,a,hca⟩:∃ c a,l.getD 0 (0,0)=(c,a):=⟨_,_,rfl⟩
   have hca2:l.getD (Int.toNat 0) (0,0)=(c,a):=hca
   rw[hca] at hS hX
   dsimp only at hX
   have tk:=rtk (c:=1+c%12) (by unfold tkb;simp only[decide_eq_true_eq];omega)
   (conv=>whnf)
   (try simp only[hca2])
   repeat ((first|refine V.s1 ?_|((try ((with_reducible refine .ext ?_);(conv=>whnf);(try simp only[hca2])));(with_reducible refine jaa (r:=?_) ?_ ?_);rotate_left;(focus (first|exact(tk)));(conv=>whnf))|((refine⟨_,fun _=>tk,?_⟩);(conv=>whnf)));(try simp only[hca2]))
   refine jaN [(1,.box 1 0),(3,.nil),(4,.int .i64 0),(5,.int .i64 0),(6,.box 6 0)] [(1,.box [.int .u8 I,.int .u8 O,dsD l]),(6,.box [.int .i64 1,.int .i64 0])] (CondB.mk (fun h=>?_) (fun h=>absurd h (by simp))) ?_
   ·(conv=>whnf)
    (try simp only[])
    repeat ((first|refine V.s1 ?_);(try simp only[]))
    exact V.wk
   have tk1:Cl 46 [.int .i64 1] (.int .i64 0):=rtk (c:=1) rfl
   have hS2:dst (1+I%3) ([],0) (c,a)=([(1,(IntKind.u16.wrap a).tmod (1+I%3))],1):=by
    have e1:dcode 0 (1+c%12)=1:=by unfold dcode;rw[if_pos (by omega)];rfl
    unfold dst dop
    dsimp only
    rw[e1]
    unfold darg
    rw[if_pos rfl,wrap16]
    rfl
   rw[hS2] at hS
   refine V.r0 hca2 ?_
   refine .inr ?_
   refine V.r2 hca2 ci tk1 ?_
   refine⟨0+1,⟨by omega,by omega⟩,by omega,?_⟩
   dsimp only
   rw[hS]
   refine Wk.renS 86 300 3 1 2 (by decide) (by decide) rfl rfl rfl ?_
   exact V.wk
  ·simp only[Bool.and_eq_false_iff,decide_eq_false_iff_not] at hq
   have hl0:l=[]:=by
    cases l with
    | nil=>rfl
    | cons q l=>simp at hq<;>omega
   have hfin:dfo (1+I%3) (l.take 12)=([],0):=by rw[hl0];rfl
   (conv=>whnf)
   (try simp only[])
   repeat ((first|refine V.s1 ?_);(try simp only[]))
   have hD:∃ D2,D2=dup (1+I%3) (1+O%3) 3 ([],0):=⟨_,rfl⟩
   obtain⟨D2,hD2⟩:=hD
   refine Lp.of ⟨List (Int×Int)×Int,fun t=>0≤t.2∧t.2≤9∧t.1.length≤20∧(t.1=[]→t.2=0) ∧ ∃ j:Nat,j≤3∧(1+O%3)-t.2≤j∧t.1.length+j≤15∧dup (1+I%3) (1+O%3) j t=D2,fun t=>match t.1 with|[]=>[(1,.box 1 0),(3,.nil),(4,.int .i64 t.2)]|q::r=>[(1,.box 1 0),(3,.bsl 300 0 (r.length+1) 2),(4,.int .i64 t.2)],fun t=>match t.1 with|[]=>[(1,.box [.int .u8 I,.int .u8 O,dsD l])]|q::r=>[(1,.box [.int .u8 I,.int .u8 O,dsD l]),(300,.box (bcl (q::r)))],fun t=>(9-t.2).toNat,⟨([],0),⟨Int.le_refl _,by decide,by simp,by simp,3,by omega,by omega,by simp<;>omega,hD2.symm⟩,V.wk⟩,?_⟩
   rintro⟨P2,n2⟩ ⟨j1,j2,j3,j4,j,j5,j6,j7,j8⟩
   dsimp only at j1 j2 j3 j4 j6 j7 j8
   cases P2 with
   | nil=>
    try dsimp only
    (conv=>whnf)
    (try simp only[])
    repeat ((first|refine V.s1 ?_|((try ((with_reducible refine .ext ?_);(conv=>whnf);(try simp only[])));(with_reducible refine jaa (r:=?_) ?_ ?_);rotate_left;(focus (first|exact(co)));(conv=>whnf)));(try simp only[]))
    refine V.br (fun hq2=>?_) (fun hq2=>?_)
    ·simp only[decide_eq_true_eq] at hq2
     (conv=>whnf)
     (try simp only[])
     repeat ((first|refine V.s1 ?_|((try ((with_reducible refine .ext ?_);(conv=>whnf);(try simp only[])));(with_reducible refine jaa (r:=?_) ?_ ?_);rotate_left;(focus (first|exact(ci)));(conv=>whnf)));(try simp only[]))
     refine⟨([]++[(1,n2%(1+I%3))],n2+1),⟨by dsimp only;omega,by dsimp only;omega,by simp at j7 ⊢ <;> omega,by simp,j-1,by omega,by dsimp only;omega,by simp at j7 ⊢; omega,?_⟩,by dsimp only;omega,?_⟩
     ·obtain⟨j',rfl⟩:∃ j',j=j'+1:=⟨j-1,by omega⟩
      rw[← j8]
      show dup (1+I%3) (1+O%3) j' _=dup (1+I%3) (1+O%3) (j'+1) ([],n2)
      rw[dup,if_pos hq2]
     ·dsimp only
      refine Wk.renS 104 300 3 1 2 (by decide) (by decide) rfl rfl rfl ?_
      exact V.wk
    ·simp only[decide_eq_false_iff_not] at hq2
     have e9:dup (1+I%3) (1+O%3) j ([],n2)=([],n2):=by
      cases j with
      | zero=>rfl
      | succ j=>rw[dup,if_neg hq2]
     rw[e9] at j8
     exact absurd (j4 rfl) (by omega)
   | cons q2 r2=>
    have pg2:=jaA (q2::r2)
    have hb:Nat.beq (bcl (q2::r2)).length ((r2.length+1)*2)=true:=by rw[jaH];exact jhB _
    have hf:∀ i,D.freeL i (bcl (q2::r2)++[.int .i64 1,.int .i64 (n2%(1+I%3))])=true:=jaz (q2::r2) 1 (n2%(1+I%3))
    have e2:bcl (q2::(r2++[(1,n2%(1+I%3))]))=bcl (q2::r2)++[.int .i64 1,.int .i64 (n2%(1+I%3))]:=ja5 (q2::r2) [(1,n2%(1+I%3))]
    obtain⟨B2,hB2⟩:∃ B2,B2=bcl (q2::r2):=⟨_,rfl⟩
    dsimp only
    simp only[← hB2] at pg2 hb hf e2 ⊢
    try dsimp only
    (conv=>whnf)
    (try simp only[])
    repeat ((first|refine V.s1 ?_|((try ((with_reducible refine .ext ?_);(conv=>whnf);(try simp only[])));(with_reducible refine jaa (r:=?_) ?_ ?_);rotate_left;(focus (first|exact(co)));(conv=>whnf))|(((rewrite [pg2];(conv=>whnf)));(conv=>whnf)));(try simp only[]))
    refine V.br (fun hq2=>?_) (fun hq2=>?_)
    ·simp only[decide_eq_true_eq] at hq2
     have ht:Nat.ble (r2.length+1+1) 1000000=true:=by rw[jh8];simp at j3;omega
     (conv=>whnf)
     (try simp only[])
     repeat ((first|refine V.s1 ?_|((try ((with_reducible refine .ext ?_);(conv=>whnf);(try simp only[])));(with_reducible refine jaa (r:=?_) ?_ ?_);rotate_left;(focus (first|exact(ci)));(conv=>whnf))|(((rewrite [pg2];(conv=>whnf)));(conv=>whnf))|(((simp only[hb,ht,jir,hf];(conv=>whnf)));(conv=>whnf)));(try simp only[]))
     refine⟨((q2::r2)++[(1,n2%(1+I%3))],n2+1),⟨by dsimp only;omega,by dsimp only;omega,by simp at j7 ⊢ <;> omega,by simp,j-1,by omega,by dsimp only;omega,by simp at j7 ⊢; omega,?_⟩,by dsimp only;omega,?_⟩
     ·obtain⟨j',rfl⟩:∃ j',j=j'+1:=⟨j-1,by omega⟩
      rw[← j8]
      show dup (1+I%3) (1+O%3) j' _=dup (1+I%3) (1+O%3) (j'+1) ((q2::r2),n2)
      rw[dup,if_pos hq2]
     ·dsimp only
      have e1:(r2++[((1:Int),n2%(1+I%3))]).length=r2.length+1:=by simp
      rw[List.cons_append]
      dsimp only
      rw[e1,e2]
      refine Wk.renS 104 300 3 (r2.length+1+1) 2 (by decide) (by decide) (hf _) rfl rfl ?_
      exact V.wk
    ·simp only[decide_eq_false_iff_not] at hq2
     have e9:dup (1+I%3) (1+O%3) j ((q2::r2),n2)=((q2::r2),n2):=by
      cases j with
      | zero=>rfl
      | succ j=>rw[dup,if_neg hq2]
     rw[e9] at j8
     have hD3:dup (1+I%3) (1+O%3) 3 ([],0)=(q2::r2,n2):=hD2.symm.trans j8.symm
     have hne:0<n2:=by omega
     have hfin2:dprog (1+I%3) (1+O%3) l=(ddn (1+O%3) 9 ((q2::r2),n2)).1:=by
      unfold dprog;rw[hfin,show dup (1+I%3) (1+O%3) 3 ([],0)=(q2::r2,n2) from hD3]
     (conv=>whnf)
     (try simp only[])
     repeat ((first|refine V.s1 ?_|((try ((with_reducible refine .ext ?_);(conv=>whnf);(try simp only[])));(with_reducible refine jaa (r:=?_) ?_ ?_);rotate_left;(focus (first|fail));(conv=>whnf))|(((rewrite [pg2];(conv=>whnf)));(conv=>whnf)));(try simp only[]))
     rw[hB2]
     refine Lp.of ⟨List (Int×Int)×Int,fun t=>t.1≠[]∧t.1.length≤100∧t.2≤9∧1+O%3≤t.2 ∧ ∃ j:Nat,j≤9∧t.2-(1+O%3)≤j∧t.1.length+j≤40∧ddn (1+O%3) j t=ddn (1+O%3) 9 ((q2::r2),n2),fun t=>match t.1 with|[]=>[]|q::r=>[(1,.box 1 0),(3,.bsl 300 0 (r.length+1) 2),(4,.int .i64 t.2)],fun t=>match t.1 with|[]=>[]|q::r=>[(1,.box [.int .u8 I,.int .u8 O,dsD l]),(300,.box (bcl (q::r)))],fun t=>t.2.toNat,⟨((q2::r2),n2),⟨by simp,by simp at j3 ⊢; omega,by omega,by omega,9,by omega,by omega,by simp at j3 ⊢; omega,rfl⟩,V.wk⟩,?_⟩
     rintro⟨P3,n3⟩ ⟨i1,i2,i3,i4,j,i5,i6,i7,i8⟩
     dsimp only at i1 i2 i3 i4 i6 i7 i8
     cases P3 with
     | nil=>exact absurd rfl i1
     | cons q3 r3=>
      dsimp only
      have pg3:=jaA (q3::r3)
      have pb3:=jfY (q3::r3)
      have bo3:bslOk (bcl (q3::r3)) 0 (r3.length+1) 2=true:=jeL (q3::r3)
      have hb:Nat.beq (bcl (q3::r3)).length ((r3.length+1)*2)=true:=by rw[jaH];exact jhB _
      have hf:∀ i,D.freeL i (bcl (q3::r3)++[.int .i64 3,.int .i64 0])=true:=jaz (q3::r3) 3 0
      have e2:bcl (q3::(r3++[(3,0)]))=bcl (q3::r3)++[.int .i64 3,.int .i64 0]:=ja5 (q3::r3) [(3,0)]
      have eo:oL (q3::r3)=sl2 (r3.length+1) (bcl (q3::r3)):=rfl
      obtain⟨B3,hB3⟩:∃ B3,B3=bcl (q3::r3):=⟨_,rfl⟩
      simp only[← hB3] at pg3 pb3 bo3 hb hf e2 eo ⊢
      (conv=>whnf)
      (try simp only[])
      repeat ((first|refine V.s1 ?_|((try ((with_reducible refine .ext ?_);(conv=>whnf);(try simp only[])));(with_reducible refine jaa (r:=?_) ?_ ?_);rotate_left;(focus (first|exact(co)));(conv=>whnf))|(((rewrite [pg3];(conv=>whnf)));(conv=>whnf)));(try simp only[]))
      refine V.br (fun hq3=>?_) (fun hq3=>?_)
      ·simp only[decide_eq_true_eq] at hq3
       have ht:Nat.ble (r3.length+1+1) 1000000=true:=by rw[jh8];simp at i2;omega
       (conv=>whnf)
       (try simp only[])
       repeat ((first|refine V.s1 ?_|((try ((with_reducible refine .ext ?_);(conv=>whnf);(try simp only[])));(with_reducible refine jaa (r:=?_) ?_ ?_);rotate_left;(focus (first|fail));(conv=>whnf))|(((rewrite [pg3];(conv=>whnf)));(conv=>whnf))|(((simp only[hb,ht,jir,hf];(conv=>whnf)));(conv=>whnf)));(try simp only[]))
       refine⟨(q3::(r3++[(3,0)]),n3-1),⟨by simp,by simp at i7 ⊢; omega,by dsimp only;omega,by dsimp only;omega,j-1,by omega,by dsimp only;omega,by simp at i7 ⊢; omega,?_⟩,by dsimp only;omega,?_⟩
       ·obtain⟨j',rfl⟩:∃ j',j=j'+1:=⟨j-1,by omega⟩
        rw[← i8]
        show ddn (1+O%3) j' _=ddn (1+O%3) (j'+1) (q3::r3,n3)
        rw[ddn,if_pos hq3]
        rfl
       ·dsimp only
        have e1:(r3++[((3:Int),(0:Int))]).length=r3.length+1:=by simp
        rw[e1,e2]
        refine Wk.renS 114 300 3 (r3.length+1+1) 2 (by decide) (by decide) (hf _) rfl rfl ?_
        exact V.wk
      ·simp only[decide_eq_false_iff_not] at hq3
       have e9:ddn (1+O%3) j (q3::r3,n3)=(q3::r3,n3):=by
        cases j with
        | zero=>rfl
        | succ j=>rw[ddn,if_neg hq3]
       rw[hfin2,← i8,e9]
       dsimp only
       rw[eo]
       (conv=>whnf)
       (try simp only[jhI])
       repeat ((first|refine V.s1 ?_|((try ((with_reducible refine .ext ?_);(conv=>whnf);(try simp only[jhI])));(with_reducible refine jaa (r:=?_) ?_ ?_);rotate_left;(focus (first|fail));(conv=>whnf))|(((rewrite [pg3];(conv=>whnf)));(conv=>whnf))|(((rewrite [bo3];(conv=>whnf)));(conv=>whnf))|(((rewrite [pb3];(conv=>whnf)));(conv=>whnf)));(try simp only[jhI]))
       exact Fin.of rfl
 | succ k=>
  dsimp only
  have hkk:(((k+1:Nat):Int)+1)=((k+1+1:Nat):Int):=by omega
  have hP:(dfo (1+I%3) (l.take (k+1))).1.length=k+1:=by
   unfold dfo;rw[dfo_len,jif];simp;omega
  have hG:=good_dfo (ins:=1+I%3) (by omega) (l.take (k+1)) (fun s hs=>(hl s (jik hs)).2)
  have hn:=And.intro hG.lo hG.hi
  have hS:k+1<l.length→dfo (1+I%3) (l.take (k+1+1))=dst (1+I%3) (dfo (1+I%3) (l.take (k+1))) (l.getD (k+1) (0,0)):=fun h=>by rw[jca l (k+1) (0,0) h,dfo_snoc]
  have hX:k+1<l.length→(0≤(l.getD (k+1) (0,0)).1∧(l.getD (k+1) (0,0)).1≤255) ∧ -32768≤(l.getD (k+1) (0,0)).2∧(l.getD (k+1) (0,0)).2≤32767:=fun h=>hl _ (by rw[jia,jid h];exact List.getElem_mem h)
  clear hG
  obtain⟨t,hT⟩:∃ t,t=dfo (1+I%3) (l.take (k+1)):=⟨_,rfl⟩
  rw[← hT] at hP hn hS ⊢
  obtain⟨P,n⟩:=t
  dsimp only at hP hn hS ⊢
  have pg:=jaA P
  refine V.r0 @jhJ ?_
  refine V.br (fun hq=>?_) (fun hq=>?_)
  ·simp only[jhC,decide_eq_true_eq] at hq
   have hkl:k+1<l.length:=by omega
   have hS:=hS hkl
   have hX:=hX hkl
   obtain⟨c,a,hca⟩:∃ c a,l.getD (k+1) (0,0)=(c,a):=⟨_,_,rfl⟩
   rw[hca] at hS hX
   dsimp only at hX
   have tk:=rtk (c:=1+c%12) (by unfold tkb;simp only[decide_eq_true_eq];omega)
   (conv=>whnf)
   (try simp only[jhJ,hca])
   repeat ((first|refine V.s1 ?_|((try ((with_reducible refine .ext ?_);(conv=>whnf);(try simp only[jhJ,hca])));(with_reducible refine jaa (r:=?_) ?_ ?_);rotate_left;(focus (first|exact(tk)));(conv=>whnf))|((refine⟨_,fun _=>tk,?_⟩);(conv=>whnf))|(((rewrite [pg];(conv=>whnf)));(conv=>whnf)));(try simp only[jhJ,hca]))
   refine⟨fun h1 h2=>by rw[h1,h2];rfl,?_⟩
   (conv=>whnf)
   (try simp only[jhJ,hca])
   repeat ((first|refine V.s1 ?_|((try ((with_reducible refine .ext ?_);(conv=>whnf);(try simp only[jhJ,hca])));(with_reducible refine jaa (r:=?_) ?_ ?_);rotate_left;(focus (first|exact(tk)));(conv=>whnf))|(((rewrite [pg];(conv=>whnf)));(conv=>whnf)));(try simp only[jhJ,hca]))
   refine jaN [(1,.box 1 0),(3,.bsl 300 0 (k+1) 2),(4,.int .i64 n),(5,.int .i64 ((k+1:Nat):Int)),(6,.box 6 0)] [(1,.box [.int .u8 I,.int .u8 O,dsD l]),(300,.box (bcl P)),(6,.box [.int .i64 (dcode n (1+c%12)),.int .i64 0])] (CondB.mk (fun h=>?_) (fun h=>?_)) ?_
   ·have e:dcode n (1+c%12)=if n>8 then 3 else 1:=by
     unfold dcode
     simp only[jhS,jhC,decide_eq_true_eq] at h
     rw[if_pos (by omega)]
    rw[e]
    (conv=>whnf)
    (try simp only[])
    repeat ((first|refine V.s1 ?_|((try ((with_reducible refine .ext ?_);(conv=>whnf);(try simp only[])));(with_reducible refine jaa (r:=?_) ?_ ?_);rotate_left;(focus (first|fail));(conv=>whnf))|(((rewrite [pg];(conv=>whnf)));(conv=>whnf)));(try simp only[]))
    refine V.br (fun h8=>?_) (fun h8=>?_)
    ·rw[if_pos (of_decide_eq_true h8)]
     (conv=>whnf)
     (try simp only[])
     repeat ((first|refine V.s1 ?_|((try ((with_reducible refine .ext ?_);(conv=>whnf);(try simp only[])));(with_reducible refine jaa (r:=?_) ?_ ?_);rotate_left;(focus (first|fail));(conv=>whnf))|(((rewrite [pg];(conv=>whnf)));(conv=>whnf)));(try simp only[]))
     exact V.wk
    ·rw[if_neg (of_decide_eq_false h8)]
     (conv=>whnf)
     exact V.wk
   ·have e:dcode n (1+c%12)=1+c%12:=by
     unfold dcode
     simp only[jhT,Bool.and_eq_false_iff,decide_eq_false_iff_not] at h
     rw[if_neg (by omega)]
    rw[e]
    (conv=>whnf)
    exact V.wk
   have hcb:tkb (dcode n (1+c%12))=true:=dop_code 0 n (c,a)
   have hS2:dst (1+I%3) (P,n) (c,a)=(P++[(dcode n (1+c%12),darg (1+I%3) n (dcode n (1+c%12)) a)],n-tkn (dcode n (1+c%12))+1):=rfl
   rw[hS2] at hS
   have h11:dcode n (1+c%12)=11→0<n:=dcode_11 hn.1
   generalize dcode n (1+c%12)=cc at *
   (conv=>whnf)
   (try simp only[jhJ,hca])
   repeat ((first|refine V.s1 ?_|((try ((with_reducible refine .ext ?_);(conv=>whnf);(try simp only[jhJ,hca])));(with_reducible refine jaa (r:=?_) ?_ ?_);rotate_left;(focus (first|fail));(conv=>whnf))|(((rewrite [pg];(conv=>whnf)));(conv=>whnf)));(try simp only[jhJ,hca]))
   refine jaN [(1,.box 1 0),(3,.bsl 300 0 (k+1) 2),(4,.int .i64 n),(5,.int .i64 ((k+1:Nat):Int)),(6,.box 6 0)] [(1,.box [.int .u8 I,.int .u8 O,dsD l]),(300,.box (bcl P)),(6,.box [.int .i64 cc,.int .i64 (darg (1+I%3) n cc a)])] (CondB.mk (fun h=>?_) (fun h=>?_)) ?_
   ·have e1:=of_decide_eq_true h
    have e:darg (1+I%3) n cc a=(IntKind.u16.wrap a).tmod (1+I%3):=by unfold darg;rw[if_pos e1,wrap16]
    rw[e]
    (conv=>whnf)
    (try simp only[])
    repeat ((first|refine V.s1 ?_|((try ((with_reducible refine .ext ?_);(conv=>whnf);(try simp only[])));(with_reducible refine jaa (r:=?_) ?_ ?_);rotate_left;(focus (first|exact(ci)));(conv=>whnf))|(((rewrite [pg];(conv=>whnf)));(conv=>whnf)));(try simp only[]))
    refine .inr ?_
    (conv=>whnf)
    (try simp only[])
    repeat ((first|refine V.s1 ?_|((try ((with_reducible refine .ext ?_);(conv=>whnf);(try simp only[])));(with_reducible refine jaa (r:=?_) ?_ ?_);rotate_left;(focus (first|exact(ci)));(conv=>whnf))|(((rewrite [pg];(conv=>whnf)));(conv=>whnf)));(try simp only[]))
    exact V.wk
   ·have e1:=of_decide_eq_false h
    (conv=>whnf)
    (try simp only[])
    repeat ((first|refine V.s1 ?_|((try ((with_reducible refine .ext ?_);(conv=>whnf);(try simp only[])));(with_reducible refine jaa (r:=?_) ?_ ?_);rotate_left;(focus (first|fail));(conv=>whnf))|(((rewrite [pg];(conv=>whnf)));(conv=>whnf)));(try simp only[]))
    refine V.br (fun h2=>?_) (fun h2=>?_)
    ·have e2:=of_decide_eq_true h2
     have e:darg (1+I%3) n cc a=100*a:=by unfold darg;rw[if_neg e1,if_pos e2]
     rw[e]
     (conv=>whnf)
     (try simp only[])
     repeat ((first|refine V.s1 ?_|((try ((with_reducible refine .ext ?_);(conv=>whnf);(try simp only[])));(with_reducible refine jaa (r:=?_) ?_ ?_);rotate_left;(focus (first|fail));(conv=>whnf))|(((rewrite [pg];(conv=>whnf)));(conv=>whnf)));(try simp only[]))
     exact V.wk
    ·have e2:=of_decide_eq_false h2
     (conv=>whnf)
     (try simp only[])
     repeat ((first|refine V.s1 ?_|((try ((with_reducible refine .ext ?_);(conv=>whnf);(try simp only[])));(with_reducible refine jaa (r:=?_) ?_ ?_);rotate_left;(focus (first|fail));(conv=>whnf))|(((rewrite [pg];(conv=>whnf)));(conv=>whnf)));(try simp only[]))
     refine V.br (fun h3=>?_) (fun h3=>?_)
     ·have e3:=of_decide_eq_true h3
      have e:darg (1+I%3) n cc a=(IntKind.u16.wrap a).tmod n:=by unfold darg;rw[if_neg e1,if_neg e2,if_pos e3,wrap16]
      rw[e]
      (conv=>whnf)
      (try simp only[])
      repeat ((first|refine V.s1 ?_|((try ((with_reducible refine .ext ?_);(conv=>whnf);(try simp only[])));(with_reducible refine jaa (r:=?_) ?_ ?_);rotate_left;(focus (first|fail));(conv=>whnf))|(((rewrite [pg];(conv=>whnf)));(conv=>whnf)));(try simp only[]))
      have n0:=h11 e3
      refine .inr ?_
      (conv=>whnf)
      (try simp only[])
      repeat ((first|refine V.s1 ?_|((try ((with_reducible refine .ext ?_);(conv=>whnf);(try simp only[])));(with_reducible refine jaa (r:=?_) ?_ ?_);rotate_left;(focus (first|fail));(conv=>whnf))|(((rewrite [pg];(conv=>whnf)));(conv=>whnf)));(try simp only[]))
      exact V.wk
     ·have e3:=of_decide_eq_false h3
      have e:darg (1+I%3) n cc a=0:=by unfold darg;rw[if_neg e1,if_neg e2,if_neg e3]
      rw[e]
      (conv=>whnf)
      exact V.wk
   have tk2:=rtk hcb
   have htk:=jf2 cc
   have hb:Nat.beq (bcl P).length ((k+1)*2)=true:=by rw[jaH,hP];exact jhB _
   have ht:Nat.ble (k+1+1) 1000000=true:=by rw[jh8];omega
   generalize darg (1+I%3) n cc a=ag at *
   have hf:∀ i,D.freeL i (bcl P++[.int .i64 cc,.int .i64 ag])=true:=jaz P cc ag
   (conv=>whnf)
   (try simp only[jhJ,hkk])
   repeat ((first|refine V.s1 ?_|((try ((with_reducible refine .ext ?_);(conv=>whnf);(try simp only[jhJ,hkk])));(with_reducible refine jaa (r:=?_) ?_ ?_);rotate_left;(focus (first|exact(tk2)));(conv=>whnf))|(((rewrite [pg];(conv=>whnf)));(conv=>whnf))|(((simp only[hb,ht,jir,hf];(conv=>whnf)));(conv=>whnf)));(try simp only[jhJ,hkk]))
   refine⟨k+1+1,⟨by omega,by omega⟩,by omega,?_⟩
   dsimp only
   rw[hS]
   dsimp only
   rw[ja5]
   refine Wk.renS 86 300 3 (k+1+1) 2 (by decide) (by decide) (hf _) rfl rfl ?_
   exact V.wk
  ·simp only[Bool.and_eq_false_iff,decide_eq_false_iff_not] at hq
   have hfin:dfo (1+I%3) (l.take 12)=(P,n):=by
    rcases jhR (k+1) l.length with g|g
    ·rw[show 12=k+1 by omega];exact hT.symm
    ·rw[jim (by omega)]
     rw[jim g] at hT
     exact hT.symm
   (conv=>whnf)
   (try simp only[])
   repeat ((first|refine V.s1 ?_|((try ((with_reducible refine .ext ?_);(conv=>whnf);(try simp only[])));(with_reducible refine jaa (r:=?_) ?_ ?_);rotate_left;(focus (first|fail));(conv=>whnf))|(((rewrite [pg];(conv=>whnf)));(conv=>whnf)));(try simp only[]))
   cases P with
   | nil=>simp at hP
   | cons q0 r0=>
    obtain rfl:k=r0.length:=by simpa using hP.symm
    have hD:∃ D2,D2=dup (1+I%3) (1+O%3) 3 (q0::r0,n):=⟨_,rfl⟩
    obtain⟨D2,hD2⟩:=hD
    refine Lp.of ⟨List (Int×Int)×Int,fun t=>0≤t.2∧t.2≤9∧t.1.length≤20∧(t.1=[]→t.2=0) ∧ ∃ j:Nat,j≤3∧(1+O%3)-t.2≤j∧t.1.length+j≤15∧dup (1+I%3) (1+O%3) j t=D2,fun t=>match t.1 with|[]=>[(1,.box 1 0),(3,.nil),(4,.int .i64 t.2)]|q::r=>[(1,.box 1 0),(3,.bsl 300 0 (r.length+1) 2),(4,.int .i64 t.2)],fun t=>match t.1 with|[]=>[(1,.box [.int .u8 I,.int .u8 O,dsD l])]|q::r=>[(1,.box [.int .u8 I,.int .u8 O,dsD l]),(300,.box (bcl (q::r)))],fun t=>(9-t.2).toNat,⟨(q0::r0,n),⟨by dsimp only;omega,by dsimp only;omega,by simp<;>omega,by simp,3,by omega,by omega,by simp<;>omega,hD2.symm⟩,V.wk⟩,?_⟩
    rintro⟨P2,n2⟩ ⟨j1,j2,j3,j4,j,j5,j6,j7,j8⟩
    dsimp only at j1 j2 j3 j4 j6 j7 j8
    cases P2 with
    | nil=>
     try dsimp only
     (conv=>whnf)
     (try simp only[])
     repeat ((first|refine V.s1 ?_|((try ((with_reducible refine .ext ?_);(conv=>whnf);(try simp only[])));(with_reducible refine jaa (r:=?_) ?_ ?_);rotate_left;(focus (first|exact(co)));(conv=>whnf)));(try simp only[]))
     refine V.br (fun hq2=>?_) (fun hq2=>?_)
     ·simp only[decide_eq_true_eq] at hq2
      (conv=>whnf)
      (try simp only[])
      repeat ((first|refine V.s1 ?_|((try ((with_reducible refine .ext ?_);(conv=>whnf);(try simp only[])));(with_reducible refine jaa (r:=?_) ?_ ?_);rotate_left;(focus (first|exact(ci)));(conv=>whnf)));(try simp only[]))
      refine⟨([]++[(1,n2%(1+I%3))],n2+1),⟨by dsimp only;omega,by dsimp only;omega,by simp at j7 ⊢ <;> omega,by simp,j-1,by omega,by dsimp only;omega,by simp at j7 ⊢; omega,?_⟩,by dsimp only;omega,?_⟩
      ·obtain⟨j',rfl⟩:∃ j',j=j'+1:=⟨j-1,by omega⟩
       rw[← j8]
       show dup (1+I%3) (1+O%3) j' _=dup (1+I%3) (1+O%3) (j'+1) ([],n2)
       rw[dup,if_pos hq2]
      ·dsimp only
       refine Wk.renS 104 300 3 1 2 (by decide) (by decide) rfl rfl rfl ?_
       exact V.wk
     ·simp only[decide_eq_false_iff_not] at hq2
      have e9:dup (1+I%3) (1+O%3) j ([],n2)=([],n2):=by
       cases j with
       | zero=>rfl
       | succ j=>rw[dup,if_neg hq2]
      rw[e9] at j8
      exact absurd (j4 rfl) (by omega)
    | cons q2 r2=>
     have pg2:=jaA (q2::r2)
     have hb:Nat.beq (bcl (q2::r2)).length ((r2.length+1)*2)=true:=by rw[jaH];exact jhB _
     have hf:∀ i,D.freeL i (bcl (q2::r2)++[.int .i64 1,.int .i64 (n2%(1+I%3))])=true:=jaz (q2::r2) 1 (n2%(1+I%3))
     have e2:bcl (q2::(r2++[(1,n2%(1+I%3))]))=bcl (q2::r2)++[.int .i64 1,.int .i64 (n2%(1+I%3))]:=ja5 (q2::r2) [(1,n2%(1+I%3))]
     obtain⟨B2,hB2⟩:∃ B2,B2=bcl (q2::r2):=⟨_,rfl⟩
     dsimp only
     simp only[← hB2] at pg2 hb hf e2 ⊢
     try dsimp only
     (conv=>whnf)
     (try simp only[])
     repeat ((first|refine V.s1 ?_|((try ((with_reducible refine .ext ?_);(conv=>whnf);(try simp only[])));(with_reducible refine jaa (r:=?_) ?_ ?_);rotate_left;(focus (first|exact(co)));(conv=>whnf))|(((rewrite [pg2];(conv=>whnf)));(conv=>whnf)));(try simp only[]))
     refine V.br (fun hq2=>?_) (fun hq2=>?_)
     ·simp only[decide_eq_true_eq] at hq2
      have ht:Nat.ble (r2.length+1+1) 1000000=true:=by rw[jh8];simp at j3;omega
      (conv=>whnf)
      (try simp only[])
      repeat ((first|refine V.s1 ?_|((try ((with_reducible refine .ext ?_);(conv=>whnf);(try simp only[])));(with_reducible refine jaa (r:=?_) ?_ ?_);rotate_left;(focus (first|exact(ci)));(conv=>whnf))|(((rewrite [pg2];(conv=>whnf)));(conv=>whnf))|(((simp only[hb,ht,jir,hf];(conv=>whnf)));(conv=>whnf)));(try simp only[]))
      refine⟨((q2::r2)++[(1,n2%(1+I%3))],n2+1),⟨by dsimp only;omega,by dsimp only;omega,by simp at j7 ⊢ <;> omega,by simp,j-1,by omega,by dsimp only;omega,by simp at j7 ⊢; omega,?_⟩,by dsimp only;omega,?_⟩
      ·obtain⟨j',rfl⟩:∃ j',j=j'+1:=⟨j-1,by omega⟩
       rw[← j8]
       show dup (1+I%3) (1+O%3) j' _=dup (1+I%3) (1+O%3) (j'+1) ((q2::r2),n2)
       rw[dup,if_pos hq2]
      ·dsimp only
       have e1:(r2++[((1:Int),n2%(1+I%3))]).length=r2.length+1:=by simp
       rw[List.cons_append]
       dsimp only
       rw[e1,e2]
       refine Wk.renS 104 300 3 (r2.length+1+1) 2 (by decide) (by decide) (hf _) rfl rfl ?_
       exact V.wk
     ·simp only[decide_eq_false_iff_not] at hq2
      have e9:dup (1+I%3) (1+O%3) j ((q2::r2),n2)=((q2::r2),n2):=by
       cases j with
       | zero=>rfl
       | succ j=>rw[dup,if_neg hq2]
      rw[e9] at j8
      have hD3:dup (1+I%3) (1+O%3) 3 (q0::r0,n)=(q2::r2,n2):=hD2.symm.trans j8.symm
      have hne:0<n2:=by omega
      have hfin2:dprog (1+I%3) (1+O%3) l=(ddn (1+O%3) 9 ((q2::r2),n2)).1:=by
       unfold dprog;rw[hfin,show dup (1+I%3) (1+O%3) 3 (q0::r0,n)=(q2::r2,n2) from hD3]
      (conv=>whnf)
      (try simp only[])
      repeat ((first|refine V.s1 ?_|((try ((with_reducible refine .ext ?_);(conv=>whnf);(try simp only[])));(with_reducible refine jaa (r:=?_) ?_ ?_);rotate_left;(focus (first|fail));(conv=>whnf))|(((rewrite [pg2];(conv=>whnf)));(conv=>whnf)));(try simp only[]))
      rw[hB2]
      refine Lp.of ⟨List (Int×Int)×Int,fun t=>t.1≠[]∧t.1.length≤100∧t.2≤9∧1+O%3≤t.2 ∧ ∃ j:Nat,j≤9∧t.2-(1+O%3)≤j∧t.1.length+j≤40∧ddn (1+O%3) j t=ddn (1+O%3) 9 ((q2::r2),n2),fun t=>match t.1 with|[]=>[]|q::r=>[(1,.box 1 0),(3,.bsl 300 0 (r.length+1) 2),(4,.int .i64 t.2)],fun t=>match t.1 with|[]=>[]|q::r=>[(1,.box [.int .u8 I,.int .u8 O,dsD l]),(300,.box (bcl (q::r)))],fun t=>t.2.toNat,⟨((q2::r2),n2),⟨by simp,by simp at j3 ⊢; omega,by omega,by omega,9,by omega,by omega,by simp at j3 ⊢; omega,rfl⟩,V.wk⟩,?_⟩
      rintro⟨P3,n3⟩ ⟨i1,i2,i3,i4,j,i5,i6,i7,i8⟩
      dsimp only at i1 i2 i3 i4 i6 i7 i8
      cases P3 with
      | nil=>exact absurd rfl i1
      | cons q3 r3=>
       dsimp only
       have pg3:=jaA (q3::r3)
       have pb3:=jfY (q3::r3)
       have bo3:bslOk (bcl (q3::r3)) 0 (r3.length+1) 2=true:=jeL (q3::r3)
       have hb:Nat.beq (bcl (q3::r3)).length ((r3.length+1)*2)=true:=by rw[jaH];exact jhB _
       have hf:∀ i,D.freeL i (bcl (q3::r3)++[.int .i64 3,.int .i64 0])=true:=jaz (q3::r3) 3 0
       have e2:bcl (q3::(r3++[(3,0)]))=bcl (q3::r3)++[.int .i64 3,.int .i64 0]:=ja5 (q3::r3) [(3,0)]
       have eo:oL (q3::r3)=sl2 (r3.length+1) (bcl (q3::r3)):=rfl
       obtain⟨B3,hB3⟩:∃ B3,B3=bcl (q3::r3):=⟨_,rfl⟩
       simp only[← hB3] at pg3 pb3 bo3 hb hf e2 eo ⊢
       (conv=>whnf)
       (try simp only[])
       repeat ((first|refine V.s1 ?_|((try ((with_reducible refine .ext ?_);(conv=>whnf);(try simp only[])));(with_reducible refine jaa (r:=?_) ?_ ?_);rotate_left;(focus (first|exact(co)));(conv=>whnf))|(((rewrite [pg3];(conv=>whnf)));(conv=>whnf)));(try simp only[]))
       refine V.br (fun hq3=>?_) (fun hq3=>?_)
       ·simp only[decide_eq_true_eq] at hq3
        have ht:Nat.ble (r3.length+1+1) 1000000=true:=by rw[jh8];simp at i2;omega
        (conv=>whnf)
        (try simp only[])
        repeat ((first|refine V.s1 ?_|((try ((with_reducible refine .ext ?_);(conv=>whnf);(try simp only[])));(with_reducible refine jaa (r:=?_) ?_ ?_);rotate_left;(focus (first|fail));(conv=>whnf))|(((rewrite [pg3];(conv=>whnf)));(conv=>whnf))|(((simp only[hb,ht,jir,hf];(conv=>whnf)));(conv=>whnf)));(try simp only[]))
        refine⟨(q3::(r3++[(3,0)]),n3-1),⟨by simp,by simp at i7 ⊢; omega,by dsimp only;omega,by dsimp only;omega,j-1,by omega,by dsimp only;omega,by simp at i7 ⊢; omega,?_⟩,by dsimp only;omega,?_⟩
        ·obtain⟨j',rfl⟩:∃ j',j=j'+1:=⟨j-1,by omega⟩
         rw[← i8]
         show ddn (1+O%3) j' _=ddn (1+O%3) (j'+1) (q3::r3,n3)
         rw[ddn,if_pos hq3]
         rfl
        ·dsimp only
         have e1:(r3++[((3:Int),(0:Int))]).length=r3.length+1:=by simp
         rw[e1,e2]
         refine Wk.renS 114 300 3 (r3.length+1+1) 2 (by decide) (by decide) (hf _) rfl rfl ?_
         exact V.wk
       ·simp only[decide_eq_false_iff_not] at hq3
        have e9:ddn (1+O%3) j (q3::r3,n3)=(q3::r3,n3):=by
         cases j with
         | zero=>rfl
         | succ j=>rw[ddn,if_neg hq3]
        rw[hfin2,← i8,e9]
        dsimp only
        rw[eo]
        (conv=>whnf)
        (try simp only[jhI])
        repeat ((first|refine V.s1 ?_|((try ((with_reducible refine .ext ?_);(conv=>whnf);(try simp only[jhI])));(with_reducible refine jaa (r:=?_) ?_ ?_);rotate_left;(focus (first|fail));(conv=>whnf))|(((rewrite [pg3];(conv=>whnf)));(conv=>whnf))|(((rewrite [bo3];(conv=>whnf)));(conv=>whnf))|(((rewrite [pb3];(conv=>whnf)));(conv=>whnf)));(try simp only[jhI]))
        exact Fin.of rfl
theorem okF_40 {q:Rat}(h1:q.num.natAbs<10^40)(h2:q.den<10^40):okF q=true:=by
 unfold okF
 simp only[jhC,decide_eq_true_eq]
 exact⟨jhL (jaY 40 _ (by omega) h1).1 (by omega),jhL (jaY 40 _ (by omega) h2).1 (by omega)⟩
theorem divInt_40 (n d:Int)(hn : -10000000000000000000000000000000000000000<n∧n<10000000000000000000000000000000000000000)(hd:d≠0 ∧ -10000000000000000000000000000000000000000<d∧d<10000000000000000000000000000000000000000) :
  (Rat.divInt n d).num.natAbs<10^40∧(Rat.divInt n d).den<10^40:=by
 rcases (by omega:0<d∨d<0) with h|h
 ·obtain⟨k,rfl⟩:∃ k:Nat,d=k:=⟨d.toNat,by omega⟩
  have:=jey n k (by omega)
  constructor
  ·exact Nat.lt_of_le_of_lt this.1 (by omega)
  ·exact Nat.lt_of_le_of_lt this.2 (by omega)
 ·rw[← Rat.neg_divInt_neg]
  obtain⟨k,hk⟩:∃ k:Nat, -d=k:=⟨(-d).toNat,by omega⟩
  rw[hk]
  have:=jey (-n) k (by omega)
  constructor
  ·exact Nat.lt_of_le_of_lt this.1 (by omega)
  ·exact Nat.lt_of_le_of_lt this.2 (by omega)
theorem in01_c_o (s:List UInt8)(h:okW s=true):Cl 68 [.str s] (plD (wval s)):=by
 obtain⟨d,j,neg,S,e1,e2⟩:=sg_of s
 rw[e2]
 rw[e1] at h
 unfold okD at h
 simp only[jhC,Bool.not_eq_true',jhT,decide_eq_false_iff_not,jh9] at h
 exact in01_g s d j neg S h.1.2 (by omega) (by have:=S.hl;omega)
def whV (l:List Int):Int:=l.foldl (fun v x=>v*1000+x%1000) 0
theorem whV_snoc (l:List Int)(x:Int):whV (l++[x])=whV l*1000+x%1000:=by unfold whV;rw[List.foldl_append];rfl
theorem whV_take (xs:List Int)(k:Nat)(h:k<xs.length):whV (xs.take (k+1))=whV (xs.take k)*1000+xs.getD k 0%1000:=by
 rw[List.take_add_one,jid h,← whV_snoc,jia,jid h];rfl
theorem whV_bd:∀ (k:Nat) (xs:List Int),0≤whV (xs.take k)∧whV (xs.take k)<((1000^k:Nat):Int)
 | 0,xs=>by simp[whV]
 | k+1,xs=>by
  have ih:=whV_bd k xs
  have hp:(1000:Nat)^(k+1)=1000^k*1000:=Nat.pow_succ ..
  rw[hp]
  generalize (1000:Nat)^k=p at *
  rcases jhR k xs.length with h|h
  ·rw[whV_take xs k h]
   omega
  ·have e:xs.take (k+1)=xs.take k:=by rw[jim (by omega),jim h]
   rw[e]
   omega
theorem raised_c (k:Nat)(hk:k≤3):Cl 198 [plD 10,.int .i64 k] (plD ((10^k:Nat):Int)):=by
 have h1:=jbi 1 (by constructor<;>decide)
 have ht:∀ i,i<k→Cl 73 [plD ((10^i:Nat):Int),plD 10] (plD ((10^(i+1):Nat):Int)):=fun i hi=>by
  have:=jea ((10^i:Nat):Int) 10 (Sm.lit (k:=5) (by
   rcases (by omega:i=0∨i=1∨i=2) with e|e|e<;>subst e<;>decide) |>.mono (by omega)) ((Sm.lit (k:=5) (by decide)).mono (by omega))
  rw[Nat.pow_succ,jhU]
  exact this
 obtain⟨v,hv⟩:∃ v:Nat→Int,v=fun i=>((10^i:Nat):Int):=⟨_,rfl⟩
 have ht:∀ i,i<k→Cl 73 [plD (v i),plD 10] (plD (v (i+1))):=by rw[hv];exact ht
 have h1:Cl 123 [.int .i64 1] (plD (v 0)):=by rw[hv];exact h1
 rw[show ((10^k:Nat):Int)=v k by rw[hv]]
 clear hv
 obtain⟨ten,hten⟩:∃ z:Int,z=10:=⟨_,rfl⟩
 rw[← hten] at ht ⊢
 clear hten
 unfold plD at *
 refine V.en tbOk Tryz.func198 ?_
 (conv=>whnf)
 refine V.st ?_
 repeat ((try ((with_reducible refine .ext ?_);(conv=>whnf)));(with_reducible refine jaa (r:=?_) ?_ ?_);rotate_left;(focus (first|exact(h1)));(conv=>whnf);refine V.st ?_)
 refine jak (0:Nat) (fun i=>i≤k) (fun i=>k-i) (fun i=>[(6,.int .i64 i)]) (fun i=>[(5,.box [.bool (decide (v i<0)),.ints .i64 (mg 10000 (v i).natAbs)])]) ?_ ?_ ?_
 ·exact V.wk
 ·exact jhE _
 intro i hi
 have hic:((i:Int)+1)=((i+1:Nat):Int):=by omega
 have hti:=ht i
 (conv=>whnf)
 refine V.st ?_
 refine V.br (fun hq=>?_) (fun hq=>?_)
 ·rw[decide_eq_true_eq] at hq
  have hti:=hti (by omega)
  (conv=>whnf)
  (try simp only[hic])
  repeat ((first|refine V.s1 ?_|((with_reducible refine jaG ?_ ?_);(focus ((conv=>whnf);(try simp only[hic]);(repeat ((first|refine V.s1 ?_);(try simp only[hic])));exact⟨rfl⟩));(conv=>whnf))|((try ((with_reducible refine .ext ?_);(conv=>whnf);(try simp only[hic])));(with_reducible refine jaa (r:=?_) ?_ ?_);rotate_left;(focus (first|exact(hti)));(conv=>whnf)));(try simp only[hic]))
  exact⟨i+1,by omega,by omega,V.wk⟩
 ·rw[decide_eq_false_iff_not] at hq
  obtain rfl:i=k:=by omega
  (conv=>whnf)
  refine V.st ?_
  exact Fin.of rfl
theorem dwhole_c (b:Bool)(xs:List Int)(z:Int)(hz:0≤z∧z≤3):∃ v:Int,(-10000000000000000000000000000000000000000<v∧v<10000000000000000000000000000000000000000) ∧
  Cl 122 [.agg [.bool b,.ints .u16 xs,.int .u16 z]] (.str (decZ v)):=by
 obtain⟨n,rfl⟩:∃ n:Nat,z=n:=⟨z.toNat,by omega⟩
 have hzm:(n:Int)%501=(n:Int):=by omega
 have i0:=jbi 0 (by constructor<;>decide)
 have i1:=jbi 1000 (by constructor<;>decide)
 have i2:=jbi 10 (by constructor<;>decide)
 have r1:=raised_c n (by omega)
 have p10:((10^n:Nat):Int)≤1000∧1≤((10^n:Nat):Int):=by
  rcases (by omega:n=0∨n=1∨n=2∨n=3) with e|e|e|e<;>subst e<;>decide
 generalize ((10^n:Nat):Int)=ten at *
 obtain⟨U,hU⟩:∃ U:Nat→Int,U=fun k=>whV (xs.take k):=⟨_,rfl⟩
 have bd:∀ k,k≤12→0≤U k∧U k<1000000000000000000000000000000000000:=fun k hk=>by
  have:=whV_bd k xs
  have h2:(1000:Nat)^k≤1000^12:=jh0 (by omega) hk
  rw[hU]
  exact⟨this.1,Int.lt_of_lt_of_le this.2 (Int.ofNat_le.2 h2)⟩
 have st:∀ k,k<xs.length→U (k+1)=U k*1000+xs.getD k 0%1000:=fun k hk=>by rw[hU];exact whV_take xs k hk
 have V0:U 0=0:=by rw[hU];rfl
 have Vn:∀ k,¬ (k<12∧k<xs.length)→k≤12→U k=U 12:=fun k h1 h2=>by
  rw[hU]
  show whV (xs.take k)=whV (xs.take 12)
  rcases (by omega:k=12∨xs.length≤k) with e|e
  ·rw[e]
  ·rw[jim e,jim (by omega)]
 clear hU
 have sm:∀ a:Int,0≤a→a<1000000000000000000000000000000000000000→Sm 10 a:=fun a h1 h2=>Sm.lit (by omega)
 have sm2:∀ a:Int,0≤a→a<1000000000000000000000000000000000000000→(mg 10000 a.natAbs).length≤10:=sm
 have hb:=bd 12 (by omega)
 have hfin:0≤U 12*ten∧U 12*ten<1000000000000000000000000000000000000000:=by
  have h1:=jhG hb.1 (show 0≤ten by omega)
  have h2:=jhY p10.1 hb.1
  omega
 have t9:=jea (U 12) ten ((sm _ hb.1 (by omega)).mono (by omega)) ((sm _ (by omega) (by omega)).mono (by omega))
 obtain⟨w,hw⟩:∃ w:Int,U 12*ten=w:=⟨_,rfl⟩
 rw[hw] at t9 hfin
 have m1:=jc0 b w.natAbs (by have:=sm2 w hfin.1 hfin.2;omega)
 rw[show ((w.natAbs:Nat):Int)=w by omega] at m1
 have hv : -1000000000000000000000000000000000000000<(if b=true then -w else w)∧(if b=true then -w else w)<1000000000000000000000000000000000000000:=by split<;>omega
 refine⟨if b=true then -w else w,by omega,?_⟩
 generalize (if b=true then -w else w)=v at *
 have o1:=out_c v (Sm.lit (k:=10) (by omega) |>.mono (by omega))
 have hd:=(jaY 40 v.natAbs (by omega) (by omega)).1
 rw[if_neg (by omega),if_neg (by omega)] at o1
 obtain⟨k1000,hk1000⟩:∃ q:Int,q=1000:=⟨_,rfl⟩
 obtain⟨k10,hk10⟩:∃ q:Int,q=10:=⟨_,rfl⟩
 have tk:∀ k,k≤12→Cl 73 [plD (U k),plD k1000] (plD (U k*1000)):=fun k hk=>by
  rw[hk1000]
  exact jea (U k) 1000 ((sm _ (bd k hk).1 (by have:=(bd k hk).2;omega)).mono (by omega)) ((sm _ (by omega) (by omega)).mono (by omega))
 have i1:Cl 123 [.int .i64 1000] (plD k1000):=by rw[hk1000];exact i1
 have i2:Cl 123 [.int .i64 10] (plD k10):=by rw[hk10];exact i2
 have r1:Cl 198 [plD k10,.int .i64 n] (plD ten):=by rw[hk10];exact r1
 have i0:Cl 123 [.int .i64 0] (plD (U 0)):=by rw[V0];exact i0
 clear hk1000 hk10 hb hfin hv hw hd V0 p10
 unfold plD at i0 i1 i2 r1 tk t9 m1 o1
 refine V.en tbOk Tryz.func122 ?_
 (conv=>whnf)
 refine V.st ?_
 repeat ((try ((with_reducible refine .ext ?_);(conv=>whnf)));(with_reducible refine jaa (r:=?_) ?_ ?_);rotate_left;(focus (first|exact(i0)));(conv=>whnf);refine V.st ?_)
 refine jak (0:Nat) (fun k=>k≤12∧k≤xs.length) (fun k=>12-k) (fun k=>[(4,.int .i64 k)]) (fun k=>[(3,.box [.bool (decide (U k<0)),.ints .i64 (mg 10000 (U k).natAbs)])]) ?_ ?_ ?_
 ·exact V.wk
 ·exact⟨by omega,by omega⟩
 intro k hk
 have hkc:((k:Int)+1)=((k+1:Nat):Int):=by omega
 (conv=>whnf)
 refine V.st ?_
 refine V.br (fun hq=>?_) (fun hq=>?_)
 ·simp only[jhC,decide_eq_true_eq] at hq
  obtain⟨x,hx,ex⟩:=getxn (xs:=xs) (k:=k) (by omega)
  have hst:=st k (by omega)
  rw[ex] at hst
  have hbk:=bd k (by omega)
  have hbk1:=bd (k+1) (by omega)
  have h1:=tk k (by omega)
  have h2:=jbi (x%1000) (by simp only[InR,V.lo,V.hi];omega)
  have h3:=plus_c (U k*1000) (x%1000) ((sm _ (by omega) (by omega)).mono (by omega)) ((sm _ (by omega) (by omega)).mono (by omega))
  rw[← hst] at h3
  unfold plD at h2 h3
  obtain⟨r,hr⟩:∃ r,x%1000=r:=⟨_,rfl⟩
  rw[hr] at h2 h3
  (conv=>whnf)
  refine V.st ?_
  refine⟨(V.tk [0,3,4,5,6,7,8,9] (V.e1 1 [9,8,7,6,5,4,3,0] (V.e1 2 [9,8,7,6,5,4,3] (V.e1 10 [] (V.e1 11 [] (V.e1 12 [] .done)))))),[],V.pok,.go (jab ?_)⟩
  (conv=>whnf)
  (try simp only[jhJ,ex,hr,hkc])
  repeat ((first|refine V.s1 ?_|((with_reducible refine jaG ?_ ?_);(focus ((conv=>whnf);(try simp only[jhJ,ex,hr,hkc]);(repeat ((first|refine V.s1 ?_);(try simp only[jhJ,ex,hr,hkc])));exact⟨rfl⟩));(conv=>whnf))|((try ((with_reducible refine .ext ?_);(conv=>whnf);(try simp only[jhJ,ex,hr,hkc])));(with_reducible refine jaa (r:=?_) ?_ ?_);rotate_left;(focus (first|exact(i1)|exact(h1)|exact(h2)|exact(h3)));(conv=>whnf)));(try simp only[jhJ,ex,hr,hkc]))
  exact⟨k+1,⟨by omega,by omega⟩,by omega,V.wk⟩
 ·have hk12:U k=U 12:=Vn k (fun h=>by rw[Bool.and_eq_false_iff,decide_eq_false_iff_not,decide_eq_false_iff_not] at hq;omega) hk.1
  rw[hk12]
  (conv=>whnf)
  refine V.st ?_
  refine⟨(V.tk [0,2,3,4,5] (V.e1 1 [5,4,3,2,0] (V.e1 6 [0] (V.e1 7 [] (V.e1 8 [] .done))))),[],V.pok,.go (jab ?_)⟩
  (conv=>whnf)
  (try simp only[hzm])
  repeat ((first|refine V.s1 ?_|((with_reducible refine jaG ?_ ?_);(focus ((conv=>whnf);(try simp only[hzm]);(repeat ((first|refine V.s1 ?_);(try simp only[hzm])));exact⟨rfl⟩));(conv=>whnf))|((try ((with_reducible refine .ext ?_);(conv=>whnf);(try simp only[hzm])));(with_reducible refine jaa (r:=?_) ?_ ?_);rotate_left;(focus (first|exact(i2)|exact(r1)|exact(t9)));(conv=>whnf)));(try simp only[hzm]))
  (conv=>whnf)
  refine V.st ?_
  repeat ((try ((with_reducible refine .ext ?_);(conv=>whnf)));(with_reducible refine jaa (r:=?_) ?_ ?_);rotate_left;(focus (first|exact(m1)|exact(o1)));(conv=>whnf);refine V.st ?_)
  exact Fin.of rfl
theorem dfrac_c (b:Bool)(xs:List Int)(z:Int)(b2:Bool)(xs2:List Int)(z2:Int)(hz:0≤z∧z≤65535)(hz2:0≤z2∧z2≤65535):∃ q:Rat,okF q=true ∧
  Cl 57 [.agg [.bool b,.ints .u16 xs,.int .u16 z,.bool b2,.ints .u16 xs2,.int .u16 z2]] (frT_o q):=by
 obtain⟨r,hr⟩:∃ r,z%4=r:=⟨_,rfl⟩
 obtain⟨r2,hr2⟩:∃ r,z2%4=r:=⟨_,rfl⟩
 obtain⟨v,hv,w1⟩:=dwhole_c b xs r (by omega)
 obtain⟨v2,hv2,w2⟩:=dwhole_c b2 xs2 r2 (by omega)
 obtain⟨y,hy⟩:∃ y,y=if v2=0 then 1 else v2:=⟨_,rfl⟩
 have hy0:y≠0 ∧ -10000000000000000000000000000000000000000<y∧y<10000000000000000000000000000000000000000:=by
  rw[hy];split<;>omega
 have n40:=divInt_40 v y hv hy0
 have hok:=okF_40 n40.1 n40.2
 have l40:∀ a:Int,(-10000000000000000000000000000000000000000<a∧a<10000000000000000000000000000000000000000)→Sm 10 a∧(dec a.natAbs).length≤600:=fun a ha=>
  ⟨Sm.lit (by omega),jhL (jaY 40 a.natAbs (by omega) (by omega)).1 (by omega)⟩
 have i1:=in01_c_o (decZ v) (jbE v (l40 v hv).2)
 have i2:=in01_c_o (decZ v2) (jbE v2 (l40 v2 hv2).2)
 rw[jbu] at i1 i2
 have k1:=jbi 1 (by constructor<;>decide)
 have lw:=lowest_c v y ((l40 v hv).1.mono (by omega)) ((l40 y hy0.2).1.mono (by omega)) hy0.1
 have q4:Q4 10 (Rat.divInt v y):=Q4.of (l40 v hv).1 (l40 y hy0.2).1 hy0.1
 have o1:=out02_c (Rat.divInt v y) (q4.1.mono (by omega)) (q4.2.mono (by omega))
 unfold frR at o1
 rw[hok] at o1
 simp only[cond_true] at o1
 refine⟨_,hok,?_⟩
 have hnil:=jcx (B:=10000) (n:=v2.natAbs) (by omega)
 clear q4 hok n40 l40
 generalize Rat.divInt v y=q at *
 unfold frT_o raD plD at *
 generalize decZ v=t1 at *
 generalize decZ v2=t2 at *
 refine V.en tbOk Tryz.func57 ?_
 (conv=>whnf)
 refine V.st ?_
 refine⟨(V.tk [0,1,2,3] (.ev (.cons 4 [3,2,1,0] (V.e1 5 [3,2,1,0] (V.e1 6 [3,2] (V.e1 7 [] .done))) (.cons 5 [3,2,1,0] (V.e1 4 [3,2,1,0] (V.e1 6 [3,2] (V.e1 7 [] .done))) .nil)))),[],V.pok,?_⟩
 refine jas [(3,.box 3 0),(4,.box 4 0)] [(3,.box [.bool b,.ints .u16 xs,.int .u16 z]),(4,.box [.bool b2,.ints .u16 xs2,.int .u16 z2])] ?_ ?_
 ·exact V.d0 @jhI
 (conv=>whnf)
 refine V.st ?_
 refine⟨(V.tk [0,1,2,3,4,5,6] (V.e1 7 [5,4,3] (V.tk [8] (V.e1 9 [] .done)))),[],V.pok,?_⟩
 refine jas [] [(3,.box [.bool b,.ints .u16 xs,.int .u16 r]),(4,.box [.bool b2,.ints .u16 xs2,.int .u16 r2])] ?_ ?_
 ·exact V.d0 (V.a3 @jhI hr hr2)
 (conv=>whnf)
 refine V.st ?_
 refine⟨(V.tk [0,3] (.ev (.cons 1 [3] (.ev (.cons 2 [3] (.ev (.cons 4 [] (.ev (.cons 5 [] (.ev (.cons 6 [] (V.e1 7 [] (V.e1 8 [] (V.e1 9 [] .done))) (.cons 7 [] (V.e1 6 [] (V.e1 8 [] (V.e1 9 [] .done))) .nil))) (.cons 6 [] (.ev (.cons 5 [] (V.e1 7 [] (V.e1 8 [] (V.e1 9 [] .done))) (.cons 7 [] (V.e1 5 [] (V.e1 8 [] (V.e1 9 [] .done))) .nil))) (.cons 7 [] (.ev (.cons 5 [] (V.e1 6 [] (V.e1 8 [] (V.e1 9 [] .done))) (.cons 6 [] (V.e1 5 [] (V.e1 8 [] (V.e1 9 [] .done))) .nil))) .nil)))) (.cons 6 [3] (.ev (.cons 4 [] (.ev (.cons 5 [] (V.e1 7 [] (V.e1 8 [] (V.e1 9 [] .done))) (.cons 7 [] (V.e1 5 [] (V.e1 8 [] (V.e1 9 [] .done))) .nil))) (.cons 7 [3] (V.e1 4 [] (V.e1 5 [] (V.e1 8 [] (V.e1 9 [] .done)))) .nil))) (.cons 7 [3] (.ev (.cons 4 [] (.ev (.cons 5 [] (V.e1 6 [] (V.e1 8 [] (V.e1 9 [] .done))) (.cons 6 [] (V.e1 5 [] (V.e1 8 [] (V.e1 9 [] .done))) .nil))) (.cons 6 [3] (V.e1 4 [] (V.e1 5 [] (V.e1 8 [] (V.e1 9 [] .done)))) .nil))) .nil)))) (.cons 6 [3] (.ev (.cons 2 [3] (.ev (.cons 4 [] (.ev (.cons 5 [] (V.e1 7 [] (V.e1 8 [] (V.e1 9 [] .done))) (.cons 7 [] (V.e1 5 [] (V.e1 8 [] (V.e1 9 [] .done))) .nil))) (.cons 7 [3] (V.e1 4 [] (V.e1 5 [] (V.e1 8 [] (V.e1 9 [] .done)))) .nil))) (.cons 7 [3] (V.e1 2 [3] (V.e1 4 [] (V.e1 5 [] (V.e1 8 [] (V.e1 9 [] .done))))) .nil))) (.cons 7 [3] (.ev (.cons 2 [3] (.ev (.cons 4 [] (.ev (.cons 5 [] (V.e1 6 [] (V.e1 8 [] (V.e1 9 [] .done))) (.cons 6 [] (V.e1 5 [] (V.e1 8 [] (V.e1 9 [] .done))) .nil))) (.cons 6 [3] (V.e1 4 [] (V.e1 5 [] (V.e1 8 [] (V.e1 9 [] .done)))) .nil))) (.cons 6 [3] (V.e1 2 [3] (V.e1 4 [] (V.e1 5 [] (V.e1 8 [] (V.e1 9 [] .done))))) .nil))) .nil)))) (.cons 6 [3,0] (.ev (.cons 1 [3] (.ev (.cons 2 [3] (.ev (.cons 4 [] (.ev (.cons 5 [] (V.e1 7 [] (V.e1 8 [] (V.e1 9 [] .done))) (.cons 7 [] (V.e1 5 [] (V.e1 8 [] (V.e1 9 [] .done))) .nil))) (.cons 7 [3] (V.e1 4 [] (V.e1 5 [] (V.e1 8 [] (V.e1 9 [] .done)))) .nil))) (.cons 7 [3] (V.e1 2 [3] (V.e1 4 [] (V.e1 5 [] (V.e1 8 [] (V.e1 9 [] .done))))) .nil))) (.cons 7 [3,0] (V.e1 1 [3] (V.e1 2 [3] (V.e1 4 [] (V.e1 5 [] (V.e1 8 [] (V.e1 9 [] .done)))))) .nil))) (.cons 7 [3,0] (.ev (.cons 1 [3] (.ev (.cons 2 [3] (.ev (.cons 4 [] (.ev (.cons 5 [] (V.e1 6 [] (V.e1 8 [] (V.e1 9 [] .done))) (.cons 6 [] (V.e1 5 [] (V.e1 8 [] (V.e1 9 [] .done))) .nil))) (.cons 6 [3] (V.e1 4 [] (V.e1 5 [] (V.e1 8 [] (V.e1 9 [] .done)))) .nil))) (.cons 6 [3] (V.e1 2 [3] (V.e1 4 [] (V.e1 5 [] (V.e1 8 [] (V.e1 9 [] .done))))) .nil))) (.cons 6 [3,0] (V.e1 1 [3] (V.e1 2 [3] (V.e1 4 [] (V.e1 5 [] (V.e1 8 [] (V.e1 9 [] .done)))))) .nil))) .nil))))),[],V.pok,?_⟩
 refine jas [(5,.box 5 0),(6,.box 6 0)] [(5,.box [.bool (decide (v<0)),.ints .i64 (mg 10000 v.natAbs)]),(6,.box [.bool (decide (v2<0)),.ints .i64 (mg 10000 v2.natAbs)])] ?_ ?_
 ·exact V.d4 @jhI w1 w2 i1 i2
 (conv=>whnf)
 refine V.st ?_
 refine V.br (fun hq=>?_) (fun hq=>?_)
 ·have h0:v2=0:=by
   rw[decide_eq_true_eq] at hq
   have:=hnil.1 (jib.1 (by omega))
   omega
  rw[if_pos h0] at hy
  subst hy
  (conv=>whnf)
  refine V.st ?_
  repeat ((try ((with_reducible refine .ext ?_);(conv=>whnf)));(with_reducible refine jaa (r:=?_) ?_ ?_);rotate_left;(focus (first|exact(k1)|exact(lw)|exact(o1)));(conv=>whnf);refine V.st ?_)
  exact Fin.of rfl
 ·have h0:v2≠0:=fun h=>by
   rw[decide_eq_false_iff_not] at hq
   exact hq (by rw[hnil.2 (by omega)];rfl)
  rw[if_neg h0] at hy
  subst hy
  (conv=>whnf)
  refine V.st ?_
  repeat ((try ((with_reducible refine .ext ?_);(conv=>whnf)));(with_reducible refine jaa (r:=?_) ?_ ?_);rotate_left;(focus (first|exact(lw)|exact(o1)));(conv=>whnf);refine V.st ?_)
  exact Fin.of rfl
theorem jht:type_of% @jhJ∧type_of% @jhI:=⟨@jhJ,@jhI⟩
abbrev dce (b:Nat→Bool)(x:Nat→List Int)(z:Nat→Int)(b2:Nat→Bool)(x2:Nat→List Int)(z2:Nat→Int)(i:Nat):List D:=[.bool (b i),.ints .u16 (x i),.int .u16 (z i),.bool (b2 i),.ints .u16 (x2 i),.int .u16 (z2 i)]
theorem inputs_c (I O:Int)(l:List (Int×Int))(at_:List Int)(n:Nat)(b b2:Nat→Bool)(x x2:Nat→List Int)(z z2:Nat→Int)(S F:Nat→List UInt8×List UInt8)(hI:0≤I∧I≤255)(hn:(n:Int)=1+I%3)(hl:at_.length=4)(ha:∀ v∈at_, -32768≤v∧v≤32767)
  (c:∀ i,Cl 12 [.int .i64 (at_.getD i 0),.int .i64 1000] (.agg [.str (S i).1,.str (S i).2]))
  (f:∀ i,Cl 57 [.agg (dce b x z b2 x2 z2 i)] (.agg [.str (F i).1,.str (F i).2])) :
  Cl 28 [drD I O l,.iarr .i16 at_,.agg (dce b x z b2 x2 z2 0++(dce b x z b2 x2 z2 1++(dce b x z b2 x2 z2 2++dce b x z b2 x2 z2 3)))] (.agg [sl2 n (List.take (n*2) [.str (S 0).1,.str (S 0).2,.str (S 1).1,.str (S 1).2,.str (S 2).1,.str (S 2).2]),sl2 n (List.take (n*2) [.str (F 0).1,.str (F 0).2,.str (F 1).1,.str (F 1).2,.str (F 2).1,.str (F 2).2])]):=by
 have ci:=dins_c I O l hI
 refine V.en tbOk Tryz.func28 ?_
 refine V.r1 jht ci ?_
 refine Lp.of ⟨Nat,fun k=>k≤n,fun k=>match k with|0=>[(3,.box 3 0),(4,.box 4 0),(5,.box 5 0),(6,.box 6 0),(7,.box 7 0),(10,.int .i64 (1+I%3)),(11,.int .i64 0)]|k+1=>[(3,.box 3 0),(4,.box 4 0),(5,.box 5 0),(6,.box 6 0),(7,.box 7 0),(10,.int .i64 (1+I%3)),(11,.int .i64 ((k+1:Nat):Int))],fun k=>match k with|0=>[(3,.box [.int .u8 I,.int .u8 O,dsD l]),(4,.arr .i16 at_),(5,.box (dce b x z b2 x2 z2 0++(dce b x z b2 x2 z2 1++(dce b x z b2 x2 z2 2++dce b x z b2 x2 z2 3)))),(6,.box [.nil,.nil]),(7,.box [.nil,.nil])]|k+1=>[(3,.box [.int .u8 I,.int .u8 O,dsD l]),(4,.arr .i16 at_),(5,.box (dce b x z b2 x2 z2 0++(dce b x z b2 x2 z2 1++(dce b x z b2 x2 z2 2++dce b x z b2 x2 z2 3)))),(6,.box [.nil,.nil]),(7,.box [.bsl 22 0 (k+1) 2,.bsl 31 0 (k+1) 2]),(22,.box (List.take ((k+1)*2) [.str (S 0).1,.str (S 0).2,.str (S 1).1,.str (S 1).2,.str (S 2).1,.str (S 2).2])),(31,.box (List.take ((k+1)*2) [.str (F 0).1,.str (F 0).2,.str (F 1).1,.str (F 1).2,.str (F 2).1,.str (F 2).2]))],fun k=>3-k,⟨0,by omega,V.wk⟩,?_⟩
 intro k hk
 have hk5:k=0∨k=1∨k=2∨k=3:=by omega
 rcases hk5 with e|e|e|e
 all_goals subst e
 ·dsimp only
  refine V.r0 jht ?_
  refine V.br (fun hq=>?_) (fun hq=>?_)
  ·simp only[decide_eq_true_eq] at hq
   have ck:=c 0
   have fk:=f 0
   have ga:at_.getD (Int.toNat 0) 0=at_.getD 0 0:=rfl
   refine V.r0 jht ?_
   refine⟨Pq18z,[],V.pok,?_⟩
   refine jas [(22,.bsl 22 0 1 2)] [(7,.box [.bsl 22 0 1 2,.nil]),(22,.box (List.take (1*2) [.str (S 0).1,.str (S 0).2,.str (S 1).1,.str (S 1).2,.str (S 2).1,.str (S 2).2]))] ?_ ?_
   ·exact V.d1 (V.a2 jht ga) ck
   refine V.r0 jht ?_
   refine⟨Pq24z,[],V.pok,?_⟩
   refine jas [(31,.bsl 31 0 1 2)] [(7,.box [.bsl 22 0 1 2,.bsl 31 0 1 2]),(31,.box (List.take (1*2) [.str (F 0).1,.str (F 0).2,.str (F 1).1,.str (F 1).2,.str (F 2).1,.str (F 2).2]))] ?_ ?_
   ·exact V.d1 jht fk
   refine V.r0 jht ?_
   exact⟨0+1,by omega,by omega,V.wk⟩
  ·simp only[decide_eq_false_iff_not] at hq;omega
 ·dsimp only
  refine V.r0 jht ?_
  refine V.br (fun hq=>?_) (fun hq=>?_)
  ·simp only[decide_eq_true_eq] at hq
   have ck:=c 1
   have fk:=f 1
   have ga:at_.getD (Int.toNat 1) 0=at_.getD 1 0:=rfl
   refine V.r0 jht ?_
   refine⟨Pq18z,[],V.pok,?_⟩
   refine jas [(22,.bsl 22 0 2 2)] [(7,.box [.bsl 22 0 2 2,.bsl 31 0 1 2]),(22,.box (List.take (2*2) [.str (S 0).1,.str (S 0).2,.str (S 1).1,.str (S 1).2,.str (S 2).1,.str (S 2).2]))] ?_ ?_
   ·exact V.d1 (V.a2 jht ga) ck
   refine V.r0 jht ?_
   refine⟨Pq24z,[],V.pok,?_⟩
   refine jas [(31,.bsl 31 0 2 2)] [(7,.box [.bsl 22 0 2 2,.bsl 31 0 2 2]),(31,.box (List.take (2*2) [.str (F 0).1,.str (F 0).2,.str (F 1).1,.str (F 1).2,.str (F 2).1,.str (F 2).2]))] ?_ ?_
   ·exact V.d1 jht fk
   refine V.r0 jht ?_
   exact⟨1+1,by omega,by omega,V.wk⟩
  ·simp only[decide_eq_false_iff_not] at hq
   obtain rfl:n=1:=by omega
   refine V.r0 jht ?_
   exact Fin.of rfl
 ·dsimp only
  refine V.r0 jht ?_
  refine V.br (fun hq=>?_) (fun hq=>?_)
  ·simp only[decide_eq_true_eq] at hq
   have ck:=c 2
   have fk:=f 2
   have ga:at_.getD (Int.toNat 2) 0=at_.getD 2 0:=rfl
   refine V.r0 jht ?_
   refine⟨Pq18z,[],V.pok,?_⟩
   refine jas [(22,.bsl 22 0 3 2)] [(7,.box [.bsl 22 0 3 2,.bsl 31 0 2 2]),(22,.box (List.take (3*2) [.str (S 0).1,.str (S 0).2,.str (S 1).1,.str (S 1).2,.str (S 2).1,.str (S 2).2]))] ?_ ?_
   ·exact V.d1 (V.a2 jht ga) ck
   refine V.r0 jht ?_
   refine⟨Pq24z,[],V.pok,?_⟩
   refine jas [(31,.bsl 31 0 3 2)] [(7,.box [.bsl 22 0 3 2,.bsl 31 0 3 2]),(31,.box (List.take (3*2) [.str (F 0).1,.str (F 0).2,.str (F 1).1,.str (F 1).2,.str (F 2).1,.str (F 2).2]))] ?_ ?_
   ·exact V.d1 jht fk
   refine V.r0 jht ?_
   exact⟨2+1,by omega,by omega,V.wk⟩
  ·simp only[decide_eq_false_iff_not] at hq
   obtain rfl:n=2:=by omega
   refine V.r0 jht ?_
   exact Fin.of rfl
 ·dsimp only
  refine V.r0 jht ?_
  refine V.br (fun hq=>?_) (fun hq=>?_)
  ·simp only[decide_eq_true_eq] at hq;omega
  ·simp only[decide_eq_false_iff_not] at hq
   obtain rfl:n=3:=by omega
   refine V.r0 jht ?_
   exact Fin.of rfl
theorem hiA_mono (c i n k:Int)(hk:0≤k):hiA c i n≤hiA c i (n+k):=by
 unfold hiA;split<;>(try split)<;>(try split)<;>omega
theorem jgH {i:Int}{s s' o:Int×Int}(h:svS i s o=some s'):(tkb o.1=true∧tkn o.1≤s.1∧loA o.1≤o.2∧o.2≤hiA o.1 i s.1∧s.1+(1-tkn o.1)≤16)∧s'=(s.1+(1-tkn o.1),max s.2 (s.1+(1-tkn o.1))):=by
 unfold svS at h
 split at h
 ·rename_i c;cases h;exact⟨c,rfl⟩
 ·cases h
theorem svS_up {i:Int}{s s' o:Int×Int}{k D:Int}(h:svS i s o=some s')(hk:0≤k)(h16:s'.2+k≤16):svS i (s.1+k,max D (s.2+k)) o=some (s'.1+k,max D (s'.2+k)):=by
 obtain⟨⟨h1,h2,h3,h4,h5⟩,rfl⟩:=jgH h
 have hm:=hiA_mono o.1 i s.1 k hk
 dsimp only at h16 ⊢
 unfold svS
 dsimp only
 rw[if_pos ⟨h1,by omega,h3,by omega,by omega⟩]
 have e1:s.1+k+(1-tkn o.1)=s.1+(1-tkn o.1)+k:=by omega
 rw[e1]
 congr 2
 omega
theorem svS_mono {i:Int}{s s' o:Int×Int}(h:svS i s o=some s'):s.2≤s'.2∧s'.1≤s'.2:=by
 obtain⟨_,rfl⟩:=jgH h
 dsimp only
 omega
theorem jdV {i:Int} : ∀ {p:List (Int×Int)} {s t:Int×Int},svL i s p=some t→s.1≤s.2→s.2≤t.2∧t.1≤t.2
 | [],s,t,h,h0=>by cases h;exact⟨Int.le_refl _,h0⟩
 | o::p,s,t,h,h0=>by
  simp only[svL] at h
  cases e:svS i s o with
  | none=>rw[e] at h;cases h
  | some s2=>
   rw[e] at h
   have:=svS_mono e
   have:=jdV h this.2
   omega
theorem svL_up {i:Int}{k D:Int}(hk:0≤k):∀ {p:List (Int×Int)} {s t:Int×Int},svL i s p=some t→s.1≤s.2→t.2+k≤16→svL i (s.1+k,max D (s.2+k)) p=some (t.1+k,max D (t.2+k))
 | [],s,t,h,_,_=>by cases h;rfl
 | o::p,s,t,h,h0,h16=>by
  simp only[svL] at h ⊢
  cases e:svS i s o with
  | none=>rw[e] at h;cases h
  | some s2=>
   rw[e] at h
   have h1:=svS_mono e
   have h2:=jdV h h1.2
   rw[svS_up (D:=D) e hk (by omega)]
   exact svL_up hk h h1.2 h16
theorem jbX {p:List (Int×Int)}{i o d:Int}(h:surv p i o=some d):(1≤i∧i≤4∧1≤o∧o≤4∧p.length≤40)∧svL i (0,0) p=some (o,d):=by
 unfold surv at h
 split at h
 case isFalse=>cases h
 rename_i c
 refine⟨c,?_⟩
 split at h
 case h_2=>cases h
 rename_i n d' e
 split at h
 ·rename_i e2;cases h;rw[e,e2]
 ·cases h
theorem surv_in {p:List (Int×Int)}{i o d:Int}(h:1≤i∧i≤4∧1≤o∧o≤4∧p.length≤40)(e:svL i (0,0) p=some (o,d)):surv p i o=some d:=by
 unfold surv
 rw[if_pos h,e]
 exact if_pos rfl
theorem jf3 {p q:List (Int×Int)}{i n m a b:Int}(hp:surv p i n=some a)(hq:surv q i m=some b)(h4:n+m≤4)(h40:(p++q).length≤40)(h16:n+b≤16):surv (p++q) i (n+m)=some (max a (n+b)):=by
 obtain⟨p1,p2⟩:=jbX hp
 obtain⟨q1,q2⟩:=jbX hq
 have hna:=(jdV p2 (Int.le_refl _)).2
 dsimp only at hna
 refine surv_in ⟨p1.1,p1.2.1,by omega,by omega,h40⟩ ?_
 rw[jfm,p2]
 dsimp only
 have u:=svL_up (k:=n) (D:=a) (by omega) q2 (Int.le_refl _) (by dsimp only;omega)
 dsimp only at u
 rw[show (0:Int)+n=n by omega,show max a n=a by omega] at u
 rw[u,show m+n=n+m by omega,show b+n=n+b by omega]
theorem stM_up {α:Type}[Inhabited α]{M:Mc α}{x:List α}{i:Int}{s s' o:Int×Int}(u:List α){l:List α}(hs:svS i s o=some s')(hl:s.1=(l.length:Int)):stM M x o (u++l)=match stM M x o l with | .ok l' => .ok (u++l') | .error e => .error e:=by
 obtain⟨⟨h1,h2,h3,h4,h5⟩,_⟩:=jgH hs
 have hb:=jf2 o.1
 obtain⟨c,a⟩:=o
 dsimp only at *
 unfold stM
 dsimp only
 by_cases c1:c=1
 ·rw[if_pos c1,if_pos c1];simp
 rw[if_neg c1,if_neg c1]
 by_cases c2:c=2
 ·rw[if_pos c2,if_pos c2];simp
 rw[if_neg c2,if_neg c2]
 by_cases c3:c=11
 ·rw[if_pos c3,if_pos c3]
  subst c3
  have ha:0≤a∧a≤s.1-1:=by simp[loA,hiA] at h3 h4;omega
  have e:(u++l).length-1-a.toNat=u.length+(l.length-1-a.toNat):=by rw[jie];omega
  rw[e]
  simp only[jia,List.getElem?_append_right (Nat.le_add_right _ _),Nat.add_sub_cancel_left,jig]
 rw[if_neg c3,if_neg c3]
 have e:(u++l).length-(tkn c).toNat=u.length+(l.length-(tkn c).toNat):=by rw[jie];omega
 rw[e,List.take_length_add_append,List.drop_length_add_append]
 unfold putM
 split
 ·simp
 ·rfl
theorem rnM_up {α:Type}[Inhabited α]{M:Mc α}{x:List α}{i:Int}(u:List α):∀ (p:List (Int×Int)) {s t:Int×Int} {l:List α},svL i s p=some t→s.1=(l.length:Int)→rnM M x p (u++l)=match rnM M x p l with | .ok l' => .ok (u++l') | .error e => .error e
 | [],_,_,_,_,_=>rfl
 | o::p,s,t,l,h,hl=>by
  simp only[svL] at h
  cases e:svS i s o with
  | none=>rw[e] at h;cases h
  | some s2=>
   rw[e] at h
   simp only[rnM]
   rw[stM_up u e hl]
   cases e2:stM M x o l with
   | error er=>rfl
   | ok l2=>exact rnM_up u p h (jfp e hl e2)
theorem rn_rows {α:Type}[Inhabited α]{M:Mc α}{x:List α}{p q:List (Int×Int)}{i m b:Int}(hq:surv q i m=some b):rnM M x (p++q) []=match rnM M x p [] with | .ok u=>(match rnM M x q [] with | .ok v => .ok (u++v) | .error e => .error e) | .error e => .error e:=by
 rw[jgO]
 cases rnM M x p [] with
 | error e=>rfl
 | ok u=>
  have h:=rnM_up (M:=M) (x:=x) u q (jbX hq).2 (l:=[]) rfl
  rw[List.append_nil] at h
  exact h
theorem rn_len {α:Type}[Inhabited α]{M:Mc α}{x:List α}{i:Int} : ∀ {p:List (Int×Int)} {s t:Int×Int} {l l':List α},svL i s p=some t→s.1=(l.length:Int)→rnM M x p l = .ok l'→t.1=(l'.length:Int)
 | [],_,_,_,_,h,hl,h1=>by cases h;cases h1;exact hl
 | o::p,s,t,l,l',h,hl,h1=>by
  simp only[svL,rnM] at h h1
  cases e:svS i s o with
  | none=>rw[e] at h;cases h
  | some s2=>
   rw[e] at h
   cases e2:stM M x o l with
   | error er=>rw[e2] at h1;cases h1
   | ok l2=>rw[e2] at h1;exact rn_len h (jfp e hl e2) h1
theorem surv_len {α:Type}[Inhabited α]{M:Mc α}{x:List α}{p:List (Int×Int)}{i o d:Int}{l:List α}(hs:surv p i o=some d)(h:rnM M x p [] = .ok l):(l.length:Int)=o:=(rn_len (jbX hs).2 rfl h).symm
theorem opF_e (c:Int)(l:List Rat):(opF c l).2=0∨(opF c l).2=6:=by
 unfold opF
 split
 ·split
  ·exact .inl rfl
  ·split<;>exact .inl rfl
 ·dsimp only
  cases okF _
  ·exact .inr rfl
  ·exact .inl rfl
 ·exact .inl rfl
 ·exact .inl rfl
theorem putM_e {l:List Rat}{r:Rat×Int}{e:Int}(h:putM l r = .error e):e=r.2∧r.2≠0:=by
 unfold putM at h
 split at h
 ·cases h
 ·rename_i c;cases h;exact⟨rfl,c⟩
theorem rnF_e {x:List Rat} : ∀ (p:List (Int×Int)) {l:List Rat} {e:Int},rnM mF x p l = .error e→e=6
 | [],_,_,h=>by cases h
 | o::p,l,e,h=>by
  simp only[rnM] at h
  cases e2:stM mF x o l with
  | ok l2=>rw[e2] at h;exact rnF_e p h
  | error er=>
   rw[e2] at h
   cases h
   unfold stM at e2
   split at e2
   ·cases e2
   split at e2
   ·cases e2
   split at e2
   ·cases e2
   obtain⟨h1,h2⟩:=putM_e e2
   have:=opF_e o.1 (l.drop (l.length-(tkn o.1).toNat))
   have e3:(mF.op o.1 (l.drop (l.length-(tkn o.1).toNat)))=opF o.1 (l.drop (l.length-(tkn o.1).toNat)):=rfl
   rw[e3] at h1 h2
   rcases this with h3|h3
   ·exact absurd h3 h2
   ·rw[h1,h3]
structure Fcs (n:Nat)(B:List D):Prop where
 beq:Nat.beq B.length (n*2)=true
 pure:D.pureL B=true
 fr:∀ i,D.freeL i B=true
 ca:∀ K,catF 2 (fun j=>List.take 2 (List.drop (j*2) B)) n [] K=K B
 pg:∀ (i:Nat) (K:List D→Prop),jb1 i B K=K B
 bo:bslOk B 0 n 2=true
 pb:∀ (i:Nat) (c:Chunk) (K:List D→Prop),pubLK i c B K=K B
theorem fcs_b (p:List (Int×Int)):Fcs p.length (bcl p):=⟨by rw[jaH];exact jhB _,bcl_pure p,bcl_fr p,fun K=>by rw[catF_b p K p.length [] (jhK _),jiq,List.append_nil],jaA p,jeL p,jfY p⟩
theorem catF_f (p:List Rat)(K:List D→Prop):∀ (n:Nat) (acc:List D),n≤p.length→catF 2 (fun j=>List.take 2 (List.drop (j*2) (fcl p))) n acc K=K (fcl (p.take n)++acc)
 | 0,acc,_=>rfl
 | n+1,acc,h=>by
  unfold catF
  rw[fcl_at p n (by omega)]
  show (match Nat.beq (acc.length+1+1) (acc.length+2) with|true=>catF 2 (fun j=>List.take 2 (List.drop (j*2) (fcl p))) n (.str (decZ (p.getD n 0).num) :: .str (dec (p.getD n 0).den)::acc) K|false=>False)=_
  rw[jhB]
  dsimp only
  rw[catF_f p K n _ (by omega),jca p n 0 (by omega),jdF]
  simp[fcl]
theorem fcl_fr (l:List Rat)(i:Nat):D.freeL i (fcl l)=true:=by
 induction l with
 | nil=>rfl
 | cons q m ih=>simp only[fcl,D.freeL,D.free];exact ih
theorem fcl_pure (l:List Rat):D.pureL (fcl l)=true:=by
 induction l with
 | nil=>rfl
 | cons q m ih=>simp only[fcl,D.pureL,D.pure,ih]
theorem fcs_f (p:List Rat):Fcs p.length (fcl p):=⟨by rw[jbc];exact jhB _,fcl_pure p,fcl_fr p,fun K=>by rw[catF_f p K p.length [] (jhK _),jiq,List.append_nil],jaS p,jg7 p,fcl_pub p⟩
theorem fcs_bb (p q:List (Int×Int)):Fcs (p.length+q.length) (bcl p++bcl q):=by rw[← ja5,← jie];exact fcs_b _
theorem fcs_ff (p q:List Rat):Fcs (p.length+q.length) (fcl p++fcl q):=by rw[← jdF,← jie];exact fcs_f _
theorem eq_ff (u v:List Rat)(h:u.length+v.length≤40):Cl 29 [sl2 (u.length+v.length) (fcl u++fcl v),sl2 (u.length+v.length) (fcl u++fcl v)] (.bool true):=by
 have e:=eqL_f (u++v) (by rw[jie];exact h)
 rw[show fL (u++v)=sl2 (u++v).length (fcl (u++v)) from rfl,jdF,jie] at e
 exact e
theorem beq0 {n:Nat}(h:0<n):Nat.beq n 0=false:=by
 cases e:Nat.beq n 0 with
 | false=>rfl
 | true=>have:=Nat.eq_of_beq_eq_true e;omega
theorem jhx:type_of% @List.nil_append.{0} ∧ type_of% @jhI:=⟨@List.nil_append.{0},@jhI⟩
theorem rows_w (I O I2 O2 : Int) (l l2 P Q : List (Int × Int)) (at_ : List Int) (b b2 : Nat → Bool) (x x2 : Nat → List Int) (z z2 : Nat → Int) (n : Nat) (X1 X2 : List D) (a bb : Int) (hI : 0 ≤ I ∧ I ≤ 255) (hO : 0 ≤ O ∧ O ≤ 255) (hO2 : 0 ≤ O2 ∧ O2 ≤ 255) (hat : at_.length = 4) (hP : 0 < P.length ∧ P.length ≤ 24) (hQ : 0 < Q.length ∧ Q.length ≤ 24) (hab : (0 ≤ a ∧ a ≤ 16) ∧ 0 ≤ bb ∧ bb ≤ 16)
    (pr : Cl 17 [drD I O l] (oL P)) (qr : Cl 17 [drD I O2 l2] (oL Q))
    (co : Cl 21 [drD I O l] (.int .i64 (1 + O % 3))) (co2 : Cl 21 [drD I O2 l2] (.int .i64 (1 + O2 % 3)))
    (ci : Cl 26 [drD I O l] (.int .i64 (1 + I % 3)))
    (inp : Cl 28 [drD I O l, .iarr .i16 at_, .agg (dce b x z b2 x2 z2 0 ++ (dce b x z b2 x2 z2 1 ++ (dce b x z b2 x2 z2 2 ++ dce b x z b2 x2 z2 3)))] (.agg [sl2 n X1, sl2 n X2]))
    (ck : (4 < 1 + O % 3 + (1 + O2 % 3) ∨ 40 < P.length + Q.length) → Cl 25 [sl2 (P.length + Q.length) (bcl P ++ bcl Q), .int .i64 (1 + I % 3), .int .i64 (1 + O % 3 + (1 + O2 % 3))] (.int .i64 120))
    (dp : Cl 27 [oL P, .int .i64 (1 + I % 3), .int .i64 (1 + O % 3)] (.tup [.int .i64 a, .int .i64 0]))
    (dq : Cl 27 [oL Q, .int .i64 (1 + I % 3), .int .i64 (1 + O2 % 3)] (.tup [.int .i64 bb, .int .i64 0]))
    (db : ¬ (4 < 1 + O % 3 + (1 + O2 % 3) ∨ 40 < P.length + Q.length) → Cl 27 [sl2 (P.length + Q.length) (bcl P ++ bcl Q), .int .i64 (1 + I % 3), .int .i64 (1 + O % 3 + (1 + O2 % 3))] (.tup [.int .i64 (max a (1 + O % 3 + bb)), .int .i64 0]))
    (hr1 : ¬ (4 < 1 + O % 3 + (1 + O2 % 3) ∨ 40 < P.length + Q.length) → ((∃ h i : Int, (h ≠ 0 ∨ i ≠ 0) ∧ Cl 20 [oL P, sl2 n X1, .int .i64 (1 + O % 3)] (.tup [.any, .int .i64 h]) ∧ Cl 20 [oL Q, sl2 n X1, .int .i64 (1 + O2 % 3)] (.tup [.any, .int .i64 i]) ∧ Cl 20 [sl2 (P.length + Q.length) (bcl P ++ bcl Q), sl2 n X1, .int .i64 (1 + O % 3 + (1 + O2 % 3))] (.tup [.any, .int .i64 6])) ∨
      (∃ u v : List Rat, (0 < u.length ∧ u.length ≤ 4) ∧ (0 < v.length ∧ v.length ≤ 4) ∧ Cl 20 [oL P, sl2 n X1, .int .i64 (1 + O % 3)] (.tup [fL u, .int .i64 0]) ∧ Cl 20 [oL Q, sl2 n X1, .int .i64 (1 + O2 % 3)] (.tup [fL v, .int .i64 0]) ∧ Cl 20 [sl2 (P.length + Q.length) (bcl P ++ bcl Q), sl2 n X1, .int .i64 (1 + O % 3 + (1 + O2 % 3))] (.tup [sl2 (u.length + v.length) (fcl u ++ fcl v), .int .i64 0]))))
    (hr2 : ¬ (4 < 1 + O % 3 + (1 + O2 % 3) ∨ 40 < P.length + Q.length) → ((∃ h i : Int, (h ≠ 0 ∨ i ≠ 0) ∧ Cl 20 [oL P, sl2 n X2, .int .i64 (1 + O % 3)] (.tup [.any, .int .i64 h]) ∧ Cl 20 [oL Q, sl2 n X2, .int .i64 (1 + O2 % 3)] (.tup [.any, .int .i64 i]) ∧ Cl 20 [sl2 (P.length + Q.length) (bcl P ++ bcl Q), sl2 n X2, .int .i64 (1 + O % 3 + (1 + O2 % 3))] (.tup [.any, .int .i64 6])) ∨
      (∃ u v : List Rat, (0 < u.length ∧ u.length ≤ 4) ∧ (0 < v.length ∧ v.length ≤ 4) ∧ Cl 20 [oL P, sl2 n X2, .int .i64 (1 + O % 3)] (.tup [fL u, .int .i64 0]) ∧ Cl 20 [oL Q, sl2 n X2, .int .i64 (1 + O2 % 3)] (.tup [fL v, .int .i64 0]) ∧ Cl 20 [sl2 (P.length + Q.length) (bcl P ++ bcl Q), sl2 n X2, .int .i64 (1 + O % 3 + (1 + O2 % 3))] (.tup [sl2 (u.length + v.length) (fcl u ++ fcl v), .int .i64 0])))) :
    Cl 5 [drD I O l, drD I2 O2 l2, .iarr .i16 at_, .agg (dce b x z b2 x2 z2 0 ++ (dce b x z b2 x2 z2 1 ++ (dce b x z b2 x2 z2 2 ++ dce b x z b2 x2 z2 3)))] (.bool true) := by
  have wk := wakes_c
  have FP := fcs_b P
  have FQ := fcs_b Q
  have FB := fcs_bb P Q
  have hbP := beq0 hP.1
  have hbQ := beq0 hQ.1
  have hzP : Nat.ble P.length 1000000 = true := by rw [jh8]; omega
  have hzS : Nat.ble (P.length + Q.length) 1000000 = true := by rw [jh8]; omega
  obtain ⟨B1, hB1⟩ : ∃ B, B = bcl P := ⟨_, rfl⟩
  obtain ⟨B2, hB2⟩ : ∃ B, B = bcl Q := ⟨_, rfl⟩
  have eP : oL P = sl2 P.length (bcl P) := rfl
  have eQ : oL Q = sl2 Q.length (bcl Q) := rfl
  rw [eP] at pr dp hr1 hr2
  rw [eQ] at qr dq hr1 hr2
  simp only [← hB1, ← hB2] at FP FQ FB pr qr dp dq db ck hr1 hr2
  have hlP := FP.beq
  have hcP := FP.ca
  have hcQ := FQ.ca
  have puP := FP.pure
  have puQ := FQ.pure
  have frP := FP.fr
  have frS := FB.fr
  have pgP := FP.pg
  have boP := FP.bo
  have pgS := FB.pg
  have pbP := FP.pb
  have boS := FB.bo
  have pbS := FB.pb
  clear FP FQ FB hB1 hB2 eP eQ
  refine V.en tbOk Tryz.func5 ?_
  refine V.r1 @jhI wk ?_
  refine ⟨(V.tk [0,2] (V.e1 1 [2] (V.e1 3 [] (V.tk [4,5] .done)))), [], V.pok, ?_⟩
  refine jas [(9, sl2 P.length B1), (10, sl2 Q.length B2)] [] ?_ ?_
  · exact V.d2 @jhI pr qr
  refine V.r0 @jhI ?_
  refine ⟨(V.tk [0,2] (V.e1 1 [2] (V.e1 3 [] (V.tk [4,5] .done)))), [], V.pok, ?_⟩
  refine jas [(11, .int .i64 (1 + O % 3)), (12, .int .i64 (1 + O2 % 3))] [] ?_ ?_
  · exact V.d2 @jhI co co2
  (conv => whnf)
  (try simp only [jhx, hzP, frP])
  repeat ((first | refine V.s1 ?_ | ((try ((with_reducible refine .ext ?_); (conv => whnf); (try simp only [jhx, hzP, frP]))); (with_reducible refine jaa (r := ?_) ?_ ?_); rotate_left; (focus (first | fail)); (conv => whnf)) | ((with_reducible refine .inl ?_); (conv => whnf); (first | refine ⟨0, _, _, ⟨Tryz.func24, rfl, rfl, jhD rfl⟩, ?_⟩); (conv => whnf)) | (((rewrite [hbP]; (conv => whnf))); (conv => whnf)) | (((rewrite [hcP]; (conv => whnf))); (conv => whnf)) | (((rewrite [puP]; (conv => whnf))); (conv => whnf)) | (((rewrite [boP]; (conv => whnf))); (conv => whnf)) | (((rewrite [pgP]; (conv => whnf))); (conv => whnf)) | (((rewrite [hlP]; (conv => whnf))); (conv => whnf)) | (((rewrite [hcQ]; (conv => whnf))); (conv => whnf)) | (((rewrite [hbQ]; (conv => whnf))); (conv => whnf)) | (((rewrite [puQ]; (conv => whnf))); (conv => whnf)) | (((simp only [hzS, frS]; (conv => whnf))); (conv => whnf))); (try simp only [jhx, hzP, frP]))
  by_cases hc : 4 < 1 + O % 3 + (1 + O2 % 3) ∨ 40 < P.length + Q.length
  · have c := ck hc
    refine Cnd.yes (by simp only [jhS, decide_eq_true_eq]; omega) ?_
    refine V.r1 @jhI ci ?_
    refine .ext ?_
    (conv => whnf)
    repeat (first | (rewrite [boS]; (conv => whnf)) | (rewrite [pbS]; (conv => whnf)) | (rewrite [pbP]; (conv => whnf)))
    refine ⟨.int .i64 120, fun _ => ?_, ?_⟩
    · simp only [jhI]
      exact c
    refine V.r0 @jhI ?_
    exact Fin.of rfl
  have db := db hc
  have hr1 := hr1 hc
  have hr2 := hr2 hc
  clear ck
  refine jaN [(4, .box 4 0), (6, .box 6 0), (7, .box 7 0), (9, sl2 P.length B1), (10, sl2 Q.length B2), (11, .int .i64 (1 + O % 3)), (12, .int .i64 (1 + O2 % 3)), (13, sl2 (P.length + Q.length) (B1 ++ B2))] [(4, .box [.int .u8 I, .int .u8 O, dsD l]), (6, .arr .i16 at_), (7, .box (dce b x z b2 x2 z2 0 ++ (dce b x z b2 x2 z2 1 ++ (dce b x z b2 x2 z2 2 ++ dce b x z b2 x2 z2 3))))] (CondB.mk (fun h => absurd h (by simp only [jhS, decide_eq_true_eq]; omega)) (fun h => ?_)) ?_
  · (conv => whnf)
    refine Wk.pub 44 ?_
    (conv => whnf)
    repeat (first | (rewrite [boS]; (conv => whnf)) | (rewrite [pbS]; (conv => whnf)) | (rewrite [pbP]; (conv => whnf)))
    simp only [jhI]
    exact V.wk
  (conv => whnf)
  (try simp only [jhI])
  repeat ((fail_if_success (with_reducible refine Cnd.split ?_)); (first | refine V.s1 ?_ | ((try ((with_reducible refine .ext ?_); (conv => whnf); (try simp only [jhI]))); (with_reducible refine jaa (r := ?_) ?_ ?_); rotate_left; (focus (first | exact ci | exact dp | exact dq | exact db)); (conv => whnf))); (try simp only [jhI]))
  refine jaN [(4, .box 4 0), (6, .box 6 0), (7, .box 7 0), (9, sl2 P.length B1), (10, sl2 Q.length B2), (11, .int .i64 (1 + O % 3)), (12, .int .i64 (1 + O2 % 3)), (13, sl2 (P.length + Q.length) (B1 ++ B2))] [(4, .box [.int .u8 I, .int .u8 O, dsD l]), (6, .arr .i16 at_), (7, .box (dce b x z b2 x2 z2 0 ++ (dce b x z b2 x2 z2 1 ++ (dce b x z b2 x2 z2 2 ++ dce b x z b2 x2 z2 3))))] (CondB.mk (fun h => absurd h (by simp)) (fun h => ?_)) ?_
  · (conv => whnf)
    exact V.wk
  refine V.r1 @jhI inp ?_
  refine Lp.of ⟨Nat, fun k => k ≤ 2, fun k => [(9, sl2 P.length B1), (10, sl2 Q.length B2), (11, .int .i64 (1 + O % 3)), (12, .int .i64 (1 + O2 % 3)), (13, sl2 (P.length + Q.length) (B1 ++ B2)), (110, .agg [sl2 n X1, sl2 n X2]), (111, .int .i64 (k : Nat))], fun _ => [], fun k => 2 - k, ⟨0, by omega, V.wk⟩, ?_⟩
  intro k hk
  have hk3 : k = 0 ∨ k = 1 ∨ k = 2 := by omega
  rcases hk3 with e | e | e
  all_goals subst e
  · dsimp only
    (conv => whnf)
    (try simp only [jhI])
    repeat ((fail_if_success (with_reducible refine Cnd.split ?_)); (first | refine V.s1 ?_ | ((try ((with_reducible refine .ext ?_); (conv => whnf); (try simp only [jhI]))); (with_reducible refine jaa (r := ?_) ?_ ?_); rotate_left; (focus (first | fail)); (conv => whnf))); (try simp only [jhI]))
    refine Cnd.yes (by decide) ?_
    rcases hr1 with ⟨h, i, hi, r1, r2, r3⟩ | ⟨u, v, hu, hv, r1, r2, r3⟩
    · (conv => whnf)
      (try simp only [jhI])
      repeat ((fail_if_success (with_reducible refine Cnd.split ?_)); (first | refine V.s1 ?_ | ((try ((with_reducible refine .ext ?_); (conv => whnf); (try simp only [jhI]))); (with_reducible refine jaa (r := ?_) ?_ ?_); rotate_left; (focus (first | exact r1 | exact r2 | exact r3)); (conv => whnf))); (try simp only [jhI]))
      refine Cnd.yes (by simp only [jhS, decide_eq_true_eq]; exact hi) ?_
      refine V.r0 @jhI ?_
      exact ⟨1, by omega, by omega, V.wk⟩
    · have e := eq_ff u v (by omega)
      have FU := fcs_f u
      have FV := fcs_f v
      have FW := fcs_ff u v
      have hbU := beq0 hu.1
      have hbV := beq0 hv.1
      have hzU : Nat.ble u.length 1000000 = true := by rw [jh8]; omega
      have hzW : Nat.ble (u.length + v.length) 1000000 = true := by rw [jh8]; omega
      rw [show fL u = sl2 u.length (fcl u) from rfl] at r1
      rw [show fL v = sl2 v.length (fcl v) from rfl] at r2
      obtain ⟨U1, hU1⟩ : ∃ B, B = fcl u := ⟨_, rfl⟩
      obtain ⟨V1, hV1⟩ : ∃ B, B = fcl v := ⟨_, rfl⟩
      simp only [← hU1, ← hV1] at FU FV FW r1 r2 r3 e
      have hlU := FU.beq
      have hcU := FU.ca
      have hcV := FV.ca
      have puU := FU.pure
      have puV := FV.pure
      have frU := FU.fr
      have frW := FW.fr
      have pgU := FU.pg
      have boU := FU.bo
      have pbU := FU.pb
      have boW := FW.bo
      have pbW := FW.pb
      clear FU FV FW hU1 hV1
      (conv => whnf)
      (try simp only [jhI])
      repeat ((fail_if_success (with_reducible refine Cnd.split ?_)); (first | refine V.s1 ?_ | ((try ((with_reducible refine .ext ?_); (conv => whnf); (try simp only [jhI]))); (with_reducible refine jaa (r := ?_) ?_ ?_); rotate_left; (focus (first | exact r1 | exact r2 | exact r3)); (conv => whnf))); (try simp only [jhI]))
      refine Cnd.no (by decide) ?_
      (conv => whnf)
      (try simp only [jhx, hzU, frU])
      repeat ((first | refine V.s1 ?_ | ((try ((with_reducible refine .ext ?_); (conv => whnf); (try simp only [jhx, hzU, frU]))); (with_reducible refine jaa (r := ?_) ?_ ?_); rotate_left; (focus (first | fail)); (conv => whnf)) | ((((with_reducible refine .inl ?_); (conv => whnf); refine ⟨fun _ => rfl, ?_⟩; (conv => whnf); refine ⟨0, _, _, ⟨Tryz.func30, rfl, rfl, jhD rfl⟩, ?_⟩)); (conv => whnf)) | (((rewrite [hbU]; (conv => whnf))); (conv => whnf)) | (((rewrite [hcU]; (conv => whnf))); (conv => whnf)) | (((rewrite [puU]; (conv => whnf))); (conv => whnf)) | (((rewrite [boU]; (conv => whnf))); (conv => whnf)) | (((rewrite [pgU]; (conv => whnf))); (conv => whnf)) | (((rewrite [hlU]; (conv => whnf))); (conv => whnf)) | (((rewrite [hcV]; (conv => whnf))); (conv => whnf)) | (((rewrite [hbV]; (conv => whnf))); (conv => whnf)) | (((rewrite [puV]; (conv => whnf))); (conv => whnf)) | (((simp only [hzW, frW]; (conv => whnf))); (conv => whnf))); (try simp only [jhx, hzU, frU]))
      repeat (first | (rewrite [boW]; (conv => whnf)) | (rewrite [pbW]; (conv => whnf)) | (rewrite [pbU]; (conv => whnf)))
      refine ⟨.bool true, fun _ => ?_, ?_⟩
      · simp only [jhI]
        exact e
      refine V.r0 @jhI ?_
      exact ⟨1, by omega, by omega, V.wk⟩
  · dsimp only
    (conv => whnf)
    (try simp only [jhI])
    repeat ((fail_if_success (with_reducible refine Cnd.split ?_)); (first | refine V.s1 ?_ | ((try ((with_reducible refine .ext ?_); (conv => whnf); (try simp only [jhI]))); (with_reducible refine jaa (r := ?_) ?_ ?_); rotate_left; (focus (first | fail)); (conv => whnf))); (try simp only [jhI]))
    refine Cnd.yes (by decide) ?_
    rcases hr2 with ⟨h, i, hi, r1, r2, r3⟩ | ⟨u, v, hu, hv, r1, r2, r3⟩
    · (conv => whnf)
      (try simp only [jhI])
      repeat ((fail_if_success (with_reducible refine Cnd.split ?_)); (first | refine V.s1 ?_ | ((try ((with_reducible refine .ext ?_); (conv => whnf); (try simp only [jhI]))); (with_reducible refine jaa (r := ?_) ?_ ?_); rotate_left; (focus (first | exact r1 | exact r2 | exact r3)); (conv => whnf))); (try simp only [jhI]))
      refine Cnd.yes (by simp only [jhS, decide_eq_true_eq]; exact hi) ?_
      refine V.r0 @jhI ?_
      exact ⟨2, by omega, by omega, V.wk⟩
    · have e := eq_ff u v (by omega)
      have FU := fcs_f u
      have FV := fcs_f v
      have FW := fcs_ff u v
      have hbU := beq0 hu.1
      have hbV := beq0 hv.1
      have hzU : Nat.ble u.length 1000000 = true := by rw [jh8]; omega
      have hzW : Nat.ble (u.length + v.length) 1000000 = true := by rw [jh8]; omega
      rw [show fL u = sl2 u.length (fcl u) from rfl] at r1
      rw [show fL v = sl2 v.length (fcl v) from rfl] at r2
      obtain ⟨U1, hU1⟩ : ∃ B, B = fcl u := ⟨_, rfl⟩
      obtain ⟨V1, hV1⟩ : ∃ B, B = fcl v := ⟨_, rfl⟩
      simp only [← hU1, ← hV1] at FU FV FW r1 r2 r3 e
      have hlU := FU.beq
      have hcU := FU.ca
      have hcV := FV.ca
      have puU := FU.pure
      have puV := FV.pure
      have frU := FU.fr
      have frW := FW.fr
      have pgU := FU.pg
      have boU := FU.bo
      have pbU := FU.pb
      have boW := FW.bo
      have pbW := FW.pb
      clear FU FV FW hU1 hV1
      (conv => whnf)
      (try simp only [jhI])
      repeat ((fail_if_success (with_reducible refine Cnd.split ?_)); (first | refine V.s1 ?_ | ((try ((with_reducible refine .ext ?_); (conv => whnf); (try simp only [jhI]))); (with_reducible refine jaa (r := ?_) ?_ ?_); rotate_left; (focus (first | exact r1 | exact r2 | exact r3)); (conv => whnf))); (try simp only [jhI]))
      refine Cnd.no (by decide) ?_
      (conv => whnf)
      (try simp only [jhx, hzU, frU])
      repeat ((first | refine V.s1 ?_ | ((try ((with_reducible refine .ext ?_); (conv => whnf); (try simp only [jhx, hzU, frU]))); (with_reducible refine jaa (r := ?_) ?_ ?_); rotate_left; (focus (first | fail)); (conv => whnf)) | ((((with_reducible refine .inl ?_); (conv => whnf); refine ⟨fun _ => rfl, ?_⟩; (conv => whnf); refine ⟨0, _, _, ⟨Tryz.func30, rfl, rfl, jhD rfl⟩, ?_⟩)); (conv => whnf)) | (((rewrite [hbU]; (conv => whnf))); (conv => whnf)) | (((rewrite [hcU]; (conv => whnf))); (conv => whnf)) | (((rewrite [puU]; (conv => whnf))); (conv => whnf)) | (((rewrite [boU]; (conv => whnf))); (conv => whnf)) | (((rewrite [pgU]; (conv => whnf))); (conv => whnf)) | (((rewrite [hlU]; (conv => whnf))); (conv => whnf)) | (((rewrite [hcV]; (conv => whnf))); (conv => whnf)) | (((rewrite [hbV]; (conv => whnf))); (conv => whnf)) | (((rewrite [puV]; (conv => whnf))); (conv => whnf)) | (((simp only [hzW, frW]; (conv => whnf))); (conv => whnf))); (try simp only [jhx, hzU, frU]))
      repeat (first | (rewrite [boW]; (conv => whnf)) | (rewrite [pbW]; (conv => whnf)) | (rewrite [pbU]; (conv => whnf)))
      refine ⟨.bool true, fun _ => ?_, ?_⟩
      · simp only [jhI]
        exact e
      refine V.r0 @jhI ?_
      exact ⟨2, by omega, by omega, V.wk⟩
  · dsimp only
    refine V.r0 @jhI ?_
    exact Fin.of rfl
def th (n:Int):Rat:=Rat.divInt n 1000
theorem fq_th {n:Int}(h : -32768≤n∧n≤32768):Fq 20 (th n):=jdt (by omega) (by omega)
section
variable {a b : Rat}
end
inductive All2 {α β : Type} (R : α → β → Prop) : List α → List β → Prop
  | nil : All2 R [] []
  | cons {a : α} {b : β} {l : List α} {m : List β} (h : R a b) (t : All2 R l m) : All2 R (a :: l) (b :: m)
theorem All2.len {α β:Type}{R:α→β→Prop}{l:List α}{m:List β}(h:All2 R l m):l.length=m.length:=by
 induction h with
 | nil=>rfl
 | cons _ _ ih=>simp[ih]
theorem All2.app {α β:Type}{R:α→β→Prop}{l l2:List α}{m m2:List β}(h:All2 R l m)(g:All2 R l2 m2):All2 R (l++l2) (m++m2):=by
 induction h with
 | nil=>exact g
 | cons h _ ih=>exact .cons h ih
theorem All2.take {α β:Type}{R:α→β→Prop}{l:List α}{m:List β}(h:All2 R l m):∀ n,All2 R (l.take n) (m.take n):=by
 induction h with
 | nil=>intro n;simp;exact .nil
 | cons h _ ih=>intro n;cases n with
  | zero=>exact .nil
  | succ n=>exact .cons h (ih n)
theorem All2.drop {α β:Type}{R:α→β→Prop}{l:List α}{m:List β}(h:All2 R l m):∀ n,All2 R (l.drop n) (m.drop n):=by
 induction h with
 | nil=>intro n;simp;exact .nil
 | cons h t ih=>intro n;cases n with
  | zero=>exact .cons h t
  | succ n=>exact ih n
theorem All2.get {α β:Type}{R:α→β→Prop}{l:List α}{m:List β}(h:All2 R l m)(a:α)(b:β):∀ i,i<l.length→R (l.getD i a) (m.getD i b):=by
 induction h with
 | nil=>intro i hi;simp at hi
 | cons h t ih=>intro i hi;cases i with
  | zero=>exact h
  | succ i=>exact ih i (by simpa using hi)
theorem All2.one {α β:Type}{R:α→β→Prop}{t:List α}{s:List β}(h:All2 R t s)(hl:t.length=1):∃ u u',t=[u]∧s=[u']∧R u u':=by
 match h,hl with
 | @All2.cons _ _ _ u u' _ _ hu .nil,_=>exact⟨u,u',rfl,rfl,hu⟩
theorem All2.two {α β:Type}{R:α→β→Prop}{t:List α}{s:List β}(h:All2 R t s)(hl:t.length=2):∃ u u' v v',t=[u,v]∧s=[u',v']∧R u u'∧R v v':=by
 match h,hl with
 | @All2.cons _ _ _ u u' _ _ hu (@All2.cons _ _ _ v v' _ _ hv .nil),_=>exact⟨u,u',v,v',rfl,rfl,hu,hv⟩
theorem getD_bd {xs:List Int}(hb:∀ x∈xs, -32768≤x∧x≤32767)(i:Nat) : -32768≤xs.getD i 0∧xs.getD i 0≤32767:=by
 rw[jia]
 rcases jhR i xs.length with h|h
 ·rw[jid h];exact hb _ (List.getElem_mem h)
 ·rw[List.getElem?_eq_none h];simp
theorem fin_r {a b:D}(F:Fin a b)(e:Int):Fin (.tup [a,.int .i64 e]) (.tup [b,.int .i64 e]):=Fin.tup (show FinL [a,.int .i64 e] [b,.int .i64 e] from ⟨F,Fin.same _,trivial⟩)
theorem jcs (b:D):Fin .any b:=⟨fun _ _ _=>by simp[Den]⟩
theorem oL_app (p q:List (Int×Int)):oL (p++q)=sl2 (p.length+q.length) (bcl p++bcl q):=by
 show sl2 (p++q).length (bcl (p++q))=_
 rw[ja5,jie]
theorem fL_app (p q:List Rat):fL (p++q)=sl2 (p.length+q.length) (fcl p++fcl q):=by
 show sl2 (p++q).length (fcl (p++q))=_
 rw[jdF,jie]
theorem rows_h {P Q:List (Int×Int)}{XQ:List Rat}{o m a b:Int}(hp:surv P XQ.length o=some a)(hq:surv Q XQ.length m=some b)(h4:o+m≤4)(h40:(P++Q).length≤40)(h16:o+b≤16)(okx:∀ q∈XQ,okF q=true) :
  (∃ h i:Int,(h≠0∨i≠0)∧Cl 20 [oL P,fL XQ,.int .i64 o] (.tup [.any,.int .i64 h])∧Cl 20 [oL Q,fL XQ,.int .i64 m] (.tup [.any,.int .i64 i])∧Cl 20 [sl2 (P.length+Q.length) (bcl P++bcl Q),fL XQ,.int .i64 (o+m)] (.tup [.any,.int .i64 6])) ∨
  (∃ u v:List Rat,(0<u.length∧u.length≤4)∧(0<v.length∧v.length≤4)∧Cl 20 [oL P,fL XQ,.int .i64 o] (.tup [fL u,.int .i64 0])∧Cl 20 [oL Q,fL XQ,.int .i64 m] (.tup [fL v,.int .i64 0])∧Cl 20 [sl2 (P.length+Q.length) (bcl P++bcl Q),fL XQ,.int .i64 (o+m)] (.tup [sl2 (u.length+v.length) (fcl u++fcl v),.int .i64 0])):=by
 have c1:=run_o P XQ o a okx hp
 have c2:=run_o Q XQ m b okx hq
 have c3:=run_o (P++Q) XQ (o+m) _ okx (jf3 hp hq h4 h40 h16)
 rw[rn_rows hq,oL_app] at c3
 have b1:=(jbX hp).1
 have b2:=(jbX hq).1
 cases e1:rnM mF XQ P [] with
 | error e=>
  obtain rfl:=rnF_e P e1
  rw[e1] at c1 c3
  refine .inl ?_
  cases e2:rnM mF XQ Q [] with
  | error e=>rw[e2] at c2;exact⟨6,e,.inl (by decide),c1.fin (fin_r (jcs _) 6),c2.fin (fin_r (jcs _) e),c3.fin (fin_r (jcs _) 6)⟩
  | ok v=>rw[e2] at c2;exact⟨6,0,.inl (by decide),c1.fin (fin_r (jcs _) 6),c2.fin (fin_r (jcs _) 0),c3.fin (fin_r (jcs _) 6)⟩
 | ok u=>
  rw[e1] at c1 c3
  cases e2:rnM mF XQ Q [] with
  | error e=>
   obtain rfl:=rnF_e Q e2
   rw[e2] at c2 c3
   exact .inl ⟨0,6,.inr (by decide),c1.fin (fin_r (jcs _) 0),c2.fin (fin_r (jcs _) 6),c3.fin (fin_r (jcs _) 6)⟩
  | ok v=>
   rw[e2] at c2 c3
   have l1:=surv_len hp e1
   have l2:=surv_len hq e2
   refine .inr ⟨u,v,by omega,by omega,c1,c2,?_⟩
   have c3:Cl 20 [sl2 (P.length+Q.length) (bcl P++bcl Q),fL XQ,.int .i64 (o+m)] (.tup [fL (u++v),.int .i64 0]):=c3
   rw[fL_app] at c3
   exact c3
theorem surv_no {p:List (Int×Int)}{i o:Int}(h:4<o∨40<p.length):surv p i o=none:=by
 unfold surv
 rw[if_neg (by omega)]
theorem rows_c (I O I2 O2 : Int) (l l2 : List (Int × Int)) (at_ : List Int) (b b2 : Nat → Bool) (x x2 : Nat → List Int) (z z2 : Nat → Int) (hI : 0 ≤ I ∧ I ≤ 255) (hO : 0 ≤ O ∧ O ≤ 255) (hO2 : 0 ≤ O2 ∧ O2 ≤ 255)
    (hl : ∀ s ∈ l, (0 ≤ s.1 ∧ s.1 ≤ 255) ∧ -32768 ≤ s.2 ∧ s.2 ≤ 32767) (hlen : l.length ≤ 281474976710656) (hl2 : ∀ s ∈ l2, (0 ≤ s.1 ∧ s.1 ≤ 255) ∧ -32768 ≤ s.2 ∧ s.2 ≤ 32767) (hlen2 : l2.length ≤ 281474976710656)
    (hat : at_.length = 4) (hab : ∀ v ∈ at_, -32768 ≤ v ∧ v ≤ 32767) (hz : ∀ i, 0 ≤ z i ∧ z i ≤ 65535) (hz2 : ∀ i, 0 ≤ z2 i ∧ z2 i ≤ 65535) :
    Cl 5 [drD I O l, drD I2 O2 l2, .iarr .i16 at_, .agg (dce b x z b2 x2 z2 0 ++ (dce b x z b2 x2 z2 1 ++ (dce b x z b2 x2 z2 2 ++ dce b x z b2 x2 z2 3)))] (.bool true) := by
  have pr := jgb I O l hI hO hl hlen
  have qr := jgb I O2 l2 hI hO2 hl2 hlen2
  have co := jg9 I O l hO
  have co2 := jg9 I O2 l2 hO2
  have ci := dins_c I O l hI
  obtain ⟨⟨a, hs, ha9⟩, hPl⟩ := jgv (ins := 1 + I % 3) (o := 1 + O % 3) (by omega) (by omega) l (fun s h => (hl s h).2)
  obtain ⟨⟨a2, hs2, ha92⟩, hQl⟩ := jgv (ins := 1 + I % 3) (o := 1 + O2 % 3) (by omega) (by omega) l2 (fun s h => (hl2 s h).2)
  generalize dprog (1 + I % 3) (1 + O % 3) l = P at *
  generalize dprog (1 + I % 3) (1 + O2 % 3) l2 = Q at *
  have nonemp : ∀ {p : List (Int × Int)} {i o d : Int}, surv p i o = some d → 0 < p.length := fun {p i o d} h => by
    cases p with
    | nil =>
      have h2 := jbX h
      have h3 : ((0 : Int), (0 : Int)) = (o, d) := Option.some.inj h2.2
      have h4 := congrArg Prod.fst h3
      simp only at h4
      omega
    | cons q p => simp
  have dge : ∀ {p : List (Int × Int)} {i o d : Int}, surv p i o = some d → 0 ≤ d := fun {p i o d} h => (jdV (jbX h).2 (Int.le_refl _)).1
  have th_ok : ∀ i, okF (th (at_.getD i 0)) = true := fun i => (fq_th (by have := getD_bd hab i; omega)).ok (by omega) (by omega)
  have oc : ∀ i, Cl 12 [.int .i64 (at_.getD i 0), .int .i64 1000] (.agg [.str (decZ (th (at_.getD i 0)).num), .str (dec (th (at_.getD i 0)).den)]) := fun i => jdf (by have := getD_bd hab i; omega) (by omega)
  obtain ⟨q, hq⟩ := Classical.axiomOfChoice (fun i => dfrac_c (b i) (x i) (z i) (b2 i) (x2 i) (z2 i) (hz i) (hz2 i))
  have inp := inputs_c I O l at_ (1 + I % 3).toNat b b2 x x2 z z2 (fun i => (decZ (th (at_.getD i 0)).num, dec (th (at_.getD i 0)).den)) (fun i => (decZ (q i).num, dec (q i).den)) hI (by omega) hat hab oc (fun i => (hq i).2)
  have dp := jfR P (1 + I % 3) (1 + O % 3)
  have dq := jfR Q (1 + I % 3) (1 + O2 % 3)
  rw [hs] at dp
  rw [hs2] at dq
  have hr : ∀ XQ : List Rat, ((XQ.length : Nat) : Int) = 1 + I % 3 → (∀ q ∈ XQ, okF q = true) → ¬ (4 < 1 + O % 3 + (1 + O2 % 3) ∨ 40 < P.length + Q.length) → _ := fun XQ hX okX hc => rows_h (P := P) (Q := Q) (XQ := XQ) (o := 1 + O % 3) (m := 1 + O2 % 3) (a := a) (b := a2) (by rw [hX]; exact hs) (by rw [hX]; exact hs2) (by omega) (by rw [jie]; omega) (by omega) okX
  refine rows_w I O I2 O2 l l2 P Q at_ b b2 x x2 z z2 (1 + I % 3).toNat _ _ a a2 hI hO hO2 hat ⟨nonemp hs, hPl⟩ ⟨nonemp hs2, hQl⟩ ⟨⟨dge hs, by omega⟩, dge hs2, by omega⟩ pr qr co co2 ci inp (fun hc => ?_) dp dq (fun hc => ?_) (fun hc => ?_) (fun hc => ?_)
  · have c := check_o (P ++ Q) (1 + I % 3) (1 + O % 3 + (1 + O2 % 3))
    rw [surv_no (by rw [jie]; exact hc), oL_app] at c
    exact c
  · have c := jfR (P ++ Q) (1 + I % 3) (1 + O % 3 + (1 + O2 % 3))
    rw [jf3 hs hs2 (by omega) (by rw [jie]; omega) (by omega), oL_app] at c
    exact c
  · have h3 : I % 3 = 0 ∨ I % 3 = 1 ∨ I % 3 = 2 := by omega
    rcases h3 with h3 | h3 | h3
    · rw [h3]; exact hr [th (at_.getD 0 0)] (by rw [h3]; rfl) (fun r hr => by
        simp only [jic, List.not_mem_nil, or_false] at hr
        rcases hr with rfl <;> exact th_ok _) hc
    · rw [h3]; exact hr [th (at_.getD 0 0), th (at_.getD 1 0)] (by rw [h3]; rfl) (fun r hr => by
        simp only [jic, List.not_mem_nil, or_false] at hr
        rcases hr with rfl | rfl <;> exact th_ok _) hc
    · rw [h3]; exact hr [th (at_.getD 0 0), th (at_.getD 1 0), th (at_.getD 2 0)] (by rw [h3]; rfl) (fun r hr => by
        simp only [jic, List.not_mem_nil, or_false] at hr
        rcases hr with rfl | rfl | rfl <;> exact th_ok _) hc
  · have h3 : I % 3 = 0 ∨ I % 3 = 1 ∨ I % 3 = 2 := by omega
    have qo := fun i => (hq i).1
    rcases h3 with h3 | h3 | h3
    · rw [h3]; exact hr [q 0] (by rw [h3]; rfl) (fun r hr => by
        simp only [jic, List.not_mem_nil, or_false] at hr
        rcases hr with rfl <;> exact qo _) hc
    · rw [h3]; exact hr [q 0, q 1] (by rw [h3]; rfl) (fun r hr => by
        simp only [jic, List.not_mem_nil, or_false] at hr
        rcases hr with rfl | rfl <;> exact qo _) hc
    · rw [h3]; exact hr [q 0, q 1, q 2] (by rw [h3]; rfl) (fun r hr => by
        simp only [jic, List.not_mem_nil, or_false] at hr
        rcases hr with rfl | rfl | rfl <;> exact qo _) hc
end Go.Proofs.YtpkdedncgclblaaGreatDoor
end
