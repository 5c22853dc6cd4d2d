/- What functions of the program answer at given values, part 17. Conditions: those that each theorem names. -/
import Derived.Test.YtpkdedncgclblaaGreatDoorProgramBandsH16
import Derived.Test.YtpkdedncgclblaaGreatDoorProgramBandsH14
import Derived.Test.YtpkdedncgclblaaGreatDoorProgramBandsH11
import Derived.Test.YtpkdedncgclblaaGreatDoorProgramBandsH13
import Derived.Test.YtpkdedncgclblaaGreatDoorProgramBandsH15
import Derived.Test.YtpkdedncgclblaaGreatDoorProgramBandsH6
set_option linter.unusedSimpArgs false
set_option linter.unusedVariables false
set_option maxHeartbeats 8000000
set_option maxRecDepth 100000
section
namespace Go.Proofs.YtpkdedncgclblaaGreatDoor
open Go Go.V Go.Nb
def stB (x l:List (Int×Int))(o:Int×Int):(Int×Int)×Int:=
 if o.1=1 then (x.getD o.2.toNat (0,0),0) else if o.1=2 then (mB.num o.2,0) else if o.1=11 then (l.getD (l.length-1-o.2.toNat) (0,0),0) else mB.op o.1 (l.drop (l.length-(tkn o.1).toNat))
theorem jhk {α:Type}(l:List α)(d:α)(h:1≤l.length):l.drop (l.length-1)=[l.getD (l.length-1) d]:=by
 rw[List.drop_eq_getElem_cons (by omega),ji5,ji8 (by omega),jjs (by omega)]
 rfl
theorem je8 {α:Type}(l:List α)(d:α)(h:2≤l.length):l.drop (l.length-2)=[l.getD (l.length-2) d,l.getD (l.length-1) d]:=by
 rw[List.drop_eq_getElem_cons (by omega),ji5,ji8 (by omega),show l.length-2+1=l.length-1 by omega,jhk l d (by omega)]
 rfl
theorem drop_3 {α:Type}(l:List α)(d:α)(h:3≤l.length):l.drop (l.length-3)=[l.getD (l.length-3) d,l.getD (l.length-2) d,l.getD (l.length-1) d]:=by
 rw[List.drop_eq_getElem_cons (by omega),ji5,ji8 (by omega),show l.length-3+1=l.length-2 by omega,je8 l d (by omega)]
 rfl
theorem unit_c (p q:Int):Cl 140 [bA p q] (bA (min (max p 0) 1000000000000) (min (max q 0) 1000000000000)):=by
 unfold bA
 refine V.en tbOk Tryz.func140 ?_
 (conv=>whnf)
 (conv=>whnf)
 (try simp only[])
 repeat ((first|refine V.s1 ?_);(try simp only[]))
 exact Fin.of rfl
abbrev stD (r:(Int×Int)×Int):D := .tup [.agg [.int .i64 r.1.1,.int .i64 r.1.2],.int .i64 r.2]
theorem ok_at {l:List (Int×Int)}(okl:∀ b∈l,okB b){k:Nat}(h:k<l.length):vb (l.getD k (0,0)).1 (l.getD k (0,0)).2=true:=by
 rw[ji5,ji8 h]
 exact okl _ (ji9 h)
theorem rof12_c {n m:Int}(hn : -9223372036854775807≤n∧n≤9223372036854775807)(hm:1≤m∧m≤9223372036854775807):Cl 129 [.int .i64 n,.int .i64 m] (frT (Rat.divInt n m)):=by
 have c:=y_rof hn hm
 unfold frT at *
 generalize Rat.divInt n m=q at *
 refine V.en tbOk Tryz.func129 ?_
 (conv=>whnf)
 refine V.st ?_
 repeat ((try ((with_reducible refine .ext ?_);(conv=>whnf)));(with_reducible refine jaa (r:=?_) ?_ ?_);rotate_left;(focus (first|exact(c)));(conv=>whnf);refine V.st ?_)
 exact Fin.of rfl
theorem rst_8 (x l:List (Int×Int))(a:Int)(hl:l.length≤40)(okl:∀ b∈l,okB b)(ht:1≤l.length):Cl 65 [.agg [.int .i64 8,.int .i64 a],inB x,inB l] (stD (stB x l (8,a))):=by
 have hs:stB x l (8,a)=prB (mk (0-(l.getD (l.length-1) (0,0)).2) (0-(l.getD (l.length-1) (0,0)).1)):=by
  show mB.op 8 (l.drop (l.length-1))=_
  rw[jhk l (0,0) ht]
  rfl
 rw[hs]
 have hv:=ok_at okl (k:=l.length-1) (by omega)
 have e1:((l.length:Int)-1).toNat=l.length-1:=by omega
 obtain⟨u,hu⟩:∃ u,u=l.getD (l.length-1) (0,0):=⟨_,rfl⟩
 simp only[← hu] at hv ⊢
 have k:=neg_r u.1 u.2
 rw[if_pos hv] at k
 obtain⟨R,hR⟩:∃ R:Int×Int×Int,R=mk (0-u.2) (0-u.1):=⟨_,rfl⟩
 rw[← hR] at k ⊢
 have k:Cl 138 [.agg [.int .i64 u.1,.int .i64 u.2]] (.tup [.agg [.int .i64 R.1,.int .i64 R.2.1],.int .i64 R.2.2]):=k
 refine V.en tbOk Tryz.func65 ?_
 (conv=>whnf)
 (conv=>whnf)
 (try simp only[e1,← hu])
 repeat ((first|refine V.s1 ?_|((try ((with_reducible refine .ext ?_);(conv=>whnf);(try simp only[e1,← hu])));(with_reducible refine jaa (r:=?_) ?_ ?_);rotate_left;(focus (first|exact(k)));(conv=>whnf)));(try simp only[e1,← hu]))
 exact Fin.of rfl
theorem rst_9 (x l:List (Int×Int))(a:Int)(hl:l.length≤40)(okl:∀ b∈l,okB b)(ht:1≤l.length):Cl 65 [.agg [.int .i64 9,.int .i64 a],inB x,inB l] (stD (stB x l (9,a))):=by
 have hs:stB x l (9,a)=prB (mk (max (max (l.getD (l.length-1) (0,0)).1 (0-(l.getD (l.length-1) (0,0)).2)) 0) (max (0-(l.getD (l.length-1) (0,0)).1) (l.getD (l.length-1) (0,0)).2)):=by
  show mB.op 9 (l.drop (l.length-1))=_
  rw[jhk l (0,0) ht]
  rfl
 rw[hs]
 have hv:=ok_at okl (k:=l.length-1) (by omega)
 have e1:((l.length:Int)-1).toNat=l.length-1:=by omega
 obtain⟨u,hu⟩:∃ u,u=l.getD (l.length-1) (0,0):=⟨_,rfl⟩
 simp only[← hu] at hv ⊢
 have k:=abs_r u.1 u.2
 rw[if_pos hv] at k
 obtain⟨R,hR⟩:∃ R:Int×Int×Int,R=mk (max (max u.1 (0-u.2)) 0) (max (0-u.1) u.2):=⟨_,rfl⟩
 rw[← hR] at k ⊢
 have k:Cl 139 [.agg [.int .i64 u.1,.int .i64 u.2]] (.tup [.agg [.int .i64 R.1,.int .i64 R.2.1],.int .i64 R.2.2]):=k
 refine V.en tbOk Tryz.func65 ?_
 (conv=>whnf)
 (conv=>whnf)
 (try simp only[e1,← hu])
 repeat ((first|refine V.s1 ?_|((try ((with_reducible refine .ext ?_);(conv=>whnf);(try simp only[e1,← hu])));(with_reducible refine jaa (r:=?_) ?_ ?_);rotate_left;(focus (first|exact(k)));(conv=>whnf)));(try simp only[e1,← hu]))
 exact Fin.of rfl
theorem rst_3 (x l:List (Int×Int))(a:Int)(hl:l.length≤40)(okl:∀ b∈l,okB b)(ht:2≤l.length):Cl 65 [.agg [.int .i64 3,.int .i64 a],inB x,inB l] (stD (stB x l (3,a))):=by
 have hs:stB x l (3,a)=prB (mk ((l.getD (l.length-2) (0,0)).1+(l.getD (l.length-1) (0,0)).1) ((l.getD (l.length-2) (0,0)).2+(l.getD (l.length-1) (0,0)).2)):=by
  show mB.op 3 (l.drop (l.length-2))=_
  rw[je8 l (0,0) ht]
  rfl
 rw[hs]
 have hu':=ok_at okl (k:=l.length-2) (by omega)
 have hv':=ok_at okl (k:=l.length-1) (by omega)
 have e1:((l.length:Int)-1).toNat=l.length-1:=by omega
 have e2:((l.length:Int)-2).toNat=l.length-2:=by omega
 obtain⟨u,hu⟩:∃ u,u=l.getD (l.length-2) (0,0):=⟨_,rfl⟩
 obtain⟨v,hv⟩:∃ v,v=l.getD (l.length-1) (0,0):=⟨_,rfl⟩
 simp only[← hu,← hv] at hu' hv' ⊢
 have k:=add_r u.1 u.2 v.1 v.2
 rw[if_pos ⟨hu',hv'⟩] at k
 obtain⟨R,hR⟩:∃ R:Int×Int×Int,R=mk (u.1+v.1) (u.2+v.2):=⟨_,rfl⟩
 rw[← hR] at k ⊢
 have k:Cl 141 [.agg [.int .i64 u.1,.int .i64 u.2],.agg [.int .i64 v.1,.int .i64 v.2]] (.tup [.agg [.int .i64 R.1,.int .i64 R.2.1],.int .i64 R.2.2]):=k
 refine V.en tbOk Tryz.func65 ?_
 (conv=>whnf)
 (conv=>whnf)
 (try simp only[])
 repeat ((first|refine V.s1 ?_);(try simp only[]))
 refine⟨Pq6z,[],V.pok,.go (jab ?_)⟩
 (conv=>whnf)
 (try simp only[e1,e2,← hu,← hv])
 repeat ((first|refine V.s1 ?_|((try ((with_reducible refine .ext ?_);(conv=>whnf);(try simp only[e1,e2,← hu,← hv])));(with_reducible refine jaa (r:=?_) ?_ ?_);rotate_left;(focus (first|exact(k)));(conv=>whnf)));(try simp only[e1,e2,← hu,← hv]))
 exact Fin.of rfl
theorem rst_4 (x l:List (Int×Int))(a:Int)(hl:l.length≤40)(okl:∀ b∈l,okB b)(ht:2≤l.length):Cl 65 [.agg [.int .i64 4,.int .i64 a],inB x,inB l] (stD (stB x l (4,a))):=by
 have hs:stB x l (4,a)=prB (mk ((l.getD (l.length-2) (0,0)).1-(l.getD (l.length-1) (0,0)).2) ((l.getD (l.length-2) (0,0)).2-(l.getD (l.length-1) (0,0)).1)):=by
  show mB.op 4 (l.drop (l.length-2))=_
  rw[je8 l (0,0) ht]
  rfl
 rw[hs]
 have hu':=ok_at okl (k:=l.length-2) (by omega)
 have hv':=ok_at okl (k:=l.length-1) (by omega)
 have e1:((l.length:Int)-1).toNat=l.length-1:=by omega
 have e2:((l.length:Int)-2).toNat=l.length-2:=by omega
 obtain⟨u,hu⟩:∃ u,u=l.getD (l.length-2) (0,0):=⟨_,rfl⟩
 obtain⟨v,hv⟩:∃ v,v=l.getD (l.length-1) (0,0):=⟨_,rfl⟩
 simp only[← hu,← hv] at hu' hv' ⊢
 have k:=sub_r u.1 u.2 v.1 v.2
 rw[if_pos ⟨hu',hv'⟩] at k
 obtain⟨R,hR⟩:∃ R:Int×Int×Int,R=mk (u.1-v.2) (u.2-v.1):=⟨_,rfl⟩
 rw[← hR] at k ⊢
 have k:Cl 142 [.agg [.int .i64 u.1,.int .i64 u.2],.agg [.int .i64 v.1,.int .i64 v.2]] (.tup [.agg [.int .i64 R.1,.int .i64 R.2.1],.int .i64 R.2.2]):=k
 refine V.en tbOk Tryz.func65 ?_
 (conv=>whnf)
 (conv=>whnf)
 (try simp only[])
 repeat ((first|refine V.s1 ?_);(try simp only[]))
 refine⟨Pq6z,[],V.pok,.go (jab ?_)⟩
 (conv=>whnf)
 (try simp only[e1,e2,← hu,← hv])
 repeat ((first|refine V.s1 ?_|((try ((with_reducible refine .ext ?_);(conv=>whnf);(try simp only[e1,e2,← hu,← hv])));(with_reducible refine jaa (r:=?_) ?_ ?_);rotate_left;(focus (first|exact(k)));(conv=>whnf)));(try simp only[e1,e2,← hu,← hv]))
 exact Fin.of rfl
theorem rst_5 (x l:List (Int×Int))(a:Int)(hl:l.length≤40)(okl:∀ b∈l,okB b)(ht:2≤l.length):Cl 65 [.agg [.int .i64 5,.int .i64 a],inB x,inB l] (stD (stB x l (5,a))):=by
 have hs:stB x l (5,a)=prB (mulR (l.getD (l.length-2) (0,0)).1 (l.getD (l.length-2) (0,0)).2 (l.getD (l.length-1) (0,0)).1 (l.getD (l.length-1) (0,0)).2):=by
  show mB.op 5 (l.drop (l.length-2))=_
  rw[je8 l (0,0) ht]
  rfl
 rw[hs]
 have hu':=ok_at okl (k:=l.length-2) (by omega)
 have hv':=ok_at okl (k:=l.length-1) (by omega)
 have e1:((l.length:Int)-1).toNat=l.length-1:=by omega
 have e2:((l.length:Int)-2).toNat=l.length-2:=by omega
 obtain⟨u,hu⟩:∃ u,u=l.getD (l.length-2) (0,0):=⟨_,rfl⟩
 obtain⟨v,hv⟩:∃ v,v=l.getD (l.length-1) (0,0):=⟨_,rfl⟩
 simp only[← hu,← hv] at hu' hv' ⊢
 have k:=mul_r u.1 u.2 v.1 v.2
 rw[if_pos ⟨hu',hv'⟩] at k
 obtain⟨R,hR⟩:∃ R:Int×Int×Int,R=mulR u.1 u.2 v.1 v.2:=⟨_,rfl⟩
 rw[← hR] at k ⊢
 have k:Cl 143 [.agg [.int .i64 u.1,.int .i64 u.2],.agg [.int .i64 v.1,.int .i64 v.2]] (.tup [.agg [.int .i64 R.1,.int .i64 R.2.1],.int .i64 R.2.2]):=k
 refine V.en tbOk Tryz.func65 ?_
 (conv=>whnf)
 (conv=>whnf)
 (try simp only[])
 repeat ((first|refine V.s1 ?_);(try simp only[]))
 refine⟨Pq6z,[],V.pok,.go (jab ?_)⟩
 (conv=>whnf)
 (try simp only[e1,e2,← hu,← hv])
 repeat ((first|refine V.s1 ?_|((try ((with_reducible refine .ext ?_);(conv=>whnf);(try simp only[e1,e2,← hu,← hv])));(with_reducible refine jaa (r:=?_) ?_ ?_);rotate_left;(focus (first|exact(k)));(conv=>whnf)));(try simp only[e1,e2,← hu,← hv]))
 exact Fin.of rfl
theorem rst_6 (x l:List (Int×Int))(a:Int)(hl:l.length≤40)(okl:∀ b∈l,okB b)(ht:2≤l.length):Cl 65 [.agg [.int .i64 6,.int .i64 a],inB x,inB l] (stD (stB x l (6,a))):=by
 have hs:stB x l (6,a)=prB ((min (l.getD (l.length-2) (0,0)).1 (l.getD (l.length-1) (0,0)).1,min (l.getD (l.length-2) (0,0)).2 (l.getD (l.length-1) (0,0)).2,0)):=by
  show mB.op 6 (l.drop (l.length-2))=_
  rw[je8 l (0,0) ht]
  rfl
 rw[hs]
 have hu':=ok_at okl (k:=l.length-2) (by omega)
 have hv':=ok_at okl (k:=l.length-1) (by omega)
 have e1:((l.length:Int)-1).toNat=l.length-1:=by omega
 have e2:((l.length:Int)-2).toNat=l.length-2:=by omega
 obtain⟨u,hu⟩:∃ u,u=l.getD (l.length-2) (0,0):=⟨_,rfl⟩
 obtain⟨v,hv⟩:∃ v,v=l.getD (l.length-1) (0,0):=⟨_,rfl⟩
 simp only[← hu,← hv] at hu' hv' ⊢
 have k:=min_r u.1 u.2 v.1 v.2
 rw[if_pos ⟨hu',hv'⟩] at k
 obtain⟨R,hR⟩:∃ R:Int×Int×Int,R=(min u.1 v.1,min u.2 v.2,0):=⟨_,rfl⟩
 rw[← hR] at k ⊢
 have k:Cl 144 [.agg [.int .i64 u.1,.int .i64 u.2],.agg [.int .i64 v.1,.int .i64 v.2]] (.tup [.agg [.int .i64 R.1,.int .i64 R.2.1],.int .i64 R.2.2]):=k
 refine V.en tbOk Tryz.func65 ?_
 (conv=>whnf)
 (conv=>whnf)
 (try simp only[])
 repeat ((first|refine V.s1 ?_);(try simp only[]))
 refine⟨Pq6z,[],V.pok,.go (jab ?_)⟩
 (conv=>whnf)
 (try simp only[e1,e2,← hu,← hv])
 repeat ((first|refine V.s1 ?_|((try ((with_reducible refine .ext ?_);(conv=>whnf);(try simp only[e1,e2,← hu,← hv])));(with_reducible refine jaa (r:=?_) ?_ ?_);rotate_left;(focus (first|exact(k)));(conv=>whnf)));(try simp only[e1,e2,← hu,← hv]))
 exact Fin.of rfl
theorem rst_7 (x l:List (Int×Int))(a:Int)(hl:l.length≤40)(okl:∀ b∈l,okB b)(ht:2≤l.length):Cl 65 [.agg [.int .i64 7,.int .i64 a],inB x,inB l] (stD (stB x l (7,a))):=by
 have hs:stB x l (7,a)=prB ((max (l.getD (l.length-2) (0,0)).1 (l.getD (l.length-1) (0,0)).1,max (l.getD (l.length-2) (0,0)).2 (l.getD (l.length-1) (0,0)).2,0)):=by
  show mB.op 7 (l.drop (l.length-2))=_
  rw[je8 l (0,0) ht]
  rfl
 rw[hs]
 have hu':=ok_at okl (k:=l.length-2) (by omega)
 have hv':=ok_at okl (k:=l.length-1) (by omega)
 have e1:((l.length:Int)-1).toNat=l.length-1:=by omega
 have e2:((l.length:Int)-2).toNat=l.length-2:=by omega
 obtain⟨u,hu⟩:∃ u,u=l.getD (l.length-2) (0,0):=⟨_,rfl⟩
 obtain⟨v,hv⟩:∃ v,v=l.getD (l.length-1) (0,0):=⟨_,rfl⟩
 simp only[← hu,← hv] at hu' hv' ⊢
 have k:=max_r u.1 u.2 v.1 v.2
 rw[if_pos ⟨hu',hv'⟩] at k
 obtain⟨R,hR⟩:∃ R:Int×Int×Int,R=(max u.1 v.1,max u.2 v.2,0):=⟨_,rfl⟩
 rw[← hR] at k ⊢
 have k:Cl 145 [.agg [.int .i64 u.1,.int .i64 u.2],.agg [.int .i64 v.1,.int .i64 v.2]] (.tup [.agg [.int .i64 R.1,.int .i64 R.2.1],.int .i64 R.2.2]):=k
 refine V.en tbOk Tryz.func65 ?_
 (conv=>whnf)
 (conv=>whnf)
 (try simp only[])
 repeat ((first|refine V.s1 ?_);(try simp only[]))
 refine⟨Pq6z,[],V.pok,.go (jab ?_)⟩
 (conv=>whnf)
 (try simp only[e1,e2,← hu,← hv])
 repeat ((first|refine V.s1 ?_|((try ((with_reducible refine .ext ?_);(conv=>whnf);(try simp only[e1,e2,← hu,← hv])));(with_reducible refine jaa (r:=?_) ?_ ?_);rotate_left;(focus (first|exact(k)));(conv=>whnf)));(try simp only[e1,e2,← hu,← hv]))
 exact Fin.of rfl
theorem rst_1 (x l:List (Int×Int))(a:Int)(h:0≤a∧a<x.length):Cl 65 [.agg [.int .i64 1,.int .i64 a],inB x,inB l] (stD (stB x l (1,a))):=by
 have hs:stB x l (1,a)=(x.getD a.toNat (0,0),0):=rfl
 rw[hs]
 refine V.en tbOk Tryz.func65 ?_
 (conv=>whnf)
 (conv=>whnf)
 (try simp only[])
 repeat ((first|refine V.s1 ?_);(try simp only[]))
 exact Fin.of rfl
theorem rst_11 (x l:List (Int×Int))(a:Int)(hl:l.length≤40)(h:0≤a∧a<l.length):Cl 65 [.agg [.int .i64 11,.int .i64 a],inB x,inB l] (stD (stB x l (11,a))):=by
 have hs:stB x l (11,a)=(l.getD (l.length-1-a.toNat) (0,0),0):=rfl
 rw[hs]
 have e:((l.length:Int)-1-a).toNat=l.length-1-a.toNat:=by omega
 refine V.en tbOk Tryz.func65 ?_
 refine V.r0 e ?_
 exact Fin.of rfl
theorem rst_12 (x l:List (Int×Int))(a:Int)(hl:l.length≤40)(ht:1≤l.length):Cl 65 [.agg [.int .i64 12,.int .i64 a],inB x,inB l] (stD (stB x l (12,a))):=by
 have hs:stB x l (12,a)=prB (min (max (l.getD (l.length-1) (0,0)).1 0) 1000000000000,min (max (l.getD (l.length-1) (0,0)).2 0) 1000000000000,0):=by
  show mB.op 12 (l.drop (l.length-1))=_
  rw[jhk l (0,0) ht]
  rfl
 rw[hs]
 have e1:((l.length:Int)-1).toNat=l.length-1:=by omega
 obtain⟨u,hu⟩:∃ u,u=l.getD (l.length-1) (0,0):=⟨_,rfl⟩
 simp only[← hu]
 have k:Cl 140 [.agg [.int .i64 u.1,.int .i64 u.2]] (.agg [.int .i64 (min (max u.1 0) 1000000000000),.int .i64 (min (max u.2 0) 1000000000000)]):=unit_c u.1 u.2
 refine V.en tbOk Tryz.func65 ?_
 (conv=>whnf)
 (conv=>whnf)
 (try simp only[e1,← hu])
 repeat ((first|refine V.s1 ?_|((try ((with_reducible refine .ext ?_);(conv=>whnf);(try simp only[e1,← hu])));(with_reducible refine jaa (r:=?_) ?_ ?_);rotate_left;(focus (first|exact(k)));(conv=>whnf)));(try simp only[e1,← hu]))
 exact Fin.of rfl
theorem ar_num (n:Int)(h : -1000000000≤n∧n≤1000000000):Cl 137 [frT (Rat.divInt n 1000000)] (.tup [.agg [.int .i64 (n*1000000),.int .i64 (n*1000000)],.int .i64 0]):=by
 have ok:okF (Rat.divInt n 1000000)=true:=okF_l (by omega) (by omega)
 have o:=jdY ok
 have eu:Rat.divInt n 1000000=unit (n*1000000):=by
  unfold unit
  rw[show (1000000000000:Int)=1000000*1000000 by decide]
  exact(Rat.divInt_mul_right (by decide)).symm
 have hb:=ok
 unfold okF at hb
 simp only[jiv,decide_eq_true_eq] at hb
 have c:=around_r (decZ (Rat.divInt n 1000000).num) (dec (Rat.divInt n 1000000).den) (by unfold decZ;split<;>(try simp only[jjj])<;>omega) (by omega)
 have e:jgI (decZ (Rat.divInt n 1000000).num) (dec (Rat.divInt n 1000000).den)=(n*1000000,n*1000000,0):=by
  unfold jgI
  rw[if_pos o.1,o.2,eu,jgs,jgx]
  unfold mk
  rw[if_pos (jam.2 (by omega))]
 rw[e] at c
 exact c
theorem rst_2 (x l:List (Int×Int))(a:Int)(h : -1000000000≤a∧a≤1000000000):Cl 65 [.agg [.int .i64 2,.int .i64 a],inB x,inB l] (stD (stB x l (2,a))):=by
 have hs:stB x l (2,a)=((a*1000000,a*1000000),0):=rfl
 rw[hs]
 have k1:=rof12_c (n:=a) (m:=1000000) (by omega) (by omega)
 have k2:=ar_num a h
 unfold frT at k1 k2
 generalize decZ (Rat.divInt a 1000000).num=S at *
 generalize dec (Rat.divInt a 1000000).den=T at *
 refine V.en tbOk Tryz.func65 ?_
 (conv=>whnf)
 (conv=>whnf)
 (try simp only[])
 repeat ((first|refine V.s1 ?_|((try ((with_reducible refine .ext ?_);(conv=>whnf);(try simp only[])));(with_reducible refine jaa (r:=?_) ?_ ?_);rotate_left;(focus (first|exact(k1)|exact(k2)));(conv=>whnf)));(try simp only[]))
 exact Fin.of rfl
theorem rst_10 (x l:List (Int×Int))(a:Int)(hl:l.length≤40)(okl:∀ b∈l,okB b)(ht:3≤l.length):Cl 65 [.agg [.int .i64 10,.int .i64 a],inB x,inB l] (stD (stB x l (10,a))):=by
 have e1:((l.length:Int)-1).toNat=l.length-1:=by omega
 have e2:((l.length:Int)-2).toNat=l.length-2:=by omega
 have e3:((l.length:Int)-3).toNat=l.length-3:=by omega
 have hu':=ok_at okl (k:=l.length-3) (by omega)
 have hv':=ok_at okl (k:=l.length-2) (by omega)
 obtain⟨u,hu⟩:∃ u,u=l.getD (l.length-3) (0,0):=⟨_,rfl⟩
 obtain⟨v,hv⟩:∃ v,v=l.getD (l.length-2) (0,0):=⟨_,rfl⟩
 obtain⟨w,hw⟩:∃ w,w=l.getD (l.length-1) (0,0):=⟨_,rfl⟩
 have hs:stB x l (10,a)=if 0≤w.1 then (u,0) else if w.2<0 then (v,0) else prB (min u.1 v.1,max u.2 v.2,0):=by
  show mB.op 10 (l.drop (l.length-3))=_
  rw[drop_3 l (0,0) ht,← hu,← hv,← hw]
  rfl
 rw[hs]
 simp only[← hu,← hv] at hu' hv'
 have k:=hull_r u.1 u.2 v.1 v.2
 rw[if_pos ⟨hu',hv'⟩] at k
 have k:Cl 146 [.agg [.int .i64 u.1,.int .i64 u.2],.agg [.int .i64 v.1,.int .i64 v.2]] (.tup [.agg [.int .i64 (min u.1 v.1),.int .i64 (max u.2 v.2)],.int .i64 0]):=k
 by_cases h1:0≤w.1
 ·rw[if_pos h1]
  refine V.en tbOk Tryz.func65 ?_
  (conv=>whnf)
  (conv=>whnf)
  (try simp only[e1,e3,← hu,← hv,← hw,decide_eq_true h1])
  repeat ((first|refine V.s1 ?_);(try simp only[e1,e3,← hu,← hv,← hw,decide_eq_true h1]))
  exact Fin.of rfl
 ·rw[if_neg h1]
  by_cases h2:w.2<0
  ·rw[if_pos h2]
   refine V.en tbOk Tryz.func65 ?_
   (conv=>whnf)
   (conv=>whnf)
   (try simp only[e1,e2,e3,← hu,← hv,← hw,decide_eq_false h1,decide_eq_true h2])
   repeat ((first|refine V.s1 ?_);(try simp only[e1,e2,e3,← hu,← hv,← hw,decide_eq_false h1,decide_eq_true h2]))
   exact Fin.of rfl
  ·rw[if_neg h2]
   refine V.en tbOk Tryz.func65 ?_
   (conv=>whnf)
   (conv=>whnf)
   (try simp only[e1,e2,e3,← hu,← hv,← hw,decide_eq_false h1,decide_eq_false h2])
   repeat ((first|refine V.s1 ?_);(try simp only[e1,e2,e3,← hu,← hv,← hw,decide_eq_false h1,decide_eq_false h2]))
   refine⟨Pq6z,[],V.pok,.go (jab ?_)⟩
   (conv=>whnf)
   (try simp only[e1,e2,e3,← hu,← hv,← hw])
   repeat ((first|refine V.s1 ?_|((try ((with_reducible refine .ext ?_);(conv=>whnf);(try simp only[e1,e2,e3,← hu,← hv,← hw])));(with_reducible refine jaa (r:=?_) ?_ ?_);rotate_left;(focus (first|exact(k)));(conv=>whnf)));(try simp only[e1,e2,e3,← hu,← hv,← hw]))
   exact Fin.of rfl
theorem rstep_b (x l:List (Int×Int))(c a:Int)(hl:l.length≤40)(okl:∀ b∈l,okB b)(hc:tkb c=true)(ht:tkn c≤l.length)(h1:loA c≤a)(h2:a≤hiA c x.length l.length):Cl 65 [.agg [.int .i64 c,.int .i64 a],inB x,inB l] (stD (stB x l (c,a))):=by
 have h:c=1∨c=2∨c=3∨c=4∨c=5∨c=6∨c=7∨c=8∨c=9∨c=10∨c=11∨c=12:=by unfold tkb at hc;simp only[decide_eq_true_eq] at hc;omega
 rcases h with rfl|rfl|rfl|rfl|rfl|rfl|rfl|rfl|rfl|rfl|rfl|rfl
 ·have h1:0≤a:=h1
  have h2:a≤(x.length:Int)-1:=h2
  exact rst_1 x l a ⟨h1,by omega⟩
 ·have h1 : -1000000000≤a:=h1
  have h2:a≤1000000000:=h2
  exact rst_2 x l a ⟨h1,h2⟩
 ·have ht:(2:Int)≤l.length:=ht
  exact rst_3 x l a hl okl (by omega)
 ·have ht:(2:Int)≤l.length:=ht
  exact rst_4 x l a hl okl (by omega)
 ·have ht:(2:Int)≤l.length:=ht
  exact rst_5 x l a hl okl (by omega)
 ·have ht:(2:Int)≤l.length:=ht
  exact rst_6 x l a hl okl (by omega)
 ·have ht:(2:Int)≤l.length:=ht
  exact rst_7 x l a hl okl (by omega)
 ·have ht:(1:Int)≤l.length:=ht
  exact rst_8 x l a hl okl (by omega)
 ·have ht:(1:Int)≤l.length:=ht
  exact rst_9 x l a hl okl (by omega)
 ·have ht:(3:Int)≤l.length:=ht
  exact rst_10 x l a hl okl (by omega)
 ·have h1:0≤a:=h1
  have h2:a≤(l.length:Int)-1:=h2
  exact rst_11 x l a hl ⟨h1,by omega⟩
 ·have ht:(1:Int)≤l.length:=ht
  exact rst_12 x l a hl (by omega)
theorem stM_B (x l:List (Int×Int))(o:Int×Int):stM mB x o l=putM (l.take (l.length-(tkn o.1).toNat)) (stB x l o):=by
 unfold stM stB
 by_cases h1:o.1=1
 ·rw[if_pos h1,if_pos h1,h1]
  show _=putM (l.take (l.length-0)) _
  rw[Nat.sub_zero,jjr]
  rfl
 ·by_cases h2:o.1=2
  ·rw[if_neg h1,if_neg h1,if_pos h2,if_pos h2,h2]
   show _=putM (l.take (l.length-0)) _
   rw[Nat.sub_zero,jjr]
   rfl
  ·by_cases h3:o.1=11
   ·rw[if_neg h1,if_neg h1,if_neg h2,if_neg h2,if_pos h3,if_pos h3,h3]
    show _=putM (l.take (l.length-0)) _
    rw[Nat.sub_zero,jjr]
    rfl
   ·rw[if_neg h1,if_neg h1,if_neg h2,if_neg h2,if_neg h3,if_neg h3]
inductive All2 {α β : Type} (R : α → β → Prop) : List α → List β → Prop
  | nil : All2 R [] []
  | cons {a : α} {b : β} {l : List α} {m : List β} (h : R a b) (t : All2 R l m) : All2 R (a :: l) (b :: m)
theorem All2.len {α β:Type}{R:α→β→Prop}{l:List α}{m:List β}(h:All2 R l m):l.length=m.length:=by
 induction h with
 | nil=>rfl
 | cons _ _ ih=>simp[ih]
theorem All2.app {α β:Type}{R:α→β→Prop}{l l2:List α}{m m2:List β}(h:All2 R l m)(g:All2 R l2 m2):All2 R (l++l2) (m++m2):=by
 induction h with
 | nil=>exact g
 | cons h _ ih=>exact .cons h ih
theorem All2.take {α β:Type}{R:α→β→Prop}{l:List α}{m:List β}(h:All2 R l m):∀ n,All2 R (l.take n) (m.take n):=by
 induction h with
 | nil=>intro n;simp;exact .nil
 | cons h _ ih=>intro n;cases n with
  | zero=>exact .nil
  | succ n=>exact .cons h (ih n)
theorem All2.drop {α β:Type}{R:α→β→Prop}{l:List α}{m:List β}(h:All2 R l m):∀ n,All2 R (l.drop n) (m.drop n):=by
 induction h with
 | nil=>intro n;simp;exact .nil
 | cons h t ih=>intro n;cases n with
  | zero=>exact .cons h t
  | succ n=>exact ih n
theorem All2.get {α β:Type}{R:α→β→Prop}{l:List α}{m:List β}(h:All2 R l m)(a:α)(b:β):∀ i,i<l.length→R (l.getD i a) (m.getD i b):=by
 induction h with
 | nil=>intro i hi;simp at hi
 | cons h t ih=>intro i hi;cases i with
  | zero=>exact h
  | succ i=>exact ih i (by simpa using hi)
theorem All2.one {α β:Type}{R:α→β→Prop}{t:List α}{s:List β}(h:All2 R t s)(hl:t.length=1):∃ u u',t=[u]∧s=[u']∧R u u':=by
 match h,hl with
 | @All2.cons _ _ _ u u' _ _ hu .nil,_=>exact⟨u,u',rfl,rfl,hu⟩
theorem All2.two {α β:Type}{R:α→β→Prop}{t:List α}{s:List β}(h:All2 R t s)(hl:t.length=2):∃ u u' v v',t=[u,v]∧s=[u',v']∧R u u'∧R v v':=by
 match h,hl with
 | @All2.cons _ _ _ u u' _ _ hu (@All2.cons _ _ _ v v' _ _ hv .nil),_=>exact⟨u,u',v,v',rfl,rfl,hu,hv⟩
theorem All2.three {α β:Type}{R:α→β→Prop}{t:List α}{s:List β}(h:All2 R t s)(hl:t.length=3):∃ u u' v v' w w',t=[u,v,w]∧s=[u',v',w']∧R u u'∧R v v'∧R w w':=by
 match h,hl with
 | @All2.cons _ _ _ u u' _ _ hu (@All2.cons _ _ _ v v' _ _ hv (@All2.cons _ _ _ w w' _ _ hw .nil)),_=>exact⟨u,u',v,v',w,w',rfl,rfl,hu,hv,hw⟩
theorem surv_out {p:List (Int×Int)}{i o d:Int}(h:surv p i o=some d):(1≤i∧i≤4∧1≤o∧o≤4∧p.length≤40)∧svL i (0,0) p=some (o,d):=by
 unfold surv at h
 split at h
 case isFalse=>cases h
 rename_i c
 refine⟨c,?_⟩
 split at h
 case h_2=>cases h
 rename_i n d' e
 split at h
 ·rename_i e2;cases h;rw[e,e2]
 ·cases h
theorem rn_len {α:Type}[Inhabited α]{M:Mc α}{x:List α}{i:Int} : ∀ {p:List (Int×Int)} {s t:Int×Int} {l l':List α},svL i s p=some t→s.1=(l.length:Int)→rnM M x p l = .ok l'→t.1=(l'.length:Int)
 | [],_,_,_,_,h,hl,h1=>by cases h;cases h1;exact hl
 | o::p,s,t,l,l',h,hl,h1=>by
  simp only[svL,rnM] at h h1
  cases e:svS i s o with
  | none=>rw[e] at h;cases h
  | some s2=>
   rw[e] at h
   cases e2:stM M x o l with
   | error er=>rw[e2] at h1;cases h1
   | ok l2=>rw[e2] at h1;exact rn_len h (jf4 e hl e2) h1
theorem surv_len {α:Type}[Inhabited α]{M:Mc α}{x:List α}{p:List (Int×Int)}{i o d:Int}{l:List α}(hs:surv p i o=some d)(h:rnM M x p [] = .ok l):(l.length:Int)=o:=(rn_len (surv_out hs).2 rfl h).symm
def spn (xs:List Int)(i:Nat):Int×Int:=(1000000000*min (xs.getD (2*i) 0) (xs.getD (2*i+1) 0),1000000000*max (xs.getD (2*i) 0) (xs.getD (2*i+1) 0))
def spL (xs:List Int):Nat→List (Int×Int)
 | 0=>[]
 | n+1=>spL xs n++[spn xs n]
theorem spL_len (xs:List Int):∀ n,(spL xs n).length=n
 | 0=>rfl
 | n+1=>by simp[spL,spL_len xs n]
theorem jgz {xs:List Int}(hb:∀ x∈xs, -32768≤x∧x≤32767)(i:Nat) : -32768≤xs.getD i 0∧xs.getD i 0≤32767:=by
 rw[ji5]
 rcases jiL i xs.length with h|h
 ·rw[ji8 h];exact hb _ (ji9 h)
 ·rw[List.getElem?_eq_none h];simp
theorem spans_c (I O:Int)(l:List (Int×Int))(xs:List Int)(hI:0≤I∧I≤255)(hx:xs.length=8)(hb:∀ x∈xs, -32768≤x∧x≤32767):Cl 18 [drD I O l,.iarr .i16 xs] (oL (spL xs (1+I%3).toNat)):=by
 have ci:=dins_c I O l hI
 refine V.en tbOk Tryz.func18 ?_
 (conv=>whnf)
 (conv=>whnf)
 (try simp only[])
 repeat ((first|refine V.s1 ?_|((try ((with_reducible refine .ext ?_);(conv=>whnf);(try simp only[])));(with_reducible refine jaa (r:=?_) ?_ ?_);rotate_left;(focus (first|exact(ci)));(conv=>whnf)));(try simp only[]))
 refine Lp.of ⟨Nat,fun k=>(k:Int)≤1+I%3,fun k=>match k with|0=>[(3,.box 3 0),(8,.int .i64 (1+I%3)),(5,.nil),(9,.int .i64 0)]|k+1=>[(3,.box 3 0),(8,.int .i64 (1+I%3)),(5,.bsl 300 0 (k+1) 2),(9,.int .i64 ((k+1:Nat):Int))],fun k=>match k with|0=>[(3,.arr .i16 xs)]|k+1=>[(3,.arr .i16 xs),(300,.box (bcl (spL xs (k+1))))],fun k=>3-k,⟨0,by omega,V.wk⟩,?_⟩
 intro k hk
 cases k with
 | zero=>
  dsimp only
  obtain⟨u,hu⟩:∃ u,u=xs.getD 0 0:=⟨_,rfl⟩
  obtain⟨v,hv⟩:∃ v,v=xs.getD 1 0:=⟨_,rfl⟩
  have ga:xs.getD (0+Int.toNat 0*2+Int.toNat 0) 0=u:=hu.symm
  have gb:xs.getD (0+Int.toNat 0*2+Int.toNat 1) 0=v:=hv.symm
  have bu:=jgz hb 0
  have bv:=jgz hb 1
  rw[← hu] at bu
  rw[← hv] at bv
  have hs:spL xs (0+1)=[(1000000000*min u v,1000000000*max u v)]:=by rw[hu,hv];rfl
  (conv=>whnf)
  (try simp only[])
  repeat ((first|refine V.s1 ?_);(try simp only[]))
  refine Cnd.yes (decide_eq_true (by omega)) ?_
  (conv=>whnf)
  (try simp only[])
  repeat ((first|refine V.s1 ?_);(try simp only[]))
  refine⟨Pq1z,[],V.pok,.go (jab ?_)⟩
  refine V.r0 (V.a2 ga gb) ?_
  refine⟨0+1,by omega,by omega,?_⟩
  dsimp only
  rw[hs]
  refine Wk.renS 37 300 5 1 2 (by decide) (by decide) rfl rfl rfl ?_
  exact V.wk
 | succ k=>
  dsimp only
  have hkk:(((k+1:Nat):Int)+1)=((k+1+1:Nat):Int):=by omega
  obtain⟨u,hu⟩:∃ u,u=xs.getD (2*(k+1)) 0:=⟨_,rfl⟩
  obtain⟨v,hv⟩:∃ v,v=xs.getD (2*(k+1)+1) 0:=⟨_,rfl⟩
  have ga:xs.getD (0+(k+1)*2+Int.toNat 0) 0=u:=by rw[hu,show 0+(k+1)*2+Int.toNat 0=2*(k+1) by simp;omega]
  have gb:xs.getD (0+(k+1)*2+Int.toNat 1) 0=v:=by rw[hv,show 0+(k+1)*2+Int.toNat 1=2*(k+1)+1 by simp;omega]
  have bu:=jgz hb (2*(k+1))
  have bv:=jgz hb (2*(k+1)+1)
  rw[← hu] at bu
  rw[← hv] at bv
  have hs:spL xs (k+1+1)=spL xs (k+1)++[(1000000000*min u v,1000000000*max u v)]:=by rw[hu,hv];rfl
  have hl:=spL_len xs (k+1)
  have he:k+1=(1+I%3).toNat→spL xs (k+1)=spL xs (1+I%3).toNat:=fun h=>by rw[← h]
  have hb2:bcl (spL xs (k+1+1))=bcl (spL xs (k+1))++[.int .i64 (1000000000*min u v),.int .i64 (1000000000*max u v)]:=by rw[hs,jaC];rfl
  generalize spL xs (k+1)=P at *
  have pg:=jaA P
  have pb:=jaY P
  have bo:=jbm P
  rw[hl] at bo
  have hb:Nat.beq (bcl P).length ((k+1)*2)=true:=by rw[jaN,hl];exact Nat.beq_refl _
  have ht:Nat.ble (k+1+1) 1000000=true:=by rw[ji2];omega
  have hf:∀ i,D.freeL i (bcl P++[.int .i64 (1000000000*min u v),.int .i64 (1000000000*max u v)])=true:=jay P _ _
  (conv=>whnf)
  (try simp only[jiD])
  repeat ((first|refine V.s1 ?_|((try ((with_reducible refine .ext ?_);(conv=>whnf);(try simp only[jiD])));(with_reducible refine jaa (r:=?_) ?_ ?_);rotate_left;(focus (first|fail));(conv=>whnf))|(((rewrite [pg];(conv=>whnf)));(conv=>whnf)));(try simp only[jiD]))
  refine V.br (fun hq=>?_) (fun hq=>?_)
  ·simp only[decide_eq_true_eq] at hq
   (conv=>whnf)
   (try simp only[jiD])
   repeat ((first|refine V.s1 ?_|((try ((with_reducible refine .ext ?_);(conv=>whnf);(try simp only[jiD])));(with_reducible refine jaa (r:=?_) ?_ ?_);rotate_left;(focus (first|fail));(conv=>whnf))|(((rewrite [pg];(conv=>whnf)));(conv=>whnf)));(try simp only[jiD]))
   refine⟨Pq1z,[],V.pok,.go (jab ?_)⟩
   (conv=>whnf)
   (try simp only[jiD,ga,gb,hkk])
   repeat ((first|refine V.s1 ?_|((try ((with_reducible refine .ext ?_);(conv=>whnf);(try simp only[jiD,ga,gb,hkk])));(with_reducible refine jaa (r:=?_) ?_ ?_);rotate_left;(focus (first|fail));(conv=>whnf))|(((rewrite [pg];(conv=>whnf)));(conv=>whnf))|(((simp only[hb,ht,jjt,hf];(conv=>whnf)));(conv=>whnf)));(try simp only[jiD,ga,gb,hkk]))
   refine⟨k+1+1,by omega,by omega,?_⟩
   dsimp only
   rw[hb2]
   refine Wk.renS 37 300 5 (k+1+1) 2 (by decide) (by decide) (hf _) rfl rfl ?_
   exact V.wk
  ·simp only[decide_eq_false_iff_not] at hq
   rw[← he (by omega)]
   have eo:oL P=sl2 (k+1) (bcl P):=by rw[show oL P=sl2 P.length (bcl P) from rfl,hl]
   rw[eo]
   (conv=>whnf)
   (try simp only[jiC])
   repeat ((first|refine V.s1 ?_|((try ((with_reducible refine .ext ?_);(conv=>whnf);(try simp only[jiC])));(with_reducible refine jaa (r:=?_) ?_ ?_);rotate_left;(focus (first|fail));(conv=>whnf))|(((rewrite [pg];(conv=>whnf)));(conv=>whnf))|(((rewrite [bo];(conv=>whnf)));(conv=>whnf))|(((rewrite [pb];(conv=>whnf)));(conv=>whnf)));(try simp only[jiC]))
   exact Fin.of rfl
end Go.Proofs.YtpkdedncgclblaaGreatDoor
end
section
namespace Go.V
open Go Go.RowKit
theorem Wk.nilS {off:Nat}{L:Sl}{H:Hp}{L2:Sl}{H2:Hp}(t e:Nat)(f:Nat→List D)(ht:look L t = .nil)(h:Wk off ((t,.slf e 0 f)::L) H L2 H2):Wk off L H L2 H2:=by
 refine⟨fun cx E h' a w e' S=>?_⟩
 subst e'
 have hv:=S.knows t
 rw[ht] at hv
 refine h.out cx E h' a w rfl (S.reslot ?_)
 simp only[Den] at hv ⊢
 exact⟨none,0,hv,jiE _,by omega,by simp⟩
end Go.V
namespace Go.Proofs.YtpkdedncgclblaaGreatDoor
open Go Go.V Go.Nb
theorem stB_good (x l:List (Int×Int))(c a:Int)(okx:∀ b∈x,okB b)(okl:∀ b∈l,okB b)(hc:tkb c=true)(ht:tkn c≤l.length)(h1:loA c≤a)(h2:a≤hiA c x.length l.length):((stB x l (c,a)).2=0→okB (stB x l (c,a)).1)∧0≤(stB x l (c,a)).2∧(stB x l (c,a)).2<1000:=by
 have gg:∀ r:Int×Int×Int,goodB r→stB x l (c,a)=prB r→((stB x l (c,a)).2=0→okB (stB x l (c,a)).1)∧0≤(stB x l (c,a)).2∧(stB x l (c,a)).2<1000:=fun r g e=>by
  rw[e]
  exact⟨fun h=>g.1 h,g.2.1,g.2.2⟩
 have h:c=1∨c=2∨c=3∨c=4∨c=5∨c=6∨c=7∨c=8∨c=9∨c=10∨c=11∨c=12:=by unfold tkb at hc;simp only[decide_eq_true_eq] at hc;omega
 have two:∀ c',2≤l.length→c=c'→(tkn c').toNat=2→mB.op c (l.drop (l.length-(tkn c).toNat))=opB c' [l.getD (l.length-2) (0,0),l.getD (l.length-1) (0,0)]:=fun c' h2 e ht=>by
  subst e;rw[ht,je8 l (0,0) h2];rfl
 have one:∀ c',1≤l.length→c=c'→(tkn c').toNat=1→mB.op c (l.drop (l.length-(tkn c).toNat))=opB c' [l.getD (l.length-1) (0,0)]:=fun c' h2 e ht=>by
  subst e;rw[ht,jhk l (0,0) h2];rfl
 rcases h with rfl|rfl|rfl|rfl|rfl|rfl|rfl|rfl|rfl|rfl|rfl|rfl
 ·have h1:0≤a:=h1
  have h2:a≤(x.length:Int)-1:=h2
  exact⟨fun _=>ok_at okx (by omega),Int.le_refl _,by show (0:Int)<1000;decide⟩
 ·have h1 : -1000000000≤a:=h1
  have h2:a≤1000000000:=h2
  refine⟨fun _=>jam.2 ?_,Int.le_refl _,by show (0:Int)<1000;decide⟩
  show _∧_
  simp only[stB,mB]
  simp
  omega
 ·have ht:(2:Int)≤l.length:=ht
  exact gg _ (jb8 _ _) (two 3 (by omega) rfl rfl)
 ·have ht:(2:Int)≤l.length:=ht
  exact gg _ (jb8 _ _) (two 4 (by omega) rfl rfl)
 ·have ht:(2:Int)≤l.length:=ht
  exact gg _ (jb8 _ _) (two 5 (by omega) rfl rfl)
 ·have ht:(2:Int)≤l.length:=ht
  have u:=jam.1 (ok_at okl (k:=l.length-2) (by omega))
  have v:=jam.1 (ok_at okl (k:=l.length-1) (by omega))
  exact gg _ (jcU (jam.2 (by omega))) (two 6 (by omega) rfl rfl)
 ·have ht:(2:Int)≤l.length:=ht
  have u:=jam.1 (ok_at okl (k:=l.length-2) (by omega))
  have v:=jam.1 (ok_at okl (k:=l.length-1) (by omega))
  exact gg _ (jcU (jam.2 (by omega))) (two 7 (by omega) rfl rfl)
 ·have ht:(1:Int)≤l.length:=ht
  exact gg _ (jb8 _ _) (one 8 (by omega) rfl rfl)
 ·have ht:(1:Int)≤l.length:=ht
  exact gg _ (jb8 _ _) (one 9 (by omega) rfl rfl)
 ·have ht:(3:Int)≤l.length:=ht
  have u:=ok_at okl (k:=l.length-3) (by omega)
  have v:=ok_at okl (k:=l.length-2) (by omega)
  have u':=jam.1 u
  have v':=jam.1 v
  have e:stB x l (10,a)=opB 10 [l.getD (l.length-3) (0,0),l.getD (l.length-2) (0,0),l.getD (l.length-1) (0,0)]:=by
   show mB.op 10 (l.drop (l.length-3))=_
   rw[drop_3 l (0,0) (by omega)]
   rfl
  rw[e]
  unfold opB
  dsimp only
  split
  ·exact⟨fun _=>u,Int.le_refl _,by show (0:Int)<1000;decide⟩
  ·split
   ·exact⟨fun _=>v,Int.le_refl _,by show (0:Int)<1000;decide⟩
   ·exact⟨fun _=>jam.2 (by dsimp only [prB];omega),Int.le_refl _,by show (0:Int)<1000;decide⟩
 ·have h1:0≤a:=h1
  have h2:a≤(l.length:Int)-1:=h2
  exact⟨fun _=>ok_at okl (by omega),Int.le_refl _,by show (0:Int)<1000;decide⟩
 ·have ht:(1:Int)≤l.length:=ht
  have u:=jam.1 (ok_at okl (k:=l.length-1) (by omega))
  exact gg _ (jcU (jam.2 (by omega))) (one 12 (by omega) rfl rfl)
theorem rbands_v (p x:List (Int×Int))(o d:Int)(okx:∀ q∈x,okB q)(hs:surv p x.length o=some d):Called Tryz.prog 37 [opsD p,inB x,.int .i64 o] (resB (rnM mB x p [])):=by
 have rr:=rright_c p x.length o
 rw[hs] at rr
 have rr:Called Tryz.prog 61 [opsD p,.int .i64 x.length,.int .i64 o] (.bool true):=rr
 have hb:1≤(x.length:Int)∧(x.length:Int)≤4∧1≤o∧o≤4∧p.length≤40∧svL x.length (0,0) p=some (o,d):=by
  unfold surv at hs
  split at hs
  case isFalse=>cases hs
  rename_i h
  refine⟨h.1,h.2.1,h.2.2.1,h.2.2.2.1,h.2.2.2.2,?_⟩
  split at hs
  case h_2=>cases hs
  rename_i e
  split at hs
  case isFalse=>cases hs
  rename_i ho
  cases hs
  rw[e,ho]
 have fc:∀ k,k<x.length→Called Tryz.prog 64 [.agg [.int .i64 (x.getD k (0,0)).1,.int .i64 (x.getD k (0,0)).2]] (.int .i64 0):=fun k hk=>by
  have c:=jib (x.getD k (0,0)).1 (x.getD k (0,0)).2
  rw[if_pos (ok_at okx hk)] at c
  exact c
 refine V.en tbOk Tryz.func37 ?_
 refine V.r1 @jiD rr ?_
 refine jai ((0:Nat)) (fun k=>k≤x.length) (fun k=>x.length-k) (fun k=>[(8,.int .i64 k)]) (fun k=>[]) ?_ ?_ ?_
 ·exact V.wk
 ·exact jix _
 intro k hk
 have hkc:((k:Int)+1)=((k+1:Nat):Int):=by omega
 (conv=>whnf)
 refine V.st ?_
 refine V.br (fun hq=>?_) (fun hq=>?_)
 ·simp only[decide_eq_true_eq] at hq
  have f1:=fc k (by omega)
  refine V.r1 (V.a2 @jiD hkc) f1 ?_
  exact⟨k+1,by omega,by omega,V.wk⟩
 clear hq hkc hk
 refine V.r0 @jiD ?_
 refine Lp.of ⟨Nat×List (Int×Int),fun s=>s.1≤p.length∧rnM mB x (p.take s.1) [] = .ok s.2∧(∃ d,svL x.length (0,0) (p.take s.1)=some ((s.2.length:Int),d))∧(∀ q∈s.2,okB q),fun s=>[(0,opsD p),(1,inB x),(10,oL s.2),(11,.int .i64 s.1)],fun _=>[],fun s=>p.length-s.1,⟨(0,[]),⟨jix _,rfl,⟨0,rfl⟩,fun _ h=>absurd h List.not_mem_nil⟩,Wk.nilS 10 2 (fun j=>List.take 2 (List.drop (j*2) [])) rfl V.wk⟩,?_⟩
 rintro⟨k2,l⟩ ⟨hk2,hr,⟨d2,hd2⟩,okl⟩
 dsimp only at hk2 hr hd2 okl ⊢
 have hbd:=jgL hd2 (by simp)
 dsimp only at hbd
 have hkc:((k2:Int)+1)=((k2+1:Nat):Int):=by omega
 refine V.r0 @jiD ?_
 refine V.br (fun hq=>?_) (fun hq=>?_)
 case refine_2=>
  simp only[decide_eq_false_iff_not] at hq
  obtain rfl:k2=p.length:=by omega
  rw[jjr] at hr
  rw[hr]
  refine V.r0 @jiD ?_
  exact Fin.of rfl
 simp only[decide_eq_true_eq] at hq
 have hkl:k2<p.length:=by omega
 have hsn:=jem x.length p k2 hkl
 rw[hd2] at hsn
 dsimp only at hsn
 have rs:=jf8 mB x p k2 hkl
 rw[hr] at rs
 dsimp only at rs
 obtain⟨c,a,hca⟩:∃ c a,p.getD k2 (0,0)=(c,a):=⟨_,_,rfl⟩
 rw[hca] at hsn rs
 cases hss:svS x.length ((l.length:Int),d2) (c,a) with
 | none=>
  rw[hss] at hsn
  rw[jdp hsn] at hb
  cases hb.2.2.2.2.2
 | some s'=>
  have hss2:=hss
  unfold svS at hss2
  split at hss2
  case isFalse=>cases hss2
  rename_i hcc
  clear hss2
  obtain⟨g1,g2,g3,g4,g5⟩:=hcc
  dsimp only at g1 g2 g3 g4 g5
  have tb:=jeC c
  have l16:l.length≤16:=by omega
  have st:=arg3 (rstep_b x l c a (by omega) okl g1 g2 g3 g4) (Fin.same _) (Fin.same _) (fin_b l)
  have gd:=stB_good x l c a okx okl g1 g2 g3 g4
  have tk:=rtk g1
  rw[stM_B] at rs
  obtain⟨r,hrr⟩:∃ r,r=stB x l (c,a):=⟨_,rfl⟩
  rw[← hrr] at st gd rs
  obtain⟨⟨y1,y2⟩,e⟩:=r
  have hE:=hrr.symm
  dsimp only at st gd rs
  obtain⟨m,hm⟩:∃ m:Nat,m=l.length-(tkn c).toNat:=⟨_,rfl⟩
  rw[← hm] at rs
  have hmi:(l.length:Int)-tkn c=(m:Int):=by omega
  have hml:m≤l.length:=by omega
  clear hrr
  by_cases he:e=0
  ·subst he
   have hrs:rnM mB x (p.take (k2+1)) [] = .ok (l.take m++[(y1,y2)]):=by rw[rs];rfl
   have hln:=jf4 hss rfl (show stM mB x (c,a) l = .ok (l.take m++[(y1,y2)]) by rw[stM_B,← hm,hE];rfl)
   refine V.r2 (V.a2 @jiD hca) st tk ?_
   refine Cnd.no (by simp) ?_
   have hE2:stB x l (c,a)=((y1,y2),0):=hE
   have okl':∀ q∈l.take m++[(y1,y2)],okB q:=jcw (fun q hq=>okl q (jjh hq)) (gd.1 rfl)
   have hll:(l.take m).length=m:=by rw[jjb];omega
   have hl1:(l.take m++[(y1,y2)]).length=m+1:=by rw[jja,hll];rfl
   have hnext:∃ y:Nat×List (Int×Int),((fun s:Nat×List (Int×Int)=>s.1≤p.length∧rnM mB x (p.take s.1) [] = .ok s.2∧(∃ d,svL x.length (0,0) (p.take s.1)=some ((s.2.length:Int),d)) ∧ ∀ q∈s.2,okB q) y)∧y=(k2+1,l.take m++[(y1,y2)]):=⟨_,⟨by dsimp only;omega,hrs,⟨s'.2,by rw[hsn,hss];exact congrArg some (Prod.ext hln rfl)⟩,okl'⟩,rfl⟩
   obtain⟨yy,hinv,hyy⟩:=hnext
   have pgm:=jaA (l.take m)
   have pum:=jdO (l.take m)
   have pbm:=jaY (l.take m)
   have frm:=jej (l.take m)
   have e2:bcl (l.take m++[(y1,y2)])=bcl (l.take m)++[.int .i64 y1,.int .i64 y2]:=jaC (l.take m) [(y1,y2)]
   have bof:=jbm (l.take m++[(y1,y2)])
   have pbf:=jaY (l.take m++[(y1,y2)])
   rw[hl1,e2] at bof
   rw[e2] at pbf
   by_cases hm0:m=0
   ·subst hm0
    refine V.r1 (V.a4 @jiD hca hmi hkc) tk ?_
    refine⟨yy,hinv,by rw[hyy];dsimp only;omega,?_⟩
    rw[hyy]
    dsimp only
    refine Wk.pub 70 ?_
    (conv=>whnf)
    simp only[jiC]
    exact V.wk
   ·have hbm:Nat.beq m 0=false:=by
     cases e:Nat.beq m 0 with
     | false=>rfl
     | true=>exact absurd (jiu e) hm0
    have hcm:∀ K,catF 2 (fun j=>List.take 2 (List.drop (j*2) (bcl l))) m [] K=K (bcl (l.take m)):=fun K=>by rw[jfV l K m [] hml,jjl]
    have hzm:Nat.ble m 1000000=true:=by rw[ji2];omega
    have hzn:Nat.ble (m+1) 1000000=true:=by rw[ji2];omega
    have hbl:Nat.beq (bcl (l.take m)).length (m*2)=true:=by rw[jaN,hll];exact Nat.beq_refl _
    have fr2:=jay (l.take m) y1 y2
    obtain⟨B,hB⟩:∃ B,B=bcl (l.take m):=⟨_,rfl⟩
    simp only[← hB] at pgm pum pbm frm bof pbf hcm hbl fr2 e2
    (conv=>whnf)
    (try simp only[Nat.add_zero,jiD,hca,hmi,hkc,hzm,frm])
    repeat ((first|refine V.s1 ?_|((try ((with_reducible refine .ext ?_);(conv=>whnf);(try simp only[Nat.add_zero,jiD,hca,hmi,hkc,hzm,frm])));(with_reducible refine jaa (r:=?_) ?_ ?_);rotate_left;(focus (first|exact(tk)));(conv=>whnf))|(((rewrite [hbm];(conv=>whnf)));(conv=>whnf))|(((rewrite [hcm];(conv=>whnf)));(conv=>whnf))|(((rewrite [pum];(conv=>whnf)));(conv=>whnf))|(((rewrite [pgm];(conv=>whnf)));(conv=>whnf))|(((simp only[hbl,hzn,jjt,fr2];(conv=>whnf)));(conv=>whnf)));(try simp only[Nat.add_zero,jiD,hca,hmi,hkc,hzm,frm]))
    refine⟨yy,hinv,by rw[hyy];dsimp only;omega,?_⟩
    rw[hyy]
    dsimp only
    have eo:oL (l.take m++[(y1,y2)])=sl2 (m+1) (B++[.int .i64 y1,.int .i64 y2]):=by unfold oL;rw[hl1,e2]
    rw[eo]
    refine Wk.pub 70 ?_
    (conv=>whnf)
    repeat (first|(rewrite [bof];(conv=>whnf))|(rewrite [pbf];(conv=>whnf))|(rewrite [pbm];(conv=>whnf)))
    simp only[jiC]
    exact V.wk
  ·have hrs:rnM mB x p [] = .error e:=jhD (k:=k2+1) (by rw[rs];unfold putM;rw[if_neg he])
   rw[hrs]
   refine V.r2 (V.a2 @jiD hca) st tk ?_
   refine Cnd.yes (decide_eq_true he) ?_
   refine V.r0 @jiD ?_
   exact Fin.of rfl
theorem rbands_o (p x:List (Int×Int))(o d:Int)(okx:∀ q∈x,okB q)(hs:surv p x.length o=some d):Called Tryz.prog 37 [oL p,oL x,.int .i64 o] (resB (rnM mB x p [])):=
 arg3 (rbands_v p x o d okx hs) (fin_o p) (fin_b x) (Fin.same _)
theorem rbands_no (p:List (Int×Int))(n:Nat)(f:Nat→List D)(o:Int)(hs:surv p n o=none):Called Tryz.prog 37 [oL p,.slf 2 n f,.int .i64 o] (.tup [.nil,.int .i64 120]):=by
 have c:=rright_o p n o
 rw[hs] at c
 have c:Called Tryz.prog 61 [oL p,.int .i64 n,.int .i64 o] (.bool false):=c
 refine V.en tbOk Tryz.func37 ?_
 (conv=>whnf)
 (conv=>whnf)
 (try simp only[])
 repeat ((first|refine V.s1 ?_|((try ((with_reducible refine .ext ?_);(conv=>whnf);(try simp only[])));(with_reducible refine jaa (r:=?_) ?_ ?_);rotate_left;(focus (first|exact(c)));(conv=>whnf)));(try simp only[]))
 exact Fin.of rfl
theorem rbands_bad (p:List (Int×Int))(n m:Nat)(X:Nat→Int×Int)(o d e:Int)(hs:surv p n o=some d)(hm:m<n)(he:e≠0)(h1:∀ k,k<m→Called Tryz.prog 64 [.agg [.int .i64 (X k).1,.int .i64 (X k).2]] (.int .i64 0))(h2:Called Tryz.prog 64 [.agg [.int .i64 (X m).1,.int .i64 (X m).2]] (.int .i64 e)) :
  Called Tryz.prog 37 [oL p,.slf 2 n (fun j=>[.int .i64 (X j).1,.int .i64 (X j).2]),.int .i64 o] (.tup [.nil,.int .i64 e]):=by
 have c:=rright_o p n o
 rw[hs] at c
 have c:Called Tryz.prog 61 [oL p,.int .i64 n,.int .i64 o] (.bool true):=c
 have hn:(n:Int)≤4:=by
  unfold surv at hs
  split at hs
  case isFalse=>cases hs
  rename_i h
  exact h.2.1
 refine V.en tbOk Tryz.func37 ?_
 refine V.r1 @jiD c ?_
 refine jai ((0:Nat)) (fun k=>k≤m) (fun k=>m-k) (fun k=>[(8,.int .i64 k)]) (fun k=>[]) ?_ ?_ ?_
 ·exact V.wk
 ·exact jix _
 intro k hk
 have hkc:((k:Int)+1)=((k+1:Nat):Int):=by omega
 (conv=>whnf)
 refine V.st ?_
 refine Cnd.yes (by simp only[decide_eq_true_eq];omega) ?_
 by_cases hkm:k=m
 ·subst hkm
  refine V.r1 (V.a2 @jiD hkc) h2 ?_
  refine Cnd.yes (decide_eq_true he) ?_
  refine V.r0 @jiD ?_
  exact Fin.of rfl
 ·have f1:=h1 k (by omega)
  refine V.r1 (V.a2 @jiD hkc) f1 ?_
  exact⟨k+1,by omega,by omega,V.wk⟩
end Go.Proofs.YtpkdedncgclblaaGreatDoor
end
section
namespace Go.Proofs.YtpkdedncgclblaaGreatDoor
open Go Go.V Go.Nb
theorem fin_tk (R:List (Int×Int))(m:Nat)(h:m≤R.length):Fin (oL (R.take m)) (.slf 2 m (fun t=>List.take 2 (List.drop (t*2) (bcl R)))):=by
 have e:(R.take m).length=m:=by rw[jjb];omega
 have g:∀ j,j<m→List.take 2 (List.drop (j*2) (bcl R))=List.take 2 (List.drop (j*2) (bcl (R.take m))):=fun j hj=>by
  rw[jfn R j (by omega),jfn (R.take m) j (by omega)]
  have:(R.take m).getD j (0,0)=R.getD j (0,0):=by
   rw[ji5,ji5,List.getElem?_take,if_pos hj]
  rw[this]
 show Fin (.slf 2 (R.take m).length (fun t=>List.take 2 (List.drop (t*2) (bcl (R.take m))))) _
 rw[e]
 exact je4 g
theorem first_bad {α:Type}(l:List α)(d:α)(P:α→Prop)[DecidablePred P]:(∀ q∈l,P q) ∨ ∃ m,m<l.length∧(∀ k,k<m→P (l.getD k d)) ∧ ¬ P (l.getD m d):=by
 induction l with
 | nil=>exact .inl fun q h=>absurd h List.not_mem_nil
 | cons a l ih=>
  by_cases ha:P a
  ·rcases ih with h|⟨m,h1,h2,h3⟩
   ·exact .inl fun q hq=>by
     rcases ji7.1 hq with rfl|hq
     ·exact ha
     ·exact h q hq
   ·refine .inr ⟨m+1,by simpa using h1,fun k hk=>?_,h3⟩
    cases k with
    | zero=>exact ha
    | succ k=>exact h2 k (by omega)
  ·exact .inr ⟨0,by simp,fun k hk=>absurd hk (Nat.not_lt_zero _),ha⟩
theorem jcH (P Y:List (Int×Int))(n:Int):∃ (r:List (Int×Int)) (e:Int),r.length≤40∧Cl 22 [oL P,oL Y,.int .i64 n] (.tup [oL r,.int .i64 e])∧Cl 37 [oL P,oL Y,.int .i64 n] (.tup [oL r,.int .i64 e]):=by
 have fn:∀ e:Int,Fin (.tup [oL [],.int .i64 e]) (.tup [.nil,.int .i64 e]):=fun e=>Fin.tup ⟨jdh _ _,Fin.of rfl,trivial⟩
 cases hs:surv P Y.length n with
 | none=>exact⟨[],120,by simp,(bands_no P Y.length _ n hs).fin (fn _),(rbands_no P Y.length _ n hs).fin (fn _)⟩
 | some d=>
  rcases first_bad Y (0,0) okB with okx|⟨m,hm,h1,h2⟩
  ·have c1:=jig P Y n d okx hs
   have c2:=rbands_o P Y n d okx hs
   cases hr:rnM mB Y P [] with
   | ok l=>
    rw[hr] at c1 c2
    have hl:=surv_len hs hr
    have:=(surv_out hs).1
    exact⟨l,0,by omega,c1,c2⟩
   | error e=>
    rw[hr] at c1 c2
    exact⟨[],e,by simp,Called.fin c1 (fn _),Called.fin c2 (fn _)⟩
  ·have k1:∀ k,k<m→Cl 50 [.agg [.int .i64 (Y.getD k (0,0)).1,.int .i64 (Y.getD k (0,0)).2]] (.int .i64 0):=fun k hk=>by
    have c:=jid (Y.getD k (0,0)).1 (Y.getD k (0,0)).2
    rw[if_pos (h1 k hk)] at c
    exact c
   have k2:Cl 50 [.agg [.int .i64 (Y.getD m (0,0)).1,.int .i64 (Y.getD m (0,0)).2]] (.int .i64 30):=by
    have c:=jid (Y.getD m (0,0)).1 (Y.getD m (0,0)).2
    rw[if_neg h2] at c
    exact c
   have r1:∀ k,k<m→Cl 64 [.agg [.int .i64 (Y.getD k (0,0)).1,.int .i64 (Y.getD k (0,0)).2]] (.int .i64 0):=fun k hk=>by
    have c:=jib (Y.getD k (0,0)).1 (Y.getD k (0,0)).2
    rw[if_pos (h1 k hk)] at c
    exact c
   have r2:Cl 64 [.agg [.int .i64 (Y.getD m (0,0)).1,.int .i64 (Y.getD m (0,0)).2]] (.int .i64 30):=by
    have c:=jib (Y.getD m (0,0)).1 (Y.getD m (0,0)).2
    rw[if_neg h2] at c
    exact c
   have c1:=bands_bad P Y.length m (fun j=>Y.getD j (0,0)) n d 30 hs hm (by decide) k1 k2
   have c2:=rbands_bad P Y.length m (fun j=>Y.getD j (0,0)) n d 30 hs hm (by decide) r1 r2
   exact⟨[],30,by simp,(arg3 c1 (Fin.same _) (fin_b Y) (Fin.same _)).fin (fn _),(arg3 c2 (Fin.same _) (fin_b Y) (Fin.same _)).fin (fn _)⟩
theorem jik:type_of% @jiD∧type_of% @Nat.add_zero:=⟨@jiD,@Nat.add_zero⟩
theorem bands12_c (R:List (Int×Int))(I O:Int)(l:List (Int×Int))(b d:Bnd)(xs:List Int)(no:Int)(hR:R.length≤281474976710656)(hI:0≤I∧I≤255)(hO:0≤O∧O≤255)(hl:∀ s∈l,(0≤s.1∧s.1≤255) ∧ -32768≤s.2∧s.2≤32767)(hlen:l.length≤281474976710656)(hb:BndOk b)(hd:BndOk d)(hx:xs.length=8)(hxb:∀ x∈xs, -32768≤x∧x≤32767)(hno:InR .i64 no) :
  Cl 10 [drD I O l,bndD b d,.iarr .i16 xs,oL R,.int .i64 no] (.bool true):=by
 have tc:=three_c I O l b d hI hO hl hlen hb hd
 obtain⟨p0,hp0⟩:∃ p,p=dprog (1+I%3) (1+O%3) l:=⟨_,rfl⟩
 rw[← hp0] at tc
 obtain⟨p1,hp1⟩:∃ p,p=bent b p0:=⟨_,rfl⟩
 rw[← hp1] at tc
 obtain⟨p2,hp2⟩:∃ p,p=bent d p1:=⟨_,rfl⟩
 rw[← hp2] at tc
 have wk:=wakes_c
 have co:=douts_c I O l hO
 have sc:=spans_c I O l xs hI hx hxb
 have hm:(min (R.length:Int) 5).toNat≤R.length:=by omega
 have fR:=fin_tk R _ hm
 refine V.en tbOk Tryz.func10 ?_
 refine V.r2 @jiD wk tc ?_
 refine jai ((0:Nat)) (fun k=>k≤3) (fun k=>3-k) (fun k=>[(31,.int .i64 k)]) (fun k=>[]) ?_ ?_ ?_
 ·exact V.wk
 ·exact jix _
 intro k hk
 try dsimp only at hk ⊢
 rcases (show k=0∨k=1∨k=2∨k=3 by omega) with rfl|rfl|rfl|rfl
 ·refine V.r1 @jiD sc ?_
  refine jai ((0:Nat)) (fun k=>k≤2) (fun k=>2-k) (fun k=>[(39,.int .i64 k)]) (fun k=>[]) ?_ ?_ ?_
  ·exact V.wk
  ·exact jix _
  intro m hm
  try dsimp only at hm ⊢
  rcases (show m=0∨m=1∨m=2 by omega) with rfl|rfl|rfl
  ·refine V.r1 @jiD co ?_
   refine jai ((0:Nat)) (fun k=>k≤2) (fun k=>2-k) (fun k=>[(46,.int .i64 k)]) (fun k=>[]) ?_ ?_ ?_
   ·exact V.wk
   ·exact jix _
   intro v hv
   try dsimp only at hv ⊢
   rcases (show v=0∨v=1∨v=2 by omega) with rfl|rfl|rfl
   ·obtain⟨r,e,hr,c1,c2⟩:=jcH p0 (spL xs (1+I%3).toNat) (1+O%3)
    have eq:=eqL_b r hr
    (conv=>whnf)
    (try simp only[jik])
    repeat ((first|refine V.s1 ?_|((try ((with_reducible refine .ext ?_);(conv=>whnf);(try simp only[jik])));(with_reducible refine jaa (r:=?_) ?_ ?_);rotate_left;(focus (first|exact(c1)|exact(c2)));(conv=>whnf))|((refine⟨_,fun _=>eq,?_⟩);(conv=>whnf)));(try simp only[jik]))
    refine Cnd.no (by simp) ?_
    refine V.r0 @jiD ?_
    exact⟨1,by omega,by omega,V.wk⟩
   ·obtain⟨r,e,hr,c1,c2⟩:=jcH p0 (spL xs (1+I%3).toNat) no
    have eq:=eqL_b r hr
    (conv=>whnf)
    (try simp only[jik])
    repeat ((first|refine V.s1 ?_|((try ((with_reducible refine .ext ?_);(conv=>whnf);(try simp only[jik])));(with_reducible refine jaa (r:=?_) ?_ ?_);rotate_left;(focus (first|exact(c1)|exact(c2)));(conv=>whnf))|((refine⟨_,fun _=>eq,?_⟩);(conv=>whnf)));(try simp only[jik]))
    refine Cnd.no (by simp) ?_
    refine V.r0 @jiD ?_
    exact⟨2,by omega,by omega,V.wk⟩
   ·refine V.r0 @jiD ?_
    exact⟨1,by omega,by omega,V.wk⟩
  ·refine V.r1 @jiD co ?_
   refine jai ((0:Nat)) (fun k=>k≤2) (fun k=>2-k) (fun k=>[(46,.int .i64 k)]) (fun k=>[]) ?_ ?_ ?_
   ·exact V.wk
   ·exact jix _
   intro v hv
   try dsimp only at hv ⊢
   rcases (show v=0∨v=1∨v=2 by omega) with rfl|rfl|rfl
   ·obtain⟨r,e,hr,c1,c2⟩:=jcH p0 (R.take (min (R.length:Int) 5).toNat) (1+O%3)
    have eq:=eqL_b r hr
    have c1:=arg3 c1 (Fin.same _) fR (Fin.same _)
    have c2:=arg3 c2 (Fin.same _) fR (Fin.same _)
    (conv=>whnf)
    (try simp only[jik])
    repeat ((first|refine V.s1 ?_|((try ((with_reducible refine .ext ?_);(conv=>whnf);(try simp only[jik])));(with_reducible refine jaa (r:=?_) ?_ ?_);rotate_left;(focus (first|exact(c1)|exact(c2)));(conv=>whnf))|((refine⟨_,fun _=>eq,?_⟩);(conv=>whnf)));(try simp only[jik]))
    refine Cnd.no (by simp) ?_
    refine V.r0 @jiD ?_
    exact⟨1,by omega,by omega,V.wk⟩
   ·obtain⟨r,e,hr,c1,c2⟩:=jcH p0 (R.take (min (R.length:Int) 5).toNat) no
    have eq:=eqL_b r hr
    have c1:=arg3 c1 (Fin.same _) fR (Fin.same _)
    have c2:=arg3 c2 (Fin.same _) fR (Fin.same _)
    (conv=>whnf)
    (try simp only[jik])
    repeat ((first|refine V.s1 ?_|((try ((with_reducible refine .ext ?_);(conv=>whnf);(try simp only[jik])));(with_reducible refine jaa (r:=?_) ?_ ?_);rotate_left;(focus (first|exact(c1)|exact(c2)));(conv=>whnf))|((refine⟨_,fun _=>eq,?_⟩);(conv=>whnf)));(try simp only[jik]))
    refine Cnd.no (by simp) ?_
    refine V.r0 @jiD ?_
    exact⟨2,by omega,by omega,V.wk⟩
   ·refine V.r0 @jiD ?_
    exact⟨2,by omega,by omega,V.wk⟩
  ·refine V.r0 @jiD ?_
   exact⟨1,by omega,by omega,V.wk⟩
 ·refine V.r1 @jiD sc ?_
  refine jai ((0:Nat)) (fun k=>k≤2) (fun k=>2-k) (fun k=>[(39,.int .i64 k)]) (fun k=>[]) ?_ ?_ ?_
  ·exact V.wk
  ·exact jix _
  intro m hm
  try dsimp only at hm ⊢
  rcases (show m=0∨m=1∨m=2 by omega) with rfl|rfl|rfl
  ·refine V.r1 @jiD co ?_
   refine jai ((0:Nat)) (fun k=>k≤2) (fun k=>2-k) (fun k=>[(46,.int .i64 k)]) (fun k=>[]) ?_ ?_ ?_
   ·exact V.wk
   ·exact jix _
   intro v hv
   try dsimp only at hv ⊢
   rcases (show v=0∨v=1∨v=2 by omega) with rfl|rfl|rfl
   ·obtain⟨r,e,hr,c1,c2⟩:=jcH p1 (spL xs (1+I%3).toNat) (1+O%3)
    have eq:=eqL_b r hr
    (conv=>whnf)
    (try simp only[jik])
    repeat ((first|refine V.s1 ?_|((try ((with_reducible refine .ext ?_);(conv=>whnf);(try simp only[jik])));(with_reducible refine jaa (r:=?_) ?_ ?_);rotate_left;(focus (first|exact(c1)|exact(c2)));(conv=>whnf))|((refine⟨_,fun _=>eq,?_⟩);(conv=>whnf)));(try simp only[jik]))
    refine Cnd.no (by simp) ?_
    refine V.r0 @jiD ?_
    exact⟨1,by omega,by omega,V.wk⟩
   ·obtain⟨r,e,hr,c1,c2⟩:=jcH p1 (spL xs (1+I%3).toNat) no
    have eq:=eqL_b r hr
    (conv=>whnf)
    (try simp only[jik])
    repeat ((first|refine V.s1 ?_|((try ((with_reducible refine .ext ?_);(conv=>whnf);(try simp only[jik])));(with_reducible refine jaa (r:=?_) ?_ ?_);rotate_left;(focus (first|exact(c1)|exact(c2)));(conv=>whnf))|((refine⟨_,fun _=>eq,?_⟩);(conv=>whnf)));(try simp only[jik]))
    refine Cnd.no (by simp) ?_
    refine V.r0 @jiD ?_
    exact⟨2,by omega,by omega,V.wk⟩
   ·refine V.r0 @jiD ?_
    exact⟨1,by omega,by omega,V.wk⟩
  ·refine V.r1 @jiD co ?_
   refine jai ((0:Nat)) (fun k=>k≤2) (fun k=>2-k) (fun k=>[(46,.int .i64 k)]) (fun k=>[]) ?_ ?_ ?_
   ·exact V.wk
   ·exact jix _
   intro v hv
   try dsimp only at hv ⊢
   rcases (show v=0∨v=1∨v=2 by omega) with rfl|rfl|rfl
   ·obtain⟨r,e,hr,c1,c2⟩:=jcH p1 (R.take (min (R.length:Int) 5).toNat) (1+O%3)
    have eq:=eqL_b r hr
    have c1:=arg3 c1 (Fin.same _) fR (Fin.same _)
    have c2:=arg3 c2 (Fin.same _) fR (Fin.same _)
    (conv=>whnf)
    (try simp only[jik])
    repeat ((first|refine V.s1 ?_|((try ((with_reducible refine .ext ?_);(conv=>whnf);(try simp only[jik])));(with_reducible refine jaa (r:=?_) ?_ ?_);rotate_left;(focus (first|exact(c1)|exact(c2)));(conv=>whnf))|((refine⟨_,fun _=>eq,?_⟩);(conv=>whnf)));(try simp only[jik]))
    refine Cnd.no (by simp) ?_
    refine V.r0 @jiD ?_
    exact⟨1,by omega,by omega,V.wk⟩
   ·obtain⟨r,e,hr,c1,c2⟩:=jcH p1 (R.take (min (R.length:Int) 5).toNat) no
    have eq:=eqL_b r hr
    have c1:=arg3 c1 (Fin.same _) fR (Fin.same _)
    have c2:=arg3 c2 (Fin.same _) fR (Fin.same _)
    (conv=>whnf)
    (try simp only[jik])
    repeat ((first|refine V.s1 ?_|((try ((with_reducible refine .ext ?_);(conv=>whnf);(try simp only[jik])));(with_reducible refine jaa (r:=?_) ?_ ?_);rotate_left;(focus (first|exact(c1)|exact(c2)));(conv=>whnf))|((refine⟨_,fun _=>eq,?_⟩);(conv=>whnf)));(try simp only[jik]))
    refine Cnd.no (by simp) ?_
    refine V.r0 @jiD ?_
    exact⟨2,by omega,by omega,V.wk⟩
   ·refine V.r0 @jiD ?_
    exact⟨2,by omega,by omega,V.wk⟩
  ·refine V.r0 @jiD ?_
   exact⟨2,by omega,by omega,V.wk⟩
 ·refine V.r1 @jiD sc ?_
  refine jai ((0:Nat)) (fun k=>k≤2) (fun k=>2-k) (fun k=>[(39,.int .i64 k)]) (fun k=>[]) ?_ ?_ ?_
  ·exact V.wk
  ·exact jix _
  intro m hm
  try dsimp only at hm ⊢
  rcases (show m=0∨m=1∨m=2 by omega) with rfl|rfl|rfl
  ·refine V.r1 @jiD co ?_
   refine jai ((0:Nat)) (fun k=>k≤2) (fun k=>2-k) (fun k=>[(46,.int .i64 k)]) (fun k=>[]) ?_ ?_ ?_
   ·exact V.wk
   ·exact jix _
   intro v hv
   try dsimp only at hv ⊢
   rcases (show v=0∨v=1∨v=2 by omega) with rfl|rfl|rfl
   ·obtain⟨r,e,hr,c1,c2⟩:=jcH p2 (spL xs (1+I%3).toNat) (1+O%3)
    have eq:=eqL_b r hr
    (conv=>whnf)
    (try simp only[jik])
    repeat ((first|refine V.s1 ?_|((try ((with_reducible refine .ext ?_);(conv=>whnf);(try simp only[jik])));(with_reducible refine jaa (r:=?_) ?_ ?_);rotate_left;(focus (first|exact(c1)|exact(c2)));(conv=>whnf))|((refine⟨_,fun _=>eq,?_⟩);(conv=>whnf)));(try simp only[jik]))
    refine Cnd.no (by simp) ?_
    refine V.r0 @jiD ?_
    exact⟨1,by omega,by omega,V.wk⟩
   ·obtain⟨r,e,hr,c1,c2⟩:=jcH p2 (spL xs (1+I%3).toNat) no
    have eq:=eqL_b r hr
    (conv=>whnf)
    (try simp only[jik])
    repeat ((first|refine V.s1 ?_|((try ((with_reducible refine .ext ?_);(conv=>whnf);(try simp only[jik])));(with_reducible refine jaa (r:=?_) ?_ ?_);rotate_left;(focus (first|exact(c1)|exact(c2)));(conv=>whnf))|((refine⟨_,fun _=>eq,?_⟩);(conv=>whnf)));(try simp only[jik]))
    refine Cnd.no (by simp) ?_
    refine V.r0 @jiD ?_
    exact⟨2,by omega,by omega,V.wk⟩
   ·refine V.r0 @jiD ?_
    exact⟨1,by omega,by omega,V.wk⟩
  ·refine V.r1 @jiD co ?_
   refine jai ((0:Nat)) (fun k=>k≤2) (fun k=>2-k) (fun k=>[(46,.int .i64 k)]) (fun k=>[]) ?_ ?_ ?_
   ·exact V.wk
   ·exact jix _
   intro v hv
   try dsimp only at hv ⊢
   rcases (show v=0∨v=1∨v=2 by omega) with rfl|rfl|rfl
   ·obtain⟨r,e,hr,c1,c2⟩:=jcH p2 (R.take (min (R.length:Int) 5).toNat) (1+O%3)
    have eq:=eqL_b r hr
    have c1:=arg3 c1 (Fin.same _) fR (Fin.same _)
    have c2:=arg3 c2 (Fin.same _) fR (Fin.same _)
    (conv=>whnf)
    (try simp only[jik])
    repeat ((first|refine V.s1 ?_|((try ((with_reducible refine .ext ?_);(conv=>whnf);(try simp only[jik])));(with_reducible refine jaa (r:=?_) ?_ ?_);rotate_left;(focus (first|exact(c1)|exact(c2)));(conv=>whnf))|((refine⟨_,fun _=>eq,?_⟩);(conv=>whnf)));(try simp only[jik]))
    refine Cnd.no (by simp) ?_
    refine V.r0 @jiD ?_
    exact⟨1,by omega,by omega,V.wk⟩
   ·obtain⟨r,e,hr,c1,c2⟩:=jcH p2 (R.take (min (R.length:Int) 5).toNat) no
    have eq:=eqL_b r hr
    have c1:=arg3 c1 (Fin.same _) fR (Fin.same _)
    have c2:=arg3 c2 (Fin.same _) fR (Fin.same _)
    (conv=>whnf)
    (try simp only[jik])
    repeat ((first|refine V.s1 ?_|((try ((with_reducible refine .ext ?_);(conv=>whnf);(try simp only[jik])));(with_reducible refine jaa (r:=?_) ?_ ?_);rotate_left;(focus (first|exact(c1)|exact(c2)));(conv=>whnf))|((refine⟨_,fun _=>eq,?_⟩);(conv=>whnf)));(try simp only[jik]))
    refine Cnd.no (by simp) ?_
    refine V.r0 @jiD ?_
    exact⟨2,by omega,by omega,V.wk⟩
   ·refine V.r0 @jiD ?_
    exact⟨2,by omega,by omega,V.wk⟩
  ·refine V.r0 @jiD ?_
   exact⟨3,by omega,by omega,V.wk⟩
 ·refine V.r0 @jiD ?_
  exact Fin.of rfl
end Go.Proofs.YtpkdedncgclblaaGreatDoor
end
