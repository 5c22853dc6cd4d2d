/- What functions of the program answer at given values, part 14. Conditions: those that each theorem names. -/
import Derived.Test.YtpkdedncgclblaaGreatDoorProgramRunsH13
import Derived.Test.YtpkdedncgclblaaGreatDoorProgramRunsH6
import Derived.Test.YtpkdedncgclblaaGreatDoorProgramRunsH11
import Derived.Test.YtpkdedncgclblaaGreatDoorProgramRunsH10
import Derived.Shelf.RegionOpenPlain
import Derived.Deep.LoopGhost
import Derived.Deep.RegionLaw
import Derived.Lib.Walk
import Derived.Lib.SliceRun
import Derived.Lib.JoinLaws
import Derived.Lib.AppendZeros
import Derived.Laws.IdiomCopy
set_option linter.unusedSimpArgs false
set_option linter.unusedVariables false
set_option maxHeartbeats 8000000
set_option maxRecDepth 100000
section
namespace Go.Proofs.YtpkdedncgclblaaGreatDoor
open Go Go.V Go.Nb
theorem jig:type_of% @jiA∧type_of% @jiy:=⟨@jiA,@jiy⟩
theorem rdB_neg (p:List (Int×Int))(x l:List (Int×Int))(u:(Int×Int))(k:Nat)(a:Int)(S T:Int)(e:Int)(hk:k<p.length)(hp:p.length≤40)(hca:p.getD k (0,0)=(8,a))(hl:l.length≤16)
  (cf:Cl 106 [.agg [.int .i64 u.1,.int .i64 u.2]] (.tup [.agg [.int .i64 S,.int .i64 T],.int .i64 e])) {K:K3}
  (hok:e=0 → ∀ L H,Wk 103 L H (slM p (k+1)) (hpB x (l.length+1) (bcl l++[.int .i64 S,.int .i64 T]))→K .normal L H)
  (hpan:e≠0 → ∀ L H,Wk 103 L H slE hpE→K (.panic [{ v := .iface 155 (.agg #[.int .i64 e]),recovered:=false }]) L H) :
  RunC Tryz.prog tb (inlN Tryz.prog tb 6) 42 ((jaF (Tryz.f52.body.getD .skip)).getD .skip) (fun _ _ _ _ _=>False) 103 (slM p k) (hpB x (l.length+1) (bcl (l++[u]))) K:=by
 have hkc:((k:Int)+1)=((k+1:Nat):Int):=by omega
 have hne:decide ((k:Int)=p.length)=false:=decide_eq_false (by omega)
 have pg:=jaA (l++[u])
 have tk:Cl 120 [.int .i64 8] (.tup [.int .i64 1,.bool true]):=jbl 8
 have hr:(((l.length+1:Nat):Int)-1)=(l.length:Nat):=by omega
 have hble:Nat.ble (0+(l.length+1)*2) (bcl (l++[u])).length=true:=by rw[jaU,ji0];simp
 have hsub:l.length+1-l.length=1:=by omega
 have hd0:∀ K,dropK (bcl (l++[u])) (l.length*2+Int.toNat 0*2) K=K (bcl [u]):=fun K=>jbt [u] K l
 (conv=>whnf)
 (try simp only[hne,jiA,hca])
 repeat ((first|refine V.s1 ?_|((try ((with_reducible refine .ext ?_);(conv=>whnf);(try simp only[hne,jiA,hca])));(with_reducible refine jaa (r:=?_) ?_ ?_);rotate_left;(focus (first|fail));(conv=>whnf))|(((simp only[pg];(conv=>whnf)));(conv=>whnf)));(try simp only[hne,jiA,hca]))
 refine .inl ?_
 (conv=>whnf)
 refine⟨0,_,_,⟨Tryz.func116,rfl,rfl,jis rfl⟩,?_⟩
 (conv=>whnf)
 (conv=>whnf)
 (try simp only[jiA])
 repeat ((first|refine V.s1 ?_|((try ((with_reducible refine .ext ?_);(conv=>whnf);(try simp only[jiA])));(with_reducible refine jaa (r:=?_) ?_ ?_);rotate_left;(focus (first|exact(tk)));(conv=>whnf))|(((simp only[pg];(conv=>whnf)));(conv=>whnf)));(try simp only[jiA]))
 refine .inl ?_
 (conv=>whnf)
 refine⟨0,_,_,⟨Tryz.func196,rfl,rfl,jis rfl⟩,?_⟩
 (conv=>whnf)
 (conv=>whnf)
 (try simp only[hr,jiA])
 repeat ((first|refine V.s1 ?_|((try ((with_reducible refine .ext ?_);(conv=>whnf);(try simp only[hr,jiA])));(with_reducible refine jaa (r:=?_) ?_ ?_);rotate_left;(focus (first|exact(tk)));(conv=>whnf))|(((simp only[pg];(conv=>whnf)));(conv=>whnf))|(((simp only[hr,jiA,hsub];(conv=>whnf)));(conv=>whnf))|(((simp only[hble];(conv=>whnf)));(conv=>whnf)));(try simp only[hr,jiA]))
 refine⟨Pq8z,[],V.pok,.go (jab ?_)⟩
 (conv=>whnf)
 (try simp only[jiA])
 repeat ((first|refine V.s1 ?_|((try ((with_reducible refine .ext ?_);(conv=>whnf);(try simp only[jiA])));(with_reducible refine jaa (r:=?_) ?_ ?_);rotate_left;(focus (first|fail));(conv=>whnf))|(((simp only[pg];(conv=>whnf)));(conv=>whnf)));(try simp only[jiA]))
 refine .inl ?_
 (conv=>whnf)
 refine⟨0,_,_,⟨Tryz.func190,rfl,rfl,jis rfl⟩,?_⟩
 (conv=>whnf)
 (conv=>whnf)
 (try simp only[jiA])
 repeat ((first|refine V.s1 ?_|((try ((with_reducible refine .ext ?_);(conv=>whnf);(try simp only[jiA])));(with_reducible refine jaa (r:=?_) ?_ ?_);rotate_left;(focus (first|fail));(conv=>whnf))|(((simp only[pg];(conv=>whnf)));(conv=>whnf)));(try simp only[jiA]))
 refine⟨Pq38z,[],V.pok,.go (jab ?_)⟩
 (conv=>whnf)
 (try simp only[jig])
 repeat ((first|refine V.s1 ?_|((try ((with_reducible refine .ext ?_);(conv=>whnf);(try simp only[jig])));(with_reducible refine jaa (r:=?_) ?_ ?_);rotate_left;(focus (first|exact(cf)));(conv=>whnf))|(((simp only[pg];(conv=>whnf)));(conv=>whnf))|(((simp only[hd0];(conv=>whnf)));(conv=>whnf)));(try simp only[jig]))
 refine .inl ?_
 (conv=>whnf)
 refine⟨0,_,_,⟨Tryz.func195,rfl,rfl,jis rfl⟩,?_⟩
 (conv=>whnf)
 (conv=>whnf)
 (try simp only[jiA])
 repeat ((first|refine V.s1 ?_|((try ((with_reducible refine .ext ?_);(conv=>whnf);(try simp only[jiA])));(with_reducible refine jaa (r:=?_) ?_ ?_);rotate_left;(focus (first|fail));(conv=>whnf))|(((simp only[pg];(conv=>whnf)));(conv=>whnf)));(try simp only[jiA]))
 by_cases he:e=0
 ·refine jbP [(0,.box 58 0),(4,.box 200 0)] [(58,.box [.bsl 145 0 l.length 2,inB x,.fn 97 [] [],.mapr 44]),(145,.box (bcl l)),(200,.box [.int .i64 S,.int .i64 T]),(44,.mp esB),(114,.mp stepsB),(64,.box [.nil]),(65,.box [.int .i64 0])] (CondB.mk (fun h=>absurd he (by simpa using h)) (fun _=>?_)) ?_
  ·(conv=>whnf)
   exact Wk.trim 145 (l.length*2) rfl (Wk.same 145 rfl (jcL l [u]) V.wk)
  ·have pg:=jaA l
   have hb:=jby l
   have ht:=jaO hl
   have hf:∀ i,D.freeL i (bcl l++[.int .i64 S,.int .i64 T])=true:=jaB l _ _
   (conv=>whnf)
   refine⟨Pq22z,[],V.pok,.go (jab ?_)⟩
   (conv=>whnf)
   (try simp only[jiA,hkc])
   repeat ((first|refine V.s1 ?_|((try ((with_reducible refine .ext ?_);(conv=>whnf);(try simp only[jiA,hkc])));(with_reducible refine jaa (r:=?_) ?_ ?_);rotate_left;(focus (first|fail));(conv=>whnf))|(((simp only[pg];(conv=>whnf)));(conv=>whnf))|(((simp only[hb,ht,jju,hf];(conv=>whnf)));(conv=>whnf)));(try simp only[jiA,hkc]))
   refine hok he _ _ (Wk.renB 214 145 58 0 (l.length+1) 2 (by decide) (by decide) (by decide) (hf _) rfl rfl rfl ?_)
   exact V.wk
 ·refine Cnd.split (CondB.mk (fun _=>?_) (fun h=>absurd (by simpa using h) he))
  refine V.r0 @jiA ?_
  exact hpan he _ _ V.wk
theorem rdB_abs (p:List (Int×Int))(x l:List (Int×Int))(u:(Int×Int))(k:Nat)(a:Int)(S T:Int)(e:Int)(hk:k<p.length)(hp:p.length≤40)(hca:p.getD k (0,0)=(9,a))(hl:l.length≤16)
  (cf:Cl 107 [.agg [.int .i64 u.1,.int .i64 u.2]] (.tup [.agg [.int .i64 S,.int .i64 T],.int .i64 e])) {K:K3}
  (hok:e=0 → ∀ L H,Wk 103 L H (slM p (k+1)) (hpB x (l.length+1) (bcl l++[.int .i64 S,.int .i64 T]))→K .normal L H)
  (hpan:e≠0 → ∀ L H,Wk 103 L H slE hpE→K (.panic [{ v := .iface 155 (.agg #[.int .i64 e]),recovered:=false }]) L H) :
  RunC Tryz.prog tb (inlN Tryz.prog tb 6) 42 ((jaF (Tryz.f52.body.getD .skip)).getD .skip) (fun _ _ _ _ _=>False) 103 (slM p k) (hpB x (l.length+1) (bcl (l++[u]))) K:=by
 have hkc:((k:Int)+1)=((k+1:Nat):Int):=by omega
 have hne:decide ((k:Int)=p.length)=false:=decide_eq_false (by omega)
 have pg:=jaA (l++[u])
 have tk:Cl 120 [.int .i64 9] (.tup [.int .i64 1,.bool true]):=jbl 9
 have hr:(((l.length+1:Nat):Int)-1)=(l.length:Nat):=by omega
 have hble:Nat.ble (0+(l.length+1)*2) (bcl (l++[u])).length=true:=by rw[jaU,ji0];simp
 have hsub:l.length+1-l.length=1:=by omega
 have hd0:∀ K,dropK (bcl (l++[u])) (l.length*2+Int.toNat 0*2) K=K (bcl [u]):=fun K=>jbt [u] K l
 (conv=>whnf)
 (try simp only[hne,jiA,hca])
 repeat ((first|refine V.s1 ?_|((try ((with_reducible refine .ext ?_);(conv=>whnf);(try simp only[hne,jiA,hca])));(with_reducible refine jaa (r:=?_) ?_ ?_);rotate_left;(focus (first|fail));(conv=>whnf))|(((simp only[pg];(conv=>whnf)));(conv=>whnf)));(try simp only[hne,jiA,hca]))
 refine .inl ?_
 (conv=>whnf)
 refine⟨0,_,_,⟨Tryz.func116,rfl,rfl,jis rfl⟩,?_⟩
 (conv=>whnf)
 (conv=>whnf)
 (try simp only[jiA])
 repeat ((first|refine V.s1 ?_|((try ((with_reducible refine .ext ?_);(conv=>whnf);(try simp only[jiA])));(with_reducible refine jaa (r:=?_) ?_ ?_);rotate_left;(focus (first|exact(tk)));(conv=>whnf))|(((simp only[pg];(conv=>whnf)));(conv=>whnf)));(try simp only[jiA]))
 refine .inl ?_
 (conv=>whnf)
 refine⟨0,_,_,⟨Tryz.func196,rfl,rfl,jis rfl⟩,?_⟩
 (conv=>whnf)
 (conv=>whnf)
 (try simp only[hr,jiA])
 repeat ((first|refine V.s1 ?_|((try ((with_reducible refine .ext ?_);(conv=>whnf);(try simp only[hr,jiA])));(with_reducible refine jaa (r:=?_) ?_ ?_);rotate_left;(focus (first|exact(tk)));(conv=>whnf))|(((simp only[pg];(conv=>whnf)));(conv=>whnf))|(((simp only[hr,jiA,hsub];(conv=>whnf)));(conv=>whnf))|(((simp only[hble];(conv=>whnf)));(conv=>whnf)));(try simp only[hr,jiA]))
 refine⟨Pq8z,[],V.pok,.go (jab ?_)⟩
 (conv=>whnf)
 (try simp only[jiA])
 repeat ((first|refine V.s1 ?_|((try ((with_reducible refine .ext ?_);(conv=>whnf);(try simp only[jiA])));(with_reducible refine jaa (r:=?_) ?_ ?_);rotate_left;(focus (first|fail));(conv=>whnf))|(((simp only[pg];(conv=>whnf)));(conv=>whnf)));(try simp only[jiA]))
 refine .inl ?_
 (conv=>whnf)
 refine⟨0,_,_,⟨Tryz.func190,rfl,rfl,jis rfl⟩,?_⟩
 (conv=>whnf)
 (conv=>whnf)
 (try simp only[jiA])
 repeat ((first|refine V.s1 ?_|((try ((with_reducible refine .ext ?_);(conv=>whnf);(try simp only[jiA])));(with_reducible refine jaa (r:=?_) ?_ ?_);rotate_left;(focus (first|fail));(conv=>whnf))|(((simp only[pg];(conv=>whnf)));(conv=>whnf)));(try simp only[jiA]))
 refine⟨Pq38z,[],V.pok,.go (jab ?_)⟩
 (conv=>whnf)
 (try simp only[jig])
 repeat ((first|refine V.s1 ?_|((try ((with_reducible refine .ext ?_);(conv=>whnf);(try simp only[jig])));(with_reducible refine jaa (r:=?_) ?_ ?_);rotate_left;(focus (first|exact(cf)));(conv=>whnf))|(((simp only[pg];(conv=>whnf)));(conv=>whnf))|(((simp only[hd0];(conv=>whnf)));(conv=>whnf)));(try simp only[jig]))
 refine .inl ?_
 (conv=>whnf)
 refine⟨0,_,_,⟨Tryz.func195,rfl,rfl,jis rfl⟩,?_⟩
 (conv=>whnf)
 (conv=>whnf)
 (try simp only[jiA])
 repeat ((first|refine V.s1 ?_|((try ((with_reducible refine .ext ?_);(conv=>whnf);(try simp only[jiA])));(with_reducible refine jaa (r:=?_) ?_ ?_);rotate_left;(focus (first|fail));(conv=>whnf))|(((simp only[pg];(conv=>whnf)));(conv=>whnf)));(try simp only[jiA]))
 by_cases he:e=0
 ·refine jbP [(0,.box 58 0),(4,.box 200 0)] [(58,.box [.bsl 145 0 l.length 2,inB x,.fn 97 [] [],.mapr 44]),(145,.box (bcl l)),(200,.box [.int .i64 S,.int .i64 T]),(44,.mp esB),(114,.mp stepsB),(64,.box [.nil]),(65,.box [.int .i64 0])] (CondB.mk (fun h=>absurd he (by simpa using h)) (fun _=>?_)) ?_
  ·(conv=>whnf)
   exact Wk.trim 145 (l.length*2) rfl (Wk.same 145 rfl (jcL l [u]) V.wk)
  ·have pg:=jaA l
   have hb:=jby l
   have ht:=jaO hl
   have hf:∀ i,D.freeL i (bcl l++[.int .i64 S,.int .i64 T])=true:=jaB l _ _
   (conv=>whnf)
   refine⟨Pq22z,[],V.pok,.go (jab ?_)⟩
   (conv=>whnf)
   (try simp only[jiA,hkc])
   repeat ((first|refine V.s1 ?_|((try ((with_reducible refine .ext ?_);(conv=>whnf);(try simp only[jiA,hkc])));(with_reducible refine jaa (r:=?_) ?_ ?_);rotate_left;(focus (first|fail));(conv=>whnf))|(((simp only[pg];(conv=>whnf)));(conv=>whnf))|(((simp only[hb,ht,jju,hf];(conv=>whnf)));(conv=>whnf)));(try simp only[jiA,hkc]))
   refine hok he _ _ (Wk.renB 214 145 58 0 (l.length+1) 2 (by decide) (by decide) (by decide) (hf _) rfl rfl rfl ?_)
   exact V.wk
 ·refine Cnd.split (CondB.mk (fun _=>?_) (fun h=>absurd (by simpa using h) he))
  refine V.r0 @jiA ?_
  exact hpan he _ _ V.wk
theorem rdB_clamp (p:List (Int×Int))(x l:List (Int×Int))(u:(Int×Int))(k:Nat)(a:Int)(S T:Int)(e:Int)(hk:k<p.length)(hp:p.length≤40)(hca:p.getD k (0,0)=(12,a))(hl:l.length≤16)
  (cf:Cl 110 [.agg [.int .i64 u.1,.int .i64 u.2]] (.tup [.agg [.int .i64 S,.int .i64 T],.int .i64 e])) {K:K3}
  (hok:e=0 → ∀ L H,Wk 103 L H (slM p (k+1)) (hpB x (l.length+1) (bcl l++[.int .i64 S,.int .i64 T]))→K .normal L H)
  (hpan:e≠0 → ∀ L H,Wk 103 L H slE hpE→K (.panic [{ v := .iface 155 (.agg #[.int .i64 e]),recovered:=false }]) L H) :
  RunC Tryz.prog tb (inlN Tryz.prog tb 6) 42 ((jaF (Tryz.f52.body.getD .skip)).getD .skip) (fun _ _ _ _ _=>False) 103 (slM p k) (hpB x (l.length+1) (bcl (l++[u]))) K:=by
 have hkc:((k:Int)+1)=((k+1:Nat):Int):=by omega
 have hne:decide ((k:Int)=p.length)=false:=decide_eq_false (by omega)
 have pg:=jaA (l++[u])
 have tk:Cl 120 [.int .i64 12] (.tup [.int .i64 1,.bool true]):=jbl 12
 have hr:(((l.length+1:Nat):Int)-1)=(l.length:Nat):=by omega
 have hble:Nat.ble (0+(l.length+1)*2) (bcl (l++[u])).length=true:=by rw[jaU,ji0];simp
 have hsub:l.length+1-l.length=1:=by omega
 have hd0:∀ K,dropK (bcl (l++[u])) (l.length*2+Int.toNat 0*2) K=K (bcl [u]):=fun K=>jbt [u] K l
 (conv=>whnf)
 (try simp only[hne,jiA,hca])
 repeat ((first|refine V.s1 ?_|((try ((with_reducible refine .ext ?_);(conv=>whnf);(try simp only[hne,jiA,hca])));(with_reducible refine jaa (r:=?_) ?_ ?_);rotate_left;(focus (first|fail));(conv=>whnf))|(((simp only[pg];(conv=>whnf)));(conv=>whnf)));(try simp only[hne,jiA,hca]))
 refine .inl ?_
 (conv=>whnf)
 refine⟨0,_,_,⟨Tryz.func116,rfl,rfl,jis rfl⟩,?_⟩
 (conv=>whnf)
 (conv=>whnf)
 (try simp only[jiA])
 repeat ((first|refine V.s1 ?_|((try ((with_reducible refine .ext ?_);(conv=>whnf);(try simp only[jiA])));(with_reducible refine jaa (r:=?_) ?_ ?_);rotate_left;(focus (first|exact(tk)));(conv=>whnf))|(((simp only[pg];(conv=>whnf)));(conv=>whnf)));(try simp only[jiA]))
 refine .inl ?_
 (conv=>whnf)
 refine⟨0,_,_,⟨Tryz.func196,rfl,rfl,jis rfl⟩,?_⟩
 (conv=>whnf)
 (conv=>whnf)
 (try simp only[hr,jiA])
 repeat ((first|refine V.s1 ?_|((try ((with_reducible refine .ext ?_);(conv=>whnf);(try simp only[hr,jiA])));(with_reducible refine jaa (r:=?_) ?_ ?_);rotate_left;(focus (first|exact(tk)));(conv=>whnf))|(((simp only[pg];(conv=>whnf)));(conv=>whnf))|(((simp only[hr,jiA,hsub];(conv=>whnf)));(conv=>whnf))|(((simp only[hble];(conv=>whnf)));(conv=>whnf)));(try simp only[hr,jiA]))
 refine⟨Pq8z,[],V.pok,.go (jab ?_)⟩
 (conv=>whnf)
 (try simp only[jiA])
 repeat ((first|refine V.s1 ?_|((try ((with_reducible refine .ext ?_);(conv=>whnf);(try simp only[jiA])));(with_reducible refine jaa (r:=?_) ?_ ?_);rotate_left;(focus (first|fail));(conv=>whnf))|(((simp only[pg];(conv=>whnf)));(conv=>whnf)));(try simp only[jiA]))
 refine .inl ?_
 (conv=>whnf)
 refine⟨0,_,_,⟨Tryz.func190,rfl,rfl,jis rfl⟩,?_⟩
 (conv=>whnf)
 (conv=>whnf)
 (try simp only[jiA])
 repeat ((first|refine V.s1 ?_|((try ((with_reducible refine .ext ?_);(conv=>whnf);(try simp only[jiA])));(with_reducible refine jaa (r:=?_) ?_ ?_);rotate_left;(focus (first|fail));(conv=>whnf))|(((simp only[pg];(conv=>whnf)));(conv=>whnf)));(try simp only[jiA]))
 refine⟨Pq38z,[],V.pok,.go (jab ?_)⟩
 (conv=>whnf)
 (try simp only[jig])
 repeat ((first|refine V.s1 ?_|((try ((with_reducible refine .ext ?_);(conv=>whnf);(try simp only[jig])));(with_reducible refine jaa (r:=?_) ?_ ?_);rotate_left;(focus (first|exact(cf)));(conv=>whnf))|(((simp only[pg];(conv=>whnf)));(conv=>whnf))|(((simp only[hd0];(conv=>whnf)));(conv=>whnf)));(try simp only[jig]))
 refine .inl ?_
 (conv=>whnf)
 refine⟨0,_,_,⟨Tryz.func195,rfl,rfl,jis rfl⟩,?_⟩
 (conv=>whnf)
 (conv=>whnf)
 (try simp only[jiA])
 repeat ((first|refine V.s1 ?_|((try ((with_reducible refine .ext ?_);(conv=>whnf);(try simp only[jiA])));(with_reducible refine jaa (r:=?_) ?_ ?_);rotate_left;(focus (first|fail));(conv=>whnf))|(((simp only[pg];(conv=>whnf)));(conv=>whnf)));(try simp only[jiA]))
 by_cases he:e=0
 ·refine jbP [(0,.box 58 0),(4,.box 200 0)] [(58,.box [.bsl 145 0 l.length 2,inB x,.fn 97 [] [],.mapr 44]),(145,.box (bcl l)),(200,.box [.int .i64 S,.int .i64 T]),(44,.mp esB),(114,.mp stepsB),(64,.box [.nil]),(65,.box [.int .i64 0])] (CondB.mk (fun h=>absurd he (by simpa using h)) (fun _=>?_)) ?_
  ·(conv=>whnf)
   exact Wk.trim 145 (l.length*2) rfl (Wk.same 145 rfl (jcL l [u]) V.wk)
  ·have pg:=jaA l
   have hb:=jby l
   have ht:=jaO hl
   have hf:∀ i,D.freeL i (bcl l++[.int .i64 S,.int .i64 T])=true:=jaB l _ _
   (conv=>whnf)
   refine⟨Pq22z,[],V.pok,.go (jab ?_)⟩
   (conv=>whnf)
   (try simp only[jiA,hkc])
   repeat ((first|refine V.s1 ?_|((try ((with_reducible refine .ext ?_);(conv=>whnf);(try simp only[jiA,hkc])));(with_reducible refine jaa (r:=?_) ?_ ?_);rotate_left;(focus (first|fail));(conv=>whnf))|(((simp only[pg];(conv=>whnf)));(conv=>whnf))|(((simp only[hb,ht,jju,hf];(conv=>whnf)));(conv=>whnf)));(try simp only[jiA,hkc]))
   refine hok he _ _ (Wk.renB 214 145 58 0 (l.length+1) 2 (by decide) (by decide) (by decide) (hf _) rfl rfl rfl ?_)
   exact V.wk
 ·refine Cnd.split (CondB.mk (fun _=>?_) (fun h=>absurd (by simpa using h) he))
  refine V.r0 @jiA ?_
  exact hpan he _ _ V.wk
theorem rdB_pick0 (p:List (Int×Int))(x l:List (Int×Int))(u v w:(Int×Int))(k:Nat)(a:Int)(hk:k<p.length)(hp:p.length≤40)(hca:p.getD k (0,0)=(10,a))(hl:l.length≤16)
  (hs:decide (w.1≥0)=true) {K:K3}
  (hok:∀ L H,Wk 103 L H (slM p (k+1)) (hpB x (l.length+1) (bcl l++[.int .i64 u.1,.int .i64 u.2]))→K .normal L H) :
  RunC Tryz.prog tb (inlN Tryz.prog tb 6) 42 ((jaF (Tryz.f52.body.getD .skip)).getD .skip) (fun _ _ _ _ _=>False) 103 (slM p k) (hpB x (l.length+3) (bcl (l++[u,v,w]))) K:=by
 have hkc:((k:Int)+1)=((k+1:Nat):Int):=by omega
 have hne:decide ((k:Int)=p.length)=false:=decide_eq_false (by omega)
 have pg:=jaA (l++[u,v,w])
 have tk:Cl 120 [.int .i64 10] (.tup [.int .i64 3,.bool true]):=jbl 10
 have hr:(((l.length+3:Nat):Int)-3)=(l.length:Nat):=by omega
 have hble:Nat.ble (0+(l.length+3)*2) (bcl (l++[u,v,w])).length=true:=by rw[jaU,ji0];simp
 have hsub:l.length+3-l.length=3:=by omega
 have hd0:∀ K,dropK (bcl (l++[u,v,w])) (l.length*2+Int.toNat 0*2) K=K (bcl [u,v,w]):=fun K=>jbt [u,v,w] K l
 have hd1:∀ K,dropK (bcl (l++[u,v,w])) (l.length*2+Int.toNat 1*2) K=K (bcl [v,w]):=fun K=>jdM l [v,w] u K
 have hd2:∀ K,dropK (bcl (l++[u,v,w])) (l.length*2+Int.toNat 2*2) K=K (bcl [w]):=fun K=>jfm l [w] u v K
 have hn0:∀ K,nthK (bcl (l++[u,v,w])) (l.length*2+Int.toNat 2*2+0) K=K (.int .i64 w.1):=fun K=>by rw[jaM];exact jdl _ 4 K l
 have hn1:∀ K,nthK (bcl (l++[u,v,w])) (l.length*2+Int.toNat 2*2+1) K=K (.int .i64 w.2):=fun K=>by rw[jaM];exact jdl _ 5 K l
 (conv=>whnf)
 (try simp only[hne,jiA,hca])
 repeat ((first|refine V.s1 ?_|((try ((with_reducible refine .ext ?_);(conv=>whnf);(try simp only[hne,jiA,hca])));(with_reducible refine jaa (r:=?_) ?_ ?_);rotate_left;(focus (first|fail));(conv=>whnf))|(((simp only[pg];(conv=>whnf)));(conv=>whnf)));(try simp only[hne,jiA,hca]))
 refine .inl ?_
 (conv=>whnf)
 refine⟨0,_,_,⟨Tryz.func116,rfl,rfl,jis rfl⟩,?_⟩
 (conv=>whnf)
 (conv=>whnf)
 (try simp only[jiA])
 repeat ((first|refine V.s1 ?_|((try ((with_reducible refine .ext ?_);(conv=>whnf);(try simp only[jiA])));(with_reducible refine jaa (r:=?_) ?_ ?_);rotate_left;(focus (first|exact(tk)));(conv=>whnf))|(((simp only[pg];(conv=>whnf)));(conv=>whnf)));(try simp only[jiA]))
 refine .inl ?_
 (conv=>whnf)
 refine⟨0,_,_,⟨Tryz.func196,rfl,rfl,jis rfl⟩,?_⟩
 (conv=>whnf)
 (conv=>whnf)
 (try simp only[hr,jiA])
 repeat ((first|refine V.s1 ?_|((try ((with_reducible refine .ext ?_);(conv=>whnf);(try simp only[hr,jiA])));(with_reducible refine jaa (r:=?_) ?_ ?_);rotate_left;(focus (first|exact(tk)));(conv=>whnf))|(((simp only[pg];(conv=>whnf)));(conv=>whnf))|(((simp only[hr,jiA,hsub];(conv=>whnf)));(conv=>whnf))|(((simp only[hble];(conv=>whnf)));(conv=>whnf)));(try simp only[hr,jiA]))
 refine⟨Pq8z,[],V.pok,.go (jab ?_)⟩
 (conv=>whnf)
 (try simp only[jiA])
 repeat ((first|refine V.s1 ?_|((try ((with_reducible refine .ext ?_);(conv=>whnf);(try simp only[jiA])));(with_reducible refine jaa (r:=?_) ?_ ?_);rotate_left;(focus (first|fail));(conv=>whnf))|(((simp only[pg];(conv=>whnf)));(conv=>whnf)));(try simp only[jiA]))
 refine .inl ?_
 (conv=>whnf)
 refine⟨0,_,_,⟨Tryz.func108,rfl,rfl,jis rfl⟩,?_⟩
 (conv=>whnf)
 (conv=>whnf)
 (try simp only[jig,hs])
 repeat ((first|refine V.s1 ?_|((try ((with_reducible refine .ext ?_);(conv=>whnf);(try simp only[jig,hs])));(with_reducible refine jaa (r:=?_) ?_ ?_);rotate_left;(focus (first|fail));(conv=>whnf))|(((simp only[pg];(conv=>whnf)));(conv=>whnf))|(((simp only[hd0];(conv=>whnf)));(conv=>whnf))|(((simp only[hd1];(conv=>whnf)));(conv=>whnf))|(((rewrite [hn0];(conv=>whnf)));(conv=>whnf))|(((rewrite [hn1];(conv=>whnf)));(conv=>whnf)));(try simp only[jig,hs]))
 refine .inl ?_
 (conv=>whnf)
 refine⟨0,_,_,⟨Tryz.func195,rfl,rfl,jis rfl⟩,?_⟩
 (conv=>whnf)
 repeat (simp only[pg];(conv=>whnf))
 refine jbP [(0,.box 58 0),(4,.box 200 0)] [(58,.box [.bsl 145 0 l.length 2,inB x,.fn 97 [] [],.mapr 44]),(145,.box (bcl l)),(200,.box [.int .i64 u.1,.int .i64 u.2]),(44,.mp esB),(114,.mp stepsB),(64,.box [.nil]),(65,.box [.int .i64 0])] (CondB.mk (fun h=>by simp at h) (fun _=>?_)) ?_
 ·(conv=>whnf)
  exact Wk.trim 145 (l.length*2) rfl (Wk.same 145 rfl (jcL l [u,v,w]) V.wk)
 ·have pg:=jaA l
  have hb:=jby l
  have ht:=jaO hl
  have hf:∀ i,D.freeL i (bcl l++[.int .i64 u.1,.int .i64 u.2])=true:=jaB l _ _
  (conv=>whnf)
  refine⟨Pq22z,[],V.pok,.go (jab ?_)⟩
  (conv=>whnf)
  (try simp only[jiA,hkc])
  repeat ((first|refine V.s1 ?_|((try ((with_reducible refine .ext ?_);(conv=>whnf);(try simp only[jiA,hkc])));(with_reducible refine jaa (r:=?_) ?_ ?_);rotate_left;(focus (first|fail));(conv=>whnf))|(((simp only[pg];(conv=>whnf)));(conv=>whnf))|(((simp only[hb,ht,jju,hf];(conv=>whnf)));(conv=>whnf)));(try simp only[jiA,hkc]))
  refine hok _ _ (Wk.renB 214 145 58 0 (l.length+1) 2 (by decide) (by decide) (by decide) (hf _) rfl rfl rfl ?_)
  exact V.wk
theorem rdB_pick1 (p:List (Int×Int))(x l:List (Int×Int))(u v w:(Int×Int))(k:Nat)(a:Int)(hk:k<p.length)(hp:p.length≤40)(hca:p.getD k (0,0)=(10,a))(hl:l.length≤16)
  (hs:decide (w.1≥0)=false) (ht:decide (w.2<0)=true) {K:K3}
  (hok:∀ L H,Wk 103 L H (slM p (k+1)) (hpB x (l.length+1) (bcl l++[.int .i64 v.1,.int .i64 v.2]))→K .normal L H) :
  RunC Tryz.prog tb (inlN Tryz.prog tb 6) 42 ((jaF (Tryz.f52.body.getD .skip)).getD .skip) (fun _ _ _ _ _=>False) 103 (slM p k) (hpB x (l.length+3) (bcl (l++[u,v,w]))) K:=by
 have hkc:((k:Int)+1)=((k+1:Nat):Int):=by omega
 have hne:decide ((k:Int)=p.length)=false:=decide_eq_false (by omega)
 have pg:=jaA (l++[u,v,w])
 have tk:Cl 120 [.int .i64 10] (.tup [.int .i64 3,.bool true]):=jbl 10
 have hr:(((l.length+3:Nat):Int)-3)=(l.length:Nat):=by omega
 have hble:Nat.ble (0+(l.length+3)*2) (bcl (l++[u,v,w])).length=true:=by rw[jaU,ji0];simp
 have hsub:l.length+3-l.length=3:=by omega
 have hd0:∀ K,dropK (bcl (l++[u,v,w])) (l.length*2+Int.toNat 0*2) K=K (bcl [u,v,w]):=fun K=>jbt [u,v,w] K l
 have hd1:∀ K,dropK (bcl (l++[u,v,w])) (l.length*2+Int.toNat 1*2) K=K (bcl [v,w]):=fun K=>jdM l [v,w] u K
 have hd2:∀ K,dropK (bcl (l++[u,v,w])) (l.length*2+Int.toNat 2*2) K=K (bcl [w]):=fun K=>jfm l [w] u v K
 have hn0:∀ K,nthK (bcl (l++[u,v,w])) (l.length*2+Int.toNat 2*2+0) K=K (.int .i64 w.1):=fun K=>by rw[jaM];exact jdl _ 4 K l
 have hn1:∀ K,nthK (bcl (l++[u,v,w])) (l.length*2+Int.toNat 2*2+1) K=K (.int .i64 w.2):=fun K=>by rw[jaM];exact jdl _ 5 K l
 (conv=>whnf)
 (try simp only[hne,jiA,hca])
 repeat ((first|refine V.s1 ?_|((try ((with_reducible refine .ext ?_);(conv=>whnf);(try simp only[hne,jiA,hca])));(with_reducible refine jaa (r:=?_) ?_ ?_);rotate_left;(focus (first|fail));(conv=>whnf))|(((simp only[pg];(conv=>whnf)));(conv=>whnf)));(try simp only[hne,jiA,hca]))
 refine .inl ?_
 (conv=>whnf)
 refine⟨0,_,_,⟨Tryz.func116,rfl,rfl,jis rfl⟩,?_⟩
 (conv=>whnf)
 (conv=>whnf)
 (try simp only[jiA])
 repeat ((first|refine V.s1 ?_|((try ((with_reducible refine .ext ?_);(conv=>whnf);(try simp only[jiA])));(with_reducible refine jaa (r:=?_) ?_ ?_);rotate_left;(focus (first|exact(tk)));(conv=>whnf))|(((simp only[pg];(conv=>whnf)));(conv=>whnf)));(try simp only[jiA]))
 refine .inl ?_
 (conv=>whnf)
 refine⟨0,_,_,⟨Tryz.func196,rfl,rfl,jis rfl⟩,?_⟩
 (conv=>whnf)
 (conv=>whnf)
 (try simp only[hr,jiA])
 repeat ((first|refine V.s1 ?_|((try ((with_reducible refine .ext ?_);(conv=>whnf);(try simp only[hr,jiA])));(with_reducible refine jaa (r:=?_) ?_ ?_);rotate_left;(focus (first|exact(tk)));(conv=>whnf))|(((simp only[pg];(conv=>whnf)));(conv=>whnf))|(((simp only[hr,jiA,hsub];(conv=>whnf)));(conv=>whnf))|(((simp only[hble];(conv=>whnf)));(conv=>whnf)));(try simp only[hr,jiA]))
 refine⟨Pq8z,[],V.pok,.go (jab ?_)⟩
 (conv=>whnf)
 (try simp only[jiA])
 repeat ((first|refine V.s1 ?_|((try ((with_reducible refine .ext ?_);(conv=>whnf);(try simp only[jiA])));(with_reducible refine jaa (r:=?_) ?_ ?_);rotate_left;(focus (first|fail));(conv=>whnf))|(((simp only[pg];(conv=>whnf)));(conv=>whnf)));(try simp only[jiA]))
 refine .inl ?_
 (conv=>whnf)
 refine⟨0,_,_,⟨Tryz.func108,rfl,rfl,jis rfl⟩,?_⟩
 (conv=>whnf)
 (conv=>whnf)
 (try simp only[jig,hs,ht])
 repeat ((first|refine V.s1 ?_|((try ((with_reducible refine .ext ?_);(conv=>whnf);(try simp only[jig,hs,ht])));(with_reducible refine jaa (r:=?_) ?_ ?_);rotate_left;(focus (first|fail));(conv=>whnf))|(((simp only[pg];(conv=>whnf)));(conv=>whnf))|(((simp only[hd0];(conv=>whnf)));(conv=>whnf))|(((simp only[hd1];(conv=>whnf)));(conv=>whnf))|(((rewrite [hn0];(conv=>whnf)));(conv=>whnf))|(((rewrite [hn1];(conv=>whnf)));(conv=>whnf)));(try simp only[jig,hs,ht]))
 refine .inl ?_
 (conv=>whnf)
 refine⟨0,_,_,⟨Tryz.func195,rfl,rfl,jis rfl⟩,?_⟩
 (conv=>whnf)
 repeat (simp only[pg];(conv=>whnf))
 refine jbP [(0,.box 58 0),(4,.box 200 0)] [(58,.box [.bsl 145 0 l.length 2,inB x,.fn 97 [] [],.mapr 44]),(145,.box (bcl l)),(200,.box [.int .i64 v.1,.int .i64 v.2]),(44,.mp esB),(114,.mp stepsB),(64,.box [.nil]),(65,.box [.int .i64 0])] (CondB.mk (fun h=>by simp at h) (fun _=>?_)) ?_
 ·(conv=>whnf)
  exact Wk.trim 145 (l.length*2) rfl (Wk.same 145 rfl (jcL l [u,v,w]) V.wk)
 ·have pg:=jaA l
  have hb:=jby l
  have ht:=jaO hl
  have hf:∀ i,D.freeL i (bcl l++[.int .i64 v.1,.int .i64 v.2])=true:=jaB l _ _
  (conv=>whnf)
  refine⟨Pq22z,[],V.pok,.go (jab ?_)⟩
  (conv=>whnf)
  (try simp only[jiA,hkc])
  repeat ((first|refine V.s1 ?_|((try ((with_reducible refine .ext ?_);(conv=>whnf);(try simp only[jiA,hkc])));(with_reducible refine jaa (r:=?_) ?_ ?_);rotate_left;(focus (first|fail));(conv=>whnf))|(((simp only[pg];(conv=>whnf)));(conv=>whnf))|(((simp only[hb,ht,jju,hf];(conv=>whnf)));(conv=>whnf)));(try simp only[jiA,hkc]))
  refine hok _ _ (Wk.renB 214 145 58 0 (l.length+1) 2 (by decide) (by decide) (by decide) (hf _) rfl rfl rfl ?_)
  exact V.wk
theorem rdB_pick2 (p:List (Int×Int))(x l:List (Int×Int))(u v w:(Int×Int))(k:Nat)(a:Int)(S T:Int)(e:Int)(hk:k<p.length)(hp:p.length≤40)(hca:p.getD k (0,0)=(10,a))(hl:l.length≤16)
  (cf:Cl 109 [.agg [.int .i64 u.1,.int .i64 u.2],.agg [.int .i64 v.1,.int .i64 v.2]] (.tup [.agg [.int .i64 S,.int .i64 T],.int .i64 e])) (hs:decide (w.1≥0)=false) (ht:decide (w.2<0)=false) {K:K3}
  (hok:e=0 → ∀ L H,Wk 103 L H (slM p (k+1)) (hpB x (l.length+1) (bcl l++[.int .i64 S,.int .i64 T]))→K .normal L H)
  (hpan:e≠0 → ∀ L H,Wk 103 L H slE hpE→K (.panic [{ v := .iface 155 (.agg #[.int .i64 e]),recovered:=false }]) L H) :
  RunC Tryz.prog tb (inlN Tryz.prog tb 6) 42 ((jaF (Tryz.f52.body.getD .skip)).getD .skip) (fun _ _ _ _ _=>False) 103 (slM p k) (hpB x (l.length+3) (bcl (l++[u,v,w]))) K:=by
 have hkc:((k:Int)+1)=((k+1:Nat):Int):=by omega
 have hne:decide ((k:Int)=p.length)=false:=decide_eq_false (by omega)
 have pg:=jaA (l++[u,v,w])
 have tk:Cl 120 [.int .i64 10] (.tup [.int .i64 3,.bool true]):=jbl 10
 have hr:(((l.length+3:Nat):Int)-3)=(l.length:Nat):=by omega
 have hble:Nat.ble (0+(l.length+3)*2) (bcl (l++[u,v,w])).length=true:=by rw[jaU,ji0];simp
 have hsub:l.length+3-l.length=3:=by omega
 have hd0:∀ K,dropK (bcl (l++[u,v,w])) (l.length*2+Int.toNat 0*2) K=K (bcl [u,v,w]):=fun K=>jbt [u,v,w] K l
 have hd1:∀ K,dropK (bcl (l++[u,v,w])) (l.length*2+Int.toNat 1*2) K=K (bcl [v,w]):=fun K=>jdM l [v,w] u K
 have hd2:∀ K,dropK (bcl (l++[u,v,w])) (l.length*2+Int.toNat 2*2) K=K (bcl [w]):=fun K=>jfm l [w] u v K
 have hn0:∀ K,nthK (bcl (l++[u,v,w])) (l.length*2+Int.toNat 2*2+0) K=K (.int .i64 w.1):=fun K=>by rw[jaM];exact jdl _ 4 K l
 have hn1:∀ K,nthK (bcl (l++[u,v,w])) (l.length*2+Int.toNat 2*2+1) K=K (.int .i64 w.2):=fun K=>by rw[jaM];exact jdl _ 5 K l
 (conv=>whnf)
 (try simp only[hne,jiA,hca])
 repeat ((first|refine V.s1 ?_|((try ((with_reducible refine .ext ?_);(conv=>whnf);(try simp only[hne,jiA,hca])));(with_reducible refine jaa (r:=?_) ?_ ?_);rotate_left;(focus (first|fail));(conv=>whnf))|(((simp only[pg];(conv=>whnf)));(conv=>whnf)));(try simp only[hne,jiA,hca]))
 refine .inl ?_
 (conv=>whnf)
 refine⟨0,_,_,⟨Tryz.func116,rfl,rfl,jis rfl⟩,?_⟩
 (conv=>whnf)
 (conv=>whnf)
 (try simp only[jiA])
 repeat ((first|refine V.s1 ?_|((try ((with_reducible refine .ext ?_);(conv=>whnf);(try simp only[jiA])));(with_reducible refine jaa (r:=?_) ?_ ?_);rotate_left;(focus (first|exact(tk)));(conv=>whnf))|(((simp only[pg];(conv=>whnf)));(conv=>whnf)));(try simp only[jiA]))
 refine .inl ?_
 (conv=>whnf)
 refine⟨0,_,_,⟨Tryz.func196,rfl,rfl,jis rfl⟩,?_⟩
 (conv=>whnf)
 (conv=>whnf)
 (try simp only[hr,jiA])
 repeat ((first|refine V.s1 ?_|((try ((with_reducible refine .ext ?_);(conv=>whnf);(try simp only[hr,jiA])));(with_reducible refine jaa (r:=?_) ?_ ?_);rotate_left;(focus (first|exact(tk)));(conv=>whnf))|(((simp only[pg];(conv=>whnf)));(conv=>whnf))|(((simp only[hr,jiA,hsub];(conv=>whnf)));(conv=>whnf))|(((simp only[hble];(conv=>whnf)));(conv=>whnf)));(try simp only[hr,jiA]))
 refine⟨Pq8z,[],V.pok,.go (jab ?_)⟩
 (conv=>whnf)
 (try simp only[jiA])
 repeat ((first|refine V.s1 ?_|((try ((with_reducible refine .ext ?_);(conv=>whnf);(try simp only[jiA])));(with_reducible refine jaa (r:=?_) ?_ ?_);rotate_left;(focus (first|fail));(conv=>whnf))|(((simp only[pg];(conv=>whnf)));(conv=>whnf)));(try simp only[jiA]))
 refine .inl ?_
 (conv=>whnf)
 refine⟨0,_,_,⟨Tryz.func108,rfl,rfl,jis rfl⟩,?_⟩
 (conv=>whnf)
 (conv=>whnf)
 (try simp only[jig,hs,ht])
 repeat ((first|refine V.s1 ?_|((try ((with_reducible refine .ext ?_);(conv=>whnf);(try simp only[jig,hs,ht])));(with_reducible refine jaa (r:=?_) ?_ ?_);rotate_left;(focus (first|exact(cf)));(conv=>whnf))|(((simp only[pg];(conv=>whnf)));(conv=>whnf))|(((simp only[hd0];(conv=>whnf)));(conv=>whnf))|(((simp only[hd1];(conv=>whnf)));(conv=>whnf))|(((rewrite [hn0];(conv=>whnf)));(conv=>whnf))|(((rewrite [hn1];(conv=>whnf)));(conv=>whnf)));(try simp only[jig,hs,ht]))
 refine⟨(V.tk [0,1,2,3,4,5] (V.e1 6 [] (V.tk [7,8] (V.e1 9 [] (V.tk [10] .done))))),[],V.pok,.go (jab ?_)⟩
 (conv=>whnf)
 (try simp only[jig,hs,ht])
 repeat ((first|refine V.s1 ?_|((try ((with_reducible refine .ext ?_);(conv=>whnf);(try simp only[jig,hs,ht])));(with_reducible refine jaa (r:=?_) ?_ ?_);rotate_left;(focus (first|exact(cf)));(conv=>whnf))|(((simp only[pg];(conv=>whnf)));(conv=>whnf))|(((simp only[hd0];(conv=>whnf)));(conv=>whnf))|(((simp only[hd1];(conv=>whnf)));(conv=>whnf))|(((rewrite [hn0];(conv=>whnf)));(conv=>whnf))|(((rewrite [hn1];(conv=>whnf)));(conv=>whnf)));(try simp only[jig,hs,ht]))
 refine .inl ?_
 (conv=>whnf)
 refine⟨0,_,_,⟨Tryz.func195,rfl,rfl,jis rfl⟩,?_⟩
 (conv=>whnf)
 (conv=>whnf)
 (try simp only[jiA])
 repeat ((first|refine V.s1 ?_|((try ((with_reducible refine .ext ?_);(conv=>whnf);(try simp only[jiA])));(with_reducible refine jaa (r:=?_) ?_ ?_);rotate_left;(focus (first|fail));(conv=>whnf))|(((simp only[pg];(conv=>whnf)));(conv=>whnf)));(try simp only[jiA]))
 by_cases he:e=0
 ·refine jbP [(0,.box 58 0),(4,.box 200 0)] [(58,.box [.bsl 145 0 l.length 2,inB x,.fn 97 [] [],.mapr 44]),(145,.box (bcl l)),(200,.box [.int .i64 S,.int .i64 T]),(44,.mp esB),(114,.mp stepsB),(64,.box [.nil]),(65,.box [.int .i64 0])] (CondB.mk (fun h=>absurd he (by simpa using h)) (fun _=>?_)) ?_
  ·(conv=>whnf)
   exact Wk.trim 145 (l.length*2) rfl (Wk.same 145 rfl (jcL l [u,v,w]) V.wk)
  ·have pg:=jaA l
   have hb:=jby l
   have ht:=jaO hl
   have hf:∀ i,D.freeL i (bcl l++[.int .i64 S,.int .i64 T])=true:=jaB l _ _
   (conv=>whnf)
   refine⟨Pq22z,[],V.pok,.go (jab ?_)⟩
   (conv=>whnf)
   (try simp only[jiA,hkc])
   repeat ((first|refine V.s1 ?_|((try ((with_reducible refine .ext ?_);(conv=>whnf);(try simp only[jiA,hkc])));(with_reducible refine jaa (r:=?_) ?_ ?_);rotate_left;(focus (first|fail));(conv=>whnf))|(((simp only[pg];(conv=>whnf)));(conv=>whnf))|(((simp only[hb,ht,jju,hf];(conv=>whnf)));(conv=>whnf)));(try simp only[jiA,hkc]))
   refine hok he _ _ (Wk.renB 214 145 58 0 (l.length+1) 2 (by decide) (by decide) (by decide) (hf _) rfl rfl rfl ?_)
   exact V.wk
 ·refine Cnd.split (CondB.mk (fun _=>?_) (fun h=>absurd (by simpa using h) he))
  refine V.r0 @jiA ?_
  exact hpan he _ _ V.wk
def prB (r:Int×Int×Int):(Int×Int)×Int:=((r.1,r.2.1),r.2.2)
def opB (c:Int):List (Int×Int)→(Int×Int)×Int
 | [u]=>if c=8 then prB (mk (0-u.2) (0-u.1)) else if c=9 then prB (mk (max (max u.1 (0-u.2)) 0) (max (0-u.1) u.2)) else prB (min (max u.1 0) 1000000000000,min (max u.2 0) 1000000000000,0)
 | [u,v]=>if c=3 then prB (mk (u.1+v.1) (u.2+v.2)) else if c=4 then prB (mk (u.1-v.2) (u.2-v.1)) else if c=5 then prB (mulR u.1 u.2 v.1 v.2) else if c=6 then prB (min u.1 v.1,min u.2 v.2,0) else prB (max u.1 v.1,max u.2 v.2,0)
 | [u,v,w]=>if 0≤w.1 then (u,0) else if w.2<0 then (v,0) else prB (min u.1 v.1,max u.2 v.2,0)
 | _=>((0,0),0)
def mB:Mc (Int×Int):=⟨fun n=>(n*1000000,n*1000000),opB⟩
abbrev okB (b:Int×Int):Prop:=vb b.1 b.2=true
def goodB (r:Int×Int×Int):Prop:=(r.2.2=0→vb r.1 r.2.1=true)∧0≤r.2.2∧r.2.2<1000
theorem jeY {a b:Int}(h:vb a b=true):goodB (a,b,0):=⟨fun _=>h,Int.le_refl _,by show (0:Int)<1000;decide⟩
theorem jeZ (a b:Int):goodB (mk a b):=by
 unfold mk
 split
 ·rename_i h;exact jeY h
 ·exact⟨fun h=>absurd h (by decide),by decide,by decide⟩
theorem cmin_B {u v:Int×Int}(hu:okB u)(hv:okB v):Cl 103 [bA u.1 u.2,bA v.1 v.2] (bD (min u.1 v.1,min u.2 v.2,0)):=by
 have c:=min_b u.1 u.2 v.1 v.2
 rw[if_pos ⟨hu,hv⟩] at c
 have a:=jaz.1 hu
 have b:=jaz.1 hv
 split at c
 ·rename_i g;rw[show min u.1 v.1=u.1 by omega,show min u.2 v.2=u.2 by omega];exact c
 ·rw[if_neg (by omega)] at c;exact c
theorem cmax_B {u v:Int×Int}(hu:okB u)(hv:okB v):Cl 104 [bA u.1 u.2,bA v.1 v.2] (bD (max u.1 v.1,max u.2 v.2,0)):=by
 have c:=max_b u.1 u.2 v.1 v.2
 rw[if_pos ⟨hu,hv⟩] at c
 have a:=jaz.1 hu
 have b:=jaz.1 hv
 split at c
 ·rename_i g;rw[show max u.1 v.1=u.1 by omega,show max u.2 v.2=u.2 by omega];exact c
 ·rw[if_neg (by omega)] at c;exact c
theorem chull_B {u v:Int×Int}(hu:okB u)(hv:okB v):Cl 109 [bA u.1 u.2,bA v.1 v.2] (bD (min u.1 v.1,max u.2 v.2,0)):=by
 have c:=hull_b u.1 u.2 v.1 v.2
 rw[if_pos ⟨hu,hv⟩] at c
 have a:=jaz.1 hu
 have b:=jaz.1 hv
 split at c
 ·rename_i g;rw[show min u.1 v.1=u.1 by omega,show max u.2 v.2=u.2 by omega];exact c
 ·rw[if_neg (by omega)] at c;exact c
def hpE_B (x:List (Int×Int)):List (Int×Int)→Hp
 | []=>hpB0 x
 | q::l=>hpB x (q::l).length (bcl (q::l))
theorem jcu (x l:List (Int×Int))(q:Int×Int):hpE_B x (l++[q])=hpB x (l.length+1) (bcl l++[.int .i64 q.1,.int .i64 q.2]):=by
 have e:hpE_B x (l++[q])=hpB x (l++[q]).length (bcl (l++[q])):=by cases l<;>rfl
 rw[e,jaM,ji8]
 rfl
theorem jgq (x l t:List (Int×Int))(h:0<t.length):hpE_B x (l++t)=hpB x (l.length+t.length) (bcl (l++t)):=by
 rw[← ji8]
 cases l with
 | nil=>cases t with
  | nil=>simp at h
  | cons q t=>rfl
 | cons q l=>rfl
theorem jbN {l m:List (Int×Int)}{P:Int×Int→Prop}(h:∀ q∈l++m,P q):(∀ q∈l,P q) ∧ ∀ q∈m,P q:=⟨fun q hq=>h q (List.mem_append_left _ hq),fun q hq=>h q (List.mem_append_right _ hq)⟩
theorem jc1 {l:List (Int×Int)}{P:Int×Int→Prop}{q:Int×Int}(h:∀ q∈l,P q)(hq:P q):∀ r∈l++[q],P r:=fun r hr=>by
 rcases jjh.1 hr with h1|h1
 ·exact h r h1
 ·rw[List.mem_singleton.1 h1];exact hq
abbrev rndB (p:List (Int×Int))(k:Nat)(H:Hp)(K:K3):Prop:=RunC Tryz.prog tb (inlN Tryz.prog tb 6) 42 ((jaF (Tryz.f52.body.getD .skip)).getD .skip) (fun _ _ _ _ _=>False) 103 (slM p k) H K
section
variable {p : List (Int × Int)} {x l : List (Int × Int)} {k : Nat} {a : Int} {K : K3}
theorem st_B {c : Int} {t : List (Int × Int)} {r : Int × Int × Int} {m : List (Int × Int)} (hl : l = m ++ t) (hlen : 0 < t.length) (h1 : c ≠ 1) (h2 : c ≠ 2) (h3 : c ≠ 11) (ht : (tkn c).toNat = t.length) (hr : opB c t = prB r) (gd : goodB r)
    (rd : ∀ (hok : r.2.2 = 0 → ∀ L H, Wk 103 L H (slM p (k + 1)) (hpB x (m.length + 1) (bcl m ++ [.int .i64 r.1, .int .i64 r.2.1])) → K .normal L H)
      (hpan : r.2.2 ≠ 0 → ∀ L H, Wk 103 L H slE hpE → K (pnc r.2.2) L H), rndB p k (hpB x (m.length + t.length) (bcl (m ++ t))) K)
    (hok : ∀ l', stM mB x (c, a) l = .ok l' → (∀ q ∈ l', okB q) → ∀ L H, Wk 103 L H (slM p (k + 1)) (hpE_B x l') → K .normal L H)
    (hpan : ∀ e, (0 < e ∧ e < 1000) → stM mB x (c, a) l = .error e → ∀ L H, Wk 103 L H slE hpE → K (pnc e) L H) (okl : ∀ q ∈ l, okB q) : rndB p k (hpE_B x l) K := by
  subst hl
  have hs : stM mB x (c, a) (m ++ t) = putM m (prB r) := by rw [jfz mB x m t c a h1 h2 h3 ht, ← hr]; rfl
  rw [hs] at hok hpan
  rw [jgq x m t hlen]
  refine rd (fun he L H w => ?_) (fun he L H w => ?_)
  · have e : putM m (prB r) = .ok (m ++ [(r.1, r.2.1)]) := by unfold putM prB; rw [if_pos he]
    rw [e] at hok
    refine hok (m ++ [(r.1, r.2.1)]) rfl (jc1 (jbN okl).1 (gd.1 he)) L H ?_
    rw [jcu]; exact w
  · have e : putM m (prB r) = .error r.2.2 := by unfold putM prB; rw [if_neg he]
    rw [e] at hpan
    exact hpan r.2.2 (by have := gd.2; omega) rfl L H w
end
theorem step_B {p:List (Int×Int)}{x l:List (Int×Int)}{k:Nat}{s s':Int×Int}{K:K3}(hk:k<p.length)(hp:p.length≤40)(hs:svS x.length s (p.getD k (0,0))=some s')(hl:s.1=(l.length:Int))(h16:s.1≤16)(okx:∀ q∈x,okB q)(okl:∀ q∈l,okB q)
  (hok:∀ l',stM mB x (p.getD k (0,0)) l = .ok l'→(∀ q∈l',okB q) → ∀ L H,Wk 103 L H (slM p (k+1)) (hpE_B x l')→K .normal L H)
  (hpan:∀ e,(0<e∧e<1000)→stM mB x (p.getD k (0,0)) l = .error e → ∀ L H,Wk 103 L H slE hpE→K (pnc e) L H):rndB p k (hpE_B x l) K:=by
 obtain⟨c,a,hca⟩:∃ c a,p.getD k (0,0)=(c,a):=⟨_,_,rfl⟩
 rw[hca] at hs hok hpan
 unfold svS at hs
 split at hs
 case isFalse=>cases hs
 rename_i hc
 clear hs
 obtain⟨g1,g2,g3,g4,g5⟩:=hc
 dsimp only at g1 g2 g3 g4 g5
 unfold tkb at g1
 simp only[decide_eq_true_eq] at g1
 have hl16:l.length≤16:=by omega
 have cs:c=1∨c=2∨c=11∨c=3∨c=4∨c=5∨c=6∨c=7∨c=8∨c=9∨c=12∨c=10:=by omega
 have okd:∀ (y:List (Int×Int)) (n:Nat),n<y.length→(∀ q∈y,okB q)→okB (y.getD n (0,0)):=fun y n hn h=>by
  rw[ji3,ji6 hn];exact h _ (ji7 hn)
 rcases cs with rfl|rfl|rfl|h2
 ·have ha:0≤a∧a<x.length:=by simp[loA,hiA] at g3 g4;omega
  have st:stM mB x (1,a) l = .ok (l++[x.getD a.toNat (0,0)]):=rfl
  have w1:∀ L H,Wk 103 L H (slM p (k+1)) (hpE_B x (l++[x.getD a.toNat (0,0)]))→K .normal L H:=fun L H w=>hok _ st (jc1 okl (okd x a.toNat (by omega) okx)) L H w
  rw[jcu] at w1
  cases l with
  | nil=>exact rdB_in0 p x k a hk hp hca ha w1
  | cons q l=>exact rdB_in1 p x (q::l) k a hk hp hca ha hl16 w1
 ·have ha : -1000000000≤a∧a≤1000000000:=by simp[loA,hiA] at g3 g4;omega
  have st:stM mB x (2,a) l = .ok (l++[(a*1000000,a*1000000)]):=rfl
  have w1:∀ L H,Wk 103 L H (slM p (k+1)) (hpE_B x (l++[(a*1000000,a*1000000)]))→K .normal L H:=fun L H w=>hok _ st (jc1 okl (jaz.2 (by dsimp only;omega))) L H w
  have nu:=numB_c a ha
  rw[jcu] at w1
  cases l with
  | nil=>exact rdB_num0 p x _ _ k a hk hp hca nu w1
  | cons q l=>exact rdB_num1 p x (q::l) _ _ k a hk hp hca nu hl16 w1
 ·have ha:0≤a∧a≤s.1-1:=by simp[loA,hiA] at g3 g4;omega
  obtain⟨j,hj⟩:∃ j,j=l.length-1-a.toNat:=⟨_,rfl⟩
  have hjl:j<l.length:=by omega
  have st:stM mB x (11,a) l = .ok (l++[l.getD j (0,0)]):=by rw[hj];rfl
  have w1:∀ L H,Wk 103 L H (slM p (k+1)) (hpE_B x (l++[l.getD j (0,0)]))→K .normal L H:=fun L H w=>hok _ st (jc1 okl (okd l j hjl okl)) L H w
  rw[jcu] at w1
  have hd:∀ K,dropK (bcl l) (j*2) K=K (.int .i64 (l.getD j (0,0)).1 :: .int .i64 (l.getD j (0,0)).2::bcl (l.drop (j+1))):=fun K=>by
   have e:l=l.take j++(l.getD j (0,0)::l.drop (j+1)):=by
    rw[ji3,ji6 hjl]
    simp
   have d:=jbt (l.getD j (0,0)::l.drop (j+1)) K (l.take j)
   rw[← e,ji9,jix (by omega)] at d
   exact d
  have r:=rdB_copy p x l (l.getD j (0,0)) _ j k a hk hp hca hl16 (by omega) hjl hd w1
  cases l with
  | nil=>simp at hjl
  | cons q l=>exact r
 ·rcases h2 with rfl|rfl|rfl|rfl|rfl|h2
  ·obtain⟨m,u,v,rfl⟩:=snoc2 l (by have:tkn 3=2:=rfl;omega)
   have o2:=(jbN okl).2
   have hu:=o2 u (by simp)
   have hv:=o2 v (by simp)
   have cf:=add_b u.1 u.2 v.1 v.2
   rw[if_pos ⟨hu,hv⟩] at cf
   have gd:=jeZ (u.1+v.1) (u.2+v.2)
   exact st_B (a:=a) rfl (Nat.succ_pos _) (by decide) (by decide) (by decide) rfl rfl gd (fun h1 h2=>jeH (.inl ⟨rfl,rfl⟩) p x m u v k a _ _ _ hk hp hca (by simp at hl16;omega) cf h1 h2) hok hpan okl
  ·obtain⟨m,u,v,rfl⟩:=snoc2 l (by have:tkn 4=2:=rfl;omega)
   have o2:=(jbN okl).2
   have hu:=o2 u (by simp)
   have hv:=o2 v (by simp)
   have cf:=sub_b u.1 u.2 v.1 v.2
   rw[if_pos ⟨hu,hv⟩] at cf
   have gd:=jeZ (u.1-v.2) (u.2-v.1)
   exact st_B (a:=a) rfl (Nat.succ_pos _) (by decide) (by decide) (by decide) rfl rfl gd (fun h1 h2=>jeH (.inr (.inl ⟨rfl,rfl⟩)) p x m u v k a _ _ _ hk hp hca (by simp at hl16;omega) cf h1 h2) hok hpan okl
  ·obtain⟨m,u,v,rfl⟩:=snoc2 l (by have:tkn 5=2:=rfl;omega)
   have o2:=(jbN okl).2
   have hu:=o2 u (by simp)
   have hv:=o2 v (by simp)
   have cf:=mul_b u.1 u.2 v.1 v.2
   rw[if_pos ⟨hu,hv⟩] at cf
   have gd:=jeZ (mn4 (flo (u.1*v.1) 1000000000000) (flo (u.1*v.2) 1000000000000) (flo (u.2*v.1) 1000000000000) (flo (u.2*v.2) 1000000000000)) (mx4 (cei (u.1*v.1) 1000000000000) (cei (u.1*v.2) 1000000000000) (cei (u.2*v.1) 1000000000000) (cei (u.2*v.2) 1000000000000))
   exact st_B (a:=a) rfl (Nat.succ_pos _) (by decide) (by decide) (by decide) rfl rfl gd (fun h1 h2=>jeH (.inr (.inr (.inl ⟨rfl,rfl⟩))) p x m u v k a _ _ _ hk hp hca (by simp at hl16;omega) cf h1 h2) hok hpan okl
  ·obtain⟨m,u,v,rfl⟩:=snoc2 l (by have:tkn 6=2:=rfl;omega)
   have o2:=(jbN okl).2
   have hu:=o2 u (by simp)
   have hv:=o2 v (by simp)
   have cf:=cmin_B hu hv
   have gd:goodB (min u.1 v.1,min u.2 v.2,0):=jeY (jaz.2 (by unfold okB at hu hv;rw[jaz] at hu hv;omega))
   exact st_B (a:=a) rfl (Nat.succ_pos _) (by decide) (by decide) (by decide) rfl rfl gd (fun h1 h2=>jeH (.inr (.inr (.inr (.inl ⟨rfl,rfl⟩)))) p x m u v k a _ _ _ hk hp hca (by simp at hl16;omega) cf h1 h2) hok hpan okl
  ·obtain⟨m,u,v,rfl⟩:=snoc2 l (by have:tkn 7=2:=rfl;omega)
   have o2:=(jbN okl).2
   have hu:=o2 u (by simp)
   have hv:=o2 v (by simp)
   have cf:=cmax_B hu hv
   have gd:goodB (max u.1 v.1,max u.2 v.2,0):=jeY (jaz.2 (by unfold okB at hu hv;rw[jaz] at hu hv;omega))
   exact st_B (a:=a) rfl (Nat.succ_pos _) (by decide) (by decide) (by decide) rfl rfl gd (fun h1 h2=>jeH (.inr (.inr (.inr (.inr ⟨rfl,rfl⟩)))) p x m u v k a _ _ _ hk hp hca (by simp at hl16;omega) cf h1 h2) hok hpan okl
  ·rcases h2 with rfl|rfl|rfl|rfl
   ·obtain⟨m,u,rfl⟩:=snoc1 l (by have:tkn 8=1:=rfl;omega)
    have hu:=(jbN okl).2 u (by simp)
    have cf:=neg_b u.1 u.2
    rw[if_pos hu] at cf
    have gd:=jeZ (0-u.2) (0-u.1)
    exact st_B (a:=a) rfl (Nat.succ_pos _) (by decide) (by decide) (by decide) rfl rfl gd (fun h1 h2=>rdB_neg p x m u k a _ _ _ hk hp hca (by simp at hl16;omega) cf h1 h2) hok hpan okl
   ·obtain⟨m,u,rfl⟩:=snoc1 l (by have:tkn 9=1:=rfl;omega)
    have hu:=(jbN okl).2 u (by simp)
    have cf:=abs_b u.1 u.2
    rw[if_pos hu] at cf
    have gd:=jeZ (max (max u.1 (0-u.2)) 0) (max (0-u.1) u.2)
    exact st_B (a:=a) rfl (Nat.succ_pos _) (by decide) (by decide) (by decide) rfl rfl gd (fun h1 h2=>rdB_abs p x m u k a _ _ _ hk hp hca (by simp at hl16;omega) cf h1 h2) hok hpan okl
   ·obtain⟨m,u,rfl⟩:=snoc1 l (by have:tkn 12=1:=rfl;omega)
    have hu:=(jbN okl).2 u (by simp)
    have cf:=clB_c u.1 u.2 hu
    have gd:goodB (min (max u.1 0) 1000000000000,min (max u.2 0) 1000000000000,0):=jeY (jaz.2 (by unfold okB at hu;rw[jaz] at hu;omega))
    exact st_B (a:=a) rfl (Nat.succ_pos _) (by decide) (by decide) (by decide) rfl rfl gd (fun h1 h2=>rdB_clamp p x m u k a _ _ _ hk hp hca (by simp at hl16;omega) cf h1 h2) hok hpan okl
   ·obtain⟨m,u,v,w,rfl⟩:=snoc3 l (by have:tkn 10=3:=rfl;omega)
    have o3:=(jbN okl).2
    have hu:=o3 u (by simp)
    have hv:=o3 v (by simp)
    by_cases hs:0≤w.1
    ·have st:stM mB x (10,a) (m++[u,v,w]) = .ok (m++[u]):=by rw[jfz mB x m [u,v,w] 10 a (by decide) (by decide) (by decide) rfl];show putM m (opB 10 [u,v,w])=_;rw[show opB 10 [u,v,w]=(u,0) from if_pos hs];rfl
     have w1:∀ L H,Wk 103 L H (slM p (k+1)) (hpE_B x (m++[u]))→K .normal L H:=fun L H w'=>hok _ st (jc1 (jbN okl).1 hu) L H w'
     rw[jcu] at w1
     rw[jgq x m [u,v,w] (by simp)]
     exact rdB_pick0 p x m u v w k a hk hp hca (by simp at hl16;omega) (decide_eq_true hs) w1
    ·by_cases ht:w.2<0
     ·have st:stM mB x (10,a) (m++[u,v,w]) = .ok (m++[v]):=by rw[jfz mB x m [u,v,w] 10 a (by decide) (by decide) (by decide) rfl];show putM m (opB 10 [u,v,w])=_;rw[show opB 10 [u,v,w]=(v,0) from (if_neg hs).trans (if_pos ht)];rfl
      have w1:∀ L H,Wk 103 L H (slM p (k+1)) (hpE_B x (m++[v]))→K .normal L H:=fun L H w'=>hok _ st (jc1 (jbN okl).1 hv) L H w'
      rw[jcu] at w1
      rw[jgq x m [u,v,w] (by simp)]
      exact rdB_pick1 p x m u v w k a hk hp hca (by simp at hl16;omega) (decide_eq_false hs) (decide_eq_true ht) w1
     ·have gd:goodB (min u.1 v.1,max u.2 v.2,0):=jeY (jaz.2 (by unfold okB at hu hv;rw[jaz] at hu hv;omega))
      have cf:=chull_B hu hv
      exact st_B (a:=a) rfl (Nat.succ_pos _) (by decide) (by decide) (by decide) rfl ((if_neg hs).trans (if_neg ht)) gd (fun h1 h2=>rdB_pick2 p x m u v w k a _ _ _ hk hp hca (by simp at hl16;omega) cf (decide_eq_false hs) (decide_eq_false ht) h1 h2) hok hpan okl
theorem lpw {off : Nat} {L : Sl} {H : Hp} {body : Sl → Hp → K3 → Prop} {K : K3}
    (h : ∃ (α : Type) (inv : α → Prop) (sl : α → Sl) (hp : α → Hp) (μ : α → Nat), (∃ x, inv x ∧ Wk off L H (sl x) (hp x)) ∧
    ∀ x, inv x → body (sl x) (hp x) (nrm (fun L' H' => ∃ y, inv y ∧ μ y < μ x ∧ Wk off L' H' (sl y) (hp y)) (fun e L' H' => ∃ L'' H'', Wk off L' H' L'' H'' ∧ K e L'' H''))) : Lp off L H body K :=
  ⟨_, fun _ _ _ h => h, h⟩
theorem fcl_pubL (l:List Rat)(i:Nat)(c:Chunk):pubL i c (fcl l)=fcl l:=by
 induction l with
 | nil=>rfl
 | cons q m ih=>simp only[fcl,pubL,pubD,ih]
theorem jhQ (l:List Rat)(i:Nat)(c:Chunk)(K:List D→Prop):pubLK i c (fcl l) K=K (fcl l):=by rw[ja5,fcl_pubL]
theorem jhR (l:List Rat):bslOk (fcl l) 0 l.length 2=true:=by
 have e:∀ m:List Rat,D.pureL (fcl m)=true:=fun m=>by
  induction m with
  | nil=>rfl
  | cons q m ih=>simp only[fcl,D.pureL,D.pure,ih]
 unfold bslOk
 rw[e]
 dsimp only
 rw[ji0,jb7];omega
theorem fcl_pubH (x l:List Rat)(K:Hp→Prop):jcM 145 (.box (fcl l)) (hpF x l.length (fcl l)) K=K [(58,.box [sl2 l.length (fcl l),inF x,.fn 76 [] [],.mapr 44]),(145,.box (fcl l)),(44,.mp esF),(114,.mp stepsF),(64,.box [.nil]),(65,.box [.int .i64 0])]:=by
 have e:pubHp 145 (.box (fcl l)) (hpF x l.length (fcl l))=[(58,.box [sl2 l.length (fcl l),inF x,.fn 76 [] [],.mapr 44]),(145,.box (fcl l)),(44,.mp esF),(114,.mp stepsF),(64,.box [.nil]),(65,.box [.int .i64 0])]:=by
  have h:pubD 145 (.box (fcl l)) (.bsl 145 0 l.length 2)=sl2 l.length (fcl l):=by
   show (match bslOk (fcl l) 0 l.length 2 with|true=>D.slf 2 l.length (fun q=>((fcl l).drop (0+q*2)).take 2)|false => .any)=_
   rw[jhR]
   simp only[jiy]
  have g2:=fcl_pubL l 145 (.box (fcl l))
  show [(58,Chunk.box (pubD 145 (.box (fcl l)) (.bsl 145 0 l.length 2)::_)),(145,Chunk.box (pubL 145 (.box (fcl l)) (fcl l))),_,_,_,_]=_
  rw[h,g2]
  rfl
 rw[jcR,e]
theorem jgP (i:Nat)(c:Chunk)(K:List D→Prop):pubLK i c [] K=K []:=by rw[ja5];rfl
theorem fcheck_f {q:Rat}(h:okF q=true):Cl 47 [.agg [.str (decZ q.num),.str (dec q.den)]] (.int .i64 0):=by
 have o:=jbg h
 have b:=h
 unfold okF at b
 simp only[jir,decide_eq_true_eq] at b
 have c:=jgu (decZ q.num) (dec q.den) (by unfold decZ;split<;>(try simp only[jji])<;>omega) (by omega)
 rw[o.1] at c
 exact c
theorem runF_c (p:List (Int×Int))(x:List Rat)(o d:Int)(okx:∀ q∈x,okF q=true)(hs:surv p x.length o=some d) :
  Cl 20 [opsD p,inF x,.int .i64 o] (match rnM mF x p [] with | .ok l => .tup [sl2 l.length (fcl l),.int .i64 0] | .error e => .tup [.nil,.int .i64 e]):=by
 have pc:Cl 25 [opsD p,.int .i64 x.length,.int .i64 o] (.int .i64 0):=by
  have c:=jgc p x.length o
  rw[hs] at c
  exact c
 have hb:1≤(x.length:Int)∧(x.length:Int)≤4∧1≤o∧o≤4∧p.length≤40∧svL x.length (0,0) p=some (o,d):=by
  unfold surv at hs
  split at hs
  case isFalse=>cases hs
  rename_i h
  refine⟨h.1,h.2.1,h.2.2.1,h.2.2.2.1,h.2.2.2.2,?_⟩
  split at hs
  case h_2=>cases hs
  rename_i e
  split at hs
  case isFalse=>cases hs
  rename_i n d' e'
  cases hs
  rw[e,e']
 have hx4:x.length≤4:=by omega
 have hp:=hb.2.2.2.2.1
 have fc:∀ k:Nat,k<x.length→Cl 47 [.agg [.str (decZ (x.getD k 0).num),.str (dec (x.getD k 0).den)]] (.int .i64 0):=fun k hk=>fcheck_f (okx _ (by rw[ji3,ji6 hk];exact ji7 hk))
 have t3:=jgC 79
 have t4:=jgC 80
 have t5:=jgC 81
 have t6:=jgC 82
 have t7:=jgC 83
 have o8:=oneF_c 85
 have o9:=oneF_c 86
 have o12:=oneF_c 89
 refine jbr (jd2 tbOk (inlX_ok tbOk 6)) (jaw Tryz.func20 rfl rfl) ⟨_,_,⟨Tryz.func20,rfl,rfl,jis rfl⟩,?_⟩
 refine V.r1 @jiA pc ?_
 refine jaf ((0:Nat)) (fun k=>k≤x.length) (fun k=>x.length-k) (fun k=>[(22,.int .i64 k)]) (fun k=>[]) ?_ ?_ ?_
 ·exact V.wk
 ·exact jit _
 ·intro k hk
  have hkc:((k:Int)+1)=((k+1:Nat):Int):=by omega
  (conv=>whnf)
  refine V.st ?_
  refine V.br (fun hq=>?_) (fun hq=>?_)
  ·simp only[decide_eq_true_eq] at hq
   have f1:=fc k (by omega)
   refine V.r1 (V.a2 @jiA hkc) f1 ?_
   exact⟨k+1,by omega,by omega,V.wk⟩
  ·refine V.r0 @jiA ?_
   refine .inl ?_
   (conv=>whnf)
   refine⟨0,Or.inl ⟨_,_,⟨Tryz.func48,rfl,rfl,jis rfl⟩,?_⟩⟩
   refine V.r8 @jiA t3 t4 t5 t6 t7 o8 o9 o12 ?_
   refine .inl ?_
   (conv=>whnf)
   refine⟨21,Or.inr ⟨_,_,⟨Tryz.func49,rfl,rfl,jis rfl⟩,_,_,_,_,_,true,_,_,_,_,rfl,⟨rfl,rfl,rfl,⟨_,rfl⟩,rfl,rfl⟩,?_⟩⟩
   (conv=>whnf)
   refine V.st ?_
   refine DefK.mk 64 65 rfl rfl (by decide) (by decide) (by decide) (by decide) idle_F ?_
   refine V.r0 @jiA ?_
   refine lpw ⟨Nat×List Rat,fun s=>s.1≤p.length∧rnM mF x (p.take s.1) [] = .ok s.2∧(∃ d,svL x.length (0,0) (p.take s.1)=some ((s.2.length:Int),d))∧(∀ q∈s.2,okF q=true),fun s=>slM p s.1,fun s=>hpA x s.2,fun s=>p.length-s.1,⟨(0,[]),⟨jit _,rfl,⟨0,rfl⟩,fun _ h=>absurd h jjr⟩,V.wk⟩,?_⟩
   rintro⟨k2,l⟩ ⟨hk2,hr,⟨d2,hd2⟩,okl⟩
   dsimp only at hk2 hr hd2 okl ⊢
   have hbd:=jgE hd2 (by simp)
   dsimp only at hbd
   by_cases hke:k2=p.length
   ·subst hke
    rw[jjs] at hr hd2
    rw[hr]
    have hlo:(l.length:Int)=o:=by rw[hd2] at hb;have:=hb.2.2.2.2.2;cases this;rfl
    have el:hpA x l=hpF x l.length (fcl l):=by
     cases l with
     | nil=>simp at hlo;omega
     | cons q l=>rfl
    rw[el]
    have pg:=jbI l
    have pb:=jhQ l
    have bo:=jhR l
    dsimp only
    (conv=>whnf)
    (try simp only[decide_eq_true,jiA])
    repeat ((first|refine V.s1 ?_|((try ((with_reducible refine .ext ?_);(conv=>whnf);(try simp only[decide_eq_true,jiA])));(with_reducible refine jaa (r:=?_) ?_ ?_);rotate_left;(focus (first|fail));(conv=>whnf))|(((simp only[pg];(conv=>whnf)));(conv=>whnf)));(try simp only[decide_eq_true,jiA]))
    refine⟨_,_,Wk.refl,?_⟩
    (conv=>whnf)
    (try simp only[jiA])
    repeat ((first|refine V.s1 ?_|((try ((with_reducible refine .ext ?_);(conv=>whnf);(try simp only[jiA])));(with_reducible refine jaa (r:=?_) ?_ ?_);rotate_left;(focus (first|fail));(conv=>whnf))|(((simp only[pg];(conv=>whnf)));(conv=>whnf)));(try simp only[jiA]))
    rewrite [bo]
    dsimp only
    rewrite [jgP]
    rewrite [fcl_pubH]
    (conv=>whnf)
    rewrite [bo]
    (conv=>whnf)
    refine Fin.of ?_
    simp only[jiy]
   ·have hkl:k2<p.length:=by omega
    have hsn:=jek x.length p k2 hkl
    rw[hd2] at hsn
    dsimp only at hsn
    have rs:=jf4 mF x p k2 hkl
    rw[hr] at rs
    dsimp only at rs
    cases hss:svS x.length ((l.length:Int),d2) (p.getD k2 (0,0)) with
    | none=>rw[hss] at hsn;rw[jdo hsn] at hb;cases hb.2.2.2.2.2
    | some s'=>
     show rndF p k2 (hpA x l) _
     refine step_F hkl hp hss rfl hbd.2.1 okx okl ?_ ?_
     ·intro l' st okl' L H w
      exact⟨(k2+1,l'),⟨by dsimp only;omega,rs.trans st,⟨s'.2,by rw[hsn,hss];exact congrArg some (Prod.ext (jfZ hss rfl st) rfl)⟩,okl'⟩,by dsimp only;omega,w⟩
     ·intro e he st L H w
      refine⟨_,_,w,?_⟩
      rw[jhy (rs.trans st)]
      (conv=>whnf)
      refine CatchK.mk _ _ .nil (.int .i64 e) (catch_F e) (fun _ _=>by simp[Den]) (fun _ _=>by simp[Den,InR,V.lo,V.hi];omega) ?_
      refine V.r0 @jiA ?_
      exact Fin.of rfl
theorem bcl_pubL (l:List (Int×Int))(i:Nat)(c:Chunk):pubL i c (bcl l)=bcl l:=by
 induction l with
 | nil=>rfl
 | cons q m ih=>simp only[bcl,pubL,pubD,ih]
theorem jbs (l:List (Int×Int))(i:Nat)(c:Chunk)(K:List D→Prop):pubLK i c (bcl l) K=K (bcl l):=by rw[ja5,bcl_pubL]
theorem jbO (l:List (Int×Int)):bslOk (bcl l) 0 l.length 2=true:=by
 have e:∀ m:List (Int×Int),D.pureL (bcl m)=true:=fun m=>by
  induction m with
  | nil=>rfl
  | cons q m ih=>simp only[bcl,D.pureL,D.pure,ih]
 unfold bslOk
 rw[e]
 dsimp only
 rw[ji0,jaU];omega
theorem bcl_pubH (x l:List (Int×Int))(K:Hp→Prop):jcM 145 (.box (bcl l)) (hpB x l.length (bcl l)) K=K [(58,.box [sl2 l.length (bcl l),inB x,.fn 97 [] [],.mapr 44]),(145,.box (bcl l)),(44,.mp esB),(114,.mp stepsB),(64,.box [.nil]),(65,.box [.int .i64 0])]:=by
 have e:pubHp 145 (.box (bcl l)) (hpB x l.length (bcl l))=[(58,.box [sl2 l.length (bcl l),inB x,.fn 97 [] [],.mapr 44]),(145,.box (bcl l)),(44,.mp esB),(114,.mp stepsB),(64,.box [.nil]),(65,.box [.int .i64 0])]:=by
  have h:pubD 145 (.box (bcl l)) (.bsl 145 0 l.length 2)=sl2 l.length (bcl l):=by
   show (match bslOk (bcl l) 0 l.length 2 with|true=>D.slf 2 l.length (fun q=>((bcl l).drop (0+q*2)).take 2)|false => .any)=_
   rw[jbO]
   simp only[jiy]
  have g2:=bcl_pubL l 145 (.box (bcl l))
  show [(58,Chunk.box (pubD 145 (.box (bcl l)) (.bsl 145 0 l.length 2)::_)),(145,Chunk.box (pubL 145 (.box (bcl l)) (bcl l))),_,_,_,_]=_
  rw[h,g2]
  rfl
 rw[jcR,e]
theorem runB_c (p:List (Int×Int))(x:List (Int×Int))(o d:Int)(okx:∀ q∈x,okB q)(hs:surv p x.length o=some d) :
  Cl 22 [opsD p,inB x,.int .i64 o] (match rnM mB x p [] with | .ok l => .tup [sl2 l.length (bcl l),.int .i64 0] | .error e => .tup [.nil,.int .i64 e]):=by
 have pc:Cl 25 [opsD p,.int .i64 x.length,.int .i64 o] (.int .i64 0):=by
  have c:=jgc p x.length o
  rw[hs] at c
  exact c
 have hb:1≤(x.length:Int)∧(x.length:Int)≤4∧1≤o∧o≤4∧p.length≤40∧svL x.length (0,0) p=some (o,d):=by
  unfold surv at hs
  split at hs
  case isFalse=>cases hs
  rename_i h
  refine⟨h.1,h.2.1,h.2.2.1,h.2.2.2.1,h.2.2.2.2,?_⟩
  split at hs
  case h_2=>cases hs
  rename_i e
  split at hs
  case isFalse=>cases hs
  rename_i n d' e'
  cases hs
  rw[e,e']
 have hx4:x.length≤4:=by omega
 have hp:=hb.2.2.2.2.1
 have fc:∀ k:Nat,k<x.length→Cl 50 [.agg [.int .i64 (x.getD k (0,0)).1,.int .i64 (x.getD k (0,0)).2]] (.int .i64 0):=fun k hk=>by
  have o:okB (x.getD k (0,0)):=okx _ (by rw[ji3,ji6 hk];exact ji7 hk)
  have c:=check_b (x.getD k (0,0)).1 (x.getD k (0,0)).2
  rw[if_pos o] at c
  exact c
 have t3:=jgD 100
 have t4:=jgD 101
 have t5:=jgD 102
 have t6:=jgD 103
 have t7:=jgD 104
 have o8:=oneB_c 106
 have o9:=oneB_c 107
 have o12:=oneB_c 110
 refine jbr (jd2 tbOk (inlX_ok tbOk 6)) (jaw Tryz.func22 rfl rfl) ⟨_,_,⟨Tryz.func22,rfl,rfl,jis rfl⟩,?_⟩
 refine V.r1 @jiA pc ?_
 refine jaf ((0:Nat)) (fun k=>k≤x.length) (fun k=>x.length-k) (fun k=>[(22,.int .i64 k)]) (fun k=>[]) ?_ ?_ ?_
 ·exact V.wk
 ·exact jit _
 ·intro k hk
  have hkc:((k:Int)+1)=((k+1:Nat):Int):=by omega
  (conv=>whnf)
  refine V.st ?_
  refine V.br (fun hq=>?_) (fun hq=>?_)
  ·simp only[decide_eq_true_eq] at hq
   have f1:=fc k (by omega)
   refine V.r1 (V.a2 @jiA hkc) f1 ?_
   exact⟨k+1,by omega,by omega,V.wk⟩
  ·refine V.r0 @jiA ?_
   refine .inl ?_
   (conv=>whnf)
   refine⟨0,Or.inl ⟨_,_,⟨Tryz.func51,rfl,rfl,jis rfl⟩,?_⟩⟩
   refine V.r8 @jiA t3 t4 t5 t6 t7 o8 o9 o12 ?_
   refine .inl ?_
   (conv=>whnf)
   refine⟨21,Or.inr ⟨_,_,⟨Tryz.func52,rfl,rfl,jis rfl⟩,_,_,_,_,_,true,_,_,_,_,rfl,⟨rfl,rfl,rfl,⟨_,rfl⟩,rfl,rfl⟩,?_⟩⟩
   (conv=>whnf)
   refine V.st ?_
   refine DefK.mk 64 65 rfl rfl (by decide) (by decide) (by decide) (by decide) idle_B ?_
   refine V.r0 @jiA ?_
   refine lpw ⟨Nat×List (Int×Int),fun s=>s.1≤p.length∧rnM mB x (p.take s.1) [] = .ok s.2∧(∃ d,svL x.length (0,0) (p.take s.1)=some ((s.2.length:Int),d))∧(∀ q∈s.2,okB q),fun s=>slM p s.1,fun s=>hpE_B x s.2,fun s=>p.length-s.1,⟨(0,[]),⟨jit _,rfl,⟨0,rfl⟩,fun _ h=>absurd h jjr⟩,V.wk⟩,?_⟩
   rintro⟨k2,l⟩ ⟨hk2,hr,⟨d2,hd2⟩,okl⟩
   dsimp only at hk2 hr hd2 okl ⊢
   have hbd:=jgE hd2 (by simp)
   dsimp only at hbd
   by_cases hke:k2=p.length
   ·subst hke
    rw[jjs] at hr hd2
    rw[hr]
    have hlo:(l.length:Int)=o:=by rw[hd2] at hb;have:=hb.2.2.2.2.2;cases this;rfl
    have el:hpE_B x l=hpB x l.length (bcl l):=by
     cases l with
     | nil=>simp at hlo;omega
     | cons q l=>rfl
    rw[el]
    have pg:=jaA l
    have pb:=jbs l
    have bo:=jbO l
    dsimp only
    (conv=>whnf)
    (try simp only[decide_eq_true,jiA])
    repeat ((first|refine V.s1 ?_|((try ((with_reducible refine .ext ?_);(conv=>whnf);(try simp only[decide_eq_true,jiA])));(with_reducible refine jaa (r:=?_) ?_ ?_);rotate_left;(focus (first|fail));(conv=>whnf))|(((simp only[pg];(conv=>whnf)));(conv=>whnf)));(try simp only[decide_eq_true,jiA]))
    refine⟨_,_,Wk.refl,?_⟩
    (conv=>whnf)
    (try simp only[jiA])
    repeat ((first|refine V.s1 ?_|((try ((with_reducible refine .ext ?_);(conv=>whnf);(try simp only[jiA])));(with_reducible refine jaa (r:=?_) ?_ ?_);rotate_left;(focus (first|fail));(conv=>whnf))|(((simp only[pg];(conv=>whnf)));(conv=>whnf)));(try simp only[jiA]))
    rewrite [bo]
    dsimp only
    rewrite [jgP]
    rewrite [bcl_pubH]
    (conv=>whnf)
    rewrite [bo]
    (conv=>whnf)
    refine Fin.of ?_
    simp only[jiy]
   ·have hkl:k2<p.length:=by omega
    have hsn:=jek x.length p k2 hkl
    rw[hd2] at hsn
    dsimp only at hsn
    have rs:=jf4 mB x p k2 hkl
    rw[hr] at rs
    dsimp only at rs
    cases hss:svS x.length ((l.length:Int),d2) (p.getD k2 (0,0)) with
    | none=>rw[hss] at hsn;rw[jdo hsn] at hb;cases hb.2.2.2.2.2
    | some s'=>
     show rndB p k2 (hpE_B x l) _
     refine step_B hkl hp hss rfl hbd.2.1 okx okl ?_ ?_
     ·intro l' st okl' L H w
      exact⟨(k2+1,l'),⟨by dsimp only;omega,rs.trans st,⟨s'.2,by rw[hsn,hss];exact congrArg some (Prod.ext (jfZ hss rfl st) rfl)⟩,okl'⟩,by dsimp only;omega,w⟩
     ·intro e he st L H w
      refine⟨_,_,w,?_⟩
      rw[jhy (rs.trans st)]
      (conv=>whnf)
      refine CatchK.mk _ _ .nil (.int .i64 e) (catch_B e) (fun _ _=>by simp[Den]) (fun _ _=>by simp[Den,InR,V.lo,V.hi];omega) ?_
      refine V.r0 @jiA ?_
      exact Fin.of rfl
theorem jdk {e n:Nat}{f g:Nat→List D}(h:∀ j,j<n→g j=f j):Fin (.slf e n f) (.slf e n g):=⟨fun hp v hv=>by
 simp only[Den] at hv ⊢
 obtain⟨a,cap,h1,h2,h3,h4⟩:=hv
 refine⟨a,cap,h1,h2,h3,?_⟩
 cases a with
 | none=>exact h4
 | some ad=>
  refine⟨h4.1,fun j hj=>?_⟩
  have:=h4.2 j hj
  rw[h j hj] at this
  exact this⟩
theorem jcJ (e:Nat)(f:Nat→List D):Fin (.slf e 0 f) .nil:=⟨fun hp v hv=>by
 simp only[Den] at hv ⊢
 refine⟨none,0,hv,?_⟩
 simp⟩
theorem arg3 {f:Nat}{a b c a' b' c' r:D}(h:Cl f [a,b,c] r)(A:Fin a a')(B:Fin b b')(C:Fin c c'):Cl f [a',b',c'] r:=Called.arg (show FinL [a,b,c] [a',b',c'] from ⟨A,B,C,trivial⟩) h
theorem bcl_at:∀ (l:List (Int×Int)) (j:Nat),j<l.length→List.take 2 (List.drop (j*2) (bcl l))=[.int .i64 (l.getD j (0,0)).1,.int .i64 (l.getD j (0,0)).2]
 | q::l,0,_=>rfl
 | q::l,j+1,h=>by
  rw[show (j+1)*2=j*2+1+1 by omega]
  exact bcl_at l j (by simpa using h)
theorem fcl_at:∀ (l:List Rat) (j:Nat),j<l.length→List.take 2 (List.drop (j*2) (fcl l))=[.str (decZ (l.getD j 0).num),.str (dec (l.getD j 0).den)]
 | q::l,0,_=>rfl
 | q::l,j+1,h=>by
  rw[show (j+1)*2=j*2+1+1 by omega]
  exact fcl_at l j (by simpa using h)
abbrev oL (p:List (Int×Int)):D:=sl2 p.length (bcl p)
abbrev fL (x:List Rat):D:=sl2 x.length (fcl x)
theorem fin_o (p:List (Int×Int)):Fin (opsD p) (oL p):=jdk (bcl_at p)
theorem fin_f (x:List Rat):Fin (inF x) (fL x):=jdk (fcl_at x)
theorem fin_b (x:List (Int×Int)):Fin (inB x) (oL x):=jdk (bcl_at x)
theorem jh7 (p:List (Int×Int))(i o:Int):Cl 25 [oL p,.int .i64 i,.int .i64 o] (.int .i64 (if (surv p i o).isSome then 0 else 120)):=
 arg3 (jgc p i o) (fin_o p) (Fin.same _) (Fin.same _)
theorem depth_o (p:List (Int×Int))(i o:Int):Cl 27 [oL p,.int .i64 i,.int .i64 o] (.tup [.int .i64 ((surv p i o).getD 0),.int .i64 (if (surv p i o).isSome then 0 else 120)]):=
 arg3 (pdepth_c p i o) (fin_o p) (Fin.same _) (Fin.same _)
def resF (r:Except Int (List Rat)):D:=match r with | .ok l => .tup [fL l,.int .i64 0] | .error e => .tup [.nil,.int .i64 e]
def resB (r:Except Int (List (Int×Int))):D:=match r with | .ok l => .tup [oL l,.int .i64 0] | .error e => .tup [.nil,.int .i64 e]
theorem run_o (p:List (Int×Int))(x:List Rat)(o d:Int)(okx:∀ q∈x,okF q=true)(hs:surv p x.length o=some d):Cl 20 [oL p,fL x,.int .i64 o] (resF (rnM mF x p [])):=by
 have c:=arg3 (runF_c p x o d okx hs) (fin_o p) (fin_f x) (Fin.same _)
 cases h:rnM mF x p [] with
 | ok l=>rw[h] at c;exact c
 | error e=>rw[h] at c;exact c
theorem bands_o (p x:List (Int×Int))(o d:Int)(okx:∀ q∈x,okB q)(hs:surv p x.length o=some d):Cl 22 [oL p,oL x,.int .i64 o] (resB (rnM mB x p [])):=by
 have c:=arg3 (runB_c p x o d okx hs) (fin_o p) (fin_b x) (Fin.same _)
 cases h:rnM mB x p [] with
 | ok l=>rw[h] at c;exact c
 | error e=>rw[h] at c;exact c
theorem run_no (p:List (Int×Int))(n:Nat)(f:Nat→List D)(o:Int)(hs:surv p n o=none):Cl 20 [oL p,.slf 2 n f,.int .i64 o] (.tup [.nil,.int .i64 120]):=by
 have c:=jh7 p n o
 rw[hs] at c
 have c:Cl 25 [oL p,.int .i64 n,.int .i64 o] (.int .i64 120):=c
 refine V.en tbOk Tryz.func20 ?_
 (conv=>whnf)
 (conv=>whnf)
 (try simp only[])
 repeat ((first|refine V.s1 ?_|((try ((with_reducible refine .ext ?_);(conv=>whnf);(try simp only[])));(with_reducible refine jaa (r:=?_) ?_ ?_);rotate_left;(focus (first|exact(c)));(conv=>whnf)));(try simp only[]))
 exact Fin.of rfl
theorem run_bad (p:List (Int×Int))(n m:Nat)(X:Nat→List UInt8×List UInt8)(o d e:Int)(hs:surv p n o=some d)(hm:m<n)(he:e≠0)(h1:∀ k,k<m→Cl 47 [.agg [.str (X k).1,.str (X k).2]] (.int .i64 0))(h2:Cl 47 [.agg [.str (X m).1,.str (X m).2]] (.int .i64 e)) :
  Cl 20 [oL p,.slf 2 n (fun j=>[.str (X j).1,.str (X j).2]),.int .i64 o] (.tup [.nil,.int .i64 e]):=by
 have c:=jh7 p n o
 rw[hs] at c
 have c:Cl 25 [oL p,.int .i64 n,.int .i64 o] (.int .i64 0):=c
 have hn:n≤4:=by
  unfold surv at hs
  split at hs
  ·omega
  ·cases hs
 refine V.en tbOk Tryz.func20 ?_
 (conv=>whnf)
 (conv=>whnf)
 (try simp only[])
 repeat ((first|refine V.s1 ?_|((try ((with_reducible refine .ext ?_);(conv=>whnf);(try simp only[])));(with_reducible refine jaa (r:=?_) ?_ ?_);rotate_left;(focus (first|exact(c)));(conv=>whnf)));(try simp only[]))
 refine jaf ((0:Nat)) (fun k=>k≤m) (fun k=>m-k) (fun k=>[(22,.int .i64 k)]) (fun k=>[]) ?_ ?_ ?_
 ·exact V.wk
 ·exact jit _
 intro k hk
 have hkc:((k:Int)+1)=((k+1:Nat):Int):=by omega
 have hlt:decide ((k:Int)<n)=true:=decide_eq_true (by omega)
 by_cases hkm:k=m
 ·subst hkm
  have hne:decide (e≠0)=true:=decide_eq_true he
  refine V.r1 (V.a3 hlt hne @jiA) h2 ?_
  exact Fin.of rfl
 ·have h3:=h1 k (by omega)
  refine V.r1 (V.a3 hlt hkc @jiA) h3 ?_
  exact⟨k+1,by omega,by omega,V.wk⟩
theorem eq_f (n:Nat)(X:Nat→List UInt8×List UInt8)(hn:n≤40):Cl 29 [.slf 2 n (fun j=>[.str (X j).1,.str (X j).2]),.slf 2 n (fun j=>[.str (X j).1,.str (X j).2])] (.bool true):=by
 refine V.en tbOk Tryz.func29 ?_
 (conv=>whnf)
 (conv=>whnf)
 (try simp only[])
 repeat ((first|refine V.s1 ?_);(try simp only[]))
 refine Cnd.no (decide_eq_false (fun h=>h rfl)) ?_
 (conv=>whnf)
 (try simp only[])
 repeat ((first|refine V.s1 ?_);(try simp only[]))
 refine jaf ((0:Nat)) (fun k=>k≤n) (fun k=>n-k) (fun k=>[(13,.int .i64 k)]) (fun k=>[]) ?_ ?_ ?_
 ·exact V.wk
 ·exact jit _
 intro k hk
 have hkc:((k:Int)+1)=((k+1:Nat):Int):=by omega
 by_cases hkn:k<n
 ·have hlt:decide ((k:Int)<n)=true:=decide_eq_true (by omega)
  refine V.r0 (V.a2 hlt @jiA) ?_
  refine⟨Pq11z,[],V.pok,?_⟩
  refine jas [(24,.bool false)] [] ?_ ?_
  ·exact V.d0 (V.a4 @jiA @decide_true @Bool.and_self @Bool.not_true)
  refine V.r0 (V.a2 hkc @jiA) ?_
  exact⟨k+1,by omega,by omega,V.wk⟩
 ·have hlt:decide ((k:Int)<n)=false:=decide_eq_false (by omega)
  refine V.r0 hlt ?_
  exact Fin.of rfl
theorem eq_b (n:Nat)(X:Nat→Int×Int)(hn:n≤40):Cl 38 [.slf 2 n (fun j=>[.int .i64 (X j).1,.int .i64 (X j).2]),.slf 2 n (fun j=>[.int .i64 (X j).1,.int .i64 (X j).2])] (.bool true):=by
 refine V.en tbOk Tryz.func38 ?_
 (conv=>whnf)
 (conv=>whnf)
 (try simp only[])
 repeat ((first|refine V.s1 ?_);(try simp only[]))
 refine Cnd.no (decide_eq_false (fun h=>h rfl)) ?_
 (conv=>whnf)
 (try simp only[])
 repeat ((first|refine V.s1 ?_);(try simp only[]))
 refine jaf ((0:Nat)) (fun k=>k≤n) (fun k=>n-k) (fun k=>[(13,.int .i64 k)]) (fun k=>[]) ?_ ?_ ?_
 ·exact V.wk
 ·exact jit _
 intro k hk
 have hkc:((k:Int)+1)=((k+1:Nat):Int):=by omega
 by_cases hkn:k<n
 ·have hlt:decide ((k:Int)<n)=true:=decide_eq_true (by omega)
  refine V.r0 (V.a2 hlt @jiA) ?_
  refine⟨Pq11z,[],V.pok,?_⟩
  refine jas [(24,.bool false)] [] ?_ ?_
  ·exact V.d0 (V.a4 @jiA @decide_true @Bool.and_self @Bool.not_true)
  refine V.r0 (V.a2 hkc @jiA) ?_
  exact⟨k+1,by omega,by omega,V.wk⟩
 ·have hlt:decide ((k:Int)<n)=false:=decide_eq_false (by omega)
  refine V.r0 hlt ?_
  exact Fin.of rfl
theorem jdz {n m:Int}(hn : -9223372036854775807≤n∧n≤9223372036854775807)(hm:1≤m∧m≤9223372036854775807):Cl 12 [.int .i64 n,.int .i64 m] (frT (Rat.divInt n m)):=by
 have c:=y_rof hn hm
 unfold frT at *
 generalize Rat.divInt n m=q at *
 refine V.en tbOk Tryz.func12 ?_
 (conv=>whnf)
 refine V.st ?_
 repeat ((try ((with_reducible refine .ext ?_);(conv=>whnf)));(with_reducible refine jaa (r:=?_) ?_ ?_);rotate_left;(focus (first|exact(c)));(conv=>whnf);refine V.st ?_)
 exact Fin.of rfl
abbrev halfP:List (Int×Int):=[(1,0),(1,1),(3,0),(2,500000),(5,0)]
abbrev signP:List (Int×Int):=[(2,1000000),(2,0),(1,0),(10,0)]
theorem half_c:Cl 32 [] (oL halfP):=by
 refine V.en tbOk Tryz.func32 ?_
 refine V.r0 @jiy ?_
 exact Fin.of rfl
theorem sign_c12:Cl 39 [] (oL signP):=by
 refine V.en tbOk Tryz.func39 ?_
 refine V.r0 @jiy ?_
 exact Fin.of rfl
theorem arg2 {f:Nat}{a b a' b' r:D}(h:Cl f [a,b] r)(A:Fin a a')(B:Fin b b'):Cl f [a',b'] r:=Called.arg (show FinL [a,b] [a',b'] from ⟨A,B,trivial⟩) h
theorem eqL_f (x:List Rat)(h:x.length≤40):Cl 29 [fL x,fL x] (.bool true):=
 arg2 (eq_f x.length (fun j=>(decZ (x.getD j 0).num,dec (x.getD j 0).den)) h) (fin_f x) (fin_f x)
theorem eqL_b (x:List (Int×Int))(h:x.length≤40):Cl 38 [oL x,oL x] (.bool true):=
 arg2 (eq_b x.length (fun j=>x.getD j (0,0)) h) (fin_b x) (fin_b x)
theorem runs_c (p:List (Int×Int))(x:List Rat)(y:Rat)(d:Int)(okx:∀ q∈x,okF q=true)(hs:surv p x.length 1=some d)(hr:rnM mF x p [] = .ok [y]):Cl 16 [oL p,frT y,fL x] (.bool true):=by
 have r:Cl 20 [oL p,fL x,.int .i64 1] (.tup [sl2 1 [.str (decZ y.num),.str (dec y.den)],.int .i64 0]):=by
  have r:=run_o p x 1 d okx hs
  rw[hr] at r
  exact r
 have e:Cl 29 [sl2 1 [.str (decZ y.num),.str (dec y.den)],sl2 1 [.str (decZ y.num),.str (dec y.den)]] (.bool true):=eqL_f [y] (Nat.succ_le_succ (jit _))
 unfold frT
 clear hr hs okx
 generalize decZ y.num=S at *
 generalize dec y.den=T at *
 refine V.en tbOk Tryz.func16 ?_
 refine V.r2 @jiy r e ?_
 exact Fin.of rfl
theorem okF_l {n m:Int}(hn : -9223372036854775807≤n∧n≤9223372036854775807)(hm:1≤m∧m≤9223372036854775807):okF (Rat.divInt n m)=true:=(jdO hn hm).ok (by omega) (by omega)
theorem wakes_c:Cl 11 [] (.bool true):=by
 have o38:=jdz (n:=3) (m:=8) (by omega) (by omega)
 have o12:=jdz (n:=1) (m:=2) (by omega) (by omega)
 have o14:=jdz (n:=1) (m:=4) (by omega) (by omega)
 have o11:=jdz (n:=1) (m:=1) (by omega) (by omega)
 have o01:=jdz (n:=0) (m:=1) (by omega) (by omega)
 have o17:=jdz (n := -1) (m:=7) (by omega) (by omega)
 have o31:=jdz (n:=3) (m:=1) (by omega) (by omega)
 have o3n:=jdz (n := -3) (m:=1) (by omega) (by omega)
 have k1:∀ (n m:Int),(-9223372036854775807≤n∧n≤9223372036854775807)→(1≤m∧m≤9223372036854775807) → ∀ q∈[Rat.divInt n m],okF q=true:=fun n m h1 h2 q hq=>by rw[List.mem_singleton.1 hq];exact okF_l h1 h2
 have r1:Cl 16 [oL halfP,frT (Rat.divInt 3 8),fL [Rat.divInt 1 2,Rat.divInt 1 4]] (.bool true):=
  runs_c halfP _ _ 2 (fun q hq=>by
   rcases ji5.1 hq with e|h
   ·rw[e];exact okF_l (by omega) (by omega)
   ·exact k1 1 4 (by omega) (by omega) q h) (by kernel_rfl) (by kernel_rfl)
 have r2:Cl 16 [oL signP,frT (Rat.divInt 1 1),fL [Rat.divInt 0 1]] (.bool true):=runs_c signP _ _ 3 (k1 0 1 (by omega) (by omega)) (by kernel_rfl) (by kernel_rfl)
 have r3:Cl 16 [oL signP,frT (Rat.divInt 0 1),fL [Rat.divInt (-1) 7]] (.bool true):=runs_c signP _ _ 3 (k1 (-1) 7 (by omega) (by omega)) (by kernel_rfl) (by kernel_rfl)
 have r4:Cl 16 [oL [(1,0),(11,0),(8,0),(7,0)],frT (Rat.divInt 3 1),fL [Rat.divInt (-3) 1]] (.bool true):=runs_c _ _ _ 2 (k1 (-3) 1 (by omega) (by omega)) (by kernel_rfl) (by kernel_rfl)
 have b1:Cl 22 [oL signP,oL [(-1000000000000,1000000000000)],.int .i64 1] (.tup [oL [(0,1000000000000)],.int .i64 0]):=by
  have c:=bands_o signP [(-1000000000000,1000000000000)] 1 3 (fun q hq=>by rw[List.mem_singleton.1 hq];exact jaz.2 (by omega)) (by kernel_rfl)
  rw[show rnM mB [(-1000000000000,1000000000000)] signP [] = .ok [(0,1000000000000)] by kernel_rfl] at c
  exact c
 have b2:Cl 22 [oL signP,oL [(1000000000000,2000000000000)],.int .i64 1] (.tup [oL [(1000000000000,1000000000000)],.int .i64 0]):=by
  have c:=bands_o signP [(1000000000000,2000000000000)] 1 3 (fun q hq=>by rw[List.mem_singleton.1 hq];exact jaz.2 (by omega)) (by kernel_rfl)
  rw[show rnM mB [(1000000000000,2000000000000)] signP [] = .ok [(1000000000000,1000000000000)] by kernel_rfl] at c
  exact c
 have d1:Cl 27 [oL halfP,.int .i64 2,.int .i64 1] (.tup [.int .i64 2,.int .i64 0]):=by
  have c:=depth_o halfP 2 1
  rw[show surv halfP 2 1=some 2 by kernel_rfl] at c
  exact c
 have c1:Cl 25 [oL halfP,.int .i64 1,.int .i64 1] (.int .i64 120):=by
  have c:=jh7 halfP 1 1
  rw[show surv halfP 1 1=none by kernel_rfl] at c
  exact c
 have e1:=eqL_b [(0,1000000000000)] (by decide)
 have e2:=eqL_b [(1000000000000,1000000000000)] (by decide)
 have hf:=half_c
 have sg:=sign_c12
 clear k1
 simp only[oL,fL,halfP,signP,bcl,fcl,frT,jji,List.length_nil,Nat.reduceAdd] at *
 generalize decZ (Rat.divInt 3 8).num=s38 at *
 generalize dec (Rat.divInt 3 8).den=t38 at *
 generalize decZ (Rat.divInt 1 2).num=s12 at *
 generalize dec (Rat.divInt 1 2).den=t12 at *
 generalize decZ (Rat.divInt 1 4).num=s14 at *
 generalize dec (Rat.divInt 1 4).den=t14 at *
 generalize decZ (Rat.divInt 1 1).num=s11 at *
 generalize dec (Rat.divInt 1 1).den=t11 at *
 generalize decZ (Rat.divInt 0 1).num=s01 at *
 generalize dec (Rat.divInt 0 1).den=t01 at *
 generalize decZ (Rat.divInt (-1) 7).num=s17 at *
 generalize dec (Rat.divInt (-1) 7).den=t17 at *
 generalize decZ (Rat.divInt 3 1).num=s31 at *
 generalize dec (Rat.divInt 3 1).den=t31 at *
 generalize decZ (Rat.divInt (-3) 1).num=s3n at *
 generalize dec (Rat.divInt (-3) 1).den=t3n at *
 refine V.en tbOk Tryz.func11 ?_
 (conv=>whnf)
 (conv=>whnf)
 (try simp only[jiy,decide_true])
 repeat ((first|refine V.s1 ?_|((try ((with_reducible refine .ext ?_);(conv=>whnf);(try simp only[jiy,decide_true])));(with_reducible refine jaa (r:=?_) ?_ ?_);rotate_left;(focus (first|exact(hf)|exact(sg)|exact(d1)|exact(b1)|exact(b2)|exact(c1)|exact(e1)|exact(e2)|exact(o38)|exact(o12)|exact(o14)|exact(o11)|exact(o01)|exact(o17)|exact(o31)|exact(o3n)|exact(r1)|exact(r2)|exact(r3)|exact(r4)));(conv=>whnf))|(((with_reducible refine .ext ?_));(conv=>whnf)));(try simp only[jiy,decide_true]))
 exact Fin.of rfl
end Go.Proofs.YtpkdedncgclblaaGreatDoor
end
section
namespace Go.V
open Go Go.RowKit
theorem Wk.renS {off:Nat}{L:Sl}{H:Hp}{L2:Sl}{H2:Hp}(i j t n e:Nat){es:List D}(hij:i≠j)(hoff:off≤j)(hfr:D.freeL j es=true)(hi:lookH H i=some (.box es))(ht:look L t = .bsl i 0 n e)
  (h:Wk off ((t,.bsl j 0 n e)::purge j L) ((j,.box es)::(i,.gone)::jaC j H) L2 H2):Wk off L H L2 H2:=by
 refine⟨fun cx E h' a w e' S=>?_⟩
 subst e'
 have S1:=S.renBx hij hoff hfr hi
 have hv:=S.knows t
 rw[ht] at hv
 refine h.out cx (E.alias2 i j) h' a w rfl (S1.reslot ?_)
 simp only[Den,Env.alias2,if_true] at hv ⊢
 exact hv
end Go.V
namespace Go.Proofs.YtpkdedncgclblaaGreatDoor
open Go Go.V Go.Nb
theorem jhi (p:List (Int×Int))(K:List D→Prop):∀ (n:Nat) (acc:List D),n≤p.length→catF 2 (fun j=>List.take 2 (List.drop (j*2) (bcl p))) n acc K=K (bcl (p.take n)++acc)
 | 0,acc,_=>rfl
 | n+1,acc,h=>by
  unfold catF
  rw[bcl_at p n (by omega)]
  show (match Nat.beq (acc.length+1+1) (acc.length+2) with|true=>catF 2 (fun j=>List.take 2 (List.drop (j*2) (bcl p))) n (.int .i64 (p.getD n (0,0)).1 :: .int .i64 (p.getD n (0,0)).2::acc) K|false=>False)=_
  rw[jip]
  dsimp only
  rw[jhi p K n _ (by omega),jbF p n (0,0) (by omega),jaM]
  simp[bcl]
theorem jev (l:List (Int×Int)):D.pureL (bcl l)=true:=by
 induction l with
 | nil=>rfl
 | cons q m ih=>simp only[bcl,D.pureL,D.pure,ih]
theorem jfl (l:List (Int×Int))(i:Nat):D.freeL i (bcl l)=true:=by
 induction l with
 | nil=>rfl
 | cons q m ih=>simp only[bcl,D.freeL,D.free];exact ih
end Go.Proofs.YtpkdedncgclblaaGreatDoor
end
section
namespace Go.Proofs.YtpkdedncgclblaaGreatDoor
open Go Go.V Go.RowKit Go.Proofs Go.Shelf Go.Lib
set_option maxHeartbeats 4000000
set_option maxRecDepth 1000000
theorem opSl:Tryz.prog.underlying 36=some (.slice 33):=by kernel_rfl
theorem jdy:(Tryz.prog.info? 33).map (fun i=>(i.zero,i.size,i.bytes))=some (some (.agg #[.int .i64 0,.int .i64 0]),2,16):=by kernel_rfl
theorem jcv {w:World}{b o:Nat}{cs:Array Value}{T:TypeId}(hb:w.heap[b]? = some (.cells cs T (0,0))):w.frozen? ⟨b,o,none⟩=false:=by
 unfold World.frozen?
 rw[hb]
 simp
theorem ja1 (b:Nat)(vs:List Value)(o:Nat)(w:World)(h:∀ j,j<vs.length→(w.cell? ⟨b,o+j,none⟩).isSome=true)(k:Nat)(hk:(w.cell? ⟨b,k,none⟩).isSome=true):((w.setCells b o vs).cell? ⟨b,k,none⟩).isSome=true:=by
 by_cases hin:o≤k∧k<o+vs.length
 ·have:=World.cell?_setCells_in b vs o w h (k-o) (by omega)
  rw[show o+(k-o)=k by omega] at this
  rw[this];rfl
 ·rw[World.cell?_setCells_out b vs o w ⟨b,k,none⟩ (fun _ _=>by show k<o∨o+vs.length≤k;omega)]
  exact hk
theorem jeh {P:Program}{ops:Array Oper}{o:Oper}{a:Act}{w:World}{K:Act→World→Prop}{Q:Exit→Act→World→Prop}{E:Prop}
  (hg:o.guard=none) (d x:Operand) (dT sT:TypeId) (hop:o.op=Op.call { callee:=Callee.builtin Builtin.append,args := #[d,x],argTypes := #[dT,sT] })
  (v u:Value) (hd:a.eval d=v) (hx:a.eval x=u) {v':Value} {w':World} (hr:(Builtin.append_ #[dT,sT] o.type #[v,u]).run P w = .ok v' w') (hK:K (a.put o.dst v') w') :
  if Region.wanted o (yielded ops a.tmps)=true then Oper.wp P o a w K Q else E:=by
 have hw:Region.wanted o (yielded ops a.tmps)=true:=by simp[Region.wanted,hg]
 rw[if_pos hw]
 unfold Oper.wp
 simp[execOp,hop,resolve,invoke,builtin,hd,hx,hr,Result.andThen]
 exact hK
theorem jgM (w:World)(ty:TypeId)(b o c:Nat)(hc:∀ j,j<2→(w.cell? ⟨b,o+j,none⟩).isSome=true)(hf:∀ j,j<2→w.frozen? ⟨b,o+j,none⟩=false) :
  (Builtin.clear_ #[36] ty #[.slice (some ⟨b,o,none⟩) 1 c]).run Tryz.prog w = .ok (.tuple #[]) (w.setCells b o [.int .i64 0,.int .i64 0]):=by
 have hst:=run_storeCells_cells (P:=Tryz.prog) b o [.int .i64 0,.int .i64 0] 0 w (by simpa using hc) (by simpa using hf) (by intro v hv;simp at hv;subst hv;rfl)
 simp only[jiz] at hst
 have hz:(zeroValue 33).run Tryz.prog w = .ok (.agg #[.int .i64 0,.int .i64 0]) w:=by
  obtain⟨i0,hi0,hz0,_,_⟩:=info_parts jdy
  simp[zeroValue,typeInfo,hi0,hz0]
 have hzc:(Builtin.zeroCells (Value.agg #[.int .i64 0,.int .i64 0]).cells 1).toList=[.int .i64 0,.int .i64 0]:=by kernel_rfl
 simp[Builtin.clear_,run_underlying opSl,hz,hzc,hst]
theorem del_run (i n cap b:Nat)(us rest:List Value)(T:TypeId)(w:World)(hb:w.heap[b]? = some (.cells (us++rest).toArray T (0,0)))(hl:us.length=n*2)(hi:i<n)(hc:n≤cap)(hbig:n≤1000000)(h1:∀ v∈us,v.oneCell'=true) :
  Calls Tryz.prog 127 #[.slice (some ⟨b,0,none⟩) n cap,.int .i64 i,.int .i64 ((i+1:Nat):Int)] w fun e w'=>e = .returned (.slice (some ⟨b,0,none⟩) (n-1) cap) ∧ ∃ q,w'=((w.drewN q).setCells b (i*2) (us.drop ((i+1)*2))).setCells b ((n-1)*2) [.int .i64 0,.int .i64 0]:=by
 obtain⟨i0,hi0,hz0,hz1,hz2⟩:=info_parts jdy
 have hne:¬ ((i:Int)=((i+1:Nat):Int)):=by omega
 obtain⟨news,hnews⟩:∃ news,news=us.drop ((i+1)*2):=⟨_,rfl⟩
 have hlen:news.length=(n-(i+1))*2:=by rw[hnews,jjo,hl];omega
 have hcell:∀ (j:Nat),j<n*2→(w.drew.cell? ⟨b,j,none⟩).isSome=true:=fun j hj=>by
  show (w.cell? ⟨b,j,none⟩).isSome=true
  rw[jaY hb (ji6 (by omega))];rfl
 have hfz:∀ j,w.drew.frozen? ⟨b,j,none⟩=false:=fun j=>jcv hb
 obtain⟨A,hA,hsrc⟩:∃ A:Addr,(if cap=i+1 then some (⟨b,0,none⟩:Addr) else some ⟨b,(i+1)*2,none⟩)=some A∧Hid (∀ t u,news[t]? = some u→w.drew.cell? (A.add t)=some u):=by
  by_cases h:cap=i+1
  ·refine⟨⟨b,0,none⟩,by simp[h],fun t u hu=>?_⟩
   have h0:news.length=0:=by rw[hlen];omega
   rw[ji4.1 h0] at hu
   simp at hu
  ·refine⟨⟨b,(i+1)*2,none⟩,by simp[h],fun t u hu=>?_⟩
   rw[hnews,List.getElem?_drop] at hu
   rw[Addr.add_lit]
   exact jaY hb hu
 have hrun:∀ ty,(Builtin.append_ #[36,36] ty #[.slice (some ⟨b,0,none⟩) i cap,.slice (some A) (n-(i+1)) (cap-(i+1))]).run Tryz.prog w.drew = .ok (.slice (some ⟨b,0,none⟩) (i+(n-(i+1))) cap) (w.drew.setCells b (0+i*i0.size) news):=fun ty=>
  run_append_room_cells (P:=Tryz.prog) w.drew 36 ty 33 i0 opSl hi0 b 0 i cap A (n-(i+1)) (cap-(i+1)) news (by rw[hlen,hz1]) hsrc.out (fun u hu=>h1 u (by rw[hnews] at hu;exact jje hu)) (by omega) (fun j hj=>by rw[hz1];exact hcell _ (by omega)) (fun j hj=>hfz _)
 rw[hz1,jiy] at hrun
 obtain⟨W1,hW1⟩:∃ W1,W1=w.drew.setCells b (i*2) news:=⟨_,rfl⟩
 have hcl:∀ ty,(Builtin.clear_ #[36] ty #[.slice (some ⟨b,(i+(n-(i+1)))*2,none⟩) (n-(i+(n-(i+1)))) (cap-(i+(n-(i+1))))]).run Tryz.prog W1 = .ok (.tuple #[]) (W1.setCells b ((i+(n-(i+1)))*2) [.int .i64 0,.int .i64 0]):=fun ty=>by
  rw[show n-(i+(n-(i+1)))=1 by omega]
  exact jgM W1 ty b _ _ (fun j hj=>by rw[hW1];exact ja1 b _ _ _ (fun j hj=>hcell _ (by omega)) _ (hcell _ (by omega))) (fun j hj=>by rw[hW1,World.frozen?_setCells];exact hfz _)
 rw[← hW1] at hrun
 have mixed:Tryz.prog.follows .mixedOrders=true:=by kernel_rfl
 have hic:i≤cap:=by omega
 have hjc:i+1≤cap:=by omega
 have hb0:(0:Int)≤(i:Int)+1:=by omega
 have hb1:(i:Int)+1≤(n:Int):=by omega
 have hw:Hid (W1=w.drew.setCells b (i*2) news):=hW1
 have hnw:Hid (news=us.drop ((i+1)*2)):=hnews
 clear hW1 hcell hfz hnews hlen hb
 go_enter Tryz.func127,Tryz.ntmps127
 go_wp2_with fail
 go_region_law_o (refine jeh rfl _ _ 36 36 rfl _ _ (by simp[Act.eval,Act.put]) (by simp[Act.eval,Act.put]) (hrun _) ?_)
 go_wp2
 go_ret
 refine⟨by rw[show i+(n-(i+1))=n-1 by omega];rfl,1,?_⟩
 rw[hw.out,hnw.out,show i+(n-(i+1))=n-1 by omega]
 rfl
end Go.Proofs.YtpkdedncgclblaaGreatDoor
end
