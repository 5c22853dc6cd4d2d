/- What functions of the program answer at given values, part 14. Conditions: those that each theorem names. -/
import Derived.Test.YtpkdedncgclblaaGreatDoorProgramWithinH13
import Derived.Test.YtpkdedncgclblaaGreatDoorProgramWithinH6
import Derived.Test.YtpkdedncgclblaaGreatDoorProgramWithinH11
import Derived.Test.YtpkdedncgclblaaGreatDoorProgramWithinH12
import Derived.Test.YtpkdedncgclblaaGreatDoorProgramWithinH10
set_option linter.unusedSimpArgs false
set_option linter.unusedVariables false
set_option maxHeartbeats 8000000
set_option maxRecDepth 100000
section
namespace Go.Proofs.YtpkdedncgclblaaGreatDoor
open Go Go.V Go.Nb
theorem jhC:type_of% @jhS∧type_of% @jhR:=⟨@jhS,@jhR⟩
theorem rdB_neg (p:List (Int×Int))(x l:List (Int×Int))(u:(Int×Int))(k:Nat)(a:Int)(S T:Int)(e:Int)(hk:k<p.length)(hp:p.length≤40)(hca:p.getD k (0,0)=(8,a))(hl:l.length≤16)
  (cf:Cl 106 [.agg [.int .i64 u.1,.int .i64 u.2]] (.tup [.agg [.int .i64 S,.int .i64 T],.int .i64 e])) {K:K3}
  (hok:e=0 → ∀ L H,Wk 103 L H (slM p (k+1)) (hpB x (l.length+1) (bcl l++[.int .i64 S,.int .i64 T]))→K .normal L H)
  (hpan:e≠0 → ∀ L H,Wk 103 L H slE hpE→K (.panic [{ v := .iface 155 (.agg #[.int .i64 e]),recovered:=false }]) L H) :
  RunC Tryz.prog tb (inlN Tryz.prog tb 6) 42 ((jav (Tryz.f52.body.getD .skip)).getD .skip) (fun _ _ _ _ _=>False) 103 (slM p k) (hpB x (l.length+1) (bcl (l++[u]))) K:=by
 have hkc:((k:Int)+1)=((k+1:Nat):Int):=by omega
 have hne:decide ((k:Int)=p.length)=false:=decide_eq_false (by omega)
 have pg:=jaA (l++[u])
 have tk:Cl 120 [.int .i64 8] (.tup [.int .i64 1,.bool true]):=jaC 8
 have hr:(((l.length+1:Nat):Int)-1)=(l.length:Nat):=by omega
 have hble:Nat.ble (0+(l.length+1)*2) (bcl (l++[u])).length=true:=by rw[jaH,jih];simp
 have hsub:l.length+1-l.length=1:=by omega
 have hd0:∀ K,dropK (bcl (l++[u])) (l.length*2+Int.toNat 0*2) K=K (bcl [u]):=fun K=>jaO [u] K l
 (conv=>whnf)
 (try simp only[hne,jhS,hca])
 repeat ((first|refine V.s1 ?_|((try ((with_reducible refine .ext ?_);(conv=>whnf);(try simp only[hne,jhS,hca])));(with_reducible refine jaa (r:=?_) ?_ ?_);rotate_left;(focus (first|fail));(conv=>whnf))|(((simp only[pg];(conv=>whnf)));(conv=>whnf)));(try simp only[hne,jhS,hca]))
 refine .inl ?_
 (conv=>whnf)
 refine⟨0,_,_,⟨Tryz.func116,rfl,rfl,jhL rfl⟩,?_⟩
 (conv=>whnf)
 (conv=>whnf)
 (try simp only[jhS])
 repeat ((first|refine V.s1 ?_|((try ((with_reducible refine .ext ?_);(conv=>whnf);(try simp only[jhS])));(with_reducible refine jaa (r:=?_) ?_ ?_);rotate_left;(focus (first|exact(tk)));(conv=>whnf))|(((simp only[pg];(conv=>whnf)));(conv=>whnf)));(try simp only[jhS]))
 refine .inl ?_
 (conv=>whnf)
 refine⟨0,_,_,⟨Tryz.func196,rfl,rfl,jhL rfl⟩,?_⟩
 (conv=>whnf)
 (conv=>whnf)
 (try simp only[hr,jhS])
 repeat ((first|refine V.s1 ?_|((try ((with_reducible refine .ext ?_);(conv=>whnf);(try simp only[hr,jhS])));(with_reducible refine jaa (r:=?_) ?_ ?_);rotate_left;(focus (first|exact(tk)));(conv=>whnf))|(((simp only[pg];(conv=>whnf)));(conv=>whnf))|(((simp only[hr,jhS,hsub];(conv=>whnf)));(conv=>whnf))|(((simp only[hble];(conv=>whnf)));(conv=>whnf)));(try simp only[hr,jhS]))
 refine⟨Pq9z,[],V.pok,.go (jab ?_)⟩
 (conv=>whnf)
 (try simp only[jhS])
 repeat ((first|refine V.s1 ?_|((try ((with_reducible refine .ext ?_);(conv=>whnf);(try simp only[jhS])));(with_reducible refine jaa (r:=?_) ?_ ?_);rotate_left;(focus (first|fail));(conv=>whnf))|(((simp only[pg];(conv=>whnf)));(conv=>whnf)));(try simp only[jhS]))
 refine .inl ?_
 (conv=>whnf)
 refine⟨0,_,_,⟨Tryz.func190,rfl,rfl,jhL rfl⟩,?_⟩
 (conv=>whnf)
 (conv=>whnf)
 (try simp only[jhS])
 repeat ((first|refine V.s1 ?_|((try ((with_reducible refine .ext ?_);(conv=>whnf);(try simp only[jhS])));(with_reducible refine jaa (r:=?_) ?_ ?_);rotate_left;(focus (first|fail));(conv=>whnf))|(((simp only[pg];(conv=>whnf)));(conv=>whnf)));(try simp only[jhS]))
 refine⟨Pq32z,[],V.pok,.go (jab ?_)⟩
 (conv=>whnf)
 (try simp only[jhC])
 repeat ((first|refine V.s1 ?_|((try ((with_reducible refine .ext ?_);(conv=>whnf);(try simp only[jhC])));(with_reducible refine jaa (r:=?_) ?_ ?_);rotate_left;(focus (first|exact(cf)));(conv=>whnf))|(((simp only[pg];(conv=>whnf)));(conv=>whnf))|(((simp only[hd0];(conv=>whnf)));(conv=>whnf)));(try simp only[jhC]))
 refine .inl ?_
 (conv=>whnf)
 refine⟨0,_,_,⟨Tryz.func195,rfl,rfl,jhL rfl⟩,?_⟩
 (conv=>whnf)
 (conv=>whnf)
 (try simp only[jhS])
 repeat ((first|refine V.s1 ?_|((try ((with_reducible refine .ext ?_);(conv=>whnf);(try simp only[jhS])));(with_reducible refine jaa (r:=?_) ?_ ?_);rotate_left;(focus (first|fail));(conv=>whnf))|(((simp only[pg];(conv=>whnf)));(conv=>whnf)));(try simp only[jhS]))
 by_cases he:e=0
 ·refine cnd_to [(0,.box 58 0),(4,.box 200 0)] [(58,.box [.bsl 145 0 l.length 2,inB x,.fn 97 [] [],.mapr 44]),(145,.box (bcl l)),(200,.box [.int .i64 S,.int .i64 T]),(44,.mp esB),(114,.mp stepsB),(64,.box [.nil]),(65,.box [.int .i64 0])] (CondB.mk (fun h=>absurd he (by simpa using h)) (fun _=>?_)) ?_
  ·(conv=>whnf)
   exact Wk.trim 145 (l.length*2) rfl (Wk.same 145 rfl (jbm l [u]) V.wk)
  ·have pg:=jaA l
   have hb:=jbn l
   have ht:=jax hl
   have hf:∀ i,D.freeL i (bcl l++[.int .i64 S,.int .i64 T])=true:=jay l _ _
   (conv=>whnf)
   refine⟨Pq22z,[],V.pok,.go (jab ?_)⟩
   (conv=>whnf)
   (try simp only[jhS,hkc])
   repeat ((first|refine V.s1 ?_|((try ((with_reducible refine .ext ?_);(conv=>whnf);(try simp only[jhS,hkc])));(with_reducible refine jaa (r:=?_) ?_ ?_);rotate_left;(focus (first|fail));(conv=>whnf))|(((simp only[pg];(conv=>whnf)));(conv=>whnf))|(((simp only[hb,ht,jiB,hf];(conv=>whnf)));(conv=>whnf)));(try simp only[jhS,hkc]))
   refine hok he _ _ (Wk.renB 214 145 58 0 (l.length+1) 2 (by decide) (by decide) (by decide) (hf _) rfl rfl rfl ?_)
   exact V.wk
 ·refine Cnd.split (CondB.mk (fun _=>?_) (fun h=>absurd (by simpa using h) he))
  refine V.r0 @jhS ?_
  exact hpan he _ _ V.wk
theorem rdB_abs (p:List (Int×Int))(x l:List (Int×Int))(u:(Int×Int))(k:Nat)(a:Int)(S T:Int)(e:Int)(hk:k<p.length)(hp:p.length≤40)(hca:p.getD k (0,0)=(9,a))(hl:l.length≤16)
  (cf:Cl 107 [.agg [.int .i64 u.1,.int .i64 u.2]] (.tup [.agg [.int .i64 S,.int .i64 T],.int .i64 e])) {K:K3}
  (hok:e=0 → ∀ L H,Wk 103 L H (slM p (k+1)) (hpB x (l.length+1) (bcl l++[.int .i64 S,.int .i64 T]))→K .normal L H)
  (hpan:e≠0 → ∀ L H,Wk 103 L H slE hpE→K (.panic [{ v := .iface 155 (.agg #[.int .i64 e]),recovered:=false }]) L H) :
  RunC Tryz.prog tb (inlN Tryz.prog tb 6) 42 ((jav (Tryz.f52.body.getD .skip)).getD .skip) (fun _ _ _ _ _=>False) 103 (slM p k) (hpB x (l.length+1) (bcl (l++[u]))) K:=by
 have hkc:((k:Int)+1)=((k+1:Nat):Int):=by omega
 have hne:decide ((k:Int)=p.length)=false:=decide_eq_false (by omega)
 have pg:=jaA (l++[u])
 have tk:Cl 120 [.int .i64 9] (.tup [.int .i64 1,.bool true]):=jaC 9
 have hr:(((l.length+1:Nat):Int)-1)=(l.length:Nat):=by omega
 have hble:Nat.ble (0+(l.length+1)*2) (bcl (l++[u])).length=true:=by rw[jaH,jih];simp
 have hsub:l.length+1-l.length=1:=by omega
 have hd0:∀ K,dropK (bcl (l++[u])) (l.length*2+Int.toNat 0*2) K=K (bcl [u]):=fun K=>jaO [u] K l
 (conv=>whnf)
 (try simp only[hne,jhS,hca])
 repeat ((first|refine V.s1 ?_|((try ((with_reducible refine .ext ?_);(conv=>whnf);(try simp only[hne,jhS,hca])));(with_reducible refine jaa (r:=?_) ?_ ?_);rotate_left;(focus (first|fail));(conv=>whnf))|(((simp only[pg];(conv=>whnf)));(conv=>whnf)));(try simp only[hne,jhS,hca]))
 refine .inl ?_
 (conv=>whnf)
 refine⟨0,_,_,⟨Tryz.func116,rfl,rfl,jhL rfl⟩,?_⟩
 (conv=>whnf)
 (conv=>whnf)
 (try simp only[jhS])
 repeat ((first|refine V.s1 ?_|((try ((with_reducible refine .ext ?_);(conv=>whnf);(try simp only[jhS])));(with_reducible refine jaa (r:=?_) ?_ ?_);rotate_left;(focus (first|exact(tk)));(conv=>whnf))|(((simp only[pg];(conv=>whnf)));(conv=>whnf)));(try simp only[jhS]))
 refine .inl ?_
 (conv=>whnf)
 refine⟨0,_,_,⟨Tryz.func196,rfl,rfl,jhL rfl⟩,?_⟩
 (conv=>whnf)
 (conv=>whnf)
 (try simp only[hr,jhS])
 repeat ((first|refine V.s1 ?_|((try ((with_reducible refine .ext ?_);(conv=>whnf);(try simp only[hr,jhS])));(with_reducible refine jaa (r:=?_) ?_ ?_);rotate_left;(focus (first|exact(tk)));(conv=>whnf))|(((simp only[pg];(conv=>whnf)));(conv=>whnf))|(((simp only[hr,jhS,hsub];(conv=>whnf)));(conv=>whnf))|(((simp only[hble];(conv=>whnf)));(conv=>whnf)));(try simp only[hr,jhS]))
 refine⟨Pq9z,[],V.pok,.go (jab ?_)⟩
 (conv=>whnf)
 (try simp only[jhS])
 repeat ((first|refine V.s1 ?_|((try ((with_reducible refine .ext ?_);(conv=>whnf);(try simp only[jhS])));(with_reducible refine jaa (r:=?_) ?_ ?_);rotate_left;(focus (first|fail));(conv=>whnf))|(((simp only[pg];(conv=>whnf)));(conv=>whnf)));(try simp only[jhS]))
 refine .inl ?_
 (conv=>whnf)
 refine⟨0,_,_,⟨Tryz.func190,rfl,rfl,jhL rfl⟩,?_⟩
 (conv=>whnf)
 (conv=>whnf)
 (try simp only[jhS])
 repeat ((first|refine V.s1 ?_|((try ((with_reducible refine .ext ?_);(conv=>whnf);(try simp only[jhS])));(with_reducible refine jaa (r:=?_) ?_ ?_);rotate_left;(focus (first|fail));(conv=>whnf))|(((simp only[pg];(conv=>whnf)));(conv=>whnf)));(try simp only[jhS]))
 refine⟨Pq32z,[],V.pok,.go (jab ?_)⟩
 (conv=>whnf)
 (try simp only[jhC])
 repeat ((first|refine V.s1 ?_|((try ((with_reducible refine .ext ?_);(conv=>whnf);(try simp only[jhC])));(with_reducible refine jaa (r:=?_) ?_ ?_);rotate_left;(focus (first|exact(cf)));(conv=>whnf))|(((simp only[pg];(conv=>whnf)));(conv=>whnf))|(((simp only[hd0];(conv=>whnf)));(conv=>whnf)));(try simp only[jhC]))
 refine .inl ?_
 (conv=>whnf)
 refine⟨0,_,_,⟨Tryz.func195,rfl,rfl,jhL rfl⟩,?_⟩
 (conv=>whnf)
 (conv=>whnf)
 (try simp only[jhS])
 repeat ((first|refine V.s1 ?_|((try ((with_reducible refine .ext ?_);(conv=>whnf);(try simp only[jhS])));(with_reducible refine jaa (r:=?_) ?_ ?_);rotate_left;(focus (first|fail));(conv=>whnf))|(((simp only[pg];(conv=>whnf)));(conv=>whnf)));(try simp only[jhS]))
 by_cases he:e=0
 ·refine cnd_to [(0,.box 58 0),(4,.box 200 0)] [(58,.box [.bsl 145 0 l.length 2,inB x,.fn 97 [] [],.mapr 44]),(145,.box (bcl l)),(200,.box [.int .i64 S,.int .i64 T]),(44,.mp esB),(114,.mp stepsB),(64,.box [.nil]),(65,.box [.int .i64 0])] (CondB.mk (fun h=>absurd he (by simpa using h)) (fun _=>?_)) ?_
  ·(conv=>whnf)
   exact Wk.trim 145 (l.length*2) rfl (Wk.same 145 rfl (jbm l [u]) V.wk)
  ·have pg:=jaA l
   have hb:=jbn l
   have ht:=jax hl
   have hf:∀ i,D.freeL i (bcl l++[.int .i64 S,.int .i64 T])=true:=jay l _ _
   (conv=>whnf)
   refine⟨Pq22z,[],V.pok,.go (jab ?_)⟩
   (conv=>whnf)
   (try simp only[jhS,hkc])
   repeat ((first|refine V.s1 ?_|((try ((with_reducible refine .ext ?_);(conv=>whnf);(try simp only[jhS,hkc])));(with_reducible refine jaa (r:=?_) ?_ ?_);rotate_left;(focus (first|fail));(conv=>whnf))|(((simp only[pg];(conv=>whnf)));(conv=>whnf))|(((simp only[hb,ht,jiB,hf];(conv=>whnf)));(conv=>whnf)));(try simp only[jhS,hkc]))
   refine hok he _ _ (Wk.renB 214 145 58 0 (l.length+1) 2 (by decide) (by decide) (by decide) (hf _) rfl rfl rfl ?_)
   exact V.wk
 ·refine Cnd.split (CondB.mk (fun _=>?_) (fun h=>absurd (by simpa using h) he))
  refine V.r0 @jhS ?_
  exact hpan he _ _ V.wk
theorem rdB_clamp (p:List (Int×Int))(x l:List (Int×Int))(u:(Int×Int))(k:Nat)(a:Int)(S T:Int)(e:Int)(hk:k<p.length)(hp:p.length≤40)(hca:p.getD k (0,0)=(12,a))(hl:l.length≤16)
  (cf:Cl 110 [.agg [.int .i64 u.1,.int .i64 u.2]] (.tup [.agg [.int .i64 S,.int .i64 T],.int .i64 e])) {K:K3}
  (hok:e=0 → ∀ L H,Wk 103 L H (slM p (k+1)) (hpB x (l.length+1) (bcl l++[.int .i64 S,.int .i64 T]))→K .normal L H)
  (hpan:e≠0 → ∀ L H,Wk 103 L H slE hpE→K (.panic [{ v := .iface 155 (.agg #[.int .i64 e]),recovered:=false }]) L H) :
  RunC Tryz.prog tb (inlN Tryz.prog tb 6) 42 ((jav (Tryz.f52.body.getD .skip)).getD .skip) (fun _ _ _ _ _=>False) 103 (slM p k) (hpB x (l.length+1) (bcl (l++[u]))) K:=by
 have hkc:((k:Int)+1)=((k+1:Nat):Int):=by omega
 have hne:decide ((k:Int)=p.length)=false:=decide_eq_false (by omega)
 have pg:=jaA (l++[u])
 have tk:Cl 120 [.int .i64 12] (.tup [.int .i64 1,.bool true]):=jaC 12
 have hr:(((l.length+1:Nat):Int)-1)=(l.length:Nat):=by omega
 have hble:Nat.ble (0+(l.length+1)*2) (bcl (l++[u])).length=true:=by rw[jaH,jih];simp
 have hsub:l.length+1-l.length=1:=by omega
 have hd0:∀ K,dropK (bcl (l++[u])) (l.length*2+Int.toNat 0*2) K=K (bcl [u]):=fun K=>jaO [u] K l
 (conv=>whnf)
 (try simp only[hne,jhS,hca])
 repeat ((first|refine V.s1 ?_|((try ((with_reducible refine .ext ?_);(conv=>whnf);(try simp only[hne,jhS,hca])));(with_reducible refine jaa (r:=?_) ?_ ?_);rotate_left;(focus (first|fail));(conv=>whnf))|(((simp only[pg];(conv=>whnf)));(conv=>whnf)));(try simp only[hne,jhS,hca]))
 refine .inl ?_
 (conv=>whnf)
 refine⟨0,_,_,⟨Tryz.func116,rfl,rfl,jhL rfl⟩,?_⟩
 (conv=>whnf)
 (conv=>whnf)
 (try simp only[jhS])
 repeat ((first|refine V.s1 ?_|((try ((with_reducible refine .ext ?_);(conv=>whnf);(try simp only[jhS])));(with_reducible refine jaa (r:=?_) ?_ ?_);rotate_left;(focus (first|exact(tk)));(conv=>whnf))|(((simp only[pg];(conv=>whnf)));(conv=>whnf)));(try simp only[jhS]))
 refine .inl ?_
 (conv=>whnf)
 refine⟨0,_,_,⟨Tryz.func196,rfl,rfl,jhL rfl⟩,?_⟩
 (conv=>whnf)
 (conv=>whnf)
 (try simp only[hr,jhS])
 repeat ((first|refine V.s1 ?_|((try ((with_reducible refine .ext ?_);(conv=>whnf);(try simp only[hr,jhS])));(with_reducible refine jaa (r:=?_) ?_ ?_);rotate_left;(focus (first|exact(tk)));(conv=>whnf))|(((simp only[pg];(conv=>whnf)));(conv=>whnf))|(((simp only[hr,jhS,hsub];(conv=>whnf)));(conv=>whnf))|(((simp only[hble];(conv=>whnf)));(conv=>whnf)));(try simp only[hr,jhS]))
 refine⟨Pq9z,[],V.pok,.go (jab ?_)⟩
 (conv=>whnf)
 (try simp only[jhS])
 repeat ((first|refine V.s1 ?_|((try ((with_reducible refine .ext ?_);(conv=>whnf);(try simp only[jhS])));(with_reducible refine jaa (r:=?_) ?_ ?_);rotate_left;(focus (first|fail));(conv=>whnf))|(((simp only[pg];(conv=>whnf)));(conv=>whnf)));(try simp only[jhS]))
 refine .inl ?_
 (conv=>whnf)
 refine⟨0,_,_,⟨Tryz.func190,rfl,rfl,jhL rfl⟩,?_⟩
 (conv=>whnf)
 (conv=>whnf)
 (try simp only[jhS])
 repeat ((first|refine V.s1 ?_|((try ((with_reducible refine .ext ?_);(conv=>whnf);(try simp only[jhS])));(with_reducible refine jaa (r:=?_) ?_ ?_);rotate_left;(focus (first|fail));(conv=>whnf))|(((simp only[pg];(conv=>whnf)));(conv=>whnf)));(try simp only[jhS]))
 refine⟨Pq32z,[],V.pok,.go (jab ?_)⟩
 (conv=>whnf)
 (try simp only[jhC])
 repeat ((first|refine V.s1 ?_|((try ((with_reducible refine .ext ?_);(conv=>whnf);(try simp only[jhC])));(with_reducible refine jaa (r:=?_) ?_ ?_);rotate_left;(focus (first|exact(cf)));(conv=>whnf))|(((simp only[pg];(conv=>whnf)));(conv=>whnf))|(((simp only[hd0];(conv=>whnf)));(conv=>whnf)));(try simp only[jhC]))
 refine .inl ?_
 (conv=>whnf)
 refine⟨0,_,_,⟨Tryz.func195,rfl,rfl,jhL rfl⟩,?_⟩
 (conv=>whnf)
 (conv=>whnf)
 (try simp only[jhS])
 repeat ((first|refine V.s1 ?_|((try ((with_reducible refine .ext ?_);(conv=>whnf);(try simp only[jhS])));(with_reducible refine jaa (r:=?_) ?_ ?_);rotate_left;(focus (first|fail));(conv=>whnf))|(((simp only[pg];(conv=>whnf)));(conv=>whnf)));(try simp only[jhS]))
 by_cases he:e=0
 ·refine cnd_to [(0,.box 58 0),(4,.box 200 0)] [(58,.box [.bsl 145 0 l.length 2,inB x,.fn 97 [] [],.mapr 44]),(145,.box (bcl l)),(200,.box [.int .i64 S,.int .i64 T]),(44,.mp esB),(114,.mp stepsB),(64,.box [.nil]),(65,.box [.int .i64 0])] (CondB.mk (fun h=>absurd he (by simpa using h)) (fun _=>?_)) ?_
  ·(conv=>whnf)
   exact Wk.trim 145 (l.length*2) rfl (Wk.same 145 rfl (jbm l [u]) V.wk)
  ·have pg:=jaA l
   have hb:=jbn l
   have ht:=jax hl
   have hf:∀ i,D.freeL i (bcl l++[.int .i64 S,.int .i64 T])=true:=jay l _ _
   (conv=>whnf)
   refine⟨Pq22z,[],V.pok,.go (jab ?_)⟩
   (conv=>whnf)
   (try simp only[jhS,hkc])
   repeat ((first|refine V.s1 ?_|((try ((with_reducible refine .ext ?_);(conv=>whnf);(try simp only[jhS,hkc])));(with_reducible refine jaa (r:=?_) ?_ ?_);rotate_left;(focus (first|fail));(conv=>whnf))|(((simp only[pg];(conv=>whnf)));(conv=>whnf))|(((simp only[hb,ht,jiB,hf];(conv=>whnf)));(conv=>whnf)));(try simp only[jhS,hkc]))
   refine hok he _ _ (Wk.renB 214 145 58 0 (l.length+1) 2 (by decide) (by decide) (by decide) (hf _) rfl rfl rfl ?_)
   exact V.wk
 ·refine Cnd.split (CondB.mk (fun _=>?_) (fun h=>absurd (by simpa using h) he))
  refine V.r0 @jhS ?_
  exact hpan he _ _ V.wk
theorem rdB_pick0 (p:List (Int×Int))(x l:List (Int×Int))(u v w:(Int×Int))(k:Nat)(a:Int)(hk:k<p.length)(hp:p.length≤40)(hca:p.getD k (0,0)=(10,a))(hl:l.length≤16)
  (hs:decide (w.1≥0)=true) {K:K3}
  (hok:∀ L H,Wk 103 L H (slM p (k+1)) (hpB x (l.length+1) (bcl l++[.int .i64 u.1,.int .i64 u.2]))→K .normal L H) :
  RunC Tryz.prog tb (inlN Tryz.prog tb 6) 42 ((jav (Tryz.f52.body.getD .skip)).getD .skip) (fun _ _ _ _ _=>False) 103 (slM p k) (hpB x (l.length+3) (bcl (l++[u,v,w]))) K:=by
 have hkc:((k:Int)+1)=((k+1:Nat):Int):=by omega
 have hne:decide ((k:Int)=p.length)=false:=decide_eq_false (by omega)
 have pg:=jaA (l++[u,v,w])
 have tk:Cl 120 [.int .i64 10] (.tup [.int .i64 3,.bool true]):=jaC 10
 have hr:(((l.length+3:Nat):Int)-3)=(l.length:Nat):=by omega
 have hble:Nat.ble (0+(l.length+3)*2) (bcl (l++[u,v,w])).length=true:=by rw[jaH,jih];simp
 have hsub:l.length+3-l.length=3:=by omega
 have hd0:∀ K,dropK (bcl (l++[u,v,w])) (l.length*2+Int.toNat 0*2) K=K (bcl [u,v,w]):=fun K=>jaO [u,v,w] K l
 have hd1:∀ K,dropK (bcl (l++[u,v,w])) (l.length*2+Int.toNat 1*2) K=K (bcl [v,w]):=fun K=>jbD l [v,w] u K
 have hd2:∀ K,dropK (bcl (l++[u,v,w])) (l.length*2+Int.toNat 2*2) K=K (bcl [w]):=fun K=>jeW l [w] u v K
 have hn0:∀ K,nthK (bcl (l++[u,v,w])) (l.length*2+Int.toNat 2*2+0) K=K (.int .i64 w.1):=fun K=>by rw[jbo];exact jc8 _ 4 K l
 have hn1:∀ K,nthK (bcl (l++[u,v,w])) (l.length*2+Int.toNat 2*2+1) K=K (.int .i64 w.2):=fun K=>by rw[jbo];exact jc8 _ 5 K l
 (conv=>whnf)
 (try simp only[hne,jhS,hca])
 repeat ((first|refine V.s1 ?_|((try ((with_reducible refine .ext ?_);(conv=>whnf);(try simp only[hne,jhS,hca])));(with_reducible refine jaa (r:=?_) ?_ ?_);rotate_left;(focus (first|fail));(conv=>whnf))|(((simp only[pg];(conv=>whnf)));(conv=>whnf)));(try simp only[hne,jhS,hca]))
 refine .inl ?_
 (conv=>whnf)
 refine⟨0,_,_,⟨Tryz.func116,rfl,rfl,jhL rfl⟩,?_⟩
 (conv=>whnf)
 (conv=>whnf)
 (try simp only[jhS])
 repeat ((first|refine V.s1 ?_|((try ((with_reducible refine .ext ?_);(conv=>whnf);(try simp only[jhS])));(with_reducible refine jaa (r:=?_) ?_ ?_);rotate_left;(focus (first|exact(tk)));(conv=>whnf))|(((simp only[pg];(conv=>whnf)));(conv=>whnf)));(try simp only[jhS]))
 refine .inl ?_
 (conv=>whnf)
 refine⟨0,_,_,⟨Tryz.func196,rfl,rfl,jhL rfl⟩,?_⟩
 (conv=>whnf)
 (conv=>whnf)
 (try simp only[hr,jhS])
 repeat ((first|refine V.s1 ?_|((try ((with_reducible refine .ext ?_);(conv=>whnf);(try simp only[hr,jhS])));(with_reducible refine jaa (r:=?_) ?_ ?_);rotate_left;(focus (first|exact(tk)));(conv=>whnf))|(((simp only[pg];(conv=>whnf)));(conv=>whnf))|(((simp only[hr,jhS,hsub];(conv=>whnf)));(conv=>whnf))|(((simp only[hble];(conv=>whnf)));(conv=>whnf)));(try simp only[hr,jhS]))
 refine⟨Pq9z,[],V.pok,.go (jab ?_)⟩
 (conv=>whnf)
 (try simp only[jhS])
 repeat ((first|refine V.s1 ?_|((try ((with_reducible refine .ext ?_);(conv=>whnf);(try simp only[jhS])));(with_reducible refine jaa (r:=?_) ?_ ?_);rotate_left;(focus (first|fail));(conv=>whnf))|(((simp only[pg];(conv=>whnf)));(conv=>whnf)));(try simp only[jhS]))
 refine .inl ?_
 (conv=>whnf)
 refine⟨0,_,_,⟨Tryz.func108,rfl,rfl,jhL rfl⟩,?_⟩
 (conv=>whnf)
 (conv=>whnf)
 (try simp only[jhC,hs])
 repeat ((first|refine V.s1 ?_|((try ((with_reducible refine .ext ?_);(conv=>whnf);(try simp only[jhC,hs])));(with_reducible refine jaa (r:=?_) ?_ ?_);rotate_left;(focus (first|fail));(conv=>whnf))|(((simp only[pg];(conv=>whnf)));(conv=>whnf))|(((simp only[hd0];(conv=>whnf)));(conv=>whnf))|(((simp only[hd1];(conv=>whnf)));(conv=>whnf))|(((rewrite [hn0];(conv=>whnf)));(conv=>whnf))|(((rewrite [hn1];(conv=>whnf)));(conv=>whnf)));(try simp only[jhC,hs]))
 refine .inl ?_
 (conv=>whnf)
 refine⟨0,_,_,⟨Tryz.func195,rfl,rfl,jhL rfl⟩,?_⟩
 (conv=>whnf)
 repeat (simp only[pg];(conv=>whnf))
 refine cnd_to [(0,.box 58 0),(4,.box 200 0)] [(58,.box [.bsl 145 0 l.length 2,inB x,.fn 97 [] [],.mapr 44]),(145,.box (bcl l)),(200,.box [.int .i64 u.1,.int .i64 u.2]),(44,.mp esB),(114,.mp stepsB),(64,.box [.nil]),(65,.box [.int .i64 0])] (CondB.mk (fun h=>by simp at h) (fun _=>?_)) ?_
 ·(conv=>whnf)
  exact Wk.trim 145 (l.length*2) rfl (Wk.same 145 rfl (jbm l [u,v,w]) V.wk)
 ·have pg:=jaA l
  have hb:=jbn l
  have ht:=jax hl
  have hf:∀ i,D.freeL i (bcl l++[.int .i64 u.1,.int .i64 u.2])=true:=jay l _ _
  (conv=>whnf)
  refine⟨Pq22z,[],V.pok,.go (jab ?_)⟩
  (conv=>whnf)
  (try simp only[jhS,hkc])
  repeat ((first|refine V.s1 ?_|((try ((with_reducible refine .ext ?_);(conv=>whnf);(try simp only[jhS,hkc])));(with_reducible refine jaa (r:=?_) ?_ ?_);rotate_left;(focus (first|fail));(conv=>whnf))|(((simp only[pg];(conv=>whnf)));(conv=>whnf))|(((simp only[hb,ht,jiB,hf];(conv=>whnf)));(conv=>whnf)));(try simp only[jhS,hkc]))
  refine hok _ _ (Wk.renB 214 145 58 0 (l.length+1) 2 (by decide) (by decide) (by decide) (hf _) rfl rfl rfl ?_)
  exact V.wk
theorem rdB_pick1 (p:List (Int×Int))(x l:List (Int×Int))(u v w:(Int×Int))(k:Nat)(a:Int)(hk:k<p.length)(hp:p.length≤40)(hca:p.getD k (0,0)=(10,a))(hl:l.length≤16)
  (hs:decide (w.1≥0)=false) (ht:decide (w.2<0)=true) {K:K3}
  (hok:∀ L H,Wk 103 L H (slM p (k+1)) (hpB x (l.length+1) (bcl l++[.int .i64 v.1,.int .i64 v.2]))→K .normal L H) :
  RunC Tryz.prog tb (inlN Tryz.prog tb 6) 42 ((jav (Tryz.f52.body.getD .skip)).getD .skip) (fun _ _ _ _ _=>False) 103 (slM p k) (hpB x (l.length+3) (bcl (l++[u,v,w]))) K:=by
 have hkc:((k:Int)+1)=((k+1:Nat):Int):=by omega
 have hne:decide ((k:Int)=p.length)=false:=decide_eq_false (by omega)
 have pg:=jaA (l++[u,v,w])
 have tk:Cl 120 [.int .i64 10] (.tup [.int .i64 3,.bool true]):=jaC 10
 have hr:(((l.length+3:Nat):Int)-3)=(l.length:Nat):=by omega
 have hble:Nat.ble (0+(l.length+3)*2) (bcl (l++[u,v,w])).length=true:=by rw[jaH,jih];simp
 have hsub:l.length+3-l.length=3:=by omega
 have hd0:∀ K,dropK (bcl (l++[u,v,w])) (l.length*2+Int.toNat 0*2) K=K (bcl [u,v,w]):=fun K=>jaO [u,v,w] K l
 have hd1:∀ K,dropK (bcl (l++[u,v,w])) (l.length*2+Int.toNat 1*2) K=K (bcl [v,w]):=fun K=>jbD l [v,w] u K
 have hd2:∀ K,dropK (bcl (l++[u,v,w])) (l.length*2+Int.toNat 2*2) K=K (bcl [w]):=fun K=>jeW l [w] u v K
 have hn0:∀ K,nthK (bcl (l++[u,v,w])) (l.length*2+Int.toNat 2*2+0) K=K (.int .i64 w.1):=fun K=>by rw[jbo];exact jc8 _ 4 K l
 have hn1:∀ K,nthK (bcl (l++[u,v,w])) (l.length*2+Int.toNat 2*2+1) K=K (.int .i64 w.2):=fun K=>by rw[jbo];exact jc8 _ 5 K l
 (conv=>whnf)
 (try simp only[hne,jhS,hca])
 repeat ((first|refine V.s1 ?_|((try ((with_reducible refine .ext ?_);(conv=>whnf);(try simp only[hne,jhS,hca])));(with_reducible refine jaa (r:=?_) ?_ ?_);rotate_left;(focus (first|fail));(conv=>whnf))|(((simp only[pg];(conv=>whnf)));(conv=>whnf)));(try simp only[hne,jhS,hca]))
 refine .inl ?_
 (conv=>whnf)
 refine⟨0,_,_,⟨Tryz.func116,rfl,rfl,jhL rfl⟩,?_⟩
 (conv=>whnf)
 (conv=>whnf)
 (try simp only[jhS])
 repeat ((first|refine V.s1 ?_|((try ((with_reducible refine .ext ?_);(conv=>whnf);(try simp only[jhS])));(with_reducible refine jaa (r:=?_) ?_ ?_);rotate_left;(focus (first|exact(tk)));(conv=>whnf))|(((simp only[pg];(conv=>whnf)));(conv=>whnf)));(try simp only[jhS]))
 refine .inl ?_
 (conv=>whnf)
 refine⟨0,_,_,⟨Tryz.func196,rfl,rfl,jhL rfl⟩,?_⟩
 (conv=>whnf)
 (conv=>whnf)
 (try simp only[hr,jhS])
 repeat ((first|refine V.s1 ?_|((try ((with_reducible refine .ext ?_);(conv=>whnf);(try simp only[hr,jhS])));(with_reducible refine jaa (r:=?_) ?_ ?_);rotate_left;(focus (first|exact(tk)));(conv=>whnf))|(((simp only[pg];(conv=>whnf)));(conv=>whnf))|(((simp only[hr,jhS,hsub];(conv=>whnf)));(conv=>whnf))|(((simp only[hble];(conv=>whnf)));(conv=>whnf)));(try simp only[hr,jhS]))
 refine⟨Pq9z,[],V.pok,.go (jab ?_)⟩
 (conv=>whnf)
 (try simp only[jhS])
 repeat ((first|refine V.s1 ?_|((try ((with_reducible refine .ext ?_);(conv=>whnf);(try simp only[jhS])));(with_reducible refine jaa (r:=?_) ?_ ?_);rotate_left;(focus (first|fail));(conv=>whnf))|(((simp only[pg];(conv=>whnf)));(conv=>whnf)));(try simp only[jhS]))
 refine .inl ?_
 (conv=>whnf)
 refine⟨0,_,_,⟨Tryz.func108,rfl,rfl,jhL rfl⟩,?_⟩
 (conv=>whnf)
 (conv=>whnf)
 (try simp only[jhC,hs,ht])
 repeat ((first|refine V.s1 ?_|((try ((with_reducible refine .ext ?_);(conv=>whnf);(try simp only[jhC,hs,ht])));(with_reducible refine jaa (r:=?_) ?_ ?_);rotate_left;(focus (first|fail));(conv=>whnf))|(((simp only[pg];(conv=>whnf)));(conv=>whnf))|(((simp only[hd0];(conv=>whnf)));(conv=>whnf))|(((simp only[hd1];(conv=>whnf)));(conv=>whnf))|(((rewrite [hn0];(conv=>whnf)));(conv=>whnf))|(((rewrite [hn1];(conv=>whnf)));(conv=>whnf)));(try simp only[jhC,hs,ht]))
 refine .inl ?_
 (conv=>whnf)
 refine⟨0,_,_,⟨Tryz.func195,rfl,rfl,jhL rfl⟩,?_⟩
 (conv=>whnf)
 repeat (simp only[pg];(conv=>whnf))
 refine cnd_to [(0,.box 58 0),(4,.box 200 0)] [(58,.box [.bsl 145 0 l.length 2,inB x,.fn 97 [] [],.mapr 44]),(145,.box (bcl l)),(200,.box [.int .i64 v.1,.int .i64 v.2]),(44,.mp esB),(114,.mp stepsB),(64,.box [.nil]),(65,.box [.int .i64 0])] (CondB.mk (fun h=>by simp at h) (fun _=>?_)) ?_
 ·(conv=>whnf)
  exact Wk.trim 145 (l.length*2) rfl (Wk.same 145 rfl (jbm l [u,v,w]) V.wk)
 ·have pg:=jaA l
  have hb:=jbn l
  have ht:=jax hl
  have hf:∀ i,D.freeL i (bcl l++[.int .i64 v.1,.int .i64 v.2])=true:=jay l _ _
  (conv=>whnf)
  refine⟨Pq22z,[],V.pok,.go (jab ?_)⟩
  (conv=>whnf)
  (try simp only[jhS,hkc])
  repeat ((first|refine V.s1 ?_|((try ((with_reducible refine .ext ?_);(conv=>whnf);(try simp only[jhS,hkc])));(with_reducible refine jaa (r:=?_) ?_ ?_);rotate_left;(focus (first|fail));(conv=>whnf))|(((simp only[pg];(conv=>whnf)));(conv=>whnf))|(((simp only[hb,ht,jiB,hf];(conv=>whnf)));(conv=>whnf)));(try simp only[jhS,hkc]))
  refine hok _ _ (Wk.renB 214 145 58 0 (l.length+1) 2 (by decide) (by decide) (by decide) (hf _) rfl rfl rfl ?_)
  exact V.wk
theorem rdB_pick2 (p:List (Int×Int))(x l:List (Int×Int))(u v w:(Int×Int))(k:Nat)(a:Int)(S T:Int)(e:Int)(hk:k<p.length)(hp:p.length≤40)(hca:p.getD k (0,0)=(10,a))(hl:l.length≤16)
  (cf:Cl 109 [.agg [.int .i64 u.1,.int .i64 u.2],.agg [.int .i64 v.1,.int .i64 v.2]] (.tup [.agg [.int .i64 S,.int .i64 T],.int .i64 e])) (hs:decide (w.1≥0)=false) (ht:decide (w.2<0)=false) {K:K3}
  (hok:e=0 → ∀ L H,Wk 103 L H (slM p (k+1)) (hpB x (l.length+1) (bcl l++[.int .i64 S,.int .i64 T]))→K .normal L H)
  (hpan:e≠0 → ∀ L H,Wk 103 L H slE hpE→K (.panic [{ v := .iface 155 (.agg #[.int .i64 e]),recovered:=false }]) L H) :
  RunC Tryz.prog tb (inlN Tryz.prog tb 6) 42 ((jav (Tryz.f52.body.getD .skip)).getD .skip) (fun _ _ _ _ _=>False) 103 (slM p k) (hpB x (l.length+3) (bcl (l++[u,v,w]))) K:=by
 have hkc:((k:Int)+1)=((k+1:Nat):Int):=by omega
 have hne:decide ((k:Int)=p.length)=false:=decide_eq_false (by omega)
 have pg:=jaA (l++[u,v,w])
 have tk:Cl 120 [.int .i64 10] (.tup [.int .i64 3,.bool true]):=jaC 10
 have hr:(((l.length+3:Nat):Int)-3)=(l.length:Nat):=by omega
 have hble:Nat.ble (0+(l.length+3)*2) (bcl (l++[u,v,w])).length=true:=by rw[jaH,jih];simp
 have hsub:l.length+3-l.length=3:=by omega
 have hd0:∀ K,dropK (bcl (l++[u,v,w])) (l.length*2+Int.toNat 0*2) K=K (bcl [u,v,w]):=fun K=>jaO [u,v,w] K l
 have hd1:∀ K,dropK (bcl (l++[u,v,w])) (l.length*2+Int.toNat 1*2) K=K (bcl [v,w]):=fun K=>jbD l [v,w] u K
 have hd2:∀ K,dropK (bcl (l++[u,v,w])) (l.length*2+Int.toNat 2*2) K=K (bcl [w]):=fun K=>jeW l [w] u v K
 have hn0:∀ K,nthK (bcl (l++[u,v,w])) (l.length*2+Int.toNat 2*2+0) K=K (.int .i64 w.1):=fun K=>by rw[jbo];exact jc8 _ 4 K l
 have hn1:∀ K,nthK (bcl (l++[u,v,w])) (l.length*2+Int.toNat 2*2+1) K=K (.int .i64 w.2):=fun K=>by rw[jbo];exact jc8 _ 5 K l
 (conv=>whnf)
 (try simp only[hne,jhS,hca])
 repeat ((first|refine V.s1 ?_|((try ((with_reducible refine .ext ?_);(conv=>whnf);(try simp only[hne,jhS,hca])));(with_reducible refine jaa (r:=?_) ?_ ?_);rotate_left;(focus (first|fail));(conv=>whnf))|(((simp only[pg];(conv=>whnf)));(conv=>whnf)));(try simp only[hne,jhS,hca]))
 refine .inl ?_
 (conv=>whnf)
 refine⟨0,_,_,⟨Tryz.func116,rfl,rfl,jhL rfl⟩,?_⟩
 (conv=>whnf)
 (conv=>whnf)
 (try simp only[jhS])
 repeat ((first|refine V.s1 ?_|((try ((with_reducible refine .ext ?_);(conv=>whnf);(try simp only[jhS])));(with_reducible refine jaa (r:=?_) ?_ ?_);rotate_left;(focus (first|exact(tk)));(conv=>whnf))|(((simp only[pg];(conv=>whnf)));(conv=>whnf)));(try simp only[jhS]))
 refine .inl ?_
 (conv=>whnf)
 refine⟨0,_,_,⟨Tryz.func196,rfl,rfl,jhL rfl⟩,?_⟩
 (conv=>whnf)
 (conv=>whnf)
 (try simp only[hr,jhS])
 repeat ((first|refine V.s1 ?_|((try ((with_reducible refine .ext ?_);(conv=>whnf);(try simp only[hr,jhS])));(with_reducible refine jaa (r:=?_) ?_ ?_);rotate_left;(focus (first|exact(tk)));(conv=>whnf))|(((simp only[pg];(conv=>whnf)));(conv=>whnf))|(((simp only[hr,jhS,hsub];(conv=>whnf)));(conv=>whnf))|(((simp only[hble];(conv=>whnf)));(conv=>whnf)));(try simp only[hr,jhS]))
 refine⟨Pq9z,[],V.pok,.go (jab ?_)⟩
 (conv=>whnf)
 (try simp only[jhS])
 repeat ((first|refine V.s1 ?_|((try ((with_reducible refine .ext ?_);(conv=>whnf);(try simp only[jhS])));(with_reducible refine jaa (r:=?_) ?_ ?_);rotate_left;(focus (first|fail));(conv=>whnf))|(((simp only[pg];(conv=>whnf)));(conv=>whnf)));(try simp only[jhS]))
 refine .inl ?_
 (conv=>whnf)
 refine⟨0,_,_,⟨Tryz.func108,rfl,rfl,jhL rfl⟩,?_⟩
 (conv=>whnf)
 (conv=>whnf)
 (try simp only[jhC,hs,ht])
 repeat ((first|refine V.s1 ?_|((try ((with_reducible refine .ext ?_);(conv=>whnf);(try simp only[jhC,hs,ht])));(with_reducible refine jaa (r:=?_) ?_ ?_);rotate_left;(focus (first|exact(cf)));(conv=>whnf))|(((simp only[pg];(conv=>whnf)));(conv=>whnf))|(((simp only[hd0];(conv=>whnf)));(conv=>whnf))|(((simp only[hd1];(conv=>whnf)));(conv=>whnf))|(((rewrite [hn0];(conv=>whnf)));(conv=>whnf))|(((rewrite [hn1];(conv=>whnf)));(conv=>whnf)));(try simp only[jhC,hs,ht]))
 refine⟨(V.tk [0,1,2,3,4,5] (V.e1 6 [] (V.tk [7,8] (V.e1 9 [] (V.tk [10] .done))))),[],V.pok,.go (jab ?_)⟩
 (conv=>whnf)
 (try simp only[jhC,hs,ht])
 repeat ((first|refine V.s1 ?_|((try ((with_reducible refine .ext ?_);(conv=>whnf);(try simp only[jhC,hs,ht])));(with_reducible refine jaa (r:=?_) ?_ ?_);rotate_left;(focus (first|exact(cf)));(conv=>whnf))|(((simp only[pg];(conv=>whnf)));(conv=>whnf))|(((simp only[hd0];(conv=>whnf)));(conv=>whnf))|(((simp only[hd1];(conv=>whnf)));(conv=>whnf))|(((rewrite [hn0];(conv=>whnf)));(conv=>whnf))|(((rewrite [hn1];(conv=>whnf)));(conv=>whnf)));(try simp only[jhC,hs,ht]))
 refine .inl ?_
 (conv=>whnf)
 refine⟨0,_,_,⟨Tryz.func195,rfl,rfl,jhL rfl⟩,?_⟩
 (conv=>whnf)
 (conv=>whnf)
 (try simp only[jhS])
 repeat ((first|refine V.s1 ?_|((try ((with_reducible refine .ext ?_);(conv=>whnf);(try simp only[jhS])));(with_reducible refine jaa (r:=?_) ?_ ?_);rotate_left;(focus (first|fail));(conv=>whnf))|(((simp only[pg];(conv=>whnf)));(conv=>whnf)));(try simp only[jhS]))
 by_cases he:e=0
 ·refine cnd_to [(0,.box 58 0),(4,.box 200 0)] [(58,.box [.bsl 145 0 l.length 2,inB x,.fn 97 [] [],.mapr 44]),(145,.box (bcl l)),(200,.box [.int .i64 S,.int .i64 T]),(44,.mp esB),(114,.mp stepsB),(64,.box [.nil]),(65,.box [.int .i64 0])] (CondB.mk (fun h=>absurd he (by simpa using h)) (fun _=>?_)) ?_
  ·(conv=>whnf)
   exact Wk.trim 145 (l.length*2) rfl (Wk.same 145 rfl (jbm l [u,v,w]) V.wk)
  ·have pg:=jaA l
   have hb:=jbn l
   have ht:=jax hl
   have hf:∀ i,D.freeL i (bcl l++[.int .i64 S,.int .i64 T])=true:=jay l _ _
   (conv=>whnf)
   refine⟨Pq22z,[],V.pok,.go (jab ?_)⟩
   (conv=>whnf)
   (try simp only[jhS,hkc])
   repeat ((first|refine V.s1 ?_|((try ((with_reducible refine .ext ?_);(conv=>whnf);(try simp only[jhS,hkc])));(with_reducible refine jaa (r:=?_) ?_ ?_);rotate_left;(focus (first|fail));(conv=>whnf))|(((simp only[pg];(conv=>whnf)));(conv=>whnf))|(((simp only[hb,ht,jiB,hf];(conv=>whnf)));(conv=>whnf)));(try simp only[jhS,hkc]))
   refine hok he _ _ (Wk.renB 214 145 58 0 (l.length+1) 2 (by decide) (by decide) (by decide) (hf _) rfl rfl rfl ?_)
   exact V.wk
 ·refine Cnd.split (CondB.mk (fun _=>?_) (fun h=>absurd (by simpa using h) he))
  refine V.r0 @jhS ?_
  exact hpan he _ _ V.wk
def prB (r:Int×Int×Int):(Int×Int)×Int:=((r.1,r.2.1),r.2.2)
def opB (c:Int):List (Int×Int)→(Int×Int)×Int
 | [u]=>if c=8 then prB (mk (0-u.2) (0-u.1)) else if c=9 then prB (mk (max (max u.1 (0-u.2)) 0) (max (0-u.1) u.2)) else prB (min (max u.1 0) 1000000000000,min (max u.2 0) 1000000000000,0)
 | [u,v]=>if c=3 then prB (mk (u.1+v.1) (u.2+v.2)) else if c=4 then prB (mk (u.1-v.2) (u.2-v.1)) else if c=5 then prB (mulR u.1 u.2 v.1 v.2) else if c=6 then prB (min u.1 v.1,min u.2 v.2,0) else prB (max u.1 v.1,max u.2 v.2,0)
 | [u,v,w]=>if 0≤w.1 then (u,0) else if w.2<0 then (v,0) else prB (min u.1 v.1,max u.2 v.2,0)
 | _=>((0,0),0)
def mB:Mc (Int×Int):=⟨fun n=>(n*1000000,n*1000000),opB⟩
abbrev okB (b:Int×Int):Prop:=vb b.1 b.2=true
def goodB (r:Int×Int×Int):Prop:=(r.2.2=0→vb r.1 r.2.1=true)∧0≤r.2.2∧r.2.2<1000
theorem jeD {a b:Int}(h:vb a b=true):goodB (a,b,0):=⟨fun _=>h,Int.le_refl _,by show (0:Int)<1000;decide⟩
theorem jbc (a b:Int):goodB (mk a b):=by
 unfold mk
 split
 ·rename_i h;exact jeD h
 ·exact⟨fun h=>absurd h (by decide),by decide,by decide⟩
theorem cmin_B {u v:Int×Int}(hu:okB u)(hv:okB v):Cl 103 [bA u.1 u.2,bA v.1 v.2] (bD (min u.1 v.1,min u.2 v.2,0)):=by
 have c:=min_b u.1 u.2 v.1 v.2
 rw[if_pos ⟨hu,hv⟩] at c
 have a:=jan.1 hu
 have b:=jan.1 hv
 split at c
 ·rename_i g;rw[show min u.1 v.1=u.1 by omega,show min u.2 v.2=u.2 by omega];exact c
 ·rw[if_neg (by omega)] at c;exact c
theorem cmax_B {u v:Int×Int}(hu:okB u)(hv:okB v):Cl 104 [bA u.1 u.2,bA v.1 v.2] (bD (max u.1 v.1,max u.2 v.2,0)):=by
 have c:=max_b u.1 u.2 v.1 v.2
 rw[if_pos ⟨hu,hv⟩] at c
 have a:=jan.1 hu
 have b:=jan.1 hv
 split at c
 ·rename_i g;rw[show max u.1 v.1=u.1 by omega,show max u.2 v.2=u.2 by omega];exact c
 ·rw[if_neg (by omega)] at c;exact c
theorem chull_B {u v:Int×Int}(hu:okB u)(hv:okB v):Cl 109 [bA u.1 u.2,bA v.1 v.2] (bD (min u.1 v.1,max u.2 v.2,0)):=by
 have c:=hull_b u.1 u.2 v.1 v.2
 rw[if_pos ⟨hu,hv⟩] at c
 have a:=jan.1 hu
 have b:=jan.1 hv
 split at c
 ·rename_i g;rw[show min u.1 v.1=u.1 by omega,show max u.2 v.2=u.2 by omega];exact c
 ·rw[if_neg (by omega)] at c;exact c
def hpE_B (x:List (Int×Int)):List (Int×Int)→Hp
 | []=>hpB0 x
 | q::l=>hpB x (q::l).length (bcl (q::l))
theorem jck (x l:List (Int×Int))(q:Int×Int):hpE_B x (l++[q])=hpB x (l.length+1) (bcl l++[.int .i64 q.1,.int .i64 q.2]):=by
 have e:hpE_B x (l++[q])=hpB x (l++[q]).length (bcl (l++[q])):=by cases l<;>rfl
 rw[e,jbo,jio]
 rfl
theorem jf1 (x l t:List (Int×Int))(h:0<t.length):hpE_B x (l++t)=hpB x (l.length+t.length) (bcl (l++t)):=by
 rw[← jio]
 cases l with
 | nil=>cases t with
  | nil=>simp at h
  | cons q t=>rfl
 | cons q l=>rfl
theorem jbH {l m:List (Int×Int)}{P:Int×Int→Prop}(h:∀ q∈l++m,P q):(∀ q∈l,P q) ∧ ∀ q∈m,P q:=⟨fun q hq=>h q (List.mem_append_left _ hq),fun q hq=>h q (List.mem_append_right _ hq)⟩
theorem jcT {l:List (Int×Int)}{P:Int×Int→Prop}{q:Int×Int}(h:∀ q∈l,P q)(hq:P q):∀ r∈l++[q],P r:=fun r hr=>by
 rcases List.mem_append.1 hr with h1|h1
 ·exact h r h1
 ·rw[List.mem_singleton.1 h1];exact hq
abbrev rndB (p:List (Int×Int))(k:Nat)(H:Hp)(K:K3):Prop:=RunC Tryz.prog tb (inlN Tryz.prog tb 6) 42 ((jav (Tryz.f52.body.getD .skip)).getD .skip) (fun _ _ _ _ _=>False) 103 (slM p k) H K
section
variable {p : List (Int × Int)} {x l : List (Int × Int)} {k : Nat} {a : Int} {K : K3}
theorem st_B {c : Int} {t : List (Int × Int)} {r : Int × Int × Int} {m : List (Int × Int)} (hl : l = m ++ t) (hlen : 0 < t.length) (h1 : c ≠ 1) (h2 : c ≠ 2) (h3 : c ≠ 11) (ht : (tkn c).toNat = t.length) (hr : opB c t = prB r) (gd : goodB r)
    (rd : ∀ (hok : r.2.2 = 0 → ∀ L H, Wk 103 L H (slM p (k + 1)) (hpB x (m.length + 1) (bcl m ++ [.int .i64 r.1, .int .i64 r.2.1])) → K .normal L H)
      (hpan : r.2.2 ≠ 0 → ∀ L H, Wk 103 L H slE hpE → K (pnc r.2.2) L H), rndB p k (hpB x (m.length + t.length) (bcl (m ++ t))) K)
    (hok : ∀ l', stM mB x (c, a) l = .ok l' → (∀ q ∈ l', okB q) → ∀ L H, Wk 103 L H (slM p (k + 1)) (hpE_B x l') → K .normal L H)
    (hpan : ∀ e, (0 < e ∧ e < 1000) → stM mB x (c, a) l = .error e → ∀ L H, Wk 103 L H slE hpE → K (pnc e) L H) (okl : ∀ q ∈ l, okB q) : rndB p k (hpE_B x l) K := by
  subst hl
  have hs : stM mB x (c, a) (m ++ t) = putM m (prB r) := by rw [jfa mB x m t c a h1 h2 h3 ht, ← hr]; rfl
  rw [hs] at hok hpan
  rw [jf1 x m t hlen]
  refine rd (fun he L H w => ?_) (fun he L H w => ?_)
  · have e : putM m (prB r) = .ok (m ++ [(r.1, r.2.1)]) := by unfold putM prB; rw [if_pos he]
    rw [e] at hok
    refine hok (m ++ [(r.1, r.2.1)]) rfl (jcT (jbH okl).1 (gd.1 he)) L H ?_
    rw [jck]; exact w
  · have e : putM m (prB r) = .error r.2.2 := by unfold putM prB; rw [if_neg he]
    rw [e] at hpan
    exact hpan r.2.2 (by have := gd.2; omega) rfl L H w
end
theorem step_B {p:List (Int×Int)}{x l:List (Int×Int)}{k:Nat}{s s':Int×Int}{K:K3}(hk:k<p.length)(hp:p.length≤40)(hs:svS x.length s (p.getD k (0,0))=some s')(hl:s.1=(l.length:Int))(h16:s.1≤16)(okx:∀ q∈x,okB q)(okl:∀ q∈l,okB q)
  (hok:∀ l',stM mB x (p.getD k (0,0)) l = .ok l'→(∀ q∈l',okB q) → ∀ L H,Wk 103 L H (slM p (k+1)) (hpE_B x l')→K .normal L H)
  (hpan:∀ e,(0<e∧e<1000)→stM mB x (p.getD k (0,0)) l = .error e → ∀ L H,Wk 103 L H slE hpE→K (pnc e) L H):rndB p k (hpE_B x l) K:=by
 obtain⟨c,a,hca⟩:∃ c a,p.getD k (0,0)=(c,a):=⟨_,_,rfl⟩
 rw[hca] at hs hok hpan
 unfold svS at hs
 split at hs
 case isFalse=>cases hs
 rename_i hc
 clear hs
 obtain⟨g1,g2,g3,g4,g5⟩:=hc
 dsimp only at g1 g2 g3 g4 g5
 unfold tkb at g1
 simp only[decide_eq_true_eq] at g1
 have hl16:l.length≤16:=by omega
 have cs:c=1∨c=2∨c=11∨c=3∨c=4∨c=5∨c=6∨c=7∨c=8∨c=9∨c=12∨c=10:=by omega
 have okd:∀ (y:List (Int×Int)) (n:Nat),n<y.length→(∀ q∈y,okB q)→okB (y.getD n (0,0)):=fun y n hn h=>by
  rw[jij,jim hn];exact h _ (jin hn)
 rcases cs with rfl|rfl|rfl|h2
 ·have ha:0≤a∧a<x.length:=by simp[loA,hiA] at g3 g4;omega
  have st:stM mB x (1,a) l = .ok (l++[x.getD a.toNat (0,0)]):=rfl
  have w1:∀ L H,Wk 103 L H (slM p (k+1)) (hpE_B x (l++[x.getD a.toNat (0,0)]))→K .normal L H:=fun L H w=>hok _ st (jcT okl (okd x a.toNat (by omega) okx)) L H w
  rw[jck] at w1
  cases l with
  | nil=>exact rdB_in0 p x k a hk hp hca ha w1
  | cons q l=>exact rdB_in1 p x (q::l) k a hk hp hca ha hl16 w1
 ·have ha : -1000000000≤a∧a≤1000000000:=by simp[loA,hiA] at g3 g4;omega
  have st:stM mB x (2,a) l = .ok (l++[(a*1000000,a*1000000)]):=rfl
  have w1:∀ L H,Wk 103 L H (slM p (k+1)) (hpE_B x (l++[(a*1000000,a*1000000)]))→K .normal L H:=fun L H w=>hok _ st (jcT okl (jan.2 (by dsimp only;omega))) L H w
  have nu:=numB_c a ha
  rw[jck] at w1
  cases l with
  | nil=>exact rdB_num0 p x _ _ k a hk hp hca nu w1
  | cons q l=>exact rdB_num1 p x (q::l) _ _ k a hk hp hca nu hl16 w1
 ·have ha:0≤a∧a≤s.1-1:=by simp[loA,hiA] at g3 g4;omega
  obtain⟨j,hj⟩:∃ j,j=l.length-1-a.toNat:=⟨_,rfl⟩
  have hjl:j<l.length:=by omega
  have st:stM mB x (11,a) l = .ok (l++[l.getD j (0,0)]):=by rw[hj];rfl
  have w1:∀ L H,Wk 103 L H (slM p (k+1)) (hpE_B x (l++[l.getD j (0,0)]))→K .normal L H:=fun L H w=>hok _ st (jcT okl (okd l j hjl okl)) L H w
  rw[jck] at w1
  have hd:∀ K,dropK (bcl l) (j*2) K=K (.int .i64 (l.getD j (0,0)).1 :: .int .i64 (l.getD j (0,0)).2::bcl (l.drop (j+1))):=fun K=>by
   have e:l=l.take j++(l.getD j (0,0)::l.drop (j+1)):=by
    rw[jij,jim hjl]
    simp
   have d:=jaO (l.getD j (0,0)::l.drop (j+1)) K (l.take j)
   rw[← e,jip,jhQ (by omega)] at d
   exact d
  have r:=rdB_copy p x l (l.getD j (0,0)) _ j k a hk hp hca hl16 (by omega) hjl hd w1
  cases l with
  | nil=>simp at hjl
  | cons q l=>exact r
 ·rcases h2 with rfl|rfl|rfl|rfl|rfl|h2
  ·obtain⟨m,u,v,rfl⟩:=snoc2 l (by have:tkn 3=2:=rfl;omega)
   have o2:=(jbH okl).2
   have hu:=o2 u (by simp)
   have hv:=o2 v (by simp)
   have cf:=add_b u.1 u.2 v.1 v.2
   rw[if_pos ⟨hu,hv⟩] at cf
   have gd:=jbc (u.1+v.1) (u.2+v.2)
   exact st_B (a:=a) rfl (Nat.succ_pos _) (by decide) (by decide) (by decide) rfl rfl gd (fun h1 h2=>rdB_add p x m u v k a _ _ _ hk hp hca (by simp at hl16;omega) cf h1 h2) hok hpan okl
  ·obtain⟨m,u,v,rfl⟩:=snoc2 l (by have:tkn 4=2:=rfl;omega)
   have o2:=(jbH okl).2
   have hu:=o2 u (by simp)
   have hv:=o2 v (by simp)
   have cf:=sub_b u.1 u.2 v.1 v.2
   rw[if_pos ⟨hu,hv⟩] at cf
   have gd:=jbc (u.1-v.2) (u.2-v.1)
   exact st_B (a:=a) rfl (Nat.succ_pos _) (by decide) (by decide) (by decide) rfl rfl gd (fun h1 h2=>rdB_sub p x m u v k a _ _ _ hk hp hca (by simp at hl16;omega) cf h1 h2) hok hpan okl
  ·obtain⟨m,u,v,rfl⟩:=snoc2 l (by have:tkn 5=2:=rfl;omega)
   have o2:=(jbH okl).2
   have hu:=o2 u (by simp)
   have hv:=o2 v (by simp)
   have cf:=mul_b u.1 u.2 v.1 v.2
   rw[if_pos ⟨hu,hv⟩] at cf
   have gd:=jbc (mn4 (flo (u.1*v.1) 1000000000000) (flo (u.1*v.2) 1000000000000) (flo (u.2*v.1) 1000000000000) (flo (u.2*v.2) 1000000000000)) (mx4 (cei (u.1*v.1) 1000000000000) (cei (u.1*v.2) 1000000000000) (cei (u.2*v.1) 1000000000000) (cei (u.2*v.2) 1000000000000))
   exact st_B (a:=a) rfl (Nat.succ_pos _) (by decide) (by decide) (by decide) rfl rfl gd (fun h1 h2=>rdB_mul p x m u v k a _ _ _ hk hp hca (by simp at hl16;omega) cf h1 h2) hok hpan okl
  ·obtain⟨m,u,v,rfl⟩:=snoc2 l (by have:tkn 6=2:=rfl;omega)
   have o2:=(jbH okl).2
   have hu:=o2 u (by simp)
   have hv:=o2 v (by simp)
   have cf:=cmin_B hu hv
   have gd:goodB (min u.1 v.1,min u.2 v.2,0):=jeD (jan.2 (by unfold okB at hu hv;rw[jan] at hu hv;omega))
   exact st_B (a:=a) rfl (Nat.succ_pos _) (by decide) (by decide) (by decide) rfl rfl gd (fun h1 h2=>rdB_min p x m u v k a _ _ _ hk hp hca (by simp at hl16;omega) cf h1 h2) hok hpan okl
  ·obtain⟨m,u,v,rfl⟩:=snoc2 l (by have:tkn 7=2:=rfl;omega)
   have o2:=(jbH okl).2
   have hu:=o2 u (by simp)
   have hv:=o2 v (by simp)
   have cf:=cmax_B hu hv
   have gd:goodB (max u.1 v.1,max u.2 v.2,0):=jeD (jan.2 (by unfold okB at hu hv;rw[jan] at hu hv;omega))
   exact st_B (a:=a) rfl (Nat.succ_pos _) (by decide) (by decide) (by decide) rfl rfl gd (fun h1 h2=>rdB_max p x m u v k a _ _ _ hk hp hca (by simp at hl16;omega) cf h1 h2) hok hpan okl
  ·rcases h2 with rfl|rfl|rfl|rfl
   ·obtain⟨m,u,rfl⟩:=snoc1 l (by have:tkn 8=1:=rfl;omega)
    have hu:=(jbH okl).2 u (by simp)
    have cf:=neg_b u.1 u.2
    rw[if_pos hu] at cf
    have gd:=jbc (0-u.2) (0-u.1)
    exact st_B (a:=a) rfl (Nat.succ_pos _) (by decide) (by decide) (by decide) rfl rfl gd (fun h1 h2=>rdB_neg p x m u k a _ _ _ hk hp hca (by simp at hl16;omega) cf h1 h2) hok hpan okl
   ·obtain⟨m,u,rfl⟩:=snoc1 l (by have:tkn 9=1:=rfl;omega)
    have hu:=(jbH okl).2 u (by simp)
    have cf:=abs_b u.1 u.2
    rw[if_pos hu] at cf
    have gd:=jbc (max (max u.1 (0-u.2)) 0) (max (0-u.1) u.2)
    exact st_B (a:=a) rfl (Nat.succ_pos _) (by decide) (by decide) (by decide) rfl rfl gd (fun h1 h2=>rdB_abs p x m u k a _ _ _ hk hp hca (by simp at hl16;omega) cf h1 h2) hok hpan okl
   ·obtain⟨m,u,rfl⟩:=snoc1 l (by have:tkn 12=1:=rfl;omega)
    have hu:=(jbH okl).2 u (by simp)
    have cf:=clB_c u.1 u.2 hu
    have gd:goodB (min (max u.1 0) 1000000000000,min (max u.2 0) 1000000000000,0):=jeD (jan.2 (by unfold okB at hu;rw[jan] at hu;omega))
    exact st_B (a:=a) rfl (Nat.succ_pos _) (by decide) (by decide) (by decide) rfl rfl gd (fun h1 h2=>rdB_clamp p x m u k a _ _ _ hk hp hca (by simp at hl16;omega) cf h1 h2) hok hpan okl
   ·obtain⟨m,u,v,w,rfl⟩:=snoc3 l (by have:tkn 10=3:=rfl;omega)
    have o3:=(jbH okl).2
    have hu:=o3 u (by simp)
    have hv:=o3 v (by simp)
    by_cases hs:0≤w.1
    ·have st:stM mB x (10,a) (m++[u,v,w]) = .ok (m++[u]):=by rw[jfa mB x m [u,v,w] 10 a (by decide) (by decide) (by decide) rfl];show putM m (opB 10 [u,v,w])=_;rw[show opB 10 [u,v,w]=(u,0) from if_pos hs];rfl
     have w1:∀ L H,Wk 103 L H (slM p (k+1)) (hpE_B x (m++[u]))→K .normal L H:=fun L H w'=>hok _ st (jcT (jbH okl).1 hu) L H w'
     rw[jck] at w1
     rw[jf1 x m [u,v,w] (by simp)]
     exact rdB_pick0 p x m u v w k a hk hp hca (by simp at hl16;omega) (decide_eq_true hs) w1
    ·by_cases ht:w.2<0
     ·have st:stM mB x (10,a) (m++[u,v,w]) = .ok (m++[v]):=by rw[jfa mB x m [u,v,w] 10 a (by decide) (by decide) (by decide) rfl];show putM m (opB 10 [u,v,w])=_;rw[show opB 10 [u,v,w]=(v,0) from (if_neg hs).trans (if_pos ht)];rfl
      have w1:∀ L H,Wk 103 L H (slM p (k+1)) (hpE_B x (m++[v]))→K .normal L H:=fun L H w'=>hok _ st (jcT (jbH okl).1 hv) L H w'
      rw[jck] at w1
      rw[jf1 x m [u,v,w] (by simp)]
      exact rdB_pick1 p x m u v w k a hk hp hca (by simp at hl16;omega) (decide_eq_false hs) (decide_eq_true ht) w1
     ·have gd:goodB (min u.1 v.1,max u.2 v.2,0):=jeD (jan.2 (by unfold okB at hu hv;rw[jan] at hu hv;omega))
      have cf:=chull_B hu hv
      exact st_B (a:=a) rfl (Nat.succ_pos _) (by decide) (by decide) (by decide) rfl ((if_neg hs).trans (if_neg ht)) gd (fun h1 h2=>rdB_pick2 p x m u v w k a _ _ _ hk hp hca (by simp at hl16;omega) cf (decide_eq_false hs) (decide_eq_false ht) h1 h2) hok hpan okl
def inBd (b:Int×Int)(q:Rat):Prop:=(b.1:Rat)≤q*1000000000000∧q*1000000000000≤(b.2:Rat)
def subB (b c:Int×Int):Prop:=c.1≤b.1∧b.2≤c.2
theorem in_add {b c:Int×Int}{p q:Rat}(h:inBd b p)(g:inBd c q):inBd (b.1+c.1,b.2+c.2) (p+q):=by
 unfold inBd at *
 simp only[Rat.intCast_add]
 constructor<;>grind
theorem in_sub {b c:Int×Int}{p q:Rat}(h:inBd b p)(g:inBd c q):inBd (b.1-c.2,b.2-c.1) (p-q):=by
 unfold inBd at *
 simp only[Rat.intCast_sub]
 constructor<;>grind
theorem in_neg {b:Int×Int}{p:Rat}(h:inBd b p):inBd (0-b.2,0-b.1) (-p):=by
 unfold inBd at *
 simp only[Rat.intCast_sub]
 constructor<;>grind
theorem jaY {a b:Int} : (a:Rat)≤(b:Rat)↔a≤b:=Rat.intCast_le_intCast
theorem jdx (a b:Int):((min a b:Int):Rat)≤(a:Rat)∧((min a b:Int):Rat)≤(b:Rat)∧(((min a b:Int):Rat)=(a:Rat)∨((min a b:Int):Rat)=(b:Rat)):=by
 refine⟨jaY.2 (by omega),jaY.2 (by omega),?_⟩
 rcases Int.le_total a b with h|h
 ·left;rw[Int.min_eq_left h]
 ·right;rw[Int.min_eq_right h]
theorem jb8 (a b:Int):(a:Rat)≤((max a b:Int):Rat)∧(b:Rat)≤((max a b:Int):Rat)∧(((max a b:Int):Rat)=(a:Rat)∨((max a b:Int):Rat)=(b:Rat)):=by
 refine⟨jaY.2 (by omega),jaY.2 (by omega),?_⟩
 rcases Int.le_total a b with h|h
 ·right;rw[Int.max_eq_right h]
 ·left;rw[Int.max_eq_left h]
theorem in_min {b c:Int×Int}{p q:Rat}(h:inBd b p)(g:inBd c q):inBd (min b.1 c.1,min b.2 c.2) (if q<p then q else p):=by
 unfold inBd at *
 have m1:=jdx b.1 c.1
 have m2:=jdx b.2 c.2
 dsimp only
 split<;>constructor<;>grind
theorem in_max {b c:Int×Int}{p q:Rat}(h:inBd b p)(g:inBd c q):inBd (max b.1 c.1,max b.2 c.2) (if p<q then q else p):=by
 unfold inBd at *
 have m1:=jb8 b.1 c.1
 have m2:=jb8 b.2 c.2
 dsimp only
 split<;>constructor<;>grind
theorem in_hull {b c:Int×Int}{p:Rat}(h:inBd b p∨inBd c p):inBd (min b.1 c.1,max b.2 c.2) p:=by
 unfold inBd at *
 have m1:=jdx b.1 c.1
 have m2:=jb8 b.2 c.2
 dsimp only
 constructor<;>grind
theorem in_abs {b:Int×Int}{p:Rat}(h:inBd b p):inBd (max (max b.1 (0-b.2)) 0,max (0-b.1) b.2) (absQ p):=by
 have e:absQ p=if p<0 then -p else p:=by
  unfold absQ
  have:p.num<0↔p<0:=by rw[← Rat.not_le,← Rat.num_nonneg];omega
  by_cases h:p<0
  ·rw[if_pos h,if_pos (this.2 h)]
  ·rw[if_neg h,if_neg (fun h'=>h (this.1 h'))]
 rw[e]
 unfold inBd at *
 have m1:=jb8 b.1 (0-b.2)
 have m2:=jb8 (max b.1 (0-b.2)) 0
 have m3:=jb8 (0-b.1) b.2
 simp only[Rat.intCast_sub] at m1 m2 m3 ⊢
 split<;>constructor<;>grind
theorem in_cl {b:Int×Int}{p:Rat}(h:inBd b p):inBd (min (max b.1 0) 1000000000000,min (max b.2 0) 1000000000000) (clQ p):=by
 unfold inBd at *
 have m1:=jb8 b.1 0
 have m2:=jb8 b.2 0
 have m3:=jdx (max b.1 0) 1000000000000
 have m4:=jdx (max b.2 0) 1000000000000
 unfold clQ
 dsimp only
 split<;>split<;>constructor<;>grind
theorem corR_lo {x1 x2 y1 y2 X Y:Rat}(hx:x1≤X∧X≤x2)(hy:y1≤Y∧Y≤y2):x1*y1≤X*Y∨x1*y2≤X*Y∨x2*y1≤X*Y∨x2*y2≤X*Y:=by
 by_cases h:0≤Y
 ·have a:=Rat.mul_nonneg (show 0≤X-x1 by grind) h
  by_cases g:0≤x1
  ·have b:=Rat.mul_nonneg g (show 0≤Y-y1 by grind)
   left;grind
  ·have b:=Rat.mul_nonneg (show 0 ≤ -x1 by grind) (show 0≤y2-Y by grind)
   right;left;grind
 ·have a:=Rat.mul_nonneg (show 0≤x2-X by grind) (show 0 ≤ -Y by grind)
  by_cases g:0≤x2
  ·have b:=Rat.mul_nonneg g (show 0≤Y-y1 by grind)
   right;right;left;grind
  ·have b:=Rat.mul_nonneg (show 0 ≤ -x2 by grind) (show 0≤y2-Y by grind)
   right;right;right;grind
theorem corR_hi {x1 x2 y1 y2 X Y:Rat}(hx:x1≤X∧X≤x2)(hy:y1≤Y∧Y≤y2):X*Y≤x1*y1∨X*Y≤x1*y2∨X*Y≤x2*y1∨X*Y≤x2*y2:=by
 have h:=corR_lo (x1 := -x2) (x2 := -x1) (X := -X) (by constructor<;>grind) hy
 rcases h with h|h|h|h
 ·right;right;left;grind
 ·right;right;right;grind
 ·left;grind
 ·right;left;grind
theorem flo_le (z:Int):((flo z 1000000000000:Int):Rat)*1000000000000≤(z:Rat):=by
 have h:flo z 1000000000000*1000000000000≤z:=by unfold flo;rw[if_pos (by decide)];omega
 have:=jaY.2 h
 rw[Rat.intCast_mul] at this
 exact this
theorem le_cei (z:Int):(z:Rat)≤((cei z 1000000000000:Int):Rat)*1000000000000:=by
 have h:z≤cei z 1000000000000*1000000000000:=by unfold cei flo;rw[if_pos (by decide)];omega
 have:=jaY.2 h
 rw[Rat.intCast_mul] at this
 exact this
theorem cast_mn4 (a b c d:Int):((mn4 a b c d:Int):Rat)≤a∧((mn4 a b c d:Int):Rat)≤b∧((mn4 a b c d:Int):Rat)≤c∧((mn4 a b c d:Int):Rat)≤d:=
 ⟨jaY.2 (by unfold mn4;omega),jaY.2 (by unfold mn4;omega),jaY.2 (by unfold mn4;omega),jaY.2 (by unfold mn4;omega)⟩
theorem cast_mx4 (a b c d:Int):(a:Rat)≤((mx4 a b c d:Int):Rat)∧(b:Rat)≤((mx4 a b c d:Int):Rat)∧(c:Rat)≤((mx4 a b c d:Int):Rat)∧(d:Rat)≤((mx4 a b c d:Int):Rat):=
 ⟨jaY.2 (by unfold mx4;omega),jaY.2 (by unfold mx4;omega),jaY.2 (by unfold mx4;omega),jaY.2 (by unfold mx4;omega)⟩
theorem in_mul {b c:Int×Int}{p q:Rat}(h:inBd b p)(g:inBd c q):inBd (mn4 (flo (b.1*c.1) 1000000000000) (flo (b.1*c.2) 1000000000000) (flo (b.2*c.1) 1000000000000) (flo (b.2*c.2) 1000000000000),mx4 (cei (b.1*c.1) 1000000000000) (cei (b.1*c.2) 1000000000000) (cei (b.2*c.1) 1000000000000) (cei (b.2*c.2) 1000000000000)) (p*q):=by
 have l:=corR_lo h g
 have u:=corR_hi h g
 have f1:=flo_le (b.1*c.1)
 have f2:=flo_le (b.1*c.2)
 have f3:=flo_le (b.2*c.1)
 have f4:=flo_le (b.2*c.2)
 have e1:=le_cei (b.1*c.1)
 have e2:=le_cei (b.1*c.2)
 have e3:=le_cei (b.2*c.1)
 have e4:=le_cei (b.2*c.2)
 have m:=cast_mn4 (flo (b.1*c.1) 1000000000000) (flo (b.1*c.2) 1000000000000) (flo (b.2*c.1) 1000000000000) (flo (b.2*c.2) 1000000000000)
 have k:=cast_mx4 (cei (b.1*c.1) 1000000000000) (cei (b.1*c.2) 1000000000000) (cei (b.2*c.1) 1000000000000) (cei (b.2*c.2) 1000000000000)
 simp only[Rat.intCast_mul] at f1 f2 f3 f4 e1 e2 e3 e4
 unfold inBd
 dsimp only
 generalize ((mn4 _ _ _ _:Int):Rat)=M at *
 generalize ((mx4 _ _ _ _:Int):Rat)=N at *
 have ep:p*1000000000000*(q*1000000000000)=p*q*1000000000000*1000000000000:=by grind
 rw[ep] at l u
 constructor
 ·rcases l with l|l|l|l<;>grind
 ·rcases u with u|u|u|u<;>grind
inductive All2 {α β : Type} (R : α → β → Prop) : List α → List β → Prop
  | nil : All2 R [] []
  | cons {a : α} {b : β} {l : List α} {m : List β} (h : R a b) (t : All2 R l m) : All2 R (a :: l) (b :: m)
theorem All2.len {α β:Type}{R:α→β→Prop}{l:List α}{m:List β}(h:All2 R l m):l.length=m.length:=by
 induction h with
 | nil=>rfl
 | cons _ _ ih=>simp[ih]
theorem All2.app {α β:Type}{R:α→β→Prop}{l l2:List α}{m m2:List β}(h:All2 R l m)(g:All2 R l2 m2):All2 R (l++l2) (m++m2):=by
 induction h with
 | nil=>exact g
 | cons h _ ih=>exact .cons h ih
theorem All2.take {α β:Type}{R:α→β→Prop}{l:List α}{m:List β}(h:All2 R l m):∀ n,All2 R (l.take n) (m.take n):=by
 induction h with
 | nil=>intro n;simp;exact .nil
 | cons h _ ih=>intro n;cases n with
  | zero=>exact .nil
  | succ n=>exact .cons h (ih n)
theorem All2.drop {α β:Type}{R:α→β→Prop}{l:List α}{m:List β}(h:All2 R l m):∀ n,All2 R (l.drop n) (m.drop n):=by
 induction h with
 | nil=>intro n;simp;exact .nil
 | cons h t ih=>intro n;cases n with
  | zero=>exact .cons h t
  | succ n=>exact ih n
theorem All2.get {α β:Type}{R:α→β→Prop}{l:List α}{m:List β}(h:All2 R l m)(a:α)(b:β):∀ i,i<l.length→R (l.getD i a) (m.getD i b):=by
 induction h with
 | nil=>intro i hi;simp at hi
 | cons h t ih=>intro i hi;cases i with
  | zero=>exact h
  | succ i=>exact ih i (by simpa using hi)
theorem mk_0 {a b:Int}(h:(mk a b).2.2=0):prB (mk a b)=((a,b),0):=by
 unfold mk at *
 split
 ·rfl
 ·rename_i c;rw[if_neg c] at h;cases h
theorem op_in {c:Int}(hc:c=3∨c=4∨c=5∨c=6∨c=7∨c=8∨c=9∨c=12∨c=10){t:List Rat}{s:List (Int×Int)}(h:All2 (fun q b=>inBd b q) t s)(hl:(t.length:Int)=tkn c)(h2:(opB c s).2=0):inBd (opB c s).1 (opF c t).1:=by
 rcases hc with rfl|rfl|rfl|rfl|rfl|rfl|rfl|rfl|rfl
 case inr.inr.inr.inr.inr.inr.inr.inr=>
  match h,hl with
  | @All2.cons _ _ _ u u' _ _ hu (@All2.cons _ _ _ v v' _ _ hv (@All2.cons _ _ _ w w' _ _ hw .nil)),_=>
   show inBd (if 0≤w'.1 then (u',(0:Int)) else if w'.2<0 then (v',0) else prB (min u'.1 v'.1,max u'.2 v'.2,0)).1 (if w.num.sign<0 then v else u)
   have hs:w.num.sign<0↔w<0:=by
    rw[← Rat.not_le,← Rat.num_nonneg,Int.sign_neg_iff]
    omega
   by_cases g1:0≤w'.1
   ·rw[if_pos g1]
    have:¬ w<0:=by
     have:=jaY.2 g1
     unfold inBd at hw
     grind
    rw[if_neg (fun h=>this (hs.1 h))]
    exact hu
   ·rw[if_neg g1]
    by_cases g2:w'.2<0
    ·rw[if_pos g2]
     have:w<0:=by
      have:=Rat.intCast_lt_intCast.2 g2
      unfold inBd at hw
      grind
     rw[if_pos (hs.2 this)]
     exact hv
    ·rw[if_neg g2]
     split
     ·exact in_hull (.inr hv)
     ·exact in_hull (.inl hu)
 case inl=>
  match h,hl with
  | @All2.cons _ _ _ u u' _ _ hu (@All2.cons _ _ _ v v' _ _ hv .nil),_=>
   have e:opB 3 [u',v']=prB (mk (u'.1+v'.1) (u'.2+v'.2)):=rfl
   rw[e] at h2 ⊢
   rw[mk_0 h2]
   exact in_add hu hv
 case inr.inl=>
  match h,hl with
  | @All2.cons _ _ _ u u' _ _ hu (@All2.cons _ _ _ v v' _ _ hv .nil),_=>
   have e:opB 4 [u',v']=prB (mk (u'.1-v'.2) (u'.2-v'.1)):=rfl
   rw[e] at h2 ⊢
   rw[mk_0 h2]
   exact in_sub hu hv
 case inr.inr.inl=>
  match h,hl with
  | @All2.cons _ _ _ u u' _ _ hu (@All2.cons _ _ _ v v' _ _ hv .nil),_=>
   have e:opB 5 [u',v']=prB (mulR u'.1 u'.2 v'.1 v'.2):=rfl
   rw[e] at h2 ⊢
   unfold mulR at h2 ⊢
   rw[mk_0 h2]
   exact in_mul hu hv
 case inr.inr.inr.inl=>
  match h,hl with
  | @All2.cons _ _ _ u u' _ _ hu (@All2.cons _ _ _ v v' _ _ hv .nil),_=>exact in_min hu hv
 case inr.inr.inr.inr.inl=>
  match h,hl with
  | @All2.cons _ _ _ u u' _ _ hu (@All2.cons _ _ _ v v' _ _ hv .nil),_=>exact in_max hu hv
 case inr.inr.inr.inr.inr.inl=>
  match h,hl with
  | @All2.cons _ _ _ u u' _ _ hu .nil,_=>
   have e:opB 8 [u']=prB (mk (0-u'.2) (0-u'.1)):=rfl
   rw[e] at h2 ⊢
   rw[mk_0 h2]
   exact in_neg hu
 case inr.inr.inr.inr.inr.inr.inl=>
  match h,hl with
  | @All2.cons _ _ _ u u' _ _ hu .nil,_=>
   have e:opB 9 [u']=prB (mk (max (max u'.1 (0-u'.2)) 0) (max (0-u'.1) u'.2)):=rfl
   rw[e] at h2 ⊢
   rw[mk_0 h2]
   exact in_abs hu
 case inr.inr.inr.inr.inr.inr.inr.inl=>
  match h,hl with
  | @All2.cons _ _ _ u u' _ _ hu .nil,_=>exact in_cl hu
theorem jdj {α:Type}{l l':List α}{r:α×Int}(h:putM l r = .ok l'):r.2=0∧l'=l++[r.1]:=by
 unfold putM at h
 split at h
 ·rename_i e;cases h;exact⟨e,rfl⟩
 ·cases h
theorem in_num (n:Int):inBd (n*1000000,n*1000000) (Rat.divInt n 1000000):=by
 have e:Rat.divInt n 1000000*1000000000000=(n:Rat)*1000000:=by
  rw[Rat.divInt_eq_div]
  have:((1000000:Int):Rat)=1000000:=rfl
  rw[this];grind
 unfold inBd
 rw[e]
 simp only[Rat.intCast_mul]
 exact⟨Rat.le_refl,Rat.le_refl⟩
theorem st_in {x l l':List Rat}{X m m':List (Int×Int)}{s s':Int×Int}{o:Int×Int}(hx:All2 (fun q b=>inBd b q) x X)(h:All2 (fun q b=>inBd b q) l m)(hs:svS x.length s o=some s')(hl:s.1=(l.length:Int))(h1:stM mF x o l = .ok l')(h2:stM mB X o m = .ok m'):All2 (fun q b=>inBd b q) l' m':=by
 obtain⟨c,a⟩:=o
 unfold svS at hs
 split at hs
 case isFalse=>cases hs
 rename_i hc
 clear hs
 obtain⟨g1,g2,g3,g4,g5⟩:=hc
 dsimp only at g1 g2 g3 g4 g5
 unfold tkb at g1
 simp only[decide_eq_true_eq] at g1
 have hlm:=h.len
 have cs:c=1∨c=2∨c=11∨(c=3∨c=4∨c=5∨c=6∨c=7∨c=8∨c=9∨c=12∨c=10):=by omega
 rcases cs with rfl|rfl|rfl|hc
 ·have ha:0≤a∧a<x.length:=by simp[loA,hiA] at g3 g4;omega
  have e1:l'=l++[x.getD a.toNat 0]:=by cases h1;rfl
  have e2:m'=m++[X.getD a.toNat (0,0)]:=by cases h2;rfl
  rw[e1,e2]
  exact h.app (.cons (hx.get 0 (0,0) a.toNat (by omega)) .nil)
 ·have e1:l'=l++[Rat.divInt a 1000000]:=by cases h1;rfl
  have e2:m'=m++[(a*1000000,a*1000000)]:=by cases h2;rfl
  rw[e1,e2]
  exact h.app (.cons (in_num a) .nil)
 ·have ha:0≤a∧a≤s.1-1:=by simp[loA,hiA] at g3 g4;omega
  have e1:l'=l++[l.getD (l.length-1-a.toNat) 0]:=by cases h1;rfl
  have e2:m'=m++[m.getD (m.length-1-a.toNat) (0,0)]:=by cases h2;rfl
  rw[e1,e2,← hlm]
  exact h.app (.cons (h.get 0 (0,0) _ (by omega)) .nil)
 ·have n1:c≠1:=by omega
  have n2:c≠2:=by omega
  have n3:c≠11:=by omega
  unfold stM at h1 h2
  dsimp only at h1 h2
  rw[if_neg n1,if_neg n2,if_neg n3] at h1 h2
  obtain⟨p1,p2⟩:=jdj h1
  obtain⟨q1,q2⟩:=jdj h2
  rw[p2,q2,← hlm]
  rw[← hlm] at q1
  have tb:=jei c
  refine(h.take _).app (.cons (op_in hc (h.drop _) ?_ q1) .nil)
  rw[jiy];omega
theorem rn_in {x:List Rat}{X:List (Int×Int)}(hx:All2 (fun q b=>inBd b q) x X):∀ (p:List (Int×Int)) {l l':List Rat} {m m':List (Int×Int)} {s t:Int×Int},All2 (fun q b=>inBd b q) l m→s.1=(l.length:Int)→svL x.length s p=some t→rnM mF x p l = .ok l'→rnM mB X p m = .ok m'→All2 (fun q b=>inBd b q) l' m'
 | [],l,l',m,m',s,t,h,_,_,h1,h2=>by cases h1;cases h2;exact h
 | o::p,l,l',m,m',s,t,h,hs,hv,h1,h2=>by
  simp only[svL,rnM] at hv h1 h2
  cases e1:svS x.length s o with
  | none=>rw[e1] at hv;cases hv
  | some s2=>
   rw[e1] at hv
   cases e2:stM mF x o l with
   | error e=>rw[e2] at h1;cases h1
   | ok l2=>
    rw[e2] at h1
    cases e3:stM mB X o m with
    | error e=>rw[e3] at h2;cases h2
    | ok m2=>
     rw[e3] at h2
     exact rn_in hx p (st_in hx h e1 hs e2 e3) (jdA e1 hs e2) hv h1 h2
theorem jgO {p q p2 q2 x y:Int}(hx:p≤x∧x≤q)(hy:p2≤y∧y≤q2):p*p2≤x*y∨p*q2≤x*y∨q*p2≤x*y∨q*q2≤x*y:=by
 rcases Int.le_total 0 y with h|h
 ·have h1:p*y≤x*y:=jhY hx.1 h
  rcases Int.le_total 0 p with g|g
  ·have h2:p*p2≤p*y:=jh7 hy.1 g
   omega
  ·have h2:p*q2≤p*y:=Int.mul_le_mul_of_nonpos_left g hy.2
   omega
 ·have h1:q*y≤x*y:=Int.mul_le_mul_of_nonpos_right hx.2 h
  rcases Int.le_total 0 q with g|g
  ·have h2:q*p2≤q*y:=jh7 hy.1 g
   omega
  ·have h2:q*q2≤q*y:=Int.mul_le_mul_of_nonpos_left g hy.2
   omega
theorem corner_hi {p q p2 q2 x y:Int}(hx:p≤x∧x≤q)(hy:p2≤y∧y≤q2):x*y≤p*p2∨x*y≤p*q2∨x*y≤q*p2∨x*y≤q*q2:=by
 have h:=jgO (p := -q) (q := -p) (x := -x) (by omega) hy
 simp only[Int.neg_mul] at h
 omega
theorem mnf {d z a b c e:Int}(hd:0<d)(h:a≤z∨b≤z∨c≤z∨e≤z):mn4 (flo a d) (flo b d) (flo c d) (flo e d)≤flo z d:=by
 unfold mn4
 rcases h with h|h|h|h<;>(have:=flo_mono hd h;omega)
theorem mxc {d z a b c e:Int}(hd:0<d)(h:z≤a∨z≤b∨z≤c∨z≤e):cei z d≤mx4 (cei a d) (cei b d) (cei c d) (cei e d):=by
 unfold mx4
 rcases h with h|h|h|h<;>(have:=cei_mono hd h;omega)
theorem mn4_le {m a b c d:Int}(h1:m≤a)(h2:m≤b)(h3:m≤c)(h4:m≤d):m≤mn4 a b c d:=by unfold mn4;omega
theorem le_mx4 {m a b c d:Int}(h1:a≤m)(h2:b≤m)(h3:c≤m)(h4:d≤m):mx4 a b c d≤m:=by unfold mx4;omega
theorem mn_mx {a b c d a' b' c' d':Int}(h:a≤a'):mn4 a b c d≤mx4 a' b' c' d':=by unfold mn4 mx4;omega
def Shr (r s:Int×Int×Int):Prop:=(∃ x y x' y',r=(x,y,0)∧s=(x',y',0)∧x≤x'∧y'≤y)∨r=(0,0,6)∨r=(0,0,7)
theorem jgk {p q p' q':Int}(h1:p≤p')(h2:q'≤q)(h3:p'≤q'):Shr (mk p q) (mk p' q'):=by
 by_cases hv:vb p q=true
 ·have hb:=jan.1 hv
  exact .inl ⟨p,q,p',q',mk_ok hb,mk_ok (by omega),h1,h2⟩
 ·refine .inr (.inl ?_)
  unfold mk;rw[if_neg hv]
theorem shr_mul {p q p2 q2 m n m2 n2:Int}(h1:p≤m)(h2:m≤n)(h3:n≤q)(g1:p2≤m2)(g2:m2≤n2)(g3:n2≤q2):Shr (mulR p q p2 q2) (mulR m n m2 n2):=by
 unfold mulR
 have lo:∀ x y,m≤x∧x≤n→m2≤y∧y≤n2→mn4 (flo (p*p2) 1000000000000) (flo (p*q2) 1000000000000) (flo (q*p2) 1000000000000) (flo (q*q2) 1000000000000)≤flo (x*y) 1000000000000:=
  fun x y hx hy=>mnf (by omega) (jgO (by omega) (by omega))
 have hi:∀ x y,m≤x∧x≤n→m2≤y∧y≤n2→cei (x*y) 1000000000000≤mx4 (cei (p*p2) 1000000000000) (cei (p*q2) 1000000000000) (cei (q*p2) 1000000000000) (cei (q*q2) 1000000000000):=
  fun x y hx hy=>mxc (by omega) (corner_hi (by omega) (by omega))
 exact jgk (mn4_le (lo _ _ (by omega) (by omega)) (lo _ _ (by omega) (by omega)) (lo _ _ (by omega) (by omega)) (lo _ _ (by omega) (by omega)))
  (le_mx4 (hi _ _ (by omega) (by omega)) (hi _ _ (by omega) (by omega)) (hi _ _ (by omega) (by omega)) (hi _ _ (by omega) (by omega))) (mn_mx (jcl _ _ (by omega)))
def subR (b c:Int×Int):Prop:=okB b∧okB c∧subB b c
theorem ja4 {b c:Int×Int}(h:subR b c):b.1≤b.2∧c.1≤b.1∧b.2≤c.2 ∧ -1000000000000000000≤c.1∧c.2≤1000000000000000000:=by
 obtain⟨h1,h2,h3,h4⟩:=h
 have a:=jan.1 h1
 have b:=jan.1 h2
 omega
theorem jej {r s:Int×Int×Int}(H:Shr r s)(h:r.2.2=0)(g:goodB r)(k:goodB s):subR (prB s).1 (prB r).1:=by
 rcases H with⟨x,y,x',y',rfl,rfl,h1,h2⟩|rfl|rfl
 ·exact⟨k.1 rfl,g.1 rfl,h1,h2⟩
 ·cases h
 ·cases h
theorem All2.one {α β:Type}{R:α→β→Prop}{t:List α}{s:List β}(h:All2 R t s)(hl:t.length=1):∃ u u',t=[u]∧s=[u']∧R u u':=by
 match h,hl with
 | @All2.cons _ _ _ u u' _ _ hu .nil,_=>exact⟨u,u',rfl,rfl,hu⟩
theorem All2.two {α β:Type}{R:α→β→Prop}{t:List α}{s:List β}(h:All2 R t s)(hl:t.length=2):∃ u u' v v',t=[u,v]∧s=[u',v']∧R u u'∧R v v':=by
 match h,hl with
 | @All2.cons _ _ _ u u' _ _ hu (@All2.cons _ _ _ v v' _ _ hv .nil),_=>exact⟨u,u',v,v',rfl,rfl,hu,hv⟩
theorem All2.three {α β:Type}{R:α→β→Prop}{t:List α}{s:List β}(h:All2 R t s)(hl:t.length=3):∃ u u' v v' w w',t=[u,v,w]∧s=[u',v',w']∧R u u'∧R v v'∧R w w':=by
 match h,hl with
 | @All2.cons _ _ _ u u' _ _ hu (@All2.cons _ _ _ v v' _ _ hv (@All2.cons _ _ _ w w' _ _ hw .nil)),_=>exact⟨u,u',v,v',w,w',rfl,rfl,hu,hv,hw⟩
theorem op_sub {c:Int}(hc:c=3∨c=4∨c=5∨c=6∨c=7∨c=8∨c=9∨c=12∨c=10){t s:List (Int×Int)}(h:All2 subR t s)(hl:(t.length:Int)=tkn c)(h2:(opB c s).2=0):subR (opB c t).1 (opB c s).1:=by
 rcases hc with rfl|rfl|rfl|rfl|rfl|rfl|rfl|rfl|rfl
 case inr.inr.inr.inr.inr.inr.inr.inr=>
   obtain⟨u,u',v,v',w,w',rfl,rfl,hu,hv,hw⟩:=h.three (by have:tkn 10=3:=rfl;omega)
   have b1:=ja4 hu
   have b2:=ja4 hv
   have b3:=ja4 hw
   show subR (if 0≤w.1 then (u,(0:Int)) else if w.2<0 then (v,0) else prB (min u.1 v.1,max u.2 v.2,0)).1 (if 0≤w'.1 then (u',(0:Int)) else if w'.2<0 then (v',0) else prB (min u'.1 v'.1,max u'.2 v'.2,0)).1
   have k1:okB (min u'.1 v'.1,max u'.2 v'.2):=jan.2 (by dsimp only;omega)
   have k2:okB (min u.1 v.1,max u.2 v.2):=jan.2 (by dsimp only;omega)
   by_cases g1:0≤w'.1
   ·rw[if_pos g1,if_pos (by omega)];exact hu
   ·rw[if_neg g1]
    by_cases g2:w'.2<0
    ·rw[if_pos g2,if_neg (by omega),if_pos (by omega)];exact hv
    ·rw[if_neg g2]
     by_cases g3:0≤w.1
     ·rw[if_pos g3];exact⟨hu.1,k1,by show min u'.1 v'.1≤u.1;omega,by show u.2≤max u'.2 v'.2;omega⟩
     ·rw[if_neg g3]
      by_cases g4:w.2<0
      ·rw[if_pos g4];exact⟨hv.1,k1,by show min u'.1 v'.1≤v.1;omega,by show v.2≤max u'.2 v'.2;omega⟩
      ·rw[if_neg g4];exact⟨k2,k1,by show min u'.1 v'.1≤min u.1 v.1;omega,by show max u.2 v.2≤max u'.2 v'.2;omega⟩
 case inl=>
   obtain⟨u,u',v,v',rfl,rfl,hu,hv⟩:=h.two (by have:tkn 3=2:=rfl;omega)
   have b1:=ja4 hu
   have b2:=ja4 hv
   exact jej (jgk (by omega) (by omega) (by omega)) h2 (jbc _ _) (jbc _ _)
 case inr.inl=>
   obtain⟨u,u',v,v',rfl,rfl,hu,hv⟩:=h.two (by have:tkn 4=2:=rfl;omega)
   have b1:=ja4 hu
   have b2:=ja4 hv
   exact jej (jgk (by omega) (by omega) (by omega)) h2 (jbc _ _) (jbc _ _)
 case inr.inr.inl=>
   obtain⟨u,u',v,v',rfl,rfl,hu,hv⟩:=h.two (by have:tkn 5=2:=rfl;omega)
   have b1:=ja4 hu
   have b2:=ja4 hv
   exact jej (shr_mul (p:=u'.1) (q:=u'.2) (p2:=v'.1) (q2:=v'.2) (m:=u.1) (n:=u.2) (m2:=v.1) (n2:=v.2) (by omega) (by omega) (by omega) (by omega) (by omega) (by omega)) h2 (jbc _ _) (jbc _ _)
 case inr.inr.inr.inl=>
   obtain⟨u,u',v,v',rfl,rfl,hu,hv⟩:=h.two (by have:tkn 6=2:=rfl;omega)
   have b1:=ja4 hu
   have b2:=ja4 hv
   exact⟨jan.2 (by show -1000000000000000000≤min u.1 v.1∧min u.1 v.1≤min u.2 v.2∧min u.2 v.2≤1000000000000000000;omega),jan.2 (by show -1000000000000000000≤min u'.1 v'.1∧min u'.1 v'.1≤min u'.2 v'.2∧min u'.2 v'.2≤1000000000000000000;omega),by show min u'.1 v'.1≤min u.1 v.1;omega,by show min u.2 v.2≤min u'.2 v'.2;omega⟩
 case inr.inr.inr.inr.inl=>
   obtain⟨u,u',v,v',rfl,rfl,hu,hv⟩:=h.two (by have:tkn 7=2:=rfl;omega)
   have b1:=ja4 hu
   have b2:=ja4 hv
   exact⟨jan.2 (by show -1000000000000000000≤max u.1 v.1∧max u.1 v.1≤max u.2 v.2∧max u.2 v.2≤1000000000000000000;omega),jan.2 (by show -1000000000000000000≤max u'.1 v'.1∧max u'.1 v'.1≤max u'.2 v'.2∧max u'.2 v'.2≤1000000000000000000;omega),by show max u'.1 v'.1≤max u.1 v.1;omega,by show max u.2 v.2≤max u'.2 v'.2;omega⟩
 case inr.inr.inr.inr.inr.inl=>
   obtain⟨u,u',rfl,rfl,hu⟩:=h.one (by have:tkn 8=1:=rfl;omega)
   have b1:=ja4 hu
   exact jej (jgk (by omega) (by omega) (by omega)) h2 (jbc _ _) (jbc _ _)
 case inr.inr.inr.inr.inr.inr.inl=>
   obtain⟨u,u',rfl,rfl,hu⟩:=h.one (by have:tkn 9=1:=rfl;omega)
   have b1:=ja4 hu
   exact jej (jgk (by omega) (by omega) (by omega)) h2 (jbc _ _) (jbc _ _)
 case inr.inr.inr.inr.inr.inr.inr.inl=>
   obtain⟨u,u',rfl,rfl,hu⟩:=h.one (by have:tkn 12=1:=rfl;omega)
   have b1:=ja4 hu
   exact⟨jan.2 (by show -1000000000000000000≤min (max u.1 0) 1000000000000∧min (max u.1 0) 1000000000000≤min (max u.2 0) 1000000000000∧min (max u.2 0) 1000000000000≤1000000000000000000;omega),jan.2 (by show -1000000000000000000≤min (max u'.1 0) 1000000000000∧min (max u'.1 0) 1000000000000≤min (max u'.2 0) 1000000000000∧min (max u'.2 0) 1000000000000≤1000000000000000000;omega),by show min (max u'.1 0) 1000000000000≤min (max u.1 0) 1000000000000;omega,by show min (max u.2 0) 1000000000000≤min (max u'.2 0) 1000000000000;omega⟩
theorem num_sub {a:Int}(h : -1000000000≤a∧a≤1000000000):subR (a*1000000,a*1000000) (a*1000000,a*1000000):=by
 have v:okB (a*1000000,a*1000000):=jan.2 (by dsimp only;omega)
 exact⟨v,v,Int.le_refl _,Int.le_refl _⟩
theorem st_sub {x l l':List (Int×Int)}{X m m':List (Int×Int)}{s s':Int×Int}{o:Int×Int}(hx:All2 subR x X)(h:All2 subR l m)(hs:svS x.length s o=some s')(hl:s.1=(l.length:Int))(h1:stM mB x o l = .ok l')(h2:stM mB X o m = .ok m'):All2 subR l' m':=by
 obtain⟨c,a⟩:=o
 unfold svS at hs
 split at hs
 case isFalse=>cases hs
 rename_i hc
 clear hs
 obtain⟨g1,g2,g3,g4,g5⟩:=hc
 dsimp only at g1 g2 g3 g4 g5
 unfold tkb at g1
 simp only[decide_eq_true_eq] at g1
 have hlm:=h.len
 have cs:c=1∨c=2∨c=11∨(c=3∨c=4∨c=5∨c=6∨c=7∨c=8∨c=9∨c=12∨c=10):=by omega
 rcases cs with rfl|rfl|rfl|hc
 ·have ha:0≤a∧a<x.length:=by simp[loA,hiA] at g3 g4;omega
  have e1:l'=l++[x.getD a.toNat (0,0)]:=by cases h1;rfl
  have e2:m'=m++[X.getD a.toNat (0,0)]:=by cases h2;rfl
  rw[e1,e2]
  exact h.app (.cons (hx.get (0,0) (0,0) a.toNat (by omega)) .nil)
 ·have e1:l'=l++[(a*1000000,a*1000000)]:=by cases h1;rfl
  have e2:m'=m++[(a*1000000,a*1000000)]:=by cases h2;rfl
  rw[e1,e2]
  exact h.app (.cons (num_sub (by simp[loA,hiA] at g3 g4;omega)) .nil)
 ·have ha:0≤a∧a≤s.1-1:=by simp[loA,hiA] at g3 g4;omega
  have e1:l'=l++[l.getD (l.length-1-a.toNat) (0,0)]:=by cases h1;rfl
  have e2:m'=m++[m.getD (m.length-1-a.toNat) (0,0)]:=by cases h2;rfl
  rw[e1,e2,← hlm]
  exact h.app (.cons (h.get (0,0) (0,0) _ (by omega)) .nil)
 ·have n1:c≠1:=by omega
  have n2:c≠2:=by omega
  have n3:c≠11:=by omega
  unfold stM at h1 h2
  dsimp only at h1 h2
  rw[if_neg n1,if_neg n2,if_neg n3] at h1 h2
  obtain⟨p1,p2⟩:=jdj h1
  obtain⟨q1,q2⟩:=jdj h2
  rw[p2,q2,← hlm]
  rw[← hlm] at q1
  have tb:=jei c
  refine(h.take _).app (.cons (op_sub hc (h.drop _) ?_ q1) .nil)
  rw[jiy];omega
theorem rn_sub {x:List (Int×Int)}{X:List (Int×Int)}(hx:All2 subR x X):∀ (p:List (Int×Int)) {l l':List (Int×Int)} {m m':List (Int×Int)} {s t:Int×Int},All2 subR l m→s.1=(l.length:Int)→svL x.length s p=some t→rnM mB x p l = .ok l'→rnM mB X p m = .ok m'→All2 subR l' m'
 | [],l,l',m,m',s,t,h,_,_,h1,h2=>by cases h1;cases h2;exact h
 | o::p,l,l',m,m',s,t,h,hs,hv,h1,h2=>by
  simp only[svL,rnM] at hv h1 h2
  cases e1:svS x.length s o with
  | none=>rw[e1] at hv;cases hv
  | some s2=>
   rw[e1] at hv
   cases e2:stM mB x o l with
   | error e=>rw[e2] at h1;cases h1
   | ok l2=>
    rw[e2] at h1
    cases e3:stM mB X o m with
    | error e=>rw[e3] at h2;cases h2
    | ok m2=>
     rw[e3] at h2
     exact rn_sub hx p (st_sub hx h e1 hs e2 e3) (jdA e1 hs e2) hv h1 h2
end Go.Proofs.YtpkdedncgclblaaGreatDoor
end
section
namespace Go.Proofs.YtpkdedncgclblaaGreatDoor
open Go Go.V
def dcode (n c0:Int):Int:=if tkn c0>n∨n=0∨(n>8∧tkn c0=0) then (if n>8 then 3 else 1) else c0
def darg (ins n c a:Int):Int:=if c=1 then (a%65536)%ins else if c=2 then 100*a else if c=11 then (a%65536)%n else 0
def dop (ins n:Int)(s:Int×Int):Int×Int:=(dcode n (1+s.1%12),darg ins n (dcode n (1+s.1%12)) s.2)
def dst (ins:Int)(t:List (Int×Int)×Int)(s:Int×Int):List (Int×Int)×Int:=(t.1++[dop ins t.2 s],t.2-tkn (dop ins t.2 s).1+1)
def dfo (ins:Int)(l:List (Int×Int)):List (Int×Int)×Int:=l.foldl (dst ins) ([],0)
theorem dfo_snoc (ins:Int)(l:List (Int×Int))(s:Int×Int):dfo ins (l++[s])=dst ins (dfo ins l) s:=by unfold dfo;rw[List.foldl_append];rfl
def dup (ins o:Int):Nat→List (Int×Int)×Int→List (Int×Int)×Int
 | 0,t=>t
 | k+1,t=>if t.2<o then dup ins o k (t.1++[(1,t.2%ins)],t.2+1) else t
def ddn (o:Int):Nat→List (Int×Int)×Int→List (Int×Int)×Int
 | 0,t=>t
 | k+1,t=>if t.2>o then ddn o k (t.1++[(3,0)],t.2-1) else t
def dprog (ins o:Int)(l:List (Int×Int)):List (Int×Int):=(ddn o 9 (dup ins o 3 (dfo ins (l.take 12)))).1
structure Good (ins:Int)(t:List (Int×Int)×Int)(m:Nat):Prop where
 ok:∃ d,svL ins (0,0) t.1=some (t.2,d)∧d≤9
 lo:0≤t.2
 hi:t.2≤9
 len:t.1.length≤m
theorem Good.snoc {ins:Int}{t:List (Int×Int)×Int}{m:Nat}{o:Int×Int}(h:Good ins t m)(h1:tkb o.1=true)(h2:tkn o.1≤t.2)(h3:loA o.1≤o.2)(h4:o.2≤hiA o.1 ins t.2)(h5:t.2-tkn o.1+1≤9):Good ins (t.1++[o],t.2-tkn o.1+1) (m+1):=by
 obtain⟨d,hd,h9⟩:=h.ok
 refine⟨⟨max d (t.2+(1-tkn o.1)),?_,by omega⟩,by dsimp only;omega,h5,by simp;exact h.len⟩
 dsimp only
 rw[jgW,hd]
 dsimp only
 unfold svL svS svL
 rw[if_pos ⟨h1,h2,h3,h4,by dsimp only;omega⟩]
 rw[show t.2+(1-tkn o.1)=t.2-tkn o.1+1 by omega]
theorem dop_code (ins n:Int)(s:Int×Int):tkb (dop ins n s).1=true:=by
 unfold dop dcode tkb
 dsimp only
 split
 ·split<;>decide
 ·simp only[decide_eq_true_eq];omega
theorem good_dst {ins:Int}(hi:1≤ins){t:List (Int×Int)×Int}{m:Nat}(h:Good ins t m)(s:Int×Int)(hs : -32768≤s.2∧s.2≤32767):Good ins (dst ins t s) (m+1):=by
 have g1:=h.lo
 have g2:=h.hi
 have t3:tkn 3=2:=rfl
 have t1:tkn 1=0:=rfl
 have key:tkn (dop ins t.2 s).1≤t.2∧t.2-tkn (dop ins t.2 s).1+1≤9∧((dop ins t.2 s).1=11→0<t.2):=by
  unfold dop dcode
  dsimp only
  have hb:=jei (1+s.1%12)
  split
  ·split
   ·rw[t3];omega
   ·rw[t1];omega
  ·rename_i hn
   refine⟨by omega,?_,fun _=>by omega⟩
   omega
 refine h.snoc (dop_code ins t.2 s) key.1 ?_ ?_ key.2.1
 ·unfold loA dop darg
  dsimp only
  generalize dcode t.2 (1+s.1%12)=c
  split
  ·rename_i e;subst e;simp;omega
  ·split
   ·exact jhN _ (by omega)
   ·rename_i e1;split
    ·rename_i e;by_cases h0:t.2=0
     ·rw[h0,Int.emod_zero];omega
     ·exact jhN _ h0
    ·exact Int.le_refl _
 ·have k3:=key.2.2
  unfold hiA
  unfold dop at k3 ⊢
  dsimp only at k3 ⊢
  generalize dcode t.2 (1+s.1%12)=c at *
  unfold darg
  split
  ·rename_i e;subst e;simp;have:=jib (s.2%65536) (b:=ins) (by omega);omega
  ·rename_i e1
   split
   ·rename_i e;subst e;simp;omega
   ·rename_i e2
    split
    ·rename_i e;subst e;simp;have:=jib (s.2%65536) (b:=t.2) (k3 rfl);omega
    ·exact Int.le_refl _
theorem jgC {ins:Int}(hi:1≤ins):∀ (l:List (Int×Int)) {t:List (Int×Int)×Int} {m:Nat},Good ins t m→(∀ s∈l, -32768≤s.2∧s.2≤32767)→Good ins (l.foldl (dst ins) t) (m+l.length)
 | [],_,_,h,_=>h
 | s::l,t,m,h,hl=>by
  have:=jgC hi l (good_dst hi h s (hl s List.mem_cons_self)) (fun x hx=>hl x (List.mem_cons_of_mem _ hx))
  rw[jiv,show m+(l.length+1)=m+1+l.length by omega]
  exact this
theorem good_dfo {ins:Int}(hi:1≤ins)(l:List (Int×Int))(hl:∀ s∈l, -32768≤s.2∧s.2≤32767):Good ins (dfo ins l) (0+l.length):=
 jgC hi l ⟨⟨0,rfl,by decide⟩,Int.le_refl _,by decide,jhT _⟩ hl
theorem good_up {ins o:Int}(hi:1≤ins)(ho:o≤9):∀ (k:Nat) {t:List (Int×Int)×Int} {m:Nat},Good ins t m→Good ins (dup ins o k t) (m+k)
 | 0,_,_,h=>h
 | k+1,t,m,h=>by
  unfold dup
  split
  ·rename_i c
   have g:=h.snoc (o:=(1,t.2%ins)) rfl (by show (0:Int)≤t.2;exact h.lo) (by show (0:Int)≤_;exact jhN _ (by omega)) (by show t.2%ins≤ins-1;have:=jib t.2 (b:=ins) (by omega);omega) (by show t.2-0+1≤9;omega)
   have g2:Good ins (t.1++[(1,t.2%ins)],t.2+1) (m+1):=by
    have e:t.2-tkn 1+1=t.2+1:=by show t.2-0+1=_;omega
    rw[← e];exact g
   rw[show m+(k+1)=m+1+k by omega]
   exact good_up hi ho k g2
  ·exact⟨h.ok,h.lo,h.hi,by have:=h.len;omega⟩
theorem up_ge {ins o:Int} : ∀ (k:Nat) {t:List (Int×Int)×Int},o-t.2≤k→o≤(dup ins o k t).2
 | 0,t,h=>by unfold dup;omega
 | k+1,t,h=>by
  unfold dup
  split
  ·exact up_ge k (by dsimp only;omega)
  ·omega
theorem good_dn {ins o:Int}(ho:1≤o):∀ (k:Nat) {t:List (Int×Int)×Int} {m:Nat},Good ins t m→Good ins (ddn o k t) (m+k)
 | 0,_,_,h=>h
 | k+1,t,m,h=>by
  unfold ddn
  split
  ·rename_i c
   have h9:=h.hi
   have g:=h.snoc (o:=(3,0)) rfl (by show (2:Int)≤t.2;omega) (by show (0:Int)≤0;omega) (by show (0:Int)≤0;omega) (by show t.2-2+1≤9;omega)
   have g2:Good ins (t.1++[(3,0)],t.2-1) (m+1):=by
    have e:t.2-tkn 3+1=t.2-1:=by show t.2-2+1=_;omega
    rw[← e];exact g
   rw[show m+(k+1)=m+1+k by omega]
   exact good_dn ho k g2
  ·exact⟨h.ok,h.lo,h.hi,by have:=h.len;omega⟩
theorem dn_le {o:Int} : ∀ (k:Nat) {t:List (Int×Int)×Int},t.2-o≤k→o≤t.2→(ddn o k t).2=o
 | 0,t,h,h2=>by unfold ddn;omega
 | k+1,t,h,h2=>by
  unfold ddn
  split
  ·exact dn_le k (by dsimp only;omega) (by dsimp only;omega)
  ·omega
theorem dprog_ok9 {ins o:Int}(hi:1≤ins∧ins≤4)(ho:1≤o∧o≤3)(l:List (Int×Int))(hl:∀ s∈l, -32768≤s.2∧s.2≤32767):(∃ d,surv (dprog ins o l) ins o=some d∧d≤9)∧(dprog ins o l).length≤24:=by
 have g0:=good_dfo hi.1 (l.take 12) (fun s hs=>hl s (jiu hs))
 have g1:=good_up hi.1 (o:=o) (by omega) 3 g0
 have g2:=good_dn (o:=o) ho.1 9 g1
 have e1:=up_ge (ins:=ins) (o:=o) 3 (t:=dfo ins (l.take 12)) (by have:=g0.lo;omega)
 have e2:=dn_le (o:=o) 9 (t:=dup ins o 3 (dfo ins (l.take 12))) (by have:=g1.hi;omega) e1
 have hlen:(dprog ins o l).length≤24:=by
  have:=g2.len
  have h12:(l.take 12).length≤12:=List.length_take_le _ _
  unfold dprog;omega
 obtain⟨d,hd,h9⟩:=g2.ok
 refine⟨⟨d,?_,h9⟩,hlen⟩
 unfold surv
 rw[if_pos ⟨hi.1,hi.2,ho.1,by omega,by omega⟩]
 rw[e2] at hd
 unfold dprog
 rw[hd]
 dsimp only
 rw[if_pos rfl]
theorem dprog_ok {ins o:Int}(hi:1≤ins∧ins≤4)(ho:1≤o∧o≤3)(l:List (Int×Int))(hl:∀ s∈l, -32768≤s.2∧s.2≤32767):(∃ d,surv (dprog ins o l) ins o=some d)∧(dprog ins o l).length≤24:=by
 obtain⟨⟨d,h1,_⟩,h2⟩:=dprog_ok9 hi ho l hl
 exact⟨⟨d,h1⟩,h2⟩
end Go.Proofs.YtpkdedncgclblaaGreatDoor
end
section
namespace Go.Proofs.YtpkdedncgclblaaGreatDoor
open Go Go.V Go.Nb
theorem svS_out {i:Int}{s s' o:Int×Int}(h:svS i s o=some s'):(tkb o.1=true∧tkn o.1≤s.1∧loA o.1≤o.2∧o.2≤hiA o.1 i s.1∧s.1+(1-tkn o.1)≤16)∧s'=(s.1+(1-tkn o.1),max s.2 (s.1+(1-tkn o.1))):=by
 unfold svS at h
 split at h
 ·rename_i c;cases h;exact⟨c,rfl⟩
 ·cases h
theorem jfy {p:List (Int×Int)}{i o d:Int}(h:surv p i o=some d):(1≤i∧i≤4∧1≤o∧o≤4∧p.length≤40)∧svL i (0,0) p=some (o,d):=by
 unfold surv at h
 split at h
 case isFalse=>cases h
 rename_i c
 refine⟨c,?_⟩
 split at h
 case h_2=>cases h
 rename_i n d' e
 split at h
 ·rename_i e2;cases h;rw[e,e2]
 ·cases h
theorem rn_len {α:Type}[Inhabited α]{M:Mc α}{x:List α}{i:Int} : ∀ {p:List (Int×Int)} {s t:Int×Int} {l l':List α},svL i s p=some t→s.1=(l.length:Int)→rnM M x p l = .ok l'→t.1=(l'.length:Int)
 | [],_,_,_,_,h,hl,h1=>by cases h;cases h1;exact hl
 | o::p,s,t,l,l',h,hl,h1=>by
  simp only[svL,rnM] at h h1
  cases e:svS i s o with
  | none=>rw[e] at h;cases h
  | some s2=>
   rw[e] at h
   cases e2:stM M x o l with
   | error er=>rw[e2] at h1;cases h1
   | ok l2=>rw[e2] at h1;exact rn_len h (jdA e hl e2) h1
theorem jfz {α:Type}[Inhabited α]{M:Mc α}{x:List α}{p:List (Int×Int)}{i o d:Int}{l:List α}(hs:surv p i o=some d)(h:rnM M x p [] = .ok l):(l.length:Int)=o:=(rn_len (jfy hs).2 rfl h).symm
theorem opF_e (c:Int)(l:List Rat):(opF c l).2=0∨(opF c l).2=6:=by
 unfold opF
 split
 ·split
  ·exact .inl rfl
  ·split<;>exact .inl rfl
 ·dsimp only
  cases okF _
  ·exact .inr rfl
  ·exact .inl rfl
 ·exact .inl rfl
 ·exact .inl rfl
theorem putM_e {l:List Rat}{r:Rat×Int}{e:Int}(h:putM l r = .error e):e=r.2∧r.2≠0:=by
 unfold putM at h
 split at h
 ·cases h
 ·rename_i c;cases h;exact⟨rfl,c⟩
theorem rnF_e {x:List Rat} : ∀ (p:List (Int×Int)) {l:List Rat} {e:Int},rnM mF x p l = .error e→e=6
 | [],_,_,h=>by cases h
 | o::p,l,e,h=>by
  simp only[rnM] at h
  cases e2:stM mF x o l with
  | ok l2=>rw[e2] at h;exact rnF_e p h
  | error er=>
   rw[e2] at h
   cases h
   unfold stM at e2
   split at e2
   ·cases e2
   split at e2
   ·cases e2
   split at e2
   ·cases e2
   obtain⟨h1,h2⟩:=putM_e e2
   have:=opF_e o.1 (l.drop (l.length-(tkn o.1).toNat))
   have e3:(mF.op o.1 (l.drop (l.length-(tkn o.1).toNat)))=opF o.1 (l.drop (l.length-(tkn o.1).toNat)):=rfl
   rw[e3] at h1 h2
   rcases this with h3|h3
   ·exact absurd h3 h2
   ·rw[h1,h3]
theorem jen (s:List UInt8)(hs:s.length≤281474976710656):Cl 67 [.str s] (.bool (okW s)):=by
 obtain⟨d,j,neg,S,e1,_⟩:=sg_of s
 rw[e1]
 exact right01_g s d j neg S hs
theorem jea (s:List UInt8)(h:okW s=true):Cl 68 [.str s] (plD (wval s)):=by
 obtain⟨d,j,neg,S,e1,e2⟩:=sg_of s
 rw[e2]
 rw[e1] at h
 unfold okD at h
 simp only[jhK,Bool.not_eq_true',jh2,decide_eq_false_iff_not,jii] at h
 exact in01_g s d j neg S h.1.2 (by omega) (by have:=S.hl;omega)
theorem jce {s:List UInt8}(h:okW s=true):Sm 151 (wval s):=by
 obtain⟨d,j,neg,S,e1,e2⟩:=sg_of s
 rw[e1] at h
 unfold okD at h
 simp only[jhK,Bool.not_eq_true',jh2,decide_eq_false_iff_not,jii] at h
 have hlt:=jdU (s:=d) h.1.2
 have h2:∀ k,d.length≤4*k→rdv d<10000^k:=fun k hk=>by
  refine jhZ hlt ?_
  rw[show (10000:Nat)=10^4 from rfl,← Nat.pow_mul]
  exact jh9 (by omega) hk
 have e:(wval s).natAbs=rdv d:=by
  rw[e2];split<;>omega
 unfold Sm
 rw[e]
 exact jaq (by omega) (h2 151 (by omega))
theorem jg3 (s t : List UInt8) (hs : s.length ≤ 281474976710656) (ht : t.length ≤ 281474976710656) : Cl 41 [.agg [.str s, .str t]] (.bool (okP s t)) := by
  have r1 := jen s hs
  have r2 := jen t ht
  by_cases h1 : okW s = true
  · rw [h1] at r1
    by_cases h2 : okW t = true
    · rw [h2] at r2
      have i1 := jea s h1
      have i2 := jea t h2
      have g1 := jeK (wval s) (wval t) ((jce h1).mono (by omega)) ((jce h2).mono (by omega))
      have hz := jch (B := 10000) (n := (wval t).natAbs) (by omega)
      have gl : Sm 151 (Int.gcd (wval s) (wval t) : Int) := by
        by_cases h0 : wval t = 0
        · rw [h0, Int.gcd_zero_right]
          exact (jce h1).le (by omega)
        · exact (jce h2).le (by
            rw [jh8]
            exact Nat.le_of_dvd (by omega) (Int.ofNat_dvd_left.1 (Int.gcd_dvd_right _ _)))
      have x1 := text_c _ (gl.mono (by omega))
      have hp : okP s t = (decide (0 < wval t) && decide (decZ (Int.gcd (wval s) (wval t) : Int) = [49])) := by
        unfold okP
        rw [h1, h2, Bool.true_and, Bool.true_and]
        congr 1
        refine decide_eq_decide.2 ⟨fun h => ?_, fun h => ?_⟩
        · rw [show Int.gcd (wval s) (wval t) = 1 from h]; decide
        · have := jby (Int.gcd (wval s) (wval t) : Int)
          rw [h] at this
          have e49 : wval [49] = 1 := by decide
          rw [e49] at this
          show Int.gcd (wval s) (wval t) = 1
          omega
      rw [hp]
      clear hp gl
      generalize wval s = x at *
      generalize wval t = y at *
      generalize (Int.gcd x y : Int) = g at *
      generalize decZ g = gt at *
      have hy : (decide (y < 0) || decide ((((mg 10000 y.natAbs).length : Nat) : Int) = 0)) = !decide (0 < y) := by
        rw [Bool.eq_iff_iff]
        simp only [jh1, decide_eq_true_eq, Bool.not_eq_true', decide_eq_false_iff_not]
        constructor
        · rintro (h | h)
          · omega
          · have : mg 10000 y.natAbs = [] := jik.1 (by omega)
            have := hz.1 this
            omega
        · intro h
          by_cases h0 : y < 0
          · exact .inl h0
          · right
            have : mg 10000 y.natAbs = [] := hz.2 (by omega)
            rw [this]; rfl
      unfold plD at *
      refine V.en tbOk Tryz.func41 ?_
      (conv => whnf)
      refine V.st ?_
      repeat ((try ((with_reducible refine .ext ?_); (conv => whnf))); (with_reducible refine jaa (r := ?_) ?_ ?_); rotate_left; (focus (first | exact (r1) | exact (r2))); (conv => whnf); refine V.st ?_)
      refine ⟨Pq38z, [], V.pok, ?_⟩
      refine jal [(3, .box 3 0), (4, .box 4 0)] [(3, .box [.bool (decide (x < 0)), .ints .i64 (mg 10000 x.natAbs)]), (4, .box [.bool (decide (y < 0)), .ints .i64 (mg 10000 y.natAbs)])] ?_ ?_
      · exact V.d2 @jhR i1 i2
      refine V.r0 hy ?_
      refine V.br (fun hq => ?_) (fun hq => ?_)
      · simp only [Bool.not_eq_true', decide_eq_false_iff_not] at hq
        rw [decide_eq_false hq, Bool.false_and]
        (conv => whnf)
        refine V.st ?_
        exact Fin.of rfl
      · simp only [Bool.not_eq_false', decide_eq_true_eq] at hq
        rw [decide_eq_true hq, Bool.true_and]
        (conv => whnf)
        refine V.st ?_
        repeat ((try ((with_reducible refine .ext ?_); (conv => whnf))); (with_reducible refine jaa (r := ?_) ?_ ?_); rotate_left; (focus (first | exact (g1) | exact (x1))); (conv => whnf); refine V.st ?_)
        exact Fin.of rfl
    · rw [Bool.eq_false_iff.2 h2] at r2
      have hp : okP s t = false := by unfold okP; rw [Bool.eq_false_iff.2 h2, Bool.and_false, Bool.false_and, Bool.false_and]
      rw [hp]
      refine V.en tbOk Tryz.func41 ?_
      (conv => whnf)
      refine V.st ?_
      repeat ((try ((with_reducible refine .ext ?_); (conv => whnf))); (with_reducible refine jaa (r := ?_) ?_ ?_); rotate_left; (focus (first | exact (r1) | exact (r2))); (conv => whnf); refine V.st ?_)
      exact Fin.of rfl
  · rw [Bool.eq_false_iff.2 h1] at r1
    have hp : okP s t = false := by unfold okP; rw [Bool.eq_false_iff.2 h1, Bool.false_and, Bool.false_and, Bool.false_and]
    rw [hp]
    refine V.en tbOk Tryz.func41 ?_
    (conv => whnf)
    refine V.st ?_
    repeat ((try ((with_reducible refine .ext ?_); (conv => whnf))); (with_reducible refine jaa (r := ?_) ?_ ?_); rotate_left; (focus (first | exact (r1) | exact (r2))); (conv => whnf); refine V.st ?_)
    refine V.br (fun hq => ?_) (fun hq => ?_)
    · (conv => whnf)
      refine V.st ?_
      exact Fin.of rfl
    · simp at hq
theorem q4_qv_n {s t:List UInt8}(h:okP s t=true):Q4 151 (qv s t):=by
 obtain⟨h1,h2,h3,h4⟩:=jdV h
 obtain⟨p1,p2⟩:=jcS h
 exact⟨by rw[p1];exact jce h1,by rw[p2];exact(jce h2).le (by omega)⟩
theorem in02_c_n (s t:List UInt8)(h:okP s t=true):Cl 44 [.agg [.str s,.str t]] (raD (qv s t)):=by
 obtain⟨h1,h2,h3,h4⟩:=jdV h
 obtain⟨p1,p2⟩:=jcS h
 have i1:=jea s h1
 have i2:=jea t h2
 unfold raD
 rw[p1,p2]
 unfold plD at i1 i2
 rw[decide_eq_false (show ¬ wval t<0 by omega)] at i2
 refine V.en tbOk Tryz.func44 ?_
 (conv=>whnf)
 refine V.st ?_
 refine⟨(V.tk [0,1,3,4] (V.e1 2 [4,3] (V.e1 5 [] (V.tk [6] (V.e1 7 [] .done))))),[],V.pok,.go (jab ?_)⟩
 (conv=>whnf)
 refine V.st ?_
 repeat ((try ((with_reducible refine .ext ?_);(conv=>whnf)));(with_reducible refine jaa (r:=?_) ?_ ?_);rotate_left;(focus (first|exact(i1)|exact(i2)));(conv=>whnf);refine V.st ?_)
 exact Fin.of rfl
def hasA (p q:Int)(s t:List UInt8):Bool×Int:=if vb p q=true then (if okP s t=true then (hasR (qv s t) p q,0) else (false,20)) else (false,30)
theorem has_r (p q:Int)(s t:List UInt8)(hs:s.length≤281474976710656)(ht:t.length≤281474976710656):Cl 23 [bA p q,.agg [.str s,.str t]] (.tup [.bool (hasA p q s t).1,.int .i64 (hasA p q s t).2]):=by
 have r0:=right03_c p q
 have r1:=jg3 s t hs ht
 unfold hasA
 by_cases hv:vb p q=true
 ·rw[if_pos hv]
  rw[hv] at r0
  have hb:=jan.1 hv
  by_cases h:okP s t=true
  ·rw[if_pos h]
   rw[h] at r1
   have i1:=in02_c_n s t h
   have q1:=q4_qv_n h
   have v1:=value_c p (by simp only[InR,V.lo,V.hi];omega)
   have v2:=value_c q (by simp only[InR,V.lo,V.hi];omega)
   rw[show ∀ z,Rat.divInt z 1000000000000=unit z from fun _=>rfl] at v1 v2
   have o1:=jgp (unit p) (qv s t) ((unit_q4 p (by omega)).mono (by omega)) (q1.mono (by omega))
   have o2:=jgp (qv s t) (unit q) (q1.mono (by omega)) ((unit_q4 q (by omega)).mono (by omega))
   have hr:hasR (qv s t) p q=(decide (ordQ (unit p) (qv s t)≤0) && decide (ordQ (qv s t) (unit q)≤0)):=by
    unfold hasR
    congr 1
    exact decide_eq_decide.2 ((ord_ge _ _).trans (ord_le _ _).symm)
   simp only[hr]
   clear hr
   generalize ordQ (unit p) (qv s t)=x1 at *
   generalize ordQ (qv s t) (unit q)=x2 at *
   generalize qv s t=x at *
   generalize unit p=y1 at *
   generalize unit q=y2 at *
   unfold raD at *
   refine V.en tbOk Tryz.func23 ?_
   (conv=>whnf)
   refine V.st ?_
   repeat ((try ((with_reducible refine .ext ?_);(conv=>whnf)));(with_reducible refine jaa (r:=?_) ?_ ?_);rotate_left;(focus (first|exact(r0)|exact(r1)|exact(i1)));(conv=>whnf);refine V.st ?_)
   refine⟨(V.tk [0,1,3] (V.e1 2 [3] (V.e1 4 [] (V.tk [5,6,7,8,9] (V.e1 10 [7] (V.e1 11 [] (V.tk [12,13,14,15] .done))))))),[],V.pok,.go (jab ?_)⟩
   (conv=>whnf)
   refine V.st ?_
   repeat ((try ((with_reducible refine .ext ?_);(conv=>whnf)));(with_reducible refine jaa (r:=?_) ?_ ?_);rotate_left;(focus (first|exact(v1)|exact(v2)|exact(o1)|exact(o2)));(conv=>whnf);refine V.st ?_)
   exact Fin.of rfl
  ·rw[if_neg h]
   rw[Bool.eq_false_iff.2 h] at r1
   refine V.en tbOk Tryz.func23 ?_
   (conv=>whnf)
   refine V.st ?_
   repeat ((try ((with_reducible refine .ext ?_);(conv=>whnf)));(with_reducible refine jaa (r:=?_) ?_ ?_);rotate_left;(focus (first|exact(r0)|exact(r1)));(conv=>whnf);refine V.st ?_)
   exact Fin.of rfl
 ·rw[if_neg hv]
  rw[Bool.eq_false_iff.2 hv] at r0
  refine V.en tbOk Tryz.func23 ?_
  (conv=>whnf)
  refine V.st ?_
  repeat ((try ((with_reducible refine .ext ?_);(conv=>whnf)));(with_reducible refine jaa (r:=?_) ?_ ?_);rotate_left;(focus (first|exact(r0)));(conv=>whnf);refine V.st ?_)
  exact Fin.of rfl
end Go.Proofs.YtpkdedncgclblaaGreatDoor
end
