/- What functions of the program answer at given values, part 13. Conditions: those that each theorem names. -/
import Derived.Test.YtpkdedncgclblaaGreatDoorProgramRunsH12
import Derived.Test.YtpkdedncgclblaaGreatDoorProgramRunsH6
import Derived.Test.YtpkdedncgclblaaGreatDoorProgramRunsH10
import Derived.Test.YtpkdedncgclblaaGreatDoorProgramRunsH11
set_option linter.unusedSimpArgs false
set_option linter.unusedVariables false
set_option maxHeartbeats 8000000
set_option maxRecDepth 100000
section
namespace Go.Proofs.YtpkdedncgclblaaGreatDoor
open Go Go.V Go.Nb
theorem jij:type_of% @jiA∧type_of% @jiy:=⟨@jiA,@jiy⟩
theorem rdF_neg (p:List (Int×Int))(x l:List Rat)(u:Rat)(k:Nat)(a:Int)(S T:List UInt8)(e:Int)(hk:k<p.length)(hp:p.length≤40)(hca:p.getD k (0,0)=(8,a))(hl:l.length≤16)
  (cf:Cl 85 [.agg [.str (decZ u.num),.str (dec u.den)]] (.tup [.agg [.str S,.str T],.int .i64 e])) {K:K3}
  (hok:e=0 → ∀ L H,Wk 103 L H (slM p (k+1)) (hpF x (l.length+1) (fcl l++[.str S,.str T]))→K .normal L H)
  (hpan:e≠0 → ∀ L H,Wk 103 L H slE hpE→K (.panic [{ v := .iface 155 (.agg #[.int .i64 e]),recovered:=false }]) L H) :
  RunC Tryz.prog tb (inlN Tryz.prog tb 6) 42 ((jaF (Tryz.f49.body.getD .skip)).getD .skip) (fun _ _ _ _ _=>False) 103 (slM p k) (hpF x (l.length+1) (fcl (l++[u]))) K:=by
 have hkc:((k:Int)+1)=((k+1:Nat):Int):=by omega
 have hne:decide ((k:Int)=p.length)=false:=decide_eq_false (by omega)
 have pg:=jbI (l++[u])
 have tk:Cl 120 [.int .i64 8] (.tup [.int .i64 1,.bool true]):=jbl 8
 have hr:(((l.length+1:Nat):Int)-1)=(l.length:Nat):=by omega
 have hble:Nat.ble (0+(l.length+1)*2) (fcl (l++[u])).length=true:=by rw[jb7,ji0];simp
 have hsub:l.length+1-l.length=1:=by omega
 have hd0:∀ K,dropK (fcl (l++[u])) (l.length*2+Int.toNat 0*2) K=K (fcl [u]):=fun K=>jbC [u] K l
 (conv=>whnf)
 (try simp only[hne,jiA,hca])
 repeat ((first|refine V.s1 ?_|((try ((with_reducible refine .ext ?_);(conv=>whnf);(try simp only[hne,jiA,hca])));(with_reducible refine jaa (r:=?_) ?_ ?_);rotate_left;(focus (first|fail));(conv=>whnf))|(((simp only[pg];(conv=>whnf)));(conv=>whnf)));(try simp only[hne,jiA,hca]))
 refine .inl ?_
 (conv=>whnf)
 refine⟨0,_,_,⟨Tryz.func95,rfl,rfl,jis rfl⟩,?_⟩
 (conv=>whnf)
 (conv=>whnf)
 (try simp only[jiA])
 repeat ((first|refine V.s1 ?_|((try ((with_reducible refine .ext ?_);(conv=>whnf);(try simp only[jiA])));(with_reducible refine jaa (r:=?_) ?_ ?_);rotate_left;(focus (first|exact(tk)));(conv=>whnf))|(((simp only[pg];(conv=>whnf)));(conv=>whnf)));(try simp only[jiA]))
 refine .inl ?_
 (conv=>whnf)
 refine⟨0,_,_,⟨Tryz.func177,rfl,rfl,jis rfl⟩,?_⟩
 (conv=>whnf)
 (conv=>whnf)
 (try simp only[hr,jiA])
 repeat ((first|refine V.s1 ?_|((try ((with_reducible refine .ext ?_);(conv=>whnf);(try simp only[hr,jiA])));(with_reducible refine jaa (r:=?_) ?_ ?_);rotate_left;(focus (first|exact(tk)));(conv=>whnf))|(((simp only[pg];(conv=>whnf)));(conv=>whnf))|(((simp only[hr,jiA,hsub];(conv=>whnf)));(conv=>whnf))|(((simp only[hble];(conv=>whnf)));(conv=>whnf)));(try simp only[hr,jiA]))
 refine⟨Pq8z,[],V.pok,.go (jab ?_)⟩
 (conv=>whnf)
 (try simp only[jiA])
 repeat ((first|refine V.s1 ?_|((try ((with_reducible refine .ext ?_);(conv=>whnf);(try simp only[jiA])));(with_reducible refine jaa (r:=?_) ?_ ?_);rotate_left;(focus (first|fail));(conv=>whnf))|(((simp only[pg];(conv=>whnf)));(conv=>whnf)));(try simp only[jiA]))
 refine .inl ?_
 (conv=>whnf)
 refine⟨0,_,_,⟨Tryz.func171,rfl,rfl,jis rfl⟩,?_⟩
 (conv=>whnf)
 (conv=>whnf)
 (try simp only[jiA])
 repeat ((first|refine V.s1 ?_|((try ((with_reducible refine .ext ?_);(conv=>whnf);(try simp only[jiA])));(with_reducible refine jaa (r:=?_) ?_ ?_);rotate_left;(focus (first|fail));(conv=>whnf))|(((simp only[pg];(conv=>whnf)));(conv=>whnf)));(try simp only[jiA]))
 refine⟨Pq38z,[],V.pok,.go (jab ?_)⟩
 (conv=>whnf)
 (try simp only[jij])
 repeat ((first|refine V.s1 ?_|((try ((with_reducible refine .ext ?_);(conv=>whnf);(try simp only[jij])));(with_reducible refine jaa (r:=?_) ?_ ?_);rotate_left;(focus (first|exact(cf)));(conv=>whnf))|(((simp only[pg];(conv=>whnf)));(conv=>whnf))|(((simp only[hd0];(conv=>whnf)));(conv=>whnf)));(try simp only[jij]))
 refine .inl ?_
 (conv=>whnf)
 refine⟨0,_,_,⟨Tryz.func176,rfl,rfl,jis rfl⟩,?_⟩
 (conv=>whnf)
 (conv=>whnf)
 (try simp only[jiA])
 repeat ((first|refine V.s1 ?_|((try ((with_reducible refine .ext ?_);(conv=>whnf);(try simp only[jiA])));(with_reducible refine jaa (r:=?_) ?_ ?_);rotate_left;(focus (first|fail));(conv=>whnf))|(((simp only[pg];(conv=>whnf)));(conv=>whnf)));(try simp only[jiA]))
 by_cases he:e=0
 ·refine jbP [(0,.box 58 0),(4,.box 200 0)] [(58,.box [.bsl 145 0 l.length 2,inF x,.fn 76 [] [],.mapr 44]),(145,.box (fcl l)),(200,.box [.str S,.str T]),(44,.mp esF),(114,.mp stepsF),(64,.box [.nil]),(65,.box [.int .i64 0])] (CondB.mk (fun h=>absurd he (by simpa using h)) (fun _=>?_)) ?_
  ·(conv=>whnf)
   exact Wk.trim 145 (l.length*2) rfl (Wk.same 145 rfl (jc6 l [u]) V.wk)
  ·have pg:=jbI l
   have hb:=jcK l
   have ht:=jaO hl
   have hf:∀ i,D.freeL i (fcl l++[.str S,.str T])=true:=jbB l _ _
   (conv=>whnf)
   refine⟨Pq22z,[],V.pok,.go (jab ?_)⟩
   (conv=>whnf)
   (try simp only[jiA,hkc])
   repeat ((first|refine V.s1 ?_|((try ((with_reducible refine .ext ?_);(conv=>whnf);(try simp only[jiA,hkc])));(with_reducible refine jaa (r:=?_) ?_ ?_);rotate_left;(focus (first|fail));(conv=>whnf))|(((simp only[pg];(conv=>whnf)));(conv=>whnf))|(((simp only[hb,ht,jju,hf];(conv=>whnf)));(conv=>whnf)));(try simp only[jiA,hkc]))
   refine hok he _ _ (Wk.renB 214 145 58 0 (l.length+1) 2 (by decide) (by decide) (by decide) (hf _) rfl rfl rfl ?_)
   exact V.wk
 ·refine Cnd.split (CondB.mk (fun _=>?_) (fun h=>absurd (by simpa using h) he))
  refine V.r0 @jiA ?_
  exact hpan he _ _ V.wk
theorem rdF_abs (p:List (Int×Int))(x l:List Rat)(u:Rat)(k:Nat)(a:Int)(S T:List UInt8)(e:Int)(hk:k<p.length)(hp:p.length≤40)(hca:p.getD k (0,0)=(9,a))(hl:l.length≤16)
  (cf:Cl 86 [.agg [.str (decZ u.num),.str (dec u.den)]] (.tup [.agg [.str S,.str T],.int .i64 e])) {K:K3}
  (hok:e=0 → ∀ L H,Wk 103 L H (slM p (k+1)) (hpF x (l.length+1) (fcl l++[.str S,.str T]))→K .normal L H)
  (hpan:e≠0 → ∀ L H,Wk 103 L H slE hpE→K (.panic [{ v := .iface 155 (.agg #[.int .i64 e]),recovered:=false }]) L H) :
  RunC Tryz.prog tb (inlN Tryz.prog tb 6) 42 ((jaF (Tryz.f49.body.getD .skip)).getD .skip) (fun _ _ _ _ _=>False) 103 (slM p k) (hpF x (l.length+1) (fcl (l++[u]))) K:=by
 have hkc:((k:Int)+1)=((k+1:Nat):Int):=by omega
 have hne:decide ((k:Int)=p.length)=false:=decide_eq_false (by omega)
 have pg:=jbI (l++[u])
 have tk:Cl 120 [.int .i64 9] (.tup [.int .i64 1,.bool true]):=jbl 9
 have hr:(((l.length+1:Nat):Int)-1)=(l.length:Nat):=by omega
 have hble:Nat.ble (0+(l.length+1)*2) (fcl (l++[u])).length=true:=by rw[jb7,ji0];simp
 have hsub:l.length+1-l.length=1:=by omega
 have hd0:∀ K,dropK (fcl (l++[u])) (l.length*2+Int.toNat 0*2) K=K (fcl [u]):=fun K=>jbC [u] K l
 (conv=>whnf)
 (try simp only[hne,jiA,hca])
 repeat ((first|refine V.s1 ?_|((try ((with_reducible refine .ext ?_);(conv=>whnf);(try simp only[hne,jiA,hca])));(with_reducible refine jaa (r:=?_) ?_ ?_);rotate_left;(focus (first|fail));(conv=>whnf))|(((simp only[pg];(conv=>whnf)));(conv=>whnf)));(try simp only[hne,jiA,hca]))
 refine .inl ?_
 (conv=>whnf)
 refine⟨0,_,_,⟨Tryz.func95,rfl,rfl,jis rfl⟩,?_⟩
 (conv=>whnf)
 (conv=>whnf)
 (try simp only[jiA])
 repeat ((first|refine V.s1 ?_|((try ((with_reducible refine .ext ?_);(conv=>whnf);(try simp only[jiA])));(with_reducible refine jaa (r:=?_) ?_ ?_);rotate_left;(focus (first|exact(tk)));(conv=>whnf))|(((simp only[pg];(conv=>whnf)));(conv=>whnf)));(try simp only[jiA]))
 refine .inl ?_
 (conv=>whnf)
 refine⟨0,_,_,⟨Tryz.func177,rfl,rfl,jis rfl⟩,?_⟩
 (conv=>whnf)
 (conv=>whnf)
 (try simp only[hr,jiA])
 repeat ((first|refine V.s1 ?_|((try ((with_reducible refine .ext ?_);(conv=>whnf);(try simp only[hr,jiA])));(with_reducible refine jaa (r:=?_) ?_ ?_);rotate_left;(focus (first|exact(tk)));(conv=>whnf))|(((simp only[pg];(conv=>whnf)));(conv=>whnf))|(((simp only[hr,jiA,hsub];(conv=>whnf)));(conv=>whnf))|(((simp only[hble];(conv=>whnf)));(conv=>whnf)));(try simp only[hr,jiA]))
 refine⟨Pq8z,[],V.pok,.go (jab ?_)⟩
 (conv=>whnf)
 (try simp only[jiA])
 repeat ((first|refine V.s1 ?_|((try ((with_reducible refine .ext ?_);(conv=>whnf);(try simp only[jiA])));(with_reducible refine jaa (r:=?_) ?_ ?_);rotate_left;(focus (first|fail));(conv=>whnf))|(((simp only[pg];(conv=>whnf)));(conv=>whnf)));(try simp only[jiA]))
 refine .inl ?_
 (conv=>whnf)
 refine⟨0,_,_,⟨Tryz.func171,rfl,rfl,jis rfl⟩,?_⟩
 (conv=>whnf)
 (conv=>whnf)
 (try simp only[jiA])
 repeat ((first|refine V.s1 ?_|((try ((with_reducible refine .ext ?_);(conv=>whnf);(try simp only[jiA])));(with_reducible refine jaa (r:=?_) ?_ ?_);rotate_left;(focus (first|fail));(conv=>whnf))|(((simp only[pg];(conv=>whnf)));(conv=>whnf)));(try simp only[jiA]))
 refine⟨Pq38z,[],V.pok,.go (jab ?_)⟩
 (conv=>whnf)
 (try simp only[jij])
 repeat ((first|refine V.s1 ?_|((try ((with_reducible refine .ext ?_);(conv=>whnf);(try simp only[jij])));(with_reducible refine jaa (r:=?_) ?_ ?_);rotate_left;(focus (first|exact(cf)));(conv=>whnf))|(((simp only[pg];(conv=>whnf)));(conv=>whnf))|(((simp only[hd0];(conv=>whnf)));(conv=>whnf)));(try simp only[jij]))
 refine .inl ?_
 (conv=>whnf)
 refine⟨0,_,_,⟨Tryz.func176,rfl,rfl,jis rfl⟩,?_⟩
 (conv=>whnf)
 (conv=>whnf)
 (try simp only[jiA])
 repeat ((first|refine V.s1 ?_|((try ((with_reducible refine .ext ?_);(conv=>whnf);(try simp only[jiA])));(with_reducible refine jaa (r:=?_) ?_ ?_);rotate_left;(focus (first|fail));(conv=>whnf))|(((simp only[pg];(conv=>whnf)));(conv=>whnf)));(try simp only[jiA]))
 by_cases he:e=0
 ·refine jbP [(0,.box 58 0),(4,.box 200 0)] [(58,.box [.bsl 145 0 l.length 2,inF x,.fn 76 [] [],.mapr 44]),(145,.box (fcl l)),(200,.box [.str S,.str T]),(44,.mp esF),(114,.mp stepsF),(64,.box [.nil]),(65,.box [.int .i64 0])] (CondB.mk (fun h=>absurd he (by simpa using h)) (fun _=>?_)) ?_
  ·(conv=>whnf)
   exact Wk.trim 145 (l.length*2) rfl (Wk.same 145 rfl (jc6 l [u]) V.wk)
  ·have pg:=jbI l
   have hb:=jcK l
   have ht:=jaO hl
   have hf:∀ i,D.freeL i (fcl l++[.str S,.str T])=true:=jbB l _ _
   (conv=>whnf)
   refine⟨Pq22z,[],V.pok,.go (jab ?_)⟩
   (conv=>whnf)
   (try simp only[jiA,hkc])
   repeat ((first|refine V.s1 ?_|((try ((with_reducible refine .ext ?_);(conv=>whnf);(try simp only[jiA,hkc])));(with_reducible refine jaa (r:=?_) ?_ ?_);rotate_left;(focus (first|fail));(conv=>whnf))|(((simp only[pg];(conv=>whnf)));(conv=>whnf))|(((simp only[hb,ht,jju,hf];(conv=>whnf)));(conv=>whnf)));(try simp only[jiA,hkc]))
   refine hok he _ _ (Wk.renB 214 145 58 0 (l.length+1) 2 (by decide) (by decide) (by decide) (hf _) rfl rfl rfl ?_)
   exact V.wk
 ·refine Cnd.split (CondB.mk (fun _=>?_) (fun h=>absurd (by simpa using h) he))
  refine V.r0 @jiA ?_
  exact hpan he _ _ V.wk
theorem rdF_clamp (p:List (Int×Int))(x l:List Rat)(u:Rat)(k:Nat)(a:Int)(S T:List UInt8)(e:Int)(hk:k<p.length)(hp:p.length≤40)(hca:p.getD k (0,0)=(12,a))(hl:l.length≤16)
  (cf:Cl 89 [.agg [.str (decZ u.num),.str (dec u.den)]] (.tup [.agg [.str S,.str T],.int .i64 e])) {K:K3}
  (hok:e=0 → ∀ L H,Wk 103 L H (slM p (k+1)) (hpF x (l.length+1) (fcl l++[.str S,.str T]))→K .normal L H)
  (hpan:e≠0 → ∀ L H,Wk 103 L H slE hpE→K (.panic [{ v := .iface 155 (.agg #[.int .i64 e]),recovered:=false }]) L H) :
  RunC Tryz.prog tb (inlN Tryz.prog tb 6) 42 ((jaF (Tryz.f49.body.getD .skip)).getD .skip) (fun _ _ _ _ _=>False) 103 (slM p k) (hpF x (l.length+1) (fcl (l++[u]))) K:=by
 have hkc:((k:Int)+1)=((k+1:Nat):Int):=by omega
 have hne:decide ((k:Int)=p.length)=false:=decide_eq_false (by omega)
 have pg:=jbI (l++[u])
 have tk:Cl 120 [.int .i64 12] (.tup [.int .i64 1,.bool true]):=jbl 12
 have hr:(((l.length+1:Nat):Int)-1)=(l.length:Nat):=by omega
 have hble:Nat.ble (0+(l.length+1)*2) (fcl (l++[u])).length=true:=by rw[jb7,ji0];simp
 have hsub:l.length+1-l.length=1:=by omega
 have hd0:∀ K,dropK (fcl (l++[u])) (l.length*2+Int.toNat 0*2) K=K (fcl [u]):=fun K=>jbC [u] K l
 (conv=>whnf)
 (try simp only[hne,jiA,hca])
 repeat ((first|refine V.s1 ?_|((try ((with_reducible refine .ext ?_);(conv=>whnf);(try simp only[hne,jiA,hca])));(with_reducible refine jaa (r:=?_) ?_ ?_);rotate_left;(focus (first|fail));(conv=>whnf))|(((simp only[pg];(conv=>whnf)));(conv=>whnf)));(try simp only[hne,jiA,hca]))
 refine .inl ?_
 (conv=>whnf)
 refine⟨0,_,_,⟨Tryz.func95,rfl,rfl,jis rfl⟩,?_⟩
 (conv=>whnf)
 (conv=>whnf)
 (try simp only[jiA])
 repeat ((first|refine V.s1 ?_|((try ((with_reducible refine .ext ?_);(conv=>whnf);(try simp only[jiA])));(with_reducible refine jaa (r:=?_) ?_ ?_);rotate_left;(focus (first|exact(tk)));(conv=>whnf))|(((simp only[pg];(conv=>whnf)));(conv=>whnf)));(try simp only[jiA]))
 refine .inl ?_
 (conv=>whnf)
 refine⟨0,_,_,⟨Tryz.func177,rfl,rfl,jis rfl⟩,?_⟩
 (conv=>whnf)
 (conv=>whnf)
 (try simp only[hr,jiA])
 repeat ((first|refine V.s1 ?_|((try ((with_reducible refine .ext ?_);(conv=>whnf);(try simp only[hr,jiA])));(with_reducible refine jaa (r:=?_) ?_ ?_);rotate_left;(focus (first|exact(tk)));(conv=>whnf))|(((simp only[pg];(conv=>whnf)));(conv=>whnf))|(((simp only[hr,jiA,hsub];(conv=>whnf)));(conv=>whnf))|(((simp only[hble];(conv=>whnf)));(conv=>whnf)));(try simp only[hr,jiA]))
 refine⟨Pq8z,[],V.pok,.go (jab ?_)⟩
 (conv=>whnf)
 (try simp only[jiA])
 repeat ((first|refine V.s1 ?_|((try ((with_reducible refine .ext ?_);(conv=>whnf);(try simp only[jiA])));(with_reducible refine jaa (r:=?_) ?_ ?_);rotate_left;(focus (first|fail));(conv=>whnf))|(((simp only[pg];(conv=>whnf)));(conv=>whnf)));(try simp only[jiA]))
 refine .inl ?_
 (conv=>whnf)
 refine⟨0,_,_,⟨Tryz.func171,rfl,rfl,jis rfl⟩,?_⟩
 (conv=>whnf)
 (conv=>whnf)
 (try simp only[jiA])
 repeat ((first|refine V.s1 ?_|((try ((with_reducible refine .ext ?_);(conv=>whnf);(try simp only[jiA])));(with_reducible refine jaa (r:=?_) ?_ ?_);rotate_left;(focus (first|fail));(conv=>whnf))|(((simp only[pg];(conv=>whnf)));(conv=>whnf)));(try simp only[jiA]))
 refine⟨Pq38z,[],V.pok,.go (jab ?_)⟩
 (conv=>whnf)
 (try simp only[jij])
 repeat ((first|refine V.s1 ?_|((try ((with_reducible refine .ext ?_);(conv=>whnf);(try simp only[jij])));(with_reducible refine jaa (r:=?_) ?_ ?_);rotate_left;(focus (first|exact(cf)));(conv=>whnf))|(((simp only[pg];(conv=>whnf)));(conv=>whnf))|(((simp only[hd0];(conv=>whnf)));(conv=>whnf)));(try simp only[jij]))
 refine .inl ?_
 (conv=>whnf)
 refine⟨0,_,_,⟨Tryz.func176,rfl,rfl,jis rfl⟩,?_⟩
 (conv=>whnf)
 (conv=>whnf)
 (try simp only[jiA])
 repeat ((first|refine V.s1 ?_|((try ((with_reducible refine .ext ?_);(conv=>whnf);(try simp only[jiA])));(with_reducible refine jaa (r:=?_) ?_ ?_);rotate_left;(focus (first|fail));(conv=>whnf))|(((simp only[pg];(conv=>whnf)));(conv=>whnf)));(try simp only[jiA]))
 by_cases he:e=0
 ·refine jbP [(0,.box 58 0),(4,.box 200 0)] [(58,.box [.bsl 145 0 l.length 2,inF x,.fn 76 [] [],.mapr 44]),(145,.box (fcl l)),(200,.box [.str S,.str T]),(44,.mp esF),(114,.mp stepsF),(64,.box [.nil]),(65,.box [.int .i64 0])] (CondB.mk (fun h=>absurd he (by simpa using h)) (fun _=>?_)) ?_
  ·(conv=>whnf)
   exact Wk.trim 145 (l.length*2) rfl (Wk.same 145 rfl (jc6 l [u]) V.wk)
  ·have pg:=jbI l
   have hb:=jcK l
   have ht:=jaO hl
   have hf:∀ i,D.freeL i (fcl l++[.str S,.str T])=true:=jbB l _ _
   (conv=>whnf)
   refine⟨Pq22z,[],V.pok,.go (jab ?_)⟩
   (conv=>whnf)
   (try simp only[jiA,hkc])
   repeat ((first|refine V.s1 ?_|((try ((with_reducible refine .ext ?_);(conv=>whnf);(try simp only[jiA,hkc])));(with_reducible refine jaa (r:=?_) ?_ ?_);rotate_left;(focus (first|fail));(conv=>whnf))|(((simp only[pg];(conv=>whnf)));(conv=>whnf))|(((simp only[hb,ht,jju,hf];(conv=>whnf)));(conv=>whnf)));(try simp only[jiA,hkc]))
   refine hok he _ _ (Wk.renB 214 145 58 0 (l.length+1) 2 (by decide) (by decide) (by decide) (hf _) rfl rfl rfl ?_)
   exact V.wk
 ·refine Cnd.split (CondB.mk (fun _=>?_) (fun h=>absurd (by simpa using h) he))
  refine V.r0 @jiA ?_
  exact hpan he _ _ V.wk
theorem rdF_pick1 (p:List (Int×Int))(x l:List Rat)(u v w:Rat)(k:Nat)(a:Int)(s:Int)(hk:k<p.length)(hp:p.length≤40)(hca:p.getD k (0,0)=(10,a))(hl:l.length≤16)
  (sg:Cl 88 [.agg [.str (decZ w.num),.str (dec w.den)]] (.tup [.int .i64 s,.int .i64 0])) (hs:decide (s<0)=true) {K:K3}
  (hok:∀ L H,Wk 103 L H (slM p (k+1)) (hpF x (l.length+1) (fcl l++[.str (decZ v.num),.str (dec v.den)]))→K .normal L H) :
  RunC Tryz.prog tb (inlN Tryz.prog tb 6) 42 ((jaF (Tryz.f49.body.getD .skip)).getD .skip) (fun _ _ _ _ _=>False) 103 (slM p k) (hpF x (l.length+3) (fcl (l++[u,v,w]))) K:=by
 have hkc:((k:Int)+1)=((k+1:Nat):Int):=by omega
 have hne:decide ((k:Int)=p.length)=false:=decide_eq_false (by omega)
 have pg:=jbI (l++[u,v,w])
 have tk:Cl 120 [.int .i64 10] (.tup [.int .i64 3,.bool true]):=jbl 10
 have hr:(((l.length+3:Nat):Int)-3)=(l.length:Nat):=by omega
 have hble:Nat.ble (0+(l.length+3)*2) (fcl (l++[u,v,w])).length=true:=by rw[jb7,ji0];simp
 have hsub:l.length+3-l.length=3:=by omega
 have hd0:∀ K,dropK (fcl (l++[u,v,w])) (l.length*2+Int.toNat 0*2) K=K (fcl [u,v,w]):=fun K=>jbC [u,v,w] K l
 have hd1:∀ K,dropK (fcl (l++[u,v,w])) (l.length*2+Int.toNat 1*2) K=K (fcl [v,w]):=fun K=>je4 l [v,w] u K
 have hd2:∀ K,dropK (fcl (l++[u,v,w])) (l.length*2+Int.toNat 2*2) K=K (fcl [w]):=fun K=>jhb l [w] u v K
 (conv=>whnf)
 (try simp only[hne,jiA,hca])
 repeat ((first|refine V.s1 ?_|((try ((with_reducible refine .ext ?_);(conv=>whnf);(try simp only[hne,jiA,hca])));(with_reducible refine jaa (r:=?_) ?_ ?_);rotate_left;(focus (first|fail));(conv=>whnf))|(((simp only[pg];(conv=>whnf)));(conv=>whnf)));(try simp only[hne,jiA,hca]))
 refine .inl ?_
 (conv=>whnf)
 refine⟨0,_,_,⟨Tryz.func95,rfl,rfl,jis rfl⟩,?_⟩
 (conv=>whnf)
 (conv=>whnf)
 (try simp only[jiA])
 repeat ((first|refine V.s1 ?_|((try ((with_reducible refine .ext ?_);(conv=>whnf);(try simp only[jiA])));(with_reducible refine jaa (r:=?_) ?_ ?_);rotate_left;(focus (first|exact(tk)));(conv=>whnf))|(((simp only[pg];(conv=>whnf)));(conv=>whnf)));(try simp only[jiA]))
 refine .inl ?_
 (conv=>whnf)
 refine⟨0,_,_,⟨Tryz.func177,rfl,rfl,jis rfl⟩,?_⟩
 (conv=>whnf)
 (conv=>whnf)
 (try simp only[hr,jiA])
 repeat ((first|refine V.s1 ?_|((try ((with_reducible refine .ext ?_);(conv=>whnf);(try simp only[hr,jiA])));(with_reducible refine jaa (r:=?_) ?_ ?_);rotate_left;(focus (first|exact(tk)));(conv=>whnf))|(((simp only[pg];(conv=>whnf)));(conv=>whnf))|(((simp only[hr,jiA,hsub];(conv=>whnf)));(conv=>whnf))|(((simp only[hble];(conv=>whnf)));(conv=>whnf)));(try simp only[hr,jiA]))
 refine⟨Pq8z,[],V.pok,.go (jab ?_)⟩
 (conv=>whnf)
 (try simp only[jiA])
 repeat ((first|refine V.s1 ?_|((try ((with_reducible refine .ext ?_);(conv=>whnf);(try simp only[jiA])));(with_reducible refine jaa (r:=?_) ?_ ?_);rotate_left;(focus (first|fail));(conv=>whnf))|(((simp only[pg];(conv=>whnf)));(conv=>whnf)));(try simp only[jiA]))
 refine .inl ?_
 (conv=>whnf)
 refine⟨0,_,_,⟨Tryz.func87,rfl,rfl,jis rfl⟩,?_⟩
 (conv=>whnf)
 (conv=>whnf)
 (try simp only[jij,hs])
 repeat ((first|refine V.s1 ?_|((try ((with_reducible refine .ext ?_);(conv=>whnf);(try simp only[jij,hs])));(with_reducible refine jaa (r:=?_) ?_ ?_);rotate_left;(focus (first|exact(sg)));(conv=>whnf))|(((simp only[pg];(conv=>whnf)));(conv=>whnf))|(((simp only[hd2];(conv=>whnf)));(conv=>whnf))|(((simp only[hd1];(conv=>whnf)));(conv=>whnf)));(try simp only[jij,hs]))
 refine .inl ?_
 (conv=>whnf)
 refine⟨0,_,_,⟨Tryz.func176,rfl,rfl,jis rfl⟩,?_⟩
 (conv=>whnf)
 repeat (simp only[pg];(conv=>whnf))
 refine jbP [(0,.box 58 0),(4,.box 200 0)] [(58,.box [.bsl 145 0 l.length 2,inF x,.fn 76 [] [],.mapr 44]),(145,.box (fcl l)),(200,.box [.str (decZ v.num),.str (dec v.den)]),(44,.mp esF),(114,.mp stepsF),(64,.box [.nil]),(65,.box [.int .i64 0])] (CondB.mk (fun h=>by simp at h) (fun _=>?_)) ?_
 ·(conv=>whnf)
  exact Wk.trim 145 (l.length*2) rfl (Wk.same 145 rfl (jc6 l [u,v,w]) V.wk)
 ·have pg:=jbI l
  have hb:=jcK l
  have ht:=jaO hl
  have hf:∀ i,D.freeL i (fcl l++[.str (decZ v.num),.str (dec v.den)])=true:=jbB l _ _
  (conv=>whnf)
  refine⟨Pq22z,[],V.pok,.go (jab ?_)⟩
  (conv=>whnf)
  (try simp only[jiA,hkc])
  repeat ((first|refine V.s1 ?_|((try ((with_reducible refine .ext ?_);(conv=>whnf);(try simp only[jiA,hkc])));(with_reducible refine jaa (r:=?_) ?_ ?_);rotate_left;(focus (first|fail));(conv=>whnf))|(((simp only[pg];(conv=>whnf)));(conv=>whnf))|(((simp only[hb,ht,jju,hf];(conv=>whnf)));(conv=>whnf)));(try simp only[jiA,hkc]))
  refine hok _ _ (Wk.renB 214 145 58 0 (l.length+1) 2 (by decide) (by decide) (by decide) (hf _) rfl rfl rfl ?_)
  exact V.wk
theorem rdF_pick0 (p:List (Int×Int))(x l:List Rat)(u v w:Rat)(k:Nat)(a:Int)(s:Int)(hk:k<p.length)(hp:p.length≤40)(hca:p.getD k (0,0)=(10,a))(hl:l.length≤16)
  (sg:Cl 88 [.agg [.str (decZ w.num),.str (dec w.den)]] (.tup [.int .i64 s,.int .i64 0])) (hs:decide (s<0)=false) {K:K3}
  (hok:∀ L H,Wk 103 L H (slM p (k+1)) (hpF x (l.length+1) (fcl l++[.str (decZ u.num),.str (dec u.den)]))→K .normal L H) :
  RunC Tryz.prog tb (inlN Tryz.prog tb 6) 42 ((jaF (Tryz.f49.body.getD .skip)).getD .skip) (fun _ _ _ _ _=>False) 103 (slM p k) (hpF x (l.length+3) (fcl (l++[u,v,w]))) K:=by
 have hkc:((k:Int)+1)=((k+1:Nat):Int):=by omega
 have hne:decide ((k:Int)=p.length)=false:=decide_eq_false (by omega)
 have pg:=jbI (l++[u,v,w])
 have tk:Cl 120 [.int .i64 10] (.tup [.int .i64 3,.bool true]):=jbl 10
 have hr:(((l.length+3:Nat):Int)-3)=(l.length:Nat):=by omega
 have hble:Nat.ble (0+(l.length+3)*2) (fcl (l++[u,v,w])).length=true:=by rw[jb7,ji0];simp
 have hsub:l.length+3-l.length=3:=by omega
 have hd0:∀ K,dropK (fcl (l++[u,v,w])) (l.length*2+Int.toNat 0*2) K=K (fcl [u,v,w]):=fun K=>jbC [u,v,w] K l
 have hd1:∀ K,dropK (fcl (l++[u,v,w])) (l.length*2+Int.toNat 1*2) K=K (fcl [v,w]):=fun K=>je4 l [v,w] u K
 have hd2:∀ K,dropK (fcl (l++[u,v,w])) (l.length*2+Int.toNat 2*2) K=K (fcl [w]):=fun K=>jhb l [w] u v K
 (conv=>whnf)
 (try simp only[hne,jiA,hca])
 repeat ((first|refine V.s1 ?_|((try ((with_reducible refine .ext ?_);(conv=>whnf);(try simp only[hne,jiA,hca])));(with_reducible refine jaa (r:=?_) ?_ ?_);rotate_left;(focus (first|fail));(conv=>whnf))|(((simp only[pg];(conv=>whnf)));(conv=>whnf)));(try simp only[hne,jiA,hca]))
 refine .inl ?_
 (conv=>whnf)
 refine⟨0,_,_,⟨Tryz.func95,rfl,rfl,jis rfl⟩,?_⟩
 (conv=>whnf)
 (conv=>whnf)
 (try simp only[jiA])
 repeat ((first|refine V.s1 ?_|((try ((with_reducible refine .ext ?_);(conv=>whnf);(try simp only[jiA])));(with_reducible refine jaa (r:=?_) ?_ ?_);rotate_left;(focus (first|exact(tk)));(conv=>whnf))|(((simp only[pg];(conv=>whnf)));(conv=>whnf)));(try simp only[jiA]))
 refine .inl ?_
 (conv=>whnf)
 refine⟨0,_,_,⟨Tryz.func177,rfl,rfl,jis rfl⟩,?_⟩
 (conv=>whnf)
 (conv=>whnf)
 (try simp only[hr,jiA])
 repeat ((first|refine V.s1 ?_|((try ((with_reducible refine .ext ?_);(conv=>whnf);(try simp only[hr,jiA])));(with_reducible refine jaa (r:=?_) ?_ ?_);rotate_left;(focus (first|exact(tk)));(conv=>whnf))|(((simp only[pg];(conv=>whnf)));(conv=>whnf))|(((simp only[hr,jiA,hsub];(conv=>whnf)));(conv=>whnf))|(((simp only[hble];(conv=>whnf)));(conv=>whnf)));(try simp only[hr,jiA]))
 refine⟨Pq8z,[],V.pok,.go (jab ?_)⟩
 (conv=>whnf)
 (try simp only[jiA])
 repeat ((first|refine V.s1 ?_|((try ((with_reducible refine .ext ?_);(conv=>whnf);(try simp only[jiA])));(with_reducible refine jaa (r:=?_) ?_ ?_);rotate_left;(focus (first|fail));(conv=>whnf))|(((simp only[pg];(conv=>whnf)));(conv=>whnf)));(try simp only[jiA]))
 refine .inl ?_
 (conv=>whnf)
 refine⟨0,_,_,⟨Tryz.func87,rfl,rfl,jis rfl⟩,?_⟩
 (conv=>whnf)
 (conv=>whnf)
 (try simp only[jij,hs])
 repeat ((first|refine V.s1 ?_|((try ((with_reducible refine .ext ?_);(conv=>whnf);(try simp only[jij,hs])));(with_reducible refine jaa (r:=?_) ?_ ?_);rotate_left;(focus (first|exact(sg)));(conv=>whnf))|(((simp only[pg];(conv=>whnf)));(conv=>whnf))|(((simp only[hd2];(conv=>whnf)));(conv=>whnf))|(((simp only[hd0];(conv=>whnf)));(conv=>whnf)));(try simp only[jij,hs]))
 refine .inl ?_
 (conv=>whnf)
 refine⟨0,_,_,⟨Tryz.func176,rfl,rfl,jis rfl⟩,?_⟩
 (conv=>whnf)
 repeat (simp only[pg];(conv=>whnf))
 refine jbP [(0,.box 58 0),(4,.box 200 0)] [(58,.box [.bsl 145 0 l.length 2,inF x,.fn 76 [] [],.mapr 44]),(145,.box (fcl l)),(200,.box [.str (decZ u.num),.str (dec u.den)]),(44,.mp esF),(114,.mp stepsF),(64,.box [.nil]),(65,.box [.int .i64 0])] (CondB.mk (fun h=>by simp at h) (fun _=>?_)) ?_
 ·(conv=>whnf)
  exact Wk.trim 145 (l.length*2) rfl (Wk.same 145 rfl (jc6 l [u,v,w]) V.wk)
 ·have pg:=jbI l
  have hb:=jcK l
  have ht:=jaO hl
  have hf:∀ i,D.freeL i (fcl l++[.str (decZ u.num),.str (dec u.den)])=true:=jbB l _ _
  (conv=>whnf)
  refine⟨Pq22z,[],V.pok,.go (jab ?_)⟩
  (conv=>whnf)
  (try simp only[jiA,hkc])
  repeat ((first|refine V.s1 ?_|((try ((with_reducible refine .ext ?_);(conv=>whnf);(try simp only[jiA,hkc])));(with_reducible refine jaa (r:=?_) ?_ ?_);rotate_left;(focus (first|fail));(conv=>whnf))|(((simp only[pg];(conv=>whnf)));(conv=>whnf))|(((simp only[hb,ht,jju,hf];(conv=>whnf)));(conv=>whnf)));(try simp only[jiA,hkc]))
  refine hok _ _ (Wk.renB 214 145 58 0 (l.length+1) 2 (by decide) (by decide) (by decide) (hf _) rfl rfl rfl ?_)
  exact V.wk
def opF (c:Int):List Rat→Rat×Int
 | [u]=>if c=8 then (-u,0) else if c=9 then (absQ u,0) else (clQ u,0)
 | [u,v]=>
  let r:=if c=3 then u+v else if c=4 then u-v else if c=5 then u*v else if c=6 then (if v<u then v else u) else (if u<v then v else u)
  (r,cond (okF r) 0 6)
 | [u,v,w]=>(if w.num.sign<0 then v else u,0)
 | _=>(0,0)
def mF:Mc Rat:=⟨fun n=>Rat.divInt n 1000000,opF⟩
def hpA (x:List Rat):List Rat→Hp
 | []=>hpF0 x
 | q::l=>hpF x (q::l).length (fcl (q::l))
theorem jc4 (x l:List Rat)(q:Rat):hpA x (l++[q])=hpF x (l.length+1) (fcl l++[.str (decZ q.num),.str (dec q.den)]):=by
 have e:hpA x (l++[q])=hpF x (l++[q]).length (fcl (l++[q])):=by cases l<;>rfl
 rw[e,jgt,ji8]
 rfl
theorem jhL (x l t:List Rat)(h:0<t.length):hpA x (l++t)=hpF x (l.length+t.length) (fcl (l++t)):=by
 rw[← ji8]
 cases l with
 | nil=>cases t with
  | nil=>simp at h
  | cons q t=>rfl
 | cons q l=>rfl
theorem jfz {α:Type}[Inhabited α](M:Mc α)(x l t:List α)(c a:Int)(h1:c≠1)(h2:c≠2)(h3:c≠11)(ht:(tkn c).toNat=t.length):stM M x (c,a) (l++t)=putM l (M.op c t):=by
 unfold stM
 dsimp only
 rw[if_neg h1,if_neg h2,if_neg h3,ht,ji8,Nat.add_sub_cancel,List.take_left,List.drop_left]
theorem snoc1 {α:Type} : ∀ l:List α,1≤l.length → ∃ m u,l=m++[u]:=fun l h=>by
 have hn:l≠[]:=by rintro rfl;simp at h
 exact⟨l.dropLast,l.getLast hn,(List.dropLast_concat_getLast hn).symm⟩
theorem snoc2 {α:Type}(l:List α)(h:2≤l.length):∃ m u v,l=m++[u,v]:=by
 obtain⟨m,v,rfl⟩:=snoc1 l (by omega)
 obtain⟨n,u,rfl⟩:=snoc1 m (by simp at h;omega)
 exact⟨n,u,v,by simp⟩
theorem snoc3 {α:Type}(l:List α)(h:3≤l.length):∃ m u v w,l=m++[u,v,w]:=by
 obtain⟨m,w,rfl⟩:=snoc1 l (by omega)
 obtain⟨n,u,v,rfl⟩:=snoc2 m (by simp at h;omega)
 exact⟨n,u,v,w,by simp⟩
abbrev rndF (p:List (Int×Int))(k:Nat)(H:Hp)(K:K3):Prop:=RunC Tryz.prog tb (inlN Tryz.prog tb 6) 42 ((jaF (Tryz.f49.body.getD .skip)).getD .skip) (fun _ _ _ _ _=>False) 103 (slM p k) H K
theorem jbM {l m:List Rat}{P:Rat→Prop}(h:∀ q∈l++m,P q):(∀ q∈l,P q) ∧ ∀ q∈m,P q:=⟨fun q hq=>h q (List.mem_append_left _ hq),fun q hq=>h q (List.mem_append_right _ hq)⟩
theorem jcD {l:List Rat}{P:Rat→Prop}{q:Rat}(h:∀ q∈l,P q)(hq:P q):∀ r∈l++[q],P r:=fun r hr=>by
 rcases jjh.1 hr with h1|h1
 ·exact h r h1
 ·rw[List.mem_singleton.1 h1];exact hq
abbrev pnc (e:Int):Exit := .panic [{ v := .iface 155 (.agg #[.int .i64 e]),recovered:=false }]
theorem jgV (n:Int)(h : -1000000000≤n∧n≤1000000000):okF (Rat.divInt n 1000000)=true:=(jdO (n:=n) (m:=1000000) (by omega) (by omega)).ok (by omega) (by omega)
section
variable {p : List (Int × Int)} {x l : List Rat} {k : Nat} {a : Int} {K : K3} (hk : k < p.length) (hp : p.length ≤ 40) (okx : ∀ q ∈ x, okF q = true) (okl : ∀ q ∈ l, okF q = true)
theorem jgH {c : Int} {fn : Nat} {r : Rat} {u v : Rat} {m : List Rat} (hl : l = m ++ [u, v]) (h1 : c ≠ 1) (h2 : c ≠ 2) (h3 : c ≠ 11) (ht : tkn c = 2) (hr : opF c [u, v] = (r, cond (okF r) 0 6)) (cf : Cl fn [frT u, frT v] (frR r))
    (rd : ∀ (S T : List UInt8) (e : Int) (cf : Cl fn [.agg [.str (decZ u.num), .str (dec u.den)], .agg [.str (decZ v.num), .str (dec v.den)]] (.tup [.agg [.str S, .str T], .int .i64 e]))
      (hok : e = 0 → ∀ L H, Wk 103 L H (slM p (k + 1)) (hpF x (m.length + 1) (fcl m ++ [.str S, .str T])) → K .normal L H)
      (hpan : e ≠ 0 → ∀ L H, Wk 103 L H slE hpE → K (pnc e) L H), rndF p k (hpF x (m.length + 2) (fcl (m ++ [u, v]))) K)
    (hok : ∀ l', stM mF x (c, a) l = .ok l' → (∀ q ∈ l', okF q = true) → ∀ L H, Wk 103 L H (slM p (k + 1)) (hpA x l') → K .normal L H)
    (hpan : ∀ e, (0 < e ∧ e < 1000) → stM mF x (c, a) l = .error e → ∀ L H, Wk 103 L H slE hpE → K (pnc e) L H) (okl : ∀ q ∈ l, okF q = true) : rndF p k (hpA x l) K := by
  subst hl
  have hs : stM mF x (c, a) (m ++ [u, v]) = putM m (r, cond (okF r) 0 6) := by rw [jfz mF x m [u, v] c a h1 h2 h3 (by rw [ht]; rfl), ← hr]; rfl
  rw [hs] at hok hpan
  rw [jhL x m [u, v] (by simp)]
  unfold frR at cf
  unfold frT at cf
  refine rd _ _ _ cf (fun he L H w => ?_) (fun he L H w => ?_)
  · cases ho : okF r with
    | false => rw [ho] at he; cases he
    | true =>
      rw [ho] at hok w
      refine hok (m ++ [r]) rfl (jcD (jbM okl).1 ho) L H ?_
      rw [jc4]; exact w
  · cases ho : okF r with
    | true => rw [ho] at he; exact absurd rfl he
    | false =>
      rw [ho] at hpan
      exact hpan 6 (by decide) rfl L H w
theorem st_one {c : Int} {fn : Nat} {r : Rat} {u : Rat} {m : List Rat} (hl : l = m ++ [u]) (h1 : c ≠ 1) (h2 : c ≠ 2) (h3 : c ≠ 11) (ht : tkn c = 1) (hr : opF c [u] = (r, 0)) (cf : Cl fn [frT u] (.tup [frT r, .int .i64 0])) (ho : okF r = true)
    (rd : ∀ (S T : List UInt8) (e : Int) (cf : Cl fn [.agg [.str (decZ u.num), .str (dec u.den)]] (.tup [.agg [.str S, .str T], .int .i64 e]))
      (hok : e = 0 → ∀ L H, Wk 103 L H (slM p (k + 1)) (hpF x (m.length + 1) (fcl m ++ [.str S, .str T])) → K .normal L H)
      (hpan : e ≠ 0 → ∀ L H, Wk 103 L H slE hpE → K (pnc e) L H), rndF p k (hpF x (m.length + 1) (fcl (m ++ [u]))) K)
    (hok : ∀ l', stM mF x (c, a) l = .ok l' → (∀ q ∈ l', okF q = true) → ∀ L H, Wk 103 L H (slM p (k + 1)) (hpA x l') → K .normal L H) (okl : ∀ q ∈ l, okF q = true) : rndF p k (hpA x l) K := by
  subst hl
  have hs : stM mF x (c, a) (m ++ [u]) = putM m (r, 0) := by rw [jfz mF x m [u] c a h1 h2 h3 (by rw [ht]; rfl), ← hr]; rfl
  rw [hs] at hok
  rw [jhL x m [u] (by simp)]
  unfold frT at cf
  refine rd _ _ _ cf (fun he L H w => ?_) (fun he L H w => absurd rfl he)
  refine hok (m ++ [r]) rfl (jcD (jbM okl).1 ho) L H ?_
  rw [jc4]; exact w
end
theorem step_F {p:List (Int×Int)}{x l:List Rat}{k:Nat}{s s':Int×Int}{K:K3}(hk:k<p.length)(hp:p.length≤40)(hs:svS x.length s (p.getD k (0,0))=some s')(hl:s.1=(l.length:Int))(h16:s.1≤16)(okx:∀ q∈x,okF q=true)(okl:∀ q∈l,okF q=true)
  (hok:∀ l',stM mF x (p.getD k (0,0)) l = .ok l'→(∀ q∈l',okF q=true) → ∀ L H,Wk 103 L H (slM p (k+1)) (hpA x l')→K .normal L H)
  (hpan:∀ e,(0<e∧e<1000)→stM mF x (p.getD k (0,0)) l = .error e → ∀ L H,Wk 103 L H slE hpE→K (pnc e) L H):rndF p k (hpA x l) K:=by
 obtain⟨c,a,hca⟩:∃ c a,p.getD k (0,0)=(c,a):=⟨_,_,rfl⟩
 rw[hca] at hs hok hpan
 unfold svS at hs
 split at hs
 case isFalse=>cases hs
 rename_i hc
 clear hs
 obtain⟨g1,g2,g3,g4,g5⟩:=hc
 dsimp only at g1 g2 g3 g4 g5
 unfold tkb at g1
 simp only[decide_eq_true_eq] at g1
 have hl16:l.length≤16:=by omega
 have cs:c=1∨c=2∨c=11∨c=3∨c=4∨c=5∨c=6∨c=7∨c=8∨c=9∨c=12∨c=10:=by omega
 have okd:∀ (y:List Rat) (n:Nat),n<y.length→(∀ q∈y,okF q=true)→okF (y.getD n default)=true:=fun y n hn h=>by
  rw[ji3,ji6 hn];exact h _ (ji7 hn)
 rcases cs with rfl|rfl|rfl|h2
 ·have ha:0≤a∧a<x.length:=by simp[loA,hiA] at g3 g4;omega
  have st:stM mF x (1,a) l = .ok (l++[x.getD a.toNat 0]):=rfl
  have w1:∀ L H,Wk 103 L H (slM p (k+1)) (hpA x (l++[x.getD a.toNat 0]))→K .normal L H:=fun L H w=>hok _ st (jcD okl (okd x a.toNat (by omega) okx)) L H w
  rw[jc4] at w1
  cases l with
  | nil=>exact rdF_in0 p x k a hk hp hca ha w1
  | cons q l=>exact rdF_in1 p x (q::l) k a hk hp hca ha hl16 w1
 ·have ha : -1000000000≤a∧a≤1000000000:=by simp[loA,hiA] at g3 g4;omega
  have st:stM mF x (2,a) l = .ok (l++[Rat.divInt a 1000000]):=rfl
  have w1:∀ L H,Wk 103 L H (slM p (k+1)) (hpA x (l++[Rat.divInt a 1000000]))→K .normal L H:=fun L H w=>hok _ st (jcD okl (jgV a ha)) L H w
  have nu:=numF_c a ha
  unfold frT at nu
  rw[jc4] at w1
  cases l with
  | nil=>exact rdF_num0 p x _ _ k a hk hp hca nu w1
  | cons q l=>exact rdF_num1 p x (q::l) _ _ k a hk hp hca nu hl16 w1
 ·have ha:0≤a∧a≤s.1-1:=by simp[loA,hiA] at g3 g4;omega
  obtain⟨j,hj⟩:∃ j,j=l.length-1-a.toNat:=⟨_,rfl⟩
  have hjl:j<l.length:=by omega
  have st:stM mF x (11,a) l = .ok (l++[l.getD j 0]):=by rw[hj];rfl
  have w1:∀ L H,Wk 103 L H (slM p (k+1)) (hpA x (l++[l.getD j 0]))→K .normal L H:=fun L H w=>hok _ st (jcD okl (okd l j hjl okl)) L H w
  rw[jc4] at w1
  have hd:∀ K,dropK (fcl l) (j*2) K=K (.str (decZ (l.getD j 0).num) :: .str (dec (l.getD j 0).den)::fcl (l.drop (j+1))):=fun K=>by
   have e:l=l.take j++(l.getD j 0::l.drop (j+1)):=by
    rw[ji3,ji6 hjl]
    simp
   have d:=jbC (l.getD j 0::l.drop (j+1)) K (l.take j)
   rw[← e,ji9,jix (by omega)] at d
   exact d
  have r:=rdF_copy p x l (l.getD j 0) _ j k a hk hp hca hl16 (by omega) hjl hd w1
  cases l with
  | nil=>simp at hjl
  | cons q l=>exact r
 ·rcases h2 with rfl|rfl|rfl|rfl|rfl|h2
  ·obtain⟨m,u,v,rfl⟩:=snoc2 l (by have:tkn 3=2:=rfl;omega)
   have o2:=(jbM okl).2
   exact jgH (a:=a) rfl (by decide) (by decide) (by decide) rfl rfl (fadd_f (o2 u (by simp)) (o2 v (by simp))) (fun S T e cf h1 h2=>jeG (.inl ⟨rfl,rfl⟩) p x m u v k a S T e hk hp hca (by simp at hl16;omega) cf h1 h2) hok hpan okl
  ·obtain⟨m,u,v,rfl⟩:=snoc2 l (by have:tkn 4=2:=rfl;omega)
   have o2:=(jbM okl).2
   exact jgH (a:=a) rfl (by decide) (by decide) (by decide) rfl rfl (fsub_f (o2 u (by simp)) (o2 v (by simp))) (fun S T e cf h1 h2=>jeG (.inr (.inl ⟨rfl,rfl⟩)) p x m u v k a S T e hk hp hca (by simp at hl16;omega) cf h1 h2) hok hpan okl
  ·obtain⟨m,u,v,rfl⟩:=snoc2 l (by have:tkn 5=2:=rfl;omega)
   have o2:=(jbM okl).2
   exact jgH (a:=a) rfl (by decide) (by decide) (by decide) rfl rfl (fmul_f (o2 u (by simp)) (o2 v (by simp))) (fun S T e cf h1 h2=>jeG (.inr (.inr (.inl ⟨rfl,rfl⟩))) p x m u v k a S T e hk hp hca (by simp at hl16;omega) cf h1 h2) hok hpan okl
  ·obtain⟨m,u,v,rfl⟩:=snoc2 l (by have:tkn 6=2:=rfl;omega)
   have o2:=(jbM okl).2
   exact jgH (a:=a) rfl (by decide) (by decide) (by decide) rfl rfl (fmin_f (o2 u (by simp)) (o2 v (by simp))) (fun S T e cf h1 h2=>jeG (.inr (.inr (.inr (.inl ⟨rfl,rfl⟩)))) p x m u v k a S T e hk hp hca (by simp at hl16;omega) cf h1 h2) hok hpan okl
  ·obtain⟨m,u,v,rfl⟩:=snoc2 l (by have:tkn 7=2:=rfl;omega)
   have o2:=(jbM okl).2
   exact jgH (a:=a) rfl (by decide) (by decide) (by decide) rfl rfl (fmax_f (o2 u (by simp)) (o2 v (by simp))) (fun S T e cf h1 h2=>jeG (.inr (.inr (.inr (.inr ⟨rfl,rfl⟩)))) p x m u v k a S T e hk hp hca (by simp at hl16;omega) cf h1 h2) hok hpan okl
  ·rcases h2 with rfl|rfl|rfl|rfl
   ·obtain⟨m,u,rfl⟩:=snoc1 l (by have:tkn 8=1:=rfl;omega)
    have o1:=(jbM okl).2 u (by simp)
    exact st_one (a:=a) rfl (by decide) (by decide) (by decide) rfl rfl (fneg_f o1) (jdW o1) (fun S T e cf h1 h2=>rdF_neg p x m u k a S T e hk hp hca (by simp at hl16;omega) cf h1 h2) hok okl
   ·obtain⟨m,u,rfl⟩:=snoc1 l (by have:tkn 9=1:=rfl;omega)
    have o1:=(jbM okl).2 u (by simp)
    exact st_one (a:=a) rfl (by decide) (by decide) (by decide) rfl rfl (fabs_f o1) (jdX o1) (fun S T e cf h1 h2=>rdF_abs p x m u k a S T e hk hp hca (by simp at hl16;omega) cf h1 h2) hok okl
   ·obtain⟨m,u,rfl⟩:=snoc1 l (by have:tkn 12=1:=rfl;omega)
    have o1:=(jbM okl).2 u (by simp)
    exact st_one (a:=a) rfl (by decide) (by decide) (by decide) rfl rfl (clF_c o1) ((jhO (jaS o1) (by omega)).ok (by omega) (by omega)) (fun S T e cf h1 h2=>rdF_clamp p x m u k a S T e hk hp hca (by simp at hl16;omega) cf h1 h2) hok okl
   ·obtain⟨m,u,v,w,rfl⟩:=snoc3 l (by have:tkn 10=3:=rfl;omega)
    have o3:=(jbM okl).2
    have sg:=fsign_f (o3 w (by simp))
    unfold frT at sg
    have st:stM mF x (10,a) (m++[u,v,w]) = .ok (m++[if w.num.sign<0 then v else u]):=by rw[jfz mF x m [u,v,w] 10 a (by decide) (by decide) (by decide) rfl];rfl
    have w1:∀ L H,Wk 103 L H (slM p (k+1)) (hpA x (m++[if w.num.sign<0 then v else u]))→K .normal L H:=fun L H w'=>hok _ st (jcD (jbM okl).1 (jgW (o3 v (by simp)) (o3 u (by simp)))) L H w'
    rw[jc4] at w1
    rw[jhL x m [u,v,w] (by simp)]
    cases hq:decide (w.num.sign<0) with
    | true=>
     rw[if_pos (of_decide_eq_true hq)] at w1
     exact rdF_pick1 p x m u v w k a _ hk hp hca (by simp at hl16;omega) sg hq w1
    | false=>
     rw[if_neg (of_decide_eq_false hq)] at w1
     exact rdF_pick0 p x m u v w k a _ hk hp hca (by simp at hl16;omega) sg hq w1
def frT_o (x:Rat):D := .agg [.str (decZ x.num),.str (dec x.den)]
def fl (q:Rat):Int:=q.num/(q.den:Int)
def gtr (m x:Rat):Rat:=if m<x then x else m
theorem divInt_eq' (n d:Int)(hd:0<d)(x:Rat):x=Rat.divInt n d↔x.num*d=n*x.den:=by
 have hp:=x.den_pos
 conv=>lhs;rw[← jiZ x]
 exact Rat.divInt_eq_divInt_iff (by omega) (by omega)
theorem unit_eq (m:Int)(x:Rat):x=unit m↔x.num*1000000000000=m*x.den:=divInt_eq' m _ (by decide) x
theorem near_bd (x:Rat):2*(nearZ x 1000000000000*x.den)≤2*(x.num*1000000000000)+x.den∧2*(x.num*1000000000000)+x.den<2*(nearZ x 1000000000000*x.den)+2*x.den:=by
 have hp:=x.den_pos
 unfold nearZ
 have h1:=jiv (x.num*((1000000000000*2:Nat):Int)+x.den) ((x.den*2:Nat):Int)
 have h2:=jiu (x.num*((1000000000000*2:Nat):Int)+x.den) (show ((x.den*2:Nat):Int)≠0 by omega)
 have h3:=jiT (x.num*((1000000000000*2:Nat):Int)+x.den) (show 0<((x.den*2:Nat):Int) by omega)
 generalize (x.num*((1000000000000*2:Nat):Int)+x.den)%((x.den*2:Nat):Int)=r at *
 generalize (x.num*((1000000000000*2:Nat):Int)+x.den)/((x.den*2:Nat):Int)=n at *
 have e:((x.den*2:Nat):Int)*n=2*(n*x.den):=by
  rw[show ((x.den*2:Nat):Int)=2*(x.den:Int) by omega,jiO,jiN (x.den:Int) n]
 rw[e] at h1
 generalize n*(x.den:Int)=y at *
 omega
theorem jgZ (m:Int):nearZ (unit m) 1000000000000=m:=by
 obtain⟨b1,b2⟩:=near_bd (unit m)
 have h:=(unit_eq m (unit m)).1 rfl
 have hp:=(unit m).den_pos
 generalize nearZ (unit m) 1000000000000=n at *
 rw[h] at b1 b2
 generalize (unit m).den=d at *
 rcases Int.lt_trichotomy n m with g|g|g
 ·exfalso
  have:=jiG (show n+1≤m by omega) (show (0:Int)≤d by omega)
  rw[jiV] at this
  omega
 ·exact g
 ·exfalso
  have:=jiG (show m+1≤n by omega) (show (0:Int)≤d by omega)
  rw[jiV] at this
  omega
theorem jia (m:Int)(h:vb m m=true):jgB (unit m)=(m,m,0):=by
 unfold jgB
 rw[jgZ,if_pos h,show ordQ (unit m) (unit m)=0 by unfold ordQ;rw[if_neg Rat.lt_irrefl,if_pos rfl]]
 rw[show min (0:Int) 0=0 from rfl,show max (0:Int) 0=0 from rfl,Int.add_zero]
 unfold mk
 rw[if_pos h]
theorem jgD (f:Nat):Cl 99 [.fn f [] []] (.fn 181 [] [.ref [.fn f [] []]]):=by
 refine V.en tbOk Tryz.func99 ?_
 (conv=>whnf)
 refine V.st ?_
 exact Fin.of rfl
theorem oneB_c (f:Nat):Cl 105 [.fn f [] []] (.fn 190 [] [.ref [.fn f [] []]]):=by
 refine V.en tbOk Tryz.func105 ?_
 (conv=>whnf)
 refine V.st ?_
 exact Fin.of rfl
theorem around_num (n:Int)(h : -1000000000≤n∧n≤1000000000):Cl 98 [frT (Rat.divInt n 1000000)] (.tup [.agg [.int .i64 (n*1000000),.int .i64 (n*1000000)],.int .i64 0]):=by
 have eu:Rat.divInt n 1000000=unit (n*1000000):=by
  unfold unit
  exact(Rat.divInt_mul_right (n:=n) (d:=1000000) (a:=1000000) (by decide)).symm
 have o:=jbg ((jdO (n:=n) (m:=1000000) (by omega) (by omega)).ok (by omega) (by omega))
 have a:=jia (n*1000000) (jaz.2 (by omega))
 rw[← eu] at a
 have c:=around_b (decZ (Rat.divInt n 1000000).num) (dec (Rat.divInt n 1000000).den) o.1 (by rw[o.2,eu,jgZ];omega)
 rw[o.2,a] at c
 exact c
theorem numB_c (n:Int)(h : -1000000000≤n∧n≤1000000000):Cl 97 [.int .i64 n] (.tup [.agg [.int .i64 (n*1000000),.int .i64 (n*1000000)],.int .i64 0]):=by
 have c:=y_of (n:=n) (m:=1000000) (by omega) (by omega)
 have a:=around_num n h
 unfold frT at *
 generalize Rat.divInt n 1000000=q at *
 generalize n*1000000=m at *
 refine V.en tbOk Tryz.func97 ?_
 (conv=>whnf)
 refine V.st ?_
 repeat ((try ((with_reducible refine .ext ?_);(conv=>whnf)));(with_reducible refine jaa (r:=?_) ?_ ?_);rotate_left;(focus (first|exact(c)|exact(a)));(conv=>whnf);refine V.st ?_)
 exact Fin.of rfl
theorem clB_c (p q:Int)(h:vb p q=true):Cl 110 [.agg [.int .i64 p,.int .i64 q]] (.tup [.agg [.int .i64 (min (max p 0) 1000000000000),.int .i64 (min (max q 0) 1000000000000)],.int .i64 0]):=by
 have c:=clamp_b p q 0 1000000000000
 have v:=jaz.1 h
 rw[if_pos h,if_pos (jaz.2 (by omega))] at c
 have e:mk (min (max p 0) 1000000000000) (min (max q 0) 1000000000000)=(min (max p 0) 1000000000000,min (max q 0) 1000000000000,0):=by
  unfold mk
  rw[if_pos (jaz.2 (by omega))]
 rw[e] at c
 unfold bA bD at c
 generalize min (max p 0) 1000000000000=x at *
 generalize min (max q 0) 1000000000000=y at *
 refine V.en tbOk Tryz.func110 ?_
 (conv=>whnf)
 refine V.st ?_
 repeat ((try ((with_reducible refine .ext ?_);(conv=>whnf)));(with_reducible refine jaa (r:=?_) ?_ ?_);rotate_left;(focus (first|exact(c)));(conv=>whnf);refine V.st ?_)
 exact Fin.of rfl
def bcl:List (Int×Int)→List D
 | []=>[]
 | q::l => .int .i64 q.1 :: .int .i64 q.2::bcl l
theorem jaM (l m:List (Int×Int)):bcl (l++m)=bcl l++bcl m:=by
 induction l with
 | nil=>rfl
 | cons q l ih=>simp[bcl,ih]
theorem jaU (l:List (Int×Int)):(bcl l).length=l.length*2:=by
 induction l with
 | nil=>rfl
 | cons q l ih=>simp only[bcl,jji,ih];omega
theorem jby (l:List (Int×Int)):Nat.beq (bcl l).length (l.length*2)=true:=by rw[jaU];exact jip _
theorem jaA (l:List (Int×Int))(i:Nat)(K:List D→Prop):jbR i (bcl l) K=K (bcl l):=by
 have e:∀ m:List (Int×Int),jbw i (bcl m)=bcl m:=fun m=>by
  induction m with
  | nil=>rfl
  | cons q m ih=>simp only[bcl,jbw,D.free,ih]
 rw[jcC,e]
theorem jcL (l r:List (Int×Int)):(bcl (l++r)).take (l.length*2)=bcl l:=by
 rw[jaM,List.take_append_of_le_length (by rw[jaU];omega),jjl (by rw[jaU];omega)]
theorem jaB (l:List (Int×Int))(S T:Int)(i:Nat):D.freeL i (bcl l++[.int .i64 S,.int .i64 T])=true:=by
 induction l with
 | nil=>rfl
 | cons q l ih=>simp only[bcl,ji1,D.freeL,D.free];exact ih
theorem jbt (r:List (Int×Int))(K:List D→Prop):∀ l:List (Int×Int),dropK (bcl (l++r)) (l.length*2) K=K (bcl r)
 | []=>by simp only[jjg,List.length_nil,Nat.zero_mul,dropK]
 | q::l=>by
  have e:(q::l).length*2=l.length*2+1+1:=by simp only[jji];omega
  rw[e]
  simp only[ji1,bcl,dropK]
  exact jbt r K l
theorem jdM (l r:List (Int×Int))(u:(Int×Int))(K:List D→Prop):dropK (bcl (l++u::r)) (l.length*2+2) K=K (bcl r):=by
 have:=jbt r K (l++[u])
 rw[jja,ji8,Nat.add_mul] at this
 exact this
theorem jfm (l r:List (Int×Int))(u v:(Int×Int))(K:List D→Prop):dropK (bcl (l++u::v::r)) (l.length*2+4) K=K (bcl r):=by
 have:=jbt r K (l++[u,v])
 rw[jja,ji8,Nat.add_mul] at this
 exact this
theorem jdl (r:List D)(n:Nat)(K:D→Prop):∀ l:List (Int×Int),nthK (bcl l++r) (l.length*2+n) K=nthK r n K
 | []=>by simp only[bcl,jjg,List.length_nil,Nat.zero_mul,jiy]
 | q::l=>by
  have e:(q::l).length*2+n=l.length*2+n+1+1:=by simp only[jji];omega
  rw[e]
  simp only[ji1,bcl,nthK]
  exact jdl r n K l
abbrev inB (x:List (Int×Int)):D := .slf 2 x.length (fun j=>[.int .i64 (x.getD j (0,0)).1,.int .i64 (x.getD j (0,0)).2])
abbrev esB:List (Int×D):=[(3,.fn 181 [] [.ref [.fn 100 [] []]]),(4,.fn 181 [] [.ref [.fn 101 [] []]]),(5,.fn 181 [] [.ref [.fn 102 [] []]]),(6,.fn 181 [] [.ref [.fn 103 [] []]]),(7,.fn 181 [] [.ref [.fn 104 [] []]]),(8,.fn 190 [] [.ref [.fn 106 [] []]]),(9,.fn 190 [] [.ref [.fn 107 [] []]]),(10,.fn 108 [] []),(12,.fn 190 [] [.ref [.fn 110 [] []]])]
abbrev stepsB:List (Int×D):=[(1,.fn 113 [] []),(2,.fn 114 [] []),(11,.fn 115 [] [])]
abbrev hpB0 (x:List (Int×Int)):Hp:=[(58,.box [.nil,inB x,.fn 97 [] [],.mapr 44]),(44,.mp esB),(114,.mp stepsB),(64,.box [.nil]),(65,.box [.int .i64 0])]
abbrev hpB (x:List (Int×Int))(n:Nat)(cs:List D):Hp:=[(58,.box [.bsl 145 0 n 2,inB x,.fn 97 [] [],.mapr 44]),(145,.box cs),(44,.mp esB),(114,.mp stepsB),(64,.box [.nil]),(65,.box [.int .i64 0])]
theorem rdB_in0 (p:List (Int×Int))(x:List (Int×Int))(k:Nat)(a:Int)(hk:k<p.length)(hp:p.length≤40)(hca:p.getD k (0,0)=(1,a))(ha:0≤a∧a<x.length){K:K3}
  (hok:∀ L H,Wk 103 L H (slM p (k+1)) (hpB x 1 [.int .i64 (x.getD a.toNat (0,0)).1,.int .i64 (x.getD a.toNat (0,0)).2])→K .normal L H):RunC Tryz.prog tb (inlN Tryz.prog tb 6) 42 ((jaF (Tryz.f52.body.getD .skip)).getD .skip) (fun _ _ _ _ _=>False) 103 (slM p k) (hpB0 x) K:=by
 have hkc:((k:Int)+1)=((k+1:Nat):Int):=by omega
 have hne:decide ((k:Int)=p.length)=false:=decide_eq_false (by omega)
 refine V.r0 (V.a3 hne @jiA hca) ?_
 refine .inl ?_
 (conv=>whnf)
 refine⟨0,_,_,⟨Tryz.func113,rfl,rfl,jis rfl⟩,?_⟩
 refine V.r0 @jiA ?_
 refine⟨Pq10z,[],V.pok,.go (jab ?_)⟩
 refine V.r0 @jiA ?_
 refine .inl ?_
 (conv=>whnf)
 refine⟨0,_,_,⟨Tryz.func195,rfl,rfl,jis rfl⟩,?_⟩
 refine V.r0 @jiA ?_
 refine⟨Pq22z,[],V.pok,.go (jab ?_)⟩
 refine V.r0 (V.a2 @jiA hkc) ?_
 refine hok _ _ (Wk.renB 179 145 58 0 1 2 (by decide) (by decide) (by decide) rfl rfl rfl rfl ?_)
 exact V.wk
theorem rdB_in1 (p:List (Int×Int))(x l:List (Int×Int))(k:Nat)(a:Int)(hk:k<p.length)(hp:p.length≤40)(hca:p.getD k (0,0)=(1,a))(ha:0≤a∧a<x.length)(hl:l.length≤16){K:K3}
  (hok:∀ L H,Wk 103 L H (slM p (k+1)) (hpB x (l.length+1) (bcl l++[.int .i64 (x.getD a.toNat (0,0)).1,.int .i64 (x.getD a.toNat (0,0)).2]))→K .normal L H):RunC Tryz.prog tb (inlN Tryz.prog tb 6) 42 ((jaF (Tryz.f52.body.getD .skip)).getD .skip) (fun _ _ _ _ _=>False) 103 (slM p k) (hpB x l.length (bcl l)) K:=by
 have hkc:((k:Int)+1)=((k+1:Nat):Int):=by omega
 have hne:decide ((k:Int)=p.length)=false:=decide_eq_false (by omega)
 have pg:=jaA l
 have hb:=jby l
 have ht:=jaO hl
 have hf:∀ i,D.freeL i (bcl l++[.int .i64 (x.getD a.toNat (0,0)).1,.int .i64 (x.getD a.toNat (0,0)).2])=true:=jaB l _ _
 (conv=>whnf)
 (try simp only[hne,jiA,hca])
 repeat ((first|refine V.s1 ?_|((try ((with_reducible refine .ext ?_);(conv=>whnf);(try simp only[hne,jiA,hca])));(with_reducible refine jaa (r:=?_) ?_ ?_);rotate_left;(focus (first|fail));(conv=>whnf))|(((simp only[pg];(conv=>whnf)));(conv=>whnf)));(try simp only[hne,jiA,hca]))
 refine .inl ?_
 (conv=>whnf)
 refine⟨0,_,_,⟨Tryz.func113,rfl,rfl,jis rfl⟩,?_⟩
 (conv=>whnf)
 (conv=>whnf)
 (try simp only[jiA])
 repeat ((first|refine V.s1 ?_|((try ((with_reducible refine .ext ?_);(conv=>whnf);(try simp only[jiA])));(with_reducible refine jaa (r:=?_) ?_ ?_);rotate_left;(focus (first|fail));(conv=>whnf))|(((simp only[pg];(conv=>whnf)));(conv=>whnf)));(try simp only[jiA]))
 refine⟨Pq10z,[],V.pok,.go (jab ?_)⟩
 (conv=>whnf)
 (try simp only[jiA])
 repeat ((first|refine V.s1 ?_|((try ((with_reducible refine .ext ?_);(conv=>whnf);(try simp only[jiA])));(with_reducible refine jaa (r:=?_) ?_ ?_);rotate_left;(focus (first|fail));(conv=>whnf))|(((simp only[pg];(conv=>whnf)));(conv=>whnf)));(try simp only[jiA]))
 refine .inl ?_
 (conv=>whnf)
 refine⟨0,_,_,⟨Tryz.func195,rfl,rfl,jis rfl⟩,?_⟩
 (conv=>whnf)
 (conv=>whnf)
 (try simp only[jiA])
 repeat ((first|refine V.s1 ?_|((try ((with_reducible refine .ext ?_);(conv=>whnf);(try simp only[jiA])));(with_reducible refine jaa (r:=?_) ?_ ?_);rotate_left;(focus (first|fail));(conv=>whnf))|(((simp only[pg];(conv=>whnf)));(conv=>whnf)));(try simp only[jiA]))
 refine⟨Pq22z,[],V.pok,.go (jab ?_)⟩
 (conv=>whnf)
 (try simp only[jiA,hkc])
 repeat ((first|refine V.s1 ?_|((try ((with_reducible refine .ext ?_);(conv=>whnf);(try simp only[jiA,hkc])));(with_reducible refine jaa (r:=?_) ?_ ?_);rotate_left;(focus (first|fail));(conv=>whnf))|(((simp only[pg];(conv=>whnf)));(conv=>whnf))|(((simp only[hb,ht,jju,hf];(conv=>whnf)));(conv=>whnf)));(try simp only[jiA,hkc]))
 refine hok _ _ (Wk.renB 179 145 58 0 (l.length+1) 2 (by decide) (by decide) (by decide) (hf _) rfl rfl rfl ?_)
 exact V.wk
theorem rdB_num0 (p:List (Int×Int))(x:List (Int×Int))(S T:Int)(k:Nat)(a:Int)(hk:k<p.length)(hp:p.length≤40)(hca:p.getD k (0,0)=(2,a))(nu:Cl 97 [.int .i64 a] (.tup [.agg [.int .i64 S,.int .i64 T],.int .i64 0])){K:K3}
  (hok:∀ L H,Wk 103 L H (slM p (k+1)) (hpB x 1 [.int .i64 S,.int .i64 T])→K .normal L H):RunC Tryz.prog tb (inlN Tryz.prog tb 6) 42 ((jaF (Tryz.f52.body.getD .skip)).getD .skip) (fun _ _ _ _ _=>False) 103 (slM p k) (hpB0 x) K:=by
 have hkc:((k:Int)+1)=((k+1:Nat):Int):=by omega
 have hne:decide ((k:Int)=p.length)=false:=decide_eq_false (by omega)
 refine V.r0 (V.a3 hne @jiA hca) ?_
 refine .inl ?_
 (conv=>whnf)
 refine⟨0,_,_,⟨Tryz.func114,rfl,rfl,jis rfl⟩,?_⟩
 refine V.r0 @jiA ?_
 refine⟨Pq15z,[],V.pok,.go (jab ?_)⟩
 refine V.r1 @jiA nu ?_
 refine .inl ?_
 (conv=>whnf)
 refine⟨0,_,_,⟨Tryz.func195,rfl,rfl,jis rfl⟩,?_⟩
 refine V.r0 @jiA ?_
 refine⟨Pq22z,[],V.pok,.go (jab ?_)⟩
 refine V.r0 (V.a2 @jiA hkc) ?_
 refine hok _ _ (Wk.renB 180 145 58 0 1 2 (by decide) (by decide) (by decide) rfl rfl rfl rfl ?_)
 exact V.wk
theorem rdB_num1 (p:List (Int×Int))(x l:List (Int×Int))(S T:Int)(k:Nat)(a:Int)(hk:k<p.length)(hp:p.length≤40)(hca:p.getD k (0,0)=(2,a))(nu:Cl 97 [.int .i64 a] (.tup [.agg [.int .i64 S,.int .i64 T],.int .i64 0]))(hl:l.length≤16){K:K3}
  (hok:∀ L H,Wk 103 L H (slM p (k+1)) (hpB x (l.length+1) (bcl l++[.int .i64 S,.int .i64 T]))→K .normal L H):RunC Tryz.prog tb (inlN Tryz.prog tb 6) 42 ((jaF (Tryz.f52.body.getD .skip)).getD .skip) (fun _ _ _ _ _=>False) 103 (slM p k) (hpB x l.length (bcl l)) K:=by
 have hkc:((k:Int)+1)=((k+1:Nat):Int):=by omega
 have hne:decide ((k:Int)=p.length)=false:=decide_eq_false (by omega)
 have pg:=jaA l
 have hb:=jby l
 have ht:=jaO hl
 have hf:=jaB l S T
 (conv=>whnf)
 (try simp only[hne,jiA,hca])
 repeat ((first|refine V.s1 ?_|((try ((with_reducible refine .ext ?_);(conv=>whnf);(try simp only[hne,jiA,hca])));(with_reducible refine jaa (r:=?_) ?_ ?_);rotate_left;(focus (first|fail));(conv=>whnf))|(((simp only[pg];(conv=>whnf)));(conv=>whnf)));(try simp only[hne,jiA,hca]))
 refine .inl ?_
 (conv=>whnf)
 refine⟨0,_,_,⟨Tryz.func114,rfl,rfl,jis rfl⟩,?_⟩
 (conv=>whnf)
 (conv=>whnf)
 (try simp only[jiA])
 repeat ((first|refine V.s1 ?_|((try ((with_reducible refine .ext ?_);(conv=>whnf);(try simp only[jiA])));(with_reducible refine jaa (r:=?_) ?_ ?_);rotate_left;(focus (first|fail));(conv=>whnf))|(((simp only[pg];(conv=>whnf)));(conv=>whnf)));(try simp only[jiA]))
 refine⟨Pq15z,[],V.pok,.go (jab ?_)⟩
 (conv=>whnf)
 (try simp only[jiA])
 repeat ((first|refine V.s1 ?_|((try ((with_reducible refine .ext ?_);(conv=>whnf);(try simp only[jiA])));(with_reducible refine jaa (r:=?_) ?_ ?_);rotate_left;(focus (first|exact(nu)));(conv=>whnf))|(((simp only[pg];(conv=>whnf)));(conv=>whnf)));(try simp only[jiA]))
 refine .inl ?_
 (conv=>whnf)
 refine⟨0,_,_,⟨Tryz.func195,rfl,rfl,jis rfl⟩,?_⟩
 (conv=>whnf)
 (conv=>whnf)
 (try simp only[jiA])
 repeat ((first|refine V.s1 ?_|((try ((with_reducible refine .ext ?_);(conv=>whnf);(try simp only[jiA])));(with_reducible refine jaa (r:=?_) ?_ ?_);rotate_left;(focus (first|fail));(conv=>whnf))|(((simp only[pg];(conv=>whnf)));(conv=>whnf)));(try simp only[jiA]))
 refine⟨Pq22z,[],V.pok,.go (jab ?_)⟩
 (conv=>whnf)
 (try simp only[jiA,hkc])
 repeat ((first|refine V.s1 ?_|((try ((with_reducible refine .ext ?_);(conv=>whnf);(try simp only[jiA,hkc])));(with_reducible refine jaa (r:=?_) ?_ ?_);rotate_left;(focus (first|fail));(conv=>whnf))|(((simp only[pg];(conv=>whnf)));(conv=>whnf))|(((simp only[hb,ht,jju,hf];(conv=>whnf)));(conv=>whnf)));(try simp only[jiA,hkc]))
 refine hok _ _ (Wk.renB 180 145 58 0 (l.length+1) 2 (by decide) (by decide) (by decide) (hf _) rfl rfl rfl ?_)
 exact V.wk
theorem rdB_copy (p:List (Int×Int))(x l:List (Int×Int))(y:(Int×Int))(rest:List D)(j:Nat)(k:Nat)(a:Int)(hk:k<p.length)(hp:p.length≤40)(hca:p.getD k (0,0)=(11,a))(hl:l.length≤16)(hix:(l.length:Int)-1-a=(j:Nat))(hj:j<l.length)(hd:∀ K,dropK (bcl l) (j*2) K=K (.int .i64 y.1 :: .int .i64 y.2::rest)){K:K3}
  (hok:∀ L H,Wk 103 L H (slM p (k+1)) (hpB x (l.length+1) (bcl l++[.int .i64 y.1,.int .i64 y.2]))→K .normal L H):RunC Tryz.prog tb (inlN Tryz.prog tb 6) 42 ((jaF (Tryz.f52.body.getD .skip)).getD .skip) (fun _ _ _ _ _=>False) 103 (slM p k) (hpB x l.length (bcl l)) K:=by
 have hkc:((k:Int)+1)=((k+1:Nat):Int):=by omega
 have hne:decide ((k:Int)=p.length)=false:=decide_eq_false (by omega)
 have pg:=jaA l
 have hb:=jby l
 have ht:=jaO hl
 have hf:∀ i,D.freeL i ((bcl l)++[.int .i64 y.1,.int .i64 y.2])=true:=jaB l _ _
 (conv=>whnf)
 (try simp only[hne,jiA,hca])
 repeat ((first|refine V.s1 ?_|((try ((with_reducible refine .ext ?_);(conv=>whnf);(try simp only[hne,jiA,hca])));(with_reducible refine jaa (r:=?_) ?_ ?_);rotate_left;(focus (first|fail));(conv=>whnf))|(((simp only[pg];(conv=>whnf)));(conv=>whnf)));(try simp only[hne,jiA,hca]))
 refine .inl ?_
 (conv=>whnf)
 refine⟨0,_,_,⟨Tryz.func115,rfl,rfl,jis rfl⟩,?_⟩
 (conv=>whnf)
 (conv=>whnf)
 (try simp only[jiA])
 repeat ((first|refine V.s1 ?_|((try ((with_reducible refine .ext ?_);(conv=>whnf);(try simp only[jiA])));(with_reducible refine jaa (r:=?_) ?_ ?_);rotate_left;(focus (first|fail));(conv=>whnf))|(((simp only[pg];(conv=>whnf)));(conv=>whnf)));(try simp only[jiA]))
 refine⟨Pq0z,[],V.pok,.go (jab ?_)⟩
 (conv=>whnf)
 (try simp only[hix,jiA,jiy])
 repeat ((first|refine V.s1 ?_|((try ((with_reducible refine .ext ?_);(conv=>whnf);(try simp only[hix,jiA,jiy])));(with_reducible refine jaa (r:=?_) ?_ ?_);rotate_left;(focus (first|fail));(conv=>whnf))|(((simp only[pg];(conv=>whnf)));(conv=>whnf)));(try simp only[hix,jiA,jiy]))
 refine .inl ?_
 (conv=>whnf)
 refine⟨0,_,_,⟨Tryz.func196,rfl,rfl,jis rfl⟩,?_⟩
 refine V.r0 (V.a3 hix @jiA @jiy) ?_
 simp only[hd]
 unfold takeK takeK takeK
 dsimp only
 unfold ltK
 rw[show Nat.blt 19 Tryz.f115.ntmps=true from rfl]
 dsimp only
 unfold drawK
 unfold jdH
 refine And.intro ?_ jbD
 (conv=>whnf)
 refine .inl ?_
 (conv=>whnf)
 refine⟨0,_,_,⟨Tryz.func195,rfl,rfl,jis rfl⟩,?_⟩
 (conv=>whnf)
 (conv=>whnf)
 (try simp only[jiA])
 repeat ((first|refine V.s1 ?_|((try ((with_reducible refine .ext ?_);(conv=>whnf);(try simp only[jiA])));(with_reducible refine jaa (r:=?_) ?_ ?_);rotate_left;(focus (first|fail));(conv=>whnf))|(((simp only[pg];(conv=>whnf)));(conv=>whnf)));(try simp only[jiA]))
 refine⟨Pq22z,[],V.pok,.go (jab ?_)⟩
 (conv=>whnf)
 (try simp only[jiA,hkc])
 repeat ((first|refine V.s1 ?_|((try ((with_reducible refine .ext ?_);(conv=>whnf);(try simp only[jiA,hkc])));(with_reducible refine jaa (r:=?_) ?_ ?_);rotate_left;(focus (first|fail));(conv=>whnf))|(((simp only[pg];(conv=>whnf)));(conv=>whnf))|(((simp only[hb,ht,jju,hf];(conv=>whnf)));(conv=>whnf)));(try simp only[jiA,hkc]))
 refine hok _ _ (Wk.renB 186 145 58 0 (l.length+1) 2 (by decide) (by decide) (by decide) (hf _) rfl rfl rfl ?_)
 exact V.wk
theorem jeH {c:Int}{fn:Nat}(hfn:(c=3∧fn=100)∨(c=4∧fn=101)∨(c=5∧fn=102)∨(c=6∧fn=103)∨(c=7∧fn=104))(p:List (Int×Int))(x l:List (Int×Int))(u v:(Int×Int))(k:Nat)(a:Int)(S T:Int)(e:Int)(hk:k<p.length)(hp:p.length≤40)(hca:p.getD k (0,0)=(c,a))(hl:l.length≤16)
  (cf:Cl fn [.agg [.int .i64 u.1,.int .i64 u.2],.agg [.int .i64 v.1,.int .i64 v.2]] (.tup [.agg [.int .i64 S,.int .i64 T],.int .i64 e])) {K:K3}
  (hok:e=0 → ∀ L H,Wk 103 L H (slM p (k+1)) (hpB x (l.length+1) (bcl l++[.int .i64 S,.int .i64 T]))→K .normal L H)
  (hpan:e≠0 → ∀ L H,Wk 103 L H slE hpE→K (.panic [{ v := .iface 155 (.agg #[.int .i64 e]),recovered:=false }]) L H) :
  RunC Tryz.prog tb (inlN Tryz.prog tb 6) 42 ((jaF (Tryz.f52.body.getD .skip)).getD .skip) (fun _ _ _ _ _=>False) 103 (slM p k) (hpB x (l.length+2) (bcl (l++[u,v]))) K:=by
 have hkc:((k:Int)+1)=((k+1:Nat):Int):=by omega
 have hne:decide ((k:Int)=p.length)=false:=decide_eq_false (by omega)
 have pg:=jaA (l++[u,v])
 have tk:Cl 120 [.int .i64 c] (.tup [.int .i64 2,.bool true]):=by
  rcases hfn with⟨rfl,_⟩|⟨rfl,_⟩|⟨rfl,_⟩|⟨rfl,_⟩|⟨rfl,_⟩<;>exact jbl _
 have hr:(((l.length+2:Nat):Int)-2)=(l.length:Nat):=by omega
 have hble:Nat.ble (0+(l.length+2)*2) (bcl (l++[u,v])).length=true:=by rw[jaU,ji0];simp
 have hsub:l.length+2-l.length=2:=by omega
 have hd0:∀ K,dropK (bcl (l++[u,v])) (l.length*2+Int.toNat 0*2) K=K (bcl [u,v]):=fun K=>jbt [u,v] K l
 have hd1:∀ K,dropK (bcl (l++[u,v])) (l.length*2+Int.toNat 1*2) K=K (bcl [v]):=fun K=>jdM l [v] u K
 rcases hfn with⟨rfl,rfl⟩|⟨rfl,rfl⟩|⟨rfl,rfl⟩|⟨rfl,rfl⟩|⟨rfl,rfl⟩
 all_goals
  (conv=>whnf)
  (try simp only[hne,jiA,hca])
  repeat ((first|refine V.s1 ?_|((try ((with_reducible refine .ext ?_);(conv=>whnf);(try simp only[hne,jiA,hca])));(with_reducible refine jaa (r:=?_) ?_ ?_);rotate_left;(focus (first|fail));(conv=>whnf))|(((simp only[pg];(conv=>whnf)));(conv=>whnf)));(try simp only[hne,jiA,hca]))
  refine .inl ?_
  (conv=>whnf)
  refine⟨0,_,_,⟨Tryz.func116,rfl,rfl,jis rfl⟩,?_⟩
  (conv=>whnf)
  (conv=>whnf)
  (try simp only[jiA])
  repeat ((first|refine V.s1 ?_|((try ((with_reducible refine .ext ?_);(conv=>whnf);(try simp only[jiA])));(with_reducible refine jaa (r:=?_) ?_ ?_);rotate_left;(focus (first|exact(tk)));(conv=>whnf))|(((simp only[pg];(conv=>whnf)));(conv=>whnf)));(try simp only[jiA]))
  refine .inl ?_
  (conv=>whnf)
  refine⟨0,_,_,⟨Tryz.func196,rfl,rfl,jis rfl⟩,?_⟩
  (conv=>whnf)
  (conv=>whnf)
  (try simp only[hr,jiA])
  repeat ((first|refine V.s1 ?_|((try ((with_reducible refine .ext ?_);(conv=>whnf);(try simp only[hr,jiA])));(with_reducible refine jaa (r:=?_) ?_ ?_);rotate_left;(focus (first|exact(tk)));(conv=>whnf))|(((simp only[pg];(conv=>whnf)));(conv=>whnf))|(((simp only[hr,jiA,hsub];(conv=>whnf)));(conv=>whnf))|(((simp only[hble];(conv=>whnf)));(conv=>whnf)));(try simp only[hr,jiA]))
  refine⟨Pq8z,[],V.pok,.go (jab ?_)⟩
  (conv=>whnf)
  (try simp only[jiA])
  repeat ((first|refine V.s1 ?_|((try ((with_reducible refine .ext ?_);(conv=>whnf);(try simp only[jiA])));(with_reducible refine jaa (r:=?_) ?_ ?_);rotate_left;(focus (first|fail));(conv=>whnf))|(((simp only[pg];(conv=>whnf)));(conv=>whnf)));(try simp only[jiA]))
  refine .inl ?_
  (conv=>whnf)
  refine⟨0,_,_,⟨Tryz.func181,rfl,rfl,jis rfl⟩,?_⟩
  (conv=>whnf)
  (conv=>whnf)
  (try simp only[jiA])
  repeat ((first|refine V.s1 ?_|((try ((with_reducible refine .ext ?_);(conv=>whnf);(try simp only[jiA])));(with_reducible refine jaa (r:=?_) ?_ ?_);rotate_left;(focus (first|fail));(conv=>whnf))|(((simp only[pg];(conv=>whnf)));(conv=>whnf)));(try simp only[jiA]))
  refine⟨Pq17z,[],V.pok,.go (jab ?_)⟩
  (conv=>whnf)
  (try simp only[jiA,jiy])
  repeat ((first|refine V.s1 ?_|((try ((with_reducible refine .ext ?_);(conv=>whnf);(try simp only[jiA,jiy])));(with_reducible refine jaa (r:=?_) ?_ ?_);rotate_left;(focus (first|exact(cf)));(conv=>whnf))|(((simp only[pg];(conv=>whnf)));(conv=>whnf))|(((simp only[hd0];(conv=>whnf)));(conv=>whnf))|(((simp only[hd1];(conv=>whnf)));(conv=>whnf)));(try simp only[jiA,jiy]))
  refine .inl ?_
  (conv=>whnf)
  refine⟨0,_,_,⟨Tryz.func195,rfl,rfl,jis rfl⟩,?_⟩
  (conv=>whnf)
  (conv=>whnf)
  (try simp only[jiA])
  repeat ((first|refine V.s1 ?_|((try ((with_reducible refine .ext ?_);(conv=>whnf);(try simp only[jiA])));(with_reducible refine jaa (r:=?_) ?_ ?_);rotate_left;(focus (first|fail));(conv=>whnf))|(((simp only[pg];(conv=>whnf)));(conv=>whnf)));(try simp only[jiA]))
  by_cases he:e=0
  ·refine jbP [(0,.box 58 0),(4,.box 200 0)] [(58,.box [.bsl 145 0 l.length 2,inB x,.fn 97 [] [],.mapr 44]),(145,.box (bcl l)),(200,.box [.int .i64 S,.int .i64 T]),(44,.mp esB),(114,.mp stepsB),(64,.box [.nil]),(65,.box [.int .i64 0])] (CondB.mk (fun h=>absurd he (by simpa using h)) (fun _=>?_)) ?_
   ·(conv=>whnf)
    exact Wk.trim 145 (l.length*2) rfl (Wk.same 145 rfl (jcL l [u,v]) V.wk)
   ·have pg:=jaA l
    have hb:=jby l
    have ht:=jaO hl
    have hf:∀ i,D.freeL i (bcl l++[.int .i64 S,.int .i64 T])=true:=jaB l _ _
    (conv=>whnf)
    refine⟨Pq22z,[],V.pok,.go (jab ?_)⟩
    (conv=>whnf)
    (try simp only[jiA,hkc])
    repeat ((first|refine V.s1 ?_|((try ((with_reducible refine .ext ?_);(conv=>whnf);(try simp only[jiA,hkc])));(with_reducible refine jaa (r:=?_) ?_ ?_);rotate_left;(focus (first|fail));(conv=>whnf))|(((simp only[pg];(conv=>whnf)));(conv=>whnf))|(((simp only[hb,ht,jju,hf];(conv=>whnf)));(conv=>whnf)));(try simp only[jiA,hkc]))
    refine hok he _ _ (Wk.renB 214 145 58 0 (l.length+1) 2 (by decide) (by decide) (by decide) (hf _) rfl rfl rfl ?_)
    exact V.wk
  ·refine Cnd.split (CondB.mk (fun _=>?_) (fun h=>absurd (by simpa using h) he))
   refine V.r0 @jiA ?_
   exact hpan he _ _ V.wk
end Go.Proofs.YtpkdedncgclblaaGreatDoor
end
