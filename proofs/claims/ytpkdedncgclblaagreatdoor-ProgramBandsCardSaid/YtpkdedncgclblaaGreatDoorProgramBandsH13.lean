/- What functions of the program answer at given values, part 13. Conditions: those that each theorem names. -/
import Derived.Test.YtpkdedncgclblaaGreatDoorProgramBandsH12
import Derived.Test.YtpkdedncgclblaaGreatDoorProgramBandsH6
import Derived.Test.YtpkdedncgclblaaGreatDoorProgramBandsH10
import Derived.Test.YtpkdedncgclblaaGreatDoorProgramBandsH11
set_option linter.unusedSimpArgs false
set_option linter.unusedVariables false
set_option maxHeartbeats 8000000
set_option maxRecDepth 100000
section
namespace Go.Proofs.YtpkdedncgclblaaGreatDoor
open Go Go.V Go.Nb
theorem jio:type_of% @jiD∧type_of% @jiC:=⟨@jiD,@jiC⟩
theorem rdF_neg (p:List (Int×Int))(x l:List Rat)(u:Rat)(k:Nat)(a:Int)(S T:List UInt8)(e:Int)(hk:k<p.length)(hp:p.length≤40)(hca:p.getD k (0,0)=(8,a))(hl:l.length≤16)
  (cf:Cl 85 [.agg [.str (decZ u.num),.str (dec u.den)]] (.tup [.agg [.str S,.str T],.int .i64 e])) {K:K3}
  (hok:e=0 → ∀ L H,Wk 103 L H (slM p (k+1)) (hpF x (l.length+1) (fcl l++[.str S,.str T]))→K .normal L H)
  (hpan:e≠0 → ∀ L H,Wk 103 L H slE hpE→K (.panic [{ v := .iface 155 (.agg #[.int .i64 e]),recovered:=false }]) L H) :
  RunC Tryz.prog tb (inlN Tryz.prog tb 6) 42 ((jaF (Tryz.f49.body.getD .skip)).getD .skip) (fun _ _ _ _ _=>False) 103 (slM p k) (hpF x (l.length+1) (fcl (l++[u]))) K:=by
 have hkc:((k:Int)+1)=((k+1:Nat):Int):=by omega
 have hne:decide ((k:Int)=p.length)=false:=decide_eq_false (by omega)
 have pg:=jbD (l++[u])
 have tk:Cl 120 [.int .i64 8] (.tup [.int .i64 1,.bool true]):=jbf 8
 have hr:(((l.length+1:Nat):Int)-1)=(l.length:Nat):=by omega
 have hble:Nat.ble (0+(l.length+1)*2) (fcl (l++[u])).length=true:=by rw[jca,ji2];simp
 have hsub:l.length+1-l.length=1:=by omega
 have hd0:∀ K,dropK (fcl (l++[u])) (l.length*2+Int.toNat 0*2) K=K (fcl [u]):=fun K=>jbr [u] K l
 (conv=>whnf)
 (try simp only[hne,jiD,hca])
 repeat ((first|refine V.s1 ?_|((try ((with_reducible refine .ext ?_);(conv=>whnf);(try simp only[hne,jiD,hca])));(with_reducible refine jaa (r:=?_) ?_ ?_);rotate_left;(focus (first|fail));(conv=>whnf))|(((simp only[pg];(conv=>whnf)));(conv=>whnf)));(try simp only[hne,jiD,hca]))
 refine .inl ?_
 (conv=>whnf)
 refine⟨0,_,_,⟨Tryz.func95,rfl,rfl,jiw rfl⟩,?_⟩
 (conv=>whnf)
 (conv=>whnf)
 (try simp only[jiD])
 repeat ((first|refine V.s1 ?_|((try ((with_reducible refine .ext ?_);(conv=>whnf);(try simp only[jiD])));(with_reducible refine jaa (r:=?_) ?_ ?_);rotate_left;(focus (first|exact(tk)));(conv=>whnf))|(((simp only[pg];(conv=>whnf)));(conv=>whnf)));(try simp only[jiD]))
 refine .inl ?_
 (conv=>whnf)
 refine⟨0,_,_,⟨Tryz.func177,rfl,rfl,jiw rfl⟩,?_⟩
 (conv=>whnf)
 (conv=>whnf)
 (try simp only[hr,jiD])
 repeat ((first|refine V.s1 ?_|((try ((with_reducible refine .ext ?_);(conv=>whnf);(try simp only[hr,jiD])));(with_reducible refine jaa (r:=?_) ?_ ?_);rotate_left;(focus (first|exact(tk)));(conv=>whnf))|(((simp only[pg];(conv=>whnf)));(conv=>whnf))|(((simp only[hr,jiD,hsub];(conv=>whnf)));(conv=>whnf))|(((simp only[hble];(conv=>whnf)));(conv=>whnf)));(try simp only[hr,jiD]))
 refine⟨Pq8z,[],V.pok,.go (jab ?_)⟩
 (conv=>whnf)
 (try simp only[jiD])
 repeat ((first|refine V.s1 ?_|((try ((with_reducible refine .ext ?_);(conv=>whnf);(try simp only[jiD])));(with_reducible refine jaa (r:=?_) ?_ ?_);rotate_left;(focus (first|fail));(conv=>whnf))|(((simp only[pg];(conv=>whnf)));(conv=>whnf)));(try simp only[jiD]))
 refine .inl ?_
 (conv=>whnf)
 refine⟨0,_,_,⟨Tryz.func171,rfl,rfl,jiw rfl⟩,?_⟩
 (conv=>whnf)
 (conv=>whnf)
 (try simp only[jiD])
 repeat ((first|refine V.s1 ?_|((try ((with_reducible refine .ext ?_);(conv=>whnf);(try simp only[jiD])));(with_reducible refine jaa (r:=?_) ?_ ?_);rotate_left;(focus (first|fail));(conv=>whnf))|(((simp only[pg];(conv=>whnf)));(conv=>whnf)));(try simp only[jiD]))
 refine⟨Pq33z,[],V.pok,.go (jab ?_)⟩
 (conv=>whnf)
 (try simp only[jio])
 repeat ((first|refine V.s1 ?_|((try ((with_reducible refine .ext ?_);(conv=>whnf);(try simp only[jio])));(with_reducible refine jaa (r:=?_) ?_ ?_);rotate_left;(focus (first|exact(cf)));(conv=>whnf))|(((simp only[pg];(conv=>whnf)));(conv=>whnf))|(((simp only[hd0];(conv=>whnf)));(conv=>whnf)));(try simp only[jio]))
 refine .inl ?_
 (conv=>whnf)
 refine⟨0,_,_,⟨Tryz.func176,rfl,rfl,jiw rfl⟩,?_⟩
 (conv=>whnf)
 (conv=>whnf)
 (try simp only[jiD])
 repeat ((first|refine V.s1 ?_|((try ((with_reducible refine .ext ?_);(conv=>whnf);(try simp only[jiD])));(with_reducible refine jaa (r:=?_) ?_ ?_);rotate_left;(focus (first|fail));(conv=>whnf))|(((simp only[pg];(conv=>whnf)));(conv=>whnf)));(try simp only[jiD]))
 by_cases he:e=0
 ·refine jbE [(0,.box 58 0),(4,.box 200 0)] [(58,.box [.bsl 145 0 l.length 2,inF x,.fn 76 [] [],.mapr 44]),(145,.box (fcl l)),(200,.box [.str S,.str T]),(44,.mp esF),(114,.mp stepsF),(64,.box [.nil]),(65,.box [.int .i64 0])] (CondB.mk (fun h=>absurd he (by simpa using h)) (fun _=>?_)) ?_
  ·(conv=>whnf)
   exact Wk.trim 145 (l.length*2) rfl (Wk.same 145 rfl (jc4 l [u]) V.wk)
  ·have pg:=jbD l
   have hb:=jcC l
   have ht:=jaP hl
   have hf:∀ i,D.freeL i (fcl l++[.str S,.str T])=true:=jbJ l _ _
   (conv=>whnf)
   refine⟨Pq20z,[],V.pok,.go (jab ?_)⟩
   (conv=>whnf)
   (try simp only[jiD,hkc])
   repeat ((first|refine V.s1 ?_|((try ((with_reducible refine .ext ?_);(conv=>whnf);(try simp only[jiD,hkc])));(with_reducible refine jaa (r:=?_) ?_ ?_);rotate_left;(focus (first|fail));(conv=>whnf))|(((simp only[pg];(conv=>whnf)));(conv=>whnf))|(((simp only[hb,ht,jjt,hf];(conv=>whnf)));(conv=>whnf)));(try simp only[jiD,hkc]))
   refine hok he _ _ (Wk.renB 214 145 58 0 (l.length+1) 2 (by decide) (by decide) (by decide) (hf _) rfl rfl rfl ?_)
   exact V.wk
 ·refine Cnd.split (CondB.mk (fun _=>?_) (fun h=>absurd (by simpa using h) he))
  refine V.r0 @jiD ?_
  exact hpan he _ _ V.wk
theorem rdF_abs (p:List (Int×Int))(x l:List Rat)(u:Rat)(k:Nat)(a:Int)(S T:List UInt8)(e:Int)(hk:k<p.length)(hp:p.length≤40)(hca:p.getD k (0,0)=(9,a))(hl:l.length≤16)
  (cf:Cl 86 [.agg [.str (decZ u.num),.str (dec u.den)]] (.tup [.agg [.str S,.str T],.int .i64 e])) {K:K3}
  (hok:e=0 → ∀ L H,Wk 103 L H (slM p (k+1)) (hpF x (l.length+1) (fcl l++[.str S,.str T]))→K .normal L H)
  (hpan:e≠0 → ∀ L H,Wk 103 L H slE hpE→K (.panic [{ v := .iface 155 (.agg #[.int .i64 e]),recovered:=false }]) L H) :
  RunC Tryz.prog tb (inlN Tryz.prog tb 6) 42 ((jaF (Tryz.f49.body.getD .skip)).getD .skip) (fun _ _ _ _ _=>False) 103 (slM p k) (hpF x (l.length+1) (fcl (l++[u]))) K:=by
 have hkc:((k:Int)+1)=((k+1:Nat):Int):=by omega
 have hne:decide ((k:Int)=p.length)=false:=decide_eq_false (by omega)
 have pg:=jbD (l++[u])
 have tk:Cl 120 [.int .i64 9] (.tup [.int .i64 1,.bool true]):=jbf 9
 have hr:(((l.length+1:Nat):Int)-1)=(l.length:Nat):=by omega
 have hble:Nat.ble (0+(l.length+1)*2) (fcl (l++[u])).length=true:=by rw[jca,ji2];simp
 have hsub:l.length+1-l.length=1:=by omega
 have hd0:∀ K,dropK (fcl (l++[u])) (l.length*2+Int.toNat 0*2) K=K (fcl [u]):=fun K=>jbr [u] K l
 (conv=>whnf)
 (try simp only[hne,jiD,hca])
 repeat ((first|refine V.s1 ?_|((try ((with_reducible refine .ext ?_);(conv=>whnf);(try simp only[hne,jiD,hca])));(with_reducible refine jaa (r:=?_) ?_ ?_);rotate_left;(focus (first|fail));(conv=>whnf))|(((simp only[pg];(conv=>whnf)));(conv=>whnf)));(try simp only[hne,jiD,hca]))
 refine .inl ?_
 (conv=>whnf)
 refine⟨0,_,_,⟨Tryz.func95,rfl,rfl,jiw rfl⟩,?_⟩
 (conv=>whnf)
 (conv=>whnf)
 (try simp only[jiD])
 repeat ((first|refine V.s1 ?_|((try ((with_reducible refine .ext ?_);(conv=>whnf);(try simp only[jiD])));(with_reducible refine jaa (r:=?_) ?_ ?_);rotate_left;(focus (first|exact(tk)));(conv=>whnf))|(((simp only[pg];(conv=>whnf)));(conv=>whnf)));(try simp only[jiD]))
 refine .inl ?_
 (conv=>whnf)
 refine⟨0,_,_,⟨Tryz.func177,rfl,rfl,jiw rfl⟩,?_⟩
 (conv=>whnf)
 (conv=>whnf)
 (try simp only[hr,jiD])
 repeat ((first|refine V.s1 ?_|((try ((with_reducible refine .ext ?_);(conv=>whnf);(try simp only[hr,jiD])));(with_reducible refine jaa (r:=?_) ?_ ?_);rotate_left;(focus (first|exact(tk)));(conv=>whnf))|(((simp only[pg];(conv=>whnf)));(conv=>whnf))|(((simp only[hr,jiD,hsub];(conv=>whnf)));(conv=>whnf))|(((simp only[hble];(conv=>whnf)));(conv=>whnf)));(try simp only[hr,jiD]))
 refine⟨Pq8z,[],V.pok,.go (jab ?_)⟩
 (conv=>whnf)
 (try simp only[jiD])
 repeat ((first|refine V.s1 ?_|((try ((with_reducible refine .ext ?_);(conv=>whnf);(try simp only[jiD])));(with_reducible refine jaa (r:=?_) ?_ ?_);rotate_left;(focus (first|fail));(conv=>whnf))|(((simp only[pg];(conv=>whnf)));(conv=>whnf)));(try simp only[jiD]))
 refine .inl ?_
 (conv=>whnf)
 refine⟨0,_,_,⟨Tryz.func171,rfl,rfl,jiw rfl⟩,?_⟩
 (conv=>whnf)
 (conv=>whnf)
 (try simp only[jiD])
 repeat ((first|refine V.s1 ?_|((try ((with_reducible refine .ext ?_);(conv=>whnf);(try simp only[jiD])));(with_reducible refine jaa (r:=?_) ?_ ?_);rotate_left;(focus (first|fail));(conv=>whnf))|(((simp only[pg];(conv=>whnf)));(conv=>whnf)));(try simp only[jiD]))
 refine⟨Pq33z,[],V.pok,.go (jab ?_)⟩
 (conv=>whnf)
 (try simp only[jio])
 repeat ((first|refine V.s1 ?_|((try ((with_reducible refine .ext ?_);(conv=>whnf);(try simp only[jio])));(with_reducible refine jaa (r:=?_) ?_ ?_);rotate_left;(focus (first|exact(cf)));(conv=>whnf))|(((simp only[pg];(conv=>whnf)));(conv=>whnf))|(((simp only[hd0];(conv=>whnf)));(conv=>whnf)));(try simp only[jio]))
 refine .inl ?_
 (conv=>whnf)
 refine⟨0,_,_,⟨Tryz.func176,rfl,rfl,jiw rfl⟩,?_⟩
 (conv=>whnf)
 (conv=>whnf)
 (try simp only[jiD])
 repeat ((first|refine V.s1 ?_|((try ((with_reducible refine .ext ?_);(conv=>whnf);(try simp only[jiD])));(with_reducible refine jaa (r:=?_) ?_ ?_);rotate_left;(focus (first|fail));(conv=>whnf))|(((simp only[pg];(conv=>whnf)));(conv=>whnf)));(try simp only[jiD]))
 by_cases he:e=0
 ·refine jbE [(0,.box 58 0),(4,.box 200 0)] [(58,.box [.bsl 145 0 l.length 2,inF x,.fn 76 [] [],.mapr 44]),(145,.box (fcl l)),(200,.box [.str S,.str T]),(44,.mp esF),(114,.mp stepsF),(64,.box [.nil]),(65,.box [.int .i64 0])] (CondB.mk (fun h=>absurd he (by simpa using h)) (fun _=>?_)) ?_
  ·(conv=>whnf)
   exact Wk.trim 145 (l.length*2) rfl (Wk.same 145 rfl (jc4 l [u]) V.wk)
  ·have pg:=jbD l
   have hb:=jcC l
   have ht:=jaP hl
   have hf:∀ i,D.freeL i (fcl l++[.str S,.str T])=true:=jbJ l _ _
   (conv=>whnf)
   refine⟨Pq20z,[],V.pok,.go (jab ?_)⟩
   (conv=>whnf)
   (try simp only[jiD,hkc])
   repeat ((first|refine V.s1 ?_|((try ((with_reducible refine .ext ?_);(conv=>whnf);(try simp only[jiD,hkc])));(with_reducible refine jaa (r:=?_) ?_ ?_);rotate_left;(focus (first|fail));(conv=>whnf))|(((simp only[pg];(conv=>whnf)));(conv=>whnf))|(((simp only[hb,ht,jjt,hf];(conv=>whnf)));(conv=>whnf)));(try simp only[jiD,hkc]))
   refine hok he _ _ (Wk.renB 214 145 58 0 (l.length+1) 2 (by decide) (by decide) (by decide) (hf _) rfl rfl rfl ?_)
   exact V.wk
 ·refine Cnd.split (CondB.mk (fun _=>?_) (fun h=>absurd (by simpa using h) he))
  refine V.r0 @jiD ?_
  exact hpan he _ _ V.wk
theorem rdF_clamp (p:List (Int×Int))(x l:List Rat)(u:Rat)(k:Nat)(a:Int)(S T:List UInt8)(e:Int)(hk:k<p.length)(hp:p.length≤40)(hca:p.getD k (0,0)=(12,a))(hl:l.length≤16)
  (cf:Cl 89 [.agg [.str (decZ u.num),.str (dec u.den)]] (.tup [.agg [.str S,.str T],.int .i64 e])) {K:K3}
  (hok:e=0 → ∀ L H,Wk 103 L H (slM p (k+1)) (hpF x (l.length+1) (fcl l++[.str S,.str T]))→K .normal L H)
  (hpan:e≠0 → ∀ L H,Wk 103 L H slE hpE→K (.panic [{ v := .iface 155 (.agg #[.int .i64 e]),recovered:=false }]) L H) :
  RunC Tryz.prog tb (inlN Tryz.prog tb 6) 42 ((jaF (Tryz.f49.body.getD .skip)).getD .skip) (fun _ _ _ _ _=>False) 103 (slM p k) (hpF x (l.length+1) (fcl (l++[u]))) K:=by
 have hkc:((k:Int)+1)=((k+1:Nat):Int):=by omega
 have hne:decide ((k:Int)=p.length)=false:=decide_eq_false (by omega)
 have pg:=jbD (l++[u])
 have tk:Cl 120 [.int .i64 12] (.tup [.int .i64 1,.bool true]):=jbf 12
 have hr:(((l.length+1:Nat):Int)-1)=(l.length:Nat):=by omega
 have hble:Nat.ble (0+(l.length+1)*2) (fcl (l++[u])).length=true:=by rw[jca,ji2];simp
 have hsub:l.length+1-l.length=1:=by omega
 have hd0:∀ K,dropK (fcl (l++[u])) (l.length*2+Int.toNat 0*2) K=K (fcl [u]):=fun K=>jbr [u] K l
 (conv=>whnf)
 (try simp only[hne,jiD,hca])
 repeat ((first|refine V.s1 ?_|((try ((with_reducible refine .ext ?_);(conv=>whnf);(try simp only[hne,jiD,hca])));(with_reducible refine jaa (r:=?_) ?_ ?_);rotate_left;(focus (first|fail));(conv=>whnf))|(((simp only[pg];(conv=>whnf)));(conv=>whnf)));(try simp only[hne,jiD,hca]))
 refine .inl ?_
 (conv=>whnf)
 refine⟨0,_,_,⟨Tryz.func95,rfl,rfl,jiw rfl⟩,?_⟩
 (conv=>whnf)
 (conv=>whnf)
 (try simp only[jiD])
 repeat ((first|refine V.s1 ?_|((try ((with_reducible refine .ext ?_);(conv=>whnf);(try simp only[jiD])));(with_reducible refine jaa (r:=?_) ?_ ?_);rotate_left;(focus (first|exact(tk)));(conv=>whnf))|(((simp only[pg];(conv=>whnf)));(conv=>whnf)));(try simp only[jiD]))
 refine .inl ?_
 (conv=>whnf)
 refine⟨0,_,_,⟨Tryz.func177,rfl,rfl,jiw rfl⟩,?_⟩
 (conv=>whnf)
 (conv=>whnf)
 (try simp only[hr,jiD])
 repeat ((first|refine V.s1 ?_|((try ((with_reducible refine .ext ?_);(conv=>whnf);(try simp only[hr,jiD])));(with_reducible refine jaa (r:=?_) ?_ ?_);rotate_left;(focus (first|exact(tk)));(conv=>whnf))|(((simp only[pg];(conv=>whnf)));(conv=>whnf))|(((simp only[hr,jiD,hsub];(conv=>whnf)));(conv=>whnf))|(((simp only[hble];(conv=>whnf)));(conv=>whnf)));(try simp only[hr,jiD]))
 refine⟨Pq8z,[],V.pok,.go (jab ?_)⟩
 (conv=>whnf)
 (try simp only[jiD])
 repeat ((first|refine V.s1 ?_|((try ((with_reducible refine .ext ?_);(conv=>whnf);(try simp only[jiD])));(with_reducible refine jaa (r:=?_) ?_ ?_);rotate_left;(focus (first|fail));(conv=>whnf))|(((simp only[pg];(conv=>whnf)));(conv=>whnf)));(try simp only[jiD]))
 refine .inl ?_
 (conv=>whnf)
 refine⟨0,_,_,⟨Tryz.func171,rfl,rfl,jiw rfl⟩,?_⟩
 (conv=>whnf)
 (conv=>whnf)
 (try simp only[jiD])
 repeat ((first|refine V.s1 ?_|((try ((with_reducible refine .ext ?_);(conv=>whnf);(try simp only[jiD])));(with_reducible refine jaa (r:=?_) ?_ ?_);rotate_left;(focus (first|fail));(conv=>whnf))|(((simp only[pg];(conv=>whnf)));(conv=>whnf)));(try simp only[jiD]))
 refine⟨Pq33z,[],V.pok,.go (jab ?_)⟩
 (conv=>whnf)
 (try simp only[jio])
 repeat ((first|refine V.s1 ?_|((try ((with_reducible refine .ext ?_);(conv=>whnf);(try simp only[jio])));(with_reducible refine jaa (r:=?_) ?_ ?_);rotate_left;(focus (first|exact(cf)));(conv=>whnf))|(((simp only[pg];(conv=>whnf)));(conv=>whnf))|(((simp only[hd0];(conv=>whnf)));(conv=>whnf)));(try simp only[jio]))
 refine .inl ?_
 (conv=>whnf)
 refine⟨0,_,_,⟨Tryz.func176,rfl,rfl,jiw rfl⟩,?_⟩
 (conv=>whnf)
 (conv=>whnf)
 (try simp only[jiD])
 repeat ((first|refine V.s1 ?_|((try ((with_reducible refine .ext ?_);(conv=>whnf);(try simp only[jiD])));(with_reducible refine jaa (r:=?_) ?_ ?_);rotate_left;(focus (first|fail));(conv=>whnf))|(((simp only[pg];(conv=>whnf)));(conv=>whnf)));(try simp only[jiD]))
 by_cases he:e=0
 ·refine jbE [(0,.box 58 0),(4,.box 200 0)] [(58,.box [.bsl 145 0 l.length 2,inF x,.fn 76 [] [],.mapr 44]),(145,.box (fcl l)),(200,.box [.str S,.str T]),(44,.mp esF),(114,.mp stepsF),(64,.box [.nil]),(65,.box [.int .i64 0])] (CondB.mk (fun h=>absurd he (by simpa using h)) (fun _=>?_)) ?_
  ·(conv=>whnf)
   exact Wk.trim 145 (l.length*2) rfl (Wk.same 145 rfl (jc4 l [u]) V.wk)
  ·have pg:=jbD l
   have hb:=jcC l
   have ht:=jaP hl
   have hf:∀ i,D.freeL i (fcl l++[.str S,.str T])=true:=jbJ l _ _
   (conv=>whnf)
   refine⟨Pq20z,[],V.pok,.go (jab ?_)⟩
   (conv=>whnf)
   (try simp only[jiD,hkc])
   repeat ((first|refine V.s1 ?_|((try ((with_reducible refine .ext ?_);(conv=>whnf);(try simp only[jiD,hkc])));(with_reducible refine jaa (r:=?_) ?_ ?_);rotate_left;(focus (first|fail));(conv=>whnf))|(((simp only[pg];(conv=>whnf)));(conv=>whnf))|(((simp only[hb,ht,jjt,hf];(conv=>whnf)));(conv=>whnf)));(try simp only[jiD,hkc]))
   refine hok he _ _ (Wk.renB 214 145 58 0 (l.length+1) 2 (by decide) (by decide) (by decide) (hf _) rfl rfl rfl ?_)
   exact V.wk
 ·refine Cnd.split (CondB.mk (fun _=>?_) (fun h=>absurd (by simpa using h) he))
  refine V.r0 @jiD ?_
  exact hpan he _ _ V.wk
theorem rdF_pick1 (p:List (Int×Int))(x l:List Rat)(u v w:Rat)(k:Nat)(a:Int)(s:Int)(hk:k<p.length)(hp:p.length≤40)(hca:p.getD k (0,0)=(10,a))(hl:l.length≤16)
  (sg:Cl 88 [.agg [.str (decZ w.num),.str (dec w.den)]] (.tup [.int .i64 s,.int .i64 0])) (hs:decide (s<0)=true) {K:K3}
  (hok:∀ L H,Wk 103 L H (slM p (k+1)) (hpF x (l.length+1) (fcl l++[.str (decZ v.num),.str (dec v.den)]))→K .normal L H) :
  RunC Tryz.prog tb (inlN Tryz.prog tb 6) 42 ((jaF (Tryz.f49.body.getD .skip)).getD .skip) (fun _ _ _ _ _=>False) 103 (slM p k) (hpF x (l.length+3) (fcl (l++[u,v,w]))) K:=by
 have hkc:((k:Int)+1)=((k+1:Nat):Int):=by omega
 have hne:decide ((k:Int)=p.length)=false:=decide_eq_false (by omega)
 have pg:=jbD (l++[u,v,w])
 have tk:Cl 120 [.int .i64 10] (.tup [.int .i64 3,.bool true]):=jbf 10
 have hr:(((l.length+3:Nat):Int)-3)=(l.length:Nat):=by omega
 have hble:Nat.ble (0+(l.length+3)*2) (fcl (l++[u,v,w])).length=true:=by rw[jca,ji2];simp
 have hsub:l.length+3-l.length=3:=by omega
 have hd0:∀ K,dropK (fcl (l++[u,v,w])) (l.length*2+Int.toNat 0*2) K=K (fcl [u,v,w]):=fun K=>jbr [u,v,w] K l
 have hd1:∀ K,dropK (fcl (l++[u,v,w])) (l.length*2+Int.toNat 1*2) K=K (fcl [v,w]):=fun K=>je6 l [v,w] u K
 have hd2:∀ K,dropK (fcl (l++[u,v,w])) (l.length*2+Int.toNat 2*2) K=K (fcl [w]):=fun K=>jhj l [w] u v K
 (conv=>whnf)
 (try simp only[hne,jiD,hca])
 repeat ((first|refine V.s1 ?_|((try ((with_reducible refine .ext ?_);(conv=>whnf);(try simp only[hne,jiD,hca])));(with_reducible refine jaa (r:=?_) ?_ ?_);rotate_left;(focus (first|fail));(conv=>whnf))|(((simp only[pg];(conv=>whnf)));(conv=>whnf)));(try simp only[hne,jiD,hca]))
 refine .inl ?_
 (conv=>whnf)
 refine⟨0,_,_,⟨Tryz.func95,rfl,rfl,jiw rfl⟩,?_⟩
 (conv=>whnf)
 (conv=>whnf)
 (try simp only[jiD])
 repeat ((first|refine V.s1 ?_|((try ((with_reducible refine .ext ?_);(conv=>whnf);(try simp only[jiD])));(with_reducible refine jaa (r:=?_) ?_ ?_);rotate_left;(focus (first|exact(tk)));(conv=>whnf))|(((simp only[pg];(conv=>whnf)));(conv=>whnf)));(try simp only[jiD]))
 refine .inl ?_
 (conv=>whnf)
 refine⟨0,_,_,⟨Tryz.func177,rfl,rfl,jiw rfl⟩,?_⟩
 (conv=>whnf)
 (conv=>whnf)
 (try simp only[hr,jiD])
 repeat ((first|refine V.s1 ?_|((try ((with_reducible refine .ext ?_);(conv=>whnf);(try simp only[hr,jiD])));(with_reducible refine jaa (r:=?_) ?_ ?_);rotate_left;(focus (first|exact(tk)));(conv=>whnf))|(((simp only[pg];(conv=>whnf)));(conv=>whnf))|(((simp only[hr,jiD,hsub];(conv=>whnf)));(conv=>whnf))|(((simp only[hble];(conv=>whnf)));(conv=>whnf)));(try simp only[hr,jiD]))
 refine⟨Pq8z,[],V.pok,.go (jab ?_)⟩
 (conv=>whnf)
 (try simp only[jiD])
 repeat ((first|refine V.s1 ?_|((try ((with_reducible refine .ext ?_);(conv=>whnf);(try simp only[jiD])));(with_reducible refine jaa (r:=?_) ?_ ?_);rotate_left;(focus (first|fail));(conv=>whnf))|(((simp only[pg];(conv=>whnf)));(conv=>whnf)));(try simp only[jiD]))
 refine .inl ?_
 (conv=>whnf)
 refine⟨0,_,_,⟨Tryz.func87,rfl,rfl,jiw rfl⟩,?_⟩
 (conv=>whnf)
 (conv=>whnf)
 (try simp only[jio,hs])
 repeat ((first|refine V.s1 ?_|((try ((with_reducible refine .ext ?_);(conv=>whnf);(try simp only[jio,hs])));(with_reducible refine jaa (r:=?_) ?_ ?_);rotate_left;(focus (first|exact(sg)));(conv=>whnf))|(((simp only[pg];(conv=>whnf)));(conv=>whnf))|(((simp only[hd2];(conv=>whnf)));(conv=>whnf))|(((simp only[hd1];(conv=>whnf)));(conv=>whnf)));(try simp only[jio,hs]))
 refine .inl ?_
 (conv=>whnf)
 refine⟨0,_,_,⟨Tryz.func176,rfl,rfl,jiw rfl⟩,?_⟩
 (conv=>whnf)
 repeat (simp only[pg];(conv=>whnf))
 refine jbE [(0,.box 58 0),(4,.box 200 0)] [(58,.box [.bsl 145 0 l.length 2,inF x,.fn 76 [] [],.mapr 44]),(145,.box (fcl l)),(200,.box [.str (decZ v.num),.str (dec v.den)]),(44,.mp esF),(114,.mp stepsF),(64,.box [.nil]),(65,.box [.int .i64 0])] (CondB.mk (fun h=>by simp at h) (fun _=>?_)) ?_
 ·(conv=>whnf)
  exact Wk.trim 145 (l.length*2) rfl (Wk.same 145 rfl (jc4 l [u,v,w]) V.wk)
 ·have pg:=jbD l
  have hb:=jcC l
  have ht:=jaP hl
  have hf:∀ i,D.freeL i (fcl l++[.str (decZ v.num),.str (dec v.den)])=true:=jbJ l _ _
  (conv=>whnf)
  refine⟨Pq20z,[],V.pok,.go (jab ?_)⟩
  (conv=>whnf)
  (try simp only[jiD,hkc])
  repeat ((first|refine V.s1 ?_|((try ((with_reducible refine .ext ?_);(conv=>whnf);(try simp only[jiD,hkc])));(with_reducible refine jaa (r:=?_) ?_ ?_);rotate_left;(focus (first|fail));(conv=>whnf))|(((simp only[pg];(conv=>whnf)));(conv=>whnf))|(((simp only[hb,ht,jjt,hf];(conv=>whnf)));(conv=>whnf)));(try simp only[jiD,hkc]))
  refine hok _ _ (Wk.renB 214 145 58 0 (l.length+1) 2 (by decide) (by decide) (by decide) (hf _) rfl rfl rfl ?_)
  exact V.wk
theorem rdF_pick0 (p:List (Int×Int))(x l:List Rat)(u v w:Rat)(k:Nat)(a:Int)(s:Int)(hk:k<p.length)(hp:p.length≤40)(hca:p.getD k (0,0)=(10,a))(hl:l.length≤16)
  (sg:Cl 88 [.agg [.str (decZ w.num),.str (dec w.den)]] (.tup [.int .i64 s,.int .i64 0])) (hs:decide (s<0)=false) {K:K3}
  (hok:∀ L H,Wk 103 L H (slM p (k+1)) (hpF x (l.length+1) (fcl l++[.str (decZ u.num),.str (dec u.den)]))→K .normal L H) :
  RunC Tryz.prog tb (inlN Tryz.prog tb 6) 42 ((jaF (Tryz.f49.body.getD .skip)).getD .skip) (fun _ _ _ _ _=>False) 103 (slM p k) (hpF x (l.length+3) (fcl (l++[u,v,w]))) K:=by
 have hkc:((k:Int)+1)=((k+1:Nat):Int):=by omega
 have hne:decide ((k:Int)=p.length)=false:=decide_eq_false (by omega)
 have pg:=jbD (l++[u,v,w])
 have tk:Cl 120 [.int .i64 10] (.tup [.int .i64 3,.bool true]):=jbf 10
 have hr:(((l.length+3:Nat):Int)-3)=(l.length:Nat):=by omega
 have hble:Nat.ble (0+(l.length+3)*2) (fcl (l++[u,v,w])).length=true:=by rw[jca,ji2];simp
 have hsub:l.length+3-l.length=3:=by omega
 have hd0:∀ K,dropK (fcl (l++[u,v,w])) (l.length*2+Int.toNat 0*2) K=K (fcl [u,v,w]):=fun K=>jbr [u,v,w] K l
 have hd1:∀ K,dropK (fcl (l++[u,v,w])) (l.length*2+Int.toNat 1*2) K=K (fcl [v,w]):=fun K=>je6 l [v,w] u K
 have hd2:∀ K,dropK (fcl (l++[u,v,w])) (l.length*2+Int.toNat 2*2) K=K (fcl [w]):=fun K=>jhj l [w] u v K
 (conv=>whnf)
 (try simp only[hne,jiD,hca])
 repeat ((first|refine V.s1 ?_|((try ((with_reducible refine .ext ?_);(conv=>whnf);(try simp only[hne,jiD,hca])));(with_reducible refine jaa (r:=?_) ?_ ?_);rotate_left;(focus (first|fail));(conv=>whnf))|(((simp only[pg];(conv=>whnf)));(conv=>whnf)));(try simp only[hne,jiD,hca]))
 refine .inl ?_
 (conv=>whnf)
 refine⟨0,_,_,⟨Tryz.func95,rfl,rfl,jiw rfl⟩,?_⟩
 (conv=>whnf)
 (conv=>whnf)
 (try simp only[jiD])
 repeat ((first|refine V.s1 ?_|((try ((with_reducible refine .ext ?_);(conv=>whnf);(try simp only[jiD])));(with_reducible refine jaa (r:=?_) ?_ ?_);rotate_left;(focus (first|exact(tk)));(conv=>whnf))|(((simp only[pg];(conv=>whnf)));(conv=>whnf)));(try simp only[jiD]))
 refine .inl ?_
 (conv=>whnf)
 refine⟨0,_,_,⟨Tryz.func177,rfl,rfl,jiw rfl⟩,?_⟩
 (conv=>whnf)
 (conv=>whnf)
 (try simp only[hr,jiD])
 repeat ((first|refine V.s1 ?_|((try ((with_reducible refine .ext ?_);(conv=>whnf);(try simp only[hr,jiD])));(with_reducible refine jaa (r:=?_) ?_ ?_);rotate_left;(focus (first|exact(tk)));(conv=>whnf))|(((simp only[pg];(conv=>whnf)));(conv=>whnf))|(((simp only[hr,jiD,hsub];(conv=>whnf)));(conv=>whnf))|(((simp only[hble];(conv=>whnf)));(conv=>whnf)));(try simp only[hr,jiD]))
 refine⟨Pq8z,[],V.pok,.go (jab ?_)⟩
 (conv=>whnf)
 (try simp only[jiD])
 repeat ((first|refine V.s1 ?_|((try ((with_reducible refine .ext ?_);(conv=>whnf);(try simp only[jiD])));(with_reducible refine jaa (r:=?_) ?_ ?_);rotate_left;(focus (first|fail));(conv=>whnf))|(((simp only[pg];(conv=>whnf)));(conv=>whnf)));(try simp only[jiD]))
 refine .inl ?_
 (conv=>whnf)
 refine⟨0,_,_,⟨Tryz.func87,rfl,rfl,jiw rfl⟩,?_⟩
 (conv=>whnf)
 (conv=>whnf)
 (try simp only[jio,hs])
 repeat ((first|refine V.s1 ?_|((try ((with_reducible refine .ext ?_);(conv=>whnf);(try simp only[jio,hs])));(with_reducible refine jaa (r:=?_) ?_ ?_);rotate_left;(focus (first|exact(sg)));(conv=>whnf))|(((simp only[pg];(conv=>whnf)));(conv=>whnf))|(((simp only[hd2];(conv=>whnf)));(conv=>whnf))|(((simp only[hd0];(conv=>whnf)));(conv=>whnf)));(try simp only[jio,hs]))
 refine .inl ?_
 (conv=>whnf)
 refine⟨0,_,_,⟨Tryz.func176,rfl,rfl,jiw rfl⟩,?_⟩
 (conv=>whnf)
 repeat (simp only[pg];(conv=>whnf))
 refine jbE [(0,.box 58 0),(4,.box 200 0)] [(58,.box [.bsl 145 0 l.length 2,inF x,.fn 76 [] [],.mapr 44]),(145,.box (fcl l)),(200,.box [.str (decZ u.num),.str (dec u.den)]),(44,.mp esF),(114,.mp stepsF),(64,.box [.nil]),(65,.box [.int .i64 0])] (CondB.mk (fun h=>by simp at h) (fun _=>?_)) ?_
 ·(conv=>whnf)
  exact Wk.trim 145 (l.length*2) rfl (Wk.same 145 rfl (jc4 l [u,v,w]) V.wk)
 ·have pg:=jbD l
  have hb:=jcC l
  have ht:=jaP hl
  have hf:∀ i,D.freeL i (fcl l++[.str (decZ u.num),.str (dec u.den)])=true:=jbJ l _ _
  (conv=>whnf)
  refine⟨Pq20z,[],V.pok,.go (jab ?_)⟩
  (conv=>whnf)
  (try simp only[jiD,hkc])
  repeat ((first|refine V.s1 ?_|((try ((with_reducible refine .ext ?_);(conv=>whnf);(try simp only[jiD,hkc])));(with_reducible refine jaa (r:=?_) ?_ ?_);rotate_left;(focus (first|fail));(conv=>whnf))|(((simp only[pg];(conv=>whnf)));(conv=>whnf))|(((simp only[hb,ht,jjt,hf];(conv=>whnf)));(conv=>whnf)));(try simp only[jiD,hkc]))
  refine hok _ _ (Wk.renB 214 145 58 0 (l.length+1) 2 (by decide) (by decide) (by decide) (hf _) rfl rfl rfl ?_)
  exact V.wk
def opF (c:Int):List Rat→Rat×Int
 | [u]=>if c=8 then (-u,0) else if c=9 then (absQ u,0) else (clQ u,0)
 | [u,v]=>
  let r:=if c=3 then u+v else if c=4 then u-v else if c=5 then u*v else if c=6 then (if v<u then v else u) else (if u<v then v else u)
  (r,cond (okF r) 0 6)
 | [u,v,w]=>(if w.num.sign<0 then v else u,0)
 | _=>(0,0)
def mF:Mc Rat:=⟨fun n=>Rat.divInt n 1000000,opF⟩
def hpA (x:List Rat):List Rat→Hp
 | []=>hpF0 x
 | q::l=>hpF x (q::l).length (fcl (q::l))
theorem jc2 (x l:List Rat)(q:Rat):hpA x (l++[q])=hpF x (l.length+1) (fcl l++[.str (decZ q.num),.str (dec q.den)]):=by
 have e:hpA x (l++[q])=hpF x (l++[q]).length (fcl (l++[q])):=by cases l<;>rfl
 rw[e,fcl_app,jja]
 rfl
theorem jhT (x l t:List Rat)(h:0<t.length):hpA x (l++t)=hpF x (l.length+t.length) (fcl (l++t)):=by
 rw[← jja]
 cases l with
 | nil=>cases t with
  | nil=>simp at h
  | cons q t=>rfl
 | cons q l=>rfl
theorem jfA {α:Type}[Inhabited α](M:Mc α)(x l t:List α)(c a:Int)(h1:c≠1)(h2:c≠2)(h3:c≠11)(ht:(tkn c).toNat=t.length):stM M x (c,a) (l++t)=putM l (M.op c t):=by
 unfold stM
 dsimp only
 rw[if_neg h1,if_neg h2,if_neg h3,ht,jja,Nat.add_sub_cancel,List.take_left,List.drop_left]
theorem snoc1 {α:Type} : ∀ l:List α,1≤l.length → ∃ m u,l=m++[u]:=fun l h=>by
 have hn:l≠[]:=by rintro rfl;simp at h
 exact⟨l.dropLast,l.getLast hn,(List.dropLast_concat_getLast hn).symm⟩
theorem snoc2 {α:Type}(l:List α)(h:2≤l.length):∃ m u v,l=m++[u,v]:=by
 obtain⟨m,v,rfl⟩:=snoc1 l (by omega)
 obtain⟨n,u,rfl⟩:=snoc1 m (by simp at h;omega)
 exact⟨n,u,v,by simp⟩
theorem snoc3 {α:Type}(l:List α)(h:3≤l.length):∃ m u v w,l=m++[u,v,w]:=by
 obtain⟨m,w,rfl⟩:=snoc1 l (by omega)
 obtain⟨n,u,v,rfl⟩:=snoc2 m (by simp at h;omega)
 exact⟨n,u,v,w,by simp⟩
abbrev rndF (p:List (Int×Int))(k:Nat)(H:Hp)(K:K3):Prop:=RunC Tryz.prog tb (inlN Tryz.prog tb 6) 42 ((jaF (Tryz.f49.body.getD .skip)).getD .skip) (fun _ _ _ _ _=>False) 103 (slM p k) H K
theorem jbA {l m:List Rat}{P:Rat→Prop}(h:∀ q∈l++m,P q):(∀ q∈l,P q) ∧ ∀ q∈m,P q:=⟨fun q hq=>h q (List.mem_append_left _ hq),fun q hq=>h q (List.mem_append_right _ hq)⟩
theorem jcZ {l:List Rat}{P:Rat→Prop}{q:Rat}(h:∀ q∈l,P q)(hq:P q):∀ r∈l++[q],P r:=fun r hr=>by
 rcases List.mem_append.1 hr with h1|h1
 ·exact h r h1
 ·rw[List.mem_singleton.1 h1];exact hq
abbrev pnc (e:Int):Exit := .panic [{ v := .iface 155 (.agg #[.int .i64 e]),recovered:=false }]
theorem ok_divInt (n:Int)(h : -1000000000≤n∧n≤1000000000):okF (Rat.divInt n 1000000)=true:=(jez (n:=n) (m:=1000000) (by omega) (by omega)).ok (by omega) (by omega)
section
variable {p : List (Int × Int)} {x l : List Rat} {k : Nat} {a : Int} {K : K3} (hk : k < p.length) (hp : p.length ≤ 40) (okx : ∀ q ∈ x, okF q = true) (okl : ∀ q ∈ l, okF q = true)
theorem jgO {c : Int} {fn : Nat} {r : Rat} {u v : Rat} {m : List Rat} (hl : l = m ++ [u, v]) (h1 : c ≠ 1) (h2 : c ≠ 2) (h3 : c ≠ 11) (ht : tkn c = 2) (hr : opF c [u, v] = (r, cond (okF r) 0 6)) (cf : Cl fn [frT u, frT v] (frR r))
    (rd : ∀ (S T : List UInt8) (e : Int) (cf : Cl fn [.agg [.str (decZ u.num), .str (dec u.den)], .agg [.str (decZ v.num), .str (dec v.den)]] (.tup [.agg [.str S, .str T], .int .i64 e]))
      (hok : e = 0 → ∀ L H, Wk 103 L H (slM p (k + 1)) (hpF x (m.length + 1) (fcl m ++ [.str S, .str T])) → K .normal L H)
      (hpan : e ≠ 0 → ∀ L H, Wk 103 L H slE hpE → K (pnc e) L H), rndF p k (hpF x (m.length + 2) (fcl (m ++ [u, v]))) K)
    (hok : ∀ l', stM mF x (c, a) l = .ok l' → (∀ q ∈ l', okF q = true) → ∀ L H, Wk 103 L H (slM p (k + 1)) (hpA x l') → K .normal L H)
    (hpan : ∀ e, (0 < e ∧ e < 1000) → stM mF x (c, a) l = .error e → ∀ L H, Wk 103 L H slE hpE → K (pnc e) L H) (okl : ∀ q ∈ l, okF q = true) : rndF p k (hpA x l) K := by
  subst hl
  have hs : stM mF x (c, a) (m ++ [u, v]) = putM m (r, cond (okF r) 0 6) := by rw [jfA mF x m [u, v] c a h1 h2 h3 (by rw [ht]; rfl), ← hr]; rfl
  rw [hs] at hok hpan
  rw [jhT x m [u, v] (by simp)]
  unfold frR at cf
  unfold frT at cf
  refine rd _ _ _ cf (fun he L H w => ?_) (fun he L H w => ?_)
  · cases ho : okF r with
    | false => rw [ho] at he; cases he
    | true =>
      rw [ho] at hok w
      refine hok (m ++ [r]) rfl (jcZ (jbA okl).1 ho) L H ?_
      rw [jc2]; exact w
  · cases ho : okF r with
    | true => rw [ho] at he; exact absurd rfl he
    | false =>
      rw [ho] at hpan
      exact hpan 6 (by decide) rfl L H w
theorem st_one {c : Int} {fn : Nat} {r : Rat} {u : Rat} {m : List Rat} (hl : l = m ++ [u]) (h1 : c ≠ 1) (h2 : c ≠ 2) (h3 : c ≠ 11) (ht : tkn c = 1) (hr : opF c [u] = (r, 0)) (cf : Cl fn [frT u] (.tup [frT r, .int .i64 0])) (ho : okF r = true)
    (rd : ∀ (S T : List UInt8) (e : Int) (cf : Cl fn [.agg [.str (decZ u.num), .str (dec u.den)]] (.tup [.agg [.str S, .str T], .int .i64 e]))
      (hok : e = 0 → ∀ L H, Wk 103 L H (slM p (k + 1)) (hpF x (m.length + 1) (fcl m ++ [.str S, .str T])) → K .normal L H)
      (hpan : e ≠ 0 → ∀ L H, Wk 103 L H slE hpE → K (pnc e) L H), rndF p k (hpF x (m.length + 1) (fcl (m ++ [u]))) K)
    (hok : ∀ l', stM mF x (c, a) l = .ok l' → (∀ q ∈ l', okF q = true) → ∀ L H, Wk 103 L H (slM p (k + 1)) (hpA x l') → K .normal L H) (okl : ∀ q ∈ l, okF q = true) : rndF p k (hpA x l) K := by
  subst hl
  have hs : stM mF x (c, a) (m ++ [u]) = putM m (r, 0) := by rw [jfA mF x m [u] c a h1 h2 h3 (by rw [ht]; rfl), ← hr]; rfl
  rw [hs] at hok
  rw [jhT x m [u] (by simp)]
  unfold frT at cf
  refine rd _ _ _ cf (fun he L H w => ?_) (fun he L H w => absurd rfl he)
  refine hok (m ++ [r]) rfl (jcZ (jbA okl).1 ho) L H ?_
  rw [jc2]; exact w
end
theorem step_F {p:List (Int×Int)}{x l:List Rat}{k:Nat}{s s':Int×Int}{K:K3}(hk:k<p.length)(hp:p.length≤40)(hs:svS x.length s (p.getD k (0,0))=some s')(hl:s.1=(l.length:Int))(h16:s.1≤16)(okx:∀ q∈x,okF q=true)(okl:∀ q∈l,okF q=true)
  (hok:∀ l',stM mF x (p.getD k (0,0)) l = .ok l'→(∀ q∈l',okF q=true) → ∀ L H,Wk 103 L H (slM p (k+1)) (hpA x l')→K .normal L H)
  (hpan:∀ e,(0<e∧e<1000)→stM mF x (p.getD k (0,0)) l = .error e → ∀ L H,Wk 103 L H slE hpE→K (pnc e) L H):rndF p k (hpA x l) K:=by
 obtain⟨c,a,hca⟩:∃ c a,p.getD k (0,0)=(c,a):=⟨_,_,rfl⟩
 rw[hca] at hs hok hpan
 unfold svS at hs
 split at hs
 case isFalse=>cases hs
 rename_i hc
 clear hs
 obtain⟨g1,g2,g3,g4,g5⟩:=hc
 dsimp only at g1 g2 g3 g4 g5
 unfold tkb at g1
 simp only[decide_eq_true_eq] at g1
 have hl16:l.length≤16:=by omega
 have cs:c=1∨c=2∨c=11∨c=3∨c=4∨c=5∨c=6∨c=7∨c=8∨c=9∨c=12∨c=10:=by omega
 have okd:∀ (y:List Rat) (n:Nat),n<y.length→(∀ q∈y,okF q=true)→okF (y.getD n default)=true:=fun y n hn h=>by
  rw[ji5,ji8 hn];exact h _ (ji9 hn)
 rcases cs with rfl|rfl|rfl|h2
 ·have ha:0≤a∧a<x.length:=by simp[loA,hiA] at g3 g4;omega
  have st:stM mF x (1,a) l = .ok (l++[x.getD a.toNat 0]):=rfl
  have w1:∀ L H,Wk 103 L H (slM p (k+1)) (hpA x (l++[x.getD a.toNat 0]))→K .normal L H:=fun L H w=>hok _ st (jcZ okl (okd x a.toNat (by omega) okx)) L H w
  rw[jc2] at w1
  cases l with
  | nil=>exact rdF_in0 p x k a hk hp hca ha w1
  | cons q l=>exact rdF_in1 p x (q::l) k a hk hp hca ha hl16 w1
 ·have ha : -1000000000≤a∧a≤1000000000:=by simp[loA,hiA] at g3 g4;omega
  have st:stM mF x (2,a) l = .ok (l++[Rat.divInt a 1000000]):=rfl
  have w1:∀ L H,Wk 103 L H (slM p (k+1)) (hpA x (l++[Rat.divInt a 1000000]))→K .normal L H:=fun L H w=>hok _ st (jcZ okl (ok_divInt a ha)) L H w
  have nu:=numF_c a ha
  unfold frT at nu
  rw[jc2] at w1
  cases l with
  | nil=>exact rdF_num0 p x _ _ k a hk hp hca nu w1
  | cons q l=>exact rdF_num1 p x (q::l) _ _ k a hk hp hca nu hl16 w1
 ·have ha:0≤a∧a≤s.1-1:=by simp[loA,hiA] at g3 g4;omega
  obtain⟨j,hj⟩:∃ j,j=l.length-1-a.toNat:=⟨_,rfl⟩
  have hjl:j<l.length:=by omega
  have st:stM mF x (11,a) l = .ok (l++[l.getD j 0]):=by rw[hj];rfl
  have w1:∀ L H,Wk 103 L H (slM p (k+1)) (hpA x (l++[l.getD j 0]))→K .normal L H:=fun L H w=>hok _ st (jcZ okl (okd l j hjl okl)) L H w
  rw[jc2] at w1
  have hd:∀ K,dropK (fcl l) (j*2) K=K (.str (decZ (l.getD j 0).num) :: .str (dec (l.getD j 0).den)::fcl (l.drop (j+1))):=fun K=>by
   have e:l=l.take j++(l.getD j 0::l.drop (j+1)):=by
    rw[ji5,ji8 hjl]
    simp
   have d:=jbr (l.getD j 0::l.drop (j+1)) K (l.take j)
   rw[← e,jjb,jiB (by omega)] at d
   exact d
  have r:=rdF_copy p x l (l.getD j 0) _ j k a hk hp hca hl16 (by omega) hjl hd w1
  cases l with
  | nil=>simp at hjl
  | cons q l=>exact r
 ·rcases h2 with rfl|rfl|rfl|rfl|rfl|h2
  ·obtain⟨m,u,v,rfl⟩:=snoc2 l (by have:tkn 3=2:=rfl;omega)
   have o2:=(jbA okl).2
   exact jgO (a:=a) rfl (by decide) (by decide) (by decide) rfl rfl (fadd_f (o2 u (by simp)) (o2 v (by simp))) (fun S T e cf h1 h2=>jeK (.inl ⟨rfl,rfl⟩) p x m u v k a S T e hk hp hca (by simp at hl16;omega) cf h1 h2) hok hpan okl
  ·obtain⟨m,u,v,rfl⟩:=snoc2 l (by have:tkn 4=2:=rfl;omega)
   have o2:=(jbA okl).2
   exact jgO (a:=a) rfl (by decide) (by decide) (by decide) rfl rfl (fsub_f (o2 u (by simp)) (o2 v (by simp))) (fun S T e cf h1 h2=>jeK (.inr (.inl ⟨rfl,rfl⟩)) p x m u v k a S T e hk hp hca (by simp at hl16;omega) cf h1 h2) hok hpan okl
  ·obtain⟨m,u,v,rfl⟩:=snoc2 l (by have:tkn 5=2:=rfl;omega)
   have o2:=(jbA okl).2
   exact jgO (a:=a) rfl (by decide) (by decide) (by decide) rfl rfl (fmul_f (o2 u (by simp)) (o2 v (by simp))) (fun S T e cf h1 h2=>jeK (.inr (.inr (.inl ⟨rfl,rfl⟩))) p x m u v k a S T e hk hp hca (by simp at hl16;omega) cf h1 h2) hok hpan okl
  ·obtain⟨m,u,v,rfl⟩:=snoc2 l (by have:tkn 6=2:=rfl;omega)
   have o2:=(jbA okl).2
   exact jgO (a:=a) rfl (by decide) (by decide) (by decide) rfl rfl (fmin_f (o2 u (by simp)) (o2 v (by simp))) (fun S T e cf h1 h2=>jeK (.inr (.inr (.inr (.inl ⟨rfl,rfl⟩)))) p x m u v k a S T e hk hp hca (by simp at hl16;omega) cf h1 h2) hok hpan okl
  ·obtain⟨m,u,v,rfl⟩:=snoc2 l (by have:tkn 7=2:=rfl;omega)
   have o2:=(jbA okl).2
   exact jgO (a:=a) rfl (by decide) (by decide) (by decide) rfl rfl (fmax_f (o2 u (by simp)) (o2 v (by simp))) (fun S T e cf h1 h2=>jeK (.inr (.inr (.inr (.inr ⟨rfl,rfl⟩)))) p x m u v k a S T e hk hp hca (by simp at hl16;omega) cf h1 h2) hok hpan okl
  ·rcases h2 with rfl|rfl|rfl|rfl
   ·obtain⟨m,u,rfl⟩:=snoc1 l (by have:tkn 8=1:=rfl;omega)
    have o1:=(jbA okl).2 u (by simp)
    exact st_one (a:=a) rfl (by decide) (by decide) (by decide) rfl rfl (fneg_f o1) (jhK o1) (fun S T e cf h1 h2=>rdF_neg p x m u k a S T e hk hp hca (by simp at hl16;omega) cf h1 h2) hok okl
   ·obtain⟨m,u,rfl⟩:=snoc1 l (by have:tkn 9=1:=rfl;omega)
    have o1:=(jbA okl).2 u (by simp)
    exact st_one (a:=a) rfl (by decide) (by decide) (by decide) rfl rfl (fabs_f o1) (jhL o1) (fun S T e cf h1 h2=>rdF_abs p x m u k a S T e hk hp hca (by simp at hl16;omega) cf h1 h2) hok okl
   ·obtain⟨m,u,rfl⟩:=snoc1 l (by have:tkn 12=1:=rfl;omega)
    have o1:=(jbA okl).2 u (by simp)
    exact st_one (a:=a) rfl (by decide) (by decide) (by decide) rfl rfl (clF_c o1) ((fq_cl_p (jbC o1) (by omega)).ok (by omega) (by omega)) (fun S T e cf h1 h2=>rdF_clamp p x m u k a S T e hk hp hca (by simp at hl16;omega) cf h1 h2) hok okl
   ·obtain⟨m,u,v,w,rfl⟩:=snoc3 l (by have:tkn 10=3:=rfl;omega)
    have o3:=(jbA okl).2
    have sg:=fsign_f (o3 w (by simp))
    unfold frT at sg
    have st:stM mF x (10,a) (m++[u,v,w]) = .ok (m++[if w.num.sign<0 then v else u]):=by rw[jfA mF x m [u,v,w] 10 a (by decide) (by decide) (by decide) rfl];rfl
    have w1:∀ L H,Wk 103 L H (slM p (k+1)) (hpA x (m++[if w.num.sign<0 then v else u]))→K .normal L H:=fun L H w'=>hok _ st (jcZ (jbA okl).1 (okF_if (o3 v (by simp)) (o3 u (by simp)))) L H w'
    rw[jc2] at w1
    rw[jhT x m [u,v,w] (by simp)]
    cases hq:decide (w.num.sign<0) with
    | true=>
     rw[if_pos (of_decide_eq_true hq)] at w1
     exact rdF_pick1 p x m u v w k a _ hk hp hca (by simp at hl16;omega) sg hq w1
    | false=>
     rw[if_neg (of_decide_eq_false hq)] at w1
     exact rdF_pick0 p x m u v w k a _ hk hp hca (by simp at hl16;omega) sg hq w1
theorem jaz (lo hi:Int):Cl 53 [bA lo hi] (.bool (vb lo hi)):=by
 refine V.en tbOk Tryz.func53 ?_
 (conv=>whnf)
 refine V.st ?_
 exact Fin.of rfl
def fl (q:Rat):Int:=q.num/(q.den:Int)
def oneE:Rat:=Rat.divInt 1000000000000 1
def jeD (x y:Rat):Int×Int×Int:=mk (fl (x*oneE)) (0-fl (-(y*oneE)))
theorem sm_fl {k:Nat}{q:Rat}(h:Q4 k q):Sm k (fl q):=h.1.le (by
 unfold fl
 exact ja4 _ _)
theorem mk_no {a b:Int}(h:¬ (-1000000000000000000≤a∧a≤b∧b≤1000000000000000000)):mk a b=(0,0,6):=by
 unfold mk
 rw[if_neg (fun e=>h (jam.1 e))]
theorem jf1 (x y:Rat)(hx:Q4 1000 x)(hy:Q4 1000 y):Cl 203 [raD x,raD y] (bD (jeD x y)):=by
 have q1:=jhG 1000000000000 1 (by constructor<;>decide) (by constructor<;>decide) (by decide)
 have y1:Sm 5 1000000000000:=Sm.lit (by decide)
 have y2:Sm 5 1:=Sm.lit (by decide)
 have hE:Q4 5 oneE:=Q4.of y1 y2 (by decide)
 have t1:=jcc x oneE (hx.mono (by omega)) (hE.mono (by omega))
 have t2:=jcc y oneE (hy.mono (by omega)) (hE.mono (by omega))
 have z1:=hx.mul hE
 have z2:=hy.mul hE
 have d1:=down_c (x*oneE) (z1.mono (by omega))
 have n2:=turn02_c (y*oneE) (z2.mono (by omega))
 have d2:=down_c (-(y*oneE)) (z2.neg.mono (by omega))
 have i1:=jfP (fl (x*oneE)) ((sm_fl z1).mono (by omega))
 have i2:=jfP (fl (-(y*oneE))) ((sm_fl z2.neg).mono (by omega))
 rw[show Rat.divInt 1000000000000 1=oneE from rfl] at q1
 rw[show (x*oneE).num/((x*oneE).den:Int)=fl (x*oneE) from rfl] at d1
 rw[show (-(y*oneE)).num/((-(y*oneE)).den:Int)=fl (-(y*oneE)) from rfl] at d2
 unfold jeD
 generalize fl (x*oneE)=a at *
 generalize fl (-(y*oneE))=b at *
 have r:=jaz a (0-b)
 by_cases h1 : -9223372036854775808≤a∧a≤9223372036854775807
 ·rw[if_pos h1,if_pos h1] at i1
  by_cases h2 : -9223372036854775808≤b∧b≤9223372036854775807
  ·rw[if_pos h2,if_pos h2] at i2
   by_cases h3:b = -9223372036854775808
   ·rw[mk_no (by omega)]
    subst h3
    refine V.en tbOk Tryz.func203 ?_
    (conv=>whnf)
    refine V.st ?_
    repeat ((try ((with_reducible refine .ext ?_);(conv=>whnf)));(with_reducible refine jaa (r:=?_) ?_ ?_);rotate_left;(focus (first|exact(q1)|exact(t1)|exact(d1)|exact(i1)|exact(t2)|exact(n2)|exact(d2)|exact(i2)));(conv=>whnf);refine V.st ?_)
    refine .inl ⟨fun h=>by simp at h,?_⟩
    (conv=>whnf)
    refine V.st ?_
    refine⟨.bool false,fun h=>by simp at h,?_⟩
    (conv=>whnf)
    refine V.st ?_
    exact Fin.of rfl
   ·unfold mk
    generalize hv:vb a (0-b)=v at *
    have h3d:decide (b = -9223372036854775808)=false:=decide_eq_false h3
    refine V.en tbOk Tryz.func203 ?_
    (conv=>whnf)
    (conv=>whnf)
    (try simp only[h3d])
    repeat ((first|refine V.s1 ?_|((try ((with_reducible refine .ext ?_);(conv=>whnf);(try simp only[h3d])));(with_reducible refine jaa (r:=?_) ?_ ?_);rotate_left;(focus (first|exact(q1)|exact(t1)|exact(d1)|exact(i1)|exact(t2)|exact(n2)|exact(d2)|exact(i2)|exact(r)));(conv=>whnf)));(try simp only[h3d]))
    refine V.br (fun hq=>?_) (fun hq=>?_)
    ·simp at hq
     subst hq
     rw[if_neg (by simp)]
     refine V.r0 h3d ?_
     exact Fin.of rfl
    ·simp at hq
     subst hq
     rw[if_pos rfl]
     refine V.r0 h3d ?_
     exact Fin.of rfl
  ·rw[if_neg h2,if_neg h2] at i2
   rw[mk_no (by omega)]
   refine V.en tbOk Tryz.func203 ?_
   (conv=>whnf)
   refine V.st ?_
   repeat ((try ((with_reducible refine .ext ?_);(conv=>whnf)));(with_reducible refine jaa (r:=?_) ?_ ?_);rotate_left;(focus (first|exact(q1)|exact(t1)|exact(d1)|exact(i1)|exact(t2)|exact(n2)|exact(d2)|exact(i2)));(conv=>whnf);refine V.st ?_)
   refine⟨.bool false,fun h=>by simp at h,?_⟩
   (conv=>whnf)
   refine V.st ?_
   exact Fin.of rfl
 ·rw[if_neg h1,if_neg h1] at i1
  rw[mk_no (by omega)]
  generalize (if -9223372036854775808≤b∧b≤9223372036854775807 then b else 0)=b1 at *
  generalize (if -9223372036854775808≤b∧b≤9223372036854775807 then (0:Int) else 6)=b2 at *
  refine V.en tbOk Tryz.func203 ?_
  (conv=>whnf)
  refine V.st ?_
  repeat ((try ((with_reducible refine .ext ?_);(conv=>whnf)));(with_reducible refine jaa (r:=?_) ?_ ?_);rotate_left;(focus (first|exact(q1)|exact(t1)|exact(d1)|exact(i1)|exact(t2)|exact(n2)|exact(d2)|exact(i2)));(conv=>whnf);refine V.st ?_)
  refine .inl ⟨fun h=>by simp at h,?_⟩
  (conv=>whnf)
  refine V.st ?_
  refine⟨.bool false,fun h=>by simp at h,?_⟩
  (conv=>whnf)
  refine V.st ?_
  refine V.br (fun hq=>?_) (fun hq=>?_)
  ·(conv=>whnf)
   refine V.st ?_
   exact Fin.of rfl
  ·simp at hq
def raL (q:Rat):List D:=[.bool (decide (q.num<0)),.ints .i64 (mg 10000 q.num.natAbs),.bool false,.ints .i64 (mg 10000 q.den)]
def lsr (m x:Rat):Rat:=if x<m then x else m
def gtr (m x:Rat):Rat:=if m<x then x else m
theorem ordQ_lt {x y:Rat} : ordQ x y<0↔x<y:=by
 unfold ordQ
 by_cases a:x<y
 ·rw[if_pos a];exact⟨fun _=>a,fun _=>by omega⟩
 ·rw[if_neg a]
  by_cases b:x=y
  ·rw[if_pos b];exact⟨fun h=>by omega,fun h=>absurd h a⟩
  ·rw[if_neg b];exact⟨fun h=>by omega,fun h=>absurd h a⟩
theorem ordQ_gt {x y:Rat} : ordQ x y>0↔y<x:=by
 unfold ordQ
 by_cases a:x<y
 ·rw[if_pos a];exact⟨fun h=>by omega,fun h=>absurd h (Rat.not_lt.2 (Rat.le_of_lt a))⟩
 ·rw[if_neg a]
  by_cases b:x=y
  ·rw[if_pos b,b];exact⟨fun h=>by omega,fun h=>absurd h (Rat.lt_irrefl)⟩
  ·rw[if_neg b];exact⟨fun _=>Rat.lt_of_le_of_ne (Rat.not_lt.1 a) (Ne.symm b),fun _=>by omega⟩
theorem jeE {op:Rat→Rat→Rat}{x:Rat}{xs:List Rat}{k:Nat}(h:k<xs.length):(xs.take (k+1)).foldl op x=op ((xs.take k).foldl op x) (xs.getD k 0):=by
 rw[List.take_add_one,List.foldl_append,ji5,ji8 h]
 rfl
theorem je3 {op:Rat→Rat→Rat}(hop:∀ a b,op a b=a∨op a b=b){K:Nat} : ∀ {xs:List Rat} {x:Rat},Q4 K x→(∀ q∈xs,Q4 K q)→Q4 K (xs.foldl op x)
 | [],x,h,_=>h
 | y::ys,x,h,g=>by
  rw[List.foldl_cons]
  refine je3 hop ?_ (fun q hq=>g q (List.mem_cons_of_mem _ hq))
  rcases hop x y with e|e
  ·rw[e];exact h
  ·rw[e];exact g y List.mem_cons_self
theorem lsr_or (a b:Rat):lsr a b=a∨lsr a b=b:=by unfold lsr;split<;>simp
theorem gtr_or (a b:Rat):gtr a b=a∨gtr a b=b:=by unfold gtr;split<;>simp
theorem between_c (x:Rat)(xs:List Rat)(hn:xs.length<100)(hx:Q4 1000 x)(hxs:∀ q∈xs,Q4 1000 q)(f:Nat→List D)(hf0:f 0=raL x)(hf:∀ j,j<xs.length→f (j+1)=raL (xs.getD j 0)) :
  Cl 204 [.slf 4 (xs.length+1) f] (bD (jeD (xs.foldl lsr x) (xs.foldl gtr x))):=by
 have ht:=jf1 (xs.foldl lsr x) (xs.foldl gtr x) (je3 lsr_or hx hxs) (je3 gtr_or hx hxs)
 unfold raL at hf0 hf
 obtain⟨n,hnn⟩:∃ n,n=xs.length+1:=⟨_,rfl⟩
 rw[← hnn]
 refine jgE tbOk 6 ⟨Tryz.func204,rfl,rfl,jiw rfl⟩ ?_
 (conv=>whnf)
 refine V.st ?_
 have hn0:(0:Int)<(n:Int):=by omega
 refine⟨(.take 0 (.take 1 (.take 2 (.take 3 (.take 4 (.take 5 (.ev (.cons 6 [5,4,3,2,1,0] (.ev (.cons 7 [5,4,3,2,1,0] (.ev (.cons 8 [5,4,3] (.ev (.cons 9 [] (.done) (.nil))) (.nil))) (.nil))) (.cons 7 [5,4,3,2,1,0] (.ev (.cons 6 [5,4,3,2,1,0] (.ev (.cons 8 [5,4,3] (.ev (.cons 9 [] (.done) (.nil))) (.nil))) (.nil))) (.nil)))))))))),[],⟨by kernel_rfl,by kernel_rfl,by kernel_rfl,by kernel_rfl⟩,?_⟩
 refine jaK [(4,.box 4 0),(5,.box 5 0)] [(4,.box [.bool (decide (x.num<0)),.ints .i64 (mg 10000 x.num.natAbs),.bool false,.ints .i64 (mg 10000 x.den)]),(5,.box [.bool (decide (x.num<0)),.ints .i64 (mg 10000 x.num.natAbs),.bool false,.ints .i64 (mg 10000 x.den)])] ?_ ?_
 ·have hf1:f (Int.toNat 0)=[.bool (decide (x.num<0)),.ints .i64 (mg 10000 x.num.natAbs),.bool false,.ints .i64 (mg 10000 x.den)]:=hf0
  (conv=>whnf);(try simp only[jiC,hf1])
  repeat' (first|exact V.wk|((with_reducible refine And.intro ?_ jbK);(conv=>whnf);(try simp only[jiC,hf1]))|((with_reducible first|refine jcn ?_ ?_|refine jcP ?_ ?_)<;>(conv=>whnf);(try simp only[jiC,hf1]))|((first|refine V.s1 ?_|((with_reducible refine ja8 ?_ ?_);(focus ((conv=>whnf);(try simp only[jiC,hf1]);(repeat ((first|refine V.s1 ?_);(try simp only[jiC,hf1])));exact⟨rfl⟩));(conv=>whnf)));(try simp only[jiC,hf1]))|(refine And.intro ?_ ?_<;>(conv=>whnf);(try simp only[jiC,hf1])))
  ·exact fun _=>⟨by omega,by omega⟩
  simp only[hf1]
  (conv=>whnf)
  refine And.intro (fun _=>⟨by omega,by omega⟩) ?_
  (conv=>whnf);(try simp only[jiC,hf1])
  repeat' (first|exact V.wk|((with_reducible refine And.intro ?_ jbK);(conv=>whnf);(try simp only[jiC,hf1]))|((with_reducible first|refine jcn ?_ ?_|refine jcP ?_ ?_)<;>(conv=>whnf);(try simp only[jiC,hf1]))|((first|refine V.s1 ?_|((with_reducible refine ja8 ?_ ?_);(focus ((conv=>whnf);(try simp only[jiC,hf1]);(repeat ((first|refine V.s1 ?_);(try simp only[jiC,hf1])));exact⟨rfl⟩));(conv=>whnf)));(try simp only[jiC,hf1]))|(refine And.intro ?_ ?_<;>(conv=>whnf);(try simp only[jiC,hf1])))
  all_goals first|exact fun _=>⟨by omega,by omega⟩|exact⟨rfl⟩|skip
 (conv=>whnf)
 refine V.st ?_
 refine jai (0:Nat) (fun k=>k≤xs.length) (fun k=>xs.length-k) (fun k=>[(6,.int .i64 ((k+1:Nat):Int))]) (fun k=>[(4,.box [.bool (decide (((xs.take k).foldl lsr x).num<0)),.ints .i64 (mg 10000 ((xs.take k).foldl lsr x).num.natAbs),.bool false,.ints .i64 (mg 10000 ((xs.take k).foldl lsr x).den)]),(5,.box [.bool (decide (((xs.take k).foldl gtr x).num<0)),.ints .i64 (mg 10000 ((xs.take k).foldl gtr x).num.natAbs),.bool false,.ints .i64 (mg 10000 ((xs.take k).foldl gtr x).den)])]) ?_ ?_ ?_
 ·exact V.wk
 ·exact jix _
 intro k hk
 have hkc:(((k+1:Nat):Int)+1)=((k+1+1:Nat):Int):=by omega
 have hi:((k+1:Nat):Int).toNat=k+1:=by omega
 have hlo:Q4 1000 ((xs.take k).foldl lsr x):=je3 lsr_or hx (fun q hq=>hxs q (jjh hq))
 have hhi:Q4 1000 ((xs.take k).foldl gtr x):=je3 gtr_or hx (fun q hq=>hxs q (jjh hq))
 (conv=>whnf)
 (try simp only[hkc,hi])
 repeat ((first|refine V.s1 ?_);(try simp only[hkc,hi]))
 refine Cnd.split (CondB.mk (fun hq=>?_) (fun hq=>?_))
 ·rw[decide_eq_true_eq] at hq
  have hkl:k<xs.length:=by omega
  have hl1:=jeE (op:=lsr) (x:=x) hkl
  have hg1:=jeE (op:=gtr) (x:=x) hkl
  have hfk:=hf k hkl
  have hy:Q4 1000 (xs.getD k 0):=hxs _ (by rw[ji5,ji8 hkl];exact ji9 hkl)
  have o1:=jgW (xs.getD k 0) ((xs.take k).foldl lsr x) (hy.mono (by omega)) (hlo.mono (by omega))
  have o2:=jgW (xs.getD k 0) ((xs.take k).foldl gtr x) (hy.mono (by omega)) (hhi.mono (by omega))
  generalize xs.getD k 0=y at *
  generalize (xs.take k).foldl lsr x=lo at *
  generalize (xs.take k).foldl gtr x=hi' at *
  have c1:=ordQ_lt (x:=y) (y:=lo)
  have c2:=ordQ_gt (x:=y) (y:=hi')
  (conv=>whnf)
  (try simp only[hkc,hi])
  repeat ((first|refine V.s1 ?_);(try simp only[hkc,hi]))
  refine⟨(.take 0 (.take 1 (.take 2 (.take 3 (.take 4 (.ev (.cons 5 [] (.take 6 (.done)) (.nil)))))))),[],⟨by kernel_rfl,by kernel_rfl,by kernel_rfl,by kernel_rfl⟩,.go (jab ?_)⟩
  (conv=>whnf)
  (try simp only[hkc,hi,hfk])
  repeat ((first|refine V.s1 ?_);(try simp only[hkc,hi,hfk]))
  (conv=>whnf)
  refine And.intro (fun _=>⟨by omega,by omega⟩) ?_
  (conv=>whnf)
  (try simp only[hkc,hi,hfk])
  repeat ((first|refine V.s1 ?_|((try ((with_reducible refine .ext ?_);(conv=>whnf);(try simp only[hkc,hi,hfk])));(with_reducible refine jaa (r:=?_) ?_ ?_);rotate_left;(focus (first|exact(o1)));(conv=>whnf)));(try simp only[hkc,hi,hfk]))
  refine Cnd.split (CondB.mk (fun h1=>?_) (fun h1=>?_))
  ·rw[decide_eq_true_eq] at h1
   have g1:lsr lo y=y:=by unfold lsr;rw[if_pos (c1.1 h1)]
   rw[g1] at hl1
   (conv=>whnf)
   (try simp only[hkc,hi,hfk])
   repeat ((first|refine V.s1 ?_);(try simp only[hkc,hi,hfk]))
   (conv=>whnf)
   refine And.intro (fun _=>⟨by omega,by omega⟩) ?_
   (conv=>whnf)
   (try simp only[hkc,hi,hfk])
   repeat ((first|refine V.s1 ?_);(try simp only[hkc,hi,hfk]))
   refine⟨(.take 0 (.take 1 (.take 2 (.take 3 (.take 4 (.ev (.cons 5 [] (.take 6 (.done)) (.nil)))))))),[],⟨by kernel_rfl,by kernel_rfl,by kernel_rfl,by kernel_rfl⟩,.go (jab ?_)⟩
   (conv=>whnf)
   (try simp only[hkc,hi,hfk])
   repeat ((first|refine V.s1 ?_);(try simp only[hkc,hi,hfk]))
   (conv=>whnf)
   refine And.intro (fun _=>⟨by omega,by omega⟩) ?_
   (conv=>whnf)
   (try simp only[hkc,hi,hfk])
   repeat ((first|refine V.s1 ?_|((try ((with_reducible refine .ext ?_);(conv=>whnf);(try simp only[hkc,hi,hfk])));(with_reducible refine jaa (r:=?_) ?_ ?_);rotate_left;(focus (first|exact(o2)));(conv=>whnf)));(try simp only[hkc,hi,hfk]))
   refine Cnd.split (CondB.mk (fun h2=>?_) (fun h2=>?_))
   ·rw[decide_eq_true_eq] at h2
    have g2:gtr hi' y=y:=by unfold gtr;rw[if_pos (c2.1 h2)]
    rw[g2] at hg1
    (conv=>whnf)
    (try simp only[hkc,hi,hfk])
    repeat ((first|refine V.s1 ?_);(try simp only[hkc,hi,hfk]))
    (conv=>whnf)
    refine And.intro (fun _=>⟨by omega,by omega⟩) ?_
    (conv=>whnf)
    (try simp only[hkc,hi,hfk])
    repeat ((first|refine V.s1 ?_);(try simp only[hkc,hi,hfk]))
    refine⟨k+1,by omega,by omega,?_⟩
    rw[hl1,hg1]
    exact V.wk
   ·rw[decide_eq_false_iff_not] at h2
    have g2:gtr hi' y=hi':=by unfold gtr;rw[if_neg (fun h=>h2 (c2.2 h))]
    rw[g2] at hg1
    (conv=>whnf)
    (try simp only[hkc,hi,hfk])
    repeat ((first|refine V.s1 ?_);(try simp only[hkc,hi,hfk]))
    refine⟨k+1,by omega,by omega,?_⟩
    rw[hl1,hg1]
    exact V.wk
  ·rw[decide_eq_false_iff_not] at h1
   have g1:lsr lo y=lo:=by unfold lsr;rw[if_neg (fun h=>h1 (c1.2 h))]
   rw[g1] at hl1
   (conv=>whnf)
   (try simp only[hkc,hi,hfk])
   repeat ((first|refine V.s1 ?_);(try simp only[hkc,hi,hfk]))
   refine⟨(.take 0 (.take 1 (.take 2 (.take 3 (.take 4 (.ev (.cons 5 [] (.take 6 (.done)) (.nil)))))))),[],⟨by kernel_rfl,by kernel_rfl,by kernel_rfl,by kernel_rfl⟩,.go (jab ?_)⟩
   (conv=>whnf)
   (try simp only[hkc,hi,hfk])
   repeat ((first|refine V.s1 ?_);(try simp only[hkc,hi,hfk]))
   (conv=>whnf)
   refine And.intro (fun _=>⟨by omega,by omega⟩) ?_
   (conv=>whnf)
   (try simp only[hkc,hi,hfk])
   repeat ((first|refine V.s1 ?_|((try ((with_reducible refine .ext ?_);(conv=>whnf);(try simp only[hkc,hi,hfk])));(with_reducible refine jaa (r:=?_) ?_ ?_);rotate_left;(focus (first|exact(o2)));(conv=>whnf)));(try simp only[hkc,hi,hfk]))
   refine Cnd.split (CondB.mk (fun h2=>?_) (fun h2=>?_))
   ·rw[decide_eq_true_eq] at h2
    have g2:gtr hi' y=y:=by unfold gtr;rw[if_pos (c2.1 h2)]
    rw[g2] at hg1
    (conv=>whnf)
    (try simp only[hkc,hi,hfk])
    repeat ((first|refine V.s1 ?_);(try simp only[hkc,hi,hfk]))
    (conv=>whnf)
    refine And.intro (fun _=>⟨by omega,by omega⟩) ?_
    (conv=>whnf)
    (try simp only[hkc,hi,hfk])
    repeat ((first|refine V.s1 ?_);(try simp only[hkc,hi,hfk]))
    refine⟨k+1,by omega,by omega,?_⟩
    rw[hl1,hg1]
    exact V.wk
   ·rw[decide_eq_false_iff_not] at h2
    have g2:gtr hi' y=hi':=by unfold gtr;rw[if_neg (fun h=>h2 (c2.2 h))]
    rw[g2] at hg1
    (conv=>whnf)
    (try simp only[hkc,hi,hfk])
    repeat ((first|refine V.s1 ?_);(try simp only[hkc,hi,hfk]))
    refine⟨k+1,by omega,by omega,?_⟩
    rw[hl1,hg1]
    exact V.wk
 ·rw[decide_eq_false_iff_not] at hq
  have hk2:k=xs.length:=by omega
  rw[hk2,jjr]
  (conv=>whnf)
  refine V.st ?_
  repeat ((try ((with_reducible refine .ext ?_);(conv=>whnf)));(with_reducible refine jaa (r:=?_) ?_ ?_);rotate_left;(focus (first|exact(ht)));(conv=>whnf);refine V.st ?_)
  exact Fin.of rfl
theorem fl_floor (q:Rat):fl q=q.floor:=by unfold fl;rw[Rat.floor_def]
theorem fl_mono {x y:Rat}(h:x≤y):fl x≤fl y:=by rw[fl_floor,fl_floor];exact Rat.floor_monotone h
theorem jhh (n d:Int)(hd:0<d):fl (Rat.divInt n d)=n/d:=by
 unfold fl
 rw[Rat.num_divInt,Rat.den_divInt,if_neg (by omega),ji0 hd,Int.one_mul]
 have hg:0<d.gcd n:=Int.gcd_pos_of_ne_zero_left _ (by omega)
 obtain⟨a,ha⟩:=Int.gcd_dvd_right d n
 obtain⟨b,hb⟩:=Int.gcd_dvd_left d n
 generalize d.gcd n=g at *
 have e1:n/(g:Int)=a:=by rw[ha,Int.mul_ediv_cancel_left _ (by omega)]
 have e2:((d.natAbs/g:Nat):Int)=b:=by
  rw[Int.natCast_ediv,show (d.natAbs:Int)=d by omega,hb,Int.mul_ediv_cancel_left _ (by omega)]
 rw[e1,e2,ha,hb,Int.mul_ediv_mul_of_pos _ _ (by omega)]
theorem jhg {z d k : Int} (hk : 0 < k) : flo (z * k) (d * k) = flo z d := by
  unfold flo
  by_cases hd : 0 < d
  · rw [if_pos (Int.mul_pos hd hk), if_pos hd, Int.mul_ediv_mul_of_pos_left _ _ hk]
  · have : ¬ 0 < d * k := fun h => hd (by
      rcases Int.lt_or_le 0 d with h2 | h2
      · exact h2
      · have := Int.mul_nonpos_of_nonpos_of_nonneg h2 (Int.le_of_lt hk); omega)
    rw [if_neg this, if_neg hd, ← Int.neg_mul, ← Int.neg_mul, Int.mul_ediv_mul_of_pos_left _ _ hk]
theorem cei_scale {z d k:Int}(hk:0<k):cei (z*k) (d*k)=cei z d:=by
 unfold cei;rw[← Int.neg_mul,jhg hk]
theorem fl_any (n d:Int)(hd:d≠0):fl (Rat.divInt n d)=flo n d:=by
 unfold flo
 by_cases h:0<d
 ·rw[if_pos h,jhh n d h]
 ·rw[if_neg h,← Rat.neg_divInt_neg,jhh _ _ (by omega)]
def loE (x:Rat):Int:=fl (x*oneE)
def hiE (x:Rat):Int:=0-fl (-(x*oneE))
theorem jdo (x y:Rat):jeD x y=mk (loE x) (hiE y):=rfl
theorem mul_oneE (n d:Int):Rat.divInt n d*oneE=Rat.divInt (n*1000000000000) d:=by
 unfold oneE;rw[Rat.divInt_mul_divInt,Int.mul_one]
theorem jfN (n d:Int)(hd:d≠0):loE (Rat.divInt n d)=flo (n*1000000000000) d:=by
 unfold loE;rw[mul_oneE,fl_any _ _ hd]
theorem jfQ (n d:Int)(hd:d≠0):hiE (Rat.divInt n d)=cei (n*1000000000000) d:=by
 unfold hiE cei;rw[mul_oneE,Rat.neg_divInt,fl_any _ _ hd];omega
theorem oneE_pos:(0:Rat)≤oneE:=by decide +kernel
theorem loE_mono {x y:Rat}(h:x≤y):loE x≤loE y:=fl_mono (Rat.mul_le_mul_of_nonneg_right h oneE_pos)
theorem hiE_mono {x y:Rat}(h:x≤y):hiE x≤hiE y:=by
 have:=fl_mono (Rat.neg_le_neg (Rat.mul_le_mul_of_nonneg_right h oneE_pos))
 unfold hiE;omega
theorem loE_lsr (a b:Rat):loE (lsr a b)=min (loE a) (loE b):=by
 unfold lsr
 by_cases h:b<a
 ·rw[if_pos h];have:=loE_mono (Rat.le_of_lt h);omega
 ·rw[if_neg h];have:=loE_mono (Rat.not_lt.1 h);omega
theorem hiE_gtr (a b:Rat):hiE (gtr a b)=max (hiE a) (hiE b):=by
 unfold gtr
 by_cases h:a<b
 ·rw[if_pos h];have:=hiE_mono (Rat.le_of_lt h);omega
 ·rw[if_neg h];have:=hiE_mono (Rat.not_lt.1 h);omega
theorem tight4 (a b c d:Rat):jeD ([b,c,d].foldl lsr a) ([b,c,d].foldl gtr a)=mk (mn4 (loE a) (loE b) (loE c) (loE d)) (mx4 (hiE a) (hiE b) (hiE c) (hiE d)):=by
 rw[jdo]
 simp only[List.foldl_cons,List.foldl_nil,loE_lsr,hiE_gtr]
 rfl
theorem unit_mul (p q:Int):unit p*unit q=Rat.divInt (p*q) (1000000000000*1000000000000):=by
 unfold unit;rw[Rat.divInt_mul_divInt]
theorem jdn (p q:Int):unit p+unit q=unit (p+q):=by
 unfold unit
 rw[Rat.divInt_add_divInt _ _ (by decide) (by decide),← jiY,Rat.divInt_mul_right (by decide)]
theorem jdm (p q:Int):unit p-unit q=unit (p-q):=by
 unfold unit
 rw[Rat.divInt_sub_divInt _ _ (by decide) (by decide),← Int.sub_mul,Rat.divInt_mul_right (by decide)]
theorem jgs (p:Int):loE (unit p)=p:=by
 unfold unit;rw[jfN _ _ (by decide),flo_self (by decide)]
theorem jgx (p:Int):hiE (unit p)=p:=by
 unfold unit;rw[jfQ _ _ (by decide),cei_self (by decide)]
theorem loE_mul (p q:Int):loE (unit p*unit q)=flo (p*q) 1000000000000:=by
 rw[unit_mul,jfN _ _ (by decide),jhg (by decide)]
theorem hiE_mul (p q:Int):hiE (unit p*unit q)=cei (p*q) 1000000000000:=by
 rw[unit_mul,jfQ _ _ (by decide),cei_scale (by decide)]
theorem jc9 (p:Int)(h : -9223372036854775808≤p∧p≤9223372036854775807):Q4 5 (unit p):=by
 unfold unit
 exact Q4.of (Sm.lit (by omega)) (Sm.lit (by decide)) (by decide)
theorem divInt_eq' (n d:Int)(hd:0<d)(x:Rat):x=Rat.divInt n d↔x.num*d=n*x.den:=by
 have hp:=x.den_pos
 conv=>lhs;rw[← ji1 x]
 exact Rat.divInt_eq_divInt_iff (by omega) (by omega)
theorem unit_eq (m:Int)(x:Rat):x=unit m↔x.num*1000000000000=m*x.den:=divInt_eq' m _ (by decide) x
theorem near_bd (x:Rat):2*(nearZ x 1000000000000*x.den)≤2*(x.num*1000000000000)+x.den∧2*(x.num*1000000000000)+x.den<2*(nearZ x 1000000000000*x.den)+2*x.den:=by
 have hp:=x.den_pos
 unfold nearZ
 have h1:=jiz (x.num*((1000000000000*2:Nat):Int)+x.den) ((x.den*2:Nat):Int)
 have h2:=jiy (x.num*((1000000000000*2:Nat):Int)+x.den) (show ((x.den*2:Nat):Int)≠0 by omega)
 have h3:=jiW (x.num*((1000000000000*2:Nat):Int)+x.den) (show 0<((x.den*2:Nat):Int) by omega)
 generalize (x.num*((1000000000000*2:Nat):Int)+x.den)%((x.den*2:Nat):Int)=r at *
 generalize (x.num*((1000000000000*2:Nat):Int)+x.den)/((x.den*2:Nat):Int)=n at *
 have e:((x.den*2:Nat):Int)*n=2*(n*x.den):=by
  rw[show ((x.den*2:Nat):Int)=2*(x.den:Int) by omega,jiR,jiQ (x.den:Int) n]
 rw[e] at h1
 generalize n*(x.den:Int)=y at *
 omega
theorem jg3 (m:Int):nearZ (unit m) 1000000000000=m:=by
 obtain⟨b1,b2⟩:=near_bd (unit m)
 have h:=(unit_eq m (unit m)).1 rfl
 have hp:=(unit m).den_pos
 generalize nearZ (unit m) 1000000000000=n at *
 rw[h] at b1 b2
 generalize (unit m).den=d at *
 rcases Int.lt_trichotomy n m with g|g|g
 ·exfalso
  have:=jiJ (show n+1≤m by omega) (show (0:Int)≤d by omega)
  rw[jiY] at this
  omega
 ·exact g
 ·exfalso
  have:=jiJ (show m+1≤n by omega) (show (0:Int)≤d by omega)
  rw[jiY] at this
  omega
theorem jih (m:Int)(h:vb m m=true):jgH (unit m)=(m,m,0):=by
 unfold jgH
 rw[jg3,if_pos h,show ordQ (unit m) (unit m)=0 by unfold ordQ;rw[if_neg Rat.lt_irrefl,if_pos rfl]]
 rw[show min (0:Int) 0=0 from rfl,show max (0:Int) 0=0 from rfl,Int.add_zero]
 unfold mk
 rw[if_pos h]
theorem jgK (f:Nat):Cl 99 [.fn f [] []] (.fn 181 [] [.ref [.fn f [] []]]):=by
 refine V.en tbOk Tryz.func99 ?_
 (conv=>whnf)
 refine V.st ?_
 exact Fin.of rfl
theorem oneB_c (f:Nat):Cl 105 [.fn f [] []] (.fn 190 [] [.ref [.fn f [] []]]):=by
 refine V.en tbOk Tryz.func105 ?_
 (conv=>whnf)
 refine V.st ?_
 exact Fin.of rfl
theorem around_num (n:Int)(h : -1000000000≤n∧n≤1000000000):Cl 98 [frT (Rat.divInt n 1000000)] (.tup [.agg [.int .i64 (n*1000000),.int .i64 (n*1000000)],.int .i64 0]):=by
 have eu:Rat.divInt n 1000000=unit (n*1000000):=by
  unfold unit
  exact(Rat.divInt_mul_right (n:=n) (d:=1000000) (a:=1000000) (by decide)).symm
 have o:=jdY ((jez (n:=n) (m:=1000000) (by omega) (by omega)).ok (by omega) (by omega))
 have a:=jih (n*1000000) (jam.2 (by omega))
 rw[← eu] at a
 have c:=around_b (decZ (Rat.divInt n 1000000).num) (dec (Rat.divInt n 1000000).den) o.1 (by rw[o.2,eu,jg3];omega)
 rw[o.2,a] at c
 exact c
theorem numB_c (n:Int)(h : -1000000000≤n∧n≤1000000000):Cl 97 [.int .i64 n] (.tup [.agg [.int .i64 (n*1000000),.int .i64 (n*1000000)],.int .i64 0]):=by
 have c:=y_of (n:=n) (m:=1000000) (by omega) (by omega)
 have a:=around_num n h
 unfold frT at *
 generalize Rat.divInt n 1000000=q at *
 generalize n*1000000=m at *
 refine V.en tbOk Tryz.func97 ?_
 (conv=>whnf)
 refine V.st ?_
 repeat ((try ((with_reducible refine .ext ?_);(conv=>whnf)));(with_reducible refine jaa (r:=?_) ?_ ?_);rotate_left;(focus (first|exact(c)|exact(a)));(conv=>whnf);refine V.st ?_)
 exact Fin.of rfl
theorem clB_c (p q:Int)(h:vb p q=true):Cl 110 [.agg [.int .i64 p,.int .i64 q]] (.tup [.agg [.int .i64 (min (max p 0) 1000000000000),.int .i64 (min (max q 0) 1000000000000)],.int .i64 0]):=by
 have c:=clamp_b p q 0 1000000000000
 have v:=jam.1 h
 rw[if_pos h,if_pos (jam.2 (by omega))] at c
 have e:mk (min (max p 0) 1000000000000) (min (max q 0) 1000000000000)=(min (max p 0) 1000000000000,min (max q 0) 1000000000000,0):=by
  unfold mk
  rw[if_pos (jam.2 (by omega))]
 rw[e] at c
 unfold bA bD at c
 generalize min (max p 0) 1000000000000=x at *
 generalize min (max q 0) 1000000000000=y at *
 refine V.en tbOk Tryz.func110 ?_
 (conv=>whnf)
 refine V.st ?_
 repeat ((try ((with_reducible refine .ext ?_);(conv=>whnf)));(with_reducible refine jaa (r:=?_) ?_ ?_);rotate_left;(focus (first|exact(c)));(conv=>whnf);refine V.st ?_)
 exact Fin.of rfl
def bcl:List (Int×Int)→List D
 | []=>[]
 | q::l => .int .i64 q.1 :: .int .i64 q.2::bcl l
theorem jaC (l m:List (Int×Int)):bcl (l++m)=bcl l++bcl m:=by
 induction l with
 | nil=>rfl
 | cons q l ih=>simp[bcl,ih]
theorem jaN (l:List (Int×Int)):(bcl l).length=l.length*2:=by
 induction l with
 | nil=>rfl
 | cons q l ih=>simp only[bcl,jjj,ih];omega
theorem jbq (l:List (Int×Int)):Nat.beq (bcl l).length (l.length*2)=true:=by rw[jaN];exact Nat.beq_refl _
theorem jaA (l:List (Int×Int))(i:Nat)(K:List D→Prop):jcu i (bcl l) K=K (bcl l):=by
 have e:∀ m:List (Int×Int),jbX i (bcl m)=bcl m:=fun m=>by
  induction m with
  | nil=>rfl
  | cons q m ih=>simp only[bcl,jbX,D.free,ih]
 rw[jdb,e]
theorem jcE (l r:List (Int×Int)):(bcl (l++r)).take (l.length*2)=bcl l:=by
 rw[jaC,List.take_append_of_le_length (by rw[jaN];omega),jjm (by rw[jaN];omega)]
theorem jay (l:List (Int×Int))(S T:Int)(i:Nat):D.freeL i (bcl l++[.int .i64 S,.int .i64 T])=true:=by
 induction l with
 | nil=>rfl
 | cons q l ih=>simp only[bcl,ji3,D.freeL,D.free];exact ih
theorem jbl (r:List (Int×Int))(K:List D→Prop):∀ l:List (Int×Int),dropK (bcl (l++r)) (l.length*2) K=K (bcl r)
 | []=>by simp only[jji,List.length_nil,Nat.zero_mul,dropK]
 | q::l=>by
  have e:(q::l).length*2=l.length*2+1+1:=by simp only[jjj];omega
  rw[e]
  simp only[ji3,bcl,dropK]
  exact jbl r K l
theorem jdP (l r:List (Int×Int))(u:(Int×Int))(K:List D→Prop):dropK (bcl (l++u::r)) (l.length*2+2) K=K (bcl r):=by
 have:=jbl r K (l++[u])
 rw[jjc,jja,Nat.add_mul] at this
 exact this
theorem jfm (l r:List (Int×Int))(u v:(Int×Int))(K:List D→Prop):dropK (bcl (l++u::v::r)) (l.length*2+4) K=K (bcl r):=by
 have:=jbl r K (l++[u,v])
 rw[jjc,jja,Nat.add_mul] at this
 exact this
theorem jdi (r:List D)(n:Nat)(K:D→Prop):∀ l:List (Int×Int),nthK (bcl l++r) (l.length*2+n) K=nthK r n K
 | []=>by simp only[bcl,jji,List.length_nil,Nat.zero_mul,jiC]
 | q::l=>by
  have e:(q::l).length*2+n=l.length*2+n+1+1:=by simp only[jjj];omega
  rw[e]
  simp only[ji3,bcl,nthK]
  exact jdi r n K l
abbrev inB (x:List (Int×Int)):D := .slf 2 x.length (fun j=>[.int .i64 (x.getD j (0,0)).1,.int .i64 (x.getD j (0,0)).2])
abbrev esB:List (Int×D):=[(3,.fn 181 [] [.ref [.fn 100 [] []]]),(4,.fn 181 [] [.ref [.fn 101 [] []]]),(5,.fn 181 [] [.ref [.fn 102 [] []]]),(6,.fn 181 [] [.ref [.fn 103 [] []]]),(7,.fn 181 [] [.ref [.fn 104 [] []]]),(8,.fn 190 [] [.ref [.fn 106 [] []]]),(9,.fn 190 [] [.ref [.fn 107 [] []]]),(10,.fn 108 [] []),(12,.fn 190 [] [.ref [.fn 110 [] []]])]
abbrev stepsB:List (Int×D):=[(1,.fn 113 [] []),(2,.fn 114 [] []),(11,.fn 115 [] [])]
abbrev hpB0 (x:List (Int×Int)):Hp:=[(58,.box [.nil,inB x,.fn 97 [] [],.mapr 44]),(44,.mp esB),(114,.mp stepsB),(64,.box [.nil]),(65,.box [.int .i64 0])]
abbrev hpB (x:List (Int×Int))(n:Nat)(cs:List D):Hp:=[(58,.box [.bsl 145 0 n 2,inB x,.fn 97 [] [],.mapr 44]),(145,.box cs),(44,.mp esB),(114,.mp stepsB),(64,.box [.nil]),(65,.box [.int .i64 0])]
theorem rdB_in0 (p:List (Int×Int))(x:List (Int×Int))(k:Nat)(a:Int)(hk:k<p.length)(hp:p.length≤40)(hca:p.getD k (0,0)=(1,a))(ha:0≤a∧a<x.length){K:K3}
  (hok:∀ L H,Wk 103 L H (slM p (k+1)) (hpB x 1 [.int .i64 (x.getD a.toNat (0,0)).1,.int .i64 (x.getD a.toNat (0,0)).2])→K .normal L H):RunC Tryz.prog tb (inlN Tryz.prog tb 6) 42 ((jaF (Tryz.f52.body.getD .skip)).getD .skip) (fun _ _ _ _ _=>False) 103 (slM p k) (hpB0 x) K:=by
 have hkc:((k:Int)+1)=((k+1:Nat):Int):=by omega
 have hne:decide ((k:Int)=p.length)=false:=decide_eq_false (by omega)
 refine V.r0 (V.a3 hne @jiD hca) ?_
 refine .inl ?_
 (conv=>whnf)
 refine⟨0,_,_,⟨Tryz.func113,rfl,rfl,jiw rfl⟩,?_⟩
 refine V.r0 @jiD ?_
 refine⟨Pq10z,[],V.pok,.go (jab ?_)⟩
 refine V.r0 @jiD ?_
 refine .inl ?_
 (conv=>whnf)
 refine⟨0,_,_,⟨Tryz.func195,rfl,rfl,jiw rfl⟩,?_⟩
 refine V.r0 @jiD ?_
 refine⟨Pq20z,[],V.pok,.go (jab ?_)⟩
 refine V.r0 (V.a2 @jiD hkc) ?_
 refine hok _ _ (Wk.renB 179 145 58 0 1 2 (by decide) (by decide) (by decide) rfl rfl rfl rfl ?_)
 exact V.wk
theorem rdB_in1 (p:List (Int×Int))(x l:List (Int×Int))(k:Nat)(a:Int)(hk:k<p.length)(hp:p.length≤40)(hca:p.getD k (0,0)=(1,a))(ha:0≤a∧a<x.length)(hl:l.length≤16){K:K3}
  (hok:∀ L H,Wk 103 L H (slM p (k+1)) (hpB x (l.length+1) (bcl l++[.int .i64 (x.getD a.toNat (0,0)).1,.int .i64 (x.getD a.toNat (0,0)).2]))→K .normal L H):RunC Tryz.prog tb (inlN Tryz.prog tb 6) 42 ((jaF (Tryz.f52.body.getD .skip)).getD .skip) (fun _ _ _ _ _=>False) 103 (slM p k) (hpB x l.length (bcl l)) K:=by
 have hkc:((k:Int)+1)=((k+1:Nat):Int):=by omega
 have hne:decide ((k:Int)=p.length)=false:=decide_eq_false (by omega)
 have pg:=jaA l
 have hb:=jbq l
 have ht:=jaP hl
 have hf:∀ i,D.freeL i (bcl l++[.int .i64 (x.getD a.toNat (0,0)).1,.int .i64 (x.getD a.toNat (0,0)).2])=true:=jay l _ _
 (conv=>whnf)
 (try simp only[hne,jiD,hca])
 repeat ((first|refine V.s1 ?_|((try ((with_reducible refine .ext ?_);(conv=>whnf);(try simp only[hne,jiD,hca])));(with_reducible refine jaa (r:=?_) ?_ ?_);rotate_left;(focus (first|fail));(conv=>whnf))|(((simp only[pg];(conv=>whnf)));(conv=>whnf)));(try simp only[hne,jiD,hca]))
 refine .inl ?_
 (conv=>whnf)
 refine⟨0,_,_,⟨Tryz.func113,rfl,rfl,jiw rfl⟩,?_⟩
 (conv=>whnf)
 (conv=>whnf)
 (try simp only[jiD])
 repeat ((first|refine V.s1 ?_|((try ((with_reducible refine .ext ?_);(conv=>whnf);(try simp only[jiD])));(with_reducible refine jaa (r:=?_) ?_ ?_);rotate_left;(focus (first|fail));(conv=>whnf))|(((simp only[pg];(conv=>whnf)));(conv=>whnf)));(try simp only[jiD]))
 refine⟨Pq10z,[],V.pok,.go (jab ?_)⟩
 (conv=>whnf)
 (try simp only[jiD])
 repeat ((first|refine V.s1 ?_|((try ((with_reducible refine .ext ?_);(conv=>whnf);(try simp only[jiD])));(with_reducible refine jaa (r:=?_) ?_ ?_);rotate_left;(focus (first|fail));(conv=>whnf))|(((simp only[pg];(conv=>whnf)));(conv=>whnf)));(try simp only[jiD]))
 refine .inl ?_
 (conv=>whnf)
 refine⟨0,_,_,⟨Tryz.func195,rfl,rfl,jiw rfl⟩,?_⟩
 (conv=>whnf)
 (conv=>whnf)
 (try simp only[jiD])
 repeat ((first|refine V.s1 ?_|((try ((with_reducible refine .ext ?_);(conv=>whnf);(try simp only[jiD])));(with_reducible refine jaa (r:=?_) ?_ ?_);rotate_left;(focus (first|fail));(conv=>whnf))|(((simp only[pg];(conv=>whnf)));(conv=>whnf)));(try simp only[jiD]))
 refine⟨Pq20z,[],V.pok,.go (jab ?_)⟩
 (conv=>whnf)
 (try simp only[jiD,hkc])
 repeat ((first|refine V.s1 ?_|((try ((with_reducible refine .ext ?_);(conv=>whnf);(try simp only[jiD,hkc])));(with_reducible refine jaa (r:=?_) ?_ ?_);rotate_left;(focus (first|fail));(conv=>whnf))|(((simp only[pg];(conv=>whnf)));(conv=>whnf))|(((simp only[hb,ht,jjt,hf];(conv=>whnf)));(conv=>whnf)));(try simp only[jiD,hkc]))
 refine hok _ _ (Wk.renB 179 145 58 0 (l.length+1) 2 (by decide) (by decide) (by decide) (hf _) rfl rfl rfl ?_)
 exact V.wk
theorem rdB_num0 (p:List (Int×Int))(x:List (Int×Int))(S T:Int)(k:Nat)(a:Int)(hk:k<p.length)(hp:p.length≤40)(hca:p.getD k (0,0)=(2,a))(nu:Cl 97 [.int .i64 a] (.tup [.agg [.int .i64 S,.int .i64 T],.int .i64 0])){K:K3}
  (hok:∀ L H,Wk 103 L H (slM p (k+1)) (hpB x 1 [.int .i64 S,.int .i64 T])→K .normal L H):RunC Tryz.prog tb (inlN Tryz.prog tb 6) 42 ((jaF (Tryz.f52.body.getD .skip)).getD .skip) (fun _ _ _ _ _=>False) 103 (slM p k) (hpB0 x) K:=by
 have hkc:((k:Int)+1)=((k+1:Nat):Int):=by omega
 have hne:decide ((k:Int)=p.length)=false:=decide_eq_false (by omega)
 refine V.r0 (V.a3 hne @jiD hca) ?_
 refine .inl ?_
 (conv=>whnf)
 refine⟨0,_,_,⟨Tryz.func114,rfl,rfl,jiw rfl⟩,?_⟩
 refine V.r0 @jiD ?_
 refine⟨Pq15z,[],V.pok,.go (jab ?_)⟩
 refine V.r1 @jiD nu ?_
 refine .inl ?_
 (conv=>whnf)
 refine⟨0,_,_,⟨Tryz.func195,rfl,rfl,jiw rfl⟩,?_⟩
 refine V.r0 @jiD ?_
 refine⟨Pq20z,[],V.pok,.go (jab ?_)⟩
 refine V.r0 (V.a2 @jiD hkc) ?_
 refine hok _ _ (Wk.renB 180 145 58 0 1 2 (by decide) (by decide) (by decide) rfl rfl rfl rfl ?_)
 exact V.wk
theorem rdB_num1 (p:List (Int×Int))(x l:List (Int×Int))(S T:Int)(k:Nat)(a:Int)(hk:k<p.length)(hp:p.length≤40)(hca:p.getD k (0,0)=(2,a))(nu:Cl 97 [.int .i64 a] (.tup [.agg [.int .i64 S,.int .i64 T],.int .i64 0]))(hl:l.length≤16){K:K3}
  (hok:∀ L H,Wk 103 L H (slM p (k+1)) (hpB x (l.length+1) (bcl l++[.int .i64 S,.int .i64 T]))→K .normal L H):RunC Tryz.prog tb (inlN Tryz.prog tb 6) 42 ((jaF (Tryz.f52.body.getD .skip)).getD .skip) (fun _ _ _ _ _=>False) 103 (slM p k) (hpB x l.length (bcl l)) K:=by
 have hkc:((k:Int)+1)=((k+1:Nat):Int):=by omega
 have hne:decide ((k:Int)=p.length)=false:=decide_eq_false (by omega)
 have pg:=jaA l
 have hb:=jbq l
 have ht:=jaP hl
 have hf:=jay l S T
 (conv=>whnf)
 (try simp only[hne,jiD,hca])
 repeat ((first|refine V.s1 ?_|((try ((with_reducible refine .ext ?_);(conv=>whnf);(try simp only[hne,jiD,hca])));(with_reducible refine jaa (r:=?_) ?_ ?_);rotate_left;(focus (first|fail));(conv=>whnf))|(((simp only[pg];(conv=>whnf)));(conv=>whnf)));(try simp only[hne,jiD,hca]))
 refine .inl ?_
 (conv=>whnf)
 refine⟨0,_,_,⟨Tryz.func114,rfl,rfl,jiw rfl⟩,?_⟩
 (conv=>whnf)
 (conv=>whnf)
 (try simp only[jiD])
 repeat ((first|refine V.s1 ?_|((try ((with_reducible refine .ext ?_);(conv=>whnf);(try simp only[jiD])));(with_reducible refine jaa (r:=?_) ?_ ?_);rotate_left;(focus (first|fail));(conv=>whnf))|(((simp only[pg];(conv=>whnf)));(conv=>whnf)));(try simp only[jiD]))
 refine⟨Pq15z,[],V.pok,.go (jab ?_)⟩
 (conv=>whnf)
 (try simp only[jiD])
 repeat ((first|refine V.s1 ?_|((try ((with_reducible refine .ext ?_);(conv=>whnf);(try simp only[jiD])));(with_reducible refine jaa (r:=?_) ?_ ?_);rotate_left;(focus (first|exact(nu)));(conv=>whnf))|(((simp only[pg];(conv=>whnf)));(conv=>whnf)));(try simp only[jiD]))
 refine .inl ?_
 (conv=>whnf)
 refine⟨0,_,_,⟨Tryz.func195,rfl,rfl,jiw rfl⟩,?_⟩
 (conv=>whnf)
 (conv=>whnf)
 (try simp only[jiD])
 repeat ((first|refine V.s1 ?_|((try ((with_reducible refine .ext ?_);(conv=>whnf);(try simp only[jiD])));(with_reducible refine jaa (r:=?_) ?_ ?_);rotate_left;(focus (first|fail));(conv=>whnf))|(((simp only[pg];(conv=>whnf)));(conv=>whnf)));(try simp only[jiD]))
 refine⟨Pq20z,[],V.pok,.go (jab ?_)⟩
 (conv=>whnf)
 (try simp only[jiD,hkc])
 repeat ((first|refine V.s1 ?_|((try ((with_reducible refine .ext ?_);(conv=>whnf);(try simp only[jiD,hkc])));(with_reducible refine jaa (r:=?_) ?_ ?_);rotate_left;(focus (first|fail));(conv=>whnf))|(((simp only[pg];(conv=>whnf)));(conv=>whnf))|(((simp only[hb,ht,jjt,hf];(conv=>whnf)));(conv=>whnf)));(try simp only[jiD,hkc]))
 refine hok _ _ (Wk.renB 180 145 58 0 (l.length+1) 2 (by decide) (by decide) (by decide) (hf _) rfl rfl rfl ?_)
 exact V.wk
theorem rdB_copy (p:List (Int×Int))(x l:List (Int×Int))(y:(Int×Int))(rest:List D)(j:Nat)(k:Nat)(a:Int)(hk:k<p.length)(hp:p.length≤40)(hca:p.getD k (0,0)=(11,a))(hl:l.length≤16)(hix:(l.length:Int)-1-a=(j:Nat))(hj:j<l.length)(hd:∀ K,dropK (bcl l) (j*2) K=K (.int .i64 y.1 :: .int .i64 y.2::rest)){K:K3}
  (hok:∀ L H,Wk 103 L H (slM p (k+1)) (hpB x (l.length+1) (bcl l++[.int .i64 y.1,.int .i64 y.2]))→K .normal L H):RunC Tryz.prog tb (inlN Tryz.prog tb 6) 42 ((jaF (Tryz.f52.body.getD .skip)).getD .skip) (fun _ _ _ _ _=>False) 103 (slM p k) (hpB x l.length (bcl l)) K:=by
 have hkc:((k:Int)+1)=((k+1:Nat):Int):=by omega
 have hne:decide ((k:Int)=p.length)=false:=decide_eq_false (by omega)
 have pg:=jaA l
 have hb:=jbq l
 have ht:=jaP hl
 have hf:∀ i,D.freeL i ((bcl l)++[.int .i64 y.1,.int .i64 y.2])=true:=jay l _ _
 (conv=>whnf)
 (try simp only[hne,jiD,hca])
 repeat ((first|refine V.s1 ?_|((try ((with_reducible refine .ext ?_);(conv=>whnf);(try simp only[hne,jiD,hca])));(with_reducible refine jaa (r:=?_) ?_ ?_);rotate_left;(focus (first|fail));(conv=>whnf))|(((simp only[pg];(conv=>whnf)));(conv=>whnf)));(try simp only[hne,jiD,hca]))
 refine .inl ?_
 (conv=>whnf)
 refine⟨0,_,_,⟨Tryz.func115,rfl,rfl,jiw rfl⟩,?_⟩
 (conv=>whnf)
 (conv=>whnf)
 (try simp only[jiD])
 repeat ((first|refine V.s1 ?_|((try ((with_reducible refine .ext ?_);(conv=>whnf);(try simp only[jiD])));(with_reducible refine jaa (r:=?_) ?_ ?_);rotate_left;(focus (first|fail));(conv=>whnf))|(((simp only[pg];(conv=>whnf)));(conv=>whnf)));(try simp only[jiD]))
 refine⟨Pq0z,[],V.pok,.go (jab ?_)⟩
 (conv=>whnf)
 (try simp only[hix,jiD,jiC])
 repeat ((first|refine V.s1 ?_|((try ((with_reducible refine .ext ?_);(conv=>whnf);(try simp only[hix,jiD,jiC])));(with_reducible refine jaa (r:=?_) ?_ ?_);rotate_left;(focus (first|fail));(conv=>whnf))|(((simp only[pg];(conv=>whnf)));(conv=>whnf)));(try simp only[hix,jiD,jiC]))
 refine .inl ?_
 (conv=>whnf)
 refine⟨0,_,_,⟨Tryz.func196,rfl,rfl,jiw rfl⟩,?_⟩
 refine V.r0 (V.a3 hix @jiD @jiC) ?_
 simp only[hd]
 unfold takeK takeK takeK
 dsimp only
 unfold ltK
 rw[show Nat.blt 19 Tryz.f115.ntmps=true from rfl]
 dsimp only
 unfold drawK
 unfold jdI
 refine And.intro ?_ jbK
 (conv=>whnf)
 refine .inl ?_
 (conv=>whnf)
 refine⟨0,_,_,⟨Tryz.func195,rfl,rfl,jiw rfl⟩,?_⟩
 (conv=>whnf)
 (conv=>whnf)
 (try simp only[jiD])
 repeat ((first|refine V.s1 ?_|((try ((with_reducible refine .ext ?_);(conv=>whnf);(try simp only[jiD])));(with_reducible refine jaa (r:=?_) ?_ ?_);rotate_left;(focus (first|fail));(conv=>whnf))|(((simp only[pg];(conv=>whnf)));(conv=>whnf)));(try simp only[jiD]))
 refine⟨Pq20z,[],V.pok,.go (jab ?_)⟩
 (conv=>whnf)
 (try simp only[jiD,hkc])
 repeat ((first|refine V.s1 ?_|((try ((with_reducible refine .ext ?_);(conv=>whnf);(try simp only[jiD,hkc])));(with_reducible refine jaa (r:=?_) ?_ ?_);rotate_left;(focus (first|fail));(conv=>whnf))|(((simp only[pg];(conv=>whnf)));(conv=>whnf))|(((simp only[hb,ht,jjt,hf];(conv=>whnf)));(conv=>whnf)));(try simp only[jiD,hkc]))
 refine hok _ _ (Wk.renB 186 145 58 0 (l.length+1) 2 (by decide) (by decide) (by decide) (hf _) rfl rfl rfl ?_)
 exact V.wk
theorem jeL {c:Int}{fn:Nat}(hfn:(c=3∧fn=100)∨(c=4∧fn=101)∨(c=5∧fn=102)∨(c=6∧fn=103)∨(c=7∧fn=104))(p:List (Int×Int))(x l:List (Int×Int))(u v:(Int×Int))(k:Nat)(a:Int)(S T:Int)(e:Int)(hk:k<p.length)(hp:p.length≤40)(hca:p.getD k (0,0)=(c,a))(hl:l.length≤16)
  (cf:Cl fn [.agg [.int .i64 u.1,.int .i64 u.2],.agg [.int .i64 v.1,.int .i64 v.2]] (.tup [.agg [.int .i64 S,.int .i64 T],.int .i64 e])) {K:K3}
  (hok:e=0 → ∀ L H,Wk 103 L H (slM p (k+1)) (hpB x (l.length+1) (bcl l++[.int .i64 S,.int .i64 T]))→K .normal L H)
  (hpan:e≠0 → ∀ L H,Wk 103 L H slE hpE→K (.panic [{ v := .iface 155 (.agg #[.int .i64 e]),recovered:=false }]) L H) :
  RunC Tryz.prog tb (inlN Tryz.prog tb 6) 42 ((jaF (Tryz.f52.body.getD .skip)).getD .skip) (fun _ _ _ _ _=>False) 103 (slM p k) (hpB x (l.length+2) (bcl (l++[u,v]))) K:=by
 have hkc:((k:Int)+1)=((k+1:Nat):Int):=by omega
 have hne:decide ((k:Int)=p.length)=false:=decide_eq_false (by omega)
 have pg:=jaA (l++[u,v])
 have tk:Cl 120 [.int .i64 c] (.tup [.int .i64 2,.bool true]):=by
  rcases hfn with⟨rfl,_⟩|⟨rfl,_⟩|⟨rfl,_⟩|⟨rfl,_⟩|⟨rfl,_⟩<;>exact jbf _
 have hr:(((l.length+2:Nat):Int)-2)=(l.length:Nat):=by omega
 have hble:Nat.ble (0+(l.length+2)*2) (bcl (l++[u,v])).length=true:=by rw[jaN,ji2];simp
 have hsub:l.length+2-l.length=2:=by omega
 have hd0:∀ K,dropK (bcl (l++[u,v])) (l.length*2+Int.toNat 0*2) K=K (bcl [u,v]):=fun K=>jbl [u,v] K l
 have hd1:∀ K,dropK (bcl (l++[u,v])) (l.length*2+Int.toNat 1*2) K=K (bcl [v]):=fun K=>jdP l [v] u K
 rcases hfn with⟨rfl,rfl⟩|⟨rfl,rfl⟩|⟨rfl,rfl⟩|⟨rfl,rfl⟩|⟨rfl,rfl⟩
 all_goals
  (conv=>whnf)
  (try simp only[hne,jiD,hca])
  repeat ((first|refine V.s1 ?_|((try ((with_reducible refine .ext ?_);(conv=>whnf);(try simp only[hne,jiD,hca])));(with_reducible refine jaa (r:=?_) ?_ ?_);rotate_left;(focus (first|fail));(conv=>whnf))|(((simp only[pg];(conv=>whnf)));(conv=>whnf)));(try simp only[hne,jiD,hca]))
  refine .inl ?_
  (conv=>whnf)
  refine⟨0,_,_,⟨Tryz.func116,rfl,rfl,jiw rfl⟩,?_⟩
  (conv=>whnf)
  (conv=>whnf)
  (try simp only[jiD])
  repeat ((first|refine V.s1 ?_|((try ((with_reducible refine .ext ?_);(conv=>whnf);(try simp only[jiD])));(with_reducible refine jaa (r:=?_) ?_ ?_);rotate_left;(focus (first|exact(tk)));(conv=>whnf))|(((simp only[pg];(conv=>whnf)));(conv=>whnf)));(try simp only[jiD]))
  refine .inl ?_
  (conv=>whnf)
  refine⟨0,_,_,⟨Tryz.func196,rfl,rfl,jiw rfl⟩,?_⟩
  (conv=>whnf)
  (conv=>whnf)
  (try simp only[hr,jiD])
  repeat ((first|refine V.s1 ?_|((try ((with_reducible refine .ext ?_);(conv=>whnf);(try simp only[hr,jiD])));(with_reducible refine jaa (r:=?_) ?_ ?_);rotate_left;(focus (first|exact(tk)));(conv=>whnf))|(((simp only[pg];(conv=>whnf)));(conv=>whnf))|(((simp only[hr,jiD,hsub];(conv=>whnf)));(conv=>whnf))|(((simp only[hble];(conv=>whnf)));(conv=>whnf)));(try simp only[hr,jiD]))
  refine⟨Pq8z,[],V.pok,.go (jab ?_)⟩
  (conv=>whnf)
  (try simp only[jiD])
  repeat ((first|refine V.s1 ?_|((try ((with_reducible refine .ext ?_);(conv=>whnf);(try simp only[jiD])));(with_reducible refine jaa (r:=?_) ?_ ?_);rotate_left;(focus (first|fail));(conv=>whnf))|(((simp only[pg];(conv=>whnf)));(conv=>whnf)));(try simp only[jiD]))
  refine .inl ?_
  (conv=>whnf)
  refine⟨0,_,_,⟨Tryz.func181,rfl,rfl,jiw rfl⟩,?_⟩
  (conv=>whnf)
  (conv=>whnf)
  (try simp only[jiD])
  repeat ((first|refine V.s1 ?_|((try ((with_reducible refine .ext ?_);(conv=>whnf);(try simp only[jiD])));(with_reducible refine jaa (r:=?_) ?_ ?_);rotate_left;(focus (first|fail));(conv=>whnf))|(((simp only[pg];(conv=>whnf)));(conv=>whnf)));(try simp only[jiD]))
  refine⟨Pq16z,[],V.pok,.go (jab ?_)⟩
  (conv=>whnf)
  (try simp only[jiD,jiC])
  repeat ((first|refine V.s1 ?_|((try ((with_reducible refine .ext ?_);(conv=>whnf);(try simp only[jiD,jiC])));(with_reducible refine jaa (r:=?_) ?_ ?_);rotate_left;(focus (first|exact(cf)));(conv=>whnf))|(((simp only[pg];(conv=>whnf)));(conv=>whnf))|(((simp only[hd0];(conv=>whnf)));(conv=>whnf))|(((simp only[hd1];(conv=>whnf)));(conv=>whnf)));(try simp only[jiD,jiC]))
  refine .inl ?_
  (conv=>whnf)
  refine⟨0,_,_,⟨Tryz.func195,rfl,rfl,jiw rfl⟩,?_⟩
  (conv=>whnf)
  (conv=>whnf)
  (try simp only[jiD])
  repeat ((first|refine V.s1 ?_|((try ((with_reducible refine .ext ?_);(conv=>whnf);(try simp only[jiD])));(with_reducible refine jaa (r:=?_) ?_ ?_);rotate_left;(focus (first|fail));(conv=>whnf))|(((simp only[pg];(conv=>whnf)));(conv=>whnf)));(try simp only[jiD]))
  by_cases he:e=0
  ·refine jbE [(0,.box 58 0),(4,.box 200 0)] [(58,.box [.bsl 145 0 l.length 2,inB x,.fn 97 [] [],.mapr 44]),(145,.box (bcl l)),(200,.box [.int .i64 S,.int .i64 T]),(44,.mp esB),(114,.mp stepsB),(64,.box [.nil]),(65,.box [.int .i64 0])] (CondB.mk (fun h=>absurd he (by simpa using h)) (fun _=>?_)) ?_
   ·(conv=>whnf)
    exact Wk.trim 145 (l.length*2) rfl (Wk.same 145 rfl (jcE l [u,v]) V.wk)
   ·have pg:=jaA l
    have hb:=jbq l
    have ht:=jaP hl
    have hf:∀ i,D.freeL i (bcl l++[.int .i64 S,.int .i64 T])=true:=jay l _ _
    (conv=>whnf)
    refine⟨Pq20z,[],V.pok,.go (jab ?_)⟩
    (conv=>whnf)
    (try simp only[jiD,hkc])
    repeat ((first|refine V.s1 ?_|((try ((with_reducible refine .ext ?_);(conv=>whnf);(try simp only[jiD,hkc])));(with_reducible refine jaa (r:=?_) ?_ ?_);rotate_left;(focus (first|fail));(conv=>whnf))|(((simp only[pg];(conv=>whnf)));(conv=>whnf))|(((simp only[hb,ht,jjt,hf];(conv=>whnf)));(conv=>whnf)));(try simp only[jiD,hkc]))
    refine hok he _ _ (Wk.renB 214 145 58 0 (l.length+1) 2 (by decide) (by decide) (by decide) (hf _) rfl rfl rfl ?_)
    exact V.wk
  ·refine Cnd.split (CondB.mk (fun _=>?_) (fun h=>absurd (by simpa using h) he))
   refine V.r0 @jiD ?_
   exact hpan he _ _ V.wk
end Go.Proofs.YtpkdedncgclblaaGreatDoor
end
