/- What functions of the program answer at given values, part 15. Conditions: those that each theorem names. -/
import Derived.Test.YtpkdedncgclblaaGreatDoorProgramChecksH14
import Derived.Test.YtpkdedncgclblaaGreatDoorProgramChecksH6
set_option linter.unusedSimpArgs false
set_option linter.unusedVariables false
set_option maxHeartbeats 8000000
set_option maxRecDepth 100000
section
namespace Go.Proofs.YtpkdedncgclblaaGreatDoor
open Go Go.V Go.Nb
def bendP (W A:Int)(q:Int×Int)(p:List (Int×Int)):List (Int×Int):=
 if W%6=0 then (if (A%((p.length:Int)+1)).toNat<p.length then p.set (A%((p.length:Int)+1)).toNat q else p)
 else if W%6=1 then p.take (A%((p.length:Int)+1)).toNat++[q]++p.drop (A%((p.length:Int)+1)).toNat
 else if W%6=2 then (if (A%((p.length:Int)+1)).toNat<p.length then p.take (A%((p.length:Int)+1)).toNat++p.drop ((A%((p.length:Int)+1)).toNat+1) else p)
 else if W%6=3 then List.replicate (9+A%9).toNat (2,0)++p
 else if W%6=4 then p++List.replicate ((39+A%3)-p.length).toNat (8,0)
 else p
theorem bcl_set (q:Int×Int):∀ (K:List D→Prop) (p:List (Int×Int)) (i:Nat),i<p.length→jbV (bcl p) (i*2) [.int .i64 q.1,.int .i64 q.2] K=K (bcl (p.set i q))
 | _,[],_,h=>absurd h (by simp)
 | K,u::p,0,_=>by
  show jbV (bcl p) 0 [] _=_
  cases h:bcl p<;>simp only[jbV,List.set_cons_zero,bcl,h]
 | K,u::p,i+1,h=>by
  rw[show (i+1)*2=i*2+1+1 by omega]
  show jbV (bcl p) (i*2) _ _=_
  rw[bcl_set q _ p i (by simpa using h)]
  rfl
theorem bcl_tk:∀ (p:List (Int×Int)) (i:Nat),(bcl p).take (i*2)=bcl (p.take i)
 | [],i=>by simp[bcl]
 | q::p,0=>rfl
 | q::p,i+1=>by
  rw[show (i+1)*2=i*2+1+1 by omega]
  simp only[bcl,List.take_succ_cons,bcl_tk p i]
theorem bcl_dr:∀ (p:List (Int×Int)) (i:Nat),(bcl p).drop (i*2)=bcl (p.drop i)
 | [],i=>by simp[bcl]
 | q::p,0=>rfl
 | q::p,i+1=>by
  rw[show (i+1)*2=i*2+1+1 by omega]
  simp only[bcl,List.drop_succ_cons,bcl_dr p i]
theorem fin_q (q:List (Int×Int))(n:Nat)(B:List D)(hn:q.length=n)(hB:B=bcl q):Fin (oL q) (.slf 2 n (fun t=>(B.drop (t*2)).take 2)):=by
 subst hn
 subst hB
 exact jeF fun _ _=>rfl
theorem jhG:type_of% @jiu ∧ type_of% @jhQ:=⟨@jiu,@jhQ⟩
theorem jhy:type_of% @jhR∧type_of% @jhQ:=⟨@jhR,@jhQ⟩
theorem bend_x (p:List (Int×Int))(W A c a:Int)(h0:0<p.length)(h:p.length≤60)(hW:0≤W∧W≤255)(hA:0≤A∧A≤255)(hc:InR .i64 c)(ha:InR .i64 a):Cl 59 [.agg [.int .u8 W,.int .u8 A,.int .i64 c,.int .i64 a],oL p] (oL (bendP W A (c,a) p)):=by
 have hb:Nat.beq p.length 0=false:=by
  cases e:Nat.beq p.length 0 with
  | false=>rfl
  | true=>have:=Nat.eq_of_beq_eq_true e;omega
 have hcF:∀ K,catF 2 (fun j=>List.take 2 (List.drop (j*2) (bcl p))) p.length [] K=K (bcl p):=fun K=>by rw[jgK p K p.length [] (jhS _),jiC,jiw]
 have pu:=jd8 p
 have fr:=jeW p
 have pg:=jas p
 have pb:=jbo p
 have bo:=jbF p
 have hz:Nat.ble p.length 1000000=true:=by rw[jig];omega
 refine jbm (jdG tbOk (inlY_ok 6)) (jaz Tryz.func59 rfl rfl) ⟨_,_,⟨Tryz.func59,rfl,rfl,jhL rfl⟩,?_⟩
 (conv=>whnf)
 (conv=>whnf)
 (try simp only[jhG,hz,fr])
 repeat ((first|refine V.s1 ?_|((try ((with_reducible refine .ext ?_);(conv=>whnf);(try simp only[jhG,hz,fr])));(with_reducible refine jaa (r:=?_) ?_ ?_);rotate_left;(focus (first|fail));(conv=>whnf))|(((rewrite [hb];(conv=>whnf)));(conv=>whnf))|(((rewrite [hcF];(conv=>whnf)));(conv=>whnf))|(((rewrite [pg];(conv=>whnf)));(conv=>whnf)));(try simp only[jhG,hz,fr]))
 refine .inl ?_
 (conv=>whnf)
 refine⟨0,Or.inl ⟨_,_,⟨Tryz.func24,rfl,rfl,jhL rfl⟩,?_⟩⟩
 (conv=>whnf)
 (conv=>whnf)
 (try simp only[jhG,hz,fr])
 repeat ((first|refine V.s1 ?_|((try ((with_reducible refine .ext ?_);(conv=>whnf);(try simp only[jhG,hz,fr])));(with_reducible refine jaa (r:=?_) ?_ ?_);rotate_left;(focus (first|fail));(conv=>whnf))|(((rewrite [hb];(conv=>whnf)));(conv=>whnf))|(((rewrite [hcF];(conv=>whnf)));(conv=>whnf))|(((rewrite [pu];(conv=>whnf)));(conv=>whnf))|(((rewrite [pg];(conv=>whnf)));(conv=>whnf)));(try simp only[jhG,hz,fr]))
 obtain⟨i,hi⟩:∃ i:Nat,A%((p.length:Int)+1)=(i:Int):=⟨(A%((p.length:Int)+1)).toNat,by have:=jhN A (show (p.length:Int)+1≠0 by omega);omega⟩
 have hi2:i≤p.length:=by have:=jia A (show 0<(p.length:Int)+1 by omega);omega
 by_cases hW0:W%6=0
 ·refine Cnd.yes (by simp only[hW0,decide_eq_true_eq]) ?_
  (conv=>whnf)
  (try simp only[jhy,hi])
  repeat ((first|refine V.s1 ?_|((try ((with_reducible refine .ext ?_);(conv=>whnf);(try simp only[jhy,hi])));(with_reducible refine jaa (r:=?_) ?_ ?_);rotate_left;(focus (first|fail));(conv=>whnf))|(((rewrite [pg];(conv=>whnf)));(conv=>whnf)));(try simp only[jhy,hi]))
  have e:bendP W A (c,a) p=if i<p.length then p.set i (c,a) else p:=by unfold bendP;rw[if_pos hW0,hi,jhR]
  rw[e]
  by_cases hlt:i<p.length
  ·refine Cnd.yes (by simp only[decide_eq_true_eq];omega) ?_
   rw[if_pos hlt]
   (conv=>whnf)
   (try simp only[jhy])
   repeat ((first|refine V.s1 ?_|((try ((with_reducible refine .ext ?_);(conv=>whnf);(try simp only[jhy])));(with_reducible refine jaa (r:=?_) ?_ ?_);rotate_left;(focus (first|fail));(conv=>whnf))|(((rewrite [pg];(conv=>whnf)));(conv=>whnf)));(try simp only[jhy]))
   rewrite [bcl_set (c,a) _ p i hlt]
   have pg2:=jas (p.set i (c,a))
   have pb2:=jbo (p.set i (c,a))
   have bo2:=jbF (p.set i (c,a))
   rw[List.length_set] at bo2
   (conv=>whnf)
   (conv=>whnf)
   (try simp only[jhy])
   repeat ((first|refine V.s1 ?_|((try ((with_reducible refine .ext ?_);(conv=>whnf);(try simp only[jhy])));(with_reducible refine jaa (r:=?_) ?_ ?_);rotate_left;(focus (first|fail));(conv=>whnf))|(((rewrite [pg2];(conv=>whnf)));(conv=>whnf))|(((rewrite [bo2];(conv=>whnf)));(conv=>whnf))|(((rewrite [pb2];(conv=>whnf)));(conv=>whnf))|(((rewrite [pb];(conv=>whnf)));(conv=>whnf)));(try simp only[jhy]))
   first|exact Fin.of rfl|exact fin_q _ _ _ List.length_set rfl
  ·refine Cnd.no (by simp only[decide_eq_false_iff_not];omega) ?_
   rw[if_neg hlt]
   (conv=>whnf)
   (try simp only[jhy])
   repeat ((first|refine V.s1 ?_|((try ((with_reducible refine .ext ?_);(conv=>whnf);(try simp only[jhy])));(with_reducible refine jaa (r:=?_) ?_ ?_);rotate_left;(focus (first|fail));(conv=>whnf))|(((rewrite [pg];(conv=>whnf)));(conv=>whnf))|(((rewrite [bo];(conv=>whnf)));(conv=>whnf))|(((rewrite [pb];(conv=>whnf)));(conv=>whnf)));(try simp only[jhy]))
   refine Fin.of ?_
   simp only[jhQ]
 refine Cnd.no (by simp only[decide_eq_false_iff_not];exact hW0) ?_
 (conv=>whnf)
 (try simp only[jhy,hi])
 repeat ((first|refine V.s1 ?_|((try ((with_reducible refine .ext ?_);(conv=>whnf);(try simp only[jhy,hi])));(with_reducible refine jaa (r:=?_) ?_ ?_);rotate_left;(focus (first|fail));(conv=>whnf))|(((rewrite [pg];(conv=>whnf)));(conv=>whnf)));(try simp only[jhy,hi]))
 by_cases hW1:W%6=1
 ·refine Cnd.yes (by simp only[hW1,decide_eq_true_eq]) ?_
  have e:bendP W A (c,a) p=p.take i++[(c,a)]++p.drop i:=by unfold bendP;rw[if_neg hW0,if_pos hW1,hi,jhR]
  rw[e]
  (conv=>whnf)
  (try simp only[jhy,hi])
  repeat ((first|refine V.s1 ?_|((try ((with_reducible refine .ext ?_);(conv=>whnf);(try simp only[jhy,hi])));(with_reducible refine jaa (r:=?_) ?_ ?_);rotate_left;(focus (first|fail));(conv=>whnf))|(((rewrite [pg];(conv=>whnf)));(conv=>whnf)));(try simp only[jhy,hi]))
  refine .inl ?_
  (conv=>whnf)
  refine⟨0,Or.inr (Or.inl ⟨rfl,85,p.length,i,35,bcl p,[.int .i64 c,.int .i64 a],rfl,by decide,rfl,rfl,jaE p,rfl,pu,rfl,hi2,by omega,?_⟩)⟩
  (conv=>whnf)
  (conv=>whnf)
  (try simp only[jhy])
  repeat ((first|refine V.s1 ?_|((try ((with_reducible refine .ext ?_);(conv=>whnf);(try simp only[jhy])));(with_reducible refine jaa (r:=?_) ?_ ?_);rotate_left;(focus (first|fail));(conv=>whnf))|(((rewrite [pg];(conv=>whnf)));(conv=>whnf))|(((rewrite [bo];(conv=>whnf)));(conv=>whnf))|(((rewrite [pb];(conv=>whnf)));(conv=>whnf)));(try simp only[jhy]))
  refine fin_q _ _ _ (by simp only[jin,jio,jiA,jiv,List.length_nil];omega) ?_
  rw[jaN,jaN,bcl_tk,bcl_dr]
  rfl
 refine Cnd.no (by simp only[decide_eq_false_iff_not];exact hW1) ?_
 (conv=>whnf)
 (try simp only[jhy,hi])
 repeat ((first|refine V.s1 ?_|((try ((with_reducible refine .ext ?_);(conv=>whnf);(try simp only[jhy,hi])));(with_reducible refine jaa (r:=?_) ?_ ?_);rotate_left;(focus (first|fail));(conv=>whnf))|(((rewrite [pg];(conv=>whnf)));(conv=>whnf)));(try simp only[jhy,hi]))
 by_cases hW2:W%6=2
 ·refine Cnd.yes (by simp only[hW2,decide_eq_true_eq]) ?_
  have e:bendP W A (c,a) p=if i<p.length then p.take i++p.drop (i+1) else p:=by unfold bendP;rw[if_neg hW0,if_neg hW1,if_pos hW2,hi,jhR]
  rw[e]
  (conv=>whnf)
  (try simp only[jhy,hi])
  repeat ((first|refine V.s1 ?_|((try ((with_reducible refine .ext ?_);(conv=>whnf);(try simp only[jhy,hi])));(with_reducible refine jaa (r:=?_) ?_ ?_);rotate_left;(focus (first|fail));(conv=>whnf))|(((rewrite [pg];(conv=>whnf)));(conv=>whnf)));(try simp only[jhy,hi]))
  by_cases hlt:i<p.length
  ·refine Cnd.yes (by simp only[decide_eq_true_eq];omega) ?_
   rw[if_pos hlt]
   (conv=>whnf)
   (try simp only[jhy])
   repeat ((first|refine V.s1 ?_|((try ((with_reducible refine .ext ?_);(conv=>whnf);(try simp only[jhy])));(with_reducible refine jaa (r:=?_) ?_ ?_);rotate_left;(focus (first|fail));(conv=>whnf))|(((rewrite [pg];(conv=>whnf)));(conv=>whnf)));(try simp only[jhy]))
   refine .inl ?_
   (conv=>whnf)
   refine⟨0,Or.inr (Or.inr ⟨rfl,85,p.length,i,bcl p,rfl,rfl,jaE p,pu,hlt,by omega,?_⟩)⟩
   (conv=>whnf)
   (conv=>whnf)
   (try simp only[jhy])
   repeat ((first|refine V.s1 ?_|((try ((with_reducible refine .ext ?_);(conv=>whnf);(try simp only[jhy])));(with_reducible refine jaa (r:=?_) ?_ ?_);rotate_left;(focus (first|fail));(conv=>whnf))|(((rewrite [pg];(conv=>whnf)));(conv=>whnf))|(((rewrite [bo];(conv=>whnf)));(conv=>whnf))|(((rewrite [pb];(conv=>whnf)));(conv=>whnf)));(try simp only[jhy]))
   refine fin_q _ _ _ (by simp only[jin,jio,jiA];omega) ?_
   rw[jaN,bcl_tk,bcl_dr]
  ·refine Cnd.no (by simp only[decide_eq_false_iff_not];omega) ?_
   rw[if_neg hlt]
   (conv=>whnf)
   (try simp only[jhy])
   repeat ((first|refine V.s1 ?_|((try ((with_reducible refine .ext ?_);(conv=>whnf);(try simp only[jhy])));(with_reducible refine jaa (r:=?_) ?_ ?_);rotate_left;(focus (first|fail));(conv=>whnf))|(((rewrite [pg];(conv=>whnf)));(conv=>whnf))|(((rewrite [bo];(conv=>whnf)));(conv=>whnf))|(((rewrite [pb];(conv=>whnf)));(conv=>whnf)));(try simp only[jhy]))
   refine Fin.of ?_
   simp only[jhQ]
 refine Cnd.no (by simp only[decide_eq_false_iff_not];exact hW2) ?_
 (conv=>whnf)
 (try simp only[jhy,hi])
 repeat ((first|refine V.s1 ?_|((try ((with_reducible refine .ext ?_);(conv=>whnf);(try simp only[jhy,hi])));(with_reducible refine jaa (r:=?_) ?_ ?_);rotate_left;(focus (first|fail));(conv=>whnf))|(((rewrite [pg];(conv=>whnf)));(conv=>whnf)));(try simp only[jhy,hi]))
 by_cases hW3:W%6=3
 ·refine Cnd.yes (by simp only[hW3,decide_eq_true_eq]) ?_
  have e:bendP W A (c,a) p=List.replicate (9+A%9).toNat (2,0)++p:=by unfold bendP;rw[if_neg hW0,if_neg hW1,if_neg hW2,if_pos hW3]
  rw[e]
  (conv=>whnf)
  (try simp only[jhy,hi])
  repeat ((first|refine V.s1 ?_|((try ((with_reducible refine .ext ?_);(conv=>whnf);(try simp only[jhy,hi])));(with_reducible refine jaa (r:=?_) ?_ ?_);rotate_left;(focus (first|fail));(conv=>whnf))|(((rewrite [pg];(conv=>whnf)));(conv=>whnf)));(try simp only[jhy,hi]))
  obtain⟨N,hN⟩:∃ N:Nat,9+A%9=(N:Int):=⟨(9+A%9).toNat,by omega⟩
  have hN2:N≤17:=by omega
  rw[hN,jhR]
  refine Lp.of ⟨Nat,fun k=>k≤N,fun k=>[(1,oL (List.replicate k ((2:Int),(0:Int))++p)),(54,.int .i64 N),(55,.int .i64 k)],fun _=>[],fun k=>N-k,⟨0,jhM _,?_⟩,?_⟩
  ·refine Wk.pub 85 ?_
   (conv=>whnf)
   repeat (first|(rewrite [bo];(conv=>whnf))|(rewrite [pb];(conv=>whnf)))
   simp only[jhQ]
   exact V.wk
  intro k hk
  dsimp only at hk ⊢
  obtain⟨q,hq⟩:∃ q,q=List.replicate k ((2:Int),(0:Int))++p:=⟨_,rfl⟩
  have hql:q.length=k+p.length:=by rw[hq,jin,List.length_replicate]
  rw[← hq]
  have hbq:Nat.beq q.length 0=false:=by
   cases e:Nat.beq q.length 0 with
   | false=>rfl
   | true=>have:=Nat.eq_of_beq_eq_true e;omega
  have hcq:∀ K,catF 2 (fun j=>List.take 2 (List.drop (j*2) (bcl q))) q.length [] K=K (bcl q):=fun K=>by rw[jgK q K q.length [] (jhS _),jiC,jiw]
  have puq:=jd8 q
  have frq:=jeW q
  have pgq:=jas q
  have pbq:=jbo q
  have boq:bslOk (.int .i64 2 :: .int .i64 0::bcl q) 0 (q.length+1) 2=true:=jbF ((2,0)::q)
  have pb1:∀ (i:Nat) (c:Chunk) (K:List D→Prop),pubLK i c (.int .i64 2 :: .int .i64 0::bcl q) K=K (.int .i64 2 :: .int .i64 0::bcl q):=jbo ((2,0)::q)
  have frq2:∀ i,D.freeL i (.int .i64 2 :: .int .i64 0::bcl q)=true:=jeW ((2,0)::q)
  have hzq:Nat.ble (1+q.length) 1000000=true:=by rw[jig];omega
  refine V.r0 @jhQ ?_
  refine V.br (fun hkN=>?_) (fun hkN=>?_)
  ·simp only[decide_eq_true_eq] at hkN
   (conv=>whnf)
   (try simp only[jhG,hzq,frq])
   repeat ((first|refine V.s1 ?_|((try ((with_reducible refine .ext ?_);(conv=>whnf);(try simp only[jhG,hzq,frq])));(with_reducible refine jaa (r:=?_) ?_ ?_);rotate_left;(focus (first|fail));(conv=>whnf))|(((rewrite [hbq];(conv=>whnf)));(conv=>whnf))|(((rewrite [hcq];(conv=>whnf)));(conv=>whnf))|(((rewrite [puq];(conv=>whnf)));(conv=>whnf))|(((rewrite [pgq];(conv=>whnf)));(conv=>whnf))|(((simp only[jiD,jih,jiu,frq2];(conv=>whnf)));(conv=>whnf)));(try simp only[jhG,hzq,frq]))
   refine⟨k+1,by omega,by omega,?_⟩
   have e1:List.replicate (k+1) ((2:Int),(0:Int))++p=(2,0)::q:=by rw[hq];rfl
   have e4:1+q.length=q.length+1:=by omega
   rw[e1]
   simp only[e4]
   refine Wk.pub 60 ?_
   (conv=>whnf)
   trace_state
   repeat (first|(rewrite [boq];(conv=>whnf))|(rewrite [pb1];(conv=>whnf))|(rewrite [pbq];(conv=>whnf)))
   simp only[jhQ]
   exact V.wk
  ·simp only[decide_eq_false_iff_not] at hkN
   obtain rfl:k=N:=by omega
   rw[← hq]
   refine V.r0 @jhQ ?_
   exact Fin.of rfl
 refine Cnd.no (by simp only[decide_eq_false_iff_not];exact hW3) ?_
 (conv=>whnf)
 (try simp only[jhy,hi])
 repeat ((first|refine V.s1 ?_|((try ((with_reducible refine .ext ?_);(conv=>whnf);(try simp only[jhy,hi])));(with_reducible refine jaa (r:=?_) ?_ ?_);rotate_left;(focus (first|fail));(conv=>whnf))|(((rewrite [pg];(conv=>whnf)));(conv=>whnf)));(try simp only[jhy,hi]))
 by_cases hW4:W%6=4
 ·refine Cnd.yes (by simp only[hW4,decide_eq_true_eq]) ?_
  have e:bendP W A (c,a) p=p++List.replicate ((39+A%3)-p.length).toNat (8,0):=by unfold bendP;rw[if_neg hW0,if_neg hW1,if_neg hW2,if_neg hW3,if_pos hW4]
  rw[e]
  (conv=>whnf)
  (try simp only[jhy,hi])
  repeat ((first|refine V.s1 ?_|((try ((with_reducible refine .ext ?_);(conv=>whnf);(try simp only[jhy,hi])));(with_reducible refine jaa (r:=?_) ?_ ?_);rotate_left;(focus (first|fail));(conv=>whnf))|(((rewrite [pg];(conv=>whnf)));(conv=>whnf)));(try simp only[jhy,hi]))
  obtain⟨N,hN⟩:∃ N:Nat,39+A%3=(N:Int):=⟨(39+A%3).toNat,by omega⟩
  have hN2:N≤41:=by omega
  have hNp:(39+A%3-(p.length:Int)).toNat=N-p.length:=by omega
  rw[hNp]
  refine Lp.of ⟨List (Int×Int),fun q=>q.length≤60∧q++List.replicate (N-q.length) ((8:Int),(0:Int))=p++List.replicate (N-p.length) (8,0),fun q=>[(1,.bsl 300 0 q.length 2),(2,.box 2 0)],fun q=>[(300,.box (bcl q)),(2,.box [.int .u8 W,.int .u8 A,.int .i64 c,.int .i64 a])],fun q=>60-q.length,⟨p,⟨h,rfl⟩,Wk.renS 85 300 1 p.length 2 (by decide) (by decide) (fr _) rfl rfl V.wk⟩,?_⟩
  rintro q ⟨hq1,hq2⟩
  dsimp only at hq1 hq2 ⊢
  have pgq:=jas q
  have pbq:=jbo q
  have boq:=jbF q
  have hbq:Nat.beq (bcl q).length (q.length*2)=true:=ja1 q
  have frq:=jat q 8 0
  (conv=>whnf)
  (try simp only[jhQ])
  repeat ((first|refine V.s1 ?_|((try ((with_reducible refine .ext ?_);(conv=>whnf);(try simp only[jhQ])));(with_reducible refine jaa (r:=?_) ?_ ?_);rotate_left;(focus (first|fail));(conv=>whnf))|(((rewrite [pgq];(conv=>whnf)));(conv=>whnf)));(try simp only[jhQ]))
  refine V.br (fun hqN=>?_) (fun hqN=>?_)
  ·simp only[decide_eq_true_eq] at hqN
   have htq:Nat.ble (q.length+1) 1000000=true:=by rw[jig];omega
   (conv=>whnf)
   (try simp only[jhQ])
   repeat ((first|refine V.s1 ?_|((try ((with_reducible refine .ext ?_);(conv=>whnf);(try simp only[jhQ])));(with_reducible refine jaa (r:=?_) ?_ ?_);rotate_left;(focus (first|fail));(conv=>whnf))|(((rewrite [pgq];(conv=>whnf)));(conv=>whnf))|(((simp only[hbq,htq,jiD,frq];(conv=>whnf)));(conv=>whnf)));(try simp only[jhQ]))
   have e2:bcl (q++[(8,0)])=bcl q++[.int .i64 8,.int .i64 0]:=jaN q [(8,0)]
   have e3:(q++[((8:Int),(0:Int))]).length=q.length+1:=by simp
   refine⟨q++[(8,0)],⟨by rw[e3];omega,?_⟩,by rw[e3];omega,?_⟩
   ·rw[← hq2,e3,jip]
    congr 1
    rw[show N-q.length=(N-(q.length+1))+1 by omega,List.replicate_succ]
    rfl
   ·rw[e2,e3]
    refine Wk.renS 75 300 1 (q.length+1) 2 (by decide) (by decide) (frq _) rfl rfl ?_
    exact V.wk
  ·simp only[decide_eq_false_iff_not] at hqN
   have hz0:N-q.length=0:=by omega
   rw[hz0,jiD,jiw] at hq2
   rw[← hq2]
   (conv=>whnf)
   (try simp only[jhQ])
   repeat ((first|refine V.s1 ?_|((try ((with_reducible refine .ext ?_);(conv=>whnf);(try simp only[jhQ])));(with_reducible refine jaa (r:=?_) ?_ ?_);rotate_left;(focus (first|fail));(conv=>whnf))|(((rewrite [pgq];(conv=>whnf)));(conv=>whnf))|(((rewrite [boq];(conv=>whnf)));(conv=>whnf))|(((rewrite [pbq];(conv=>whnf)));(conv=>whnf)));(try simp only[jhQ]))
   exact Fin.of rfl
 refine Cnd.no (by simp only[decide_eq_false_iff_not];exact hW4) ?_
 have e:bendP W A (c,a) p=p:=by unfold bendP;rw[if_neg hW0,if_neg hW1,if_neg hW2,if_neg hW3,if_neg hW4]
 rw[e]
 (conv=>whnf)
 (try simp only[jhy])
 repeat ((first|refine V.s1 ?_|((try ((with_reducible refine .ext ?_);(conv=>whnf);(try simp only[jhy])));(with_reducible refine jaa (r:=?_) ?_ ?_);rotate_left;(focus (first|fail));(conv=>whnf))|(((rewrite [pg];(conv=>whnf)));(conv=>whnf))|(((rewrite [bo];(conv=>whnf)));(conv=>whnf))|(((rewrite [pb];(conv=>whnf)));(conv=>whnf)));(try simp only[jhy]))
 refine Fin.of ?_
 simp only[jhQ]
end Go.Proofs.YtpkdedncgclblaaGreatDoor
end
section
namespace Go.Proofs.YtpkdedncgclblaaGreatDoor
open Go Go.V Go.RowKit Go.Proofs Go.Shelf Go.Lib
set_option maxHeartbeats 4000000
set_option maxRecDepth 1000000
theorem clone_nil (w:World):Calls Tryz.prog 24 #[.slice none 0 0] w fun e w'=>e = .returned (.slice none 0 0)∧w'=w:=by
 have q36:∀ (w:World) (a:Option Addr) (n c n' c':Nat),(binOp .eql 36 (.slice a n c) (.slice none n' c')).run Tryz.prog w = .ok (.bool a.isNone) w:=fun w a n c n' c'=>Lib.run_eql_slice_nil w _ _ a n c n' c' opSl
 have mixed:Tryz.prog.follows .mixedOrders=true:=by kernel_rfl
 go_enter Tryz.func24,Tryz.ntmps24
 go_wp2_with fail
 go_ret
 exact⟨rfl,rfl⟩
theorem clone_emp (w:World)(A:Addr)(cap:Nat):Calls Tryz.prog 24 #[.slice (some A) 0 cap] w fun e w'=>e = .returned (.slice (some ⟨w.heap.size,0,none⟩) 0 0)∧w'=w.alloc (.cells #[] 33):=by
 obtain⟨i0,hi0,hz0,hzs,hzb⟩:=info_parts jdj
 have hrun:∀ ty,(Builtin.append_ #[36,36] ty #[.slice (some ⟨w.heap.size,0,none⟩) 0 0,.slice (some A) 0 cap]).run Tryz.prog (w.alloc (.cells #[] 33)) = .ok (.slice (some ⟨w.heap.size,0,none⟩) (0+0) 0) ((w.alloc (.cells #[] 33)).setCells w.heap.size (0+0*i0.size) []):=fun ty=>
  run_append_room_cells (P:=Tryz.prog) (w.alloc (.cells #[] 33)) 36 ty 33 i0 opSl hi0 w.heap.size 0 0 0 A 0 cap [] (by simp) (fun j u hj=>by simp at hj) (fun u hu=>by simp at hu) (by omega) (fun j hj=>by simp at hj) (fun j hj=>by simp at hj)
 have q36:∀ (w:World) (a:Option Addr) (n c n' c':Nat),(binOp .eql 36 (.slice a n c) (.slice none n' c')).run Tryz.prog w = .ok (.bool a.isNone) w:=fun w a n c n' c'=>Lib.run_eql_slice_nil w _ _ a n c n' c' opSl
 have mixed:Tryz.prog.follows .mixedOrders=true:=by kernel_rfl
 go_enter Tryz.func24,Tryz.ntmps24
 go_wp2_with (at_builtin;refine Lib.wpList_append_run _ rfl _ _ _ _ rfl _ _ rfl rfl _ _ (hrun _) ?_)
 go_ret
 exact⟨rfl,rfl⟩
def cloO:Inl:=fun _ g ds off H K _=>g=24 ∧ ∃ f,ds=[.slf 2 0 f]∧K .nil H∧K (.bsl off 0 0 2) ((off,.box [])::jaC off H)
theorem cloO_ok:InlOk Tryz.prog cloO:=by
 intro yl g ds off H K KP hh cx E h w vs hoff hds hyl M hv
 obtain⟨rfl,f,rfl,hK1,hK2⟩:=hh
 refine⟨jaz Tryz.func24 rfl rfl,callsIn_wide.2 ?_⟩
 simp only[DenL] at hv
 obtain⟨x,_,rfl,hx,rfl⟩:=hv
 simp only[Den] at hx
 obtain⟨A,cap,rfl,_,_,hA⟩:=hx
 cases A with
 | none=>
  obtain⟨_,rfl⟩:=hA
  refine(clone_nil w).mono ?_
  rintro e w' ⟨rfl,rfl⟩
  exact .inl ⟨_,_,E,h,H,rfl,hK1,by simp only[Den],M⟩
 | some A=>
  refine(clone_emp w A cap).mono ?_
  rintro e w' ⟨rfl,rfl⟩
  obtain⟨a0,ha0⟩:∃ a0:Act,a0 = { tmps := #[Go.undef],defers:=cx.ds } := ⟨_,rfl⟩
  have S0:Sat cx E h a0 w [] H:=M.sat (fun t=>by show Den E h .any _;simp only[Den]) ⟨[],by simp,by rw[ha0];rfl,by simp⟩
  have hden:Den (E.set off w.heap.size 0 0) h (.bsl off 0 0 2) (.slice (some ⟨w.heap.size,0,none⟩) 0 0):=by
   simp only[Den]
   refine⟨E.set_real _ _ _ _,0,by rw[Env.set_blk],by omega,by omega,.inl rfl⟩
  have S1:=S0.alloc (i:=off) (r := .bsl off 0 0 2) (c := .box []) (s:=0) (n:=0) (d:=0) ((Below.refl _ w).alloc (jhS _) (.cells #[] 33)) ⟨E.set_real _ _ _ _,[],[],33,by
   rw[Env.set_blk]
   exact heap_alloc_new w (.cells #[] 33),by simp only[DenL],by simp,by rw[Env.set_siz];rfl⟩ (by rw[ha0];simp) (by omega) hden
  exact .inl ⟨_,_,_,_,_,rfl,hK2,hden,S1.ms⟩
theorem jhb (vb vc:Nat)(w w1:World)(v':Value)(hrun:∀ ty,(Builtin.append_ #[36,36] ty #[.slice none 0 0,.slice (some ⟨vb,0,none⟩) 1 vc]).run Tryz.prog w = .ok v' w1) :
  Calls Tryz.prog 126 #[.slice none 0 0,.int .i64 0,.slice (some ⟨vb,0,none⟩) 1 vc] w fun e w'=>
   e = .returned v'∧w'=w1:=by
 have mixed:Tryz.prog.follows .mixedOrders=true:=by kernel_rfl
 go_enter Tryz.func126,Tryz.ntmps126
 go_wp2_with (at_builtin;refine Lib.wpList_append_run _ rfl _ _ _ _ rfl _ _ rfl rfl _ _ (hrun _) ?_)
 all_goals (go_ret;first|done|exact⟨rfl,rfl⟩)
def insN:Inl:=fun _ g ds _ H K _=>g=126 ∧ ∃ (k:Nat) (z:Int) (news:List D),ds=[.nil,.int .i64 z,.bsl k 0 1 2]∧z=0∧lookH H k=some (.box news)∧news.length=2∧D.pureL news=true ∧
 K (.slf 2 1 (fun t=>(news.drop (t*2)).take 2)) ((k,.gone)::H)
theorem insN_ok:InlOk Tryz.prog insN:=by
 intro yl g ds off H K KP hh cx E h w vs hoff hds hyl M hv
 obtain⟨rfl,k,z,ns,rfl,rfl,hk,hnl,hpn,hK⟩:=hh
 refine⟨jaz Tryz.func126 rfl rfl,callsIn_wide.2 ?_⟩
 obtain⟨x,y,z,rfl,hx,hy,hz⟩:=DenL.three hv
 simp only[Den] at hx hy hz
 obtain⟨rk,vc,rfl,hv1,hv2,hv3⟩:=hz
 obtain⟨_,nv,rest2,T2,hb2,hd2,hone2,hsz2⟩:=M.mem.ok k _ hk
 have hnl2:nv.length=2:=by rw[hd2.length,hnl]
 obtain⟨i0,hi0,hz0,hzs,hzb⟩:=info_parts jdj
 have hrun:∀ ty,(Builtin.append_ #[36,36] ty #[.slice none 0 0,.slice (some ⟨E.blk k,0,none⟩) 1 vc]).run Tryz.prog w=_:=fun ty=>
  run_append_nil (P:=Tryz.prog) w 36 ty 33 i0 _ opSl hi0 hz0 ⟨E.blk k,0,none⟩ 1 vc nv (by rw[hzs];exact hnl2) (fun t v ht=>by rw[Addr.add_lit,jhQ];exact jaZ hb2 ht) (by omega) (by omega) (by rw[hzb];omega)
 refine(show Calls Tryz.prog _ #[x,y,.slice (some ⟨E.blk k,0,none⟩) 1 vc] w _ by rw[hx,hy.1];exact jhb (E.blk k) vc w _ _ hrun).mono ?_
 rintro e w' ⟨rfl,rfl⟩
 have hvals:∀ (o:Nat) v,nv[o]? = some v→(w.drew.alloc (.cells (nv.toArray++Builtin.zeroCells (Value.agg #[.int .i64 0,.int .i64 0]).cells (grownCap w 1 0 33-1)) 33)).cell? ⟨w.heap.size,o,none⟩=some v:=fun o v ho=>by
  rw[World.cell?_alloc_at (w:=w.drew) _ _ w.heap.size o rfl,Array.getElem?_append_left (by have:=(jir.1 ho).1;simpa using this),jiz]
  exact ho
 obtain⟨hle,M'⟩:=MS.gave M hk rk (.inr (jhS _)) (Alone.alloc (Alone.refl _ w).drew _) hvals
 exact .inl ⟨_,_,E,_,_,rfl,hK,jgU hd2 hpn (by omega) hone2 hle (fun o v ho=>by unfold jal;rw[if_pos rfl];exact ho) (jaP _ _ _ _) (by omega),M'⟩
def inlZ (k:Nat):Inl:=fun yl g ds off H K KP=>inlY k yl g ds off H K KP∨cloO yl g ds off H K KP∨insN yl g ds off H K KP
theorem inlZ_ok (k:Nat):InlOk Tryz.prog (inlZ k):=fun yl g ds off H K KP hh=>by
 rcases hh with hh|hh
 ·exact inlY_ok k yl g ds off H K KP hh
 ·rcases hh with hh|hh
  ·exact cloO_ok yl g ds off H K KP hh
  ·exact insN_ok yl g ds off H K KP hh
end Go.Proofs.YtpkdedncgclblaaGreatDoor
end
section
namespace Go.Proofs.YtpkdedncgclblaaGreatDoor
open Go Go.V Go.Nb
theorem jhE:type_of% @jiu ∧ type_of% @jhQ:=⟨@jiu,@jhQ⟩
theorem bend_0 (W A c a:Int)(hW:0≤W∧W≤255)(hA:0≤A∧A≤255)(hc:InR .i64 c)(ha:InR .i64 a):Cl 59 [.agg [.int .u8 W,.int .u8 A,.int .i64 c,.int .i64 a],oL []] (oL (bendP W A (c,a) [])):=by
 have eo:oL []=V.sl2 0 []:=rfl
 refine jbm (jdG tbOk (inlZ_ok 6)) (jaz Tryz.func59 rfl rfl) ⟨_,_,⟨Tryz.func59,rfl,rfl,jhL rfl⟩,?_⟩
 refine V.r0 jhE ?_
 refine .inl ?_
 (conv=>whnf)
 refine⟨0,Or.inr (Or.inl ⟨rfl,_,rfl,?_,?_⟩)⟩
 ·have hi:A%(((0:Nat):Int)+1)=((0:Nat):Int):=by omega
  refine V.r0 jhE ?_
  by_cases hW0:W%6=0
  ·have e:bendP W A (c,a) []=[]:=by unfold bendP;rw[if_pos hW0,if_neg (by simp)]
   rw[e]
   refine Cnd.yes (by simp only[hW0,decide_eq_true_eq]) ?_
   (conv=>whnf)
   (try simp only[jhQ,hi])
   repeat ((first|refine V.s1 ?_);(try simp only[jhQ,hi]))
   refine Cnd.no (by simp only[decide_eq_false_iff_not];omega) ?_
   refine V.r0 @jhQ ?_
   exact jdI _ _
  refine Cnd.no (by simp only[decide_eq_false_iff_not];exact hW0) ?_
  refine V.r0 @jhQ ?_
  by_cases hW1:W%6=1
  ·refine Cnd.yes (by simp only[hW1,decide_eq_true_eq]) ?_
   have e:bendP W A (c,a) []=[(c,a)]:=by unfold bendP;rw[if_neg hW0,if_pos hW1];simp
   rw[e]
   (conv=>whnf)
   (try simp only[jhQ,hi])
   repeat ((first|refine V.s1 ?_);(try simp only[jhQ,hi]))
   refine .inl ?_
   (conv=>whnf)
   refine⟨0,Or.inr (Or.inr ⟨rfl,35,_,[.int .i64 c,.int .i64 a],rfl,by omega,rfl,rfl,rfl,?_⟩)⟩
   (conv=>whnf)
   (conv=>whnf)
   (try simp only[jhQ,hi])
   repeat ((first|refine V.s1 ?_);(try simp only[jhQ,hi]))
   first|exact Fin.of rfl|exact fin_q _ _ _ rfl rfl
  refine Cnd.no (by simp only[decide_eq_false_iff_not];exact hW1) ?_
  refine V.r0 @jhQ ?_
  by_cases hW2:W%6=2
  ·have e:bendP W A (c,a) []=[]:=by unfold bendP;rw[if_neg hW0,if_neg hW1,if_pos hW2,if_neg (by simp)]
   rw[e]
   refine Cnd.yes (by simp only[hW2,decide_eq_true_eq]) ?_
   (conv=>whnf)
   (try simp only[jhQ,hi])
   repeat ((first|refine V.s1 ?_);(try simp only[jhQ,hi]))
   refine Cnd.no (by simp only[decide_eq_false_iff_not];omega) ?_
   refine V.r0 @jhQ ?_
   exact jdI _ _
  refine Cnd.no (by simp only[decide_eq_false_iff_not];exact hW2) ?_
  refine V.r0 @jhQ ?_
  by_cases hW3:W%6=3
  ·refine Cnd.yes (by simp only[hW3,decide_eq_true_eq]) ?_
   have e:bendP W A (c,a) []=List.replicate (9+A%9).toNat (2,0):=by unfold bendP;rw[if_neg hW0,if_neg hW1,if_neg hW2,if_pos hW3,jiw]
   rw[e]
   refine V.r0 @jhQ ?_
   obtain⟨N,hN⟩:∃ N:Nat,9+A%9=(N:Int):=⟨(9+A%9).toNat,by omega⟩
   have hN2:N≤17:=by omega
   have hN3:9≤N:=by omega
   rw[hN,jhR]
   refine Lp.of ⟨Nat,fun k=>k≤N,fun k=>[(1,match k with|0 => .nil|k+1=>oL (List.replicate (k+1) ((2:Int),(0:Int)))),(54,.int .i64 N),(55,.int .i64 k)],fun k=>[],fun k=>N-k,⟨0,jhM _,V.wk⟩,?_⟩
   intro k hk
   cases k with
   | zero=>
    dsimp only at hk ⊢
    refine V.r0 @jhQ ?_
    refine V.br (fun hkN=>?_) (fun hkN=>?_)
    ·simp only[decide_eq_true_eq] at hkN
     refine V.r0 jhE ?_
     refine⟨0+1,by omega,by omega,?_⟩
     refine Wk.pub 58 ?_
     (conv=>whnf)
     simp only[jhQ]
     exact V.wk
    ·simp only[decide_eq_false_iff_not] at hkN
     exact absurd hN3 (by omega)
   | succ k=>
    obtain⟨q,hq⟩:∃ q,q=List.replicate (k+1) ((2:Int),(0:Int)):=⟨_,rfl⟩
    have hql:q.length=k+1:=by rw[hq,List.length_replicate]
    dsimp only at hk ⊢
    rw[← hq]
    have hbq:Nat.beq q.length 0=false:=by
     cases e:Nat.beq q.length 0 with
     | false=>rfl
     | true=>have:=Nat.eq_of_beq_eq_true e;omega
    have hcq:∀ K,catF 2 (fun j=>List.take 2 (List.drop (j*2) (bcl q))) q.length [] K=K (bcl q):=fun K=>by rw[jgK q K q.length [] (jhS _),jiC,jiw]
    have puq:=jd8 q
    have frq:=jeW q
    have pgq:=jas q
    have pbq:=jbo q
    have boq:bslOk (.int .i64 2 :: .int .i64 0::bcl q) 0 (q.length+1) 2=true:=jbF ((2,0)::q)
    have pb1:∀ (i:Nat) (c:Chunk) (K:List D→Prop),pubLK i c (.int .i64 2 :: .int .i64 0::bcl q) K=K (.int .i64 2 :: .int .i64 0::bcl q):=jbo ((2,0)::q)
    have frq2:∀ i,D.freeL i (.int .i64 2 :: .int .i64 0::bcl q)=true:=jeW ((2,0)::q)
    have hzq:Nat.ble (1+q.length) 1000000=true:=by rw[jig];omega
    refine V.r0 @jhQ ?_
    refine V.br (fun hkN=>?_) (fun hkN=>?_)
    ·simp only[decide_eq_true_eq] at hkN
     (conv=>whnf)
     (try simp only[jhE,hzq,frq])
     repeat ((first|refine V.s1 ?_|((try ((with_reducible refine .ext ?_);(conv=>whnf);(try simp only[jhE,hzq,frq])));(with_reducible refine jaa (r:=?_) ?_ ?_);rotate_left;(focus (first|fail));(conv=>whnf))|(((rewrite [hbq];(conv=>whnf)));(conv=>whnf))|(((rewrite [hcq];(conv=>whnf)));(conv=>whnf))|(((rewrite [puq];(conv=>whnf)));(conv=>whnf))|(((rewrite [pgq];(conv=>whnf)));(conv=>whnf))|(((simp only[jiD,jih,jiu,frq2];(conv=>whnf)));(conv=>whnf)));(try simp only[jhE,hzq,frq]))
     refine⟨k+1+1,by omega,by omega,?_⟩
     dsimp only
     have e1:List.replicate (k+1+1) ((2:Int),(0:Int))=(2,0)::q:=by rw[hq];rfl
     have e4:1+q.length=q.length+1:=by omega
     rw[e1]
     simp only[e4]
     refine Wk.pub 60 ?_
     (conv=>whnf)
     repeat (first|(rewrite [boq];(conv=>whnf))|(rewrite [pb1];(conv=>whnf))|(rewrite [pbq];(conv=>whnf)))
     simp only[jhQ]
     exact V.wk
    ·simp only[decide_eq_false_iff_not] at hkN
     obtain rfl:N=k+1:=by omega
     rw[← hq]
     refine V.r0 @jhQ ?_
     exact Fin.of rfl
  refine Cnd.no (by simp only[decide_eq_false_iff_not];exact hW3) ?_
  refine V.r0 @jhQ ?_
  by_cases hW4:W%6=4
  ·refine Cnd.yes (by simp only[hW4,decide_eq_true_eq]) ?_
   obtain⟨N,hN⟩:∃ N:Nat,39+A%3=(N:Int):=⟨(39+A%3).toNat,by omega⟩
   have hN2:N≤41:=by omega
   have hN3:39≤N:=by omega
   have e:bendP W A (c,a) []=List.replicate N (8,0):=by unfold bendP;rw[if_neg hW0,if_neg hW1,if_neg hW2,if_neg hW3,if_pos hW4,hN];simp
   rw[e]
   refine V.r0 @jhQ ?_
   refine Lp.of ⟨Nat,fun k=>k≤N,fun k=>match k with|0=>[(1,.nil),(2,.box 2 0)]|k+1=>[(1,.bsl 300 0 (k+1) 2),(2,.box 2 0)],fun k=>match k with|0=>[(2,.box [.int .u8 W,.int .u8 A,.int .i64 c,.int .i64 a])]|k+1=>[(300,.box (bcl (List.replicate (k+1) ((8:Int),(0:Int))))),(2,.box [.int .u8 W,.int .u8 A,.int .i64 c,.int .i64 a])],fun k=>N-k,⟨0,jhM _,V.wk⟩,?_⟩
   intro k hk
   cases k with
   | zero=>
    dsimp only at hk ⊢
    refine V.r0 @jhQ ?_
    refine V.br (fun hkN=>?_) (fun hkN=>?_)
    ·refine V.r0 jhE ?_
     refine⟨0+1,by omega,by omega,?_⟩
     dsimp only
     refine Wk.renS 75 300 1 1 2 (by decide) (by decide) rfl rfl rfl ?_
     exact V.wk
    ·simp only[decide_eq_false_iff_not] at hkN
     exact absurd hN3 (by omega)
   | succ k=>
    obtain⟨q,hq⟩:∃ q,q=List.replicate (k+1) ((8:Int),(0:Int)):=⟨_,rfl⟩
    have hql:q.length=k+1:=by rw[hq,List.length_replicate]
    dsimp only at hk ⊢
    rw[← hq]
    have pgq:=jas q
    have pbq:=jbo q
    have boq:=jbF q
    rw[hql] at boq
    have hbq:Nat.beq (bcl q).length ((k+1)*2)=true:=by rw[← hql];exact ja1 q
    have frq:=jat q 8 0
    (conv=>whnf)
    (try simp only[jhQ])
    repeat ((first|refine V.s1 ?_|((try ((with_reducible refine .ext ?_);(conv=>whnf);(try simp only[jhQ])));(with_reducible refine jaa (r:=?_) ?_ ?_);rotate_left;(focus (first|fail));(conv=>whnf))|(((rewrite [pgq];(conv=>whnf)));(conv=>whnf)));(try simp only[jhQ]))
    refine V.br (fun hqN=>?_) (fun hqN=>?_)
    ·simp only[decide_eq_true_eq] at hqN
     have htq:Nat.ble (k+1+1) 1000000=true:=by rw[jig];omega
     (conv=>whnf)
     (try simp only[jhQ])
     repeat ((first|refine V.s1 ?_|((try ((with_reducible refine .ext ?_);(conv=>whnf);(try simp only[jhQ])));(with_reducible refine jaa (r:=?_) ?_ ?_);rotate_left;(focus (first|fail));(conv=>whnf))|(((rewrite [pgq];(conv=>whnf)));(conv=>whnf))|(((simp only[hbq,htq,jiD,frq];(conv=>whnf)));(conv=>whnf)));(try simp only[jhQ]))
     have e2:bcl (List.replicate (k+1+1) ((8:Int),(0:Int)))=bcl q++[.int .i64 8,.int .i64 0]:=by
      rw[List.replicate_succ',← hq]
      exact jaN q [(8,0)]
     refine⟨k+1+1,by omega,by omega,?_⟩
     dsimp only
     rw[e2]
     refine Wk.renS 75 300 1 (k+1+1) 2 (by decide) (by decide) (frq _) rfl rfl ?_
     exact V.wk
    ·simp only[decide_eq_false_iff_not] at hqN
     obtain rfl:N=k+1:=by omega
     rw[← hq]
     (conv=>whnf)
     (try simp only[jhQ])
     repeat ((first|refine V.s1 ?_|((try ((with_reducible refine .ext ?_);(conv=>whnf);(try simp only[jhQ])));(with_reducible refine jaa (r:=?_) ?_ ?_);rotate_left;(focus (first|fail));(conv=>whnf))|(((rewrite [pgq];(conv=>whnf)));(conv=>whnf))|(((rewrite [boq];(conv=>whnf)));(conv=>whnf))|(((rewrite [pbq];(conv=>whnf)));(conv=>whnf)));(try simp only[jhQ]))
     exact fin_q _ _ _ hql rfl
  refine Cnd.no (by simp only[decide_eq_false_iff_not];exact hW4) ?_
  have e:bendP W A (c,a) []=[]:=by unfold bendP;rw[if_neg hW0,if_neg hW1,if_neg hW2,if_neg hW3,if_neg hW4]
  rw[e]
  refine V.r0 @jhQ ?_
  exact jdI _ _
 ·have hi:A%(((0:Nat):Int)+1)=((0:Nat):Int):=by omega
  refine V.r0 jhE ?_
  by_cases hW0:W%6=0
  ·have e:bendP W A (c,a) []=[]:=by unfold bendP;rw[if_pos hW0,if_neg (by simp)]
   rw[e]
   refine Cnd.yes (by simp only[hW0,decide_eq_true_eq]) ?_
   (conv=>whnf)
   (try simp only[jhQ,hi])
   repeat ((first|refine V.s1 ?_);(try simp only[jhQ,hi]))
   first|exact jdI _ _|exact fin_q _ _ _ rfl rfl
  refine Cnd.no (by simp only[decide_eq_false_iff_not];exact hW0) ?_
  refine V.r0 @jhQ ?_
  by_cases hW1:W%6=1
  ·refine Cnd.yes (by simp only[hW1,decide_eq_true_eq]) ?_
   have e:bendP W A (c,a) []=[(c,a)]:=by unfold bendP;rw[if_neg hW0,if_pos hW1];simp
   rw[e]
   (conv=>whnf)
   (try simp only[jhQ,hi])
   repeat ((first|refine V.s1 ?_);(try simp only[jhQ,hi]))
   refine .inl ?_
   (conv=>whnf)
   refine⟨0,Or.inl (Or.inr (Or.inl ⟨rfl,78,0,0,35,[],[.int .i64 c,.int .i64 a],rfl,by decide,rfl,rfl,rfl,rfl,rfl,rfl,by decide,by decide,?_⟩))⟩
   (conv=>whnf)
   (conv=>whnf)
   (try simp only[jhQ,hi])
   repeat ((first|refine V.s1 ?_);(try simp only[jhQ,hi]))
   first|exact Fin.of rfl|exact fin_q _ _ _ rfl rfl
  refine Cnd.no (by simp only[decide_eq_false_iff_not];exact hW1) ?_
  refine V.r0 @jhQ ?_
  by_cases hW2:W%6=2
  ·have e:bendP W A (c,a) []=[]:=by unfold bendP;rw[if_neg hW0,if_neg hW1,if_pos hW2,if_neg (by simp)]
   rw[e]
   refine Cnd.yes (by simp only[hW2,decide_eq_true_eq]) ?_
   (conv=>whnf)
   (try simp only[jhQ,hi])
   repeat ((first|refine V.s1 ?_);(try simp only[jhQ,hi]))
   first|exact jdI _ _|exact fin_q _ _ _ rfl rfl
  refine Cnd.no (by simp only[decide_eq_false_iff_not];exact hW2) ?_
  refine V.r0 @jhQ ?_
  by_cases hW3:W%6=3
  ·refine Cnd.yes (by simp only[hW3,decide_eq_true_eq]) ?_
   have e:bendP W A (c,a) []=List.replicate (9+A%9).toNat (2,0):=by unfold bendP;rw[if_neg hW0,if_neg hW1,if_neg hW2,if_pos hW3,jiw]
   rw[e]
   refine V.r0 @jhQ ?_
   obtain⟨N,hN⟩:∃ N:Nat,9+A%9=(N:Int):=⟨(9+A%9).toNat,by omega⟩
   have hN2:N≤17:=by omega
   have hN3:9≤N:=by omega
   rw[hN,jhR]
   refine Lp.of ⟨Nat,fun k=>k≤N,fun k=>[(1,match k with|0 => .bsl 78 0 0 2|k+1=>oL (List.replicate (k+1) ((2:Int),(0:Int)))),(54,.int .i64 N),(55,.int .i64 k)],fun k=>match k with|0=>[(78,.box [])]|_+1=>[],fun k=>N-k,⟨0,jhM _,V.wk⟩,?_⟩
   intro k hk
   cases k with
   | zero=>
    dsimp only at hk ⊢
    refine V.r0 @jhQ ?_
    refine V.br (fun hkN=>?_) (fun hkN=>?_)
    ·simp only[decide_eq_true_eq] at hkN
     refine V.r0 jhE ?_
     refine⟨0+1,by omega,by omega,?_⟩
     refine Wk.pub 58 ?_
     (conv=>whnf)
     simp only[jhQ]
     exact V.wk
    ·simp only[decide_eq_false_iff_not] at hkN
     exact absurd hN3 (by omega)
   | succ k=>
    obtain⟨q,hq⟩:∃ q,q=List.replicate (k+1) ((2:Int),(0:Int)):=⟨_,rfl⟩
    have hql:q.length=k+1:=by rw[hq,List.length_replicate]
    dsimp only at hk ⊢
    rw[← hq]
    have hbq:Nat.beq q.length 0=false:=by
     cases e:Nat.beq q.length 0 with
     | false=>rfl
     | true=>have:=Nat.eq_of_beq_eq_true e;omega
    have hcq:∀ K,catF 2 (fun j=>List.take 2 (List.drop (j*2) (bcl q))) q.length [] K=K (bcl q):=fun K=>by rw[jgK q K q.length [] (jhS _),jiC,jiw]
    have puq:=jd8 q
    have frq:=jeW q
    have pgq:=jas q
    have pbq:=jbo q
    have boq:bslOk (.int .i64 2 :: .int .i64 0::bcl q) 0 (q.length+1) 2=true:=jbF ((2,0)::q)
    have pb1:∀ (i:Nat) (c:Chunk) (K:List D→Prop),pubLK i c (.int .i64 2 :: .int .i64 0::bcl q) K=K (.int .i64 2 :: .int .i64 0::bcl q):=jbo ((2,0)::q)
    have frq2:∀ i,D.freeL i (.int .i64 2 :: .int .i64 0::bcl q)=true:=jeW ((2,0)::q)
    have hzq:Nat.ble (1+q.length) 1000000=true:=by rw[jig];omega
    refine V.r0 @jhQ ?_
    refine V.br (fun hkN=>?_) (fun hkN=>?_)
    ·simp only[decide_eq_true_eq] at hkN
     (conv=>whnf)
     (try simp only[jhE,hzq,frq])
     repeat ((first|refine V.s1 ?_|((try ((with_reducible refine .ext ?_);(conv=>whnf);(try simp only[jhE,hzq,frq])));(with_reducible refine jaa (r:=?_) ?_ ?_);rotate_left;(focus (first|fail));(conv=>whnf))|(((rewrite [hbq];(conv=>whnf)));(conv=>whnf))|(((rewrite [hcq];(conv=>whnf)));(conv=>whnf))|(((rewrite [puq];(conv=>whnf)));(conv=>whnf))|(((rewrite [pgq];(conv=>whnf)));(conv=>whnf))|(((simp only[jiD,jih,jiu,frq2];(conv=>whnf)));(conv=>whnf)));(try simp only[jhE,hzq,frq]))
     refine⟨k+1+1,by omega,by omega,?_⟩
     dsimp only
     have e1:List.replicate (k+1+1) ((2:Int),(0:Int))=(2,0)::q:=by rw[hq];rfl
     have e4:1+q.length=q.length+1:=by omega
     rw[e1]
     simp only[e4]
     refine Wk.pub 60 ?_
     (conv=>whnf)
     repeat (first|(rewrite [boq];(conv=>whnf))|(rewrite [pb1];(conv=>whnf))|(rewrite [pbq];(conv=>whnf)))
     simp only[jhQ]
     exact V.wk
    ·simp only[decide_eq_false_iff_not] at hkN
     obtain rfl:N=k+1:=by omega
     rw[← hq]
     refine V.r0 @jhQ ?_
     exact Fin.of rfl
  refine Cnd.no (by simp only[decide_eq_false_iff_not];exact hW3) ?_
  refine V.r0 @jhQ ?_
  by_cases hW4:W%6=4
  ·refine Cnd.yes (by simp only[hW4,decide_eq_true_eq]) ?_
   obtain⟨N,hN⟩:∃ N:Nat,39+A%3=(N:Int):=⟨(39+A%3).toNat,by omega⟩
   have hN2:N≤41:=by omega
   have hN3:39≤N:=by omega
   have e:bendP W A (c,a) []=List.replicate N (8,0):=by unfold bendP;rw[if_neg hW0,if_neg hW1,if_neg hW2,if_neg hW3,if_pos hW4,hN];simp
   rw[e]
   refine V.r0 @jhQ ?_
   refine Lp.of ⟨Nat,fun k=>k≤N,fun k=>match k with|0=>[(1,.bsl 78 0 0 2),(2,.box 2 0)]|k+1=>[(1,.bsl 300 0 (k+1) 2),(2,.box 2 0)],fun k=>match k with|0=>[(78,.box []),(2,.box [.int .u8 W,.int .u8 A,.int .i64 c,.int .i64 a])]|k+1=>[(300,.box (bcl (List.replicate (k+1) ((8:Int),(0:Int))))),(2,.box [.int .u8 W,.int .u8 A,.int .i64 c,.int .i64 a])],fun k=>N-k,⟨0,jhM _,V.wk⟩,?_⟩
   intro k hk
   cases k with
   | zero=>
    dsimp only at hk ⊢
    refine V.r0 @jhQ ?_
    refine V.br (fun hkN=>?_) (fun hkN=>?_)
    ·refine V.r0 jhE ?_
     refine⟨0+1,by omega,by omega,?_⟩
     dsimp only
     refine Wk.renS 75 300 1 1 2 (by decide) (by decide) rfl rfl rfl ?_
     exact V.wk
    ·simp only[decide_eq_false_iff_not] at hkN
     exact absurd hN3 (by omega)
   | succ k=>
    obtain⟨q,hq⟩:∃ q,q=List.replicate (k+1) ((8:Int),(0:Int)):=⟨_,rfl⟩
    have hql:q.length=k+1:=by rw[hq,List.length_replicate]
    dsimp only at hk ⊢
    rw[← hq]
    have pgq:=jas q
    have pbq:=jbo q
    have boq:=jbF q
    rw[hql] at boq
    have hbq:Nat.beq (bcl q).length ((k+1)*2)=true:=by rw[← hql];exact ja1 q
    have frq:=jat q 8 0
    (conv=>whnf)
    (try simp only[jhQ])
    repeat ((first|refine V.s1 ?_|((try ((with_reducible refine .ext ?_);(conv=>whnf);(try simp only[jhQ])));(with_reducible refine jaa (r:=?_) ?_ ?_);rotate_left;(focus (first|fail));(conv=>whnf))|(((rewrite [pgq];(conv=>whnf)));(conv=>whnf)));(try simp only[jhQ]))
    refine V.br (fun hqN=>?_) (fun hqN=>?_)
    ·simp only[decide_eq_true_eq] at hqN
     have htq:Nat.ble (k+1+1) 1000000=true:=by rw[jig];omega
     (conv=>whnf)
     (try simp only[jhQ])
     repeat ((first|refine V.s1 ?_|((try ((with_reducible refine .ext ?_);(conv=>whnf);(try simp only[jhQ])));(with_reducible refine jaa (r:=?_) ?_ ?_);rotate_left;(focus (first|fail));(conv=>whnf))|(((rewrite [pgq];(conv=>whnf)));(conv=>whnf))|(((simp only[hbq,htq,jiD,frq];(conv=>whnf)));(conv=>whnf)));(try simp only[jhQ]))
     have e2:bcl (List.replicate (k+1+1) ((8:Int),(0:Int)))=bcl q++[.int .i64 8,.int .i64 0]:=by
      rw[List.replicate_succ',← hq]
      exact jaN q [(8,0)]
     refine⟨k+1+1,by omega,by omega,?_⟩
     dsimp only
     rw[e2]
     refine Wk.renS 75 300 1 (k+1+1) 2 (by decide) (by decide) (frq _) rfl rfl ?_
     exact V.wk
    ·simp only[decide_eq_false_iff_not] at hqN
     obtain rfl:N=k+1:=by omega
     rw[← hq]
     (conv=>whnf)
     (try simp only[jhQ])
     repeat ((first|refine V.s1 ?_|((try ((with_reducible refine .ext ?_);(conv=>whnf);(try simp only[jhQ])));(with_reducible refine jaa (r:=?_) ?_ ?_);rotate_left;(focus (first|fail));(conv=>whnf))|(((rewrite [pgq];(conv=>whnf)));(conv=>whnf))|(((rewrite [boq];(conv=>whnf)));(conv=>whnf))|(((rewrite [pbq];(conv=>whnf)));(conv=>whnf)));(try simp only[jhQ]))
     exact fin_q _ _ _ hql rfl
  refine Cnd.no (by simp only[decide_eq_false_iff_not];exact hW4) ?_
  have e:bendP W A (c,a) []=[]:=by unfold bendP;rw[if_neg hW0,if_neg hW1,if_neg hW2,if_neg hW3,if_neg hW4]
  rw[e]
  refine V.r0 @jhQ ?_
  first|exact jdI _ _|exact fin_q _ _ _ rfl rfl
theorem bend_c (p:List (Int×Int))(W A c a:Int)(h:p.length≤60)(hW:0≤W∧W≤255)(hA:0≤A∧A≤255)(hc:InR .i64 c)(ha:InR .i64 a):Cl 59 [.agg [.int .u8 W,.int .u8 A,.int .i64 c,.int .i64 a],oL p] (oL (bendP W A (c,a) p)):=by
 cases p with
 | nil=>exact bend_0 W A c a hW hA hc ha
 | cons q p=>exact bend_x (q::p) W A c a (by simp) h hW hA hc ha
theorem bendP_len (p:List (Int×Int))(W A:Int)(q:Int×Int)(hA:0≤A∧A≤255):(bendP W A q p).length≤max (p.length+17) 41:=by
 have h3:(9+A%9).toNat≤17:=by omega
 have h4:(39+A%3).toNat≤41:=by omega
 unfold bendP
 split
 ·split
  ·rw[List.length_set];omega
  ·omega
 ·split
  ·simp only[jin,jio,jiA,jiv,List.length_nil];omega
  ·split
   ·split
    ·simp only[jin,jio,jiA];omega
    ·omega
   ·split
    ·simp only[jin,List.length_replicate];omega
    ·split
     ·simp only[jin,List.length_replicate];omega
     ·omega
theorem rtakes_c (c:Int):Cl 46 [.int .i64 c] (.int .i64 (if tkb c=true then tkn c else -1)):=by
 by_cases e1:c=1
 ·subst e1
  refine V.en tbOk Tryz.func46 ?_
  (conv=>whnf)
  refine V.st ?_
  exact Fin.of rfl
 by_cases e2:c=2
 ·subst e2
  refine V.en tbOk Tryz.func46 ?_
  (conv=>whnf)
  refine V.st ?_
  exact Fin.of rfl
 by_cases e11:c=11
 ·subst e11
  refine V.en tbOk Tryz.func46 ?_
  (conv=>whnf)
  refine V.st ?_
  exact Fin.of rfl
 by_cases e8:c=8
 ·subst e8
  refine V.en tbOk Tryz.func46 ?_
  (conv=>whnf)
  refine V.st ?_
  exact Fin.of rfl
 by_cases e9:c=9
 ·subst e9
  refine V.en tbOk Tryz.func46 ?_
  (conv=>whnf)
  refine V.st ?_
  exact Fin.of rfl
 by_cases e12:c=12
 ·subst e12
  refine V.en tbOk Tryz.func46 ?_
  (conv=>whnf)
  refine V.st ?_
  exact Fin.of rfl
 by_cases e3:c=3
 ·subst e3
  refine V.en tbOk Tryz.func46 ?_
  (conv=>whnf)
  refine V.st ?_
  exact Fin.of rfl
 by_cases e4:c=4
 ·subst e4
  refine V.en tbOk Tryz.func46 ?_
  (conv=>whnf)
  refine V.st ?_
  exact Fin.of rfl
 by_cases e5:c=5
 ·subst e5
  refine V.en tbOk Tryz.func46 ?_
  (conv=>whnf)
  refine V.st ?_
  exact Fin.of rfl
 by_cases e6:c=6
 ·subst e6
  refine V.en tbOk Tryz.func46 ?_
  (conv=>whnf)
  refine V.st ?_
  exact Fin.of rfl
 by_cases e7:c=7
 ·subst e7
  refine V.en tbOk Tryz.func46 ?_
  (conv=>whnf)
  refine V.st ?_
  exact Fin.of rfl
 by_cases e10:c=10
 ·subst e10
  refine V.en tbOk Tryz.func46 ?_
  (conv=>whnf)
  refine V.st ?_
  exact Fin.of rfl
 have h1:tkn c=0:=by unfold tkn;simp[e1,e2,e3,e4,e5,e6,e7,e8,e9,e10,e11,e12]
 have h2:tkb c=false:=decide_eq_false (by omega)
 rw[h2]
 have f1:=decide_eq_false e1
 have f2:=decide_eq_false e2
 have f3:=decide_eq_false e3
 have f4:=decide_eq_false e4
 have f5:=decide_eq_false e5
 have f6:=decide_eq_false e6
 have f7:=decide_eq_false e7
 have f8:=decide_eq_false e8
 have f9:=decide_eq_false e9
 have f10:=decide_eq_false e10
 have f11:=decide_eq_false e11
 have f12:=decide_eq_false e12
 refine V.en tbOk Tryz.func46 ?_
 (conv=>whnf)
 (conv=>whnf)
 (try simp only[f1,f2,f3,f4,f5,f6,f7,f8,f9,f10,f11,f12])
 repeat ((first|refine V.s1 ?_);(try simp only[f1,f2,f3,f4,f5,f6,f7,f8,f9,f10,f11,f12]))
 exact Fin.of rfl
theorem rtk {c:Int}(h:tkb c=true):Cl 46 [.int .i64 c] (.int .i64 (tkn c)):=by
 have r:=rtakes_c c
 rw[if_pos h] at r
 exact r
abbrev dsD (l:List (Int×Int)):D := .slf 2 l.length (fun j=>[.int .u8 (l.getD j (0,0)).1,.int .i16 (l.getD j (0,0)).2])
abbrev drD (I O:Int)(l:List (Int×Int)):D := .agg [.int .u8 I,.int .u8 O,dsD l]
theorem dins_c (I O:Int)(l:List (Int×Int))(hI:0≤I∧I≤255):Cl 26 [drD I O l] (.int .i64 (1+I%3)):=by
 refine V.en tbOk Tryz.func26 ?_
 (conv=>whnf)
 (conv=>whnf)
 (try simp only[])
 repeat ((first|refine V.s1 ?_);(try simp only[]))
 exact Fin.of rfl
theorem douts_c (I O:Int)(l:List (Int×Int))(hO:0≤O∧O≤255):Cl 21 [drD I O l] (.int .i64 (1+O%3)):=by
 refine V.en tbOk Tryz.func21 ?_
 (conv=>whnf)
 (conv=>whnf)
 (try simp only[])
 repeat ((first|refine V.s1 ?_);(try simp only[]))
 exact Fin.of rfl
theorem wrap16 (a m:Int):(a%65536)%m=(IntKind.u16.wrap a).tmod m:=by
 have e:IntKind.u16.wrap a=a%65536:=by
  simp[IntKind.wrap,IntKind.bits,IntKind.signed]
 rw[e,Int.tmod_eq_emod_of_nonneg (jhN _ (by decide))]
theorem dcode_11 {n c:Int}(hn:0≤n)(h:dcode n c=11):0<n:=by
 unfold dcode at h
 split at h
 ·split at h<;>omega
 ·omega
theorem dst_len (ins:Int)(t:List (Int×Int)×Int)(s:Int×Int):(dst ins t s).1.length=t.1.length+1:=by unfold dst;simp
theorem dfo_len (ins:Int):∀ (l:List (Int×Int)) (t:List (Int×Int)×Int),(l.foldl (dst ins) t).1.length=t.1.length+l.length
 | [],t=>rfl
 | s::l,t=>by
  rw[List.foldl_cons,dfo_len ins l,dst_len,jiv];omega
theorem program_c (I O:Int)(l:List (Int×Int))(hI:0≤I∧I≤255)(hO:0≤O∧O≤255)(hl:∀ s∈l,(0≤s.1∧s.1≤255) ∧ -32768≤s.2∧s.2≤32767)(hlen:l.length≤281474976710656):Cl 17 [drD I O l] (oL (dprog (1+I%3) (1+O%3) l)):=by
 have ci:=dins_c I O l hI
 have co:=douts_c I O l hO
 refine V.en tbOk Tryz.func17 ?_
 (conv=>whnf)
 (conv=>whnf)
 (try simp only[])
 repeat ((first|refine V.s1 ?_);(try simp only[]))
 refine Lp.of ⟨Nat,fun k=>k≤12∧k≤l.length,fun k=>match k with|0=>[(1,.box 1 0),(3,.nil),(4,.int .i64 0),(5,.int .i64 0)]|k+1=>[(1,.box 1 0),(3,.bsl 300 0 (k+1) 2),(4,.int .i64 (dfo (1+I%3) (l.take (k+1))).2),(5,.int .i64 ((k+1:Nat):Int))],fun k=>match k with|0=>[(1,.box [.int .u8 I,.int .u8 O,dsD l])]|k+1=>[(1,.box [.int .u8 I,.int .u8 O,dsD l]),(300,.box (bcl (dfo (1+I%3) (l.take (k+1))).1))],fun k=>12-k,⟨0,⟨by omega,by omega⟩,V.wk⟩,?_⟩
 rintro k ⟨hk1,hk2⟩
 have hkc:((k:Int)+1)=((k+1:Nat):Int):=by omega
 cases k with
 | zero=>
  dsimp only
  refine V.r0 @jhR ?_
  refine V.br (fun hq=>?_) (fun hq=>?_)
  ·simp only[jhK,decide_eq_true_eq] at hq
   have hkl:0<l.length:=by omega
   have hX:=hl (l.getD 0 (0,0)) (by rw[jij,jim hkl];exact List.getElem_mem hkl)
   have hS:dfo (1+I%3) (l.take (0+1))=dst (1+I%3) ([],0) (l.getD 0 (0,0)):=by rw[jcc l 0 (0,0) hkl,dfo_snoc];rfl
   obtain⟨c,a,hca⟩:∃ c a,l.getD 0 (0,0)=(c,a):=⟨_,_,rfl⟩
   have hca2:l.getD (Int.toNat 0) (0,0)=(c,a):=hca
   rw[hca] at hS hX
   dsimp only at hX
   have tk:=rtk (c:=1+c%12) (by unfold tkb;simp only[decide_eq_true_eq];omega)
   (conv=>whnf)
   (try simp only[hca2])
   repeat ((first|refine V.s1 ?_|((try ((with_reducible refine .ext ?_);(conv=>whnf);(try simp only[hca2])));(with_reducible refine jaa (r:=?_) ?_ ?_);rotate_left;(focus (first|exact(tk)));(conv=>whnf))|((refine⟨_,fun _=>tk,?_⟩);(conv=>whnf)));(try simp only[hca2]))
   refine jaY [(1,.box 1 0),(3,.nil),(4,.int .i64 0),(5,.int .i64 0),(6,.box 6 0)] [(1,.box [.int .u8 I,.int .u8 O,dsD l]),(6,.box [.int .i64 1,.int .i64 0])] (CondB.mk (fun h=>?_) (fun h=>absurd h (by simp))) ?_
   ·(conv=>whnf)
    (try simp only[])
    repeat ((first|refine V.s1 ?_);(try simp only[]))
    exact V.wk
   have tk1:Cl 46 [.int .i64 1] (.int .i64 0):=rtk (c:=1) rfl
   have hS2:dst (1+I%3) ([],0) (c,a)=([(1,(IntKind.u16.wrap a).tmod (1+I%3))],1):=by
    have e1:dcode 0 (1+c%12)=1:=by unfold dcode;rw[if_pos (by omega)];rfl
    unfold dst dop
    dsimp only
    rw[e1]
    unfold darg
    rw[if_pos rfl,wrap16]
    rfl
   rw[hS2] at hS
   refine V.r0 hca2 ?_
   refine .inr ?_
   refine V.r2 hca2 ci tk1 ?_
   refine⟨0+1,⟨by omega,by omega⟩,by omega,?_⟩
   dsimp only
   rw[hS]
   refine Wk.renS 86 300 3 1 2 (by decide) (by decide) rfl rfl rfl ?_
   exact V.wk
  ·simp only[Bool.and_eq_false_iff,decide_eq_false_iff_not] at hq
   have hl0:l=[]:=by
    cases l with
    | nil=>rfl
    | cons q l=>simp at hq<;>omega
   have hfin:dfo (1+I%3) (l.take 12)=([],0):=by rw[hl0];rfl
   (conv=>whnf)
   (try simp only[])
   repeat ((first|refine V.s1 ?_);(try simp only[]))
   have hD:∃ D2,D2=dup (1+I%3) (1+O%3) 3 ([],0):=⟨_,rfl⟩
   obtain⟨D2,hD2⟩:=hD
   refine Lp.of ⟨List (Int×Int)×Int,fun t=>0≤t.2∧t.2≤9∧t.1.length≤20∧(t.1=[]→t.2=0) ∧ ∃ j:Nat,j≤3∧(1+O%3)-t.2≤j∧t.1.length+j≤15∧dup (1+I%3) (1+O%3) j t=D2,fun t=>match t.1 with|[]=>[(1,.box 1 0),(3,.nil),(4,.int .i64 t.2)]|q::r=>[(1,.box 1 0),(3,.bsl 300 0 (r.length+1) 2),(4,.int .i64 t.2)],fun t=>match t.1 with|[]=>[(1,.box [.int .u8 I,.int .u8 O,dsD l])]|q::r=>[(1,.box [.int .u8 I,.int .u8 O,dsD l]),(300,.box (bcl (q::r)))],fun t=>(9-t.2).toNat,⟨([],0),⟨Int.le_refl _,by decide,by simp,by simp,3,by omega,by omega,by simp<;>omega,hD2.symm⟩,V.wk⟩,?_⟩
   rintro⟨P2,n2⟩ ⟨j1,j2,j3,j4,j,j5,j6,j7,j8⟩
   dsimp only at j1 j2 j3 j4 j6 j7 j8
   cases P2 with
   | nil=>
    try dsimp only
    (conv=>whnf)
    (try simp only[])
    repeat ((first|refine V.s1 ?_|((try ((with_reducible refine .ext ?_);(conv=>whnf);(try simp only[])));(with_reducible refine jaa (r:=?_) ?_ ?_);rotate_left;(focus (first|exact(co)));(conv=>whnf)));(try simp only[]))
    refine V.br (fun hq2=>?_) (fun hq2=>?_)
    ·simp only[decide_eq_true_eq] at hq2
     (conv=>whnf)
     (try simp only[])
     repeat ((first|refine V.s1 ?_|((try ((with_reducible refine .ext ?_);(conv=>whnf);(try simp only[])));(with_reducible refine jaa (r:=?_) ?_ ?_);rotate_left;(focus (first|exact(ci)));(conv=>whnf)));(try simp only[]))
     refine⟨([]++[(1,n2%(1+I%3))],n2+1),⟨by dsimp only;omega,by dsimp only;omega,by simp at j7 ⊢ <;> omega,by simp,j-1,by omega,by dsimp only;omega,by simp at j7 ⊢; omega,?_⟩,by dsimp only;omega,?_⟩
     ·obtain⟨j',rfl⟩:∃ j',j=j'+1:=⟨j-1,by omega⟩
      rw[← j8]
      show dup (1+I%3) (1+O%3) j' _=dup (1+I%3) (1+O%3) (j'+1) ([],n2)
      rw[dup,if_pos hq2]
     ·dsimp only
      refine Wk.renS 104 300 3 1 2 (by decide) (by decide) rfl rfl rfl ?_
      exact V.wk
    ·simp only[decide_eq_false_iff_not] at hq2
     have e9:dup (1+I%3) (1+O%3) j ([],n2)=([],n2):=by
      cases j with
      | zero=>rfl
      | succ j=>rw[dup,if_neg hq2]
     rw[e9] at j8
     exact absurd (j4 rfl) (by omega)
   | cons q2 r2=>
    have pg2:=jas (q2::r2)
    have hb:Nat.beq (bcl (q2::r2)).length ((r2.length+1)*2)=true:=by rw[jaE];exact Nat.beq_refl _
    have hf:∀ i,D.freeL i (bcl (q2::r2)++[.int .i64 1,.int .i64 (n2%(1+I%3))])=true:=jat (q2::r2) 1 (n2%(1+I%3))
    have e2:bcl (q2::(r2++[(1,n2%(1+I%3))]))=bcl (q2::r2)++[.int .i64 1,.int .i64 (n2%(1+I%3))]:=jaN (q2::r2) [(1,n2%(1+I%3))]
    obtain⟨B2,hB2⟩:∃ B2,B2=bcl (q2::r2):=⟨_,rfl⟩
    dsimp only
    simp only[← hB2] at pg2 hb hf e2 ⊢
    try dsimp only
    (conv=>whnf)
    (try simp only[])
    repeat ((first|refine V.s1 ?_|((try ((with_reducible refine .ext ?_);(conv=>whnf);(try simp only[])));(with_reducible refine jaa (r:=?_) ?_ ?_);rotate_left;(focus (first|exact(co)));(conv=>whnf))|(((rewrite [pg2];(conv=>whnf)));(conv=>whnf)));(try simp only[]))
    refine V.br (fun hq2=>?_) (fun hq2=>?_)
    ·simp only[decide_eq_true_eq] at hq2
     have ht:Nat.ble (r2.length+1+1) 1000000=true:=by rw[jig];simp at j3;omega
     (conv=>whnf)
     (try simp only[])
     repeat ((first|refine V.s1 ?_|((try ((with_reducible refine .ext ?_);(conv=>whnf);(try simp only[])));(with_reducible refine jaa (r:=?_) ?_ ?_);rotate_left;(focus (first|exact(ci)));(conv=>whnf))|(((rewrite [pg2];(conv=>whnf)));(conv=>whnf))|(((simp only[hb,ht,jiD,hf];(conv=>whnf)));(conv=>whnf)));(try simp only[]))
     refine⟨((q2::r2)++[(1,n2%(1+I%3))],n2+1),⟨by dsimp only;omega,by dsimp only;omega,by simp at j7 ⊢ <;> omega,by simp,j-1,by omega,by dsimp only;omega,by simp at j7 ⊢; omega,?_⟩,by dsimp only;omega,?_⟩
     ·obtain⟨j',rfl⟩:∃ j',j=j'+1:=⟨j-1,by omega⟩
      rw[← j8]
      show dup (1+I%3) (1+O%3) j' _=dup (1+I%3) (1+O%3) (j'+1) ((q2::r2),n2)
      rw[dup,if_pos hq2]
     ·dsimp only
      have e1:(r2++[((1:Int),n2%(1+I%3))]).length=r2.length+1:=by simp
      rw[jih]
      dsimp only
      rw[e1,e2]
      refine Wk.renS 104 300 3 (r2.length+1+1) 2 (by decide) (by decide) (hf _) rfl rfl ?_
      exact V.wk
    ·simp only[decide_eq_false_iff_not] at hq2
     have e9:dup (1+I%3) (1+O%3) j ((q2::r2),n2)=((q2::r2),n2):=by
      cases j with
      | zero=>rfl
      | succ j=>rw[dup,if_neg hq2]
     rw[e9] at j8
     have hD3:dup (1+I%3) (1+O%3) 3 ([],0)=(q2::r2,n2):=hD2.symm.trans j8.symm
     have hne:0<n2:=by omega
     have hfin2:dprog (1+I%3) (1+O%3) l=(ddn (1+O%3) 9 ((q2::r2),n2)).1:=by
      unfold dprog;rw[hfin,show dup (1+I%3) (1+O%3) 3 ([],0)=(q2::r2,n2) from hD3]
     (conv=>whnf)
     (try simp only[])
     repeat ((first|refine V.s1 ?_|((try ((with_reducible refine .ext ?_);(conv=>whnf);(try simp only[])));(with_reducible refine jaa (r:=?_) ?_ ?_);rotate_left;(focus (first|fail));(conv=>whnf))|(((rewrite [pg2];(conv=>whnf)));(conv=>whnf)));(try simp only[]))
     rw[hB2]
     refine Lp.of ⟨List (Int×Int)×Int,fun t=>t.1≠[]∧t.1.length≤100∧t.2≤9∧1+O%3≤t.2 ∧ ∃ j:Nat,j≤9∧t.2-(1+O%3)≤j∧t.1.length+j≤40∧ddn (1+O%3) j t=ddn (1+O%3) 9 ((q2::r2),n2),fun t=>match t.1 with|[]=>[]|q::r=>[(1,.box 1 0),(3,.bsl 300 0 (r.length+1) 2),(4,.int .i64 t.2)],fun t=>match t.1 with|[]=>[]|q::r=>[(1,.box [.int .u8 I,.int .u8 O,dsD l]),(300,.box (bcl (q::r)))],fun t=>t.2.toNat,⟨((q2::r2),n2),⟨by simp,by simp at j3 ⊢; omega,by omega,by omega,9,by omega,by omega,by simp at j3 ⊢; omega,rfl⟩,V.wk⟩,?_⟩
     rintro⟨P3,n3⟩ ⟨i1,i2,i3,i4,j,i5,i6,i7,i8⟩
     dsimp only at i1 i2 i3 i4 i6 i7 i8
     cases P3 with
     | nil=>exact absurd rfl i1
     | cons q3 r3=>
      dsimp only
      have pg3:=jas (q3::r3)
      have pb3:=jbo (q3::r3)
      have bo3:bslOk (bcl (q3::r3)) 0 (r3.length+1) 2=true:=jbF (q3::r3)
      have hb:Nat.beq (bcl (q3::r3)).length ((r3.length+1)*2)=true:=by rw[jaE];exact Nat.beq_refl _
      have hf:∀ i,D.freeL i (bcl (q3::r3)++[.int .i64 3,.int .i64 0])=true:=jat (q3::r3) 3 0
      have e2:bcl (q3::(r3++[(3,0)]))=bcl (q3::r3)++[.int .i64 3,.int .i64 0]:=jaN (q3::r3) [(3,0)]
      have eo:oL (q3::r3)=sl2 (r3.length+1) (bcl (q3::r3)):=rfl
      obtain⟨B3,hB3⟩:∃ B3,B3=bcl (q3::r3):=⟨_,rfl⟩
      simp only[← hB3] at pg3 pb3 bo3 hb hf e2 eo ⊢
      (conv=>whnf)
      (try simp only[])
      repeat ((first|refine V.s1 ?_|((try ((with_reducible refine .ext ?_);(conv=>whnf);(try simp only[])));(with_reducible refine jaa (r:=?_) ?_ ?_);rotate_left;(focus (first|exact(co)));(conv=>whnf))|(((rewrite [pg3];(conv=>whnf)));(conv=>whnf)));(try simp only[]))
      refine V.br (fun hq3=>?_) (fun hq3=>?_)
      ·simp only[decide_eq_true_eq] at hq3
       have ht:Nat.ble (r3.length+1+1) 1000000=true:=by rw[jig];simp at i2;omega
       (conv=>whnf)
       (try simp only[])
       repeat ((first|refine V.s1 ?_|((try ((with_reducible refine .ext ?_);(conv=>whnf);(try simp only[])));(with_reducible refine jaa (r:=?_) ?_ ?_);rotate_left;(focus (first|fail));(conv=>whnf))|(((rewrite [pg3];(conv=>whnf)));(conv=>whnf))|(((simp only[hb,ht,jiD,hf];(conv=>whnf)));(conv=>whnf)));(try simp only[]))
       refine⟨(q3::(r3++[(3,0)]),n3-1),⟨by simp,by simp at i7 ⊢; omega,by dsimp only;omega,by dsimp only;omega,j-1,by omega,by dsimp only;omega,by simp at i7 ⊢; omega,?_⟩,by dsimp only;omega,?_⟩
       ·obtain⟨j',rfl⟩:∃ j',j=j'+1:=⟨j-1,by omega⟩
        rw[← i8]
        show ddn (1+O%3) j' _=ddn (1+O%3) (j'+1) (q3::r3,n3)
        rw[ddn,if_pos hq3]
        rfl
       ·dsimp only
        have e1:(r3++[((3:Int),(0:Int))]).length=r3.length+1:=by simp
        rw[e1,e2]
        refine Wk.renS 114 300 3 (r3.length+1+1) 2 (by decide) (by decide) (hf _) rfl rfl ?_
        exact V.wk
      ·simp only[decide_eq_false_iff_not] at hq3
       have e9:ddn (1+O%3) j (q3::r3,n3)=(q3::r3,n3):=by
        cases j with
        | zero=>rfl
        | succ j=>rw[ddn,if_neg hq3]
       rw[hfin2,← i8,e9]
       dsimp only
       rw[eo]
       (conv=>whnf)
       (try simp only[jhQ])
       repeat ((first|refine V.s1 ?_|((try ((with_reducible refine .ext ?_);(conv=>whnf);(try simp only[jhQ])));(with_reducible refine jaa (r:=?_) ?_ ?_);rotate_left;(focus (first|fail));(conv=>whnf))|(((rewrite [pg3];(conv=>whnf)));(conv=>whnf))|(((rewrite [bo3];(conv=>whnf)));(conv=>whnf))|(((rewrite [pb3];(conv=>whnf)));(conv=>whnf)));(try simp only[jhQ]))
       exact Fin.of rfl
 | succ k=>
  dsimp only
  have hkk:(((k+1:Nat):Int)+1)=((k+1+1:Nat):Int):=by omega
  have hP:(dfo (1+I%3) (l.take (k+1))).1.length=k+1:=by
   unfold dfo;rw[dfo_len,jio];simp;omega
  have hG:=good_dfo (ins:=1+I%3) (by omega) (l.take (k+1)) (fun s hs=>(hl s (jit hs)).2)
  have hn:=And.intro hG.lo hG.hi
  have hS:k+1<l.length→dfo (1+I%3) (l.take (k+1+1))=dst (1+I%3) (dfo (1+I%3) (l.take (k+1))) (l.getD (k+1) (0,0)):=fun h=>by rw[jcc l (k+1) (0,0) h,dfo_snoc]
  have hX:k+1<l.length→(0≤(l.getD (k+1) (0,0)).1∧(l.getD (k+1) (0,0)).1≤255) ∧ -32768≤(l.getD (k+1) (0,0)).2∧(l.getD (k+1) (0,0)).2≤32767:=fun h=>hl _ (by rw[jij,jim h];exact List.getElem_mem h)
  clear hG
  obtain⟨t,hT⟩:∃ t,t=dfo (1+I%3) (l.take (k+1)):=⟨_,rfl⟩
  rw[← hT] at hP hn hS ⊢
  obtain⟨P,n⟩:=t
  dsimp only at hP hn hS ⊢
  have pg:=jas P
  refine V.r0 @jhR ?_
  refine V.br (fun hq=>?_) (fun hq=>?_)
  ·simp only[jhK,decide_eq_true_eq] at hq
   have hkl:k+1<l.length:=by omega
   have hS:=hS hkl
   have hX:=hX hkl
   obtain⟨c,a,hca⟩:∃ c a,l.getD (k+1) (0,0)=(c,a):=⟨_,_,rfl⟩
   rw[hca] at hS hX
   dsimp only at hX
   have tk:=rtk (c:=1+c%12) (by unfold tkb;simp only[decide_eq_true_eq];omega)
   (conv=>whnf)
   (try simp only[jhR,hca])
   repeat ((first|refine V.s1 ?_|((try ((with_reducible refine .ext ?_);(conv=>whnf);(try simp only[jhR,hca])));(with_reducible refine jaa (r:=?_) ?_ ?_);rotate_left;(focus (first|exact(tk)));(conv=>whnf))|((refine⟨_,fun _=>tk,?_⟩);(conv=>whnf))|(((rewrite [pg];(conv=>whnf)));(conv=>whnf)));(try simp only[jhR,hca]))
   refine⟨fun h1 h2=>by rw[h1,h2];rfl,?_⟩
   (conv=>whnf)
   (try simp only[jhR,hca])
   repeat ((first|refine V.s1 ?_|((try ((with_reducible refine .ext ?_);(conv=>whnf);(try simp only[jhR,hca])));(with_reducible refine jaa (r:=?_) ?_ ?_);rotate_left;(focus (first|exact(tk)));(conv=>whnf))|(((rewrite [pg];(conv=>whnf)));(conv=>whnf)));(try simp only[jhR,hca]))
   refine jaY [(1,.box 1 0),(3,.bsl 300 0 (k+1) 2),(4,.int .i64 n),(5,.int .i64 ((k+1:Nat):Int)),(6,.box 6 0)] [(1,.box [.int .u8 I,.int .u8 O,dsD l]),(300,.box (bcl P)),(6,.box [.int .i64 (dcode n (1+c%12)),.int .i64 0])] (CondB.mk (fun h=>?_) (fun h=>?_)) ?_
   ·have e:dcode n (1+c%12)=if n>8 then 3 else 1:=by
     unfold dcode
     simp only[jh0,jhK,decide_eq_true_eq] at h
     rw[if_pos (by omega)]
    rw[e]
    (conv=>whnf)
    (try simp only[])
    repeat ((first|refine V.s1 ?_|((try ((with_reducible refine .ext ?_);(conv=>whnf);(try simp only[])));(with_reducible refine jaa (r:=?_) ?_ ?_);rotate_left;(focus (first|fail));(conv=>whnf))|(((rewrite [pg];(conv=>whnf)));(conv=>whnf)));(try simp only[]))
    refine V.br (fun h8=>?_) (fun h8=>?_)
    ·rw[if_pos (of_decide_eq_true h8)]
     (conv=>whnf)
     (try simp only[])
     repeat ((first|refine V.s1 ?_|((try ((with_reducible refine .ext ?_);(conv=>whnf);(try simp only[])));(with_reducible refine jaa (r:=?_) ?_ ?_);rotate_left;(focus (first|fail));(conv=>whnf))|(((rewrite [pg];(conv=>whnf)));(conv=>whnf)));(try simp only[]))
     exact V.wk
    ·rw[if_neg (of_decide_eq_false h8)]
     (conv=>whnf)
     exact V.wk
   ·have e:dcode n (1+c%12)=1+c%12:=by
     unfold dcode
     simp only[jh1,Bool.and_eq_false_iff,decide_eq_false_iff_not] at h
     rw[if_neg (by omega)]
    rw[e]
    (conv=>whnf)
    exact V.wk
   have hcb:tkb (dcode n (1+c%12))=true:=dop_code 0 n (c,a)
   have hS2:dst (1+I%3) (P,n) (c,a)=(P++[(dcode n (1+c%12),darg (1+I%3) n (dcode n (1+c%12)) a)],n-tkn (dcode n (1+c%12))+1):=rfl
   rw[hS2] at hS
   have h11:dcode n (1+c%12)=11→0<n:=dcode_11 hn.1
   generalize dcode n (1+c%12)=cc at *
   (conv=>whnf)
   (try simp only[jhR,hca])
   repeat ((first|refine V.s1 ?_|((try ((with_reducible refine .ext ?_);(conv=>whnf);(try simp only[jhR,hca])));(with_reducible refine jaa (r:=?_) ?_ ?_);rotate_left;(focus (first|fail));(conv=>whnf))|(((rewrite [pg];(conv=>whnf)));(conv=>whnf)));(try simp only[jhR,hca]))
   refine jaY [(1,.box 1 0),(3,.bsl 300 0 (k+1) 2),(4,.int .i64 n),(5,.int .i64 ((k+1:Nat):Int)),(6,.box 6 0)] [(1,.box [.int .u8 I,.int .u8 O,dsD l]),(300,.box (bcl P)),(6,.box [.int .i64 cc,.int .i64 (darg (1+I%3) n cc a)])] (CondB.mk (fun h=>?_) (fun h=>?_)) ?_
   ·have e1:=of_decide_eq_true h
    have e:darg (1+I%3) n cc a=(IntKind.u16.wrap a).tmod (1+I%3):=by unfold darg;rw[if_pos e1,wrap16]
    rw[e]
    (conv=>whnf)
    (try simp only[])
    repeat ((first|refine V.s1 ?_|((try ((with_reducible refine .ext ?_);(conv=>whnf);(try simp only[])));(with_reducible refine jaa (r:=?_) ?_ ?_);rotate_left;(focus (first|exact(ci)));(conv=>whnf))|(((rewrite [pg];(conv=>whnf)));(conv=>whnf)));(try simp only[]))
    refine .inr ?_
    (conv=>whnf)
    (try simp only[])
    repeat ((first|refine V.s1 ?_|((try ((with_reducible refine .ext ?_);(conv=>whnf);(try simp only[])));(with_reducible refine jaa (r:=?_) ?_ ?_);rotate_left;(focus (first|exact(ci)));(conv=>whnf))|(((rewrite [pg];(conv=>whnf)));(conv=>whnf)));(try simp only[]))
    exact V.wk
   ·have e1:=of_decide_eq_false h
    (conv=>whnf)
    (try simp only[])
    repeat ((first|refine V.s1 ?_|((try ((with_reducible refine .ext ?_);(conv=>whnf);(try simp only[])));(with_reducible refine jaa (r:=?_) ?_ ?_);rotate_left;(focus (first|fail));(conv=>whnf))|(((rewrite [pg];(conv=>whnf)));(conv=>whnf)));(try simp only[]))
    refine V.br (fun h2=>?_) (fun h2=>?_)
    ·have e2:=of_decide_eq_true h2
     have e:darg (1+I%3) n cc a=100*a:=by unfold darg;rw[if_neg e1,if_pos e2]
     rw[e]
     (conv=>whnf)
     (try simp only[])
     repeat ((first|refine V.s1 ?_|((try ((with_reducible refine .ext ?_);(conv=>whnf);(try simp only[])));(with_reducible refine jaa (r:=?_) ?_ ?_);rotate_left;(focus (first|fail));(conv=>whnf))|(((rewrite [pg];(conv=>whnf)));(conv=>whnf)));(try simp only[]))
     exact V.wk
    ·have e2:=of_decide_eq_false h2
     (conv=>whnf)
     (try simp only[])
     repeat ((first|refine V.s1 ?_|((try ((with_reducible refine .ext ?_);(conv=>whnf);(try simp only[])));(with_reducible refine jaa (r:=?_) ?_ ?_);rotate_left;(focus (first|fail));(conv=>whnf))|(((rewrite [pg];(conv=>whnf)));(conv=>whnf)));(try simp only[]))
     refine V.br (fun h3=>?_) (fun h3=>?_)
     ·have e3:=of_decide_eq_true h3
      have e:darg (1+I%3) n cc a=(IntKind.u16.wrap a).tmod n:=by unfold darg;rw[if_neg e1,if_neg e2,if_pos e3,wrap16]
      rw[e]
      (conv=>whnf)
      (try simp only[])
      repeat ((first|refine V.s1 ?_|((try ((with_reducible refine .ext ?_);(conv=>whnf);(try simp only[])));(with_reducible refine jaa (r:=?_) ?_ ?_);rotate_left;(focus (first|fail));(conv=>whnf))|(((rewrite [pg];(conv=>whnf)));(conv=>whnf)));(try simp only[]))
      have n0:=h11 e3
      refine .inr ?_
      (conv=>whnf)
      (try simp only[])
      repeat ((first|refine V.s1 ?_|((try ((with_reducible refine .ext ?_);(conv=>whnf);(try simp only[])));(with_reducible refine jaa (r:=?_) ?_ ?_);rotate_left;(focus (first|fail));(conv=>whnf))|(((rewrite [pg];(conv=>whnf)));(conv=>whnf)));(try simp only[]))
      exact V.wk
     ·have e3:=of_decide_eq_false h3
      have e:darg (1+I%3) n cc a=0:=by unfold darg;rw[if_neg e1,if_neg e2,if_neg e3]
      rw[e]
      (conv=>whnf)
      exact V.wk
   have tk2:=rtk hcb
   have htk:=je9 cc
   have hb:Nat.beq (bcl P).length ((k+1)*2)=true:=by rw[jaE,hP];exact Nat.beq_refl _
   have ht:Nat.ble (k+1+1) 1000000=true:=by rw[jig];omega
   generalize darg (1+I%3) n cc a=ag at *
   have hf:∀ i,D.freeL i (bcl P++[.int .i64 cc,.int .i64 ag])=true:=jat P cc ag
   (conv=>whnf)
   (try simp only[jhR,hkk])
   repeat ((first|refine V.s1 ?_|((try ((with_reducible refine .ext ?_);(conv=>whnf);(try simp only[jhR,hkk])));(with_reducible refine jaa (r:=?_) ?_ ?_);rotate_left;(focus (first|exact(tk2)));(conv=>whnf))|(((rewrite [pg];(conv=>whnf)));(conv=>whnf))|(((simp only[hb,ht,jiD,hf];(conv=>whnf)));(conv=>whnf)));(try simp only[jhR,hkk]))
   refine⟨k+1+1,⟨by omega,by omega⟩,by omega,?_⟩
   dsimp only
   rw[hS]
   dsimp only
   rw[jaN]
   refine Wk.renS 86 300 3 (k+1+1) 2 (by decide) (by decide) (hf _) rfl rfl ?_
   exact V.wk
  ·simp only[Bool.and_eq_false_iff,decide_eq_false_iff_not] at hq
   have hfin:dfo (1+I%3) (l.take 12)=(P,n):=by
    rcases jhZ (k+1) l.length with g|g
    ·rw[show 12=k+1 by omega];exact hT.symm
    ·rw[jix (by omega)]
     rw[jix g] at hT
     exact hT.symm
   (conv=>whnf)
   (try simp only[])
   repeat ((first|refine V.s1 ?_|((try ((with_reducible refine .ext ?_);(conv=>whnf);(try simp only[])));(with_reducible refine jaa (r:=?_) ?_ ?_);rotate_left;(focus (first|fail));(conv=>whnf))|(((rewrite [pg];(conv=>whnf)));(conv=>whnf)));(try simp only[]))
   cases P with
   | nil=>simp at hP
   | cons q0 r0=>
    obtain rfl:k=r0.length:=by simpa using hP.symm
    have hD:∃ D2,D2=dup (1+I%3) (1+O%3) 3 (q0::r0,n):=⟨_,rfl⟩
    obtain⟨D2,hD2⟩:=hD
    refine Lp.of ⟨List (Int×Int)×Int,fun t=>0≤t.2∧t.2≤9∧t.1.length≤20∧(t.1=[]→t.2=0) ∧ ∃ j:Nat,j≤3∧(1+O%3)-t.2≤j∧t.1.length+j≤15∧dup (1+I%3) (1+O%3) j t=D2,fun t=>match t.1 with|[]=>[(1,.box 1 0),(3,.nil),(4,.int .i64 t.2)]|q::r=>[(1,.box 1 0),(3,.bsl 300 0 (r.length+1) 2),(4,.int .i64 t.2)],fun t=>match t.1 with|[]=>[(1,.box [.int .u8 I,.int .u8 O,dsD l])]|q::r=>[(1,.box [.int .u8 I,.int .u8 O,dsD l]),(300,.box (bcl (q::r)))],fun t=>(9-t.2).toNat,⟨(q0::r0,n),⟨by dsimp only;omega,by dsimp only;omega,by simp<;>omega,by simp,3,by omega,by omega,by simp<;>omega,hD2.symm⟩,V.wk⟩,?_⟩
    rintro⟨P2,n2⟩ ⟨j1,j2,j3,j4,j,j5,j6,j7,j8⟩
    dsimp only at j1 j2 j3 j4 j6 j7 j8
    cases P2 with
    | nil=>
     try dsimp only
     (conv=>whnf)
     (try simp only[])
     repeat ((first|refine V.s1 ?_|((try ((with_reducible refine .ext ?_);(conv=>whnf);(try simp only[])));(with_reducible refine jaa (r:=?_) ?_ ?_);rotate_left;(focus (first|exact(co)));(conv=>whnf)));(try simp only[]))
     refine V.br (fun hq2=>?_) (fun hq2=>?_)
     ·simp only[decide_eq_true_eq] at hq2
      (conv=>whnf)
      (try simp only[])
      repeat ((first|refine V.s1 ?_|((try ((with_reducible refine .ext ?_);(conv=>whnf);(try simp only[])));(with_reducible refine jaa (r:=?_) ?_ ?_);rotate_left;(focus (first|exact(ci)));(conv=>whnf)));(try simp only[]))
      refine⟨([]++[(1,n2%(1+I%3))],n2+1),⟨by dsimp only;omega,by dsimp only;omega,by simp at j7 ⊢ <;> omega,by simp,j-1,by omega,by dsimp only;omega,by simp at j7 ⊢; omega,?_⟩,by dsimp only;omega,?_⟩
      ·obtain⟨j',rfl⟩:∃ j',j=j'+1:=⟨j-1,by omega⟩
       rw[← j8]
       show dup (1+I%3) (1+O%3) j' _=dup (1+I%3) (1+O%3) (j'+1) ([],n2)
       rw[dup,if_pos hq2]
      ·dsimp only
       refine Wk.renS 104 300 3 1 2 (by decide) (by decide) rfl rfl rfl ?_
       exact V.wk
     ·simp only[decide_eq_false_iff_not] at hq2
      have e9:dup (1+I%3) (1+O%3) j ([],n2)=([],n2):=by
       cases j with
       | zero=>rfl
       | succ j=>rw[dup,if_neg hq2]
      rw[e9] at j8
      exact absurd (j4 rfl) (by omega)
    | cons q2 r2=>
     have pg2:=jas (q2::r2)
     have hb:Nat.beq (bcl (q2::r2)).length ((r2.length+1)*2)=true:=by rw[jaE];exact Nat.beq_refl _
     have hf:∀ i,D.freeL i (bcl (q2::r2)++[.int .i64 1,.int .i64 (n2%(1+I%3))])=true:=jat (q2::r2) 1 (n2%(1+I%3))
     have e2:bcl (q2::(r2++[(1,n2%(1+I%3))]))=bcl (q2::r2)++[.int .i64 1,.int .i64 (n2%(1+I%3))]:=jaN (q2::r2) [(1,n2%(1+I%3))]
     obtain⟨B2,hB2⟩:∃ B2,B2=bcl (q2::r2):=⟨_,rfl⟩
     dsimp only
     simp only[← hB2] at pg2 hb hf e2 ⊢
     try dsimp only
     (conv=>whnf)
     (try simp only[])
     repeat ((first|refine V.s1 ?_|((try ((with_reducible refine .ext ?_);(conv=>whnf);(try simp only[])));(with_reducible refine jaa (r:=?_) ?_ ?_);rotate_left;(focus (first|exact(co)));(conv=>whnf))|(((rewrite [pg2];(conv=>whnf)));(conv=>whnf)));(try simp only[]))
     refine V.br (fun hq2=>?_) (fun hq2=>?_)
     ·simp only[decide_eq_true_eq] at hq2
      have ht:Nat.ble (r2.length+1+1) 1000000=true:=by rw[jig];simp at j3;omega
      (conv=>whnf)
      (try simp only[])
      repeat ((first|refine V.s1 ?_|((try ((with_reducible refine .ext ?_);(conv=>whnf);(try simp only[])));(with_reducible refine jaa (r:=?_) ?_ ?_);rotate_left;(focus (first|exact(ci)));(conv=>whnf))|(((rewrite [pg2];(conv=>whnf)));(conv=>whnf))|(((simp only[hb,ht,jiD,hf];(conv=>whnf)));(conv=>whnf)));(try simp only[]))
      refine⟨((q2::r2)++[(1,n2%(1+I%3))],n2+1),⟨by dsimp only;omega,by dsimp only;omega,by simp at j7 ⊢ <;> omega,by simp,j-1,by omega,by dsimp only;omega,by simp at j7 ⊢; omega,?_⟩,by dsimp only;omega,?_⟩
      ·obtain⟨j',rfl⟩:∃ j',j=j'+1:=⟨j-1,by omega⟩
       rw[← j8]
       show dup (1+I%3) (1+O%3) j' _=dup (1+I%3) (1+O%3) (j'+1) ((q2::r2),n2)
       rw[dup,if_pos hq2]
      ·dsimp only
       have e1:(r2++[((1:Int),n2%(1+I%3))]).length=r2.length+1:=by simp
       rw[jih]
       dsimp only
       rw[e1,e2]
       refine Wk.renS 104 300 3 (r2.length+1+1) 2 (by decide) (by decide) (hf _) rfl rfl ?_
       exact V.wk
     ·simp only[decide_eq_false_iff_not] at hq2
      have e9:dup (1+I%3) (1+O%3) j ((q2::r2),n2)=((q2::r2),n2):=by
       cases j with
       | zero=>rfl
       | succ j=>rw[dup,if_neg hq2]
      rw[e9] at j8
      have hD3:dup (1+I%3) (1+O%3) 3 (q0::r0,n)=(q2::r2,n2):=hD2.symm.trans j8.symm
      have hne:0<n2:=by omega
      have hfin2:dprog (1+I%3) (1+O%3) l=(ddn (1+O%3) 9 ((q2::r2),n2)).1:=by
       unfold dprog;rw[hfin,show dup (1+I%3) (1+O%3) 3 (q0::r0,n)=(q2::r2,n2) from hD3]
      (conv=>whnf)
      (try simp only[])
      repeat ((first|refine V.s1 ?_|((try ((with_reducible refine .ext ?_);(conv=>whnf);(try simp only[])));(with_reducible refine jaa (r:=?_) ?_ ?_);rotate_left;(focus (first|fail));(conv=>whnf))|(((rewrite [pg2];(conv=>whnf)));(conv=>whnf)));(try simp only[]))
      rw[hB2]
      refine Lp.of ⟨List (Int×Int)×Int,fun t=>t.1≠[]∧t.1.length≤100∧t.2≤9∧1+O%3≤t.2 ∧ ∃ j:Nat,j≤9∧t.2-(1+O%3)≤j∧t.1.length+j≤40∧ddn (1+O%3) j t=ddn (1+O%3) 9 ((q2::r2),n2),fun t=>match t.1 with|[]=>[]|q::r=>[(1,.box 1 0),(3,.bsl 300 0 (r.length+1) 2),(4,.int .i64 t.2)],fun t=>match t.1 with|[]=>[]|q::r=>[(1,.box [.int .u8 I,.int .u8 O,dsD l]),(300,.box (bcl (q::r)))],fun t=>t.2.toNat,⟨((q2::r2),n2),⟨by simp,by simp at j3 ⊢; omega,by omega,by omega,9,by omega,by omega,by simp at j3 ⊢; omega,rfl⟩,V.wk⟩,?_⟩
      rintro⟨P3,n3⟩ ⟨i1,i2,i3,i4,j,i5,i6,i7,i8⟩
      dsimp only at i1 i2 i3 i4 i6 i7 i8
      cases P3 with
      | nil=>exact absurd rfl i1
      | cons q3 r3=>
       dsimp only
       have pg3:=jas (q3::r3)
       have pb3:=jbo (q3::r3)
       have bo3:bslOk (bcl (q3::r3)) 0 (r3.length+1) 2=true:=jbF (q3::r3)
       have hb:Nat.beq (bcl (q3::r3)).length ((r3.length+1)*2)=true:=by rw[jaE];exact Nat.beq_refl _
       have hf:∀ i,D.freeL i (bcl (q3::r3)++[.int .i64 3,.int .i64 0])=true:=jat (q3::r3) 3 0
       have e2:bcl (q3::(r3++[(3,0)]))=bcl (q3::r3)++[.int .i64 3,.int .i64 0]:=jaN (q3::r3) [(3,0)]
       have eo:oL (q3::r3)=sl2 (r3.length+1) (bcl (q3::r3)):=rfl
       obtain⟨B3,hB3⟩:∃ B3,B3=bcl (q3::r3):=⟨_,rfl⟩
       simp only[← hB3] at pg3 pb3 bo3 hb hf e2 eo ⊢
       (conv=>whnf)
       (try simp only[])
       repeat ((first|refine V.s1 ?_|((try ((with_reducible refine .ext ?_);(conv=>whnf);(try simp only[])));(with_reducible refine jaa (r:=?_) ?_ ?_);rotate_left;(focus (first|exact(co)));(conv=>whnf))|(((rewrite [pg3];(conv=>whnf)));(conv=>whnf)));(try simp only[]))
       refine V.br (fun hq3=>?_) (fun hq3=>?_)
       ·simp only[decide_eq_true_eq] at hq3
        have ht:Nat.ble (r3.length+1+1) 1000000=true:=by rw[jig];simp at i2;omega
        (conv=>whnf)
        (try simp only[])
        repeat ((first|refine V.s1 ?_|((try ((with_reducible refine .ext ?_);(conv=>whnf);(try simp only[])));(with_reducible refine jaa (r:=?_) ?_ ?_);rotate_left;(focus (first|fail));(conv=>whnf))|(((rewrite [pg3];(conv=>whnf)));(conv=>whnf))|(((simp only[hb,ht,jiD,hf];(conv=>whnf)));(conv=>whnf)));(try simp only[]))
        refine⟨(q3::(r3++[(3,0)]),n3-1),⟨by simp,by simp at i7 ⊢; omega,by dsimp only;omega,by dsimp only;omega,j-1,by omega,by dsimp only;omega,by simp at i7 ⊢; omega,?_⟩,by dsimp only;omega,?_⟩
        ·obtain⟨j',rfl⟩:∃ j',j=j'+1:=⟨j-1,by omega⟩
         rw[← i8]
         show ddn (1+O%3) j' _=ddn (1+O%3) (j'+1) (q3::r3,n3)
         rw[ddn,if_pos hq3]
         rfl
        ·dsimp only
         have e1:(r3++[((3:Int),(0:Int))]).length=r3.length+1:=by simp
         rw[e1,e2]
         refine Wk.renS 114 300 3 (r3.length+1+1) 2 (by decide) (by decide) (hf _) rfl rfl ?_
         exact V.wk
       ·simp only[decide_eq_false_iff_not] at hq3
        have e9:ddn (1+O%3) j (q3::r3,n3)=(q3::r3,n3):=by
         cases j with
         | zero=>rfl
         | succ j=>rw[ddn,if_neg hq3]
        rw[hfin2,← i8,e9]
        dsimp only
        rw[eo]
        (conv=>whnf)
        (try simp only[jhQ])
        repeat ((first|refine V.s1 ?_|((try ((with_reducible refine .ext ?_);(conv=>whnf);(try simp only[jhQ])));(with_reducible refine jaa (r:=?_) ?_ ?_);rotate_left;(focus (first|fail));(conv=>whnf))|(((rewrite [pg3];(conv=>whnf)));(conv=>whnf))|(((rewrite [bo3];(conv=>whnf)));(conv=>whnf))|(((rewrite [pb3];(conv=>whnf)));(conv=>whnf)));(try simp only[jhQ]))
        exact Fin.of rfl
def argR (c a i n:Int):Bool:=if c=1 then decide (0≤a) && decide (a<i) else if c=2 then decide (-1000000000≤a) && decide (a≤1000000000) else if c=11 then decide (0≤a) && decide (a<n) else decide (a=0)
theorem argued_c (c a i n:Int):Cl 128 [.agg [.int .i64 c,.int .i64 a],.int .i64 i,.int .i64 n] (.bool (argR c a i n)):=by
 by_cases e1:c=1
 ·subst e1
  refine V.en tbOk Tryz.func128 ?_
  (conv=>whnf)
  (conv=>whnf)
  (try simp only[])
  repeat ((first|refine V.s1 ?_);(try simp only[]))
  exact Fin.of rfl
 by_cases e2:c=2
 ·subst e2
  refine V.en tbOk Tryz.func128 ?_
  (conv=>whnf)
  (conv=>whnf)
  (try simp only[])
  repeat ((first|refine V.s1 ?_);(try simp only[]))
  exact Fin.of rfl
 by_cases e11:c=11
 ·subst e11
  refine V.en tbOk Tryz.func128 ?_
  (conv=>whnf)
  (conv=>whnf)
  (try simp only[])
  repeat ((first|refine V.s1 ?_);(try simp only[]))
  exact Fin.of rfl
 have h1:argR c a i n=decide (a=0):=by unfold argR;rw[if_neg e1,if_neg e2,if_neg e11]
 rw[h1]
 have f1:=decide_eq_false e1
 have f2:=decide_eq_false e2
 have f11:=decide_eq_false e11
 refine V.en tbOk Tryz.func128 ?_
 refine V.r0 (V.a3 f1 f2 f11) ?_
 exact Fin.of rfl
def tkR (c:Int):Int:=if tkb c=true then tkn c else -1
def rS (i:Int)(s:Int×Int)(o:Int×Int):Option (Int×Int):=
 if (decide (tkR o.1<0) || decide (s.1<tkR o.1) || !(argR o.1 o.2 i s.1))=true then none else some (s.1-tkR o.1+1,max s.2 (s.1-tkR o.1+1))
def rL (i:Int)(s:Int×Int):List (Int×Int)→Option (Int×Int)
 | []=>some s
 | o::p=>match rS i s o with|some s'=>rL i s' p|none=>none
def rD (p:List (Int×Int))(i o:Int):Int×Bool:=
 if (decide (i<1) || decide (4<i) || decide (o<1) || decide (4<o) || decide (40<(p.length:Int)))=true then (0,false) else match rL i (0,0) p with|some (n,d)=>(d,decide (d≤16) && decide (n=o))|none=>(0,false)
theorem rL_app (i:Int)(s:Int×Int)(p q:List (Int×Int)):rL i s (p++q)=match rL i s p with|some s'=>rL i s' q|none=>none:=by
 induction p generalizing s with
 | nil=>rfl
 | cons o p ih=>
  simp only[jih,rL]
  cases rS i s o with
  | none=>rfl
  | some s'=>exact ih s'
theorem rL_snoc (i:Int)(p:List (Int×Int))(k:Nat)(h:k<p.length):rL i (0,0) (p.take (k+1))=match rL i (0,0) (p.take k) with|some s=>rS i s (p.getD k (0,0))|none=>none:=by
 rw[jcc p k (0,0) h,rL_app]
 cases rL i (0,0) (p.take k) with
 | none=>rfl
 | some s=>
  simp only[rL]
  cases rS i s (p.getD k (0,0))<;>rfl
theorem rL_none {i:Int}{p:List (Int×Int)}{k:Nat}(h:rL i (0,0) (p.take k)=none):rL i (0,0) p=none:=by
 conv=>lhs;rw[← List.take_append_drop k p]
 rw[rL_app,h]
theorem tkR_bd (c:Int) : -1≤tkR c∧tkR c≤3:=by
 unfold tkR
 have:=je9 c
 split<;>omega
theorem rL_bd {i:Int} : ∀ {p:List (Int×Int)} {s s':Int×Int},rL i s p=some s'→0≤s.1→0≤s'.1∧s'.1≤s.1+p.length∧s.2≤s'.2∧s'.2≤max s.2 (s.1+p.length)
 | [],s,s',h,h0=>by cases h;simp;omega
 | o::p,s,s',h,h0=>by
  simp only[rL] at h
  cases hs:rS i s o with
  | none=>rw[hs] at h;cases h
  | some t=>
   rw[hs] at h
   have b:=tkR_bd o.1
   unfold rS at hs
   split at hs
   ·cases hs
   ·rename_i hn
    simp only[jh0,decide_eq_true_eq,not_or,Int.not_lt] at hn
    cases hs
    have:=rL_bd h (by dsimp only;omega)
    simp only[jiv] at this ⊢
    omega
theorem rdepth_c (p:List (Int×Int))(i o:Int):Cl 60 [opsD p,.int .i64 i,.int .i64 o] (.tup [.int .i64 (rD p i o).1,.bool (rD p i o).2]):=by
 cases hL:(decide (i<1) || decide (4<i) || decide (o<1) || decide (4<o) || decide (40<(p.length:Int))) with
 | true=>
  have hs:rD p i o=(0,false):=by unfold rD;rw[if_pos hL]
  rw[hs]
  refine V.en tbOk Tryz.func60 ?_
  refine V.r0 hL ?_
  exact Fin.of rfl
 | false=>
  have hs:rD p i o=match rL i (0,0) p with|some (n,d)=>(d,decide (d≤16) && decide (n=o))|none=>(0,false):=by unfold rD;rw[if_neg (by rw[hL];decide)]<;>rfl
  have hb:1≤i∧i≤4∧1≤o∧o≤4∧p.length≤40:=by simp at hL;omega
  refine V.en tbOk Tryz.func60 ?_
  refine V.r0 hL ?_
  refine jaj (((0:Nat),(0:Int),(0:Int))) (fun k=>k.1≤p.length∧rL i (0,0) (p.take k.1)=some (k.2.1,k.2.2)) (fun k=>p.length-k.1) (fun k=>[(8,.int .i64 k.2.1),(9,.int .i64 k.2.2),(10,.int .i64 k.1)]) (fun k=>[]) ?_ ?_ ?_
  ·exact V.wk
  ·exact⟨jhM _,rfl⟩
  rintro⟨k,n,d⟩ ⟨hk,hr⟩
  dsimp only at hk hr ⊢
  have hbd:=rL_bd hr (by simp)
  dsimp only at hbd
  rw[jio] at hbd
  have hkc:((k:Int)+1)=((k+1:Nat):Int):=by omega
  (conv=>whnf)
  refine V.st ?_
  refine V.br (fun hq=>?_) (fun hq=>?_)
  ·simp only[decide_eq_true_eq] at hq
   have hk2:k<p.length:=by omega
   have hsn:=rL_snoc i p k hk2
   rw[hr] at hsn
   obtain⟨c,a,hca⟩:∃ c a,p.getD k (0,0)=(c,a):=⟨_,_,rfl⟩
   rw[hca] at hsn
   dsimp only at hsn
   have tk:=rtakes_c c
   rw[show (if tkb c=true then tkn c else -1)=tkR c from rfl] at tk
   have ag:=argued_c c a i n
   have tb:=tkR_bd c
   cases h1:(decide (tkR c<0) || decide (n<tkR c) || !(argR c a i n)) with
   | true=>
    have hn:rS i (n,d) (c,a)=none:=if_pos h1
    rw[hn] at hsn
    rw[hs,rL_none hsn]
    (conv=>whnf)
    (try simp only[jhR,hca,h1])
    repeat ((first|refine V.s1 ?_|((try ((with_reducible refine .ext ?_);(conv=>whnf);(try simp only[jhR,hca,h1])));(with_reducible refine jaa (r:=?_) ?_ ?_);rotate_left;(focus (first|exact(tk)));(conv=>whnf))|((refine⟨_,fun _=>ag,?_⟩);(conv=>whnf)));(try simp only[jhR,hca,h1]))
    exact Fin.of rfl
   | false=>
    have hn:rS i (n,d) (c,a)=some (n-tkR c+1,max d (n-tkR c+1)):=if_neg (by rw[h1];decide)
    rw[hn] at hsn
    have hbd2:0≤n-tkR c+1∧n-tkR c+1≤42:=by
     simp only[jh1,decide_eq_false_iff_not,Int.not_lt] at h1
     omega
    (conv=>whnf)
    (try simp only[jhR,hca,h1,hkc])
    repeat ((first|refine V.s1 ?_|((try ((with_reducible refine .ext ?_);(conv=>whnf);(try simp only[jhR,hca,h1,hkc])));(with_reducible refine jaa (r:=?_) ?_ ?_);rotate_left;(focus (first|exact(tk)));(conv=>whnf))|((refine⟨_,fun _=>ag,?_⟩);(conv=>whnf)));(try simp only[jhR,hca,h1,hkc]))
    exact⟨(k+1,n-tkR c+1,max d (n-tkR c+1)),⟨by dsimp only;omega,hsn⟩,by dsimp only;omega,V.wk⟩
  ·simp only[decide_eq_false_iff_not] at hq
   have hke:k=p.length:=by omega
   rw[hke,jiC] at hr
   rw[hr] at hs
   dsimp only at hs
   rw[hs]
   (conv=>whnf)
   (try simp only[])
   repeat ((first|refine V.s1 ?_);(try simp only[]))
   exact Fin.of rfl
theorem argR_e {c a i n:Int}(hc:tkb c=true):argR c a i n=(decide (loA c≤a) && decide (a≤hiA c i n)):=by
 unfold argR loA hiA
 have key:∀ x:Int,decide (a<x)=decide (a≤x-1):=fun x=>by
  rw[decide_eq_decide];omega
 by_cases e1:c=1
 ·subst e1;simp[key]
 ·by_cases e2:c=2
  ·subst e2;simp
  ·by_cases e11:c=11
   ·subst e11;simp[key]
   ·rw[if_neg e1,if_neg e2,if_neg e11,if_neg e2,if_neg e1,if_neg e2,if_neg e11]
    by_cases h:a=0
    ·subst h;rfl
    ·rw[decide_eq_false h]
     symm
     rw[Bool.and_eq_false_iff,decide_eq_false_iff_not,decide_eq_false_iff_not]
     omega
theorem rS_e (i:Int)(s:Int×Int)(o:Int×Int):(∀ t,svS i s o=some t→rS i s o=some t)∧(∀ t,rS i s o=some t→t.2≤16→svS i s o=some t):=by
 unfold svS rS
 cases hc:tkb o.1 with
 | false=>
  have hk:tkR o.1 = -1:=by unfold tkR;rw[hc];rfl
  refine⟨fun t h=>?_,fun t h=>?_⟩
  ·rw[if_neg (by rintro⟨h,_⟩;cases h)] at h;cases h
  ·rw[hk,if_pos (by simp)] at h;cases h
 | true=>
  have hk:tkR o.1=tkn o.1:=by unfold tkR;rw[hc];rfl
  have b:=je9 o.1
  rw[argR_e hc,hk]
  have e:s.1-tkn o.1+1=s.1+(1-tkn o.1):=by omega
  rw[e]
  refine⟨fun t h=>?_,fun t h ht=>?_⟩
  ·split at h
   ·rename_i g
    rw[if_neg]
    ·exact h
    ·simp only[jh0,decide_eq_true_eq,Bool.not_eq_true',Bool.and_eq_false_iff,decide_eq_false_iff_not]
     omega
   ·cases h
  ·split at h
   ·cases h
   ·rename_i g
    simp only[jh0,decide_eq_true_eq,Bool.not_eq_true',Bool.and_eq_false_iff,decide_eq_false_iff_not] at g
    cases h
    dsimp only at ht
    rw[if_pos ⟨rfl,by omega,by omega,by omega,by omega⟩]
theorem rL_e (i:Int):∀ (p:List (Int×Int)) (s:Int×Int),0≤s.1→(∀ t,svL i s p=some t→rL i s p=some t)∧(∀ t,rL i s p=some t→t.2≤16→svL i s p=some t)
 | [],s,_=>⟨fun t h=>h,fun t h _=>h⟩
 | o::p,s,h0=>by
  have e:=rS_e i s o
  simp only[svL,rL]
  refine⟨fun t h=>?_,fun t h ht=>?_⟩
  ·cases hs:svS i s o with
   | none=>rw[hs] at h;cases h
   | some u=>
    rw[hs] at h
    rw[e.1 u hs]
    refine(rL_e i p u ?_).1 t h
    have:=rL_bd (show rL i s [o]=some u by simp only[rL,e.1 u hs]) h0
    exact this.1
  ·cases hs:rS i s o with
   | none=>rw[hs] at h;cases h
   | some u=>
    rw[hs] at h
    have b:=rL_bd (show rL i s [o]=some u by simp only[rL,hs]) h0
    have b2:=rL_bd h b.1
    rw[e.2 u hs (by omega)]
    exact(rL_e i p u b.1).2 t h ht
theorem svL_16 {i:Int} : ∀ {p:List (Int×Int)} {s t:Int×Int},svL i s p=some t→s.2≤16→t.2≤16
 | [],s,t,h,k=>by cases h;exact k
 | o::p,s,t,h,k=>by
  simp only[svL] at h
  cases hs:svS i s o with
  | none=>rw[hs] at h;cases h
  | some u=>
   rw[hs] at h
   refine svL_16 h ?_
   unfold svS at hs
   split at hs
   ·cases hs;dsimp only;omega
   ·cases hs
theorem rD_e (p:List (Int×Int))(i o:Int):(rD p i o).2=(surv p i o).isSome ∧ ∀ d,surv p i o=some d→(rD p i o).1=d:=by
 unfold rD surv
 by_cases hb:1≤i∧i≤4∧1≤o∧o≤4∧p.length≤40
 ·rw[if_pos hb,if_neg (by simp only[jh0,decide_eq_true_eq];omega)]
  have e:=rL_e i p (0,0) (by decide)
  cases hs:svL i (0,0) p with
  | some t=>
   obtain⟨n,d⟩:=t
   have h16:=svL_16 hs (by decide)
   rw[e.1 _ hs]
   dsimp only at h16 ⊢
   rw[decide_eq_true h16,Bool.true_and]
   by_cases hn:n=o
   ·rw[if_pos hn,decide_eq_true hn]
    exact⟨rfl,fun d' h=>by cases h;rfl⟩
   ·rw[if_neg hn,decide_eq_false hn]
    exact⟨rfl,fun d' h=>by cases h⟩
  | none=>
   dsimp only
   refine⟨?_,fun d h=>by cases h⟩
   cases hr:rL i (0,0) p with
   | none=>rfl
   | some t=>
    obtain⟨n,d⟩:=t
    dsimp only
    have:¬ d≤16:=fun h=>by rw[e.2 _ hr h] at hs;cases hs
    rw[decide_eq_false this]
    rfl
 ·rw[if_neg hb,if_pos (by simp only[jh0,decide_eq_true_eq];omega)]
  exact⟨rfl,fun d h=>by cases h⟩
theorem rright_c (p:List (Int×Int))(i o:Int):Cl 61 [opsD p,.int .i64 i,.int .i64 o] (.bool (surv p i o).isSome):=by
 have d:=rdepth_c p i o
 rw[(rD_e p i o).1] at d
 refine V.en tbOk Tryz.func61 ?_
 (conv=>whnf)
 (conv=>whnf)
 (try simp only[])
 repeat ((first|refine V.s1 ?_|((try ((with_reducible refine .ext ?_);(conv=>whnf);(try simp only[])));(with_reducible refine jaa (r:=?_) ?_ ?_);rotate_left;(focus (first|exact(d)));(conv=>whnf)));(try simp only[]))
 exact Fin.of rfl
theorem rchk12_c (p:List (Int×Int))(i o:Int):Cl 35 [opsD p,.int .i64 i,.int .i64 o] (.int .i64 (if (surv p i o).isSome then 0 else 120)):=by
 have d:=rright_c p i o
 cases h:(surv p i o).isSome with
 | true=>
  rw[h] at d
  refine V.en tbOk Tryz.func35 ?_
  (conv=>whnf)
  (conv=>whnf)
  (try simp only[])
  repeat ((first|refine V.s1 ?_|((try ((with_reducible refine .ext ?_);(conv=>whnf);(try simp only[])));(with_reducible refine jaa (r:=?_) ?_ ?_);rotate_left;(focus (first|exact(d)));(conv=>whnf)));(try simp only[]))
  exact Fin.of rfl
 | false=>
  rw[h] at d
  refine V.en tbOk Tryz.func35 ?_
  (conv=>whnf)
  (conv=>whnf)
  (try simp only[])
  repeat ((first|refine V.s1 ?_|((try ((with_reducible refine .ext ?_);(conv=>whnf);(try simp only[])));(with_reducible refine jaa (r:=?_) ?_ ?_);rotate_left;(focus (first|exact(d)));(conv=>whnf)));(try simp only[]))
  exact Fin.of rfl
theorem rDepth_c (p:List (Int×Int))(i o:Int):Cl 34 [opsD p,.int .i64 i,.int .i64 o] (.tup [.int .i64 ((surv p i o).getD 0),.int .i64 (if (surv p i o).isSome then 0 else 120)]):=by
 have d:=rdepth_c p i o
 have e:=rD_e p i o
 rw[e.1] at d
 cases h:surv p i o with
 | some q=>
  rw[e.2 q h] at d
  rw[h] at d
  change Cl _ _ (.tup [.int .i64 q,.bool true]) at d
  refine V.en tbOk Tryz.func34 ?_
  (conv=>whnf)
  (conv=>whnf)
  (try simp only[])
  repeat ((first|refine V.s1 ?_|((try ((with_reducible refine .ext ?_);(conv=>whnf);(try simp only[])));(with_reducible refine jaa (r:=?_) ?_ ?_);rotate_left;(focus (first|exact(d)));(conv=>whnf)));(try simp only[]))
  exact Fin.of rfl
 | none=>
  rw[h] at d
  change Cl _ _ (.tup [_,.bool false]) at d
  refine V.en tbOk Tryz.func34 ?_
  (conv=>whnf)
  (conv=>whnf)
  (try simp only[])
  repeat ((first|refine V.s1 ?_|((try ((with_reducible refine .ext ?_);(conv=>whnf);(try simp only[])));(with_reducible refine jaa (r:=?_) ?_ ?_);rotate_left;(focus (first|exact(d)));(conv=>whnf)));(try simp only[]))
  exact Fin.of rfl
theorem jdY (p:List (Int×Int))(i o:Int):Cl 35 [oL p,.int .i64 i,.int .i64 o] (.int .i64 (if (surv p i o).isSome then 0 else 120)):=
 arg3 (rchk12_c p i o) (fin_o p) (Fin.same _) (Fin.same _)
theorem jdZ (p:List (Int×Int))(i o:Int):Cl 34 [oL p,.int .i64 i,.int .i64 o] (.tup [.int .i64 ((surv p i o).getD 0),.int .i64 (if (surv p i o).isSome then 0 else 120)]):=
 arg3 (rDepth_c p i o) (fin_o p) (Fin.same _) (Fin.same _)
structure Bnd where
 W:Int
 A:Int
 c:Int
 a:Int
structure BndOk (b:Bnd):Prop where
 W:0≤b.W∧b.W≤255
 A:0≤b.A∧b.A≤255
 c:InR .i64 b.c
 a:InR .i64 b.a
abbrev bndD (b d:Bnd):D := .agg [.int .u8 b.W,.int .u8 b.A,.int .i64 b.c,.int .i64 b.a,.int .u8 d.W,.int .u8 d.A,.int .i64 d.c,.int .i64 d.a]
def bent (b:Bnd)(p:List (Int×Int)):List (Int×Int):=bendP b.W b.A (b.c,b.a) p
theorem three_c (I O:Int)(l:List (Int×Int))(b d:Bnd)(hI:0≤I∧I≤255)(hO:0≤O∧O≤255)(hl:∀ s∈l,(0≤s.1∧s.1≤255) ∧ -32768≤s.2∧s.2≤32767)(hlen:l.length≤281474976710656)(hb:BndOk b)(hd:BndOk d) :
  Cl 33 [drD I O l,bndD b d] (.agg [oL (dprog (1+I%3) (1+O%3) l),oL (bent b (dprog (1+I%3) (1+O%3) l)),oL (bent d (bent b (dprog (1+I%3) (1+O%3) l)))]):=by
 have pc:=program_c I O l hI hO hl hlen
 have hl24:=(dprog_ok (ins:=1+I%3) (o:=1+O%3) (by omega) (by omega) l (fun s hs=>(hl s hs).2)).2
 obtain⟨p,hp⟩:∃ p,p=dprog (1+I%3) (1+O%3) l:=⟨_,rfl⟩
 rw[← hp] at pc hl24 ⊢
 have hl1:=bendP_len p b.W b.A (b.c,b.a) hb.A
 have b1:=bend_c p b.W b.A b.c b.a (by omega) hb.W hb.A hb.c hb.a
 obtain⟨p1,hp1⟩:∃ p1,p1=bent b p:=⟨_,rfl⟩
 rw[← hp1]
 rw[show bendP b.W b.A (b.c,b.a) p=p1 from hp1.symm] at b1 hl1
 have b2:=bend_c p1 d.W d.A d.c d.a (by omega) hd.W hd.A hd.c hd.a
 obtain⟨p2,hp2⟩:∃ p2,p2=bent d p1:=⟨_,rfl⟩
 rw[← hp2]
 rw[show bendP d.W d.A (d.c,d.a) p1=p2 from hp2.symm] at b2
 refine V.en tbOk Tryz.func33 ?_
 (conv=>whnf)
 (conv=>whnf)
 (try simp only[])
 repeat ((first|refine V.s1 ?_|((try ((with_reducible refine .ext ?_);(conv=>whnf);(try simp only[])));(with_reducible refine jaa (r:=?_) ?_ ?_);rotate_left;(focus (first|exact(pc)|exact(b1)|exact(b2)));(conv=>whnf)));(try simp only[]))
 exact Fin.of rfl
end Go.Proofs.YtpkdedncgclblaaGreatDoor
end
