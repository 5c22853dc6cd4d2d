/- What functions of the program answer at given values, part 15. Conditions: those that each theorem names. -/
import Derived.Test.YtpkdedncgclblaaGreatDoorProgramWithinH13
import Derived.Test.YtpkdedncgclblaaGreatDoorProgramWithinH10
import Derived.Test.YtpkdedncgclblaaGreatDoorProgramWithinH6
import Derived.Test.YtpkdedncgclblaaGreatDoorProgramWithinH14
set_option linter.unusedSimpArgs false
set_option linter.unusedVariables false
set_option maxHeartbeats 8000000
set_option maxRecDepth 100000
section
namespace Go.Proofs.YtpkdedncgclblaaGreatDoor
open Go Go.V Go.Nb
theorem lpw {off : Nat} {L : Sl} {H : Hp} {body : Sl → Hp → K3 → Prop} {K : K3}
    (h : ∃ (α : Type) (inv : α → Prop) (sl : α → Sl) (hp : α → Hp) (μ : α → Nat), (∃ x, inv x ∧ Wk off L H (sl x) (hp x)) ∧
    ∀ x, inv x → body (sl x) (hp x) (nrm (fun L' H' => ∃ y, inv y ∧ μ y < μ x ∧ Wk off L' H' (sl y) (hp y)) (fun e L' H' => ∃ L'' H'', Wk off L' H' L'' H'' ∧ K e L'' H''))) : Lp off L H body K :=
  ⟨_, fun _ _ _ h => h, h⟩
theorem fcl_pubL (l:List Rat)(i:Nat)(c:Chunk):pubL i c (fcl l)=fcl l:=by
 induction l with
 | nil=>rfl
 | cons q m ih=>simp only[fcl,pubL,pubD,ih]
theorem fcl_pub (l:List Rat)(i:Nat)(c:Chunk)(K:List D→Prop):pubLK i c (fcl l) K=K (fcl l):=by rw[ja7,fcl_pubL]
theorem fcl_bsl (l:List Rat):bslOk (fcl l) 0 l.length 2=true:=by
 have e:∀ m:List Rat,D.pureL (fcl m)=true:=fun m=>by
  induction m with
  | nil=>rfl
  | cons q m ih=>simp only[fcl,D.pureL,D.pure,ih]
 unfold bslOk
 rw[e]
 dsimp only
 rw[jih,jbk];omega
theorem fcl_pubH (x l:List Rat)(K:Hp→Prop):jcB 145 (.box (fcl l)) (hpF x l.length (fcl l)) K=K [(58,.box [sl2 l.length (fcl l),inF x,.fn 76 [] [],.mapr 44]),(145,.box (fcl l)),(44,.mp esF),(114,.mp stepsF),(64,.box [.nil]),(65,.box [.int .i64 0])]:=by
 have e:pubHp 145 (.box (fcl l)) (hpF x l.length (fcl l))=[(58,.box [sl2 l.length (fcl l),inF x,.fn 76 [] [],.mapr 44]),(145,.box (fcl l)),(44,.mp esF),(114,.mp stepsF),(64,.box [.nil]),(65,.box [.int .i64 0])]:=by
  have h:pubD 145 (.box (fcl l)) (.bsl 145 0 l.length 2)=sl2 l.length (fcl l):=by
   show (match bslOk (fcl l) 0 l.length 2 with|true=>D.slf 2 l.length (fun q=>((fcl l).drop (0+q*2)).take 2)|false => .any)=_
   rw[fcl_bsl]
   simp only[jhR]
  have g2:=fcl_pubL l 145 (.box (fcl l))
  show [(58,Chunk.box (pubD 145 (.box (fcl l)) (.bsl 145 0 l.length 2)::_)),(145,Chunk.box (pubL 145 (.box (fcl l)) (fcl l))),_,_,_,_]=_
  rw[h,g2]
  rfl
 rw[jcH,e]
theorem jgn (i:Nat)(c:Chunk)(K:List D→Prop):pubLK i c [] K=K []:=by rw[ja7];rfl
theorem fcheck_f {q:Rat}(h:okF q=true):Cl 47 [.agg [.str (decZ q.num),.str (dec q.den)]] (.int .i64 0):=by
 have o:=jew h
 have b:=h
 unfold okF at b
 simp only[jhK,decide_eq_true_eq] at b
 have c:=fcheck_c (decZ q.num) (dec q.den) (by unfold decZ;split<;>(try simp only[jiv])<;>omega) (by omega)
 rw[o.1] at c
 exact c
theorem runF_c (p:List (Int×Int))(x:List Rat)(o d:Int)(okx:∀ q∈x,okF q=true)(hs:surv p x.length o=some d) :
  Cl 20 [opsD p,inF x,.int .i64 o] (match rnM mF x p [] with | .ok l => .tup [sl2 l.length (fcl l),.int .i64 0] | .error e => .tup [.nil,.int .i64 e]):=by
 have pc:Cl 25 [opsD p,.int .i64 x.length,.int .i64 o] (.int .i64 0):=by
  have c:=jfL p x.length o
  rw[hs] at c
  exact c
 have hb:1≤(x.length:Int)∧(x.length:Int)≤4∧1≤o∧o≤4∧p.length≤40∧svL x.length (0,0) p=some (o,d):=by
  unfold surv at hs
  split at hs
  case isFalse=>cases hs
  rename_i h
  refine⟨h.1,h.2.1,h.2.2.1,h.2.2.2.1,h.2.2.2.2,?_⟩
  split at hs
  case h_2=>cases hs
  rename_i e
  split at hs
  case isFalse=>cases hs
  rename_i n d' e'
  cases hs
  rw[e,e']
 have hx4:x.length≤4:=by omega
 have hp:=hb.2.2.2.2.1
 have fc:∀ k:Nat,k<x.length→Cl 47 [.agg [.str (decZ (x.getD k 0).num),.str (dec (x.getD k 0).den)]] (.int .i64 0):=fun k hk=>fcheck_f (okx _ (by rw[jij,jim hk];exact jin hk))
 have t3:=jgd 79
 have t4:=jgd 80
 have t5:=jgd 81
 have t6:=jgd 82
 have t7:=jgd 83
 have o8:=oneF_c 85
 have o9:=oneF_c 86
 have o12:=oneF_c 89
 refine jcA (jfZ tbOk (inlX_ok tbOk 6)) (jaW Tryz.func20 rfl rfl) ⟨_,_,⟨Tryz.func20,rfl,rfl,jhL rfl⟩,?_⟩
 refine V.r1 @jhS pc ?_
 refine jaj ((0:Nat)) (fun k=>k≤x.length) (fun k=>x.length-k) (fun k=>[(22,.int .i64 k)]) (fun k=>[]) ?_ ?_ ?_
 ·exact V.wk
 ·exact jhM _
 ·intro k hk
  have hkc:((k:Int)+1)=((k+1:Nat):Int):=by omega
  (conv=>whnf)
  refine V.st ?_
  refine V.br (fun hq=>?_) (fun hq=>?_)
  ·simp only[decide_eq_true_eq] at hq
   have f1:=fc k (by omega)
   refine V.r1 (V.a2 @jhS hkc) f1 ?_
   exact⟨k+1,by omega,by omega,V.wk⟩
  ·refine V.r0 @jhS ?_
   refine .inl ?_
   (conv=>whnf)
   refine⟨0,Or.inl ⟨_,_,⟨Tryz.func48,rfl,rfl,jhL rfl⟩,?_⟩⟩
   refine V.r8 @jhS t3 t4 t5 t6 t7 o8 o9 o12 ?_
   refine .inl ?_
   (conv=>whnf)
   refine⟨21,Or.inr ⟨_,_,⟨Tryz.func49,rfl,rfl,jhL rfl⟩,_,_,_,_,_,true,_,_,_,_,rfl,⟨rfl,rfl,rfl,⟨_,rfl⟩,rfl,rfl⟩,?_⟩⟩
   (conv=>whnf)
   refine V.st ?_
   refine DefK.mk 64 65 rfl rfl (by decide) (by decide) (by decide) (by decide) idle_F ?_
   refine V.r0 @jhS ?_
   refine lpw ⟨Nat×List Rat,fun s=>s.1≤p.length∧rnM mF x (p.take s.1) [] = .ok s.2∧(∃ d,svL x.length (0,0) (p.take s.1)=some ((s.2.length:Int),d))∧(∀ q∈s.2,okF q=true),fun s=>slM p s.1,fun s=>hpA x s.2,fun s=>p.length-s.1,⟨(0,[]),⟨jhM _,rfl,⟨0,rfl⟩,fun _ h=>absurd h List.not_mem_nil⟩,V.wk⟩,?_⟩
   rintro⟨k2,l⟩ ⟨hk2,hr,⟨d2,hd2⟩,okl⟩
   dsimp only at hk2 hr hd2 okl ⊢
   have hbd:=svL_bd hd2 (by simp)
   dsimp only at hbd
   by_cases hke:k2=p.length
   ·subst hke
    rw[jiA] at hr hd2
    rw[hr]
    have hlo:(l.length:Int)=o:=by rw[hd2] at hb;have:=hb.2.2.2.2.2;cases this;rfl
    have el:hpA x l=hpF x l.length (fcl l):=by
     cases l with
     | nil=>simp at hlo;omega
     | cons q l=>rfl
    rw[el]
    have pg:=jaT l
    have pb:=fcl_pub l
    have bo:=fcl_bsl l
    dsimp only
    (conv=>whnf)
    (try simp only[decide_eq_true,jhS])
    repeat ((first|refine V.s1 ?_|((try ((with_reducible refine .ext ?_);(conv=>whnf);(try simp only[decide_eq_true,jhS])));(with_reducible refine jaa (r:=?_) ?_ ?_);rotate_left;(focus (first|fail));(conv=>whnf))|(((simp only[pg];(conv=>whnf)));(conv=>whnf)));(try simp only[decide_eq_true,jhS]))
    refine⟨_,_,Wk.refl,?_⟩
    (conv=>whnf)
    (try simp only[jhS])
    repeat ((first|refine V.s1 ?_|((try ((with_reducible refine .ext ?_);(conv=>whnf);(try simp only[jhS])));(with_reducible refine jaa (r:=?_) ?_ ?_);rotate_left;(focus (first|fail));(conv=>whnf))|(((simp only[pg];(conv=>whnf)));(conv=>whnf)));(try simp only[jhS]))
    rewrite [bo]
    dsimp only
    rewrite [jgn]
    rewrite [fcl_pubH]
    (conv=>whnf)
    rewrite [bo]
    (conv=>whnf)
    refine Fin.of ?_
    simp only[jhR]
   ·have hkl:k2<p.length:=by omega
    have hsn:=jfx x.length p k2 hkl
    rw[hd2] at hsn
    dsimp only at hsn
    have rs:=rnM_snoc mF x p k2 hkl
    rw[hr] at rs
    dsimp only at rs
    cases hss:svS x.length ((l.length:Int),d2) (p.getD k2 (0,0)) with
    | none=>rw[hss] at hsn;rw[jd2 hsn] at hb;cases hb.2.2.2.2.2
    | some s'=>
     show rndF p k2 (hpA x l) _
     refine step_F hkl hp hss rfl hbd.2.1 okx okl ?_ ?_
     ·intro l' st okl' L H w
      exact⟨(k2+1,l'),⟨by dsimp only;omega,rs.trans st,⟨s'.2,by rw[hsn,hss];exact congrArg some (Prod.ext (jdA hss rfl st) rfl)⟩,okl'⟩,by dsimp only;omega,w⟩
     ·intro e he st L H w
      refine⟨_,_,w,?_⟩
      rw[rnM_err (rs.trans st)]
      (conv=>whnf)
      refine CatchK.mk _ _ .nil (.int .i64 e) (catch_F e) (fun _ _=>by simp[Den]) (fun _ _=>by simp[Den,InR,V.lo,V.hi];omega) ?_
      refine V.r0 @jhS ?_
      exact Fin.of rfl
theorem bcl_pubL (l:List (Int×Int))(i:Nat)(c:Chunk):pubL i c (bcl l)=bcl l:=by
 induction l with
 | nil=>rfl
 | cons q m ih=>simp only[bcl,pubL,pubD,ih]
theorem jga (l:List (Int×Int))(i:Nat)(c:Chunk)(K:List D→Prop):pubLK i c (bcl l) K=K (bcl l):=by rw[ja7,bcl_pubL]
theorem jeX (l:List (Int×Int)):bslOk (bcl l) 0 l.length 2=true:=by
 have e:∀ m:List (Int×Int),D.pureL (bcl m)=true:=fun m=>by
  induction m with
  | nil=>rfl
  | cons q m ih=>simp only[bcl,D.pureL,D.pure,ih]
 unfold bslOk
 rw[e]
 dsimp only
 rw[jih,jaH];omega
theorem bcl_pubH (x l:List (Int×Int))(K:Hp→Prop):jcB 145 (.box (bcl l)) (hpB x l.length (bcl l)) K=K [(58,.box [sl2 l.length (bcl l),inB x,.fn 97 [] [],.mapr 44]),(145,.box (bcl l)),(44,.mp esB),(114,.mp stepsB),(64,.box [.nil]),(65,.box [.int .i64 0])]:=by
 have e:pubHp 145 (.box (bcl l)) (hpB x l.length (bcl l))=[(58,.box [sl2 l.length (bcl l),inB x,.fn 97 [] [],.mapr 44]),(145,.box (bcl l)),(44,.mp esB),(114,.mp stepsB),(64,.box [.nil]),(65,.box [.int .i64 0])]:=by
  have h:pubD 145 (.box (bcl l)) (.bsl 145 0 l.length 2)=sl2 l.length (bcl l):=by
   show (match bslOk (bcl l) 0 l.length 2 with|true=>D.slf 2 l.length (fun q=>((bcl l).drop (0+q*2)).take 2)|false => .any)=_
   rw[jeX]
   simp only[jhR]
  have g2:=bcl_pubL l 145 (.box (bcl l))
  show [(58,Chunk.box (pubD 145 (.box (bcl l)) (.bsl 145 0 l.length 2)::_)),(145,Chunk.box (pubL 145 (.box (bcl l)) (bcl l))),_,_,_,_]=_
  rw[h,g2]
  rfl
 rw[jcH,e]
theorem runB_c (p:List (Int×Int))(x:List (Int×Int))(o d:Int)(okx:∀ q∈x,okB q)(hs:surv p x.length o=some d) :
  Cl 22 [opsD p,inB x,.int .i64 o] (match rnM mB x p [] with | .ok l => .tup [sl2 l.length (bcl l),.int .i64 0] | .error e => .tup [.nil,.int .i64 e]):=by
 have pc:Cl 25 [opsD p,.int .i64 x.length,.int .i64 o] (.int .i64 0):=by
  have c:=jfL p x.length o
  rw[hs] at c
  exact c
 have hb:1≤(x.length:Int)∧(x.length:Int)≤4∧1≤o∧o≤4∧p.length≤40∧svL x.length (0,0) p=some (o,d):=by
  unfold surv at hs
  split at hs
  case isFalse=>cases hs
  rename_i h
  refine⟨h.1,h.2.1,h.2.2.1,h.2.2.2.1,h.2.2.2.2,?_⟩
  split at hs
  case h_2=>cases hs
  rename_i e
  split at hs
  case isFalse=>cases hs
  rename_i n d' e'
  cases hs
  rw[e,e']
 have hx4:x.length≤4:=by omega
 have hp:=hb.2.2.2.2.1
 have fc:∀ k:Nat,k<x.length→Cl 50 [.agg [.int .i64 (x.getD k (0,0)).1,.int .i64 (x.getD k (0,0)).2]] (.int .i64 0):=fun k hk=>by
  have o:okB (x.getD k (0,0)):=okx _ (by rw[jij,jim hk];exact jin hk)
  have c:=check_b (x.getD k (0,0)).1 (x.getD k (0,0)).2
  rw[if_pos o] at c
  exact c
 have t3:=jge 100
 have t4:=jge 101
 have t5:=jge 102
 have t6:=jge 103
 have t7:=jge 104
 have o8:=oneB_c 106
 have o9:=oneB_c 107
 have o12:=oneB_c 110
 refine jcA (jfZ tbOk (inlX_ok tbOk 6)) (jaW Tryz.func22 rfl rfl) ⟨_,_,⟨Tryz.func22,rfl,rfl,jhL rfl⟩,?_⟩
 refine V.r1 @jhS pc ?_
 refine jaj ((0:Nat)) (fun k=>k≤x.length) (fun k=>x.length-k) (fun k=>[(22,.int .i64 k)]) (fun k=>[]) ?_ ?_ ?_
 ·exact V.wk
 ·exact jhM _
 ·intro k hk
  have hkc:((k:Int)+1)=((k+1:Nat):Int):=by omega
  (conv=>whnf)
  refine V.st ?_
  refine V.br (fun hq=>?_) (fun hq=>?_)
  ·simp only[decide_eq_true_eq] at hq
   have f1:=fc k (by omega)
   refine V.r1 (V.a2 @jhS hkc) f1 ?_
   exact⟨k+1,by omega,by omega,V.wk⟩
  ·refine V.r0 @jhS ?_
   refine .inl ?_
   (conv=>whnf)
   refine⟨0,Or.inl ⟨_,_,⟨Tryz.func51,rfl,rfl,jhL rfl⟩,?_⟩⟩
   refine V.r8 @jhS t3 t4 t5 t6 t7 o8 o9 o12 ?_
   refine .inl ?_
   (conv=>whnf)
   refine⟨21,Or.inr ⟨_,_,⟨Tryz.func52,rfl,rfl,jhL rfl⟩,_,_,_,_,_,true,_,_,_,_,rfl,⟨rfl,rfl,rfl,⟨_,rfl⟩,rfl,rfl⟩,?_⟩⟩
   (conv=>whnf)
   refine V.st ?_
   refine DefK.mk 64 65 rfl rfl (by decide) (by decide) (by decide) (by decide) idle_B ?_
   refine V.r0 @jhS ?_
   refine lpw ⟨Nat×List (Int×Int),fun s=>s.1≤p.length∧rnM mB x (p.take s.1) [] = .ok s.2∧(∃ d,svL x.length (0,0) (p.take s.1)=some ((s.2.length:Int),d))∧(∀ q∈s.2,okB q),fun s=>slM p s.1,fun s=>hpE_B x s.2,fun s=>p.length-s.1,⟨(0,[]),⟨jhM _,rfl,⟨0,rfl⟩,fun _ h=>absurd h List.not_mem_nil⟩,V.wk⟩,?_⟩
   rintro⟨k2,l⟩ ⟨hk2,hr,⟨d2,hd2⟩,okl⟩
   dsimp only at hk2 hr hd2 okl ⊢
   have hbd:=svL_bd hd2 (by simp)
   dsimp only at hbd
   by_cases hke:k2=p.length
   ·subst hke
    rw[jiA] at hr hd2
    rw[hr]
    have hlo:(l.length:Int)=o:=by rw[hd2] at hb;have:=hb.2.2.2.2.2;cases this;rfl
    have el:hpE_B x l=hpB x l.length (bcl l):=by
     cases l with
     | nil=>simp at hlo;omega
     | cons q l=>rfl
    rw[el]
    have pg:=jaA l
    have pb:=jga l
    have bo:=jeX l
    dsimp only
    (conv=>whnf)
    (try simp only[decide_eq_true,jhS])
    repeat ((first|refine V.s1 ?_|((try ((with_reducible refine .ext ?_);(conv=>whnf);(try simp only[decide_eq_true,jhS])));(with_reducible refine jaa (r:=?_) ?_ ?_);rotate_left;(focus (first|fail));(conv=>whnf))|(((simp only[pg];(conv=>whnf)));(conv=>whnf)));(try simp only[decide_eq_true,jhS]))
    refine⟨_,_,Wk.refl,?_⟩
    (conv=>whnf)
    (try simp only[jhS])
    repeat ((first|refine V.s1 ?_|((try ((with_reducible refine .ext ?_);(conv=>whnf);(try simp only[jhS])));(with_reducible refine jaa (r:=?_) ?_ ?_);rotate_left;(focus (first|fail));(conv=>whnf))|(((simp only[pg];(conv=>whnf)));(conv=>whnf)));(try simp only[jhS]))
    rewrite [bo]
    dsimp only
    rewrite [jgn]
    rewrite [bcl_pubH]
    (conv=>whnf)
    rewrite [bo]
    (conv=>whnf)
    refine Fin.of ?_
    simp only[jhR]
   ·have hkl:k2<p.length:=by omega
    have hsn:=jfx x.length p k2 hkl
    rw[hd2] at hsn
    dsimp only at hsn
    have rs:=rnM_snoc mB x p k2 hkl
    rw[hr] at rs
    dsimp only at rs
    cases hss:svS x.length ((l.length:Int),d2) (p.getD k2 (0,0)) with
    | none=>rw[hss] at hsn;rw[jd2 hsn] at hb;cases hb.2.2.2.2.2
    | some s'=>
     show rndB p k2 (hpE_B x l) _
     refine step_B hkl hp hss rfl hbd.2.1 okx okl ?_ ?_
     ·intro l' st okl' L H w
      exact⟨(k2+1,l'),⟨by dsimp only;omega,rs.trans st,⟨s'.2,by rw[hsn,hss];exact congrArg some (Prod.ext (jdA hss rfl st) rfl)⟩,okl'⟩,by dsimp only;omega,w⟩
     ·intro e he st L H w
      refine⟨_,_,w,?_⟩
      rw[rnM_err (rs.trans st)]
      (conv=>whnf)
      refine CatchK.mk _ _ .nil (.int .i64 e) (catch_B e) (fun _ _=>by simp[Den]) (fun _ _=>by simp[Den,InR,V.lo,V.hi];omega) ?_
      refine V.r0 @jhS ?_
      exact Fin.of rfl
theorem jeG {e n:Nat}{f g:Nat→List D}(h:∀ j,j<n→g j=f j):Fin (.slf e n f) (.slf e n g):=⟨fun hp v hv=>by
 simp only[Den] at hv ⊢
 obtain⟨a,cap,h1,h2,h3,h4⟩:=hv
 refine⟨a,cap,h1,h2,h3,?_⟩
 cases a with
 | none=>exact h4
 | some ad=>
  refine⟨h4.1,fun j hj=>?_⟩
  have:=h4.2 j hj
  rw[h j hj] at this
  exact this⟩
theorem fin_nil (e:Nat)(f:Nat→List D):Fin (.slf e 0 f) .nil:=⟨fun hp v hv=>by
 simp only[Den] at hv ⊢
 refine⟨none,0,hv,?_⟩
 simp⟩
theorem arg3 {f:Nat}{a b c a' b' c' r:D}(h:Cl f [a,b,c] r)(A:Fin a a')(B:Fin b b')(C:Fin c c'):Cl f [a',b',c'] r:=Called.arg (show FinL [a,b,c] [a',b',c'] from ⟨A,B,C,trivial⟩) h
theorem bcl_at:∀ (l:List (Int×Int)) (j:Nat),j<l.length→List.take 2 (List.drop (j*2) (bcl l))=[.int .i64 (l.getD j (0,0)).1,.int .i64 (l.getD j (0,0)).2]
 | q::l,0,_=>rfl
 | q::l,j+1,h=>by
  rw[show (j+1)*2=j*2+1+1 by omega]
  exact bcl_at l j (by simpa using h)
theorem fcl_at:∀ (l:List Rat) (j:Nat),j<l.length→List.take 2 (List.drop (j*2) (fcl l))=[.str (decZ (l.getD j 0).num),.str (dec (l.getD j 0).den)]
 | q::l,0,_=>rfl
 | q::l,j+1,h=>by
  rw[show (j+1)*2=j*2+1+1 by omega]
  exact fcl_at l j (by simpa using h)
abbrev oL (p:List (Int×Int)):D:=sl2 p.length (bcl p)
abbrev fL (x:List Rat):D:=sl2 x.length (fcl x)
theorem fin_o (p:List (Int×Int)):Fin (opsD p) (oL p):=jeG (bcl_at p)
theorem fin_f (x:List Rat):Fin (inF x) (fL x):=jeG (fcl_at x)
theorem fin_b (x:List (Int×Int)):Fin (inB x) (oL x):=jeG (bcl_at x)
theorem check_o (p:List (Int×Int))(i o:Int):Cl 25 [oL p,.int .i64 i,.int .i64 o] (.int .i64 (if (surv p i o).isSome then 0 else 120)):=
 arg3 (jfL p i o) (fin_o p) (Fin.same _) (Fin.same _)
theorem depth_o (p:List (Int×Int))(i o:Int):Cl 27 [oL p,.int .i64 i,.int .i64 o] (.tup [.int .i64 ((surv p i o).getD 0),.int .i64 (if (surv p i o).isSome then 0 else 120)]):=
 arg3 (pdepth_c p i o) (fin_o p) (Fin.same _) (Fin.same _)
def resF (r:Except Int (List Rat)):D:=match r with | .ok l => .tup [fL l,.int .i64 0] | .error e => .tup [.nil,.int .i64 e]
def resB (r:Except Int (List (Int×Int))):D:=match r with | .ok l => .tup [oL l,.int .i64 0] | .error e => .tup [.nil,.int .i64 e]
theorem run_o (p:List (Int×Int))(x:List Rat)(o d:Int)(okx:∀ q∈x,okF q=true)(hs:surv p x.length o=some d):Cl 20 [oL p,fL x,.int .i64 o] (resF (rnM mF x p [])):=by
 have c:=arg3 (runF_c p x o d okx hs) (fin_o p) (fin_f x) (Fin.same _)
 cases h:rnM mF x p [] with
 | ok l=>rw[h] at c;exact c
 | error e=>rw[h] at c;exact c
theorem jgb (p x:List (Int×Int))(o d:Int)(okx:∀ q∈x,okB q)(hs:surv p x.length o=some d):Cl 22 [oL p,oL x,.int .i64 o] (resB (rnM mB x p [])):=by
 have c:=arg3 (runB_c p x o d okx hs) (fin_o p) (fin_b x) (Fin.same _)
 cases h:rnM mB x p [] with
 | ok l=>rw[h] at c;exact c
 | error e=>rw[h] at c;exact c
theorem eq_f (n:Nat)(X:Nat→List UInt8×List UInt8)(hn:n≤40):Cl 29 [.slf 2 n (fun j=>[.str (X j).1,.str (X j).2]),.slf 2 n (fun j=>[.str (X j).1,.str (X j).2])] (.bool true):=by
 refine V.en tbOk Tryz.func29 ?_
 (conv=>whnf)
 (conv=>whnf)
 (try simp only[])
 repeat ((first|refine V.s1 ?_);(try simp only[]))
 refine Cnd.no (decide_eq_false (fun h=>h rfl)) ?_
 (conv=>whnf)
 (try simp only[])
 repeat ((first|refine V.s1 ?_);(try simp only[]))
 refine jaj ((0:Nat)) (fun k=>k≤n) (fun k=>n-k) (fun k=>[(13,.int .i64 k)]) (fun k=>[]) ?_ ?_ ?_
 ·exact V.wk
 ·exact jhM _
 intro k hk
 have hkc:((k:Int)+1)=((k+1:Nat):Int):=by omega
 by_cases hkn:k<n
 ·have hlt:decide ((k:Int)<n)=true:=decide_eq_true (by omega)
  refine V.r0 (V.a2 hlt @jhS) ?_
  refine⟨Pq12z,[],V.pok,?_⟩
  refine jal [(24,.bool false)] [] ?_ ?_
  ·exact V.d0 (V.a4 @jhS @decide_true @Bool.and_self @Bool.not_true)
  refine V.r0 (V.a2 hkc @jhS) ?_
  exact⟨k+1,by omega,by omega,V.wk⟩
 ·have hlt:decide ((k:Int)<n)=false:=decide_eq_false (by omega)
  refine V.r0 hlt ?_
  exact Fin.of rfl
theorem eq_b (n:Nat)(X:Nat→Int×Int)(hn:n≤40):Cl 38 [.slf 2 n (fun j=>[.int .i64 (X j).1,.int .i64 (X j).2]),.slf 2 n (fun j=>[.int .i64 (X j).1,.int .i64 (X j).2])] (.bool true):=by
 refine V.en tbOk Tryz.func38 ?_
 (conv=>whnf)
 (conv=>whnf)
 (try simp only[])
 repeat ((first|refine V.s1 ?_);(try simp only[]))
 refine Cnd.no (decide_eq_false (fun h=>h rfl)) ?_
 (conv=>whnf)
 (try simp only[])
 repeat ((first|refine V.s1 ?_);(try simp only[]))
 refine jaj ((0:Nat)) (fun k=>k≤n) (fun k=>n-k) (fun k=>[(13,.int .i64 k)]) (fun k=>[]) ?_ ?_ ?_
 ·exact V.wk
 ·exact jhM _
 intro k hk
 have hkc:((k:Int)+1)=((k+1:Nat):Int):=by omega
 by_cases hkn:k<n
 ·have hlt:decide ((k:Int)<n)=true:=decide_eq_true (by omega)
  refine V.r0 (V.a2 hlt @jhS) ?_
  refine⟨Pq12z,[],V.pok,?_⟩
  refine jal [(24,.bool false)] [] ?_ ?_
  ·exact V.d0 (V.a4 @jhS @decide_true @Bool.and_self @Bool.not_true)
  refine V.r0 (V.a2 hkc @jhS) ?_
  exact⟨k+1,by omega,by omega,V.wk⟩
 ·have hlt:decide ((k:Int)<n)=false:=decide_eq_false (by omega)
  refine V.r0 hlt ?_
  exact Fin.of rfl
theorem jdk {n m:Int}(hn : -9223372036854775807≤n∧n≤9223372036854775807)(hm:1≤m∧m≤9223372036854775807):Cl 12 [.int .i64 n,.int .i64 m] (frT (Rat.divInt n m)):=by
 have c:=y_rof hn hm
 unfold frT at *
 generalize Rat.divInt n m=q at *
 refine V.en tbOk Tryz.func12 ?_
 (conv=>whnf)
 refine V.st ?_
 repeat ((try ((with_reducible refine .ext ?_);(conv=>whnf)));(with_reducible refine jaa (r:=?_) ?_ ?_);rotate_left;(focus (first|exact(c)));(conv=>whnf);refine V.st ?_)
 exact Fin.of rfl
abbrev halfP:List (Int×Int):=[(1,0),(1,1),(3,0),(2,500000),(5,0)]
abbrev signP:List (Int×Int):=[(2,1000000),(2,0),(1,0),(10,0)]
theorem half_c:Cl 32 [] (oL halfP):=by
 refine V.en tbOk Tryz.func32 ?_
 refine V.r0 @jhR ?_
 exact Fin.of rfl
theorem sign_c12:Cl 39 [] (oL signP):=by
 refine V.en tbOk Tryz.func39 ?_
 refine V.r0 @jhR ?_
 exact Fin.of rfl
theorem arg2 {f:Nat}{a b a' b' r:D}(h:Cl f [a,b] r)(A:Fin a a')(B:Fin b b'):Cl f [a',b'] r:=Called.arg (show FinL [a,b] [a',b'] from ⟨A,B,trivial⟩) h
theorem eqL_f (x:List Rat)(h:x.length≤40):Cl 29 [fL x,fL x] (.bool true):=
 arg2 (eq_f x.length (fun j=>(decZ (x.getD j 0).num,dec (x.getD j 0).den)) h) (fin_f x) (fin_f x)
theorem eqL_b (x:List (Int×Int))(h:x.length≤40):Cl 38 [oL x,oL x] (.bool true):=
 arg2 (eq_b x.length (fun j=>x.getD j (0,0)) h) (fin_b x) (fin_b x)
theorem runs_c (p:List (Int×Int))(x:List Rat)(y:Rat)(d:Int)(okx:∀ q∈x,okF q=true)(hs:surv p x.length 1=some d)(hr:rnM mF x p [] = .ok [y]):Cl 16 [oL p,frT y,fL x] (.bool true):=by
 have r:Cl 20 [oL p,fL x,.int .i64 1] (.tup [sl2 1 [.str (decZ y.num),.str (dec y.den)],.int .i64 0]):=by
  have r:=run_o p x 1 d okx hs
  rw[hr] at r
  exact r
 have e:Cl 29 [sl2 1 [.str (decZ y.num),.str (dec y.den)],sl2 1 [.str (decZ y.num),.str (dec y.den)]] (.bool true):=eqL_f [y] (Nat.succ_le_succ (jhM _))
 unfold frT
 clear hr hs okx
 generalize decZ y.num=S at *
 generalize dec y.den=T at *
 refine V.en tbOk Tryz.func16 ?_
 refine V.r2 @jhR r e ?_
 exact Fin.of rfl
theorem okF_l {n m:Int}(hn : -9223372036854775807≤n∧n≤9223372036854775807)(hm:1≤m∧m≤9223372036854775807):okF (Rat.divInt n m)=true:=(jdz hn hm).ok (by omega) (by omega)
theorem jgT:Cl 11 [] (.bool true):=by
 have o38:=jdk (n:=3) (m:=8) (by omega) (by omega)
 have o12:=jdk (n:=1) (m:=2) (by omega) (by omega)
 have o14:=jdk (n:=1) (m:=4) (by omega) (by omega)
 have o11:=jdk (n:=1) (m:=1) (by omega) (by omega)
 have o01:=jdk (n:=0) (m:=1) (by omega) (by omega)
 have o17:=jdk (n := -1) (m:=7) (by omega) (by omega)
 have o31:=jdk (n:=3) (m:=1) (by omega) (by omega)
 have o3n:=jdk (n := -3) (m:=1) (by omega) (by omega)
 have k1:∀ (n m:Int),(-9223372036854775807≤n∧n≤9223372036854775807)→(1≤m∧m≤9223372036854775807) → ∀ q∈[Rat.divInt n m],okF q=true:=fun n m h1 h2 q hq=>by rw[List.mem_singleton.1 hq];exact okF_l h1 h2
 have r1:Cl 16 [oL halfP,frT (Rat.divInt 3 8),fL [Rat.divInt 1 2,Rat.divInt 1 4]] (.bool true):=
  runs_c halfP _ _ 2 (fun q hq=>by
   rcases jil.1 hq with e|h
   ·rw[e];exact okF_l (by omega) (by omega)
   ·exact k1 1 4 (by omega) (by omega) q h) (by kernel_rfl) (by kernel_rfl)
 have r2:Cl 16 [oL signP,frT (Rat.divInt 1 1),fL [Rat.divInt 0 1]] (.bool true):=runs_c signP _ _ 3 (k1 0 1 (by omega) (by omega)) (by kernel_rfl) (by kernel_rfl)
 have r3:Cl 16 [oL signP,frT (Rat.divInt 0 1),fL [Rat.divInt (-1) 7]] (.bool true):=runs_c signP _ _ 3 (k1 (-1) 7 (by omega) (by omega)) (by kernel_rfl) (by kernel_rfl)
 have r4:Cl 16 [oL [(1,0),(11,0),(8,0),(7,0)],frT (Rat.divInt 3 1),fL [Rat.divInt (-3) 1]] (.bool true):=runs_c _ _ _ 2 (k1 (-3) 1 (by omega) (by omega)) (by kernel_rfl) (by kernel_rfl)
 have b1:Cl 22 [oL signP,oL [(-1000000000000,1000000000000)],.int .i64 1] (.tup [oL [(0,1000000000000)],.int .i64 0]):=by
  have c:=jgb signP [(-1000000000000,1000000000000)] 1 3 (fun q hq=>by rw[List.mem_singleton.1 hq];exact jan.2 (by omega)) (by kernel_rfl)
  rw[show rnM mB [(-1000000000000,1000000000000)] signP [] = .ok [(0,1000000000000)] by kernel_rfl] at c
  exact c
 have b2:Cl 22 [oL signP,oL [(1000000000000,2000000000000)],.int .i64 1] (.tup [oL [(1000000000000,1000000000000)],.int .i64 0]):=by
  have c:=jgb signP [(1000000000000,2000000000000)] 1 3 (fun q hq=>by rw[List.mem_singleton.1 hq];exact jan.2 (by omega)) (by kernel_rfl)
  rw[show rnM mB [(1000000000000,2000000000000)] signP [] = .ok [(1000000000000,1000000000000)] by kernel_rfl] at c
  exact c
 have d1:Cl 27 [oL halfP,.int .i64 2,.int .i64 1] (.tup [.int .i64 2,.int .i64 0]):=by
  have c:=depth_o halfP 2 1
  rw[show surv halfP 2 1=some 2 by kernel_rfl] at c
  exact c
 have c1:Cl 25 [oL halfP,.int .i64 1,.int .i64 1] (.int .i64 120):=by
  have c:=check_o halfP 1 1
  rw[show surv halfP 1 1=none by kernel_rfl] at c
  exact c
 have e1:=eqL_b [(0,1000000000000)] (by decide)
 have e2:=eqL_b [(1000000000000,1000000000000)] (by decide)
 have hf:=half_c
 have sg:=sign_c12
 clear k1
 simp only[oL,fL,halfP,signP,bcl,fcl,frT,jiv,List.length_nil,Nat.reduceAdd] at *
 generalize decZ (Rat.divInt 3 8).num=s38 at *
 generalize dec (Rat.divInt 3 8).den=t38 at *
 generalize decZ (Rat.divInt 1 2).num=s12 at *
 generalize dec (Rat.divInt 1 2).den=t12 at *
 generalize decZ (Rat.divInt 1 4).num=s14 at *
 generalize dec (Rat.divInt 1 4).den=t14 at *
 generalize decZ (Rat.divInt 1 1).num=s11 at *
 generalize dec (Rat.divInt 1 1).den=t11 at *
 generalize decZ (Rat.divInt 0 1).num=s01 at *
 generalize dec (Rat.divInt 0 1).den=t01 at *
 generalize decZ (Rat.divInt (-1) 7).num=s17 at *
 generalize dec (Rat.divInt (-1) 7).den=t17 at *
 generalize decZ (Rat.divInt 3 1).num=s31 at *
 generalize dec (Rat.divInt 3 1).den=t31 at *
 generalize decZ (Rat.divInt (-3) 1).num=s3n at *
 generalize dec (Rat.divInt (-3) 1).den=t3n at *
 refine V.en tbOk Tryz.func11 ?_
 (conv=>whnf)
 (conv=>whnf)
 (try simp only[jhR,decide_true])
 repeat ((first|refine V.s1 ?_|((try ((with_reducible refine .ext ?_);(conv=>whnf);(try simp only[jhR,decide_true])));(with_reducible refine jaa (r:=?_) ?_ ?_);rotate_left;(focus (first|exact(hf)|exact(sg)|exact(d1)|exact(b1)|exact(b2)|exact(c1)|exact(e1)|exact(e2)|exact(o38)|exact(o12)|exact(o14)|exact(o11)|exact(o01)|exact(o17)|exact(o31)|exact(o3n)|exact(r1)|exact(r2)|exact(r3)|exact(r4)));(conv=>whnf))|(((with_reducible refine .ext ?_));(conv=>whnf)));(try simp only[jhR,decide_true]))
 exact Fin.of rfl
end Go.Proofs.YtpkdedncgclblaaGreatDoor
end
section
namespace Go.V
open Go Go.RowKit
theorem Wk.renS {off:Nat}{L:Sl}{H:Hp}{L2:Sl}{H2:Hp}(i j t n e:Nat){es:List D}(hij:i≠j)(hoff:off≤j)(hfr:D.freeL j es=true)(hi:lookH H i=some (.box es))(ht:look L t = .bsl i 0 n e)
  (h:Wk off ((t,.bsl j 0 n e)::purge j L) ((j,.box es)::(i,.gone)::jaE j H) L2 H2):Wk off L H L2 H2:=by
 refine⟨fun cx E h' a w e' S=>?_⟩
 subst e'
 have S1:=S.renBx hij hoff hfr hi
 have hv:=S.knows t
 rw[ht] at hv
 refine h.out cx (E.alias2 i j) h' a w rfl (S1.reslot ?_)
 simp only[Den,Env.alias2,if_true] at hv ⊢
 exact hv
end Go.V
namespace Go.Proofs.YtpkdedncgclblaaGreatDoor
open Go Go.V Go.Nb
end Go.Proofs.YtpkdedncgclblaaGreatDoor
end
section
namespace Go.Proofs.YtpkdedncgclblaaGreatDoor
open Go Go.V Go.Nb
theorem rtakes_c (c:Int):Cl 46 [.int .i64 c] (.int .i64 (if tkb c=true then tkn c else -1)):=by
 by_cases e1:c=1
 ·subst e1
  refine V.en tbOk Tryz.func46 ?_
  (conv=>whnf)
  refine V.st ?_
  exact Fin.of rfl
 by_cases e2:c=2
 ·subst e2
  refine V.en tbOk Tryz.func46 ?_
  (conv=>whnf)
  refine V.st ?_
  exact Fin.of rfl
 by_cases e11:c=11
 ·subst e11
  refine V.en tbOk Tryz.func46 ?_
  (conv=>whnf)
  refine V.st ?_
  exact Fin.of rfl
 by_cases e8:c=8
 ·subst e8
  refine V.en tbOk Tryz.func46 ?_
  (conv=>whnf)
  refine V.st ?_
  exact Fin.of rfl
 by_cases e9:c=9
 ·subst e9
  refine V.en tbOk Tryz.func46 ?_
  (conv=>whnf)
  refine V.st ?_
  exact Fin.of rfl
 by_cases e12:c=12
 ·subst e12
  refine V.en tbOk Tryz.func46 ?_
  (conv=>whnf)
  refine V.st ?_
  exact Fin.of rfl
 by_cases e3:c=3
 ·subst e3
  refine V.en tbOk Tryz.func46 ?_
  (conv=>whnf)
  refine V.st ?_
  exact Fin.of rfl
 by_cases e4:c=4
 ·subst e4
  refine V.en tbOk Tryz.func46 ?_
  (conv=>whnf)
  refine V.st ?_
  exact Fin.of rfl
 by_cases e5:c=5
 ·subst e5
  refine V.en tbOk Tryz.func46 ?_
  (conv=>whnf)
  refine V.st ?_
  exact Fin.of rfl
 by_cases e6:c=6
 ·subst e6
  refine V.en tbOk Tryz.func46 ?_
  (conv=>whnf)
  refine V.st ?_
  exact Fin.of rfl
 by_cases e7:c=7
 ·subst e7
  refine V.en tbOk Tryz.func46 ?_
  (conv=>whnf)
  refine V.st ?_
  exact Fin.of rfl
 by_cases e10:c=10
 ·subst e10
  refine V.en tbOk Tryz.func46 ?_
  (conv=>whnf)
  refine V.st ?_
  exact Fin.of rfl
 have h1:tkn c=0:=by unfold tkn;simp[e1,e2,e3,e4,e5,e6,e7,e8,e9,e10,e11,e12]
 have h2:tkb c=false:=decide_eq_false (by omega)
 rw[h2]
 have f1:=decide_eq_false e1
 have f2:=decide_eq_false e2
 have f3:=decide_eq_false e3
 have f4:=decide_eq_false e4
 have f5:=decide_eq_false e5
 have f6:=decide_eq_false e6
 have f7:=decide_eq_false e7
 have f8:=decide_eq_false e8
 have f9:=decide_eq_false e9
 have f10:=decide_eq_false e10
 have f11:=decide_eq_false e11
 have f12:=decide_eq_false e12
 refine V.en tbOk Tryz.func46 ?_
 (conv=>whnf)
 (conv=>whnf)
 (try simp only[f1,f2,f3,f4,f5,f6,f7,f8,f9,f10,f11,f12])
 repeat ((first|refine V.s1 ?_);(try simp only[f1,f2,f3,f4,f5,f6,f7,f8,f9,f10,f11,f12]))
 exact Fin.of rfl
theorem rtk {c:Int}(h:tkb c=true):Cl 46 [.int .i64 c] (.int .i64 (tkn c)):=by
 have r:=rtakes_c c
 rw[if_pos h] at r
 exact r
abbrev dsD (l:List (Int×Int)):D := .slf 2 l.length (fun j=>[.int .u8 (l.getD j (0,0)).1,.int .i16 (l.getD j (0,0)).2])
abbrev drD (I O:Int)(l:List (Int×Int)):D := .agg [.int .u8 I,.int .u8 O,dsD l]
theorem dins_c (I O:Int)(l:List (Int×Int))(hI:0≤I∧I≤255):Cl 26 [drD I O l] (.int .i64 (1+I%3)):=by
 refine V.en tbOk Tryz.func26 ?_
 (conv=>whnf)
 (conv=>whnf)
 (try simp only[])
 repeat ((first|refine V.s1 ?_);(try simp only[]))
 exact Fin.of rfl
theorem douts_c (I O:Int)(l:List (Int×Int))(hO:0≤O∧O≤255):Cl 21 [drD I O l] (.int .i64 (1+O%3)):=by
 refine V.en tbOk Tryz.func21 ?_
 (conv=>whnf)
 (conv=>whnf)
 (try simp only[])
 repeat ((first|refine V.s1 ?_);(try simp only[]))
 exact Fin.of rfl
theorem wrap16 (a m:Int):(a%65536)%m=(IntKind.u16.wrap a).tmod m:=by
 have e:IntKind.u16.wrap a=a%65536:=by
  simp[IntKind.wrap,IntKind.bits,IntKind.signed]
 rw[e,Int.tmod_eq_emod_of_nonneg (jhN _ (by decide))]
theorem dcode_11 {n c:Int}(hn:0≤n)(h:dcode n c=11):0<n:=by
 unfold dcode at h
 split at h
 ·split at h<;>omega
 ·omega
theorem dst_len (ins:Int)(t:List (Int×Int)×Int)(s:Int×Int):(dst ins t s).1.length=t.1.length+1:=by unfold dst;simp
theorem dfo_len (ins:Int):∀ (l:List (Int×Int)) (t:List (Int×Int)×Int),(l.foldl (dst ins) t).1.length=t.1.length+l.length
 | [],t=>rfl
 | s::l,t=>by
  rw[List.foldl_cons,dfo_len ins l,dst_len,jiv];omega
theorem program_c (I O:Int)(l:List (Int×Int))(hI:0≤I∧I≤255)(hO:0≤O∧O≤255)(hl:∀ s∈l,(0≤s.1∧s.1≤255) ∧ -32768≤s.2∧s.2≤32767)(hlen:l.length≤281474976710656):Cl 17 [drD I O l] (oL (dprog (1+I%3) (1+O%3) l)):=by
 have ci:=dins_c I O l hI
 have co:=douts_c I O l hO
 refine V.en tbOk Tryz.func17 ?_
 (conv=>whnf)
 (conv=>whnf)
 (try simp only[])
 repeat ((first|refine V.s1 ?_);(try simp only[]))
 refine Lp.of ⟨Nat,fun k=>k≤12∧k≤l.length,fun k=>match k with|0=>[(1,.box 1 0),(3,.nil),(4,.int .i64 0),(5,.int .i64 0)]|k+1=>[(1,.box 1 0),(3,.bsl 300 0 (k+1) 2),(4,.int .i64 (dfo (1+I%3) (l.take (k+1))).2),(5,.int .i64 ((k+1:Nat):Int))],fun k=>match k with|0=>[(1,.box [.int .u8 I,.int .u8 O,dsD l])]|k+1=>[(1,.box [.int .u8 I,.int .u8 O,dsD l]),(300,.box (bcl (dfo (1+I%3) (l.take (k+1))).1))],fun k=>12-k,⟨0,⟨by omega,by omega⟩,V.wk⟩,?_⟩
 rintro k ⟨hk1,hk2⟩
 have hkc:((k:Int)+1)=((k+1:Nat):Int):=by omega
 cases k with
 | zero=>
  dsimp only
  refine V.r0 @jhS ?_
  refine V.br (fun hq=>?_) (fun hq=>?_)
  ·simp only[jhK,decide_eq_true_eq] at hq
   have hkl:0<l.length:=by omega
   have hX:=hl (l.getD 0 (0,0)) (by rw[jij,jim hkl];exact jin hkl)
   have hS:dfo (1+I%3) (l.take (0+1))=dst (1+I%3) ([],0) (l.getD 0 (0,0)):=by rw[jdb l 0 (0,0) hkl,dfo_snoc];rfl
   obtain⟨c,a,hca⟩:∃ c a,l.getD 0 (0,0)=(c,a):=⟨_,_,rfl⟩
   have hca2:l.getD (Int.toNat 0) (0,0)=(c,a):=hca
   rw[hca] at hS hX
   dsimp only at hX
   have tk:=rtk (c:=1+c%12) (by unfold tkb;simp only[decide_eq_true_eq];omega)
   (conv=>whnf)
   (try simp only[hca2])
   repeat ((first|refine V.s1 ?_|((try ((with_reducible refine .ext ?_);(conv=>whnf);(try simp only[hca2])));(with_reducible refine jaa (r:=?_) ?_ ?_);rotate_left;(focus (first|exact(tk)));(conv=>whnf))|((refine⟨_,fun _=>tk,?_⟩);(conv=>whnf)));(try simp only[hca2]))
   refine cnd_to [(1,.box 1 0),(3,.nil),(4,.int .i64 0),(5,.int .i64 0),(6,.box 6 0)] [(1,.box [.int .u8 I,.int .u8 O,dsD l]),(6,.box [.int .i64 1,.int .i64 0])] (CondB.mk (fun h=>?_) (fun h=>absurd h (by simp))) ?_
   ·(conv=>whnf)
    (try simp only[])
    repeat ((first|refine V.s1 ?_);(try simp only[]))
    exact V.wk
   have tk1:Cl 46 [.int .i64 1] (.int .i64 0):=rtk (c:=1) rfl
   have hS2:dst (1+I%3) ([],0) (c,a)=([(1,(IntKind.u16.wrap a).tmod (1+I%3))],1):=by
    have e1:dcode 0 (1+c%12)=1:=by unfold dcode;rw[if_pos (by omega)];rfl
    unfold dst dop
    dsimp only
    rw[e1]
    unfold darg
    rw[if_pos rfl,wrap16]
    rfl
   rw[hS2] at hS
   refine V.r0 hca2 ?_
   refine .inr ?_
   refine V.r2 hca2 ci tk1 ?_
   refine⟨0+1,⟨by omega,by omega⟩,by omega,?_⟩
   dsimp only
   rw[hS]
   refine Wk.renS 86 300 3 1 2 (by decide) (by decide) rfl rfl rfl ?_
   exact V.wk
  ·simp only[Bool.and_eq_false_iff,decide_eq_false_iff_not] at hq
   have hl0:l=[]:=by
    cases l with
    | nil=>rfl
    | cons q l=>simp at hq<;>omega
   have hfin:dfo (1+I%3) (l.take 12)=([],0):=by rw[hl0];rfl
   (conv=>whnf)
   (try simp only[])
   repeat ((first|refine V.s1 ?_);(try simp only[]))
   have hD:∃ D2,D2=dup (1+I%3) (1+O%3) 3 ([],0):=⟨_,rfl⟩
   obtain⟨D2,hD2⟩:=hD
   refine Lp.of ⟨List (Int×Int)×Int,fun t=>0≤t.2∧t.2≤9∧t.1.length≤20∧(t.1=[]→t.2=0) ∧ ∃ j:Nat,j≤3∧(1+O%3)-t.2≤j∧t.1.length+j≤15∧dup (1+I%3) (1+O%3) j t=D2,fun t=>match t.1 with|[]=>[(1,.box 1 0),(3,.nil),(4,.int .i64 t.2)]|q::r=>[(1,.box 1 0),(3,.bsl 300 0 (r.length+1) 2),(4,.int .i64 t.2)],fun t=>match t.1 with|[]=>[(1,.box [.int .u8 I,.int .u8 O,dsD l])]|q::r=>[(1,.box [.int .u8 I,.int .u8 O,dsD l]),(300,.box (bcl (q::r)))],fun t=>(9-t.2).toNat,⟨([],0),⟨Int.le_refl _,by decide,by simp,by simp,3,by omega,by omega,by simp<;>omega,hD2.symm⟩,V.wk⟩,?_⟩
   rintro⟨P2,n2⟩ ⟨j1,j2,j3,j4,j,j5,j6,j7,j8⟩
   dsimp only at j1 j2 j3 j4 j6 j7 j8
   cases P2 with
   | nil=>
    try dsimp only
    (conv=>whnf)
    (try simp only[])
    repeat ((first|refine V.s1 ?_|((try ((with_reducible refine .ext ?_);(conv=>whnf);(try simp only[])));(with_reducible refine jaa (r:=?_) ?_ ?_);rotate_left;(focus (first|exact(co)));(conv=>whnf)));(try simp only[]))
    refine V.br (fun hq2=>?_) (fun hq2=>?_)
    ·simp only[decide_eq_true_eq] at hq2
     (conv=>whnf)
     (try simp only[])
     repeat ((first|refine V.s1 ?_|((try ((with_reducible refine .ext ?_);(conv=>whnf);(try simp only[])));(with_reducible refine jaa (r:=?_) ?_ ?_);rotate_left;(focus (first|exact(ci)));(conv=>whnf)));(try simp only[]))
     refine⟨([]++[(1,n2%(1+I%3))],n2+1),⟨by dsimp only;omega,by dsimp only;omega,by simp at j7 ⊢ <;> omega,by simp,j-1,by omega,by dsimp only;omega,by simp at j7 ⊢; omega,?_⟩,by dsimp only;omega,?_⟩
     ·obtain⟨j',rfl⟩:∃ j',j=j'+1:=⟨j-1,by omega⟩
      rw[← j8]
      show dup (1+I%3) (1+O%3) j' _=dup (1+I%3) (1+O%3) (j'+1) ([],n2)
      rw[dup,if_pos hq2]
     ·dsimp only
      refine Wk.renS 104 300 3 1 2 (by decide) (by decide) rfl rfl rfl ?_
      exact V.wk
    ·simp only[decide_eq_false_iff_not] at hq2
     have e9:dup (1+I%3) (1+O%3) j ([],n2)=([],n2):=by
      cases j with
      | zero=>rfl
      | succ j=>rw[dup,if_neg hq2]
     rw[e9] at j8
     exact absurd (j4 rfl) (by omega)
   | cons q2 r2=>
    have pg2:=jaA (q2::r2)
    have hb:Nat.beq (bcl (q2::r2)).length ((r2.length+1)*2)=true:=by rw[jaH];exact Nat.beq_refl _
    have hf:∀ i,D.freeL i (bcl (q2::r2)++[.int .i64 1,.int .i64 (n2%(1+I%3))])=true:=jay (q2::r2) 1 (n2%(1+I%3))
    have e2:bcl (q2::(r2++[(1,n2%(1+I%3))]))=bcl (q2::r2)++[.int .i64 1,.int .i64 (n2%(1+I%3))]:=jbo (q2::r2) [(1,n2%(1+I%3))]
    obtain⟨B2,hB2⟩:∃ B2,B2=bcl (q2::r2):=⟨_,rfl⟩
    dsimp only
    simp only[← hB2] at pg2 hb hf e2 ⊢
    try dsimp only
    (conv=>whnf)
    (try simp only[])
    repeat ((first|refine V.s1 ?_|((try ((with_reducible refine .ext ?_);(conv=>whnf);(try simp only[])));(with_reducible refine jaa (r:=?_) ?_ ?_);rotate_left;(focus (first|exact(co)));(conv=>whnf))|(((rewrite [pg2];(conv=>whnf)));(conv=>whnf)));(try simp only[]))
    refine V.br (fun hq2=>?_) (fun hq2=>?_)
    ·simp only[decide_eq_true_eq] at hq2
     have ht:Nat.ble (r2.length+1+1) 1000000=true:=by rw[jih];simp at j3;omega
     (conv=>whnf)
     (try simp only[])
     repeat ((first|refine V.s1 ?_|((try ((with_reducible refine .ext ?_);(conv=>whnf);(try simp only[])));(with_reducible refine jaa (r:=?_) ?_ ?_);rotate_left;(focus (first|exact(ci)));(conv=>whnf))|(((rewrite [pg2];(conv=>whnf)));(conv=>whnf))|(((simp only[hb,ht,jiB,hf];(conv=>whnf)));(conv=>whnf)));(try simp only[]))
     refine⟨((q2::r2)++[(1,n2%(1+I%3))],n2+1),⟨by dsimp only;omega,by dsimp only;omega,by simp at j7 ⊢ <;> omega,by simp,j-1,by omega,by dsimp only;omega,by simp at j7 ⊢; omega,?_⟩,by dsimp only;omega,?_⟩
     ·obtain⟨j',rfl⟩:∃ j',j=j'+1:=⟨j-1,by omega⟩
      rw[← j8]
      show dup (1+I%3) (1+O%3) j' _=dup (1+I%3) (1+O%3) (j'+1) ((q2::r2),n2)
      rw[dup,if_pos hq2]
     ·dsimp only
      have e1:(r2++[((1:Int),n2%(1+I%3))]).length=r2.length+1:=by simp
      rw[List.cons_append]
      dsimp only
      rw[e1,e2]
      refine Wk.renS 104 300 3 (r2.length+1+1) 2 (by decide) (by decide) (hf _) rfl rfl ?_
      exact V.wk
    ·simp only[decide_eq_false_iff_not] at hq2
     have e9:dup (1+I%3) (1+O%3) j ((q2::r2),n2)=((q2::r2),n2):=by
      cases j with
      | zero=>rfl
      | succ j=>rw[dup,if_neg hq2]
     rw[e9] at j8
     have hD3:dup (1+I%3) (1+O%3) 3 ([],0)=(q2::r2,n2):=hD2.symm.trans j8.symm
     have hne:0<n2:=by omega
     have hfin2:dprog (1+I%3) (1+O%3) l=(ddn (1+O%3) 9 ((q2::r2),n2)).1:=by
      unfold dprog;rw[hfin,show dup (1+I%3) (1+O%3) 3 ([],0)=(q2::r2,n2) from hD3]
     (conv=>whnf)
     (try simp only[])
     repeat ((first|refine V.s1 ?_|((try ((with_reducible refine .ext ?_);(conv=>whnf);(try simp only[])));(with_reducible refine jaa (r:=?_) ?_ ?_);rotate_left;(focus (first|fail));(conv=>whnf))|(((rewrite [pg2];(conv=>whnf)));(conv=>whnf)));(try simp only[]))
     rw[hB2]
     refine Lp.of ⟨List (Int×Int)×Int,fun t=>t.1≠[]∧t.1.length≤100∧t.2≤9∧1+O%3≤t.2 ∧ ∃ j:Nat,j≤9∧t.2-(1+O%3)≤j∧t.1.length+j≤40∧ddn (1+O%3) j t=ddn (1+O%3) 9 ((q2::r2),n2),fun t=>match t.1 with|[]=>[]|q::r=>[(1,.box 1 0),(3,.bsl 300 0 (r.length+1) 2),(4,.int .i64 t.2)],fun t=>match t.1 with|[]=>[]|q::r=>[(1,.box [.int .u8 I,.int .u8 O,dsD l]),(300,.box (bcl (q::r)))],fun t=>t.2.toNat,⟨((q2::r2),n2),⟨by simp,by simp at j3 ⊢; omega,by omega,by omega,9,by omega,by omega,by simp at j3 ⊢; omega,rfl⟩,V.wk⟩,?_⟩
     rintro⟨P3,n3⟩ ⟨i1,i2,i3,i4,j,i5,i6,i7,i8⟩
     dsimp only at i1 i2 i3 i4 i6 i7 i8
     cases P3 with
     | nil=>exact absurd rfl i1
     | cons q3 r3=>
      dsimp only
      have pg3:=jaA (q3::r3)
      have pb3:=jga (q3::r3)
      have bo3:bslOk (bcl (q3::r3)) 0 (r3.length+1) 2=true:=jeX (q3::r3)
      have hb:Nat.beq (bcl (q3::r3)).length ((r3.length+1)*2)=true:=by rw[jaH];exact Nat.beq_refl _
      have hf:∀ i,D.freeL i (bcl (q3::r3)++[.int .i64 3,.int .i64 0])=true:=jay (q3::r3) 3 0
      have e2:bcl (q3::(r3++[(3,0)]))=bcl (q3::r3)++[.int .i64 3,.int .i64 0]:=jbo (q3::r3) [(3,0)]
      have eo:oL (q3::r3)=sl2 (r3.length+1) (bcl (q3::r3)):=rfl
      obtain⟨B3,hB3⟩:∃ B3,B3=bcl (q3::r3):=⟨_,rfl⟩
      simp only[← hB3] at pg3 pb3 bo3 hb hf e2 eo ⊢
      (conv=>whnf)
      (try simp only[])
      repeat ((first|refine V.s1 ?_|((try ((with_reducible refine .ext ?_);(conv=>whnf);(try simp only[])));(with_reducible refine jaa (r:=?_) ?_ ?_);rotate_left;(focus (first|exact(co)));(conv=>whnf))|(((rewrite [pg3];(conv=>whnf)));(conv=>whnf)));(try simp only[]))
      refine V.br (fun hq3=>?_) (fun hq3=>?_)
      ·simp only[decide_eq_true_eq] at hq3
       have ht:Nat.ble (r3.length+1+1) 1000000=true:=by rw[jih];simp at i2;omega
       (conv=>whnf)
       (try simp only[])
       repeat ((first|refine V.s1 ?_|((try ((with_reducible refine .ext ?_);(conv=>whnf);(try simp only[])));(with_reducible refine jaa (r:=?_) ?_ ?_);rotate_left;(focus (first|fail));(conv=>whnf))|(((rewrite [pg3];(conv=>whnf)));(conv=>whnf))|(((simp only[hb,ht,jiB,hf];(conv=>whnf)));(conv=>whnf)));(try simp only[]))
       refine⟨(q3::(r3++[(3,0)]),n3-1),⟨by simp,by simp at i7 ⊢; omega,by dsimp only;omega,by dsimp only;omega,j-1,by omega,by dsimp only;omega,by simp at i7 ⊢; omega,?_⟩,by dsimp only;omega,?_⟩
       ·obtain⟨j',rfl⟩:∃ j',j=j'+1:=⟨j-1,by omega⟩
        rw[← i8]
        show ddn (1+O%3) j' _=ddn (1+O%3) (j'+1) (q3::r3,n3)
        rw[ddn,if_pos hq3]
        rfl
       ·dsimp only
        have e1:(r3++[((3:Int),(0:Int))]).length=r3.length+1:=by simp
        rw[e1,e2]
        refine Wk.renS 114 300 3 (r3.length+1+1) 2 (by decide) (by decide) (hf _) rfl rfl ?_
        exact V.wk
      ·simp only[decide_eq_false_iff_not] at hq3
       have e9:ddn (1+O%3) j (q3::r3,n3)=(q3::r3,n3):=by
        cases j with
        | zero=>rfl
        | succ j=>rw[ddn,if_neg hq3]
       rw[hfin2,← i8,e9]
       dsimp only
       rw[eo]
       (conv=>whnf)
       (try simp only[jhR])
       repeat ((first|refine V.s1 ?_|((try ((with_reducible refine .ext ?_);(conv=>whnf);(try simp only[jhR])));(with_reducible refine jaa (r:=?_) ?_ ?_);rotate_left;(focus (first|fail));(conv=>whnf))|(((rewrite [pg3];(conv=>whnf)));(conv=>whnf))|(((rewrite [bo3];(conv=>whnf)));(conv=>whnf))|(((rewrite [pb3];(conv=>whnf)));(conv=>whnf)));(try simp only[jhR]))
       exact Fin.of rfl
 | succ k=>
  dsimp only
  have hkk:(((k+1:Nat):Int)+1)=((k+1+1:Nat):Int):=by omega
  have hP:(dfo (1+I%3) (l.take (k+1))).1.length=k+1:=by
   unfold dfo;rw[dfo_len,jip];simp;omega
  have hG:=good_dfo (ins:=1+I%3) (by omega) (l.take (k+1)) (fun s hs=>(hl s (jiu hs)).2)
  have hn:=And.intro hG.lo hG.hi
  have hS:k+1<l.length→dfo (1+I%3) (l.take (k+1+1))=dst (1+I%3) (dfo (1+I%3) (l.take (k+1))) (l.getD (k+1) (0,0)):=fun h=>by rw[jdb l (k+1) (0,0) h,dfo_snoc]
  have hX:k+1<l.length→(0≤(l.getD (k+1) (0,0)).1∧(l.getD (k+1) (0,0)).1≤255) ∧ -32768≤(l.getD (k+1) (0,0)).2∧(l.getD (k+1) (0,0)).2≤32767:=fun h=>hl _ (by rw[jij,jim h];exact jin h)
  clear hG
  obtain⟨t,hT⟩:∃ t,t=dfo (1+I%3) (l.take (k+1)):=⟨_,rfl⟩
  rw[← hT] at hP hn hS ⊢
  obtain⟨P,n⟩:=t
  dsimp only at hP hn hS ⊢
  have pg:=jaA P
  refine V.r0 @jhS ?_
  refine V.br (fun hq=>?_) (fun hq=>?_)
  ·simp only[jhK,decide_eq_true_eq] at hq
   have hkl:k+1<l.length:=by omega
   have hS:=hS hkl
   have hX:=hX hkl
   obtain⟨c,a,hca⟩:∃ c a,l.getD (k+1) (0,0)=(c,a):=⟨_,_,rfl⟩
   rw[hca] at hS hX
   dsimp only at hX
   have tk:=rtk (c:=1+c%12) (by unfold tkb;simp only[decide_eq_true_eq];omega)
   (conv=>whnf)
   (try simp only[jhS,hca])
   repeat ((first|refine V.s1 ?_|((try ((with_reducible refine .ext ?_);(conv=>whnf);(try simp only[jhS,hca])));(with_reducible refine jaa (r:=?_) ?_ ?_);rotate_left;(focus (first|exact(tk)));(conv=>whnf))|((refine⟨_,fun _=>tk,?_⟩);(conv=>whnf))|(((rewrite [pg];(conv=>whnf)));(conv=>whnf)));(try simp only[jhS,hca]))
   refine⟨fun h1 h2=>by rw[h1,h2];rfl,?_⟩
   (conv=>whnf)
   (try simp only[jhS,hca])
   repeat ((first|refine V.s1 ?_|((try ((with_reducible refine .ext ?_);(conv=>whnf);(try simp only[jhS,hca])));(with_reducible refine jaa (r:=?_) ?_ ?_);rotate_left;(focus (first|exact(tk)));(conv=>whnf))|(((rewrite [pg];(conv=>whnf)));(conv=>whnf)));(try simp only[jhS,hca]))
   refine cnd_to [(1,.box 1 0),(3,.bsl 300 0 (k+1) 2),(4,.int .i64 n),(5,.int .i64 ((k+1:Nat):Int)),(6,.box 6 0)] [(1,.box [.int .u8 I,.int .u8 O,dsD l]),(300,.box (bcl P)),(6,.box [.int .i64 (dcode n (1+c%12)),.int .i64 0])] (CondB.mk (fun h=>?_) (fun h=>?_)) ?_
   ·have e:dcode n (1+c%12)=if n>8 then 3 else 1:=by
     unfold dcode
     simp only[jh1,jhK,decide_eq_true_eq] at h
     rw[if_pos (by omega)]
    rw[e]
    (conv=>whnf)
    (try simp only[])
    repeat ((first|refine V.s1 ?_|((try ((with_reducible refine .ext ?_);(conv=>whnf);(try simp only[])));(with_reducible refine jaa (r:=?_) ?_ ?_);rotate_left;(focus (first|fail));(conv=>whnf))|(((rewrite [pg];(conv=>whnf)));(conv=>whnf)));(try simp only[]))
    refine V.br (fun h8=>?_) (fun h8=>?_)
    ·rw[if_pos (of_decide_eq_true h8)]
     (conv=>whnf)
     (try simp only[])
     repeat ((first|refine V.s1 ?_|((try ((with_reducible refine .ext ?_);(conv=>whnf);(try simp only[])));(with_reducible refine jaa (r:=?_) ?_ ?_);rotate_left;(focus (first|fail));(conv=>whnf))|(((rewrite [pg];(conv=>whnf)));(conv=>whnf)));(try simp only[]))
     exact V.wk
    ·rw[if_neg (of_decide_eq_false h8)]
     (conv=>whnf)
     exact V.wk
   ·have e:dcode n (1+c%12)=1+c%12:=by
     unfold dcode
     simp only[jh2,Bool.and_eq_false_iff,decide_eq_false_iff_not] at h
     rw[if_neg (by omega)]
    rw[e]
    (conv=>whnf)
    exact V.wk
   have hcb:tkb (dcode n (1+c%12))=true:=dop_code 0 n (c,a)
   have hS2:dst (1+I%3) (P,n) (c,a)=(P++[(dcode n (1+c%12),darg (1+I%3) n (dcode n (1+c%12)) a)],n-tkn (dcode n (1+c%12))+1):=rfl
   rw[hS2] at hS
   have h11:dcode n (1+c%12)=11→0<n:=dcode_11 hn.1
   generalize dcode n (1+c%12)=cc at *
   (conv=>whnf)
   (try simp only[jhS,hca])
   repeat ((first|refine V.s1 ?_|((try ((with_reducible refine .ext ?_);(conv=>whnf);(try simp only[jhS,hca])));(with_reducible refine jaa (r:=?_) ?_ ?_);rotate_left;(focus (first|fail));(conv=>whnf))|(((rewrite [pg];(conv=>whnf)));(conv=>whnf)));(try simp only[jhS,hca]))
   refine cnd_to [(1,.box 1 0),(3,.bsl 300 0 (k+1) 2),(4,.int .i64 n),(5,.int .i64 ((k+1:Nat):Int)),(6,.box 6 0)] [(1,.box [.int .u8 I,.int .u8 O,dsD l]),(300,.box (bcl P)),(6,.box [.int .i64 cc,.int .i64 (darg (1+I%3) n cc a)])] (CondB.mk (fun h=>?_) (fun h=>?_)) ?_
   ·have e1:=of_decide_eq_true h
    have e:darg (1+I%3) n cc a=(IntKind.u16.wrap a).tmod (1+I%3):=by unfold darg;rw[if_pos e1,wrap16]
    rw[e]
    (conv=>whnf)
    (try simp only[])
    repeat ((first|refine V.s1 ?_|((try ((with_reducible refine .ext ?_);(conv=>whnf);(try simp only[])));(with_reducible refine jaa (r:=?_) ?_ ?_);rotate_left;(focus (first|exact(ci)));(conv=>whnf))|(((rewrite [pg];(conv=>whnf)));(conv=>whnf)));(try simp only[]))
    refine .inr ?_
    (conv=>whnf)
    (try simp only[])
    repeat ((first|refine V.s1 ?_|((try ((with_reducible refine .ext ?_);(conv=>whnf);(try simp only[])));(with_reducible refine jaa (r:=?_) ?_ ?_);rotate_left;(focus (first|exact(ci)));(conv=>whnf))|(((rewrite [pg];(conv=>whnf)));(conv=>whnf)));(try simp only[]))
    exact V.wk
   ·have e1:=of_decide_eq_false h
    (conv=>whnf)
    (try simp only[])
    repeat ((first|refine V.s1 ?_|((try ((with_reducible refine .ext ?_);(conv=>whnf);(try simp only[])));(with_reducible refine jaa (r:=?_) ?_ ?_);rotate_left;(focus (first|fail));(conv=>whnf))|(((rewrite [pg];(conv=>whnf)));(conv=>whnf)));(try simp only[]))
    refine V.br (fun h2=>?_) (fun h2=>?_)
    ·have e2:=of_decide_eq_true h2
     have e:darg (1+I%3) n cc a=100*a:=by unfold darg;rw[if_neg e1,if_pos e2]
     rw[e]
     (conv=>whnf)
     (try simp only[])
     repeat ((first|refine V.s1 ?_|((try ((with_reducible refine .ext ?_);(conv=>whnf);(try simp only[])));(with_reducible refine jaa (r:=?_) ?_ ?_);rotate_left;(focus (first|fail));(conv=>whnf))|(((rewrite [pg];(conv=>whnf)));(conv=>whnf)));(try simp only[]))
     exact V.wk
    ·have e2:=of_decide_eq_false h2
     (conv=>whnf)
     (try simp only[])
     repeat ((first|refine V.s1 ?_|((try ((with_reducible refine .ext ?_);(conv=>whnf);(try simp only[])));(with_reducible refine jaa (r:=?_) ?_ ?_);rotate_left;(focus (first|fail));(conv=>whnf))|(((rewrite [pg];(conv=>whnf)));(conv=>whnf)));(try simp only[]))
     refine V.br (fun h3=>?_) (fun h3=>?_)
     ·have e3:=of_decide_eq_true h3
      have e:darg (1+I%3) n cc a=(IntKind.u16.wrap a).tmod n:=by unfold darg;rw[if_neg e1,if_neg e2,if_pos e3,wrap16]
      rw[e]
      (conv=>whnf)
      (try simp only[])
      repeat ((first|refine V.s1 ?_|((try ((with_reducible refine .ext ?_);(conv=>whnf);(try simp only[])));(with_reducible refine jaa (r:=?_) ?_ ?_);rotate_left;(focus (first|fail));(conv=>whnf))|(((rewrite [pg];(conv=>whnf)));(conv=>whnf)));(try simp only[]))
      have n0:=h11 e3
      refine .inr ?_
      (conv=>whnf)
      (try simp only[])
      repeat ((first|refine V.s1 ?_|((try ((with_reducible refine .ext ?_);(conv=>whnf);(try simp only[])));(with_reducible refine jaa (r:=?_) ?_ ?_);rotate_left;(focus (first|fail));(conv=>whnf))|(((rewrite [pg];(conv=>whnf)));(conv=>whnf)));(try simp only[]))
      exact V.wk
     ·have e3:=of_decide_eq_false h3
      have e:darg (1+I%3) n cc a=0:=by unfold darg;rw[if_neg e1,if_neg e2,if_neg e3]
      rw[e]
      (conv=>whnf)
      exact V.wk
   have tk2:=rtk hcb
   have htk:=jei cc
   have hb:Nat.beq (bcl P).length ((k+1)*2)=true:=by rw[jaH,hP];exact Nat.beq_refl _
   have ht:Nat.ble (k+1+1) 1000000=true:=by rw[jih];omega
   generalize darg (1+I%3) n cc a=ag at *
   have hf:∀ i,D.freeL i (bcl P++[.int .i64 cc,.int .i64 ag])=true:=jay P cc ag
   (conv=>whnf)
   (try simp only[jhS,hkk])
   repeat ((first|refine V.s1 ?_|((try ((with_reducible refine .ext ?_);(conv=>whnf);(try simp only[jhS,hkk])));(with_reducible refine jaa (r:=?_) ?_ ?_);rotate_left;(focus (first|exact(tk2)));(conv=>whnf))|(((rewrite [pg];(conv=>whnf)));(conv=>whnf))|(((simp only[hb,ht,jiB,hf];(conv=>whnf)));(conv=>whnf)));(try simp only[jhS,hkk]))
   refine⟨k+1+1,⟨by omega,by omega⟩,by omega,?_⟩
   dsimp only
   rw[hS]
   dsimp only
   rw[jbo]
   refine Wk.renS 86 300 3 (k+1+1) 2 (by decide) (by decide) (hf _) rfl rfl ?_
   exact V.wk
  ·simp only[Bool.and_eq_false_iff,decide_eq_false_iff_not] at hq
   have hfin:dfo (1+I%3) (l.take 12)=(P,n):=by
    rcases jh0 (k+1) l.length with g|g
    ·rw[show 12=k+1 by omega];exact hT.symm
    ·rw[jiw (by omega)]
     rw[jiw g] at hT
     exact hT.symm
   (conv=>whnf)
   (try simp only[])
   repeat ((first|refine V.s1 ?_|((try ((with_reducible refine .ext ?_);(conv=>whnf);(try simp only[])));(with_reducible refine jaa (r:=?_) ?_ ?_);rotate_left;(focus (first|fail));(conv=>whnf))|(((rewrite [pg];(conv=>whnf)));(conv=>whnf)));(try simp only[]))
   cases P with
   | nil=>simp at hP
   | cons q0 r0=>
    obtain rfl:k=r0.length:=by simpa using hP.symm
    have hD:∃ D2,D2=dup (1+I%3) (1+O%3) 3 (q0::r0,n):=⟨_,rfl⟩
    obtain⟨D2,hD2⟩:=hD
    refine Lp.of ⟨List (Int×Int)×Int,fun t=>0≤t.2∧t.2≤9∧t.1.length≤20∧(t.1=[]→t.2=0) ∧ ∃ j:Nat,j≤3∧(1+O%3)-t.2≤j∧t.1.length+j≤15∧dup (1+I%3) (1+O%3) j t=D2,fun t=>match t.1 with|[]=>[(1,.box 1 0),(3,.nil),(4,.int .i64 t.2)]|q::r=>[(1,.box 1 0),(3,.bsl 300 0 (r.length+1) 2),(4,.int .i64 t.2)],fun t=>match t.1 with|[]=>[(1,.box [.int .u8 I,.int .u8 O,dsD l])]|q::r=>[(1,.box [.int .u8 I,.int .u8 O,dsD l]),(300,.box (bcl (q::r)))],fun t=>(9-t.2).toNat,⟨(q0::r0,n),⟨by dsimp only;omega,by dsimp only;omega,by simp<;>omega,by simp,3,by omega,by omega,by simp<;>omega,hD2.symm⟩,V.wk⟩,?_⟩
    rintro⟨P2,n2⟩ ⟨j1,j2,j3,j4,j,j5,j6,j7,j8⟩
    dsimp only at j1 j2 j3 j4 j6 j7 j8
    cases P2 with
    | nil=>
     try dsimp only
     (conv=>whnf)
     (try simp only[])
     repeat ((first|refine V.s1 ?_|((try ((with_reducible refine .ext ?_);(conv=>whnf);(try simp only[])));(with_reducible refine jaa (r:=?_) ?_ ?_);rotate_left;(focus (first|exact(co)));(conv=>whnf)));(try simp only[]))
     refine V.br (fun hq2=>?_) (fun hq2=>?_)
     ·simp only[decide_eq_true_eq] at hq2
      (conv=>whnf)
      (try simp only[])
      repeat ((first|refine V.s1 ?_|((try ((with_reducible refine .ext ?_);(conv=>whnf);(try simp only[])));(with_reducible refine jaa (r:=?_) ?_ ?_);rotate_left;(focus (first|exact(ci)));(conv=>whnf)));(try simp only[]))
      refine⟨([]++[(1,n2%(1+I%3))],n2+1),⟨by dsimp only;omega,by dsimp only;omega,by simp at j7 ⊢ <;> omega,by simp,j-1,by omega,by dsimp only;omega,by simp at j7 ⊢; omega,?_⟩,by dsimp only;omega,?_⟩
      ·obtain⟨j',rfl⟩:∃ j',j=j'+1:=⟨j-1,by omega⟩
       rw[← j8]
       show dup (1+I%3) (1+O%3) j' _=dup (1+I%3) (1+O%3) (j'+1) ([],n2)
       rw[dup,if_pos hq2]
      ·dsimp only
       refine Wk.renS 104 300 3 1 2 (by decide) (by decide) rfl rfl rfl ?_
       exact V.wk
     ·simp only[decide_eq_false_iff_not] at hq2
      have e9:dup (1+I%3) (1+O%3) j ([],n2)=([],n2):=by
       cases j with
       | zero=>rfl
       | succ j=>rw[dup,if_neg hq2]
      rw[e9] at j8
      exact absurd (j4 rfl) (by omega)
    | cons q2 r2=>
     have pg2:=jaA (q2::r2)
     have hb:Nat.beq (bcl (q2::r2)).length ((r2.length+1)*2)=true:=by rw[jaH];exact Nat.beq_refl _
     have hf:∀ i,D.freeL i (bcl (q2::r2)++[.int .i64 1,.int .i64 (n2%(1+I%3))])=true:=jay (q2::r2) 1 (n2%(1+I%3))
     have e2:bcl (q2::(r2++[(1,n2%(1+I%3))]))=bcl (q2::r2)++[.int .i64 1,.int .i64 (n2%(1+I%3))]:=jbo (q2::r2) [(1,n2%(1+I%3))]
     obtain⟨B2,hB2⟩:∃ B2,B2=bcl (q2::r2):=⟨_,rfl⟩
     dsimp only
     simp only[← hB2] at pg2 hb hf e2 ⊢
     try dsimp only
     (conv=>whnf)
     (try simp only[])
     repeat ((first|refine V.s1 ?_|((try ((with_reducible refine .ext ?_);(conv=>whnf);(try simp only[])));(with_reducible refine jaa (r:=?_) ?_ ?_);rotate_left;(focus (first|exact(co)));(conv=>whnf))|(((rewrite [pg2];(conv=>whnf)));(conv=>whnf)));(try simp only[]))
     refine V.br (fun hq2=>?_) (fun hq2=>?_)
     ·simp only[decide_eq_true_eq] at hq2
      have ht:Nat.ble (r2.length+1+1) 1000000=true:=by rw[jih];simp at j3;omega
      (conv=>whnf)
      (try simp only[])
      repeat ((first|refine V.s1 ?_|((try ((with_reducible refine .ext ?_);(conv=>whnf);(try simp only[])));(with_reducible refine jaa (r:=?_) ?_ ?_);rotate_left;(focus (first|exact(ci)));(conv=>whnf))|(((rewrite [pg2];(conv=>whnf)));(conv=>whnf))|(((simp only[hb,ht,jiB,hf];(conv=>whnf)));(conv=>whnf)));(try simp only[]))
      refine⟨((q2::r2)++[(1,n2%(1+I%3))],n2+1),⟨by dsimp only;omega,by dsimp only;omega,by simp at j7 ⊢ <;> omega,by simp,j-1,by omega,by dsimp only;omega,by simp at j7 ⊢; omega,?_⟩,by dsimp only;omega,?_⟩
      ·obtain⟨j',rfl⟩:∃ j',j=j'+1:=⟨j-1,by omega⟩
       rw[← j8]
       show dup (1+I%3) (1+O%3) j' _=dup (1+I%3) (1+O%3) (j'+1) ((q2::r2),n2)
       rw[dup,if_pos hq2]
      ·dsimp only
       have e1:(r2++[((1:Int),n2%(1+I%3))]).length=r2.length+1:=by simp
       rw[List.cons_append]
       dsimp only
       rw[e1,e2]
       refine Wk.renS 104 300 3 (r2.length+1+1) 2 (by decide) (by decide) (hf _) rfl rfl ?_
       exact V.wk
     ·simp only[decide_eq_false_iff_not] at hq2
      have e9:dup (1+I%3) (1+O%3) j ((q2::r2),n2)=((q2::r2),n2):=by
       cases j with
       | zero=>rfl
       | succ j=>rw[dup,if_neg hq2]
      rw[e9] at j8
      have hD3:dup (1+I%3) (1+O%3) 3 (q0::r0,n)=(q2::r2,n2):=hD2.symm.trans j8.symm
      have hne:0<n2:=by omega
      have hfin2:dprog (1+I%3) (1+O%3) l=(ddn (1+O%3) 9 ((q2::r2),n2)).1:=by
       unfold dprog;rw[hfin,show dup (1+I%3) (1+O%3) 3 (q0::r0,n)=(q2::r2,n2) from hD3]
      (conv=>whnf)
      (try simp only[])
      repeat ((first|refine V.s1 ?_|((try ((with_reducible refine .ext ?_);(conv=>whnf);(try simp only[])));(with_reducible refine jaa (r:=?_) ?_ ?_);rotate_left;(focus (first|fail));(conv=>whnf))|(((rewrite [pg2];(conv=>whnf)));(conv=>whnf)));(try simp only[]))
      rw[hB2]
      refine Lp.of ⟨List (Int×Int)×Int,fun t=>t.1≠[]∧t.1.length≤100∧t.2≤9∧1+O%3≤t.2 ∧ ∃ j:Nat,j≤9∧t.2-(1+O%3)≤j∧t.1.length+j≤40∧ddn (1+O%3) j t=ddn (1+O%3) 9 ((q2::r2),n2),fun t=>match t.1 with|[]=>[]|q::r=>[(1,.box 1 0),(3,.bsl 300 0 (r.length+1) 2),(4,.int .i64 t.2)],fun t=>match t.1 with|[]=>[]|q::r=>[(1,.box [.int .u8 I,.int .u8 O,dsD l]),(300,.box (bcl (q::r)))],fun t=>t.2.toNat,⟨((q2::r2),n2),⟨by simp,by simp at j3 ⊢; omega,by omega,by omega,9,by omega,by omega,by simp at j3 ⊢; omega,rfl⟩,V.wk⟩,?_⟩
      rintro⟨P3,n3⟩ ⟨i1,i2,i3,i4,j,i5,i6,i7,i8⟩
      dsimp only at i1 i2 i3 i4 i6 i7 i8
      cases P3 with
      | nil=>exact absurd rfl i1
      | cons q3 r3=>
       dsimp only
       have pg3:=jaA (q3::r3)
       have pb3:=jga (q3::r3)
       have bo3:bslOk (bcl (q3::r3)) 0 (r3.length+1) 2=true:=jeX (q3::r3)
       have hb:Nat.beq (bcl (q3::r3)).length ((r3.length+1)*2)=true:=by rw[jaH];exact Nat.beq_refl _
       have hf:∀ i,D.freeL i (bcl (q3::r3)++[.int .i64 3,.int .i64 0])=true:=jay (q3::r3) 3 0
       have e2:bcl (q3::(r3++[(3,0)]))=bcl (q3::r3)++[.int .i64 3,.int .i64 0]:=jbo (q3::r3) [(3,0)]
       have eo:oL (q3::r3)=sl2 (r3.length+1) (bcl (q3::r3)):=rfl
       obtain⟨B3,hB3⟩:∃ B3,B3=bcl (q3::r3):=⟨_,rfl⟩
       simp only[← hB3] at pg3 pb3 bo3 hb hf e2 eo ⊢
       (conv=>whnf)
       (try simp only[])
       repeat ((first|refine V.s1 ?_|((try ((with_reducible refine .ext ?_);(conv=>whnf);(try simp only[])));(with_reducible refine jaa (r:=?_) ?_ ?_);rotate_left;(focus (first|exact(co)));(conv=>whnf))|(((rewrite [pg3];(conv=>whnf)));(conv=>whnf)));(try simp only[]))
       refine V.br (fun hq3=>?_) (fun hq3=>?_)
       ·simp only[decide_eq_true_eq] at hq3
        have ht:Nat.ble (r3.length+1+1) 1000000=true:=by rw[jih];simp at i2;omega
        (conv=>whnf)
        (try simp only[])
        repeat ((first|refine V.s1 ?_|((try ((with_reducible refine .ext ?_);(conv=>whnf);(try simp only[])));(with_reducible refine jaa (r:=?_) ?_ ?_);rotate_left;(focus (first|fail));(conv=>whnf))|(((rewrite [pg3];(conv=>whnf)));(conv=>whnf))|(((simp only[hb,ht,jiB,hf];(conv=>whnf)));(conv=>whnf)));(try simp only[]))
        refine⟨(q3::(r3++[(3,0)]),n3-1),⟨by simp,by simp at i7 ⊢; omega,by dsimp only;omega,by dsimp only;omega,j-1,by omega,by dsimp only;omega,by simp at i7 ⊢; omega,?_⟩,by dsimp only;omega,?_⟩
        ·obtain⟨j',rfl⟩:∃ j',j=j'+1:=⟨j-1,by omega⟩
         rw[← i8]
         show ddn (1+O%3) j' _=ddn (1+O%3) (j'+1) (q3::r3,n3)
         rw[ddn,if_pos hq3]
         rfl
        ·dsimp only
         have e1:(r3++[((3:Int),(0:Int))]).length=r3.length+1:=by simp
         rw[e1,e2]
         refine Wk.renS 114 300 3 (r3.length+1+1) 2 (by decide) (by decide) (hf _) rfl rfl ?_
         exact V.wk
       ·simp only[decide_eq_false_iff_not] at hq3
        have e9:ddn (1+O%3) j (q3::r3,n3)=(q3::r3,n3):=by
         cases j with
         | zero=>rfl
         | succ j=>rw[ddn,if_neg hq3]
        rw[hfin2,← i8,e9]
        dsimp only
        rw[eo]
        (conv=>whnf)
        (try simp only[jhR])
        repeat ((first|refine V.s1 ?_|((try ((with_reducible refine .ext ?_);(conv=>whnf);(try simp only[jhR])));(with_reducible refine jaa (r:=?_) ?_ ?_);rotate_left;(focus (first|fail));(conv=>whnf))|(((rewrite [pg3];(conv=>whnf)));(conv=>whnf))|(((rewrite [bo3];(conv=>whnf)));(conv=>whnf))|(((rewrite [pb3];(conv=>whnf)));(conv=>whnf)));(try simp only[jhR]))
        exact Fin.of rfl
def spn (xs:List Int)(i:Nat):Int×Int:=(1000000000*min (xs.getD (2*i) 0) (xs.getD (2*i+1) 0),1000000000*max (xs.getD (2*i) 0) (xs.getD (2*i+1) 0))
def spL (xs:List Int):Nat→List (Int×Int)
 | 0=>[]
 | n+1=>spL xs n++[spn xs n]
theorem spL_len (xs:List Int):∀ n,(spL xs n).length=n
 | 0=>rfl
 | n+1=>by simp[spL,spL_len xs n]
theorem jdN {xs:List Int}(hb:∀ x∈xs, -32768≤x∧x≤32767)(i:Nat) : -32768≤xs.getD i 0∧xs.getD i 0≤32767:=by
 rw[jij]
 rcases jh0 i xs.length with h|h
 ·rw[jim h];exact hb _ (jin h)
 ·rw[List.getElem?_eq_none h];simp
theorem spans_c (I O:Int)(l:List (Int×Int))(xs:List Int)(hI:0≤I∧I≤255)(hx:xs.length=8)(hb:∀ x∈xs, -32768≤x∧x≤32767):Cl 18 [drD I O l,.iarr .i16 xs] (oL (spL xs (1+I%3).toNat)):=by
 have ci:=dins_c I O l hI
 refine V.en tbOk Tryz.func18 ?_
 (conv=>whnf)
 (conv=>whnf)
 (try simp only[])
 repeat ((first|refine V.s1 ?_|((try ((with_reducible refine .ext ?_);(conv=>whnf);(try simp only[])));(with_reducible refine jaa (r:=?_) ?_ ?_);rotate_left;(focus (first|exact(ci)));(conv=>whnf)));(try simp only[]))
 refine Lp.of ⟨Nat,fun k=>(k:Int)≤1+I%3,fun k=>match k with|0=>[(3,.box 3 0),(8,.int .i64 (1+I%3)),(5,.nil),(9,.int .i64 0)]|k+1=>[(3,.box 3 0),(8,.int .i64 (1+I%3)),(5,.bsl 300 0 (k+1) 2),(9,.int .i64 ((k+1:Nat):Int))],fun k=>match k with|0=>[(3,.arr .i16 xs)]|k+1=>[(3,.arr .i16 xs),(300,.box (bcl (spL xs (k+1))))],fun k=>3-k,⟨0,by omega,V.wk⟩,?_⟩
 intro k hk
 cases k with
 | zero=>
  dsimp only
  obtain⟨u,hu⟩:∃ u,u=xs.getD 0 0:=⟨_,rfl⟩
  obtain⟨v,hv⟩:∃ v,v=xs.getD 1 0:=⟨_,rfl⟩
  have ga:xs.getD (0+Int.toNat 0*2+Int.toNat 0) 0=u:=hu.symm
  have gb:xs.getD (0+Int.toNat 0*2+Int.toNat 1) 0=v:=hv.symm
  have bu:=jdN hb 0
  have bv:=jdN hb 1
  rw[← hu] at bu
  rw[← hv] at bv
  have hs:spL xs (0+1)=[(1000000000*min u v,1000000000*max u v)]:=by rw[hu,hv];rfl
  (conv=>whnf)
  (try simp only[])
  repeat ((first|refine V.s1 ?_);(try simp only[]))
  refine Cnd.yes (decide_eq_true (by omega)) ?_
  (conv=>whnf)
  (try simp only[])
  repeat ((first|refine V.s1 ?_);(try simp only[]))
  refine⟨Pq2z,[],V.pok,.go (jab ?_)⟩
  refine V.r0 (V.a2 ga gb) ?_
  refine⟨0+1,by omega,by omega,?_⟩
  dsimp only
  rw[hs]
  refine Wk.renS 37 300 5 1 2 (by decide) (by decide) rfl rfl rfl ?_
  exact V.wk
 | succ k=>
  dsimp only
  have hkk:(((k+1:Nat):Int)+1)=((k+1+1:Nat):Int):=by omega
  obtain⟨u,hu⟩:∃ u,u=xs.getD (2*(k+1)) 0:=⟨_,rfl⟩
  obtain⟨v,hv⟩:∃ v,v=xs.getD (2*(k+1)+1) 0:=⟨_,rfl⟩
  have ga:xs.getD (0+(k+1)*2+Int.toNat 0) 0=u:=by rw[hu,show 0+(k+1)*2+Int.toNat 0=2*(k+1) by simp;omega]
  have gb:xs.getD (0+(k+1)*2+Int.toNat 1) 0=v:=by rw[hv,show 0+(k+1)*2+Int.toNat 1=2*(k+1)+1 by simp;omega]
  have bu:=jdN hb (2*(k+1))
  have bv:=jdN hb (2*(k+1)+1)
  rw[← hu] at bu
  rw[← hv] at bv
  have hs:spL xs (k+1+1)=spL xs (k+1)++[(1000000000*min u v,1000000000*max u v)]:=by rw[hu,hv];rfl
  have hl:=spL_len xs (k+1)
  have he:k+1=(1+I%3).toNat→spL xs (k+1)=spL xs (1+I%3).toNat:=fun h=>by rw[← h]
  have hb2:bcl (spL xs (k+1+1))=bcl (spL xs (k+1))++[.int .i64 (1000000000*min u v),.int .i64 (1000000000*max u v)]:=by rw[hs,jbo];rfl
  generalize spL xs (k+1)=P at *
  have pg:=jaA P
  have pb:=jga P
  have bo:=jeX P
  rw[hl] at bo
  have hb:Nat.beq (bcl P).length ((k+1)*2)=true:=by rw[jaH,hl];exact Nat.beq_refl _
  have ht:Nat.ble (k+1+1) 1000000=true:=by rw[jih];omega
  have hf:∀ i,D.freeL i (bcl P++[.int .i64 (1000000000*min u v),.int .i64 (1000000000*max u v)])=true:=jay P _ _
  (conv=>whnf)
  (try simp only[jhS])
  repeat ((first|refine V.s1 ?_|((try ((with_reducible refine .ext ?_);(conv=>whnf);(try simp only[jhS])));(with_reducible refine jaa (r:=?_) ?_ ?_);rotate_left;(focus (first|fail));(conv=>whnf))|(((rewrite [pg];(conv=>whnf)));(conv=>whnf)));(try simp only[jhS]))
  refine V.br (fun hq=>?_) (fun hq=>?_)
  ·simp only[decide_eq_true_eq] at hq
   (conv=>whnf)
   (try simp only[jhS])
   repeat ((first|refine V.s1 ?_|((try ((with_reducible refine .ext ?_);(conv=>whnf);(try simp only[jhS])));(with_reducible refine jaa (r:=?_) ?_ ?_);rotate_left;(focus (first|fail));(conv=>whnf))|(((rewrite [pg];(conv=>whnf)));(conv=>whnf)));(try simp only[jhS]))
   refine⟨Pq2z,[],V.pok,.go (jab ?_)⟩
   (conv=>whnf)
   (try simp only[jhS,ga,gb,hkk])
   repeat ((first|refine V.s1 ?_|((try ((with_reducible refine .ext ?_);(conv=>whnf);(try simp only[jhS,ga,gb,hkk])));(with_reducible refine jaa (r:=?_) ?_ ?_);rotate_left;(focus (first|fail));(conv=>whnf))|(((rewrite [pg];(conv=>whnf)));(conv=>whnf))|(((simp only[hb,ht,jiB,hf];(conv=>whnf)));(conv=>whnf)));(try simp only[jhS,ga,gb,hkk]))
   refine⟨k+1+1,by omega,by omega,?_⟩
   dsimp only
   rw[hb2]
   refine Wk.renS 37 300 5 (k+1+1) 2 (by decide) (by decide) (hf _) rfl rfl ?_
   exact V.wk
  ·simp only[decide_eq_false_iff_not] at hq
   rw[← he (by omega)]
   have eo:oL P=sl2 (k+1) (bcl P):=by rw[show oL P=sl2 P.length (bcl P) from rfl,hl]
   rw[eo]
   (conv=>whnf)
   (try simp only[jhR])
   repeat ((first|refine V.s1 ?_|((try ((with_reducible refine .ext ?_);(conv=>whnf);(try simp only[jhR])));(with_reducible refine jaa (r:=?_) ?_ ?_);rotate_left;(focus (first|fail));(conv=>whnf))|(((rewrite [pg];(conv=>whnf)));(conv=>whnf))|(((rewrite [bo];(conv=>whnf)));(conv=>whnf))|(((rewrite [pb];(conv=>whnf)));(conv=>whnf)));(try simp only[jhR]))
   exact Fin.of rfl
end Go.Proofs.YtpkdedncgclblaaGreatDoor
end
