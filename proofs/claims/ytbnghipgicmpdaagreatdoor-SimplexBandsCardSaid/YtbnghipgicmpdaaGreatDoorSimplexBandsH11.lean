/- What functions of the program answer at given values, part 11. Conditions: those that each theorem names. -/
import Derived.Test.YtbnghipgicmpdaaGreatDoorSimplexBandsH10
import Derived.Test.YtbnghipgicmpdaaGreatDoorSimplexBandsH9
import Derived.Test.YtbnghipgicmpdaaGreatDoorSimplexBandsH8
import Derived.Test.YtbnghipgicmpdaaGreatDoorSimplexBandsH4
set_option linter.unusedSimpArgs false
set_option linter.unusedVariables false
set_option maxHeartbeats 8000000
set_option maxRecDepth 100000
section
namespace Go.Proofs.YtbnghipgicmpdaaGreatDoor
open Go Go.V Go.Nb Go.Gr
def sv4:Nat→D
 | 0 => .nil
 | k+1 => .bsl 34 0 (k+1) 1
def svH (U:Nat→List Int):Nat→Hp
 | 0=>[]
 | k+1=>[(34,.box (pce U (k+1)))]
theorem jfR (f:Nat→Int)(k:Nat):(List.range k).map f++[f k]=(List.range (k+1)).map f:=by
 rw[List.range_succ,List.map_append]
 rfl
theorem jjj:type_of% @jjF∧type_of% @jjC:=⟨@jjF,@jjC⟩
theorem rsteep_w (zs data:List Int)(out:Int)(n:Nat)(f:Nat→Nat→Int)(hz:zs.length=n)(hn:n≤4)(ho:1≤out∧out≤4)(ck:Cl 35 [.agg [Jj zs,Ji out,Jj data]] (.bool true))
  (st:∀ j i,j<out.toNat→i<n→Cl 59 [.agg [Jj zs,Ji out,Jj data],Ji (j:Nat),Ji (i:Nat)] (Ji (f j i))) :
  Cl 23 [.agg [Jj zs,Ji out,Jj data]] (.tup [.slf 1 out.toNat (fun j=>List.take 1 (List.drop (j*1) (pce (fun j=>(List.range n).map (f j)) out.toNat))),Ji 0]):=by
 have hzi:((zs.length:Nat):Int)=n:=Jo
 obtain⟨U,eU⟩:∃ U:Nat→List Int,(fun j=>(List.range n).map (f j))=U:=⟨_,rfl⟩
 rw[eU]
 refine V.en tbOk Tryz.func23 ?_
 refine V.r1 @jjC ck ?_
 refine jad (0:Nat) (fun j=>(j:Int)≤out) (fun j=>out.toNat-j) (fun j=>[(5,Ji (j:Nat)),(4,sv4 j)]) (fun j=>svH U j) ?_ ?_ ?_
 ·exact V.wk
 ·show ((0:Nat):Int)≤out
  omega
 intro j hj
 try dsimp only at hj ⊢
 by_cases hjo:(j:Int)<out
 ·have hlt:decide ((j:Int)<out)=true:=decide_eq_true hjo
  have hj4:j=0∨j=1∨j=2∨j=3:=Jo
  have ji:j<out.toNat:=Jo
  obtain⟨F,eF⟩:∃ F,f j=F:=⟨_,rfl⟩
  have sj:∀ i,i<n→Cl 59 [.agg [Jj zs,Ji out,Jj data],Ji (j:Nat),Ji (i:Nat)] (Ji (F i)):=fun i hi=>by rw[← eF];exact st j i ji hi
  obtain⟨u,eu⟩:∃ u,U j=u:=⟨_,rfl⟩
  have uF:(List.range n).map F=u:=by rw[← eu,← eU,← eF]
  have ul:u.length=n:=by rw[← uF];simp
  obtain⟨E,eE⟩:∃ E:Nat→List Int,E=fun k=>(List.range k).map F:=⟨_,rfl⟩
  have E0:[]=E 0:=by rw[eE];rfl
  have En:E n=u:=by rw[eE];exact uF
  have Es:∀ k,E k++[F k]=E (k+1):=fun k=>by rw[eE];exact jfR F k
  have El:∀ k,(E k).length=k:=fun k=>by rw[eE];simp
  clear eE uF eF eU
  rcases hj4 with rfl|rfl|rfl|rfl
  all_goals
   simp only[k0,k1,k2,k3,sv4,svH] at hlt sj ⊢
   refine V.r0 (V.a2 jjj hlt) ?_
   refine jbn (β:=Unit) 2 (fun _=>True) (fun _=>[(7,.any),(6,Jj u)]) (fun _=>[(30,.gone)]) ?_ ?_
   ·refine Lp.ghostSlot 30 6  .i64 Jd ?_
    (conv=>whnf)
    rw[E0]
    refine jad (0:Nat) (fun k=>k≤n) (fun k=>n-k) (fun k=>[(7,Ji (k:Nat)),(6,.osl 30 0 k)]) (fun k=>[(30,.arr .i64 (E k))]) ?_ ?_ ?_
    ·exact V.wk
    ·exact jjx _
    intro k hk
    try dsimp only at hk ⊢
    have hkc:((k:Int)+1)=((k+1:Nat):Int):=Jo
    have ek:=Es k
    have lk:=El k
    by_cases hkn:k<n
    ·have hlk:decide ((k:Int)<n)=true:=decide_eq_true Jo
     have sk:=sj k hkn
     have e1:List.take 1 (List.drop 0 [F k])=[F k]:=rfl
     have e2:k+[F k].length=k+1:=rfl
     (conv=>whnf)
     (try simp only[jjj,hzi,hlk,hkc,e1,e2,ek])
     repeat ((first|refine V.s1 ?_|((try ((with_reducible refine .ext ?_);(conv=>whnf);(try simp only[jjj,hzi,hlk,hkc,e1,e2,ek])));(with_reducible refine jaa (r:=?_) ?_ ?_);rotate_left;(focus (first|exact(sk)));(conv=>whnf)));(try simp only[jjj,hzi,hlk,hkc,e1,e2,ek]))
     exact⟨k+1,Jo,Jo,V.wk⟩
    ·have hlk:decide ((k:Int)<n)=false:=decide_eq_false Jo
     obtain rfl:k=n:=Jo
     refine V.r0 (V.a3 jjj hzi hlk) ?_
     rw[En]
     refine⟨(),trivial,?_⟩
     try dsimp only
     refine Wk.pub 30 ?_
     (conv=>whnf)
     have tu:List.take k u=u:=jko Jo
     simp only[tu,jjC,jku]
     exact V.wk
   intro _ _
   try dsimp only
   refine V.r0 jjj ?_
   rw[← eu]
   first|exact⟨1,Jo,Jo,V.wk⟩|exact⟨2,Jo,Jo,V.wk⟩|exact⟨3,Jo,Jo,V.wk⟩|exact⟨4,Jo,Jo,V.wk⟩
 ·have hlf:decide ((j:Int)<out)=false:=decide_eq_false hjo
  obtain rfl:out=(j:Int):=Jo
  rcases (show j=1∨j=2∨j=3∨j=4 by omega) with rfl|rfl|rfl|rfl
  all_goals
   simp only[sv4,svH]
   refine V.r0 (V.a2 jjj hlf) ?_
   exact Fin.of rfl
theorem rsteep_t {zs data:List Int}{out:Int}(hg:jaf zs out data=true)(hl:zs.length≤4) :
  Cl 23 [.agg [Jj zs,Ji out,Jj data]] (.tup [.slf 1 out.toNat (fun j=>List.take 1 (List.drop (j*1) (pce (outS zs data out zs.length) out.toNat))),Ji 0]):=by
 have hG:=jaT hg
 have og:=jaq hg
 obtain⟨ns,hn0,hn1,hn2⟩:=nz_of hG.2.2.2.2.1
 subst hn0
 have hlen:(nz ns).length=ns.length:=by simp[nz]
 have ck:Cl 35 [.agg [Jj (nz ns),Ji out,Jj data]] (.bool true):=by
  have c:=jcS (nz ns) out data Jo Jo
  rw[hg] at c
  exact c
 have hd:(data.length:Int)=(PR ns:Nat)*out:=by rw[og.2.2.1.2,jcV]
 have w:=rsteep_w (nz ns) data out ns.length (fun j i=>sdM (nz ns) data out ns i j (PR ns)*((nz ns).getD i 0-1)) hlen Jo og.1 ck (fun j i hj hi=>rsteep_c hg hi hj)
 have e:∀ m,m≤out.toNat→pce (fun j=>(List.range ns.length).map (fun i=>sdM (nz ns) data out ns i j (PR ns)*((nz ns).getD i 0-1))) m=pce (outS (nz ns) data out (nz ns).length) m:=fun m=>by
  induction m with
  | zero=>intro _;rfl
  | succ m ih=>
   intro hm
   simp only[pce]
   rw[ih Jo]
   congr 2
   congr 1
   apply List.ext_getElem
   ·rw[jeE];simp[nz]
   ·intro i h1 h2
    have s:=steep_is hn2 og.1.1 hd (j:=m) Jo (i:=i) (by simpa using h1)
    rw[jj8,jkb (by rw[jeE,hlen];simpa using h1)] at s
    simp only[List.getElem_map,List.getElem_range]
    rw[← s]
    simp only[hlen,Option.getD_some]
 rw[e _ (jjG _)] at w
 exact w
end Go.Proofs.YtbnghipgicmpdaaGreatDoor
end
section
namespace Go.Proofs.YtbnghipgicmpdaaGreatDoor
open Go Go.V Go.Nb
theorem raround_q {n:Nat}{x:Rat}(h:Fq n x)(h0:0<n∧n≤600)(hb : -100000≤x∧x≤100000):Cl 111 [frT x] (.tup [.agg [Ji (flU x),Ji (clU x)],Ji 0]):=by
 have o:=jaE (h.ok h0.1 h0.2)
 have a:=jhS hb
 have c:=around_r (decZ x.num) (dec x.den) (by have:=(jaH o.1).1;omega) (by have:=(jaH o.1).2;omega)
 unfold jiJ at c
 rw[if_pos o.1,← aroundR_eq,o.2,a.1] at c
 exact c
theorem jcw {n:Nat}{x:Rat}(h:Fq n x)(h0:0<n∧n≤600)(hb : -100000≤x∧x≤100000):Cl 57 [frT x] (.agg [Ji (flU x),Ji (clU x)]):=by
 have c:=raround_q h h0 hb
 unfold frT at *
 generalize flU x=p at *
 generalize clU x=q at *
 refine V.en tbOk Tryz.func57 ?_
 refine V.u1 c ?_
 exact Fin.of rfl
theorem smF_div (P:Nat→Rat)(c:Rat):∀ k,smF (fun i=>P i/c) k=smF P k/c
 | 0=>rfl
 | k+1=>by
  simp only[smF]
  rw[smF_div P c k,Rat.div_def,Rat.div_def,Rat.div_def,Rat.add_mul]
theorem jhl {P Q:Nat→Rat} : ∀ k,(∀ i,i≤k→P i=Q i)→smF P k=smF Q k
 | 0,h=>h 0 (jjG 0)
 | k+1,h=>by
  simp only[smF]
  rw[jhl k (fun i hi=>h i Jo),h (k+1) (jjG _)]
theorem spr_sum (zs data:List Int)(out:Int)(n:Nat)(X:Nat→Int×Int)(j:Nat)(hn:1≤n):sQ (fun i=>Rat.divInt ((outS zs data out zs.length j).getD i 0) 65535*halB (X i)) n=sprQ zs data out n X j:=by
 obtain⟨k,rfl⟩:∃ k,n=k+1:=⟨n-1,Jo⟩
 show smF _ k=smF _ k/65535
 rw[← smF_div]
 refine jhl k fun i _=>?_
 rw[divF]
 grind
theorem bce_a (B:Nat→Int×Int):∀ n k,k<n→List.take 2 (List.drop (k*2) (bce B n))=[Ji (B k).1,Ji (B k).2]
 | 0,k,h=>absurd h (Nat.not_lt_zero _)
 | n+1,k,h=>by
  have hl:∀ n,(bce B n).length=n*2:=fun n=>by
   induction n with
   | zero=>rfl
   | succ n ih=>simp only[bce,jkd,ih];simp;omega
  rw[bce]
  rcases jjO k n with g|g
  ·have ih:=bce_a B n k g
   rw[jkm (by rw[hl];omega),jkl (by rw[jkt,hl];omega),ih]
  ·have:k=n:=Jo
   subst this
   rw[List.drop_append,jkq (by rw[hl];omega),hl,Nat.sub_self]
   rfl
theorem argB {f:Nat}{g a a' r:D}(h:Cl f [g,a] r)(A:_root_.Go.V.Fin a a'):Cl f [g,a'] r:=Called.arg (show FinL [g,a] [g,a'] from ⟨Fin.same _,A,trivial⟩) h
def rc6:Nat→D
 | 0 => .nil
 | k+1 => .bsl 73 0 (k+1) 2
def rc7:Nat→D
 | 0 => .nil
 | k+1 => .bsl 80 0 (k+1) 2
def rcH (M H:Nat→Tx):Nat→Hp
 | 0=>[]
 | k+1=>[(73,.box (wce M (k+1))),(80,.box (wce H (k+1)))]
def rc19:Nat→D
 | 0 => .nil
 | k+1 => .bsl 184 0 (k+1) 2
def rcB (B:Nat→Int×Int):Nat→Hp
 | 0=>[]
 | k+1=>[(184,.box (bce B (k+1)))]
theorem rbands_b (zs data:List Int)(out:Int)(n:Nat)(X:Nat→List D)(ck:Cl 35 [.agg [Jj zs,Ji out,Jj data]] (.bool false)) :
  Cl 20 [.agg [Jj zs,Ji out,Jj data],.slf 2 n X] (.tup [.nil,Ji 100]):=by
 refine V.en tbOk Tryz.func20 ?_
 refine V.r1 @jjC ck ?_
 exact Fin.of rfl
theorem rbands_len (zs data:List Int)(out:Int)(n:Nat)(X:Nat→List D)(h:n≠zs.length)(ck:Cl 35 [.agg [Jj zs,Ji out,Jj data]] (.bool true)) :
  Cl 20 [.agg [Jj zs,Ji out,Jj data],.slf 2 n X] (.tup [.nil,Ji 2]):=by
 refine V.en tbOk Tryz.func20 ?_
 refine V.r1 @jjC ck ?_
 refine Cnd.yes (decide_eq_true (show ((n:Int)≠(zs.length:Int)) from Jo)) ?_
 refine V.r0 @jjC ?_
 exact Fin.of rfl
theorem jiO:type_of% @jjF∧type_of% @jjC∧type_of% @tn0∧type_of% @tn1∧type_of% @tn2∧type_of% @tn3:=⟨@jjF,@jjC,@tn0,@tn1,@tn2,@tn3⟩
theorem rbands_cb {zs data:List Int}{out e:Int}{n m:Nat}(hn:n≤3)(hm:m<n)(hz:n=zs.length)(he:e≠0)(X:Nat→Int×Int)(M H:Nat→Tx)(ck:Cl 35 [.agg [Jj zs,Ji out,Jj data]] (.bool true))
  (cc:∀ i,i<m→Cl 55 [.agg [Ji (X i).1,Ji (X i).2]] (Ji 0)) (bad:Cl 55 [.agg [Ji (X m).1,Ji (X m).2]] (Ji e))
  (cm:∀ i,i<n→Cl 39 [Ji (clI (X i).1+clI (X i).2),Ji 2000000000000] (Jt (M i)))
  (ch:∀ i,i<n→Cl 39 [Ji (clI (X i).2-clI (X i).1),Ji 2000000000000] (Jt (H i)))
  : Cl 20 [.agg [Jj zs,Ji out,Jj data],.slf 2 n (fun j=>[Ji (X j).1,Ji (X j).2])] (.tup [.nil,Ji e]):=by
 have hne:decide (e≠0)=true:=decide_eq_true he
 refine V.en tbOk Tryz.func20 ?_
 refine V.r1 @jjC ck ?_
 refine Cnd.no (decide_eq_false (show ¬ ((n:Int)≠(zs.length:Int)) by omega)) ?_
 refine V.r0 @jjC ?_
 refine jad (0:Nat) (fun k=>k≤m) (fun k=>m-k) (fun k=>[(8,Ji (k:Nat)),(6,rc6 k),(7,rc7 k)]) (fun k=>rcH M H k) ?_ ?_ ?_
 ·exact V.wk
 ·exact jjx _
 intro k hk
 try dsimp only at hk ⊢
 rcases (show k=0∨k=1∨k=2 by omega) with rfl|rfl|rfl
 ·simp only[k0,rc6,rc7,rcH]
  by_cases hkn:0<m
  ·have hlt:decide ((0:Int)<n)=true:=decide_eq_true Jo
   have d0:=cc 0 Jo
   have d1:=cm 0 Jo
   have d2:=ch 0 Jo
   have b1:=jam (X 0).1
   have b2:=jam (X 0).2
   unfold clI at d1 d2 b1 b2
   refine V.r1 (V.a2 jiO hlt) d0 ?_
   refine⟨Pq7z,[],V.pok,.go (jac ?_)⟩
   refine V.r2 (V.a2 jiO hlt) d1 d2 ?_
   exact⟨1,Jo,Jo,V.wk⟩
  ·obtain rfl:m=0:=Jo
   have hlt:decide ((0:Int)<n)=true:=decide_eq_true Jo
   refine V.r1 (V.a3 jiO hlt hne) bad ?_
   exact Fin.of rfl
 ·simp only[k1,rc6,rc7,rcH]
  by_cases hkn:1<m
  ·have hlt:decide ((1:Int)<n)=true:=decide_eq_true Jo
   have d0:=cc 1 Jo
   have d1:=cm 1 Jo
   have d2:=ch 1 Jo
   have b1:=jam (X 1).1
   have b2:=jam (X 1).2
   unfold clI at d1 d2 b1 b2
   refine V.r1 (V.a2 jiO hlt) d0 ?_
   refine⟨Pq7z,[],V.pok,.go (jac ?_)⟩
   refine V.r2 (V.a2 jiO hlt) d1 d2 ?_
   exact⟨2,Jo,Jo,V.wk⟩
  ·obtain rfl:m=1:=Jo
   have hlt:decide ((1:Int)<n)=true:=decide_eq_true Jo
   refine V.r1 (V.a3 jiO hlt hne) bad ?_
   exact Fin.of rfl
 ·simp only[k2,rc6,rc7,rcH]
  obtain rfl:m=2:=Jo
  have hlt:decide ((2:Int)<n)=true:=decide_eq_true Jo
  refine V.r1 (V.a3 jiO hlt hne) bad ?_
  exact Fin.of rfl
theorem rbands_t {zs data lo hi:List Int}{out:Int}{n:Nat}(hn:1≤n∧n≤3)(hz:n=zs.length)(ho:1≤out∧out≤4)(X:Nat→Int×Int)(M H Y U O L Kt:Nat→Tx)(T:Nat→List Int)(S I P:Nat→Nat→Tx)(zero:Tx)(au ao al ak:Nat→Int×Int)(hT:∀ j,(T j).length=n)(hlo:lo.length=out.toNat)(hhi:hi.length=out.toNat)(s0:∀ j,S j 0=zero)(ck:Cl 35 [.agg [Jj zs,Ji out,Jj data]] (.bool true))
  (cc:∀ i,i<n→Cl 55 [.agg [Ji (X i).1,Ji (X i).2]] (Ji 0))
  (cm:∀ i,i<n→Cl 39 [Ji (clI (X i).1+clI (X i).2),Ji 2000000000000] (Jt (M i)))
  (ch:∀ i,i<n→Cl 39 [Ji (clI (X i).2-clI (X i).1),Ji 2000000000000] (Jt (H i)))
  (ev:Cl 14 [.agg [Jj zs,Ji out,Jj data],.slf 2 n (fun j=>[.str (M j).1,.str (M j).2])] (.tup [.slf 2 out.toNat (fun j=>[.str (Y j).1,.str (Y j).2]),Ji 0]))
  (st:Cl 23 [.agg [Jj zs,Ji out,Jj data]] (.tup [.slf 1 out.toNat (fun j=>[Jj (T j)]),Ji 0]))
  (rg:Cl 56 [.agg [Jj zs,Ji out,Jj data]] (.tup [Jj lo,Jj hi,Ji 0]))
  (cz:Cl 39 [Ji 0,Ji 1] (Jt zero))
  (ci:∀ j i,j<out.toNat→i<n→Cl 39 [Ji ((T j).getD i 0),Ji 65535] (Jt (I j i)))
  (cp:∀ j i,j<out.toNat→i<n→Cl 37 [Jt (I j i),Jt (H i)] (.tup [Jt (P j i),Ji 0]))
  (ca:∀ j i,j<out.toNat→i<n→Cl 45 [Jt (S j i),Jt (P j i)] (.tup [Jt (S j (i+1)),Ji 0]))
  (cu:∀ j,j<out.toNat→Cl 41 [Jt (Y j),Jt (S j n)] (.tup [Jt (U j),Ji 0]))
  (co:∀ j,j<out.toNat→Cl 45 [Jt (Y j),Jt (S j n)] (.tup [Jt (O j),Ji 0]))
  (cl:∀ j,j<out.toNat→Cl 39 [Ji (lo.getD j 0),Ji 65535] (Jt (L j)))
  (ck2:∀ j,j<out.toNat→Cl 39 [Ji (hi.getD j 0),Ji 65535] (Jt (Kt j)))
  (ru:∀ j,j<out.toNat→Cl 57 [Jt (U j)] (.agg [Ji (au j).1,Ji (au j).2]))
  (ro:∀ j,j<out.toNat→Cl 57 [Jt (O j)] (.agg [Ji (ao j).1,Ji (ao j).2]))
  (rl:∀ j,j<out.toNat→Cl 57 [Jt (L j)] (.agg [Ji (al j).1,Ji (al j).2]))
  (rk:∀ j,j<out.toNat→Cl 57 [Jt (Kt j)] (.agg [Ji (ak j).1,Ji (ak j).2])) :
  Cl 20 [.agg [Jj zs,Ji out,Jj data],.slf 2 n (fun j=>[Ji (X j).1,Ji (X j).2])] (.tup [slB (fun j=>(max (au j).1 (al j).1,min (ao j).2 (ak j).2)) out.toNat,Ji 0]):=by
 obtain⟨B,hB⟩:∃ B:Nat→Int×Int,B=fun j=>(max (au j).1 (al j).1,min (ao j).2 (ak j).2):=⟨_,rfl⟩
 have Bj:∀ j,(B j).1=max (au j).1 (al j).1∧(B j).2=min (ao j).2 (ak j).2:=fun j=>by rw[hB];exact⟨rfl,rfl⟩
 rw[← hB]
 clear hB
 have mat:∀ j,j<n→List.take 2 (List.drop (j*2) (wce M n))=[.str (M j).1,.str (M j).2]:=fun j hj=>jhr M n j hj
 have hat:∀ j,j<n→List.take 2 (List.drop (j*2) (wce H n))=[.str (H j).1,.str (H j).2]:=fun j hj=>jhr H n j hj
 have evc:Cl 14 [.agg [Jj zs,Ji out,Jj data],V.sl2 n (wce M n)] (.tup [.slf 2 out.toNat (fun j=>[.str (Y j).1,.str (Y j).2]),Ji 0]):=argB ev (jbk mat)
 refine V.en tbOk Tryz.func20 ?_
 refine V.r1 @jjC ck ?_
 refine Cnd.no (decide_eq_false (show ¬ ((n:Int)≠(zs.length:Int)) by omega)) ?_
 refine V.r0 @jjC ?_
 refine jbn (β:=Unit) 0 (fun _=>True) (fun _=>[(8,.any),(6,V.sl2 n (wce M n)),(7,V.sl2 n (wce H n))]) (fun _=>[(73,.gone),(80,.gone)]) ?_ ?_
 rotate_left
 ·intro _ _
  try dsimp only
  refine V.r3 jiO evc st rg ?_
  refine jad (0:Nat) (fun j=>(j:Int)≤out) (fun j=>out.toNat-j) (fun j=>[(20,Ji (j:Nat)),(19,rc19 j)]) (fun j=>rcB B j) ?_ ?_ ?_
  ·exact V.wk
  ·show ((0:Nat):Int)≤out
   omega
  intro j hj
  try dsimp only at hj ⊢
  by_cases hjo:(j:Int)<out
  ·have hlt:decide ((j:Int)<out)=true:=decide_eq_true hjo
   have ji:j<out.toNat:=Jo
   have hTj:=hT j
   have BJ:=Bj j
   have xi:=fun i hi=>ci j i ji hi
   have xp:=fun i hi=>cp j i ji hi
   have xa:=fun i hi=>ca j i ji hi
   have xu:=cu j ji
   have xo:=co j ji
   have xl:=cl j ji
   have xk:=ck2 j ji
   have yu:=ru j ji
   have yo:=ro j ji
   have yl:=rl j ji
   have yk:=rk j ji
   have z0:=s0 j
   obtain⟨Sj,hSj⟩:∃ f,S j=f:=⟨_,rfl⟩
   obtain⟨Pj,hPj⟩:∃ f,P j=f:=⟨_,rfl⟩
   obtain⟨Ij,hIj⟩:∃ f,I j=f:=⟨_,rfl⟩
   obtain⟨Uj,hUj⟩:∃ f,U j=f:=⟨_,rfl⟩
   obtain⟨Oj,hOj⟩:∃ f,O j=f:=⟨_,rfl⟩
   obtain⟨uj,huj⟩:∃ f,au j=f:=⟨_,rfl⟩
   obtain⟨oj,hoj⟩:∃ f,ao j=f:=⟨_,rfl⟩
   obtain⟨lj,hlj⟩:∃ f,al j=f:=⟨_,rfl⟩
   obtain⟨kj,hkj⟩:∃ f,ak j=f:=⟨_,rfl⟩
   simp only[hSj,hPj,hIj,hUj,hOj,huj,hoj,hlj,hkj] at xi xp xa xu xo z0 yu yo yl yk BJ
   rw[← z0] at cz
   rcases (show j=0∨j=1∨j=2∨j=3 by omega) with rfl|rfl|rfl|rfl
   all_goals
    simp only[k0,k1,k2,k3,rc19,rcB] at hlt ⊢
    refine V.r1 (V.a2 jiO hlt) cz ?_
    refine jad (0:Nat) (fun i=>i≤n) (fun i=>n-i) (fun i=>[(22,Ji (i:Nat))]) (fun i=>[(21,.box [.str (Sj i).1,.str (Sj i).2])]) ?_ ?_ ?_
    ·exact V.wk
    ·exact jjx _
    intro i hi
    try dsimp only at hi ⊢
    have hic:((i:Int)+1)=((i+1:Nat):Int):=Jo
    by_cases hin:i<n
    ·have hli:decide ((i:Int)<n)=true:=decide_eq_true Jo
     have wi:=xi i hin
     have wp:=xp i hin
     have wa:=xa i hin
     have e2:=hat i hin
     have hin2:0≤(i:Int)∧(i:Int)<n:=Jo
     refine V.r0 (V.a3 jiO hli hic) ?_
     refine⟨(V.tk [0,1,2,3,4,5,6,8,9,10,11] (.ev (.cons 7 [11,10,9,8] (.ev (.cons 12 [] (V.tk [13,14,15] (V.e1 16 [15,14,13] (V.e1 17 [15] (V.tk [18] .done)))) (.cons 16 [11,10,9,8] (V.e1 12 [] (V.tk [13,14,15] (V.e1 17 [15] (V.tk [18] .done)))) .nil))) (.cons 16 [11,10,9,8,6,5,4,3,2,1,0] (V.e1 7 [11,10,9,8] (V.e1 12 [] (V.tk [13,14,15] (V.e1 17 [15] (V.tk [18] .done))))) .nil)))),[],V.pok,?_⟩
     refine jab [(23,.box 23 0),(24,Ji 0)] [(23,.box [.str (Pj i).1,.str (Pj i).2])] ?_ ?_
     ·(conv=>whnf);(try simp only[jiO,e2])
      repeat' (first|exact V.wk|((with_reducible refine And.intro ?_ jaz);(conv=>whnf);(try simp only[jiO,e2]))|((with_reducible first|refine jas ?_ ?_|refine jau ?_ ?_)<;>(conv=>whnf);(try simp only[jiO,e2]))|((first|refine V.s1 ?_|((with_reducible refine jal ?_ ?_);(focus ((conv=>whnf);(try simp only[jiO,e2]);(repeat ((first|refine V.s1 ?_|((refine And.intro (fun _=>hin2) ?_);(conv=>whnf)));(try simp only[jiO,e2])));exact⟨rfl⟩));(conv=>whnf))|((try ((with_reducible refine .ext ?_);(conv=>whnf);(try simp only[jiO,e2])));(with_reducible refine jaa (r:=?_) ?_ ?_);rotate_left;(focus (first|exact(wi)|exact(wp)));(conv=>whnf))|((refine And.intro (fun _=>hin2) ?_);(conv=>whnf)));(try simp only[jiO,e2]))|(refine And.intro ?_ ?_<;>(conv=>whnf);(try simp only[jiO,e2])))
     refine V.r1 (V.a2 jiO hic) wa ?_
     exact⟨i+1,Jo,Jo,V.wk⟩
    ·have hli:decide ((i:Int)<n)=false:=decide_eq_false Jo
     obtain rfl:i=n:=Jo
     refine V.r0 (V.a2 jiO hli) ?_
     refine⟨Pq45z,[],V.pok,?_⟩
     refine jab [(25,.box 25 0),(26,Ji 0)] [(25,.box [.str Uj.1,.str Uj.2])] ?_ ?_
     ·exact V.d1 jiO xu
     refine V.r0 jiO ?_
     refine⟨Pq45z,[],V.pok,?_⟩
     refine jab [(27,.box 27 0),(28,Ji 0)] [(27,.box [.str Oj.1,.str Oj.2])] ?_ ?_
     ·exact V.d1 jiO xo
     refine V.r0 jiO ?_
     refine⟨(V.tk [0,3] (.ev (.cons 1 [3] (V.tk [2] (.ev (.cons 4 [2] (V.tk [5,6] (V.e1 7 [6,5,2] (V.e1 8 [] .done))) (.cons 7 [2,3] (V.e1 4 [2] (V.tk [5,6] (V.e1 8 [] .done))) .nil)))) (.cons 7 [3,0] (V.e1 1 [3] (V.tk [2] (V.e1 4 [2] (V.tk [5,6] (V.e1 8 [] .done))))) .nil)))),[],V.pok,?_⟩
     refine jab [(29,.box 29 0)] [(29,.box [Ji uj.1,Ji oj.2])] ?_ ?_
     ·exact V.d2 jiO yu yo
     refine V.r0 jiO ?_
     refine⟨(V.tk [0,1,2,3,4,5,6,11,12,13,14,15,16] (V.e1 7 [16,15,14,13,12,11,2,1,0] (V.e1 8 [16,15,14,13,12,11,2,1,0] (V.tk [9,10] (V.e1 17 [10,9,12,11,2,1,0] (V.e1 18 [10,9,12,11,2,1,0] (V.tk [19,20,21] (V.e1 22 [0] (V.e1 23 [] (V.e1 24 [] .done)))))))))),[],V.pok,.go (jac ?_)⟩
     (conv=>whnf)
     (try simp only[jiO,← BJ.1,← BJ.2])
     repeat ((first|refine V.s1 ?_|((with_reducible refine jal ?_ ?_);(focus ((conv=>whnf);(try simp only[jiO,← BJ.1,← BJ.2]);(repeat ((first|refine V.s1 ?_);(try simp only[jiO,← BJ.1,← BJ.2])));exact⟨rfl⟩));(conv=>whnf))|((try ((with_reducible refine .ext ?_);(conv=>whnf);(try simp only[jiO,← BJ.1,← BJ.2])));(with_reducible refine jaa (r:=?_) ?_ ?_);rotate_left;(focus (first|exact(xl)|exact(yl)|exact(xk)|exact(yk)));(conv=>whnf)));(try simp only[jiO,← BJ.1,← BJ.2]))
     first|exact⟨1,Jo,Jo,V.wk⟩|exact⟨2,Jo,Jo,V.wk⟩|exact⟨3,Jo,Jo,V.wk⟩|exact⟨4,Jo,Jo,V.wk⟩
  ·have hlf:decide ((j:Int)<out)=false:=decide_eq_false hjo
   obtain rfl:out=(j:Int):=Jo
   rcases (show j=1∨j=2∨j=3∨j=4 by omega) with rfl|rfl|rfl|rfl
   all_goals
    simp only[rc19,rcB]
    refine V.r0 (V.a2 jiO hlf) ?_
    exact Fin.of rfl
 refine jad (0:Nat) (fun k=>k≤n) (fun k=>n-k) (fun k=>[(8,Ji (k:Nat)),(6,rc6 k),(7,rc7 k)]) (fun k=>rcH M H k) ?_ ?_ ?_
 ·exact V.wk
 ·exact jjx _
 intro k hk
 try dsimp only at hk ⊢
 rcases (show k=0∨k=1∨k=2∨k=3 by omega) with rfl|rfl|rfl|rfl
 ·simp only[k0,rc6,rc7,rcH]
  by_cases hkn:0<n
  ·have hlt:decide ((0:Int)<n)=true:=decide_eq_true Jo
   have d0:=cc 0 Jo
   have d1:=cm 0 Jo
   have d2:=ch 0 Jo
   have b1:=jam (X 0).1
   have b2:=jam (X 0).2
   unfold clI at d1 d2 b1 b2
   refine V.r1 (V.a2 jiO hlt) d0 ?_
   refine⟨Pq7z,[],V.pok,.go (jac ?_)⟩
   refine V.r2 (V.a2 jiO hlt) d1 d2 ?_
   exact⟨1,Jo,Jo,V.wk⟩
  ·have hlf:decide ((0:Int)<n)=false:=decide_eq_false Jo
   omega
 ·simp only[k1,rc6,rc7,rcH]
  by_cases hkn:1<n
  ·have hlt:decide ((1:Int)<n)=true:=decide_eq_true Jo
   have d0:=cc 1 Jo
   have d1:=cm 1 Jo
   have d2:=ch 1 Jo
   have b1:=jam (X 1).1
   have b2:=jam (X 1).2
   unfold clI at d1 d2 b1 b2
   refine V.r1 (V.a2 jiO hlt) d0 ?_
   refine⟨Pq7z,[],V.pok,.go (jac ?_)⟩
   refine V.r2 (V.a2 jiO hlt) d1 d2 ?_
   exact⟨2,Jo,Jo,V.wk⟩
  ·have hlf:decide ((1:Int)<n)=false:=decide_eq_false Jo
   obtain rfl:n=1:=Jo
   refine V.r0 (V.a2 jiO hlf) ?_
   refine⟨(),trivial,?_⟩
   try dsimp only
   refine Wk.pub 73 ?_
   (conv=>whnf)
   refine Wk.pub 80 ?_
   (conv=>whnf)
   simp only[jjC]
   exact V.wk
 ·simp only[k2,rc6,rc7,rcH]
  by_cases hkn:2<n
  ·have hlt:decide ((2:Int)<n)=true:=decide_eq_true Jo
   have d0:=cc 2 Jo
   have d1:=cm 2 Jo
   have d2:=ch 2 Jo
   have b1:=jam (X 2).1
   have b2:=jam (X 2).2
   unfold clI at d1 d2 b1 b2
   refine V.r1 (V.a2 jiO hlt) d0 ?_
   refine⟨Pq7z,[],V.pok,.go (jac ?_)⟩
   refine V.r2 (V.a2 jiO hlt) d1 d2 ?_
   exact⟨3,Jo,Jo,V.wk⟩
  ·have hlf:decide ((2:Int)<n)=false:=decide_eq_false Jo
   obtain rfl:n=2:=Jo
   refine V.r0 (V.a2 jiO hlf) ?_
   refine⟨(),trivial,?_⟩
   try dsimp only
   refine Wk.pub 73 ?_
   (conv=>whnf)
   refine Wk.pub 80 ?_
   (conv=>whnf)
   simp only[jjC]
   exact V.wk
 ·simp only[k3,rc6,rc7,rcH]
  by_cases hkn:3<n
  ·have hlt:decide ((3:Int)<n)=true:=decide_eq_true Jo
   have d0:=cc 3 Jo
   have d1:=cm 3 Jo
   have d2:=ch 3 Jo
   have b1:=jam (X 3).1
   have b2:=jam (X 3).2
   unfold clI at d1 d2 b1 b2
   refine V.r1 (V.a2 jiO hlt) d0 ?_
   refine⟨Pq7z,[],V.pok,.go (jac ?_)⟩
   refine V.r2 (V.a2 jiO hlt) d1 d2 ?_
   exact⟨4,Jo,Jo,V.wk⟩
  ·have hlf:decide ((3:Int)<n)=false:=decide_eq_false Jo
   obtain rfl:n=3:=Jo
   refine V.r0 (V.a2 jiO hlf) ?_
   refine⟨(),trivial,?_⟩
   try dsimp only
   refine Wk.pub 73 ?_
   (conv=>whnf)
   refine Wk.pub 80 ?_
   (conv=>whnf)
   simp only[jjC]
   exact V.wk
theorem jgp {n i:Nat}(hi:i<n)(X:Nat→Int×Int){a b e:Int}(c:Cl 50 [.agg [Ji (X i).1,Ji (X i).2],Ji 0,Ji 1000000000000] (.tup [.agg [Ji a,Ji b],Ji e])) :
  Cl 49 (Ji (i:Nat)::[.ref [.slf 2 n (fun j=>[Ji (X j).1,Ji (X j).2])]]) (.tup [.agg [Ji a,Ji b],Ji e]):=by
 refine V.en tbOk Tryz.func49 ?_
 refine V.r1 (V.a2 @jjF @jjC) c ?_
 exact Fin.of rfl
theorem listB_err {F e0 n0:Nat}{f0:Nat→List D}{n k:Nat}(hn:n≤3)(hk:k<n)(T:Nat→Int×Int)(ok:∀ j:Nat,j<k→Cl F (Ji (j:Nat)::[.ref [.slf e0 n0 f0]]) (.tup [.agg [Ji (T j).1,Ji (T j).2],Ji 0]))
  (bad:Cl F (Ji (k:Nat)::[.ref [.slf e0 n0 f0]]) (.tup [.agg [Ji 0,Ji 0],Ji 30])) :
  Cl 48 [Ji (n:Nat),.fn F [] [.ref [.slf e0 n0 f0]]] (.tup [.nil,Ji 30]):=by
 rcases (show n=1∨n=2∨n=3 by omega) with rfl|rfl|rfl
 ·simp only[k1]
  refine V.en tbOk Tryz.func48 ?_
  refine V.r0 @jjC ?_
  refine jad (0:Nat) (fun j=>j≤k) (fun j=>k-j) (fun j=>[(14,Ji (j:Nat))]) (fun j=>[(11,.box (preI (2*j) [Ji (T 0).1,Ji (T 0).2]))]) ?_ ?_ ?_
  ·exact V.wk
  ·exact jjx _
  intro j hj
  try dsimp only at hj ⊢
  rcases (show j=0 by omega) with rfl
  ·simp only[k0]
   by_cases e:k=0
   ·subst e
    refine V.r1 @jjC bad ?_
    exact Fin.of rfl
   ·omega
 ·simp only[k2]
  refine V.en tbOk Tryz.func48 ?_
  refine V.r0 @jjC ?_
  refine jad (0:Nat) (fun j=>j≤k) (fun j=>k-j) (fun j=>[(14,Ji (j:Nat))]) (fun j=>[(11,.box (preI (2*j) [Ji (T 0).1,Ji (T 0).2,Ji (T 1).1,Ji (T 1).2]))]) ?_ ?_ ?_
  ·exact V.wk
  ·exact jjx _
  intro j hj
  try dsimp only at hj ⊢
  rcases (show j=0∨j=1 by omega) with rfl|rfl
  ·simp only[k0]
   by_cases e:k=0
   ·subst e
    refine V.r1 @jjC bad ?_
    exact Fin.of rfl
   ·have c:=ok 0 Jo
    refine V.r1 @jjC c ?_
    exact⟨1,Jo,Jo,V.wk⟩
  ·simp only[k1]
   by_cases e:k=1
   ·subst e
    refine V.r1 @jjC bad ?_
    exact Fin.of rfl
   ·omega
 ·simp only[k3]
  refine V.en tbOk Tryz.func48 ?_
  refine V.r0 @jjC ?_
  refine jad (0:Nat) (fun j=>j≤k) (fun j=>k-j) (fun j=>[(14,Ji (j:Nat))]) (fun j=>[(11,.box (preI (2*j) [Ji (T 0).1,Ji (T 0).2,Ji (T 1).1,Ji (T 1).2,Ji (T 2).1,Ji (T 2).2]))]) ?_ ?_ ?_
  ·exact V.wk
  ·exact jjx _
  intro j hj
  try dsimp only at hj ⊢
  rcases (show j=0∨j=1∨j=2 by omega) with rfl|rfl|rfl
  ·simp only[k0]
   by_cases e:k=0
   ·subst e
    refine V.r1 @jjC bad ?_
    exact Fin.of rfl
   ·have c:=ok 0 Jo
    refine V.r1 @jjC c ?_
    exact⟨1,Jo,Jo,V.wk⟩
  ·simp only[k1]
   by_cases e:k=1
   ·subst e
    refine V.r1 @jjC bad ?_
    exact Fin.of rfl
   ·have c:=ok 1 Jo
    refine V.r1 @jjC c ?_
    exact⟨2,Jo,Jo,V.wk⟩
  ·simp only[k2]
   by_cases e:k=2
   ·subst e
    refine V.r1 @jjC bad ?_
    exact Fin.of rfl
   ·omega
theorem bands_b (zs data lo hi:List Int)(out:Int)(n:Nat)(X:Nat→List D)(gr:Cl 47 [.agg [Jj zs,Ji out,Jj data]] (.tup [Jj lo,Jj hi,Ji 100])) :
  Cl 19 [.agg [Jj zs,Ji out,Jj data],.slf 2 n X] (.tup [.nil,Ji 100]):=by
 refine V.en tbOk Tryz.func19 ?_
 refine V.r1 @jjC gr ?_
 exact Fin.of rfl
theorem bands_ln (zs data lo hi:List Int)(out:Int)(n:Nat)(X:Nat→List D)(h:n≠zs.length)(gr:Cl 47 [.agg [Jj zs,Ji out,Jj data]] (.tup [Jj lo,Jj hi,Ji 0])) :
  Cl 19 [.agg [Jj zs,Ji out,Jj data],.slf 2 n X] (.tup [.nil,Ji 2]):=by
 refine V.en tbOk Tryz.func19 ?_
 refine V.r1 @jjC gr ?_
 refine Cnd.yes (decide_eq_true (show ((n:Int)≠(zs.length:Int)) from Jo)) ?_
 refine V.r0 @jjC ?_
 exact Fin.of rfl
theorem bands_li (zs data lo hi:List Int)(out:Int)(n:Nat)(X:Nat→List D)(h:n=zs.length)(gr:Cl 47 [.agg [Jj zs,Ji out,Jj data]] (.tup [Jj lo,Jj hi,Ji 0]))
  (li:Cl 48 [Ji (n:Nat),.fn 49 [] [.ref [.slf 2 n X]]] (.tup [.nil,Ji 30])) :
  Cl 19 [.agg [Jj zs,Ji out,Jj data],.slf 2 n X] (.tup [.nil,Ji 30]):=by
 refine V.en tbOk Tryz.func19 ?_
 refine V.r1 @jjC gr ?_
 refine Cnd.no (decide_eq_false (show ¬ ((n:Int)≠(zs.length:Int)) by omega)) ?_
 refine V.r1 @jjC li ?_
 exact Fin.of rfl
theorem bandp1 {z0 out:Int}{data:List Int}(hg:jaf [z0] out data=true)(ho3:out≤3)(X:Nat→Int×Int)(hX:∀ i,i<1→vb (X i).1 (X i).2=true) :
  Cl 19 [gridD [z0] out data,slB X 1] (.tup [slB (fun j=>confB (evQ [z0] out data (midB (X 0)) 0 0 j) (sprQ [z0] data out 1 X j) (Rat.divInt ((loL out data).getD j 0) 65535) (Rat.divInt ((hiL out data).getD j 0) 65535)) out.toNat,Ji 0]):=by
 have og:=jaq hg
 have so:=jcf (out:=out) og.2.2.2 og.2.1 1 (jjG _)
 have rl:=jf3 hg
 have li:=blist1a (F:=49) (fun i=>(clI (X i).1,clI (X i).2)) (bands1_10 X (clI (X 0).1,clI (X 0).2) (jcG (hX 0 Jd)))
 have fm0:=(jbv (X 0)).mono (show 14≤40 by decide)
 have om:∀ i,i<1→Cl 51 [Ji (clI (X i).1+clI (X i).2),Ji 2000000000000] (frT (midB (X i))):=fun i _=>jbD (by have:=jam (X i).1;have:=jam (X i).2;omega) Jd
 have oh:∀ i,i<1→Cl 51 [Ji (clI (X i).2-clI (X i).1),Ji 2000000000000] (frT (halB (X i))):=fun i _=>jbD (by have:=jam (X i).1;have:=jam (X i).2;omega) Jd
 have ev:=evalq1 hg fm0
 have b2:∀ j,j<out.toNat→Cl 54 [frT (evQ [z0] out data (midB (X 0)) 0 0 j),frT (sprQ [z0] data out 1 X j),frT (Rat.divInt ((loL out data).getD j 0) 65535),frT (Rat.divInt ((hiL out data).getD j 0) 65535)] (.tup [.agg [Ji ((fun j=>confB (evQ [z0] out data (midB (X 0)) 0 0 j) (sprQ [z0] data out 1 X j) (Rat.divInt ((loL out data).getD j 0) 65535) (Rat.divInt ((hiL out data).getD j 0) 65535)) j).1,Ji ((fun j=>confB (evQ [z0] out data (midB (X 0)) 0 0 j) (sprQ [z0] data out 1 X j) (Rat.divInt ((loL out data).getD j 0) 65535) (Rat.divInt ((hiL out data).getD j 0) 65535)) j).2],Ji 0]):=fun j hj=>by
  have rb:=jbL hg hj
  have ei:=ev_in1 (x0:=midB (X 0)) hg hj
  have sp:=spr_q1 (so j) (H:=fun i=>halB (X i)) (fun i _=>jdn (X i))
  have sb:=jf0 (P:=fun i=>(((outS [z0] data out [z0].length j).getD i 0:Int):Rat)*halB (X i)) (n:=0) (fun i hi=>jdB (so j) (hX i Jo)) 0 (jjG _)
  have n3:(((0+1:Nat):Int):Rat)≤3:=by decide +kernel
  refine conf_q (fq_ev1 hg fm0 j) sp.2 (jci rb.1) (jci rb.2.1) ?_ ⟨?_,ei.1⟩ ⟨ei.2,?_⟩
  ·show 0≤smF _ _/65535∧smF _ _/65535≤50000
   constructor<;>grind
  ·rw[divF]
   have:(0:Rat)≤(((loL out data).getD j 0:Int):Rat):=by exact_mod_cast rb.1.1
   grind
  ·rw[divF]
   have:(((hiL out data).getD j 0:Int):Rat)≤((65535:Int):Rat):=Rat.intCast_le_intCast.2 rb.2.1.2
   rw[show ((65535:Int):Rat)=65535 from rfl] at this
   grind
 have o1:∀ j,j<out.toNat→Cl 51 [Ji ((loL out data).getD j 0),Ji 65535] (frT (Rat.divInt ((loL out data).getD j 0) 65535)):=fun j hj=>jbD (by have:=jbL hg hj;omega) Jd
 have o2:∀ j,j<out.toNat→Cl 51 [Ji ((hiL out data).getD j 0),Ji 65535] (frT (Rat.divInt ((hiL out data).getD j 0) 65535)):=fun j hj=>jbD (by have:=jbL hg hj;omega) Jd
 have sp:∀ j,Cl 53 [Jj (outS [z0] data out [z0].length j),slQ (fun i=>txq (halB (X i))) 1] (.tup [frT (sprQ [z0] data out 1 X j),Ji 0]):=fun j=>(spr_q1 (so j) (H:=fun i=>halB (X i)) (fun i _=>jdn (X i))).1
 have h4:out=1∨out=2∨out=3:=Jo
 rcases h4 with e|e|e<;>subst e
 ·exact jeS [z0] data _ _ 1 X (fun i=>(clI (X i).1,clI (X i).2)) (fun i=>txq (midB (X i))) (fun i=>txq (halB (X i))) _ _ _ _ _ _ rfl (fun i _=>⟨jam _,jam _⟩) (jbH hg Js) li om oh ev (jdA [z0] data (outS [z0] data 1 [z0].length) hg Js rfl) (blist1c (F:=52) (fun j=>confB (evQ [z0] 1 data (midB (X 0)) 0 0 j) (sprQ [z0] data 1 1 X j) (Rat.divInt ((loL 1 data).getD j 0) 65535) (Rat.divInt ((hiL 1 data).getD j 0) 65535)) (bands2_110 (outS [z0] data 1 [z0].length) (fun i=>txq (halB (X i))) (fun j=>txq (evQ [z0] 1 data (midB (X 0)) 0 0 j)) _ _ _ _ _ _ _ _ _ rl.2.2.1 rl.2.2.2 (sp 0) (o1 0 Jd) (o2 0 Jd) (b2 0 Jd)))
 ·exact jeS [z0] data _ _ 2 X (fun i=>(clI (X i).1,clI (X i).2)) (fun i=>txq (midB (X i))) (fun i=>txq (halB (X i))) _ _ _ _ _ _ rfl (fun i _=>⟨jam _,jam _⟩) (jbH hg Js) li om oh ev (jgC [z0] data (outS [z0] data 2 [z0].length) hg Js rfl) (blist2c (F:=52) (fun j=>confB (evQ [z0] 2 data (midB (X 0)) 0 0 j) (sprQ [z0] data 2 1 X j) (Rat.divInt ((loL 2 data).getD j 0) 65535) (Rat.divInt ((hiL 2 data).getD j 0) 65535)) (bands2_120 (outS [z0] data 2 [z0].length) (fun i=>txq (halB (X i))) (fun j=>txq (evQ [z0] 2 data (midB (X 0)) 0 0 j)) _ _ _ _ _ _ _ _ _ rl.2.2.1 rl.2.2.2 (sp 0) (o1 0 Jd) (o2 0 Jd) (b2 0 Jd)) (bands2_121 (outS [z0] data 2 [z0].length) (fun i=>txq (halB (X i))) (fun j=>txq (evQ [z0] 2 data (midB (X 0)) 0 0 j)) _ _ _ _ _ _ _ _ _ rl.2.2.1 rl.2.2.2 (sp 1) (o1 1 Jd) (o2 1 Jd) (b2 1 Jd)))
 ·exact jeS [z0] data _ _ 3 X (fun i=>(clI (X i).1,clI (X i).2)) (fun i=>txq (midB (X i))) (fun i=>txq (halB (X i))) _ _ _ _ _ _ rfl (fun i _=>⟨jam _,jam _⟩) (jbH hg Js) li om oh ev (jgB [z0] data (outS [z0] data 3 [z0].length) hg Js rfl) (blist3c (F:=52) (fun j=>confB (evQ [z0] 3 data (midB (X 0)) 0 0 j) (sprQ [z0] data 3 1 X j) (Rat.divInt ((loL 3 data).getD j 0) 65535) (Rat.divInt ((hiL 3 data).getD j 0) 65535)) (bands2_130 (outS [z0] data 3 [z0].length) (fun i=>txq (halB (X i))) (fun j=>txq (evQ [z0] 3 data (midB (X 0)) 0 0 j)) _ _ _ _ _ _ _ _ _ rl.2.2.1 rl.2.2.2 (sp 0) (o1 0 Jd) (o2 0 Jd) (b2 0 Jd)) (bands2_131 (outS [z0] data 3 [z0].length) (fun i=>txq (halB (X i))) (fun j=>txq (evQ [z0] 3 data (midB (X 0)) 0 0 j)) _ _ _ _ _ _ _ _ _ rl.2.2.1 rl.2.2.2 (sp 1) (o1 1 Jd) (o2 1 Jd) (b2 1 Jd)) (bands2_132 (outS [z0] data 3 [z0].length) (fun i=>txq (halB (X i))) (fun j=>txq (evQ [z0] 3 data (midB (X 0)) 0 0 j)) _ _ _ _ _ _ _ _ _ rl.2.2.1 rl.2.2.2 (sp 2) (o1 2 Jd) (o2 2 Jd) (b2 2 Jd)))
theorem bandp2 {z0 z1 out:Int}{data:List Int}(hg:jaf [z0,z1] out data=true)(ho3:out≤3)(X:Nat→Int×Int)(hX:∀ i,i<2→vb (X i).1 (X i).2=true) :
  Cl 19 [gridD [z0,z1] out data,slB X 2] (.tup [slB (fun j=>confB (evQ [z0,z1] out data (midB (X 0)) (midB (X 1)) 0 j) (sprQ [z0,z1] data out 2 X j) (Rat.divInt ((loL out data).getD j 0) 65535) (Rat.divInt ((hiL out data).getD j 0) 65535)) out.toNat,Ji 0]):=by
 have og:=jaq hg
 have so:=jcf (out:=out) og.2.2.2 og.2.1 2 (jjG _)
 have rl:=jf3 hg
 have li:=blist2a (F:=49) (fun i=>(clI (X i).1,clI (X i).2)) (jhR X (clI (X 0).1,clI (X 0).2) (jcG (hX 0 Jd))) (jhQ X (clI (X 1).1,clI (X 1).2) (jcG (hX 1 Jd)))
 have fm0:=(jbv (X 0)).mono (show 14≤40 by decide)
 have fm1:=(jbv (X 1)).mono (show 14≤40 by decide)
 have om:∀ i,i<2→Cl 51 [Ji (clI (X i).1+clI (X i).2),Ji 2000000000000] (frT (midB (X i))):=fun i _=>jbD (by have:=jam (X i).1;have:=jam (X i).2;omega) Jd
 have oh:∀ i,i<2→Cl 51 [Ji (clI (X i).2-clI (X i).1),Ji 2000000000000] (frT (halB (X i))):=fun i _=>jbD (by have:=jam (X i).1;have:=jam (X i).2;omega) Jd
 have ev:=evalq2 hg fm0 fm1
 have b2:∀ j,j<out.toNat→Cl 54 [frT (evQ [z0,z1] out data (midB (X 0)) (midB (X 1)) 0 j),frT (sprQ [z0,z1] data out 2 X j),frT (Rat.divInt ((loL out data).getD j 0) 65535),frT (Rat.divInt ((hiL out data).getD j 0) 65535)] (.tup [.agg [Ji ((fun j=>confB (evQ [z0,z1] out data (midB (X 0)) (midB (X 1)) 0 j) (sprQ [z0,z1] data out 2 X j) (Rat.divInt ((loL out data).getD j 0) 65535) (Rat.divInt ((hiL out data).getD j 0) 65535)) j).1,Ji ((fun j=>confB (evQ [z0,z1] out data (midB (X 0)) (midB (X 1)) 0 j) (sprQ [z0,z1] data out 2 X j) (Rat.divInt ((loL out data).getD j 0) 65535) (Rat.divInt ((hiL out data).getD j 0) 65535)) j).2],Ji 0]):=fun j hj=>by
  have rb:=jbL hg hj
  have ei:=ev_in2 (x0:=midB (X 0)) (x1:=midB (X 1)) hg hj
  have sp:=spr_q2 (so j) (H:=fun i=>halB (X i)) (fun i _=>jdn (X i))
  have sb:=jf0 (P:=fun i=>(((outS [z0,z1] data out [z0,z1].length j).getD i 0:Int):Rat)*halB (X i)) (n:=1) (fun i hi=>jdB (so j) (hX i Jo)) 1 (jjG _)
  have n3:(((1+1:Nat):Int):Rat)≤3:=by decide +kernel
  refine conf_q (fq_ev2 hg fm0 fm1 j) sp.2 (jci rb.1) (jci rb.2.1) ?_ ⟨?_,ei.1⟩ ⟨ei.2,?_⟩
  ·show 0≤smF _ _/65535∧smF _ _/65535≤50000
   constructor<;>grind
  ·rw[divF]
   have:(0:Rat)≤(((loL out data).getD j 0:Int):Rat):=by exact_mod_cast rb.1.1
   grind
  ·rw[divF]
   have:(((hiL out data).getD j 0:Int):Rat)≤((65535:Int):Rat):=Rat.intCast_le_intCast.2 rb.2.1.2
   rw[show ((65535:Int):Rat)=65535 from rfl] at this
   grind
 have o1:∀ j,j<out.toNat→Cl 51 [Ji ((loL out data).getD j 0),Ji 65535] (frT (Rat.divInt ((loL out data).getD j 0) 65535)):=fun j hj=>jbD (by have:=jbL hg hj;omega) Jd
 have o2:∀ j,j<out.toNat→Cl 51 [Ji ((hiL out data).getD j 0),Ji 65535] (frT (Rat.divInt ((hiL out data).getD j 0) 65535)):=fun j hj=>jbD (by have:=jbL hg hj;omega) Jd
 have sp:∀ j,Cl 53 [Jj (outS [z0,z1] data out [z0,z1].length j),slQ (fun i=>txq (halB (X i))) 2] (.tup [frT (sprQ [z0,z1] data out 2 X j),Ji 0]):=fun j=>(spr_q2 (so j) (H:=fun i=>halB (X i)) (fun i _=>jdn (X i))).1
 have h4:out=1∨out=2∨out=3:=Jo
 rcases h4 with e|e|e<;>subst e
 ·exact jd6 [z0,z1] data _ _ 1 X (fun i=>(clI (X i).1,clI (X i).2)) (fun i=>txq (midB (X i))) (fun i=>txq (halB (X i))) _ _ _ _ _ _ rfl (fun i _=>⟨jam _,jam _⟩) (jbH hg Js) li om oh ev (jdA [z0,z1] data (outS [z0,z1] data 1 [z0,z1].length) hg Js rfl) (blist1c (F:=52) (fun j=>confB (evQ [z0,z1] 1 data (midB (X 0)) (midB (X 1)) 0 j) (sprQ [z0,z1] data 1 2 X j) (Rat.divInt ((loL 1 data).getD j 0) 65535) (Rat.divInt ((hiL 1 data).getD j 0) 65535)) (jgo (outS [z0,z1] data 1 [z0,z1].length) (fun i=>txq (halB (X i))) (fun j=>txq (evQ [z0,z1] 1 data (midB (X 0)) (midB (X 1)) 0 j)) _ _ _ _ _ _ _ _ _ rl.2.2.1 rl.2.2.2 (sp 0) (o1 0 Jd) (o2 0 Jd) (b2 0 Jd)))
 ·exact jd6 [z0,z1] data _ _ 2 X (fun i=>(clI (X i).1,clI (X i).2)) (fun i=>txq (midB (X i))) (fun i=>txq (halB (X i))) _ _ _ _ _ _ rfl (fun i _=>⟨jam _,jam _⟩) (jbH hg Js) li om oh ev (jgC [z0,z1] data (outS [z0,z1] data 2 [z0,z1].length) hg Js rfl) (blist2c (F:=52) (fun j=>confB (evQ [z0,z1] 2 data (midB (X 0)) (midB (X 1)) 0 j) (sprQ [z0,z1] data 2 2 X j) (Rat.divInt ((loL 2 data).getD j 0) 65535) (Rat.divInt ((hiL 2 data).getD j 0) 65535)) (bands2_220 (outS [z0,z1] data 2 [z0,z1].length) (fun i=>txq (halB (X i))) (fun j=>txq (evQ [z0,z1] 2 data (midB (X 0)) (midB (X 1)) 0 j)) _ _ _ _ _ _ _ _ _ rl.2.2.1 rl.2.2.2 (sp 0) (o1 0 Jd) (o2 0 Jd) (b2 0 Jd)) (bands2_221 (outS [z0,z1] data 2 [z0,z1].length) (fun i=>txq (halB (X i))) (fun j=>txq (evQ [z0,z1] 2 data (midB (X 0)) (midB (X 1)) 0 j)) _ _ _ _ _ _ _ _ _ rl.2.2.1 rl.2.2.2 (sp 1) (o1 1 Jd) (o2 1 Jd) (b2 1 Jd)))
 ·exact jd6 [z0,z1] data _ _ 3 X (fun i=>(clI (X i).1,clI (X i).2)) (fun i=>txq (midB (X i))) (fun i=>txq (halB (X i))) _ _ _ _ _ _ rfl (fun i _=>⟨jam _,jam _⟩) (jbH hg Js) li om oh ev (jgB [z0,z1] data (outS [z0,z1] data 3 [z0,z1].length) hg Js rfl) (blist3c (F:=52) (fun j=>confB (evQ [z0,z1] 3 data (midB (X 0)) (midB (X 1)) 0 j) (sprQ [z0,z1] data 3 2 X j) (Rat.divInt ((loL 3 data).getD j 0) 65535) (Rat.divInt ((hiL 3 data).getD j 0) 65535)) (bands2_230 (outS [z0,z1] data 3 [z0,z1].length) (fun i=>txq (halB (X i))) (fun j=>txq (evQ [z0,z1] 3 data (midB (X 0)) (midB (X 1)) 0 j)) _ _ _ _ _ _ _ _ _ rl.2.2.1 rl.2.2.2 (sp 0) (o1 0 Jd) (o2 0 Jd) (b2 0 Jd)) (bands2_231 (outS [z0,z1] data 3 [z0,z1].length) (fun i=>txq (halB (X i))) (fun j=>txq (evQ [z0,z1] 3 data (midB (X 0)) (midB (X 1)) 0 j)) _ _ _ _ _ _ _ _ _ rl.2.2.1 rl.2.2.2 (sp 1) (o1 1 Jd) (o2 1 Jd) (b2 1 Jd)) (bands2_232 (outS [z0,z1] data 3 [z0,z1].length) (fun i=>txq (halB (X i))) (fun j=>txq (evQ [z0,z1] 3 data (midB (X 0)) (midB (X 1)) 0 j)) _ _ _ _ _ _ _ _ _ rl.2.2.1 rl.2.2.2 (sp 2) (o1 2 Jd) (o2 2 Jd) (b2 2 Jd)))
theorem bandp3 {z0 z1 z2 out:Int}{data:List Int}(hg:jaf [z0,z1,z2] out data=true)(ho3:out≤3)(X:Nat→Int×Int)(hX:∀ i,i<3→vb (X i).1 (X i).2=true) :
  Cl 19 [gridD [z0,z1,z2] out data,slB X 3] (.tup [slB (fun j=>confB (evQ [z0,z1,z2] out data (midB (X 0)) (midB (X 1)) (midB (X 2)) j) (sprQ [z0,z1,z2] data out 3 X j) (Rat.divInt ((loL out data).getD j 0) 65535) (Rat.divInt ((hiL out data).getD j 0) 65535)) out.toNat,Ji 0]):=by
 have og:=jaq hg
 have so:=jcf (out:=out) og.2.2.2 og.2.1 3 (jjG _)
 have rl:=jf3 hg
 have li:=blist3a (F:=49) (fun i=>(clI (X i).1,clI (X i).2)) (bands1_30 X (clI (X 0).1,clI (X 0).2) (jcG (hX 0 Jd))) (bands1_31 X (clI (X 1).1,clI (X 1).2) (jcG (hX 1 Jd))) (bands1_32 X (clI (X 2).1,clI (X 2).2) (jcG (hX 2 Jd)))
 have fm0:=(jbv (X 0)).mono (show 14≤40 by decide)
 have fm1:=(jbv (X 1)).mono (show 14≤40 by decide)
 have fm2:=(jbv (X 2)).mono (show 14≤40 by decide)
 have om:∀ i,i<3→Cl 51 [Ji (clI (X i).1+clI (X i).2),Ji 2000000000000] (frT (midB (X i))):=fun i _=>jbD (by have:=jam (X i).1;have:=jam (X i).2;omega) Jd
 have oh:∀ i,i<3→Cl 51 [Ji (clI (X i).2-clI (X i).1),Ji 2000000000000] (frT (halB (X i))):=fun i _=>jbD (by have:=jam (X i).1;have:=jam (X i).2;omega) Jd
 have ev:=evalq3 hg fm0 fm1 fm2
 have b2:∀ j,j<out.toNat→Cl 54 [frT (evQ [z0,z1,z2] out data (midB (X 0)) (midB (X 1)) (midB (X 2)) j),frT (sprQ [z0,z1,z2] data out 3 X j),frT (Rat.divInt ((loL out data).getD j 0) 65535),frT (Rat.divInt ((hiL out data).getD j 0) 65535)] (.tup [.agg [Ji ((fun j=>confB (evQ [z0,z1,z2] out data (midB (X 0)) (midB (X 1)) (midB (X 2)) j) (sprQ [z0,z1,z2] data out 3 X j) (Rat.divInt ((loL out data).getD j 0) 65535) (Rat.divInt ((hiL out data).getD j 0) 65535)) j).1,Ji ((fun j=>confB (evQ [z0,z1,z2] out data (midB (X 0)) (midB (X 1)) (midB (X 2)) j) (sprQ [z0,z1,z2] data out 3 X j) (Rat.divInt ((loL out data).getD j 0) 65535) (Rat.divInt ((hiL out data).getD j 0) 65535)) j).2],Ji 0]):=fun j hj=>by
  have rb:=jbL hg hj
  have ei:=ev_in3 (x0:=midB (X 0)) (x1:=midB (X 1)) (x2:=midB (X 2)) hg hj
  have sp:=spr_q3 (so j) (H:=fun i=>halB (X i)) (fun i _=>jdn (X i))
  have sb:=jf0 (P:=fun i=>(((outS [z0,z1,z2] data out [z0,z1,z2].length j).getD i 0:Int):Rat)*halB (X i)) (n:=2) (fun i hi=>jdB (so j) (hX i Jo)) 2 (jjG _)
  have n3:(((2+1:Nat):Int):Rat)≤3:=by decide +kernel
  refine conf_q (fq_ev3 hg fm0 fm1 fm2 j) sp.2 (jci rb.1) (jci rb.2.1) ?_ ⟨?_,ei.1⟩ ⟨ei.2,?_⟩
  ·show 0≤smF _ _/65535∧smF _ _/65535≤50000
   constructor<;>grind
  ·rw[divF]
   have:(0:Rat)≤(((loL out data).getD j 0:Int):Rat):=by exact_mod_cast rb.1.1
   grind
  ·rw[divF]
   have:(((hiL out data).getD j 0:Int):Rat)≤((65535:Int):Rat):=Rat.intCast_le_intCast.2 rb.2.1.2
   rw[show ((65535:Int):Rat)=65535 from rfl] at this
   grind
 have o1:∀ j,j<out.toNat→Cl 51 [Ji ((loL out data).getD j 0),Ji 65535] (frT (Rat.divInt ((loL out data).getD j 0) 65535)):=fun j hj=>jbD (by have:=jbL hg hj;omega) Jd
 have o2:∀ j,j<out.toNat→Cl 51 [Ji ((hiL out data).getD j 0),Ji 65535] (frT (Rat.divInt ((hiL out data).getD j 0) 65535)):=fun j hj=>jbD (by have:=jbL hg hj;omega) Jd
 have sp:∀ j,Cl 53 [Jj (outS [z0,z1,z2] data out [z0,z1,z2].length j),slQ (fun i=>txq (halB (X i))) 3] (.tup [frT (sprQ [z0,z1,z2] data out 3 X j),Ji 0]):=fun j=>(spr_q3 (so j) (H:=fun i=>halB (X i)) (fun i _=>jdn (X i))).1
 have h4:out=1∨out=2∨out=3:=Jo
 rcases h4 with e|e|e<;>subst e
 ·exact jeR [z0,z1,z2] data _ _ 1 X (fun i=>(clI (X i).1,clI (X i).2)) (fun i=>txq (midB (X i))) (fun i=>txq (halB (X i))) _ _ _ _ _ _ rfl (fun i _=>⟨jam _,jam _⟩) (jbH hg Js) li om oh ev (jdA [z0,z1,z2] data (outS [z0,z1,z2] data 1 [z0,z1,z2].length) hg Js rfl) (blist1c (F:=52) (fun j=>confB (evQ [z0,z1,z2] 1 data (midB (X 0)) (midB (X 1)) (midB (X 2)) j) (sprQ [z0,z1,z2] data 1 3 X j) (Rat.divInt ((loL 1 data).getD j 0) 65535) (Rat.divInt ((hiL 1 data).getD j 0) 65535)) (bands2_310 (outS [z0,z1,z2] data 1 [z0,z1,z2].length) (fun i=>txq (halB (X i))) (fun j=>txq (evQ [z0,z1,z2] 1 data (midB (X 0)) (midB (X 1)) (midB (X 2)) j)) _ _ _ _ _ _ _ _ _ rl.2.2.1 rl.2.2.2 (sp 0) (o1 0 Jd) (o2 0 Jd) (b2 0 Jd)))
 ·exact jeR [z0,z1,z2] data _ _ 2 X (fun i=>(clI (X i).1,clI (X i).2)) (fun i=>txq (midB (X i))) (fun i=>txq (halB (X i))) _ _ _ _ _ _ rfl (fun i _=>⟨jam _,jam _⟩) (jbH hg Js) li om oh ev (jgC [z0,z1,z2] data (outS [z0,z1,z2] data 2 [z0,z1,z2].length) hg Js rfl) (blist2c (F:=52) (fun j=>confB (evQ [z0,z1,z2] 2 data (midB (X 0)) (midB (X 1)) (midB (X 2)) j) (sprQ [z0,z1,z2] data 2 3 X j) (Rat.divInt ((loL 2 data).getD j 0) 65535) (Rat.divInt ((hiL 2 data).getD j 0) 65535)) (bands2_320 (outS [z0,z1,z2] data 2 [z0,z1,z2].length) (fun i=>txq (halB (X i))) (fun j=>txq (evQ [z0,z1,z2] 2 data (midB (X 0)) (midB (X 1)) (midB (X 2)) j)) _ _ _ _ _ _ _ _ _ rl.2.2.1 rl.2.2.2 (sp 0) (o1 0 Jd) (o2 0 Jd) (b2 0 Jd)) (bands2_321 (outS [z0,z1,z2] data 2 [z0,z1,z2].length) (fun i=>txq (halB (X i))) (fun j=>txq (evQ [z0,z1,z2] 2 data (midB (X 0)) (midB (X 1)) (midB (X 2)) j)) _ _ _ _ _ _ _ _ _ rl.2.2.1 rl.2.2.2 (sp 1) (o1 1 Jd) (o2 1 Jd) (b2 1 Jd)))
 ·exact jeR [z0,z1,z2] data _ _ 3 X (fun i=>(clI (X i).1,clI (X i).2)) (fun i=>txq (midB (X i))) (fun i=>txq (halB (X i))) _ _ _ _ _ _ rfl (fun i _=>⟨jam _,jam _⟩) (jbH hg Js) li om oh ev (jgB [z0,z1,z2] data (outS [z0,z1,z2] data 3 [z0,z1,z2].length) hg Js rfl) (blist3c (F:=52) (fun j=>confB (evQ [z0,z1,z2] 3 data (midB (X 0)) (midB (X 1)) (midB (X 2)) j) (sprQ [z0,z1,z2] data 3 3 X j) (Rat.divInt ((loL 3 data).getD j 0) 65535) (Rat.divInt ((hiL 3 data).getD j 0) 65535)) (bands2_330 (outS [z0,z1,z2] data 3 [z0,z1,z2].length) (fun i=>txq (halB (X i))) (fun j=>txq (evQ [z0,z1,z2] 3 data (midB (X 0)) (midB (X 1)) (midB (X 2)) j)) _ _ _ _ _ _ _ _ _ rl.2.2.1 rl.2.2.2 (sp 0) (o1 0 Jd) (o2 0 Jd) (b2 0 Jd)) (bands2_331 (outS [z0,z1,z2] data 3 [z0,z1,z2].length) (fun i=>txq (halB (X i))) (fun j=>txq (evQ [z0,z1,z2] 3 data (midB (X 0)) (midB (X 1)) (midB (X 2)) j)) _ _ _ _ _ _ _ _ _ rl.2.2.1 rl.2.2.2 (sp 1) (o1 1 Jd) (o2 1 Jd) (b2 1 Jd)) (bands2_332 (outS [z0,z1,z2] data 3 [z0,z1,z2].length) (fun i=>txq (halB (X i))) (fun j=>txq (evQ [z0,z1,z2] 3 data (midB (X 0)) (midB (X 1)) (midB (X 2)) j)) _ _ _ _ _ _ _ _ _ rl.2.2.1 rl.2.2.2 (sp 2) (o1 2 Jd) (o2 2 Jd) (b2 2 Jd)))
end Go.Proofs.YtbnghipgicmpdaaGreatDoor
end
section
namespace Go.Proofs.YtbnghipgicmpdaaGreatDoor
open Go Go.V Go.Gr
theorem zT16_0:type_of% @jjF∧type_of% @jjC:=⟨@jjF,@jjC⟩
theorem rrange_c (size:List Int)(out:Int)(data:List Int)(hs:size.length≤281474976710656)(hd:data.length≤281474976710656) :
  Cl 56 [gridD size out data] (.tup [Jj (if jaf size out data then rl (fun a b=>decide (a<b)) data out.toNat data.length else []),Jj (if jaf size out data then rl (fun a b=>decide (a>b)) data out.toNat data.length else []),Ji (if jaf size out data then 0 else 100)]):=by
 refine V.en tbOk Tryz.func56 ?_
 (conv=>whnf)
 refine V.st ?_
 repeat ((try ((with_reducible refine .ext ?_);(conv=>whnf)));(with_reducible refine jaa (r:=?_) ?_ ?_);rotate_left;(focus (first|exact(jcS _ _ _ hs hd)));(conv=>whnf);refine V.st ?_)
 refine V.br (fun hg=>?_) (fun hg=>?_)
 ·have hg:jaf size out data=false:=by simpa using hg
  (conv=>whnf)
  refine V.st ?_
  rw[hg]
  exact Fin.tup ⟨Fin.nil _,Fin.nil _,Fin.of rfl,trivial⟩
 have hg:jaf size out data=true:=by simpa using hg
 have hG:=jaT hg
 obtain⟨w,rfl⟩:∃ w:Nat,out=w:=⟨out.toNat,Jo⟩
 obtain⟨ns,hn0,hn1,hn2⟩:=nz_of hG.2.2.2.2.1
 have hprod:prod size=(PR ns:Nat):=by rw[hn0,jcV]
 have hPP:0<PR ns:=jey (fun n hn=>by have:=hn2 n hn;omega)
 have hdl:data.length=PR ns*w:=by
  have:=hG.2.2.2.2.2.2.1
  rw[hprod,← jjQ] at this
  omega
 have hwl:w≤data.length:=by rw[hdl];exact Nat.le_mul_of_pos_left _ hPP
 have htk:List.take w data=slot data 0 w:=by simp[slot]
 have hs0:(slot data 0 w).length=w:=by simp[slot];omega
 refine V.r0 (V.a2 @jjF htk) ?_
 try refine And.intro (fun _=>⟨Js,Jo⟩) ?_
 refine V.r0 (V.a5 @jjF htk @jkk @jjC hs0) ?_
 try refine And.intro (fun _=>⟨Js,Jo⟩) ?_
 refine V.r0 (V.a5 @jjF htk @jkk @jjC hs0) ?_
 refine jad (0) (fun k=>k≤data.length) (fun k=>data.length-k) (fun k=>[(7,Ji k)]) (fun k=>[(18,.arr .i64 (rl (fun a b=>decide (a<b)) data w k)),(25,.arr .i64 (rl (fun a b=>decide (a>b)) data w k))]) ?_ ?_ ?_
 ·exact V.wk
 ·exact jjx _
 intro i hi
 have hl1:=jcR (lt:=fun a b=>decide (a<b)) hwl i
 have hl2:=jcR (lt:=fun a b=>decide (a>b)) hwl i
 (conv=>whnf)
 refine V.st ?_
 refine V.br (fun hq=>?_) (fun hq=>?_)
 ·rw[decide_eq_true_eq] at hq
  have hm:(i:Int)%(w:Int)=((i%w:Nat):Int):=Js
  have hmw:i%w<w:=jjJ _ Jo
  have e1:min ((rl (fun a b=>decide (a<b)) data w i).getD (i%w) 0) (data.getD i 0)=(if (fun a b:Int=>decide (a<b)) (data.getD i 0) ((rl (fun a b=>decide (a<b)) data w i).getD (i%w) 0) then data.getD i 0 else (rl (fun a b=>decide (a<b)) data w i).getD (i%w) 0):=by
   simp only[decide_eq_true_eq];omega
  have e2:max ((rl (fun a b=>decide (a>b)) data w i).getD (i%w) 0) (data.getD i 0)=(if (fun a b:Int=>decide (a>b)) (data.getD i 0) ((rl (fun a b=>decide (a>b)) data w i).getD (i%w) 0) then data.getD i 0 else (rl (fun a b=>decide (a>b)) data w i).getD (i%w) 0):=by
   simp only[decide_eq_true_eq];omega
  have e3:(rl (fun a b=>decide (a<b)) data w i).set (i%w) (min ((rl (fun a b=>decide (a<b)) data w i).getD (i%w) 0) (data.getD i 0))=rl (fun a b=>decide (a<b)) data w (i+1):=by rw[e1];rfl
  have e4:(rl (fun a b=>decide (a>b)) data w i).set (i%w) (max ((rl (fun a b=>decide (a>b)) data w i).getD (i%w) 0) (data.getD i 0))=rl (fun a b=>decide (a>b)) data w (i+1):=by rw[e2];rfl
  generalize hrl1:rl (fun a b=>decide (a<b)) data w i=r1 at *
  generalize hrl2:rl (fun a b=>decide (a>b)) data w i=r2 at *
  generalize i%w=j at *
  refine V.r0 (V.a2 zT16_0 hm) ?_
  refine⟨(V.tk [0,1,2,3,4,5,6,7,8,9,10,11,12] (V.e1 13 [] .done)),[],V.pok,.go (jac ?_)⟩
  refine V.r0 (V.a3 zT16_0 hm e3) ?_
  refine⟨(V.tk [0,1,2,3,4,5,6,7,8,9,10,11,12] (V.e1 13 [] .done)),[],V.pok,.go (jac ?_)⟩
  refine V.r0 (V.a3 zT16_0 hm e4) ?_
  exact⟨i+1,Jo,Jo,V.wk⟩
 ·rw[decide_eq_false_iff_not] at hq
  have hi1:i=data.length:=Jo
  subst hi1
  (conv=>whnf)
  refine V.st ?_
  rw[hg,jko Jo,jko Jo]
  exact Fin.of rfl
end Go.Proofs.YtbnghipgicmpdaaGreatDoor
end
section
namespace Go.Proofs.YtbnghipgicmpdaaGreatDoor
open Go Go.V Go.Nb
theorem pce_at (U:Nat→List Int):∀ (n j:Nat),j<n→List.take 1 (List.drop (j*1) (pce U n))=[Jj (U j)]
 | n+1,j,h=>by
  have hl:∀ n,(pce U n).length=n:=fun n=>by
   induction n with
   | zero=>rfl
   | succ n ih=>simp only[pce,jkd,ih];simp
  rw[Nat.mul_one]
  simp only[pce]
  rcases jjO j n with g|g
  ·rw[jkm (by rw[hl];omega),jkl (by rw[jkt,hl];omega)]
   have:=pce_at U n j g
   rw[Nat.mul_one] at this
   exact this
  ·obtain rfl:j=n:=Jo
   rw[List.drop_append,jkq (by rw[hl];omega),hl,Nat.sub_self]
   rfl
def slF (X:Nat→Int×Int)(m:Nat):D := .slf 2 m (fun j=>[Ji (X j).1,Ji (X j).2])
theorem rbandq {zs data:List Int}{out:Int}{n:Nat}(hn:1≤n∧n≤3)(hz:n=zs.length)(hg:jaf zs out data=true)(X:Nat→Int×Int)(hX:∀ i,i<n→vb (X i).1 (X i).2=true)(Y:Nat→Rat)(fy:∀ j,Fq 376 (Y j))
  (hy:∀ j,j<out.toNat→Rat.divInt ((loL out data).getD j 0) 65535≤Y j∧Y j≤Rat.divInt ((hiL out data).getD j 0) 65535)
  (ev:Cl 14 [.agg [Jj zs,Ji out,Jj data],.slf 2 n (fun j=>[.str (txq (midB (X j))).1,.str (txq (midB (X j))).2])] (.tup [slQ (fun j=>txq (Y j)) out.toNat,Ji 0])) :
  Cl 20 [.agg [Jj zs,Ji out,Jj data],slF X n] (.tup [slB (fun j=>confB (Y j) (sprQ zs data out n X j) (Rat.divInt ((loL out data).getD j 0) 65535) (Rat.divInt ((hiL out data).getD j 0) 65535)) out.toNat,Ji 0]):=by
 have og:=jaq hg
 have so:=jcf (out:=out) og.2.2.2 og.2.1 zs.length (jjG _)
 have rlk:=jf3 hg
 have ck:Cl 35 [.agg [Jj zs,Ji out,Jj data]] (.bool true):=by
  have c:=jcS zs out data Jo Jo
  rw[hg] at c
  exact c
 have rg:Cl 56 [.agg [Jj zs,Ji out,Jj data]] (.tup [Jj (loL out data),Jj (hiL out data),Ji 0]):=by
  have c:=rrange_c zs out data Jo Jo
  rw[hg] at c
  exact c
 have st:=(rsteep_t hg Jo).fin (r' := .tup [.slf 1 out.toNat (fun j=>[Jj (outS zs data out zs.length j)]),Ji 0]) (Fin.tup ⟨jbk fun j hj=>(pce_at _ _ j hj),Fin.of rfl,trivial⟩)
 have ev2:=ev.fin (r' := .tup [.slf 2 out.toNat (fun j=>[.str (txq (Y j)).1,.str (txq (Y j)).2]),Ji 0]) (Fin.tup ⟨jbk fun j hj=>(jhr _ _ j hj),Fin.of rfl,trivial⟩)
 obtain⟨T,eT⟩:∃ T,outS zs data out zs.length=T:=⟨_,rfl⟩
 have sd:∀ j,0≤sprQ zs data out n X j∧sprQ zs data out n X j≤50000:=fun j=>by
  have sb:=jf0 (P:=fun i=>(((outS zs data out zs.length j).getD i 0:Int):Rat)*halB (X i)) (n:=n-1) (fun i hi=>jdB (so j) (hX i Jo)) (n-1) (jjG _)
  have n3:(((n-1+1:Nat):Int):Rat)≤((3:Int):Rat):=Rat.intCast_le_intCast.2 Jo
  rw[show ((3:Int):Rat)=3 from rfl] at n3
  show 0≤smF _ _/65535∧smF _ _/65535≤50000
  constructor<;>grind
 have ss:=fun j=>spr_sum zs data out n X j hn.1
 rw[eT] at so st ss
 have fP:∀ j i,Fq 24 (Rat.divInt ((T j).getD i 0) 65535*halB (X i)):=fun j i=>(ja1 (n:=10) (d:=65535) Jd (by have:=(so j).2 i;omega) Jd).mul (jdn (X i))
 have fS:∀ j k,k≤3→Fq 80 (sQ (fun i=>Rat.divInt ((T j).getD i 0) 65535*halB (X i)) k):=fun j k hk=>by
  rcases k with _|k
  ·exact jbd.mono Jo
  ·exact(fq_sm (fP j) k).mono Jo
 have fd:∀ j,Fq 80 (sprQ zs data out n X j):=fun j=>by rw[← ss j];exact fS j n hn.2
 have rb:=fun j hj=>jbL hg (j:=j) hj
 have yb:∀ j,j<out.toNat→0≤Y j∧Y j≤1:=fun j hj=>by
  have h:=hy j hj
  have r:=rb j hj
  rw[divF,divF] at h
  have h0:(0:Rat)≤(((loL out data).getD j 0:Int):Rat):=by exact_mod_cast r.1.1
  have h1:(((hiL out data).getD j 0:Int):Rat)≤((65535:Int):Rat):=Rat.intCast_le_intCast.2 r.2.1.2
  rw[show ((65535:Int):Rat)=65535 from rfl] at h1
  constructor<;>grind
 have fl:∀ v:Int,0≤v∧v≤65535 → -100000≤Rat.divInt v 65535∧Rat.divInt v 65535≤100000:=fun v hv=>by
  rw[divF]
  have h0:(0:Rat)≤(v:Rat):=by exact_mod_cast hv.1
  have h1:(v:Rat)≤((65535:Int):Rat):=Rat.intCast_le_intCast.2 hv.2
  rw[show ((65535:Int):Rat)=65535 from rfl] at h1
  constructor<;>grind
 have r:=rbands_t hn hz og.1 X (fun i=>txq (midB (X i))) (fun i=>txq (halB (X i))) (fun j=>txq (Y j)) (fun j=>txq (Y j-sprQ zs data out n X j)) (fun j=>txq (Y j+sprQ zs data out n X j)) (fun j=>txq (Rat.divInt ((loL out data).getD j 0) 65535)) (fun j=>txq (Rat.divInt ((hiL out data).getD j 0) 65535)) T
  (fun j k=>txq (sQ (fun i=>Rat.divInt ((T j).getD i 0) 65535*halB (X i)) k)) (fun j i=>txq (Rat.divInt ((T j).getD i 0) 65535)) (fun j i=>txq (Rat.divInt ((T j).getD i 0) 65535*halB (X i))) (txq 0)
  (fun j=>(flU (Y j-sprQ zs data out n X j),clU (Y j-sprQ zs data out n X j))) (fun j=>(flU (Y j+sprQ zs data out n X j),clU (Y j+sprQ zs data out n X j))) (fun j=>(flU (Rat.divInt ((loL out data).getD j 0) 65535),clU (Rat.divInt ((loL out data).getD j 0) 65535))) (fun j=>(flU (Rat.divInt ((hiL out data).getD j 0) 65535),clU (Rat.divInt ((hiL out data).getD j 0) 65535)))
  (fun j=>by rw[(so j).1,hz]) rlk.2.2.1 rlk.2.2.2 (fun j=>rfl) ck (fun i hi=>by have c:=jiG (X i).1 (X i).2;rw[if_pos (hX i hi)] at c;exact c)
  (fun i hi=>jcT (by have:=jam (X i).1;have:=jam (X i).2;omega) Jd) (fun i hi=>jcT (by have:=jam (X i).1;have:=jam (X i).2;omega) Jd) ev2 st rg (jbz (n:=0) Jo)
  (fun j i hj hi=>jcT (by have:=(so j).2 i;omega) Jd) (fun j i hj hi=>zrmul (ja1 (n:=10) (d:=65535) Jd (by have:=(so j).2 i;omega) Jd) (jdn (X i)) Jd Jd Jd)
  (fun j i hj hi=>?_) (fun j hj=>?_) (fun j hj=>?_) (fun j hj=>jcT (by have:=rb j hj;omega) Jd) (fun j hj=>jcT (by have:=rb j hj;omega) Jd)
  (fun j hj=>jcw ((fy j).sub (fd j)) Jd (by have:=yb j hj;have:=sd j;constructor<;>grind)) (fun j hj=>jcw ((fy j).add (fd j)) Jd (by have:=yb j hj;have:=sd j;constructor<;>grind))
  (fun j hj=>jcw (jci (rb j hj).1) Jd (fl _ (rb j hj).1)) (fun j hj=>jcw (jci (rb j hj).2.1) Jd (fl _ (rb j hj).2.1))
 ·exact r
 ·rcases i with _|i
  ·have c:=zradd (fS j 0 Jo) (fP j 0) Jo Jo Jo
   rw[show sQ (fun i=>Rat.divInt ((T j).getD i 0) 65535*halB (X i)) 0=0 from rfl,Rat.zero_add] at c
   exact c
  ·exact zradd (fS j (i+1) Jo) (fP j (i+1)) Jo Jo Jo
 ·have c:=zrsub (fy j) (fS j n hn.2) Jd Jd Jd
  rw[ss j] at c
  rw[ss j]
  exact c
 ·have c:=zradd (fy j) (fS j n hn.2) Jd Jd Jd
  rw[ss j] at c
  rw[ss j]
  exact c
def jhT (zs data:List Int)(out:Int)(X:Nat→Int×Int)(m:Nat):Prop:=
 ∃ (y:Nat→Int×Int) (yn:Nat) (e:Int),yn≤4 ∧
  Cl 19 [.agg [Jj zs,Ji out,Jj data],slF X m] (.tup [slB y yn,Ji e]) ∧
  Cl 20 [.agg [Jj zs,Ji out,Jj data],slF X m] (.tup [slB y yn,Ji e])
theorem jhf {zs data:List Int}{out e:Int}{X:Nat→Int×Int}{m:Nat}(c:Cl 19 [.agg [Jj zs,Ji out,Jj data],slF X m] (.tup [.nil,Ji e]))(r:Cl 20 [.agg [Jj zs,Ji out,Jj data],slF X m] (.tup [.nil,Ji e])):jhT zs data out X m:=by
 have f2:_root_.Go.V.Fin (.tup [slB X 0,Ji e]) (.tup [.nil,Ji e]):=Fin.tup ⟨fin_nil2 _,Fin.of rfl,trivial⟩
 exact⟨X,0,e,Jo,c.fin f2,r.fin f2⟩
theorem bothB1 {z0 out:Int}{data:List Int}(hg:jaf [z0] out data=true)(ho3:out≤3)(X:Nat→Int×Int)(hX:∀ i,i<1→vb (X i).1 (X i).2=true):jhT [z0] data out X 1:=by
 have og:=jaq hg
 have p:=argL (bandp1 hg ho3 X hX) (jbk (fun j hj=>(bce_a X 1 j hj).symm))
 have ev:=argL (revalq1 hg ((jbv (X 0)).mono (show 14≤40 by decide))) (jbk (g:=fun j=>[.str (txq (midB (X j))).1,.str (txq (midB (X j))).2]) (fun j hj=>by
  rcases (show j=0 by omega) with rfl<;>rfl))
 have r:=rbandq (zs:=[z0]) (n:=1) Jo rfl hg X hX (fun j=>evQ [z0] out data (midB (X 0)) 0 0 j) (fun j=>fq_ev1 hg ((jbv (X 0)).mono (show 14≤40 by decide)) j) (fun j hj=>ev_in1 (x0:=midB (X 0)) hg hj) ev
 exact⟨_,_,_,Jo,p,r⟩
theorem bothB2 {z0 z1 out:Int}{data:List Int}(hg:jaf [z0,z1] out data=true)(ho3:out≤3)(X:Nat→Int×Int)(hX:∀ i,i<2→vb (X i).1 (X i).2=true):jhT [z0,z1] data out X 2:=by
 have og:=jaq hg
 have p:=argL (bandp2 hg ho3 X hX) (jbk (fun j hj=>(bce_a X 2 j hj).symm))
 have ev:=argL (revalq2 hg ((jbv (X 0)).mono (show 14≤40 by decide)) ((jbv (X 1)).mono (show 14≤40 by decide))) (jbk (g:=fun j=>[.str (txq (midB (X j))).1,.str (txq (midB (X j))).2]) (fun j hj=>by
  rcases (show j=0∨j=1 by omega) with rfl|rfl<;>rfl))
 have r:=rbandq (zs:=[z0,z1]) (n:=2) Jo rfl hg X hX (fun j=>evQ [z0,z1] out data (midB (X 0)) (midB (X 1)) 0 j) (fun j=>fq_ev2 hg ((jbv (X 0)).mono (show 14≤40 by decide)) ((jbv (X 1)).mono (show 14≤40 by decide)) j) (fun j hj=>ev_in2 (x0:=midB (X 0)) (x1:=midB (X 1)) hg hj) ev
 exact⟨_,_,_,Jo,p,r⟩
theorem bothB3 {z0 z1 z2 out:Int}{data:List Int}(hg:jaf [z0,z1,z2] out data=true)(ho3:out≤3)(X:Nat→Int×Int)(hX:∀ i,i<3→vb (X i).1 (X i).2=true):jhT [z0,z1,z2] data out X 3:=by
 have og:=jaq hg
 have p:=argL (bandp3 hg ho3 X hX) (jbk (fun j hj=>(bce_a X 3 j hj).symm))
 have ev:=argL (revalq3 hg ((jbv (X 0)).mono (show 14≤40 by decide)) ((jbv (X 1)).mono (show 14≤40 by decide)) ((jbv (X 2)).mono (show 14≤40 by decide))) (jbk (g:=fun j=>[.str (txq (midB (X j))).1,.str (txq (midB (X j))).2]) (fun j hj=>by
  rcases (show j=0∨j=1∨j=2 by omega) with rfl|rfl|rfl<;>rfl))
 have r:=rbandq (zs:=[z0,z1,z2]) (n:=3) Jo rfl hg X hX (fun j=>evQ [z0,z1,z2] out data (midB (X 0)) (midB (X 1)) (midB (X 2)) j) (fun j=>fq_ev3 hg ((jbv (X 0)).mono (show 14≤40 by decide)) ((jbv (X 1)).mono (show 14≤40 by decide)) ((jbv (X 2)).mono (show 14≤40 by decide)) j) (fun j hj=>ev_in3 (x0:=midB (X 0)) (x1:=midB (X 1)) (x2:=midB (X 2)) hg hj) ev
 exact⟨_,_,_,Jo,p,r⟩
theorem alikeB_c {zs data:List Int}{out:Int}(hz:jaf zs out data=true→(zs.length=1∨zs.length=2∨zs.length=3)∧out≤3)(hs:zs.length≤281474976710656)(hd:data.length≤281474976710656)(X:Nat→Int×Int)(m:Nat):jhT zs data out X m:=by
 have k:=range_c zs out data hs hd
 have r:=jcS zs out data hs hd
 cases hg:jaf zs out data with
 | false=>
  rw[hg] at k r
  exact jhf (bands_b zs data _ _ out m _ k) (rbands_b zs data out m _ r)
 | true=>
  rw[hg] at k r
  by_cases hm:m=zs.length
  ·obtain⟨h3,ho3⟩:=hz hg
   rcases jgi (fun i=>vb (X i).1 (X i).2=true) m with h|⟨i,h1,h2,h3'⟩
   ·match zs,h3,hm,hg with
    | [z0],_,hm,hg=>obtain rfl:m=1:=hm;exact bothB1 hg ho3 X h
    | [z0,z1],_,hm,hg=>obtain rfl:m=2:=hm;exact bothB2 hg ho3 X h
    | [z0,z1,z2],_,hm,hg=>obtain rfl:m=3:=hm;exact bothB3 hg ho3 X h
   ·have kb:Cl 50 [.agg [Ji (X i).1,Ji (X i).2],Ji 0,Ji 1000000000000] (.tup [.agg [Ji 0,Ji 0],Ji 30]):=by
     have c:=clamp_b (X i).1 (X i).2 0 1000000000000
     rw[if_neg h3'] at c
     exact c
    have li:=listB_err (F:=49) (n:=m) (k:=i) Jo h1 (fun j=>(clI (X j).1,clI (X j).2)) (fun j hj=>jgp (n:=m) Jo X (jcG (h2 j hj))) (jgp (n:=m) h1 X kb)
    refine jhf (bands_li zs data _ _ out m _ hm k li) (rbands_cb (m:=i) Jo h1 hm Jd X (fun i=>txq (midB (X i))) (fun i=>txq (halB (X i))) r (fun j hj=>?_) ?_ (fun i hi=>jcT (by have:=jam (X i).1;have:=jam (X i).2;omega) Jd) (fun i hi=>jcT (by have:=jam (X i).1;have:=jam (X i).2;omega) Jd))
    ·have c:=jiG (X j).1 (X j).2
     rw[if_pos (h2 j hj)] at c
     exact c
    ·have c:=jiG (X i).1 (X i).2
     rw[if_neg h3'] at c
     exact c
  ·exact jhf (bands_ln zs data _ _ out m _ hm k) (rbands_len zs data out m _ hm r)
def spnB (a b:Nat→Int)(i:Nat):Int×Int:=(1000000000*min (a i) (b i),1000000000*max (a i) (b i))
def spw:Nat→D
 | 0 => .nil
 | k+1 => .bsl 37 0 (k+1) 2
def sph (a b:Nat→Int):Nat→Hp
 | 0=>[]
 | k+1=>[(37,.box (bce (spnB a b) (k+1)))]
theorem ji1:type_of% @jjC∧type_of% @tn0∧type_of% @tn1∧type_of% @tn2∧type_of% @tn3∧type_of% @xt4:=⟨@jjC,@tn0,@tn1,@tn2,@tn3,@xt4⟩
theorem jhk {n:Nat}(hn:1≤n∧n≤4)(a b:Nat→Int)(ha:∀ i, -32768≤a i∧a i≤32767)(hb:∀ i, -32768≤b i∧b i≤32767):Cl 17 [.agg [.int .i16 (a 0),.int .i16 (b 0),.int .i16 (a 1),.int .i16 (b 1),.int .i16 (a 2),.int .i16 (b 2),.int .i16 (a 3),.int .i16 (b 3)],Ji n] (slB (spnB a b) n):=by
 have h4:min (n:Int) 4=(n:Int):=Jo
 refine V.en tbOk Tryz.func17 ?_
 refine V.r0 (V.a2 ji1 h4) ?_
 refine jad (0:Nat) (fun k=>k≤n) (fun k=>n-k) (fun k=>[(9,Ji (k:Nat)),(5,spw k)]) (fun k=>sph a b k) ?_ ?_ ?_
 ·exact V.wk
 ·exact jjx _
 intro k hk
 try dsimp only at hk ⊢
 by_cases hkn:k<n
 ·have hlt:decide ((k:Int)<n)=true:=decide_eq_true Jo
  have g1:=ha k
  have g2:=hb k
  rcases (show k=0∨k=1∨k=2∨k=3 by omega) with rfl|rfl|rfl|rfl
  ·simp only[k0,spw,sph] at hlt ⊢
   refine V.r0 (V.a2 ji1 hlt) ?_
   refine⟨Pq2z,[],V.pok,?_⟩
   refine jab [(37,.bsl 37 0 1 2),(5,.bsl 37 0 1 2)] [(37,.box (bce (spnB a b) 1))] ?_ ?_
   ·exact V.d0 ji1
   refine V.r0 ji1 ?_
   exact⟨1,Jo,Jo,V.wk⟩
  ·simp only[k1,spw,sph] at hlt ⊢
   refine V.r0 (V.a2 ji1 hlt) ?_
   refine⟨Pq2z,[],V.pok,?_⟩
   refine jab [(37,.bsl 37 0 2 2),(5,.bsl 37 0 2 2)] [(37,.box (bce (spnB a b) 2))] ?_ ?_
   ·exact V.d0 ji1
   refine V.r0 ji1 ?_
   exact⟨2,Jo,Jo,V.wk⟩
  ·simp only[k2,spw,sph] at hlt ⊢
   refine V.r0 (V.a2 ji1 hlt) ?_
   refine⟨Pq2z,[],V.pok,?_⟩
   refine jab [(37,.bsl 37 0 3 2),(5,.bsl 37 0 3 2)] [(37,.box (bce (spnB a b) 3))] ?_ ?_
   ·exact V.d0 ji1
   refine V.r0 ji1 ?_
   exact⟨3,Jo,Jo,V.wk⟩
  ·simp only[k3,spw,sph] at hlt ⊢
   refine V.r0 (V.a2 ji1 hlt) ?_
   refine⟨Pq2z,[],V.pok,?_⟩
   refine jab [(37,.bsl 37 0 4 2),(5,.bsl 37 0 4 2)] [(37,.box (bce (spnB a b) 4))] ?_ ?_
   ·exact V.d0 ji1
   refine V.r0 ji1 ?_
   exact⟨4,Jo,Jo,V.wk⟩
 ·have hlf:decide ((k:Int)<n)=false:=decide_eq_false Jo
  obtain rfl:k=n:=Jo
  rcases (show k=1∨k=2∨k=3∨k=4 by omega) with rfl|rfl|rfl|rfl
  all_goals
   simp only[spw,sph] at hlf ⊢
   refine V.r0 (V.a2 ji1 hlf) ?_
   exact Fin.of rfl
def lsb (B:Nat→Int×Int):Nat→List (Int×Int)
 | 0=>[]
 | k+1=>lsb B k++[B k]
theorem jgY (B:Nat→Int×Int):∀ n,(lsb B n).length=n
 | 0=>rfl
 | n+1=>by simp only[lsb,jkd,jgY B n,jkn,List.length_nil]
theorem bce_icl (B:Nat→Int×Int):∀ n,bce B n=icl (lsb B n)
 | 0=>rfl
 | n+1=>by simp only[bce,lsb,bce_icl B n,icl_app,icl]
def slI (L:List (Int×Int)):D:=V.sl2 L.length (icl L)
theorem slB_I (B:Nat→Int×Int)(n:Nat):slB B n=slI (lsb B n):=by
 unfold slB slI
 rw[bce_icl,jgY]
theorem jfv (L:List (Int×Int)):_root_.Go.V.Fin (slF (fun j=>L.getD j (0,0)) L.length) (slI L):=jbk (fun j hj=>icl_at L j hj)
theorem eqB_f (n:Nat)(X:Nat→Int×Int)(hn:n≤40):Cl 21 [.slf 2 n (fun j=>[Ji (X j).1,Ji (X j).2]),.slf 2 n (fun j=>[Ji (X j).1,Ji (X j).2])] (.bool true):=by
 refine V.en tbOk Tryz.func21 ?_
 (conv=>whnf)
 (conv=>whnf)
 (try simp only[])
 repeat ((first|refine V.s1 ?_);(try simp only[]))
 refine Cnd.no (decide_eq_false (fun h=>h rfl)) ?_
 (conv=>whnf)
 (try simp only[])
 repeat ((first|refine V.s1 ?_);(try simp only[]))
 refine jad ((0:Nat)) (fun k=>k≤n) (fun k=>n-k) (fun k=>[(13,Ji k)]) (fun k=>[]) ?_ ?_ ?_
 ·exact V.wk
 ·exact jjx _
 intro k hk
 have hkc:((k:Int)+1)=((k+1:Nat):Int):=Jo
 by_cases hkn:k<n
 ·have hlt:decide ((k:Int)<n)=true:=decide_eq_true Jo
  refine V.r0 (V.a2 hlt @jjF) ?_
  refine⟨Pq27z,[],V.pok,?_⟩
  refine jab [(24,.bool false)] [] ?_ ?_
  ·exact V.d0 (V.a4 @jjF @decide_true @Bool.and_self @Bool.not_true)
  refine V.r0 (V.a2 hkc @jjF) ?_
  exact⟨k+1,Jo,Jo,V.wk⟩
 ·have hlt:decide ((k:Int)<n)=false:=decide_eq_false Jo
  refine V.r0 hlt ?_
  exact Fin.of rfl
theorem eqB_q (w:Nat→Int×Int)(n:Nat)(h:n≤4):Cl 21 [slB w n,slB w n] (.bool true):=by
 have f:_root_.Go.V.Fin (slF w n) (slB w n):=jbk (fun j hj=>bce_a w n j hj)
 exact Called.arg (show FinL [slF w n,slF w n] [slB w n,slB w n] from ⟨f,f,trivial⟩) (eqB_f n w Jo)
def AlikeF (zs data:List Int)(out:Int)(E:D):Prop:=
  ∃ (y:Nat→Int×Int) (yn:Nat) (e:Int),yn≤4 ∧
   Cl 19 [.agg [Jj zs,Ji out,Jj data],E] (.tup [slB y yn,Ji e]) ∧
   Cl 20 [.agg [Jj zs,Ji out,Jj data],E] (.tup [slB y yn,Ji e])
def three {α:Type}(a b c:α):Nat→α
 | 0=>a
 | 1=>b
 | _=>c
theorem jgr {zs data:List Int}{out:Int}(hz:jaf zs out data=true→(zs.length=1∨zs.length=2∨zs.length=3)∧out≤3)(hs:zs.length≤100)(hd:data.length≤100000)(X:Nat→Int×Int)(m:Nat){E:D}(hE:_root_.Go.V.Fin (slF X m) E):AlikeF zs data out E:=by
 obtain⟨y,yn,e,h,c1,c2⟩:=alikeB_c hz Jo Jo X m
 exact⟨y,yn,e,h,argL c1 hE,argL c2 hE⟩
theorem zX109_0:type_of% @jjF∧type_of% @jjD∧type_of% @jjC:=⟨@jjF,@jjD,@jjC⟩
theorem jjr:type_of% @jjF∧type_of% @jkk ∧ type_of% @jjC∧type_of% @k0:=⟨@jjF,@jkk,@jjC,@k0⟩
theorem ji4:type_of% @jjF∧type_of% @jjC∧type_of% @Nat.zero_mul∧type_of% @tn0:=⟨@jjF,@jjC,@Nat.zero_mul,@tn0⟩
theorem jiV:type_of% @jjF∧type_of% @jjC:=⟨@jjF,@jjC⟩
theorem jjq:type_of% @jjF∧type_of% @jkk ∧ type_of% @jjC∧type_of% @k1:=⟨@jjF,@jkk,@jjC,@k1⟩
theorem sbands_w (R:List (Int×Int))(ds:List Int)(o:Int)(vals:List Int)(sm:Bool)(kb:Int)(a b:Nat→Int)(zs data:List Int)(out:Int)(hR:R.length≤281474976710656)(hk8:0≤kb∧kb≤255)(hzl:1≤zs.length∧zs.length≤3)(hg:jaf zs out data=true)(ho3:out≤3)(ha:∀ i, -32768≤a i∧a i≤32767)(hb:∀ i, -32768≤b i∧b i≤32767)
  (wk:Cl 6 [] (.bool true)) (gd:Cl 7 [.agg [.ints .u8 ds,.int .u8 o,.ints .u16 vals,.bool sm]] (.agg [Jj zs,Ji out,Jj data])) :
  Cl 4 [.agg [.ints .u8 ds,.int .u8 o,.ints .u16 vals,.bool sm],.int .u8 kb,.agg [.int .i16 (a 0),.int .i16 (b 0),.int .i16 (a 1),.int .i16 (b 1),.int .i16 (a 2),.int .i16 (b 2),.int .i16 (a 3),.int .i16 (b 3)],.slf 2 R.length (fun j=>[Ji (R.getD j (0,0)).1,Ji (R.getD j (0,0)).2])] (.bool true):=by
 have bn:=bent_c zs data out kb hk8 Jo
 obtain⟨m,hm⟩:∃ m:Nat,min (R.length:Int) 5=(m:Int):=⟨(min (R.length:Int) 5).toNat,Jo⟩
 have hml:m≤R.length:=Jo
 have hm5:m≤5:=Jo
 obtain⟨X,hX⟩:∃ X:Nat→Int×Int,X=fun j=>R.getD j (0,0):=⟨_,rfl⟩
 have hXj:∀ j,R.getD j (0,0)=X j:=fun j=>by rw[hX]
 simp only[hXj]
 obtain⟨rl,hrl⟩:∃ n:Nat,R.length=n:=⟨_,rfl⟩
 rw[hrl] at hm hml hR ⊢
 clear hX hXj hrl
 refine V.en tbOk Tryz.func4 ?_
 refine V.r1 (V.a2 zX109_0 hm) wk ?_
 refine⟨(V.tk [0,2,4,7] (V.e1 1 [7,4,2] (V.e1 3 [7,4] (V.e1 5 [7] (V.tk [6] .done))))),[],V.pok,.go (jac ?_)⟩
 refine V.r2 (V.a2 zX109_0 hm) gd bn ?_
 obtain⟨gz,egz⟩:∃ gz,bentZ kb zs=gz:=⟨_,rfl⟩
 obtain⟨go,ego⟩:∃ go,bentO kb out=go:=⟨_,rfl⟩
 have gl:1≤gz.length∧gz.length≤4:=by
  rw[← egz]
  unfold bentZ
  split
  ·rw[jkn];omega
  ·omega
 have gz3:jaf gz go data=true→(gz.length=1∨gz.length=2∨gz.length=3)∧go≤3:=fun h=>by
  rcases bent_bad (k:=kb) hg with⟨e1,e2⟩|e1
  ·rw[egz] at e1;rw[ego] at e2;rw[e1,e2];omega
  ·rw[egz,ego,h] at e1;cases e1
 have zz3:jaf zs out data=true→(zs.length=1∨zs.length=2∨zs.length=3)∧out≤3:=fun _=>Jo
 have og:=jaq hg
 rw[egz,ego]
 refine jad (0:Nat) (fun k=>k≤2) (fun k=>2-k) (fun k=>[(33,Ji (k:Nat))]) (fun _=>[]) ?_ ?_ ?_
 ·exact V.wk
 ·exact jjx _
 intro g hg2
 try dsimp only at hg2 ⊢
 have hg3:g=0∨g=1∨g=2:=Jo
 rcases hg3 with e|e|e
 all_goals subst e
 ·have cc:=jhk (n:=zs.length) Jo a b ha hb
  rw[slB_I] at cc
  have ll:=jgY (spnB a b) zs.length
  obtain⟨L,hL⟩:∃ L,lsb (spnB a b) zs.length=L:=⟨_,rfl⟩
  rw[hL] at cc ll
  have cl:∀ K,catF 2 (fun j=>List.take 2 (List.drop (j*2) (icl L))) L.length [] K=K (icl L):=fun K=>by rw[catF_i L K L.length [] (jjG _),List.append_nil,jkz]
  have pu:=jg1 L
  have fr:=icl_fr L
  have pg:=icl_pg L
  have hb0:Nat.beq L.length 0=false:=by
   cases e:Nat.beq L.length 0 with
   | false=>rfl
   | true=>have:=Nat.eq_of_beq_eq_true e;omega
  have hz:Nat.ble L.length 1000000=true:=by rw[Nat.ble_eq];omega
  unfold slI at cc
  refine V.r1 (V.a3 jjr fr hz) cc ?_
  refine V.il Tryz.func18 ?_
  (conv=>whnf)
  (conv=>whnf)
  (try simp only[jjr,fr,hz])
  repeat ((first|refine V.s1 ?_|((try ((with_reducible refine .ext ?_);(conv=>whnf);(try simp only[jjr,fr,hz])));(with_reducible refine jaa (r:=?_) ?_ ?_);rotate_left;(focus (first|fail));(conv=>whnf))|(((rewrite [hb0];(conv=>whnf)));(conv=>whnf))|(((rewrite [cl];(conv=>whnf)));(conv=>whnf))|(((rewrite [pu];(conv=>whnf)));(conv=>whnf))|(((rewrite [pg];(conv=>whnf)));(conv=>whnf)));(try simp only[jjr,fr,hz]))
  obtain⟨i,hi⟩:∃ i:Nat,kb%(L.length:Int)=(i:Int):=⟨(kb%(L.length:Int)).toNat,by have:=jjz kb (show (L.length:Int)≠0 by omega);omega⟩
  have hi2:i<L.length:=by have:=jjY kb (show (0:Int)<L.length by omega);omega
  have hmod:kb.tmod (L.length:Int)=(i:Int):=by rw[Int.tmod_eq_emod_of_nonneg hk8.1,hi]
  have w1:∀ s t K,jbq (icl L) (i*2) [Ji s,Ji t] K=K (icl (L.set i (s,t))):=fun s t K=>jft s t K L i hi2
  have w2:∀ s t K,jbq (icl L) (0+i*2) [Ji s,Ji t] K=K (icl (L.set i (s,t))):=fun s t K=>by rw[jjC];exact jft s t K L i hi2
  obtain⟨M,hM,h0M,h1M⟩:∃ M:List (Int×Int),M.length=L.length∧(m=0→M=L)∧(0<m→L.set i ((X 0).1,(X 0).2)=M):=by
   rcases jjI m with h|h
   ·exact⟨L,rfl,fun _=>rfl,fun h2=>Jo⟩
   ·exact⟨L.set i ((X 0).1,(X 0).2),by rw[jkw],fun h2=>Jo,fun _=>rfl⟩
  have pgM:=icl_pg M
  refine ja5 [] [(99,.box (icl M))] (CondB.mk (fun hc=>?_) (fun hc=>?_)) ?_
  ·have m0:0<m:=by simp at hc;omega
   have hM1:=h1M m0
   (conv=>whnf)
   (try simp only[ji4,hmod,hi])
   repeat ((first|refine V.s1 ?_|((try ((with_reducible refine .ext ?_);(conv=>whnf);(try simp only[ji4,hmod,hi])));(with_reducible refine jaa (r:=?_) ?_ ?_);rotate_left;(focus (first|fail));(conv=>whnf))|(((rewrite [pg];(conv=>whnf)));(conv=>whnf)));(try simp only[ji4,hmod,hi]))
   refine⟨(V.tk [0,1,2,3,4,5,6,7,8,9] (V.e1 10 [] .done)),[],V.pok,.go (jac ?_)⟩
   (conv=>whnf)
   (try simp only[ji4,hmod,hi])
   repeat ((first|refine V.s1 ?_|((try ((with_reducible refine .ext ?_);(conv=>whnf);(try simp only[ji4,hmod,hi])));(with_reducible refine jaa (r:=?_) ?_ ?_);rotate_left;(focus (first|fail));(conv=>whnf))|(((rewrite [w2];(conv=>whnf)));(conv=>whnf))|(((rewrite [w1];(conv=>whnf)));(conv=>whnf))|(((rewrite [pg];(conv=>whnf)));(conv=>whnf)));(try simp only[ji4,hmod,hi]))
   rw[hM1]
   exact V.wk
  ·have m0:m=0:=by simp at hc;omega
   have hM1:=h0M m0
   subst hM1
   (conv=>whnf)
   (try simp only[jiV])
   repeat ((first|refine V.s1 ?_|((try ((with_reducible refine .ext ?_);(conv=>whnf);(try simp only[jiV])));(with_reducible refine jaa (r:=?_) ?_ ?_);rotate_left;(focus (first|fail));(conv=>whnf))|(((rewrite [pg];(conv=>whnf)));(conv=>whnf)));(try simp only[jiV]))
   exact V.wk
  (conv=>whnf)
  (conv=>whnf)
  (try simp only[jiV])
  repeat ((first|refine V.s1 ?_|((try ((with_reducible refine .ext ?_);(conv=>whnf);(try simp only[jiV])));(with_reducible refine jaa (r:=?_) ?_ ?_);rotate_left;(focus (first|fail));(conv=>whnf))|(((rewrite [pgM];(conv=>whnf)));(conv=>whnf)));(try simp only[jiV]))
  have bokM:bslOk (icl M) 0 L.length 2=true:=by
   have h:=icl_bsl M
   rw[hM] at h
   exact h
  have pbM:=fun i c K=>jg2 M i c K
  have pbL:=fun i c K=>jg2 L i c K
  refine Lp.pub 99 ?_
  (conv=>whnf)
  repeat (first|(rewrite [bokM];(conv=>whnf))|(rewrite [pbM];(conv=>whnf))|(rewrite [pbL];(conv=>whnf)))
  try simp only[jjC]
  have fM:_root_.Go.V.Fin (slF (fun j=>M.getD j (0,0)) M.length) (.slf 2 L.length (fun q=>List.take 2 (List.drop (q*2) (icl M)))):=by rw[← hM];exact jfv M
  refine jad (0:Nat) (fun v=>v≤3) (fun v=>3-v) (fun v=>[(65,Ji (v:Nat))]) (fun _=>[]) ?_ ?_ ?_
  ·exact V.wk
  ·exact jjx _
  intro v hv
  try dsimp only at hv ⊢
  have al:∀ v,v<3→AlikeF zs data out (three (slI L) (.slf 2 m (fun j=>[Ji (X j).1,Ji (X j).2])) (.slf 2 L.length (fun q=>List.take 2 (List.drop (q*2) (icl M)))) v):=fun v hv=>by
   rcases (show v=0∨v=1∨v=2 by omega) with rfl|rfl|rfl
   ·exact jgr zz3 Jo Jo _ _ (jfv L)
   ·exact jgr zz3 Jo Jo X m (Fin.same _)
   ·exact jgr zz3 Jo Jo _ _ fM
  by_cases h5:v=3
  ·subst h5
   refine V.r0 @jjF ?_
   exact⟨1,Jo,Jo,V.wk⟩
  obtain⟨y,yn,e,hy,d1,d2⟩:=al v Jo
  have q1:=eqB_q y yn hy
  rcases (show v=0∨v=1∨v=2 by omega) with rfl|rfl|rfl
  all_goals
   (conv=>whnf)
   (try simp only[jiV])
   repeat ((first|refine V.s1 ?_|((try ((with_reducible refine .ext ?_);(conv=>whnf);(try simp only[jiV])));(with_reducible refine jaa (r:=?_) ?_ ?_);rotate_left;(focus (first|exact(d1)|exact(d2)));(conv=>whnf))|((refine⟨_,fun _=>q1,?_⟩);(conv=>whnf)));(try simp only[jiV]))
   refine Cnd.no Js ?_
   refine V.r0 @jjF ?_
  ·exact⟨1,Jo,Jo,V.wk⟩
  ·exact⟨2,Jo,Jo,V.wk⟩
  ·exact⟨3,Jo,Jo,V.wk⟩
 ·have cc:=jhk (n:=gz.length) Jo a b ha hb
  rw[slB_I] at cc
  have ll:=jgY (spnB a b) gz.length
  obtain⟨L,hL⟩:∃ L,lsb (spnB a b) gz.length=L:=⟨_,rfl⟩
  rw[hL] at cc ll
  have cl:∀ K,catF 2 (fun j=>List.take 2 (List.drop (j*2) (icl L))) L.length [] K=K (icl L):=fun K=>by rw[catF_i L K L.length [] (jjG _),List.append_nil,jkz]
  have pu:=jg1 L
  have fr:=icl_fr L
  have pg:=icl_pg L
  have hb0:Nat.beq L.length 0=false:=by
   cases e:Nat.beq L.length 0 with
   | false=>rfl
   | true=>have:=Nat.eq_of_beq_eq_true e;omega
  have hz:Nat.ble L.length 1000000=true:=by rw[Nat.ble_eq];omega
  unfold slI at cc
  refine V.r1 (V.a3 jjq fr hz) cc ?_
  refine V.il Tryz.func18 ?_
  (conv=>whnf)
  (conv=>whnf)
  (try simp only[jjq,fr,hz])
  repeat ((first|refine V.s1 ?_|((try ((with_reducible refine .ext ?_);(conv=>whnf);(try simp only[jjq,fr,hz])));(with_reducible refine jaa (r:=?_) ?_ ?_);rotate_left;(focus (first|fail));(conv=>whnf))|(((rewrite [hb0];(conv=>whnf)));(conv=>whnf))|(((rewrite [cl];(conv=>whnf)));(conv=>whnf))|(((rewrite [pu];(conv=>whnf)));(conv=>whnf))|(((rewrite [pg];(conv=>whnf)));(conv=>whnf)));(try simp only[jjq,fr,hz]))
  obtain⟨i,hi⟩:∃ i:Nat,kb%(L.length:Int)=(i:Int):=⟨(kb%(L.length:Int)).toNat,by have:=jjz kb (show (L.length:Int)≠0 by omega);omega⟩
  have hi2:i<L.length:=by have:=jjY kb (show (0:Int)<L.length by omega);omega
  have hmod:kb.tmod (L.length:Int)=(i:Int):=by rw[Int.tmod_eq_emod_of_nonneg hk8.1,hi]
  have w1:∀ s t K,jbq (icl L) (i*2) [Ji s,Ji t] K=K (icl (L.set i (s,t))):=fun s t K=>jft s t K L i hi2
  have w2:∀ s t K,jbq (icl L) (0+i*2) [Ji s,Ji t] K=K (icl (L.set i (s,t))):=fun s t K=>by rw[jjC];exact jft s t K L i hi2
  obtain⟨M,hM,h0M,h1M⟩:∃ M:List (Int×Int),M.length=L.length∧(m=0→M=L)∧(0<m→L.set i ((X 0).1,(X 0).2)=M):=by
   rcases jjI m with h|h
   ·exact⟨L,rfl,fun _=>rfl,fun h2=>Jo⟩
   ·exact⟨L.set i ((X 0).1,(X 0).2),by rw[jkw],fun h2=>Jo,fun _=>rfl⟩
  have pgM:=icl_pg M
  refine ja5 [] [(99,.box (icl M))] (CondB.mk (fun hc=>?_) (fun hc=>?_)) ?_
  ·have m0:0<m:=by simp at hc;omega
   have hM1:=h1M m0
   (conv=>whnf)
   (try simp only[ji4,hmod,hi])
   repeat ((first|refine V.s1 ?_|((try ((with_reducible refine .ext ?_);(conv=>whnf);(try simp only[ji4,hmod,hi])));(with_reducible refine jaa (r:=?_) ?_ ?_);rotate_left;(focus (first|fail));(conv=>whnf))|(((rewrite [pg];(conv=>whnf)));(conv=>whnf)));(try simp only[ji4,hmod,hi]))
   refine⟨(V.tk [0,1,2,3,4,5,6,7,8,9] (V.e1 10 [] .done)),[],V.pok,.go (jac ?_)⟩
   (conv=>whnf)
   (try simp only[ji4,hmod,hi])
   repeat ((first|refine V.s1 ?_|((try ((with_reducible refine .ext ?_);(conv=>whnf);(try simp only[ji4,hmod,hi])));(with_reducible refine jaa (r:=?_) ?_ ?_);rotate_left;(focus (first|fail));(conv=>whnf))|(((rewrite [w2];(conv=>whnf)));(conv=>whnf))|(((rewrite [w1];(conv=>whnf)));(conv=>whnf))|(((rewrite [pg];(conv=>whnf)));(conv=>whnf)));(try simp only[ji4,hmod,hi]))
   rw[hM1]
   exact V.wk
  ·have m0:m=0:=by simp at hc;omega
   have hM1:=h0M m0
   subst hM1
   (conv=>whnf)
   (try simp only[jiV])
   repeat ((first|refine V.s1 ?_|((try ((with_reducible refine .ext ?_);(conv=>whnf);(try simp only[jiV])));(with_reducible refine jaa (r:=?_) ?_ ?_);rotate_left;(focus (first|fail));(conv=>whnf))|(((rewrite [pg];(conv=>whnf)));(conv=>whnf)));(try simp only[jiV]))
   exact V.wk
  (conv=>whnf)
  (conv=>whnf)
  (try simp only[jiV])
  repeat ((first|refine V.s1 ?_|((try ((with_reducible refine .ext ?_);(conv=>whnf);(try simp only[jiV])));(with_reducible refine jaa (r:=?_) ?_ ?_);rotate_left;(focus (first|fail));(conv=>whnf))|(((rewrite [pgM];(conv=>whnf)));(conv=>whnf)));(try simp only[jiV]))
  have bokM:bslOk (icl M) 0 L.length 2=true:=by
   have h:=icl_bsl M
   rw[hM] at h
   exact h
  have pbM:=fun i c K=>jg2 M i c K
  have pbL:=fun i c K=>jg2 L i c K
  refine Lp.pub 99 ?_
  (conv=>whnf)
  repeat (first|(rewrite [bokM];(conv=>whnf))|(rewrite [pbM];(conv=>whnf))|(rewrite [pbL];(conv=>whnf)))
  try simp only[jjC]
  have fM:_root_.Go.V.Fin (slF (fun j=>M.getD j (0,0)) M.length) (.slf 2 L.length (fun q=>List.take 2 (List.drop (q*2) (icl M)))):=by rw[← hM];exact jfv M
  refine jad (0:Nat) (fun v=>v≤3) (fun v=>3-v) (fun v=>[(65,Ji (v:Nat))]) (fun _=>[]) ?_ ?_ ?_
  ·exact V.wk
  ·exact jjx _
  intro v hv
  try dsimp only at hv ⊢
  have al:∀ v,v<3→AlikeF gz data go (three (slI L) (.slf 2 m (fun j=>[Ji (X j).1,Ji (X j).2])) (.slf 2 L.length (fun q=>List.take 2 (List.drop (q*2) (icl M)))) v):=fun v hv=>by
   rcases (show v=0∨v=1∨v=2 by omega) with rfl|rfl|rfl
   ·exact jgr gz3 Jo Jo _ _ (jfv L)
   ·exact jgr gz3 Jo Jo X m (Fin.same _)
   ·exact jgr gz3 Jo Jo _ _ fM
  by_cases h5:v=3
  ·subst h5
   refine V.r0 @jjF ?_
   exact⟨2,Jo,Jo,V.wk⟩
  obtain⟨y,yn,e,hy,d1,d2⟩:=al v Jo
  have q1:=eqB_q y yn hy
  rcases (show v=0∨v=1∨v=2 by omega) with rfl|rfl|rfl
  all_goals
   (conv=>whnf)
   (try simp only[jiV])
   repeat ((first|refine V.s1 ?_|((try ((with_reducible refine .ext ?_);(conv=>whnf);(try simp only[jiV])));(with_reducible refine jaa (r:=?_) ?_ ?_);rotate_left;(focus (first|exact(d1)|exact(d2)));(conv=>whnf))|((refine⟨_,fun _=>q1,?_⟩);(conv=>whnf)));(try simp only[jiV]))
   refine Cnd.no Js ?_
   refine V.r0 @jjF ?_
  ·exact⟨1,Jo,Jo,V.wk⟩
  ·exact⟨2,Jo,Jo,V.wk⟩
  ·exact⟨3,Jo,Jo,V.wk⟩
 ·refine V.r0 (V.a2 @jjF @k2) ?_
  exact Fin.of rfl
end Go.Proofs.YtbnghipgicmpdaaGreatDoor
end
section
namespace Go.Proofs.YtbnghipgicmpdaaGreatDoor
open Go Go.V Go.Nb Go.Gr
theorem jiY:type_of% @jjC∧type_of% @tn0∧type_of% @tn1∧type_of% @tn2∧type_of% @tn3∧type_of% @xt4:=⟨@jjC,@tn0,@tn1,@tn2,@tn3,@xt4⟩
theorem wakes_t (Q:Nat→Tx)
  (o0:Cl 30 [Ji 1,Ji 2] (Jt (Q 0)))
  (o1:Cl 30 [Ji 1,Ji 4] (Jt (Q 1)))
  (o2:Cl 30 [Ji 7,Ji 20] (Jt (Q 2)))
  (o3:Cl 30 [Ji 3,Ji 10] (Jt (Q 3)))
  (o4:Cl 30 [Ji 1,Ji 1] (Jt (Q 4)))
  (o5:Cl 30 [Ji 2,Ji 1] (Jt (Q 5)))
  (fo:Cl 29 [] (.agg [Jj [2,2],Ji 1,Jj [0,13107,26214,65535]]))
  (ce:Cl 11 [.agg [Jj [2,2],Ji 1,Jj [0,13107,26214,65535]],V.sl2 2 [.str (Q 0).1,.str (Q 0).2,.str (Q 1).1,.str (Q 1).2]] (.tup [Jj [0,0],Jj [0,1],V.sl2 3 [.str (Q 0).1,.str (Q 0).2,.str (Q 1).1,.str (Q 1).2,.str (Q 1).1,.str (Q 1).2],Ji 0]))
  (st:Cl 22 [.agg [Jj [2,2],Ji 1,Jj [0,13107,26214,65535]]] (.tup [.slf 1 1 (fun j=>List.take 1 (List.drop (j*1) [Jj [52428,39321]])),Ji 0]))
  (b1:Cl 19 [.agg [Jj [2,2],Ji 1,Jj [0,13107,26214,65535]],V.sl2 2 [Ji 500000000000,Ji 500000000000,Ji 250000000000,Ji 250000000000]] (.tup [V.sl2 1 [Ji 350000000000,Ji 350000000000],Ji 0]))
  (b2:Cl 19 [.agg [Jj [2,2],Ji 1,Jj [0,13107,26214,65535]],V.sl2 2 [Ji 250000000000,Ji 750000000000,Ji 250000000000,Ji 250000000000]] (.tup [V.sl2 1 [Ji 150000000000,Ji 550000000000],Ji 0]))
  (re:Cl 26 [.agg [Jj [2,2],Ji 1,Jj [0,13107,26214,65535]],Jj [3,2]] (.tup [.agg [Jj [3,2],Ji 1,Jj [0,13107,13107,39321,26214,65535]],Ji 0]))
  (ee:Cl 13 [.agg [Jj [2,2],Ji 1,Jj [0,13107,26214,65535]],V.sl2 1 [.str (Q 0).1,.str (Q 0).2]] (.tup [.nil,Ji 2]))
  (v0:Cl 31 [.agg [Jj [2,2],Ji 1,Jj [0,13107,26214,65535]],Jt (Q 2),V.sl2 2 [.str (Q 0).1,.str (Q 0).2,.str (Q 1).1,.str (Q 1).2]] (.bool true))
  (v1:Cl 31 [.agg [Jj [2,2],Ji 1,Jj [0,13107,26214,65535]],Jt (Q 3),V.sl2 2 [.str (Q 1).1,.str (Q 1).2,.str (Q 0).1,.str (Q 0).2]] (.bool true))
  (v2:Cl 31 [.agg [Jj [2,2],Ji 1,Jj [0,13107,26214,65535]],Jt (Q 4),V.sl2 2 [.str (Q 5).1,.str (Q 5).2,.str (Q 4).1,.str (Q 4).2]] (.bool true)) :
  Cl 6 [] (.bool true):=by
 have q0:=jg5 [0,0] [0,0] Jd Jd
 have q1:=jg5 [0,1] [0,1] Jd Jd
 have q2:=jg5 [52428,39321] [52428,39321] Jd Jd
 have q3:=jg5 [0,13107,13107,39321,26214,65535] [0,13107,13107,39321,26214,65535] Jd Jd
 have f3:=eqf3 (fun k=>if k=0 then Q 0 else Q 1)
 have g1:=eqb1 (fun _=>(350000000000,350000000000))
 have g2:=eqb1 (fun _=>(150000000000,550000000000))
 refine V.en tbOk Tryz.func6 ?_
 (conv=>whnf)
 (conv=>whnf)
 (try simp only[jiY])
 repeat ((first|refine V.s1 ?_|((try ((with_reducible refine .ext ?_);(conv=>whnf);(try simp only[jiY])));(with_reducible refine jaa (r:=?_) ?_ ?_);rotate_left;(focus (first|exact(o0)|exact(o1)|exact(o2)|exact(o3)|exact(o4)|exact(o5)|exact(fo)|exact(ce)|exact(st)|exact(b1)|exact(b2)|exact(re)|exact(ee)|exact(v0)|exact(v1)|exact(v2)|exact(q0)|exact(q1)|exact(q2)|exact(q3)|exact(f3)|exact(g1)|exact(g2)));(conv=>whnf)));(try simp only[jiY]))
 refine⟨(V.tk [0] (V.e1 1 [0] (V.e1 2 [0] (V.e1 3 [0] (V.e1 4 [] (V.tk [5,6,7,8,9,10,11,12,13] .done)))))),[],V.pok,?_⟩
 refine jab [(2,Jj [0,0]),(3,Jj [0,1]),(4,V.sl2 3 [.str (Q 0).1,.str (Q 0).2,.str (Q 1).1,.str (Q 1).2,.str (Q 1).1,.str (Q 1).2]),(5,Ji 0)] [] ?_ ?_
 ·exact V.d3 jiY o0 o1 ce
 (conv=>whnf)
 (try simp only[jiY])
 repeat ((first|refine V.s1 ?_|((try ((with_reducible refine .ext ?_);(conv=>whnf);(try simp only[jiY])));(with_reducible refine jaa (r:=?_) ?_ ?_);rotate_left;(focus (first|exact(o0)|exact(o1)|exact(o2)|exact(o3)|exact(o4)|exact(o5)|exact(fo)|exact(ce)|exact(st)|exact(b1)|exact(b2)|exact(re)|exact(ee)|exact(v0)|exact(v1)|exact(v2)|exact(q0)|exact(q1)|exact(q2)|exact(q3)|exact(f3)|exact(g1)|exact(g2)));(conv=>whnf)));(try simp only[jiY]))
 refine⟨(V.tk [0] (V.e1 1 [0] (V.e1 2 [0] (V.e1 3 [] (V.tk [4,5,6,7,8] .done))))),[],V.pok,?_⟩
 refine jab [(17,Ji 2)] [] ?_ ?_
 ·exact V.d3 jiY o0 o1 ee
 (conv=>whnf)
 (try simp only[jiY])
 repeat ((first|refine V.s1 ?_|((try ((with_reducible refine .ext ?_);(conv=>whnf);(try simp only[jiY])));(with_reducible refine jaa (r:=?_) ?_ ?_);rotate_left;(focus (first|exact(o0)|exact(o1)|exact(o2)|exact(o3)|exact(o4)|exact(o5)|exact(fo)|exact(ce)|exact(st)|exact(b1)|exact(b2)|exact(re)|exact(ee)|exact(v0)|exact(v1)|exact(v2)|exact(q0)|exact(q1)|exact(q2)|exact(q3)|exact(f3)|exact(g1)|exact(g2)));(conv=>whnf)));(try simp only[jiY]))
 refine⟨(V.tk [0] (V.e1 1 [0] (V.e1 2 [] (V.tk [3,4] (V.e1 5 [4] (V.e1 6 [] (V.tk [7,8,9] (V.e1 10 [9] (V.e1 11 [9] (V.e1 12 [9] (V.e1 13 [9] (V.e1 14 [] (V.tk [15,16,17] (V.e1 18 [17] (V.e1 19 [17] (V.e1 20 [17] (V.e1 21 [17] (V.e1 22 [] (V.tk [23,24,25] (V.e1 26 [25] (V.e1 27 [25] (V.e1 28 [25] (V.e1 29 [25] (V.e1 30 [] (V.tk [31,32,33] (V.e1 34 [33] (V.e1 35 [33] (V.e1 36 [33] (V.e1 37 [33] (V.e1 38 [] (V.tk [39,40,41,42,43] (V.e1 44 [43,42,41] (V.e1 45 [] (V.tk [46,47,48,49] (V.e1 50 [48] (V.e1 51 [] (V.tk [52,53,54,55] (V.e1 56 [54] (V.e1 57 [] (V.tk [58,59,60,61] (V.e1 62 [61,60] (V.e1 63 [] (V.tk [64,65] .done))))))))))))))))))))))))))))))))))))))))))),[],V.pok,?_⟩
 refine jab [(0,.bool true)] [] ?_ ?_
 ·(conv=>whnf);(try simp only[jiY])
  repeat' (first|exact V.wk|((with_reducible refine And.intro ?_ jaz);(conv=>whnf);(try simp only[jiY]))|((with_reducible first|refine jas ?_ ?_|refine jau ?_ ?_)<;>(conv=>whnf);(try simp only[jiY]))|((first|refine V.s1 ?_|((with_reducible refine jal ?_ ?_);(focus ((conv=>whnf);(try simp only[jiY]);(repeat ((first|refine V.s1 ?_);(try simp only[jiY])));exact⟨rfl⟩));(conv=>whnf))|((try ((with_reducible refine .ext ?_);(conv=>whnf);(try simp only[jiY])));(with_reducible refine jaa (r:=?_) ?_ ?_);rotate_left;(focus (first|exact(o0)|exact(o1)|exact(o2)|exact(o3)|exact(o4)|exact(o5)|exact(fo)|exact(ce)|exact(st)|exact(b1)|exact(b2)|exact(re)|exact(ee)|exact(v0)|exact(v1)|exact(v2)|exact(q0)|exact(q1)|exact(q2)|exact(q3)|exact(f3)|exact(g1)|exact(g2)));(conv=>whnf)));(try simp only[jiY]))|(refine And.intro ?_ ?_<;>(conv=>whnf);(try simp only[jiY])))
 refine V.r0 jiY ?_
 exact Fin.of rfl
theorem bandq2_1 {z0 z1 out:Int}(ho:out=1){data:List Int}(hg:jaf [z0,z1] out data=true)(X:Nat→Int×Int)(hX:∀ i,i<2→vb (X i).1 (X i).2=true) :
  Cl 19 [gridD [z0,z1] out data,slB X 2] (.tup [slB (fun j=>confB (evQ [z0,z1] out data (midB (X 0)) (midB (X 1)) 0 j) (sprQ [z0,z1] data out 2 X j) (Rat.divInt ((loL out data).getD j 0) 65535) (Rat.divInt ((hiL out data).getD j 0) 65535)) out.toNat,Ji 0]):=by
 have og:=jaq hg
 have so:=jcf (out:=out) og.2.2.2 og.2.1 2 (jjG _)
 have rl:=jf3 hg
 have li:=blist2a (F:=49) (fun i=>(clI (X i).1,clI (X i).2)) (jhR X (clI (X 0).1,clI (X 0).2) (jcG (hX 0 Jd))) (jhQ X (clI (X 1).1,clI (X 1).2) (jcG (hX 1 Jd)))
 have fm0:=(jbv (X 0)).mono (show 14≤40 by decide)
 have fm1:=(jbv (X 1)).mono (show 14≤40 by decide)
 have om:∀ i,i<2→Cl 51 [Ji (clI (X i).1+clI (X i).2),Ji 2000000000000] (frT (midB (X i))):=fun i _=>jbD (by have:=jam (X i).1;have:=jam (X i).2;omega) Jd
 have oh:∀ i,i<2→Cl 51 [Ji (clI (X i).2-clI (X i).1),Ji 2000000000000] (frT (halB (X i))):=fun i _=>jbD (by have:=jam (X i).1;have:=jam (X i).2;omega) Jd
 have ev:=evalq2 hg fm0 fm1
 have b2:∀ j,j<out.toNat→Cl 54 [frT (evQ [z0,z1] out data (midB (X 0)) (midB (X 1)) 0 j),frT (sprQ [z0,z1] data out 2 X j),frT (Rat.divInt ((loL out data).getD j 0) 65535),frT (Rat.divInt ((hiL out data).getD j 0) 65535)] (.tup [.agg [Ji ((fun j=>confB (evQ [z0,z1] out data (midB (X 0)) (midB (X 1)) 0 j) (sprQ [z0,z1] data out 2 X j) (Rat.divInt ((loL out data).getD j 0) 65535) (Rat.divInt ((hiL out data).getD j 0) 65535)) j).1,Ji ((fun j=>confB (evQ [z0,z1] out data (midB (X 0)) (midB (X 1)) 0 j) (sprQ [z0,z1] data out 2 X j) (Rat.divInt ((loL out data).getD j 0) 65535) (Rat.divInt ((hiL out data).getD j 0) 65535)) j).2],Ji 0]):=fun j hj=>by
  have rb:=jbL hg hj
  have ei:=ev_in2 (x0:=midB (X 0)) (x1:=midB (X 1)) hg hj
  have sp:=spr_q2 (so j) (H:=fun i=>halB (X i)) (fun i _=>jdn (X i))
  have sb:=jf0 (P:=fun i=>(((outS [z0,z1] data out [z0,z1].length j).getD i 0:Int):Rat)*halB (X i)) (n:=1) (fun i hi=>jdB (so j) (hX i Jo)) 1 (jjG _)
  have n3:(((1+1:Nat):Int):Rat)≤3:=by decide +kernel
  refine conf_q (fq_ev2 hg fm0 fm1 j) sp.2 (jci rb.1) (jci rb.2.1) ?_ ⟨?_,ei.1⟩ ⟨ei.2,?_⟩
  ·show 0≤smF _ _/65535∧smF _ _/65535≤50000
   constructor<;>grind
  ·rw[divF]
   have:(0:Rat)≤(((loL out data).getD j 0:Int):Rat):=by exact_mod_cast rb.1.1
   grind
  ·rw[divF]
   have:(((hiL out data).getD j 0:Int):Rat)≤((65535:Int):Rat):=Rat.intCast_le_intCast.2 rb.2.1.2
   rw[show ((65535:Int):Rat)=65535 from rfl] at this
   grind
 have o1:∀ j,j<out.toNat→Cl 51 [Ji ((loL out data).getD j 0),Ji 65535] (frT (Rat.divInt ((loL out data).getD j 0) 65535)):=fun j hj=>jbD (by have:=jbL hg hj;omega) Jd
 have o2:∀ j,j<out.toNat→Cl 51 [Ji ((hiL out data).getD j 0),Ji 65535] (frT (Rat.divInt ((hiL out data).getD j 0) 65535)):=fun j hj=>jbD (by have:=jbL hg hj;omega) Jd
 have sp:∀ j,Cl 53 [Jj (outS [z0,z1] data out [z0,z1].length j),slQ (fun i=>txq (halB (X i))) 2] (.tup [frT (sprQ [z0,z1] data out 2 X j),Ji 0]):=fun j=>(spr_q2 (so j) (H:=fun i=>halB (X i)) (fun i _=>jdn (X i))).1
 subst ho
 exact jd6 [z0,z1] data _ _ 1 X (fun i=>(clI (X i).1,clI (X i).2)) (fun i=>txq (midB (X i))) (fun i=>txq (halB (X i))) _ _ _ _ _ _ rfl (fun i _=>⟨jam _,jam _⟩) (jbH hg Js) li om oh ev (jdA [z0,z1] data (outS [z0,z1] data 1 [z0,z1].length) hg Js rfl) (blist1c (F:=52) (fun j=>confB (evQ [z0,z1] 1 data (midB (X 0)) (midB (X 1)) 0 j) (sprQ [z0,z1] data 1 2 X j) (Rat.divInt ((loL 1 data).getD j 0) 65535) (Rat.divInt ((hiL 1 data).getD j 0) 65535)) (jgo (outS [z0,z1] data 1 [z0,z1].length) (fun i=>txq (halB (X i))) (fun j=>txq (evQ [z0,z1] 1 data (midB (X 0)) (midB (X 1)) 0 j)) _ _ _ _ _ _ _ _ ((fun j=>confB (evQ [z0,z1] 1 data (midB (X 0)) (midB (X 1)) 0 j) (sprQ [z0,z1] data 1 2 X j) (Rat.divInt ((loL 1 data).getD j 0) 65535) (Rat.divInt ((hiL 1 data).getD j 0) 65535)) 0) rl.2.2.1 rl.2.2.2 (sp 0) (o1 0 Jd) (o2 0 Jd) (b2 0 Jd)))
def wkQ:Nat→Rat
 | 0=>Rat.divInt 1 2
 | 1=>Rat.divInt 1 4
 | 2=>Rat.divInt 7 20
 | 3=>Rat.divInt 3 10
 | 4=>Rat.divInt 1 1
 | _=>Rat.divInt 2 1
theorem jen:∀ k,Fq 40 (wkQ k)
 | 0=>⟨by decide +kernel,by decide +kernel⟩
 | 1=>⟨by decide +kernel,by decide +kernel⟩
 | 2=>⟨by decide +kernel,by decide +kernel⟩
 | 3=>⟨by decide +kernel,by decide +kernel⟩
 | 4=>⟨by decide +kernel,by decide +kernel⟩
 | _+5=>by
  show Fq 40 (Rat.divInt 2 1)
  exact⟨by decide +kernel,by decide +kernel⟩
theorem jej:jaf [2,2] 1 [0,13107,26214,65535]=true:=by decide +kernel
theorem wk_ev {x0 x1 y:Rat}(h0:Fq 40 x0)(h1:Fq 40 x1)(e:evQ [2,2] 1 [0,13107,26214,65535] x0 x1 0 0=y):Cl 31 [gridD [2,2] 1 [0,13107,26214,65535],frT y,slQ (fun i=>txq (rqN x0 x1 0 i)) 2] (.bool true):=by
 have v:Cl 31 [gridD [2,2] 1 [0,13107,26214,65535],frT (evQ [2,2] 1 [0,13107,26214,65535] x0 x1 0 0),slQ (fun i=>txq (rqN x0 x1 0 i)) 2] (.bool true):=value_t _ _ _ 2 _ (fun j=>txq (evQ [2,2] 1 [0,13107,26214,65535] x0 x1 0 j)) (evalq2 jej h0 h1)
 rw[e] at v
 exact v
theorem wk_cell:Cl 11 [gridD [2,2] 1 [0,13107,26214,65535],slQ (fun i=>txq (wkQ i)) 2] (.tup [Jj [0,0],Jj [0,1],V.sl2 3 [.str (txq (wkQ 0)).1,.str (txq (wkQ 0)).2,.str (txq (wkQ 1)).1,.str (txq (wkQ 1)).2,.str (txq (wkQ 1)).1,.str (txq (wkQ 1)).2],Ji 0]):=by
 have c:=cellq2 jej (jen 0) (jen 1)
 have e0:spB 2 (wkQ 0)=0:=by decide +kernel
 have e1:spB 2 (wkQ 1)=0:=by decide +kernel
 have e2:ord2 (spR 2 (wkQ 0)) (spR 2 (wkQ 1))=[0,1]:=by decide +kernel
 rw[e0,e1,e2] at c
 have w0:wqN (rqN (spR 2 (wkQ 0)) (spR 2 (wkQ 1)) 0) [0,1] 2 0=wkQ 0:=by decide +kernel
 have w1:wqN (rqN (spR 2 (wkQ 0)) (spR 2 (wkQ 1)) 0) [0,1] 2 1=wkQ 1:=by decide +kernel
 have w2:wqN (rqN (spR 2 (wkQ 0)) (spR 2 (wkQ 1)) 0) [0,1] 2 2=wkQ 1:=by decide +kernel
 have hw:wce (fun k=>txq (wqN (rqN (spR 2 (wkQ 0)) (spR 2 (wkQ 1)) 0) [0,1] 2 k)) 3=[.str (txq (wkQ 0)).1,.str (txq (wkQ 0)).2,.str (txq (wkQ 1)).1,.str (txq (wkQ 1)).2,.str (txq (wkQ 1)).1,.str (txq (wkQ 1)).2]:=by
  simp only[wce,w0,w1,w2]
  rfl
 unfold slQ at c
 rw[hw] at c
 exact c
theorem wk_steep:Cl 22 [gridD [2,2] 1 [0,13107,26214,65535]] (.tup [.slf 1 1 (fun j=>List.take 1 (List.drop (j*1) [Jj [52428,39321]])),Ji 0]):=by
 have c:=jdA [2,2] [0,13107,26214,65535] _ jej Jd rfl
 have e:outS [2,2] [0,13107,26214,65535] 1 ([2,2]:List Int).length 0=[52428,39321]:=by decide +kernel
 rw[e] at c
 exact c
def wkB (a b c d:Int)(k:Nat):Int×Int:=if k=0 then (a,b) else (c,d)
theorem slB1 {B:Nat→Int×Int}{y z:Int}(h:B 0=(y,z)):slB B 1=V.sl2 1 [Ji y,Ji z]:=by
 show V.sl2 1 [Ji (B 0).1,Ji (B 0).2]=_
 rw[h]
theorem wk_bands {a b c d y z:Int}(h:vb a b=true∧vb c d=true)(e:confB (evQ [2,2] 1 [0,13107,26214,65535] (midB (a,b)) (midB (c,d)) 0 0) (sprQ [2,2] [0,13107,26214,65535] 1 2 (wkB a b c d) 0) (Rat.divInt ((loL 1 [0,13107,26214,65535]).getD 0 0) 65535) (Rat.divInt ((hiL 1 [0,13107,26214,65535]).getD 0 0) 65535)=(y,z)) :
  Cl 19 [gridD [2,2] 1 [0,13107,26214,65535],V.sl2 2 [Ji a,Ji b,Ji c,Ji d]] (.tup [V.sl2 1 [Ji y,Ji z],Ji 0]):=by
 have q:=bandq2_1 rfl jej (wkB a b c d) (fun i hi=>by
  have:i=0∨i=1:=Jo
  rcases this with rfl|rfl
  ·exact h.1
  ·exact h.2)
 refine Called.cast q ?_
 rw[show (1:Int).toNat=1 from rfl,slB1 (y:=y) (z:=z)]
 exact e
theorem wk_refine:Cl 26 [gridD [2,2] 1 [0,13107,26214,65535],Jj [3,2]] (.tup [.agg [Jj [3,2],Ji 1,Jj [0,13107,13107,39321,26214,65535]],Ji 0]):=by
 have c:=refq2 jej [3,2] rfl Jd Jd
 have e:rfD [2,2] 1 [0,13107,26214,65535] [3,2]=[0,13107,13107,39321,26214,65535]:=by decide +kernel
 rw[e] at c
 exact c
theorem wk_len (X:Nat→List D):Cl 13 [gridD [2,2] 1 [0,13107,26214,65535],.slf 2 1 X] (.tup [.nil,Ji 2]):=by
 have ck:=Called.cast (jfJ [2,2] 1 [0,13107,26214,65535] Jd Jd) (by rw[jej];first|done|rfl)
 exact eval_e _ _ _ 2 Jd 1 X (loc_len _ _ _ 1 X Jd ck)
theorem wakes_c:Cl 6 [] (.bool true):=by
 refine wakes_t (fun k=>txq (wkQ k)) (lof_c Jo Jo) (lof_c Jo Jo) (lof_c Jo Jo) (lof_c Jo Jo) (lof_c Jo Jo) (lof_c Jo Jo) lfour_c wk_cell wk_steep
  (wk_bands (by decide +kernel) (by decide +kernel)) (wk_bands (by decide +kernel) (by decide +kernel)) wk_refine (wk_len _) (wk_ev (y:=wkQ 2) (jen 0) (jen 1) (by decide +kernel)) (wk_ev (y:=wkQ 3) (jen 1) (jen 0) (by decide +kernel)) (wk_ev (y:=wkQ 4) (jen 5) (jen 4) (by decide +kernel))
end Go.Proofs.YtbnghipgicmpdaaGreatDoor
end
section
namespace Go.Proofs.YtbnghipgicmpdaaGreatDoor
open Go Go.V Go.Nb
theorem sbands_c (R:List (Int×Int))(ds:List Int)(o:Int)(vals:List Int)(sm:Bool)(kb:Int)(a b:Nat→Int)(hR:R.length≤281474976710656)(hk8:0≤kb∧kb≤255)(hd:∀ v∈ds,0≤v∧v≤255)(hdl:ds.length≤281474976710656)(ho:0≤o∧o≤255)(hv:∀ v∈vals,0≤v∧v≤65535)(hvl:vals.length≤281474976710656)(ha:∀ i, -32768≤a i∧a i≤32767)(hb:∀ i, -32768≤b i∧b i≤32767) :
  Cl 4 [.agg [.ints .u8 ds,.int .u8 o,.ints .u16 vals,.bool sm],.int .u8 kb,.agg [.int .i16 (a 0),.int .i16 (b 0),.int .i16 (a 1),.int .i16 (b 1),.int .i16 (a 2),.int .i16 (b 2),.int .i16 (a 3),.int .i16 (b 3)],V.sl2 R.length (icl R)] (.bool true):=by
 have gd:=draft_c ds o vals sm hd hdl ho hv hvl
 have hg:=draft_ok ds o vals sm hv
 have hbd:=nsD_bd ds
 have hwb:=wD_bd o
 have hl:(nz (nsD ds)).length=(nsD ds).length:=by simp[nz]
 have w:=sbands_w R ds o vals sm kb a b _ _ _ hR hk8 Jo hg Jo ha hb wakes_c gd
 exact Called.arg (show FinL [_,_,_,slF (fun j=>R.getD j (0,0)) R.length] [_,_,_,slI R] from ⟨Fin.same _,Fin.same _,Fin.same _,jfv R,trivial⟩) w
end Go.Proofs.YtbnghipgicmpdaaGreatDoor
end
