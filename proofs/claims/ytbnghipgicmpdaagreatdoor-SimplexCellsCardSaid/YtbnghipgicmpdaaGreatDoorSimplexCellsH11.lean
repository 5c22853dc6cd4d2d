/- What functions of the program answer at given values, part 11. Conditions: those that each theorem names. -/
import Derived.Test.YtbnghipgicmpdaaGreatDoorSimplexCellsH10
import Derived.Test.YtbnghipgicmpdaaGreatDoorSimplexCellsH9
import Derived.Test.YtbnghipgicmpdaaGreatDoorSimplexCellsH8
import Derived.Test.YtbnghipgicmpdaaGreatDoorSimplexCellsH4
set_option linter.unusedSimpArgs false
set_option linter.unusedVariables false
set_option maxHeartbeats 8000000
set_option maxRecDepth 100000
section
namespace Go.Proofs.YtbnghipgicmpdaaGreatDoor
open Go Go.V Go.Nb
theorem jgh {q:Rat}(h:okF q=true):Cl 75 [frT q] (.bool true):=by
 obtain⟨o,e⟩:=jaB h
 have c:=jaW (decZ q.num) (dec q.den) (jaH o).1 (jaH o).2
 rw[o] at c
 exact c
theorem rin_f {q:Rat}(h:okF q=true):Cl 77 [frT q] (raD q):=by
 obtain⟨o,e⟩:=jaB h
 have c:=jcP (decZ q.num) (dec q.den) o
 rw[e] at c
 exact c
theorem rq4_f {q:Rat}(h:okF q=true):Q4 30000000 q:=by
 obtain⟨o,e⟩:=jaB h
 have c:=q4_qv o
 rw[e] at c
 exact c.mono (by omega)
theorem ord_tri (q p:Rat):q<p∨q=p∨p<q:=by
 rcases Rat.le_total (a:=q) (b:=p) with h|h
 ·by_cases e:q=p
  ·exact .inr (.inl e)
  ·exact .inl (Rat.lt_of_le_of_ne h e)
 ·by_cases e:q=p
  ·exact .inr (.inl e)
  ·exact .inr (.inr (Rat.lt_of_le_of_ne h (Ne.symm e)))
theorem rclamp_f {q:Rat}(h:okF q=true):Cl 78 [frT q,frT 0,frT 1] (.tup [frT (clQ q),.int .i64 0]):=by
 have h0:okF 0=true:=by decide +kernel
 have h1:okF 1=true:=by decide +kernel
 have r:=jgh h
 have r0:=jgh h0
 have r1:=jgh h1
 have i:=rin_f h
 have i0:=rin_f h0
 have i1:=rin_f h1
 have q4:=rq4_f h
 have z4:=rq4_f h0
 have o4:=rq4_f h1
 have o01:=jdw 0 1 (z4.mono (by omega)) (o4.mono (by omega))
 have oq0:=jdw q 0 (q4.mono (by omega)) (z4.mono (by omega))
 have oq1:=jdw q 1 (q4.mono (by omega)) (o4.mono (by omega))
 have e01:ordQ 0 1 = -1:=by decide +kernel
 rw[e01] at o01
 have e0:decide (ordQ q 0<0)=decide (q<0):=by
  rw[decide_eq_decide]
  unfold ordQ
  split
  ·rename_i h;simp[h]
  ·split
   ·rename_i h h2;subst h2;simp[Rat.lt_irrefl]
   ·rename_i h h2;simp[h]
 have e1:decide (0<ordQ q 1)=decide (1<q):=by
  rw[decide_eq_decide]
  unfold ordQ
  have t:=ord_tri q 1
  split
  ·rename_i h;simp[Rat.not_lt.2 (Rat.le_of_lt h)]
  ·split
   ·rename_i h h2;subst h2;simp[Rat.lt_irrefl]
   ·rename_i h h2;rcases t with t|t|t<;>first|exact absurd t h|exact absurd t h2|simp[t]
 have hcl:clQ q=if q<0 then 0 else if 1<q then 1 else q:=by
  unfold clQ
  by_cases g:q<0
  ·rw[if_pos g,if_pos g,if_neg (by decide +kernel)]
  ·rw[if_neg g,if_neg g]
 rw[hcl]
 unfold frT at *
 generalize ordQ q 0=z at *
 generalize ordQ q 1=y at *
 by_cases g0:q<0
 ·rw[if_pos g0]
  rw[decide_eq_true g0] at e0
  generalize (0:Rat)=zz at *
  generalize (1:Rat)=oo at *
  refine V.en tbOk Tryz.func78 ?_
  refine V.r3 e0 r r0 r1 ?_
  refine⟨Pq82z,[],V.pok,.go (jac ?_)⟩
  refine V.r3 e0 i0 i1 o01 ?_
  refine⟨Pq82z,[],V.pok,.go (jac ?_)⟩
  refine V.r3 e0 i i0 oq0 ?_
  exact Fin.of rfl
 ·rw[if_neg g0]
  rw[decide_eq_false g0] at e0
  by_cases g1:1<q
  ·rw[if_pos g1]
   rw[decide_eq_true g1] at e1
   generalize (0:Rat)=zz at *
   generalize (1:Rat)=oo at *
   refine V.en tbOk Tryz.func78 ?_
   (conv=>whnf)
   (conv=>whnf)
   (try simp only[e0,e1])
   repeat ((first|refine V.s1 ?_|((try ((with_reducible refine .ext ?_);(conv=>whnf);(try simp only[e0,e1])));(with_reducible refine jaa (r:=?_) ?_ ?_);rotate_left;(focus (first|exact(r)|exact(r0)|exact(r1)));(conv=>whnf)));(try simp only[e0,e1]))
   refine⟨Pq82z,[],V.pok,.go (jac ?_)⟩
   (conv=>whnf)
   (try simp only[e0,e1])
   repeat ((first|refine V.s1 ?_|((try ((with_reducible refine .ext ?_);(conv=>whnf);(try simp only[e0,e1])));(with_reducible refine jaa (r:=?_) ?_ ?_);rotate_left;(focus (first|exact(i0)|exact(i1)|exact(o01)));(conv=>whnf)));(try simp only[e0,e1]))
   refine⟨Pq82z,[],V.pok,.go (jac ?_)⟩
   (conv=>whnf)
   (try simp only[e0,e1])
   repeat ((first|refine V.s1 ?_|((try ((with_reducible refine .ext ?_);(conv=>whnf);(try simp only[e0,e1])));(with_reducible refine jaa (r:=?_) ?_ ?_);rotate_left;(focus (first|exact(i)|exact(i0)|exact(oq0)));(conv=>whnf)));(try simp only[e0,e1]))
   refine⟨Pq82z,[],V.pok,.go (jac ?_)⟩
   (conv=>whnf)
   (try simp only[e0,e1])
   repeat ((first|refine V.s1 ?_|((try ((with_reducible refine .ext ?_);(conv=>whnf);(try simp only[e0,e1])));(with_reducible refine jaa (r:=?_) ?_ ?_);rotate_left;(focus (first|exact(i)|exact(i1)|exact(oq1)));(conv=>whnf)));(try simp only[e0,e1]))
   exact Fin.of rfl
  ·rw[if_neg g1]
   rw[decide_eq_false g1] at e1
   generalize (0:Rat)=zz at *
   generalize (1:Rat)=oo at *
   refine V.en tbOk Tryz.func78 ?_
   (conv=>whnf)
   (conv=>whnf)
   (try simp only[e0,e1])
   repeat ((first|refine V.s1 ?_|((try ((with_reducible refine .ext ?_);(conv=>whnf);(try simp only[e0,e1])));(with_reducible refine jaa (r:=?_) ?_ ?_);rotate_left;(focus (first|exact(r)|exact(r0)|exact(r1)));(conv=>whnf)));(try simp only[e0,e1]))
   refine⟨Pq82z,[],V.pok,.go (jac ?_)⟩
   (conv=>whnf)
   (try simp only[e0,e1])
   repeat ((first|refine V.s1 ?_|((try ((with_reducible refine .ext ?_);(conv=>whnf);(try simp only[e0,e1])));(with_reducible refine jaa (r:=?_) ?_ ?_);rotate_left;(focus (first|exact(i0)|exact(i1)|exact(o01)));(conv=>whnf)));(try simp only[e0,e1]))
   refine⟨Pq82z,[],V.pok,.go (jac ?_)⟩
   (conv=>whnf)
   (try simp only[e0,e1])
   repeat ((first|refine V.s1 ?_|((try ((with_reducible refine .ext ?_);(conv=>whnf);(try simp only[e0,e1])));(with_reducible refine jaa (r:=?_) ?_ ?_);rotate_left;(focus (first|exact(i)|exact(i0)|exact(oq0)));(conv=>whnf)));(try simp only[e0,e1]))
   refine⟨Pq82z,[],V.pok,.go (jac ?_)⟩
   (conv=>whnf)
   (try simp only[e0,e1])
   repeat ((first|refine V.s1 ?_|((try ((with_reducible refine .ext ?_);(conv=>whnf);(try simp only[e0,e1])));(with_reducible refine jaa (r:=?_) ?_ ?_);rotate_left;(focus (first|exact(i)|exact(i1)|exact(oq1)));(conv=>whnf)));(try simp only[e0,e1]))
   exact Fin.of rfl
theorem r9clamp_c {q:Rat}(h:okF q=true):Cl 38 [frT q] (frT (clQ q)):=by
 have z:Cl 79 [.int .i64 0,.int .i64 1] (frT 0):=by
  have c:=y_rof (n:=0) (m:=1) (by omega) (by omega)
  rw[show Rat.divInt 0 1=0 from rfl] at c
  unfold frT at *
  generalize (0:Rat)=q at *
  refine V.en tbOk Tryz.func79 ?_
  (conv=>whnf)
  refine V.st ?_
  repeat ((try ((with_reducible refine .ext ?_);(conv=>whnf)));(with_reducible refine jaa (r:=?_) ?_ ?_);rotate_left;(focus (first|exact(c)));(conv=>whnf);refine V.st ?_)
  exact Fin.of rfl
 have o:Cl 79 [.int .i64 1,.int .i64 1] (frT 1):=by
  have c:=y_rof (n:=1) (m:=1) (by omega) (by omega)
  rw[show Rat.divInt 1 1=1 from rfl] at c
  unfold frT at *
  generalize (1:Rat)=q at *
  refine V.en tbOk Tryz.func79 ?_
  (conv=>whnf)
  refine V.st ?_
  repeat ((try ((with_reducible refine .ext ?_);(conv=>whnf)));(with_reducible refine jaa (r:=?_) ?_ ?_);rotate_left;(focus (first|exact(c)));(conv=>whnf);refine V.st ?_)
  exact Fin.of rfl
 have c:=rclamp_f h
 unfold frT at *
 generalize (0:Rat)=a at *
 generalize (1:Rat)=b at *
 generalize clQ q=d at *
 refine V.en tbOk Tryz.func38 ?_
 (conv=>whnf)
 refine V.st ?_
 repeat ((try ((with_reducible refine .ext ?_);(conv=>whnf)));(with_reducible refine jaa (r:=?_) ?_ ?_);rotate_left;(focus (first|exact(z)|exact(o)|exact(c)));(conv=>whnf);refine V.st ?_)
 refine⟨(V.tk [0] (.ev (.cons 1 [0] (.ev (.cons 2 [0] (.ev (.cons 3 [] (V.tk [4,5,6] (V.e1 7 [6,5,4] (V.e1 8 [6] (V.tk [9] .done)))) (.cons 7 [0] (V.e1 3 [] (V.tk [4,5,6] (V.e1 8 [6] (V.tk [9] .done)))) .nil))) (.cons 7 [0] (V.e1 2 [0] (V.e1 3 [] (V.tk [4,5,6] (V.e1 8 [6] (V.tk [9] .done))))) .nil))) (.cons 7 [0] (V.e1 1 [0] (V.e1 2 [0] (V.e1 3 [] (V.tk [4,5,6] (V.e1 8 [6] (V.tk [9] .done)))))) .nil)))),[],V.pok,?_⟩
 refine jab [(3,.box 3 0)] [(3,.box [.str (decZ d.num),.str (dec d.den)])] ?_ ?_
 ·exact V.d3 @jiX z o c
 refine V.r0 @jiX ?_
 exact Fin.of rfl
theorem r11of_c {n m:Int}(hn : -9223372036854775807≤n∧n≤9223372036854775807)(hm:1≤m∧m≤9223372036854775807):Cl 39 [.int .i64 n,.int .i64 m] (frT (Rat.divInt n m)):=by
 have c:=y_rof hn hm
 unfold frT at *
 generalize Rat.divInt n m=q at *
 refine V.en tbOk Tryz.func39 ?_
 (conv=>whnf)
 refine V.st ?_
 repeat ((try ((with_reducible refine .ext ?_);(conv=>whnf)));(with_reducible refine jaa (r:=?_) ?_ ?_);rotate_left;(focus (first|exact(c)));(conv=>whnf);refine V.st ?_)
 exact Fin.of rfl
theorem jbC {n:Int}(hn : -9223372036854775807≤n∧n≤9223372036854775807):Cl 39 [.int .i64 n,.int .i64 1] (frT (n:Rat)):=by
 have c:=r11of_c (n:=n) (m:=1) hn (by omega)
 rw[int_q] at c
 exact c
theorem jgS {a b:Nat}{p q:Rat}(h:Fq a p)(g:Fq b q)(ha:0<a∧a≤600)(hb:0<b∧b≤600):Cl 40 [frT p,frT q] (.bool (decide (p<q))):=by
 have c:=zrcmp h g ha hb
 have e:decide (ordQ p q<0)=decide (p<q):=by rw[decide_eq_decide];exact jdv p q
 rw[← e]
 unfold frT at *
 generalize ordQ p q=r at *
 refine V.en tbOk Tryz.func40 ?_
 (conv=>whnf)
 refine V.st ?_
 repeat ((try ((with_reducible refine .ext ?_);(conv=>whnf)));(with_reducible refine jaa (r:=?_) ?_ ?_);rotate_left;(focus (first|exact(c)));(conv=>whnf);refine V.st ?_)
 exact Fin.of rfl
def rIns (p:Int→Bool)(i:Int)(l:List Int):List Int:=l.takeWhile p++i::l.dropWhile p
def rS (r:Nat→Rat):Nat→List Int
 | 0=>[]
 | i+1=>rIns (fun o => !decide (r o.toNat<r i)) i (rS r i)
theorem rS1 (r:Nat→Rat):rS r 1=[0]:=rfl
theorem rS2 (r0 r1 r2:Rat):rS (rqN r0 r1 r2) 2=ord2 r0 r1:=by
 unfold ord2
 by_cases h:r0<r1
 ·rw[if_pos h]
  simp[rS,rIns,rqN,h]
 ·rw[if_neg h]
  simp[rS,rIns,rqN,h]
theorem rS3 (r0 r1 r2:Rat):rS (rqN r0 r1 r2) 3=ord3 r0 r1 r2:=by
 have t:r0<r1→r1<r2→r0<r2:=by grind
 have v:¬ r0<r1→r0<r2→r1<r2:=by grind
 unfold ord3
 by_cases h:r0<r1<;>by_cases g:r0<r2<;>by_cases k:r1<r2<;>simp_all [rS,rIns,rqN]
theorem spB_step {s b:Int}(x:Rat):(b<s-2 ∧ ¬ gp s x<((b+1:Int):Rat))↔b+1≤spB s x:=by
 unfold spB
 rw[Rat.not_lt,← Rat.le_floor_iff]
 omega
theorem tw_at (p:Int→Bool):∀ (l:List Int) (at_:Nat),at_≤l.length→(∀ j,j<at_→p (l.getD j 0)=true)→(at_<l.length→p (l.getD at_ 0)=false)→l.take at_=l.takeWhile p∧l.drop at_=l.dropWhile p
 | [],at_,h,_,_=>by
  obtain rfl:at_=0:=by simpa using h
  exact⟨rfl,rfl⟩
 | x::l,0,_,_,h2=>by
  have h:=h2 (by simp)
  have h:p x=false:=h
  simp[h]
 | x::l,at_+1,h,h1,h2=>by
  have hx:p x=true:=h1 0 (by omega)
  have ih:=tw_at p l at_ (by simpa using h) (fun j hj=>h1 (j+1) (by omega)) (fun g=>h2 (by simpa using g))
  simp only[List.take_succ_cons,List.drop_succ_cons,List.takeWhile_cons,List.dropWhile_cons,hx,if_true,ih]
  exact⟨trivial,trivial⟩
theorem rS_len (r:Nat→Rat):∀ n,(rS r n).length=n
 | 0=>rfl
 | n+1=>by
  have h:=rS_len r n
  show (rIns _ _ _).length=_
  unfold rIns
  have e:=congrArg List.length (List.takeWhile_append_dropWhile (p:=fun o:Int => !decide (r o.toNat<r n)) (l:=rS r n))
  rw[jjx] at e
  rw[jjx,jjG]
  omega
theorem rS_mem (r:Nat→Rat):∀ n, ∀ o∈rS r n,0≤o∧o<n
 | 0,o,h=>by cases h
 | n+1,o,h=>by
  have ih:=rS_mem r n
  have h:o∈rIns (fun o => !decide (r o.toNat<r n)) n (rS r n):=h
  unfold rIns at h
  rcases List.mem_append.1 h with h|h
  ·have:=ih o ((List.takeWhile_sublist _).subset h);omega
  ·rcases jjt.1 h with rfl|h
   ·omega
   ·have:=ih o ((List.dropWhile_sublist _).subset h);omega
theorem rS_get (r:Nat→Rat){n j:Nat}(h:j<n):0≤(rS r n).getD j 0∧(rS r n).getD j 0<n:=by
 have hl:=rS_len r n
 refine rS_mem r n _ ?_
 rw[jjr,jju (by omega)]
 exact jjv _
theorem jiw:type_of% @ji0∧type_of% @jiX:=⟨@ji0,@jiX⟩
theorem sorted_t {n:Nat}(hn:1≤n∧n≤4)(Y:Nat→Tx)(r:Nat→Rat)(lc:∀ i j,i<n→j<n→Cl 40 [.agg [.str (Y i).1,.str (Y i).2],.agg [.str (Y j).1,.str (Y j).2]] (.bool (decide (r i<r j)))) :
  Cl 42 [.slf 2 n (fun j=>[.str (Y j).1,.str (Y j).2])] (.ints .i64 (rS r n)):=by
 refine V.en tbOk Tryz.func42 ?_
 refine V.r0 jiw ?_
 refine Lp.ghostSlot 47 3  .i64 (by decide) ?_
 (conv=>whnf)
 refine jad (0:Nat) (fun k=>k≤n) (fun k=>n-k) (fun k=>[(3,.osl 47 0 k),(4,.int .i64 (k:Nat))]) (fun k=>[(47,.arr .i64 (rS r k))]) ?_ ?_ ?_
 ·exact V.wk
 ·exact jiT _
 intro k hk
 try dsimp only at hk ⊢
 obtain⟨l,hl⟩:∃ l,rS r k=l:=⟨_,rfl⟩
 have hll:l.length=k:=by rw[← hl];exact rS_len r _
 have hget:∀ j,j<k→0≤l.getD j 0∧l.getD j 0<(k:Nat):=fun j hj=>by rw[← hl];exact rS_get r hj
 have hnext:∀ y:Nat,l.take y=l.takeWhile (fun o => !decide (r o.toNat<r k))→l.drop y=l.dropWhile (fun o => !decide (r o.toNat<r k))→rS r (k+1)=l.take y++[((k:Nat):Int)]++l.drop y:=fun y h1 h2=>by
  show rIns _ _ (rS r k)=_
  rw[hl,h1,h2]
  unfold rIns
  simp
 rw[hl]
 by_cases hkn:k<n
 ·have hlt:decide ((k:Int)<n)=true:=decide_eq_true (by omega)
  have hkc:((k:Int)+1)=((k+1:Nat):Int):=by omega
  refine V.r0 (V.a2 jiw hlt) ?_
  refine jcM (β:=Nat) 2 (fun y=>y≤k∧l.take y=l.takeWhile (fun o => !decide (r o.toNat<r k))∧l.drop y=l.dropWhile (fun o => !decide (r o.toNat<r k))) (fun y=>[(5,.int .i64 (y:Nat))]) (fun _=>[]) ?_ ?_
  ·refine jad (0:Nat) (fun j=>j≤k ∧ ∀ i,i<j→(!decide (r (l.getD i 0).toNat<r k))=true) (fun j=>k-j) (fun j=>[(5,.int .i64 (j:Nat))]) (fun _=>[]) ?_ ?_ ?_
   ·exact V.wk
   ·exact⟨jiT _,fun i hi=>absurd hi (Nat.not_lt_zero _)⟩
   rintro j ⟨hj,hp⟩
   by_cases hjk:j<k
   ·have hlt2:decide ((j:Int)<(k:Nat))=true:=decide_eq_true (by omega)
    obtain⟨o,ho⟩:∃ o,l.getD j 0=o:=⟨_,rfl⟩
    have hob:=hget j hjk
    rw[ho] at hob
    have c:=lc o.toNat k (by omega) hkn
    have hjc:((j:Int)+1)=((j+1:Nat):Int):=by omega
    refine V.r0 (V.a3 jiw hlt2 ho) ?_
    refine⟨Pq4z,[],V.pok,.go (jac ?_)⟩
    (conv=>whnf)
    (try simp only[jiw,hlt2,ho])
    repeat ((first|refine V.s1 ?_|((try ((with_reducible refine .ext ?_);(conv=>whnf);(try simp only[jiw,hlt2,ho])));(with_reducible refine jaa (r:=?_) ?_ ?_);rotate_left;(focus (first|fail));(conv=>whnf))|((refine⟨_,fun _=>c,?_⟩);(conv=>whnf)));(try simp only[jiw,hlt2,ho]))
    refine V.br (fun hq=>?_) (fun hq=>?_)
    ·refine V.r0 (V.a2 hjc @ji0) ?_
     refine⟨j+1,⟨by omega,fun i hi=>?_⟩,by omega,V.wk⟩
     rcases ji8 i j with g|g
     ·exact hp i g
     ·obtain rfl:i=j:=by omega
      rw[ho]
      exact hq
    ·refine V.r0 @ji0 ?_
     exact⟨j,⟨hj,tw_at _ l j (by omega) hp (fun _=>by rw[ho];exact hq)⟩,V.wk⟩
   ·have hlt2:decide ((j:Int)<(k:Nat))=false:=decide_eq_false (by omega)
    refine V.r0 (V.a2 jiw hlt2) ?_
    refine⟨Pq4z,[],V.pok,.go (jac ?_)⟩
    (conv=>whnf)
    (try simp only[jiw,hlt2])
    repeat ((first|refine V.s1 ?_|((try ((with_reducible refine .ext ?_);(conv=>whnf);(try simp only[jiw,hlt2])));(with_reducible refine jaa (r:=?_) ?_ ?_);rotate_left;(focus (first|fail));(conv=>whnf))|((refine⟨.bool false,(fun h=>by cases h),?_⟩);(conv=>whnf))|((refine And.intro (fun h=>by cases h) ?_);(conv=>whnf)));(try simp only[jiw,hlt2]))
    exact⟨j,⟨hj,tw_at _ l j (by omega) hp (fun g=>absurd g (by omega))⟩,V.wk⟩
  ·rintro y ⟨hy,h1,h2⟩
   try dsimp only at hy h1 h2 ⊢
   have e:=hnext y h1 h2
   refine V.r0 (V.a2 jiw hkc) ?_
   refine⟨k+1,by omega,by omega,?_⟩
   try dsimp only
   have e1:(List.take y (List.drop 0 l)).length+(List.take 1 (List.drop 0 [(k:Int)])).length+(List.take (k-y) (List.drop y l)).length=k+1:=by
    simp only[jjO,jjy,jjN,jjG,List.length_nil,hll];omega
   have e2:List.take y (List.drop 0 l)++List.take 1 (List.drop 0 [(k:Int)])++List.take (k-y) (List.drop y l)=rS r (k+1):=by
    rw[e,jjO,jjI (l:=List.drop y l) (by rw[jjN];omega)]
    rfl
   simp only[e1,e2]
   exact V.wk
 ·obtain rfl:n=k:=by omega
  have hlt:decide (((n:Nat):Int)<((n:Nat):Int))=false:=decide_eq_false (by omega)
  refine V.r0 (V.a2 jiw hlt) ?_
  rw[hl]
  exact Fin.of (by rw[jjI (by omega)])
theorem loc_b (zs data:List Int)(out:Int)(n:Nat)(X:Nat→List D)(ck:Cl 58 [.agg [.ints .i64 zs,.int .i64 out,.ints .i64 data]] (.int .i64 100)) :
  Cl 34 [.agg [.ints .i64 zs,.int .i64 out,.ints .i64 data],.slf 2 n X] (.tup [.agg [.nil,.int .i64 0,.nil,.nil,.nil,.nil],.int .i64 100]):=by
 refine V.en tbOk Tryz.func34 ?_
 refine V.r1 @jiX ck ?_
 exact Fin.of rfl
theorem cell_e (zs data:List Int)(out e:Int)(he:e≠0)(n:Nat)(X:Nat→List D)(lo:Cl 34 [.agg [.ints .i64 zs,.int .i64 out,.ints .i64 data],.slf 2 n X] (.tup [.agg [.nil,.int .i64 0,.nil,.nil,.nil,.nil],.int .i64 e])) :
  Cl 11 [.agg [.ints .i64 zs,.int .i64 out,.ints .i64 data],.slf 2 n X] (.tup [.nil,.nil,.nil,.int .i64 e]):=by
 refine V.en tbOk Tryz.func11 ?_
 refine V.r1 @jiX lo ?_
 refine Cnd.yes (decide_eq_true he) ?_
 refine V.r0 @jiX ?_
 exact Fin.of rfl
theorem loc_fb (zs data:List Int)(out e:Int)(n m:Nat)(X:Nat→Tx)(hn:n=zs.length)(hm:m<n)(h4:n≤4)(he:e≠0)(ck:Cl 58 [.agg [.ints .i64 zs,.int .i64 out,.ints .i64 data]] (.int .i64 0))(h1:∀ k,k<m→Cl 72 [.agg [.str (X k).1,.str (X k).2]] (.int .i64 0))(h2:Cl 72 [.agg [.str (X m).1,.str (X m).2]] (.int .i64 e)) :
  Cl 34 [.agg [.ints .i64 zs,.int .i64 out,.ints .i64 data],.slf 2 n (fun j=>[.str (X j).1,.str (X j).2])] (.tup [.agg [.nil,.int .i64 0,.nil,.nil,.nil,.nil],.int .i64 e]):=by
 refine V.en tbOk Tryz.func34 ?_
 refine V.r1 @jiX ck ?_
 refine Cnd.split (CondB.mk (fun h=>absurd h (by rw[decide_eq_false (show ¬ ((n:Int)≠(zs.length:Int)) by omega)];decide)) (fun _=>?_))
 refine V.r0 @jiX ?_
 refine jad ((0:Nat)) (fun k=>k≤m) (fun k=>m-k) (fun k=>[(25,.int .i64 k)]) (fun k=>[]) ?_ ?_ ?_
 ·exact V.wk
 ·exact jiT _
 intro k hk
 have hkc:((k:Int)+1)=((k+1:Nat):Int):=by omega
 have hlt:decide ((k:Int)<n)=true:=decide_eq_true (by omega)
 by_cases hkm:k=m
 ·subst hkm
  have hne:decide (e≠0)=true:=decide_eq_true he
  refine V.r1 (V.a3 hlt hne @ji0) h2 ?_
  exact Fin.of rfl
 ·have h3:=h1 k (by omega)
  refine V.r1 (V.a3 hlt hkc @ji0) h3 ?_
  exact⟨k+1,by omega,by omega,V.wk⟩
def fl (q:Rat):Int:=q.num/(q.den:Int)
def gtr (m x:Rat):Rat:=if m<x then x else m
theorem ordQ_lt {x y:Rat} : ordQ x y<0↔x<y:=by
 unfold ordQ
 by_cases a:x<y
 ·rw[if_pos a];exact⟨fun _=>a,fun _=>by omega⟩
 ·rw[if_neg a]
  by_cases b:x=y
  ·rw[if_pos b];exact⟨fun h=>by omega,fun h=>absurd h a⟩
  ·rw[if_neg b];exact⟨fun h=>by omega,fun h=>absurd h a⟩
theorem ordQ_gt {x y:Rat} : ordQ x y>0↔y<x:=by
 unfold ordQ
 by_cases a:x<y
 ·rw[if_pos a];exact⟨fun h=>by omega,fun h=>absurd h (Rat.not_lt.2 (Rat.le_of_lt a))⟩
 ·rw[if_neg a]
  by_cases b:x=y
  ·rw[if_pos b,b];exact⟨fun h=>by omega,fun h=>absurd h (Rat.lt_irrefl)⟩
  ·rw[if_neg b];exact⟨fun _=>Rat.lt_of_le_of_ne (Rat.not_lt.1 a) (Ne.symm b),fun _=>by omega⟩
def frT_o (x:Rat):D := .agg [.str (decZ x.num),.str (dec x.den)]
def hasR (x:Rat)(p q:Int):Bool:=decide (ordQ x (unit p)≥0) && decide (ordQ x (unit q)≤0)
theorem jhb (n d:Int)(hd:0<d):(Rat.divInt n d).num*d=n*((Rat.divInt n d).den:Int):=by
 have h:=(Rat.divInt n d).den_pos
 rw[← Rat.divInt_eq_divInt_iff (by omega) (by omega),jjp]
theorem divInt_lt' (n d:Int)(hd:0<d)(x:Rat):Rat.divInt n d<x↔n*x.den<x.num*d:=by
 have e:=jhb n d hd
 have hb:(0:Int)<((Rat.divInt n d).den:Int):=by have:=(Rat.divInt n d).den_pos;omega
 rw[Rat.lt_iff]
 generalize (Rat.divInt n d).num=a at *
 generalize ((Rat.divInt n d).den:Int)=b at *
 have e1:a*x.den*d=n*x.den*b:=by
  rw[Int.mul_right_comm,e,Int.mul_right_comm]
 have e2:x.num*b*d=x.num*d*b:=by rw[Int.mul_right_comm]
 constructor
 ·intro h
  have:=Int.mul_lt_mul_of_pos_right h hd
  rw[e1,e2] at this
  exact Int.lt_of_mul_lt_mul_right this (by omega)
 ·intro h
  have:=Int.mul_lt_mul_of_pos_right h hb
  rw[← e1,← e2] at this
  exact Int.lt_of_mul_lt_mul_right this (by omega)
theorem divInt_eq' (n d:Int)(hd:0<d)(x:Rat):x=Rat.divInt n d↔x.num*d=n*x.den:=by
 have hp:=x.den_pos
 conv=>lhs;rw[← jjp x]
 exact Rat.divInt_eq_divInt_iff (by omega) (by omega)
theorem ord_ge (x y:Rat):ordQ x y≥0 ↔ ¬ x<y:=by
 have:=ordQ_lt (x:=x) (y:=y)
 constructor
 ·intro h h2;have:=this.2 h2;omega
 ·intro h
  rcases Int.lt_or_le (ordQ x y) 0 with h2|h2
  ·exact absurd (this.1 h2) h
  ·exact h2
theorem ord_le (x y:Rat):ordQ x y≤0 ↔ ¬ y<x:=by
 have:=ordQ_gt (x:=x) (y:=y)
 constructor
 ·intro h h2;have:=this.2 h2;omega
 ·intro h
  rcases Int.lt_or_le 0 (ordQ x y) with h2|h2
  ·exact absurd (this.1 h2) h
  ·exact h2
theorem jf7 (m:Int)(x:Rat):unit m<x↔m*x.den<x.num*1000000000000:=divInt_lt' m _ (by decide) x
theorem jf8 (m:Int)(x:Rat):x=unit m↔x.num*1000000000000=m*x.den:=divInt_eq' m _ (by decide) x
theorem jhG (m:Int)(x:Rat):x<unit m↔x.num*1000000000000<m*x.den:=by
 have h1:=jf7 m x
 have h2:=jf8 m x
 constructor
 ·intro h
  have a1:¬ unit m<x:=Rat.not_lt.2 (Rat.le_of_lt h)
  have a2:¬ x=unit m:=Rat.ne_of_lt h
  rw[h1] at a1
  rw[h2] at a2
  omega
 ·intro h
  have a1:¬ unit m<x:=fun g=>by have:=h1.1 g;omega
  have a2:¬ x=unit m:=fun g=>by have:=h2.1 g;omega
  exact Rat.lt_of_le_of_ne (Rat.not_lt.1 a1) a2
theorem jgz (x:Rat)(p q:Int):hasR x p q=true↔p*x.den≤x.num*1000000000000∧x.num*1000000000000≤q*x.den:=by
 unfold hasR
 rw[jiR,decide_eq_true_eq,decide_eq_true_eq,ord_ge,ord_le,jhG,jf7]
 omega
theorem jhF (x:Rat):2*(nearZ x 1000000000000*x.den)≤2*(x.num*1000000000000)+x.den∧2*(x.num*1000000000000)+x.den<2*(nearZ x 1000000000000*x.den)+2*x.den:=by
 have hp:=x.den_pos
 unfold nearZ
 have h1:=jiV (x.num*((1000000000000*2:Nat):Int)+x.den) ((x.den*2:Nat):Int)
 have h2:=jiU (x.num*((1000000000000*2:Nat):Int)+x.den) (show ((x.den*2:Nat):Int)≠0 by omega)
 have h3:=jji (x.num*((1000000000000*2:Nat):Int)+x.den) (show 0<((x.den*2:Nat):Int) by omega)
 generalize (x.num*((1000000000000*2:Nat):Int)+x.den)%((x.den*2:Nat):Int)=r at *
 generalize (x.num*((1000000000000*2:Nat):Int)+x.den)/((x.den*2:Nat):Int)=n at *
 have e:((x.den*2:Nat):Int)*n=2*(n*x.den):=by
  rw[show ((x.den*2:Nat):Int)=2*(x.den:Int) by omega,jjd,jjc (x.den:Int) n]
 rw[e] at h1
 generalize n*(x.den:Int)=y at *
 omega
theorem near_le (x:Rat)(K:Int)(h : -(K*x.den)≤x.num∧x.num≤K*x.den) : -(K*1000000000000)-1≤nearZ x 1000000000000∧nearZ x 1000000000000≤K*1000000000000+1:=by
 have hp:=x.den_pos
 obtain⟨b1,b2⟩:=jhF x
 generalize nearZ x 1000000000000=n at *
 have e:K*1000000000000*(x.den:Int)=1000000000000*(K*x.den):=by rw[Int.mul_right_comm,jjc]
 constructor
 ·rcases Int.lt_or_le n (-(K*1000000000000)-1) with g|g
  ·exfalso
   have:=ji6 (show n ≤ -(K*1000000000000)-2 by omega) (show (0:Int)≤x.den by omega)
   rw[Int.sub_mul,Int.neg_mul,e] at this
   omega
  ·exact g
 ·rcases Int.lt_or_le (K*1000000000000+1) n with g|g
  ·exfalso
   have:=ji6 (show K*1000000000000+2≤n by omega) (show (0:Int)≤x.den by omega)
   rw[jjl,e] at this
   omega
  ·exact g
theorem around_law (x:Rat)(h : -999999999999999999≤nearZ x 1000000000000∧nearZ x 1000000000000≤999999999999999999) :
  ∃ p q,jdh x=(p,q,0)∧vb p q=true∧q-p≤1∧hasR x p q=true∧(p=q↔unit p=x):=by
 have hp:=x.den_pos
 obtain⟨b1,b2⟩:=jhF x
 unfold jdh
 rw[if_pos (jbJ.2 (by omega))]
 generalize nearZ x 1000000000000=n at *
 have l1:=jhG n x
 have l2:=jf7 n x
 have e1:(n + -1)*(x.den:Int)=n*x.den-x.den:=by rw[jjl];omega
 have e2:(n+1)*(x.den:Int)=n*x.den+x.den:=by rw[jjl];omega
 by_cases g1:x<unit n
 ·have o:ordQ x (unit n) = -1:=by unfold ordQ;rw[if_pos g1]
  rw[o,show min (-1:Int) 0 = -1 from rfl,show max (-1:Int) 0=0 from rfl,mk_ok (by omega),jjj]
  have:=l1.1 g1
  refine⟨_,_,rfl,jbJ.2 (by omega),by omega,(jgz _ _ _).2 (by rw[e1];omega),⟨fun h=>by omega,fun h=>?_⟩⟩
  have:=(jf8 (n + -1) x).1 h.symm
  rw[e1] at this
  omega
 ·by_cases g2:x=unit n
  ·have o:ordQ x (unit n)=0:=by unfold ordQ;rw[if_neg g1,if_pos g2]
   rw[o,show min (0:Int) 0=0 from rfl,show max (0:Int) 0=0 from rfl,mk_ok (by omega),jjj]
   have:=(jf8 n x).1 g2
   exact⟨_,_,rfl,jbJ.2 (by omega),by omega,(jgz _ _ _).2 (by omega),⟨fun _=>g2.symm,fun _=>rfl⟩⟩
  ·have o:ordQ x (unit n)=1:=by unfold ordQ;rw[if_neg g1,if_neg g2]
   rw[o,show min (1:Int) 0=0 from rfl,show max (1:Int) 0=1 from rfl,mk_ok (by omega),jjj]
   have h3:unit n<x:=Rat.lt_of_le_of_ne (Rat.not_lt.1 g1) (Ne.symm g2)
   have:=l2.1 h3
   exact⟨_,_,rfl,jbJ.2 (by omega),by omega,(jgz _ _ _).2 (by rw[e2];omega),⟨fun h=>by omega,fun h=>absurd h.symm g2⟩⟩
theorem near_unit (m:Int):nearZ (unit m) 1000000000000=m:=by
 obtain⟨b1,b2⟩:=jhF (unit m)
 have h:=(jf8 m (unit m)).1 rfl
 have hp:=(unit m).den_pos
 generalize nearZ (unit m) 1000000000000=n at *
 rw[h] at b1 b2
 generalize (unit m).den=d at *
 rcases Int.lt_trichotomy n m with g|g|g
 ·exfalso
  have:=ji6 (show n+1≤m by omega) (show (0:Int)≤d by omega)
  rw[jjl] at this
  omega
 ·exact g
 ·exfalso
  have:=ji6 (show m+1≤n by omega) (show (0:Int)≤d by omega)
  rw[jjl] at this
  omega
theorem jft (m:Int)(h:vb m m=true):jdh (unit m)=(m,m,0):=by
 unfold jdh
 rw[near_unit,if_pos h,show ordQ (unit m) (unit m)=0 by unfold ordQ;rw[if_neg Rat.lt_irrefl,if_pos rfl]]
 rw[show min (0:Int) 0=0 from rfl,show max (0:Int) 0=0 from rfl,jjj]
 unfold mk
 rw[if_pos h]
theorem in01_c_o (s:List UInt8)(h:okW s=true):Cl 67 [.str s] (plD (wval s)):=by
 obtain⟨d,j,neg,S,e1,e2⟩:=sg_of s
 rw[e2]
 rw[e1] at h
 unfold okD at h
 simp only[jiR,Bool.not_eq_true',ji9,decide_eq_false_iff_not,jjq] at h
 exact in01_g s d j neg S h.1.2 (by omega) (by have:=S.hl;omega)
theorem rcell_b (zs data:List Int)(out:Int)(n:Nat)(X:Nat→List D)(ck:Cl 35 [.agg [.ints .i64 zs,.int .i64 out,.ints .i64 data]] (.bool false)) :
  Cl 12 [.agg [.ints .i64 zs,.int .i64 out,.ints .i64 data],.slf 2 n X] (.tup [.nil,.nil,.nil,.int .i64 100]):=by
 refine V.en tbOk Tryz.func12 ?_
 refine V.r1 @jiX ck ?_
 exact Fin.of rfl
theorem rcell_len (zs data:List Int)(out:Int)(n:Nat)(X:Nat→List D)(h:n≠zs.length)(ck:Cl 35 [.agg [.ints .i64 zs,.int .i64 out,.ints .i64 data]] (.bool true)) :
  Cl 12 [.agg [.ints .i64 zs,.int .i64 out,.ints .i64 data],.slf 2 n X] (.tup [.nil,.nil,.nil,.int .i64 2]):=by
 refine V.en tbOk Tryz.func12 ?_
 refine V.r1 @jiX ck ?_
 refine Cnd.yes (decide_eq_true (show ((n:Int)≠(zs.length:Int)) from by omega)) ?_
 refine V.r0 @jiX ?_
 exact Fin.of rfl
theorem rcell_fb (zs data:List Int)(out e:Int)(n m:Nat)(X:Nat→Tx)(hn:n=zs.length)(hm:m<n)(h4:n≤4)(he:e≠0)(ck:Cl 35 [.agg [.ints .i64 zs,.int .i64 out,.ints .i64 data]] (.bool true))(h1:∀ k,k<m→Cl 36 [.agg [.str (X k).1,.str (X k).2]] (.int .i64 0))(h2:Cl 36 [.agg [.str (X m).1,.str (X m).2]] (.int .i64 e)) :
  Cl 12 [.agg [.ints .i64 zs,.int .i64 out,.ints .i64 data],.slf 2 n (fun j=>[.str (X j).1,.str (X j).2])] (.tup [.nil,.nil,.nil,.int .i64 e]):=by
 refine V.en tbOk Tryz.func12 ?_
 refine V.r1 @jiX ck ?_
 refine Cnd.no (decide_eq_false (show ¬ ((n:Int)≠(zs.length:Int)) by omega)) ?_
 refine V.r0 @jiX ?_
 refine jad ((0:Nat)) (fun k=>k≤m) (fun k=>m-k) (fun k=>[(8,.int .i64 k)]) (fun k=>[]) ?_ ?_ ?_
 ·exact V.wk
 ·exact jiT _
 intro k hk
 have hkc:((k:Int)+1)=((k+1:Nat):Int):=by omega
 have hlt:decide ((k:Int)<n)=true:=decide_eq_true (by omega)
 by_cases hkm:k=m
 ·subst hkm
  have hne:decide (e≠0)=true:=decide_eq_true he
  refine V.r1 (V.a3 hlt hne @ji0) h2 ?_
  exact Fin.of rfl
 ·have h3:=h1 k (by omega)
  refine V.r1 (V.a3 hlt hkc @ji0) h3 ?_
  exact⟨k+1,by omega,by omega,V.wk⟩
theorem reval_e (zs data:List Int)(out e:Int)(he:e≠0)(n:Nat)(X:Nat→List D)(c:Cl 12 [.agg [.ints .i64 zs,.int .i64 out,.ints .i64 data],.slf 2 n X] (.tup [.nil,.nil,.nil,.int .i64 e])) :
  Cl 14 [.agg [.ints .i64 zs,.int .i64 out,.ints .i64 data],.slf 2 n X] (.tup [.nil,.int .i64 e]):=by
 refine V.en tbOk Tryz.func14 ?_
 refine V.r1 @jiX c ?_
 refine Cnd.yes (decide_eq_true he) ?_
 refine V.r0 @jiX ?_
 exact Fin.of rfl
def rpreI (B:Nat→Int):Nat→List Int
 | 0=>[]
 | k+1=>rpreI B k++[B k]
theorem jdr (B:Nat→Int):∀ k,(rpreI B k).length=k
 | 0=>rfl
 | k+1=>by simp only[rpreI,jjx,jdr B k];rfl
theorem wce_len (Y:Nat→Tx):∀ k,(wce Y k).length=k*2
 | 0=>rfl
 | k+1=>by simp only[wce,jjx,wce_len Y k,jjG,List.length_nil];omega
theorem rchk_q {n:Nat}{q:Rat}(h:Fq n q)(h0:0<n∧n≤600):Cl 36 [frT q] (.int .i64 0):=by
 obtain⟨o,e⟩:=jaB (h.ok h0.1 h0.2)
 have c:=rcheck_c (decZ q.num) (dec q.den) (jaH o).1 (jaH o).2
 rw[if_pos o] at c
 exact c
theorem jfJ (Y:Nat→Tx):∀ (n j:Nat),j<n→List.take 2 (List.drop (j*2) (wce Y n))=[.str (Y j).1,.str (Y j).2]
 | n+1,j,h=>by
  have hl:=wce_len Y n
  simp only[wce]
  rcases ji8 j n with g|g
  ·rw[List.drop_append_of_le_length (by omega),jjF (by rw[jjN];omega)]
   exact jfJ Y n j g
  ·obtain rfl:j=n:=by omega
   rw[← hl,List.drop_left]
   rfl
theorem jbt {e n:Nat}{f g:Nat→List D}(h:∀ j,j<n→g j=f j):_root_.Go.V.Fin (.slf e n f) (.slf e n g):=⟨fun hp v hv=>by
 simp only[Den] at hv ⊢
 obtain⟨a,cap,h1,h2,h3,h4⟩:=hv
 refine⟨a,cap,h1,h2,h3,?_⟩
 cases a with
 | none=>exact h4
 | some ad=>
  refine⟨h4.1,fun j hj=>?_⟩
  have:=h4.2 j hj
  rw[h j hj] at this
  exact this⟩
def rb18:Nat→D
 | 0 => .nil
 | k+1 => .bsl 134 0 (k+1) 2
def rbW (R:Nat→Rat)(O:List Int):Nat→Hp
 | 0=>[]
 | k+1=>[(134,.box (wce (fun i=>txq (bqN R O i-bqN R O (i+1))) (k+1)))]
def rb10:Nat→D
 | 0 => .nil
 | k+1 => .osl 102 0 (k+1)
def rb11:Nat→D
 | 0 => .nil
 | k+1 => .bsl 106 0 (k+1) 2
def rbH (B:Nat→Int)(R:Nat→Rat):Nat→Hp
 | 0=>[]
 | k+1=>[(102,.arr .i64 (rpreI B (k+1))),(106,.box (wce (fun i=>txq (R i)) (k+1)))]
theorem jh8:type_of% @ji0∧type_of% @jiX∧type_of% @tn0∧type_of% @tn1∧type_of% @tn2∧type_of% @tn3:=⟨@ji0,@jiX,@tn0,@tn1,@tn2,@tn3⟩
theorem jhw {zs data:List Int}{out:Int}{n:Nat}(hn:1≤n∧n≤3)(hz:zs.length=n)(q:Nat→Rat)(hq:∀ i,i<n→Fq 40 (q i))(h29:∀ i,i<n→2≤zs.getD i 0∧zs.getD i 0≤9)(ck:Cl 35 [.agg [.ints .i64 zs,.int .i64 out,.ints .i64 data]] (.bool true)) :
  Cl 12 [.agg [.ints .i64 zs,.int .i64 out,.ints .i64 data],.slf 2 n (fun j=>[.str (txq (q j)).1,.str (txq (q j)).2])] (.tup [.ints .i64 (rpreI (fun i=>spB (zs.getD i 0) (q i)) n),.ints .i64 (rS (fun i=>spR (zs.getD i 0) (q i)) n),slQ (fun k=>txq (wqN (fun i=>spR (zs.getD i 0) (q i)) (rS (fun i=>spR (zs.getD i 0) (q i)) n) n k)) (n+1),.int .i64 0]):=by
 obtain⟨B,hB⟩:∃ B:Nat→Int,B=fun i=>spB (zs.getD i 0) (q i):=⟨_,rfl⟩
 obtain⟨R,hR⟩:∃ R:Nat→Rat,R=fun i=>spR (zs.getD i 0) (q i):=⟨_,rfl⟩
 rw[← hB,← hR]
 obtain⟨G,hG⟩:∃ G:Nat→Rat,G=fun i=>gp (zs.getD i 0) (q i):=⟨_,rfl⟩
 have fg:∀ i,i<n→Fq 41 (G i):=fun i hi=>by
  rw[hG]
  exact(fq_cl (hq i hi) (by omega)).mul (jaD (n:=1) (by have:=h29 i hi;omega) (by omega))
 have c1:∀ i,i<n→Cl 36 [.agg [.str (txq (q i)).1,.str (txq (q i)).2]] (.int .i64 0):=fun i hi=>rchk_q (hq i hi) (by decide)
 have c2:∀ i,i<n→Cl 38 [.agg [.str (txq (q i)).1,.str (txq (q i)).2]] (.agg [.str (txq (clQ (q i))).1,.str (txq (clQ (q i))).2]):=fun i hi=>r9clamp_c ((hq i hi).ok (by omega) (by omega))
 have c3:∀ z:Int, -9223372036854775807≤z∧z≤9223372036854775807→Cl 39 [.int .i64 z,.int .i64 1] (.agg [.str (txq (z:Rat)).1,.str (txq (z:Rat)).2]):=fun z hz=>jbC hz
 have c4:∀ i,i<n→Cl 37 [.agg [.str (txq (clQ (q i))).1,.str (txq (clQ (q i))).2],.agg [.str (txq ((zs.getD i 0-1:Int):Rat)).1,.str (txq ((zs.getD i 0-1:Int):Rat)).2]] (.tup [.agg [.str (txq (G i)).1,.str (txq (G i)).2],.int .i64 0]):=fun i hi=>by
  rw[hG]
  exact zrmul (fq_cl (hq i hi) (by omega)) (jaD (n:=1) (by have:=h29 i hi;omega) (by omega)) (by omega) (by omega) (by omega)
 have c5:∀ i,i<n → ∀ b:Int,0≤b∧b≤9→Cl 40 [.agg [.str (txq (G i)).1,.str (txq (G i)).2],.agg [.str (txq (b:Rat)).1,.str (txq (b:Rat)).2]] (.bool (decide (G i<(b:Rat)))):=fun i hi b hb=>jgS (fg i hi) (jaD (n:=1) (by omega) (by omega)) (by decide) (by decide)
 have bb:∀ i,i<n→0≤B i∧B i≤7:=fun i hi=>by
  have h:=h29 i hi
  have g:=gp_bd h.1 (q i)
  rw[hB]
  dsimp only
  unfold spB
  have f0:(0:Int)≤(gp (zs.getD i 0) (q i)).floor:=Rat.le_floor_iff.2 g.1
  omega
 have st:∀ i,i<n → ∀ b:Int,(b<zs.getD i 0-2 ∧ ¬ G i<((b+1:Int):Rat))↔b+1≤B i:=fun i hi b=>by
  rw[hB,hG]
  exact spB_step (q i)
 have fr:∀ i,i<n→Fq 43 (R i):=fun i hi=>by
  rw[hR]
  exact jbc (hq i hi) (by decide) (h29 i hi)
 have c6:∀ i,i<n→Cl 41 [.agg [.str (txq (G i)).1,.str (txq (G i)).2],.agg [.str (txq (B i:Rat)).1,.str (txq (B i:Rat)).2]] (.tup [.agg [.str (txq (R i)).1,.str (txq (R i)).2],.int .i64 0]):=fun i hi=>by
  have c:=zrsub (fg i hi) (jaD (n:=1) (z:=B i) (by have:=bb i hi;omega) (by omega)) (by omega) (by omega) (by omega)
  rw[show G i-(B i:Rat)=R i by rw[hG,hB,hR];rfl] at c
  exact c
 clear hB hR hG
 refine V.en tbOk Tryz.func12 ?_
 refine V.r1 @jiX ck ?_
 refine Cnd.no (decide_eq_false (show ¬ ((n:Int)≠(zs.length:Int)) by omega)) ?_
 refine V.r0 @jiX ?_
 refine jad (0:Nat) (fun k=>k≤n) (fun k=>n-k) (fun k=>[(8,.int .i64 (k:Nat))]) (fun _=>[]) ?_ ?_ ?_
 ·exact V.wk
 ·exact jiT _
 intro k hk
 try dsimp only at hk ⊢
 have hkc:((k:Int)+1)=((k+1:Nat):Int):=by omega
 by_cases hkn:k<n
 ·have hlt:decide ((k:Int)<n)=true:=decide_eq_true (by omega)
  have d1:=c1 k hkn
  refine V.r1 (V.a3 hlt hkc @ji0) d1 ?_
  exact⟨k+1,by omega,by omega,V.wk⟩
 have hlt:decide ((k:Int)<n)=false:=decide_eq_false (by omega)
 refine V.r0 (V.a2 hlt @ji0) ?_
 refine jcM (β:=Unit) 2 (fun _=>True) (fun _=>[(12,.any),(10,.osl 102 0 n),(11,.slf 2 n (fun j=>List.take 2 (List.drop (j*2) (wce (fun i=>txq (R i)) n))))]) (fun _=>[(102,.arr .i64 (rpreI B n)),(106,.gone)]) ?_ ?_
 rotate_left
 ·intro _ _
  try dsimp only
  have wat:∀ o,o<n→List.take 2 (List.drop (o*2) (wce (fun i=>txq (R i)) n))=[.str (txq (R o)).1,.str (txq (R o)).2]:=fun o ho=>jfJ _ n o ho
  have sd0:=sorted_t (n:=n) (by omega) (fun i=>txq (R i)) R (fun i j hi hj=>jgS (fr i hi) (fr j hj) (by decide) (by decide))
  have sdc:Cl 42 [.slf 2 n (fun j=>List.take 2 (List.drop (j*2) (wce (fun i=>txq (R i)) n)))] (.ints .i64 (rS R n)):=Called.arg (show FinL [.slf 2 n (fun j=>[.str (txq (R j)).1,.str (txq (R j)).2])] [.slf 2 n (fun j=>List.take 2 (List.drop (j*2) (wce (fun i=>txq (R i)) n)))] from ⟨jbt (fun j hj=>wat j hj),trivial⟩) sd0
  have hO:=rS_len R n
  have hOg:∀ k,k<n→0≤(rS R n).getD k 0∧(rS R n).getD k 0<n:=fun k hk=>rS_get R hk
  obtain⟨O,eO⟩:∃ O,rS R n=O:=⟨_,rfl⟩
  rw[eO] at sdc hO hOg ⊢
  have one:=c3 1 (by omega)
  rw[show ((1:Int):Rat)=1 from rfl] at one
  have cw:∀ k,k<n→Cl 41 [.agg [.str (txq (bqN R O k)).1,.str (txq (bqN R O k)).2],.agg [.str (txq (R (O.getD k 0).toNat)).1,.str (txq (R (O.getD k 0).toNat)).2]] (.tup [.agg [.str (txq (bqN R O k-bqN R O (k+1))).1,.str (txq (bqN R O k-bqN R O (k+1))).2],.int .i64 0]):=fun k hk=>by
   have fb:Fq 43 (bqN R O k):=by
    rcases k with _|k
    ·exact fq_one
    ·exact fr _ (by have:=hOg k (by omega);omega)
   exact zrsub fb (fr (O.getD k 0).toNat (by have:=hOg k hk;omega)) (by omega) (by omega) (by omega)
  refine V.r2 jh8 sdc one ?_
  refine jad (0:Nat) (fun k=>k≤n) (fun k=>n-k) (fun k=>[(20,.int .i64 (k:Nat)),(18,rb18 k)]) (fun k=>(19,.box [.str (txq (bqN R O k)).1,.str (txq (bqN R O k)).2])::rbW R O k) ?_ ?_ ?_
  ·exact V.wk
  ·exact jiT _
  intro k hk
  try dsimp only at hk ⊢
  have hk4:k=0∨k=1∨k=2∨k=3:=by omega
  rcases hk4 with e|e|e|e
  all_goals subst e
  ·simp only[k0,rb18,rbW]
   by_cases hkn:0<n
   ·have hlt:decide ((0:Int)<(O.length:Nat))=true:=decide_eq_true (by omega)
    have hob:=hOg 0 hkn
    have c:=cw 0 hkn
    have e2:=wat (O.getD 0 0).toNat (by omega)
    refine V.r0 (V.a2 jh8 hlt) ?_
    refine⟨Pq25z,[],V.pok,?_⟩
    refine jab [(21,.box 21 0),(22,.int .i64 0)] [(21,.box [.str (txq (bqN R O 0-bqN R O 1)).1,.str (txq (bqN R O 0-bqN R O 1)).2])] ?_ ?_
    ·(conv=>whnf);(try simp only[jh8,e2])
     repeat' (first|exact V.wk|((with_reducible refine And.intro ?_ jaq);(conv=>whnf);(try simp only[jh8,e2]))|((with_reducible first|refine jam ?_ ?_|refine jao ?_ ?_)<;>(conv=>whnf);(try simp only[jh8,e2]))|((first|refine V.s1 ?_|((with_reducible refine jaf ?_ ?_);(focus ((conv=>whnf);(try simp only[jh8,e2]);(repeat ((first|refine V.s1 ?_|((refine And.intro (fun _=>hob) ?_);(conv=>whnf)));(try simp only[jh8,e2])));exact⟨rfl⟩));(conv=>whnf))|((try ((with_reducible refine .ext ?_);(conv=>whnf);(try simp only[jh8,e2])));(with_reducible refine jaa (r:=?_) ?_ ?_);rotate_left;(focus (first|exact(c)));(conv=>whnf))|((refine And.intro (fun _=>hob) ?_);(conv=>whnf)));(try simp only[jh8,e2]))|(refine And.intro ?_ ?_<;>(conv=>whnf);(try simp only[jh8,e2])))
    (conv=>whnf)
    (try simp only[jh8,e2])
    repeat ((first|refine V.s1 ?_|((try ((with_reducible refine .ext ?_);(conv=>whnf);(try simp only[jh8,e2])));(with_reducible refine jaa (r:=?_) ?_ ?_);rotate_left;(focus (first|fail));(conv=>whnf))|((refine And.intro (fun _=>hob) ?_);(conv=>whnf)));(try simp only[jh8,e2]))
    exact⟨1,by omega,by omega,V.wk⟩
   ·have hlf:decide ((0:Int)<(O.length:Nat))=false:=decide_eq_false (by omega)
    omega
  ·simp only[k1,rb18,rbW]
   by_cases hkn:1<n
   ·have hlt:decide ((1:Int)<(O.length:Nat))=true:=decide_eq_true (by omega)
    have hob:=hOg 1 hkn
    have c:=cw 1 hkn
    have e2:=wat (O.getD 1 0).toNat (by omega)
    refine V.r0 (V.a2 jh8 hlt) ?_
    refine⟨Pq25z,[],V.pok,?_⟩
    refine jab [(21,.box 21 0),(22,.int .i64 0)] [(21,.box [.str (txq (bqN R O 1-bqN R O 2)).1,.str (txq (bqN R O 1-bqN R O 2)).2])] ?_ ?_
    ·(conv=>whnf);(try simp only[jh8,e2])
     repeat' (first|exact V.wk|((with_reducible refine And.intro ?_ jaq);(conv=>whnf);(try simp only[jh8,e2]))|((with_reducible first|refine jam ?_ ?_|refine jao ?_ ?_)<;>(conv=>whnf);(try simp only[jh8,e2]))|((first|refine V.s1 ?_|((with_reducible refine jaf ?_ ?_);(focus ((conv=>whnf);(try simp only[jh8,e2]);(repeat ((first|refine V.s1 ?_|((refine And.intro (fun _=>hob) ?_);(conv=>whnf)));(try simp only[jh8,e2])));exact⟨rfl⟩));(conv=>whnf))|((try ((with_reducible refine .ext ?_);(conv=>whnf);(try simp only[jh8,e2])));(with_reducible refine jaa (r:=?_) ?_ ?_);rotate_left;(focus (first|exact(c)));(conv=>whnf))|((refine And.intro (fun _=>hob) ?_);(conv=>whnf)));(try simp only[jh8,e2]))|(refine And.intro ?_ ?_<;>(conv=>whnf);(try simp only[jh8,e2])))
    (conv=>whnf)
    (try simp only[jh8,e2])
    repeat ((first|refine V.s1 ?_|((try ((with_reducible refine .ext ?_);(conv=>whnf);(try simp only[jh8,e2])));(with_reducible refine jaa (r:=?_) ?_ ?_);rotate_left;(focus (first|fail));(conv=>whnf))|((refine And.intro (fun _=>hob) ?_);(conv=>whnf)));(try simp only[jh8,e2]))
    exact⟨2,by omega,by omega,V.wk⟩
   ·have hlf:decide ((1:Int)<(O.length:Nat))=false:=decide_eq_false (by omega)
    obtain rfl:n=1:=by omega
    refine V.r0 jh8 ?_
    refine Cnd.no hlf ?_
    refine V.r0 jh8 ?_
    exact Fin.of rfl
  ·simp only[k2,rb18,rbW]
   by_cases hkn:2<n
   ·have hlt:decide ((2:Int)<(O.length:Nat))=true:=decide_eq_true (by omega)
    have hob:=hOg 2 hkn
    have c:=cw 2 hkn
    have e2:=wat (O.getD 2 0).toNat (by omega)
    refine V.r0 (V.a2 jh8 hlt) ?_
    refine⟨Pq25z,[],V.pok,?_⟩
    refine jab [(21,.box 21 0),(22,.int .i64 0)] [(21,.box [.str (txq (bqN R O 2-bqN R O 3)).1,.str (txq (bqN R O 2-bqN R O 3)).2])] ?_ ?_
    ·(conv=>whnf);(try simp only[jh8,e2])
     repeat' (first|exact V.wk|((with_reducible refine And.intro ?_ jaq);(conv=>whnf);(try simp only[jh8,e2]))|((with_reducible first|refine jam ?_ ?_|refine jao ?_ ?_)<;>(conv=>whnf);(try simp only[jh8,e2]))|((first|refine V.s1 ?_|((with_reducible refine jaf ?_ ?_);(focus ((conv=>whnf);(try simp only[jh8,e2]);(repeat ((first|refine V.s1 ?_|((refine And.intro (fun _=>hob) ?_);(conv=>whnf)));(try simp only[jh8,e2])));exact⟨rfl⟩));(conv=>whnf))|((try ((with_reducible refine .ext ?_);(conv=>whnf);(try simp only[jh8,e2])));(with_reducible refine jaa (r:=?_) ?_ ?_);rotate_left;(focus (first|exact(c)));(conv=>whnf))|((refine And.intro (fun _=>hob) ?_);(conv=>whnf)));(try simp only[jh8,e2]))|(refine And.intro ?_ ?_<;>(conv=>whnf);(try simp only[jh8,e2])))
    (conv=>whnf)
    (try simp only[jh8,e2])
    repeat ((first|refine V.s1 ?_|((try ((with_reducible refine .ext ?_);(conv=>whnf);(try simp only[jh8,e2])));(with_reducible refine jaa (r:=?_) ?_ ?_);rotate_left;(focus (first|fail));(conv=>whnf))|((refine And.intro (fun _=>hob) ?_);(conv=>whnf)));(try simp only[jh8,e2]))
    exact⟨3,by omega,by omega,V.wk⟩
   ·have hlf:decide ((2:Int)<(O.length:Nat))=false:=decide_eq_false (by omega)
    obtain rfl:n=2:=by omega
    refine V.r0 jh8 ?_
    refine Cnd.no hlf ?_
    refine V.r0 jh8 ?_
    exact Fin.of rfl
  ·simp only[k3,rb18,rbW]
   obtain rfl:n=3:=by omega
   have hlf:decide ((3:Int)<(O.length:Nat))=false:=decide_eq_false (by omega)
   refine V.r0 jh8 ?_
   refine Cnd.no hlf ?_
   refine V.r0 jh8 ?_
   exact Fin.of rfl
 refine jad (0:Nat) (fun k=>k≤n) (fun k=>n-k) (fun k=>[(12,.int .i64 (k:Nat)),(10,rb10 k),(11,rb11 k)]) (fun k=>rbH B R k) ?_ ?_ ?_
 ·exact V.wk
 ·exact jiT _
 intro k hk
 try dsimp only at hk ⊢
 have hk4:k=0∨k=1∨k=2∨k=3:=by omega
 rcases hk4 with e|e|e|e
 all_goals subst e
 ·simp only[k0,rb10,rb11,rbH]
  by_cases hkn:0<n
  ·have hlt:decide ((0:Int)<n)=true:=decide_eq_true (by omega)
   obtain⟨z,hzz⟩:∃ z,zs.getD 0 0=z:=⟨_,rfl⟩
   have z0:=h29 0 hkn
   have d2:=c2 0 hkn
   have d4:=c4 0 hkn
   have d6:=c6 0 hkn
   have b0:=bb 0 hkn
   have s0:=st 0 hkn
   have c5i:=c5 0 hkn
   simp only[hzz] at z0 d4 s0
   have d3:=c3 (z-1) (by omega)
   have d7:=c3 (B 0) (by omega)
   refine V.r0 (V.a3 jh8 hlt hzz) ?_
   refine⟨Pq46z,[],V.pok,?_⟩
   refine jab [(13,.box 13 0),(14,.int .i64 0)] [(13,.box [.str (txq (G 0)).1,.str (txq (G 0)).2])] ?_ ?_
   ·exact V.d3 (V.a2 jh8 hzz) d2 d3 d4
   refine V.r0 jh8 ?_
   refine jcM (β:=Unit) 4 (fun _=>True) (fun _=>[(15,.int .i64 (B 0))]) (fun _=>[]) ?_ ?_
   ·refine jad (0:Nat) (fun b=>(b:Int)≤B 0) (fun b=>(B 0).toNat-b) (fun b=>[(15,.int .i64 (b:Nat))]) (fun _=>[]) ?_ ?_ ?_
    ·exact V.wk
    ·exact b0.1
    intro b hb
    try dsimp only at hb ⊢
    have s1:=s0 b
    by_cases hbz:(b:Int)<z-2
    ·have hlt2:decide ((b:Int)<z-2)=true:=decide_eq_true hbz
     have e3:=c3 ((b:Int)+1) (by omega)
     have e5:=c5i ((b:Int)+1) (by omega)
     refine V.r0 (V.a3 jh8 hlt2 hzz) ?_
     refine⟨Pq11z,[],V.pok,.go (jac ?_)⟩
     (conv=>whnf)
     (try simp only[jh8,hlt2,hzz])
     repeat ((first|refine V.s1 ?_|((try ((with_reducible refine .ext ?_);(conv=>whnf);(try simp only[jh8,hlt2,hzz])));(with_reducible refine jaa (r:=?_) ?_ ?_);rotate_left;(focus (first|fail));(conv=>whnf))|((refine⟨_,fun _=>e3,?_⟩);(conv=>whnf))|((refine⟨_,fun _=>e5,?_⟩);(conv=>whnf)));(try simp only[jh8,hlt2,hzz]))
     refine V.br (fun hq=>?_) (fun hq=>?_)
     ·have hq2:¬ G 0<(((b:Int)+1:Int):Rat):=by simpa using hq
      refine V.r0 jh8 ?_
      exact⟨b+1,by have:=s1.1 ⟨hbz,hq2⟩;omega,by have:=s1.1 ⟨hbz,hq2⟩;omega,V.wk⟩
     ·have hq2:G 0<(((b:Int)+1:Int):Rat):=by simpa using hq
      have hB:B 0=b:=by
       have h:¬ ((b:Int)+1≤B 0):=fun h=>(s1.2 h).2 hq2
       omega
      refine V.r0 jh8 ?_
      refine⟨(),trivial,?_⟩
      try dsimp only
      rw[hB]
      exact V.wk
    ·have hlt2:decide ((b:Int)<z-2)=false:=decide_eq_false hbz
     have hB:B 0=b:=by
      have h:¬ ((b:Int)+1≤B 0):=fun h=>hbz (s1.2 h).1
      omega
     refine V.r0 (V.a3 jh8 hlt2 hzz) ?_
     refine⟨Pq11z,[],V.pok,.go (jac ?_)⟩
     (conv=>whnf)
     (try simp only[jh8,hlt2,hzz])
     repeat ((first|refine V.s1 ?_|((try ((with_reducible refine .ext ?_);(conv=>whnf);(try simp only[jh8,hlt2,hzz])));(with_reducible refine jaa (r:=?_) ?_ ?_);rotate_left;(focus (first|fail));(conv=>whnf))|((refine⟨.bool false,(fun h=>by cases h),?_⟩);(conv=>whnf))|((refine And.intro (fun h=>by cases h) ?_);(conv=>whnf)));(try simp only[jh8,hlt2,hzz]))
     refine⟨(),trivial,?_⟩
     try dsimp only
     rw[hB]
     exact V.wk
   intro _ _
   try dsimp only
   refine V.r0 jh8 ?_
   refine⟨Pq71z,[],V.pok,?_⟩
   refine jab [(16,.box 16 0),(14,.int .i64 0)] [(16,.box [.str (txq (R 0)).1,.str (txq (R 0)).2])] ?_ ?_
   ·exact V.d2 jh8 d7 d6
   have hpl:=jdr B 0
   (conv=>whnf)
   (try simp only[jh8])
   repeat ((first|refine V.s1 ?_|((try ((with_reducible refine .ext ?_);(conv=>whnf);(try simp only[jh8])));(with_reducible refine jaa (r:=?_) ?_ ?_);rotate_left;(focus (first|fail));(conv=>whnf))|((refine And.intro (fun _=>⟨hpl,jiS rfl⟩) ?_);(conv=>whnf)));(try simp only[jh8]))
   exact⟨1,by omega,by omega,V.wk⟩
  ·have hlt:decide ((0:Int)<n)=false:=decide_eq_false (by omega)
   omega
 ·simp only[k1,rb10,rb11,rbH]
  by_cases hkn:1<n
  ·have hlt:decide ((1:Int)<n)=true:=decide_eq_true (by omega)
   obtain⟨z,hzz⟩:∃ z,zs.getD 1 0=z:=⟨_,rfl⟩
   have z0:=h29 1 hkn
   have d2:=c2 1 hkn
   have d4:=c4 1 hkn
   have d6:=c6 1 hkn
   have b0:=bb 1 hkn
   have s0:=st 1 hkn
   have c5i:=c5 1 hkn
   simp only[hzz] at z0 d4 s0
   have d3:=c3 (z-1) (by omega)
   have d7:=c3 (B 1) (by omega)
   refine V.r0 (V.a3 jh8 hlt hzz) ?_
   refine⟨Pq46z,[],V.pok,?_⟩
   refine jab [(13,.box 13 0),(14,.int .i64 0)] [(13,.box [.str (txq (G 1)).1,.str (txq (G 1)).2])] ?_ ?_
   ·exact V.d3 (V.a2 jh8 hzz) d2 d3 d4
   refine V.r0 jh8 ?_
   refine jcM (β:=Unit) 4 (fun _=>True) (fun _=>[(15,.int .i64 (B 1))]) (fun _=>[]) ?_ ?_
   ·refine jad (0:Nat) (fun b=>(b:Int)≤B 1) (fun b=>(B 1).toNat-b) (fun b=>[(15,.int .i64 (b:Nat))]) (fun _=>[]) ?_ ?_ ?_
    ·exact V.wk
    ·exact b0.1
    intro b hb
    try dsimp only at hb ⊢
    have s1:=s0 b
    by_cases hbz:(b:Int)<z-2
    ·have hlt2:decide ((b:Int)<z-2)=true:=decide_eq_true hbz
     have e3:=c3 ((b:Int)+1) (by omega)
     have e5:=c5i ((b:Int)+1) (by omega)
     refine V.r0 (V.a3 jh8 hlt2 hzz) ?_
     refine⟨Pq11z,[],V.pok,.go (jac ?_)⟩
     (conv=>whnf)
     (try simp only[jh8,hlt2,hzz])
     repeat ((first|refine V.s1 ?_|((try ((with_reducible refine .ext ?_);(conv=>whnf);(try simp only[jh8,hlt2,hzz])));(with_reducible refine jaa (r:=?_) ?_ ?_);rotate_left;(focus (first|fail));(conv=>whnf))|((refine⟨_,fun _=>e3,?_⟩);(conv=>whnf))|((refine⟨_,fun _=>e5,?_⟩);(conv=>whnf)));(try simp only[jh8,hlt2,hzz]))
     refine V.br (fun hq=>?_) (fun hq=>?_)
     ·have hq2:¬ G 1<(((b:Int)+1:Int):Rat):=by simpa using hq
      refine V.r0 jh8 ?_
      exact⟨b+1,by have:=s1.1 ⟨hbz,hq2⟩;omega,by have:=s1.1 ⟨hbz,hq2⟩;omega,V.wk⟩
     ·have hq2:G 1<(((b:Int)+1:Int):Rat):=by simpa using hq
      have hB:B 1=b:=by
       have h:¬ ((b:Int)+1≤B 1):=fun h=>(s1.2 h).2 hq2
       omega
      refine V.r0 jh8 ?_
      refine⟨(),trivial,?_⟩
      try dsimp only
      rw[hB]
      exact V.wk
    ·have hlt2:decide ((b:Int)<z-2)=false:=decide_eq_false hbz
     have hB:B 1=b:=by
      have h:¬ ((b:Int)+1≤B 1):=fun h=>hbz (s1.2 h).1
      omega
     refine V.r0 (V.a3 jh8 hlt2 hzz) ?_
     refine⟨Pq11z,[],V.pok,.go (jac ?_)⟩
     (conv=>whnf)
     (try simp only[jh8,hlt2,hzz])
     repeat ((first|refine V.s1 ?_|((try ((with_reducible refine .ext ?_);(conv=>whnf);(try simp only[jh8,hlt2,hzz])));(with_reducible refine jaa (r:=?_) ?_ ?_);rotate_left;(focus (first|fail));(conv=>whnf))|((refine⟨.bool false,(fun h=>by cases h),?_⟩);(conv=>whnf))|((refine And.intro (fun h=>by cases h) ?_);(conv=>whnf)));(try simp only[jh8,hlt2,hzz]))
     refine⟨(),trivial,?_⟩
     try dsimp only
     rw[hB]
     exact V.wk
   intro _ _
   try dsimp only
   refine V.r0 jh8 ?_
   refine⟨Pq71z,[],V.pok,?_⟩
   refine jab [(16,.box 16 0),(14,.int .i64 0)] [(16,.box [.str (txq (R 1)).1,.str (txq (R 1)).2])] ?_ ?_
   ·exact V.d2 jh8 d7 d6
   have hpl:=jdr B 1
   (conv=>whnf)
   (try simp only[jh8])
   repeat ((first|refine V.s1 ?_|((try ((with_reducible refine .ext ?_);(conv=>whnf);(try simp only[jh8])));(with_reducible refine jaa (r:=?_) ?_ ?_);rotate_left;(focus (first|fail));(conv=>whnf))|((refine And.intro (fun _=>⟨hpl,jiS rfl⟩) ?_);(conv=>whnf)));(try simp only[jh8]))
   exact⟨2,by omega,by omega,V.wk⟩
  ·have hlt:decide ((1:Int)<n)=false:=decide_eq_false (by omega)
   obtain rfl:n=1:=by omega
   refine V.r0 (V.a2 jh8 hlt) ?_
   refine⟨(),trivial,?_⟩
   try dsimp only
   refine Wk.pub 106 ?_
   (conv=>whnf)
   simp only[jiX]
   exact V.wk
 ·simp only[k2,rb10,rb11,rbH]
  by_cases hkn:2<n
  ·have hlt:decide ((2:Int)<n)=true:=decide_eq_true (by omega)
   obtain⟨z,hzz⟩:∃ z,zs.getD 2 0=z:=⟨_,rfl⟩
   have z0:=h29 2 hkn
   have d2:=c2 2 hkn
   have d4:=c4 2 hkn
   have d6:=c6 2 hkn
   have b0:=bb 2 hkn
   have s0:=st 2 hkn
   have c5i:=c5 2 hkn
   simp only[hzz] at z0 d4 s0
   have d3:=c3 (z-1) (by omega)
   have d7:=c3 (B 2) (by omega)
   refine V.r0 (V.a3 jh8 hlt hzz) ?_
   refine⟨Pq46z,[],V.pok,?_⟩
   refine jab [(13,.box 13 0),(14,.int .i64 0)] [(13,.box [.str (txq (G 2)).1,.str (txq (G 2)).2])] ?_ ?_
   ·exact V.d3 (V.a2 jh8 hzz) d2 d3 d4
   refine V.r0 jh8 ?_
   refine jcM (β:=Unit) 4 (fun _=>True) (fun _=>[(15,.int .i64 (B 2))]) (fun _=>[]) ?_ ?_
   ·refine jad (0:Nat) (fun b=>(b:Int)≤B 2) (fun b=>(B 2).toNat-b) (fun b=>[(15,.int .i64 (b:Nat))]) (fun _=>[]) ?_ ?_ ?_
    ·exact V.wk
    ·exact b0.1
    intro b hb
    try dsimp only at hb ⊢
    have s1:=s0 b
    by_cases hbz:(b:Int)<z-2
    ·have hlt2:decide ((b:Int)<z-2)=true:=decide_eq_true hbz
     have e3:=c3 ((b:Int)+1) (by omega)
     have e5:=c5i ((b:Int)+1) (by omega)
     refine V.r0 (V.a3 jh8 hlt2 hzz) ?_
     refine⟨Pq11z,[],V.pok,.go (jac ?_)⟩
     (conv=>whnf)
     (try simp only[jh8,hlt2,hzz])
     repeat ((first|refine V.s1 ?_|((try ((with_reducible refine .ext ?_);(conv=>whnf);(try simp only[jh8,hlt2,hzz])));(with_reducible refine jaa (r:=?_) ?_ ?_);rotate_left;(focus (first|fail));(conv=>whnf))|((refine⟨_,fun _=>e3,?_⟩);(conv=>whnf))|((refine⟨_,fun _=>e5,?_⟩);(conv=>whnf)));(try simp only[jh8,hlt2,hzz]))
     refine V.br (fun hq=>?_) (fun hq=>?_)
     ·have hq2:¬ G 2<(((b:Int)+1:Int):Rat):=by simpa using hq
      refine V.r0 jh8 ?_
      exact⟨b+1,by have:=s1.1 ⟨hbz,hq2⟩;omega,by have:=s1.1 ⟨hbz,hq2⟩;omega,V.wk⟩
     ·have hq2:G 2<(((b:Int)+1:Int):Rat):=by simpa using hq
      have hB:B 2=b:=by
       have h:¬ ((b:Int)+1≤B 2):=fun h=>(s1.2 h).2 hq2
       omega
      refine V.r0 jh8 ?_
      refine⟨(),trivial,?_⟩
      try dsimp only
      rw[hB]
      exact V.wk
    ·have hlt2:decide ((b:Int)<z-2)=false:=decide_eq_false hbz
     have hB:B 2=b:=by
      have h:¬ ((b:Int)+1≤B 2):=fun h=>hbz (s1.2 h).1
      omega
     refine V.r0 (V.a3 jh8 hlt2 hzz) ?_
     refine⟨Pq11z,[],V.pok,.go (jac ?_)⟩
     (conv=>whnf)
     (try simp only[jh8,hlt2,hzz])
     repeat ((first|refine V.s1 ?_|((try ((with_reducible refine .ext ?_);(conv=>whnf);(try simp only[jh8,hlt2,hzz])));(with_reducible refine jaa (r:=?_) ?_ ?_);rotate_left;(focus (first|fail));(conv=>whnf))|((refine⟨.bool false,(fun h=>by cases h),?_⟩);(conv=>whnf))|((refine And.intro (fun h=>by cases h) ?_);(conv=>whnf)));(try simp only[jh8,hlt2,hzz]))
     refine⟨(),trivial,?_⟩
     try dsimp only
     rw[hB]
     exact V.wk
   intro _ _
   try dsimp only
   refine V.r0 jh8 ?_
   refine⟨Pq71z,[],V.pok,?_⟩
   refine jab [(16,.box 16 0),(14,.int .i64 0)] [(16,.box [.str (txq (R 2)).1,.str (txq (R 2)).2])] ?_ ?_
   ·exact V.d2 jh8 d7 d6
   have hpl:=jdr B 2
   (conv=>whnf)
   (try simp only[jh8])
   repeat ((first|refine V.s1 ?_|((try ((with_reducible refine .ext ?_);(conv=>whnf);(try simp only[jh8])));(with_reducible refine jaa (r:=?_) ?_ ?_);rotate_left;(focus (first|fail));(conv=>whnf))|((refine And.intro (fun _=>⟨hpl,jiS rfl⟩) ?_);(conv=>whnf)));(try simp only[jh8]))
   exact⟨3,by omega,by omega,V.wk⟩
  ·have hlt:decide ((2:Int)<n)=false:=decide_eq_false (by omega)
   obtain rfl:n=2:=by omega
   refine V.r0 (V.a2 jh8 hlt) ?_
   refine⟨(),trivial,?_⟩
   try dsimp only
   refine Wk.pub 106 ?_
   (conv=>whnf)
   simp only[jiX]
   exact V.wk
 ·simp only[k3,rb10,rb11,rbH]
  have hlt:decide ((3:Int)<n)=false:=decide_eq_false (by omega)
  obtain rfl:n=3:=by omega
  refine V.r0 (V.a2 jh8 hlt) ?_
  refine⟨(),trivial,?_⟩
  try dsimp only
  refine Wk.pub 106 ?_
  (conv=>whnf)
  simp only[jiX]
  exact V.wk
def rcv:Nat→D
 | 0 => .nil
 | k+1 => .bsl 52 0 (k+1) 1
def rb15:Nat→D
 | 0 => .nil
 | k+1 => .bsl 119 0 (k+1) 2
def rbY (Y:Nat→Tx):Nat→Hp
 | 0=>[]
 | k+1=>[(119,.box (wce Y (k+1)))]
def rch (U:Nat→List Int):Nat→Hp
 | 0=>[]
 | k+1=>[(52,.box (pce U (k+1)))]
theorem jip:type_of% @ji0∧type_of% @jiY∧type_of% @jiX∧type_of% @tn0∧type_of% @tn1∧type_of% @tn2∧type_of% @tn3∧type_of% @xt4:=⟨@ji0,@jiY,@jiX,@tn0,@tn1,@tn2,@tn3,@xt4⟩
theorem jiJ:type_of% @ji0∧type_of% @jjO ∧ type_of% @jiY∧type_of% @jiX∧type_of% @tn0∧type_of% @tn1∧type_of% @tn2∧type_of% @tn3∧type_of% @xt4:=⟨@ji0,@jjO,@jiY,@jiX,@tn0,@tn1,@tn2,@tn3,@xt4⟩
theorem jiv:type_of% @ji0∧type_of% @jiY∧type_of% @jiX∧type_of% @k0∧type_of% @k1∧type_of% @k2∧type_of% @k3∧type_of% @tn0∧type_of% @tn1∧type_of% @tn2∧type_of% @tn3∧type_of% @xt4:=⟨@ji0,@jiY,@jiX,@k0,@k1,@k2,@k3,@tn0,@tn1,@tn2,@tn3,@xt4⟩
theorem reval1_t (zs data O:List Int)(out:Int)(X:Nat→List D)(A U:Nat→List Int)(p:Nat→Int)(W Y:Nat→Tx)(I P S:Nat→Nat→Tx)(ho:1≤out∧out≤4)(hl:O.length=1)(hd:data.length≤4096)
  (hA:∀ k,k<1→(0≤O.getD k 0∧O.getD k 0<1)∧(-1000≤(A k).getD (O.getD k 0).toNat 0∧(A k).getD (O.getD k 0).toNat 0≤1000)∧A (k+1)=(A k).set (O.getD k 0).toNat ((A k).getD (O.getD k 0).toNat 0+1)) (hAl:∀ k,k≤1→(A k).length=1)
  (hp:∀ k,k≤1→(0≤p k∧p k+out≤data.length)∧(data.take (p k+out).toNat).drop (p k).toNat=U k) (hU:∀ k,k≤1→(U k).length=out.toNat)
  (cell:Cl 12 [.agg [.ints .i64 zs,.int .i64 out,.ints .i64 data],.slf 2 1 X] (.tup [.ints .i64 (A 0),.ints .i64 O,slQ W 2,.int .i64 0]))
  (place:∀ k,k≤1→Cl 91 [.agg [.ints .i64 zs,.int .i64 out,.ints .i64 data],.ints .i64 (A k)] (.tup [.int .i64 (p k),.int .i64 0]))
  (zero:Cl 39 [.int .i64 0,.int .i64 1] (.agg [.str (S 0 0).1,.str (S 0 0).2])) (s0:∀ j,S j 0=S 0 0) (full:Tx) (cfull:Cl 39 [.int .i64 65535,.int .i64 1] (.agg [.str (full).1,.str (full).2]))
  (ci:∀ j k,j<out.toNat→k≤1→Cl 39 [.int .i64 ((U k).getD j 0),.int .i64 1] (.agg [.str (I j k).1,.str (I j k).2]))
  (cm:∀ j k,j<out.toNat→k≤1→Cl 37 [.agg [.str (W k).1,.str (W k).2],.agg [.str (I j k).1,.str (I j k).2]] (.tup [.agg [.str (P j k).1,.str (P j k).2],.int .i64 0]))
  (ca:∀ j k,j<out.toNat→k≤1→Cl 45 [.agg [.str (S j k).1,.str (S j k).2],.agg [.str (P j k).1,.str (P j k).2]] (.tup [.agg [.str (S j (k+1)).1,.str (S j (k+1)).2],.int .i64 0]))
  (cd:∀ j,j<out.toNat→Cl 46 [.agg [.str (S j 2).1,.str (S j 2).2],.agg [.str (full).1,.str (full).2]] (.tup [.agg [.str (Y j).1,.str (Y j).2],.int .i64 0])) :
  Cl 14 [.agg [.ints .i64 zs,.int .i64 out,.ints .i64 data],.slf 2 1 X] (.tup [slQ Y out.toNat,.int .i64 0]):=by
 have B0:(A 0).length=1:=hAl 0 (by omega)
 refine V.en tbOk Tryz.func14 ?_
 (conv=>whnf)
 (conv=>whnf)
 (try simp only[B0,jjO,jjE,jiX,jiY,tn0,tn1,tn2,tn3,xt4,ji0])
 repeat ((first|refine V.s1 ?_|((try ((with_reducible refine .ext ?_);(conv=>whnf);(try simp only[B0,jjO,jjE,jiX,jiY,tn0,tn1,tn2,tn3,xt4,ji0])));(with_reducible refine jaa (r:=?_) ?_ ?_);rotate_left;(focus (first|exact(cell)));(conv=>whnf)));(try simp only[B0,jjO,jjE,jiX,jiY,tn0,tn1,tn2,tn3,xt4,ji0]))
 refine jad (0:Nat) (fun k=>k≤2) (fun k=>2-k) (fun k=>[(12,.int .i64 (k:Nat)),(10,rcv k)]) (fun k=>(36,.arr .i64 (A (min k 1)))::rch U k) ?_ ?_ ?_
 ·exact V.wk
 ·exact jiT _
 intro k hk
 try dsimp only at hk ⊢
 have hk4:k=0∨k=1∨k=2:=by omega
 rcases hk4 with e|e|e
 all_goals subst e
 ·simp only[k0,rcv,rch,show min 0 1=0 from rfl]
  have hAk:List.take 1 (A 0)=A 0:=jjI (by rw[hAl 0 (by omega)];exact ji1 _)
  have pl:=place 0 (by omega)
  obtain⟨⟨pb,pd⟩,pU⟩:=hp 0 (by omega)
  have hUl:=hU 0 (by omega)
  have hle:decide ((0:Int)≤(O.length:Nat))=true:=decide_eq_true (by omega)
  refine V.r0 (V.a2 jip hle) ?_
  refine .inl ?_
  (conv=>whnf)
  refine⟨0,_,_,⟨Tryz.func44,rfl,rfl,jiS rfl⟩,?_⟩
  refine V.r0 (V.a2 jiJ hAk) ?_
  have pl2:=pl
  rw[← hAk] at pl2
  refine .len ?_
  (conv=>whnf)
  refine⟨36,?_⟩
  (conv=>whnf)
  refine jaa (r:=?_) ?_ ?_
  rotate_left
  ·exact pl2
  refine V.r0 (V.a2 jip pU) ?_
  have hlt:decide ((0:Int)<(O.length:Nat))=true:=decide_eq_true (by omega)
  obtain⟨ob,vb,eA⟩:=hA 0 (by omega)
  have hAli:=hAl 0 (by omega)
  refine Cnd.yes hlt ?_
  refine V.r0 jiJ ?_
  refine⟨1,by omega,by omega,?_⟩
  refine Wk.pub 148 ?_
  (conv=>whnf)
  simp only[jjE,jjT,← eA]
  exact V.wk
 ·simp only[k1,rcv,rch,show min 1 1=1 from rfl]
  have hAk:List.take 1 (A 1)=A 1:=jjI (by rw[hAl 1 (by omega)];exact ji1 _)
  have pl:=place 1 (by omega)
  obtain⟨⟨pb,pd⟩,pU⟩:=hp 1 (by omega)
  have hUl:=hU 1 (by omega)
  have hle:decide ((1:Int)≤(O.length:Nat))=true:=decide_eq_true (by omega)
  refine V.r0 (V.a2 jip hle) ?_
  refine .inl ?_
  (conv=>whnf)
  refine⟨0,_,_,⟨Tryz.func44,rfl,rfl,jiS rfl⟩,?_⟩
  refine V.r0 (V.a2 jiJ hAk) ?_
  have pl2:=pl
  rw[← hAk] at pl2
  refine .len ?_
  (conv=>whnf)
  refine⟨36,?_⟩
  (conv=>whnf)
  refine jaa (r:=?_) ?_ ?_
  rotate_left
  ·exact pl2
  refine V.r0 (V.a2 jip pU) ?_
  have hlf:decide ((1:Int)<(O.length:Nat))=false:=decide_eq_false (by omega)
  refine Cnd.no hlf ?_
  refine V.r0 jiJ ?_
  refine⟨2,by omega,by omega,?_⟩
  refine Wk.pub 148 ?_
  (conv=>whnf)
  simp only[jjE,jjT]
  exact V.wk
 ·simp only[rcv,rch,show ((2:Nat):Int)=2 from rfl]
  have hle:decide ((2:Int)≤(O.length:Nat))=false:=decide_eq_false (by omega)
  refine V.r0 (V.a2 jip hle) ?_
  refine jad (0:Nat) (fun j=>(j:Int)≤out) (fun j=>out.toNat-j) (fun j=>[(16,.int .i64 (j:Nat)),(15,rb15 j)]) (fun j=>rbY Y j) ?_ ?_ ?_
  ·exact V.wk
  ·show ((0:Nat):Int)≤out
   omega
  intro j hj
  try dsimp only at hj ⊢
  by_cases hjo:(j:Int)<out
  ·have hlt:decide ((j:Int)<out)=true:=decide_eq_true hjo
   have hj4:j=0∨j=1∨j=2∨j=3:=by omega
   have ji:j<out.toNat:=by omega
   have d:=cd j ji
   have e0:=s0 j
   have i0:=ci j 0 ji (by omega)
   have m0:=cm j 0 ji (by omega)
   have a0:=ca j 0 ji (by omega)
   have u0:=hU 0 (by omega)
   have i1:=ci j 1 ji (by omega)
   have m1:=cm j 1 ji (by omega)
   have a1:=ca j 1 ji (by omega)
   have u1:=hU 1 (by omega)
   obtain⟨Sj,hSj⟩:∃ f,S j=f:=⟨_,rfl⟩
   obtain⟨Pj,hPj⟩:∃ f,P j=f:=⟨_,rfl⟩
   obtain⟨Ij,hIj⟩:∃ f,I j=f:=⟨_,rfl⟩
   obtain⟨Yj,hYj⟩:∃ f,Y j=f:=⟨_,rfl⟩
   simp only[hSj,hPj,hIj,hYj] at d e0 i0 m0 a0 i1 m1 a1
   rw[← e0] at zero
   rcases hj4 with rfl|rfl|rfl|rfl
   all_goals
    simp only[k0,k1,k2,k3,rb15,rbY] at hlt ⊢
    refine V.r1 (V.a2 jip hlt) zero ?_
    refine jad (0:Nat) (fun k=>k≤2) (fun k=>2-k) (fun k=>[(18,.int .i64 (k:Nat))]) (fun k=>[(17,.box [.str (Sj k).1,.str (Sj k).2])]) ?_ ?_ ?_
    ·exact V.wk
    ·exact jiT _
    intro k hk
    try dsimp only at hk ⊢
    rcases (show k=0∨k=1∨k=2 by omega) with rfl|rfl|rfl
    ·refine V.r0 jiv ?_
     refine⟨Pq14z,[],V.pok,?_⟩
     refine jab [(19,.box 19 0),(20,.int .i64 0)] [(19,.box [.str (Pj 0).1,.str (Pj 0).2])] ?_ ?_
     ·exact V.d2 jiv i0 m0
     refine V.r1 jiv a0 ?_
     exact⟨1,by omega,by omega,V.wk⟩
    ·refine V.r0 jiv ?_
     refine⟨Pq14z,[],V.pok,?_⟩
     refine jab [(19,.box 19 0),(20,.int .i64 0)] [(19,.box [.str (Pj 1).1,.str (Pj 1).2])] ?_ ?_
     ·exact V.d2 jiv i1 m1
     refine V.r1 jiv a1 ?_
     exact⟨2,by omega,by omega,V.wk⟩
    ·refine V.r0 jiv ?_
     refine⟨Pq86z,[],V.pok,?_⟩
     refine jab [(21,.box 21 0),(22,.int .i64 0)] [(21,.box [.str Yj.1,.str Yj.2])] ?_ ?_
     ·exact V.d2 jip cfull d
     refine V.r0 jip ?_
     rw[← hYj]
     first|exact⟨1,by omega,by omega,V.wk⟩|exact⟨2,by omega,by omega,V.wk⟩|exact⟨3,by omega,by omega,V.wk⟩|exact⟨4,by omega,by omega,V.wk⟩
  ·have hlf:decide ((j:Int)<out)=false:=decide_eq_false hjo
   obtain rfl:out=(j:Int):=by omega
   rcases (show j=1∨j=2∨j=3∨j=4 by omega) with rfl|rfl|rfl|rfl
   all_goals
    simp only[rb15,rbY]
    refine V.r0 (V.a2 jip hlf) ?_
    exact Fin.of rfl
theorem jik:type_of% @ji0∧type_of% @jiY∧type_of% @jiX∧type_of% @tn0∧type_of% @tn1∧type_of% @tn2∧type_of% @tn3∧type_of% @xt4:=⟨@ji0,@jiY,@jiX,@tn0,@tn1,@tn2,@tn3,@xt4⟩
theorem jiB:type_of% @ji0∧type_of% @jjO ∧ type_of% @jiY∧type_of% @jiX∧type_of% @tn0∧type_of% @tn1∧type_of% @tn2∧type_of% @tn3∧type_of% @xt4:=⟨@ji0,@jjO,@jiY,@jiX,@tn0,@tn1,@tn2,@tn3,@xt4⟩
theorem jin:type_of% @ji0∧type_of% @jiY∧type_of% @jiX∧type_of% @k0∧type_of% @k1∧type_of% @k2∧type_of% @k3∧type_of% @tn0∧type_of% @tn1∧type_of% @tn2∧type_of% @tn3∧type_of% @xt4:=⟨@ji0,@jiY,@jiX,@k0,@k1,@k2,@k3,@tn0,@tn1,@tn2,@tn3,@xt4⟩
theorem reval2_t (zs data O:List Int)(out:Int)(X:Nat→List D)(A U:Nat→List Int)(p:Nat→Int)(W Y:Nat→Tx)(I P S:Nat→Nat→Tx)(ho:1≤out∧out≤4)(hl:O.length=2)(hd:data.length≤4096)
  (hA:∀ k,k<2→(0≤O.getD k 0∧O.getD k 0<2)∧(-1000≤(A k).getD (O.getD k 0).toNat 0∧(A k).getD (O.getD k 0).toNat 0≤1000)∧A (k+1)=(A k).set (O.getD k 0).toNat ((A k).getD (O.getD k 0).toNat 0+1)) (hAl:∀ k,k≤2→(A k).length=2)
  (hp:∀ k,k≤2→(0≤p k∧p k+out≤data.length)∧(data.take (p k+out).toNat).drop (p k).toNat=U k) (hU:∀ k,k≤2→(U k).length=out.toNat)
  (cell:Cl 12 [.agg [.ints .i64 zs,.int .i64 out,.ints .i64 data],.slf 2 2 X] (.tup [.ints .i64 (A 0),.ints .i64 O,slQ W 3,.int .i64 0]))
  (place:∀ k,k≤2→Cl 91 [.agg [.ints .i64 zs,.int .i64 out,.ints .i64 data],.ints .i64 (A k)] (.tup [.int .i64 (p k),.int .i64 0]))
  (zero:Cl 39 [.int .i64 0,.int .i64 1] (.agg [.str (S 0 0).1,.str (S 0 0).2])) (s0:∀ j,S j 0=S 0 0) (full:Tx) (cfull:Cl 39 [.int .i64 65535,.int .i64 1] (.agg [.str (full).1,.str (full).2]))
  (ci:∀ j k,j<out.toNat→k≤2→Cl 39 [.int .i64 ((U k).getD j 0),.int .i64 1] (.agg [.str (I j k).1,.str (I j k).2]))
  (cm:∀ j k,j<out.toNat→k≤2→Cl 37 [.agg [.str (W k).1,.str (W k).2],.agg [.str (I j k).1,.str (I j k).2]] (.tup [.agg [.str (P j k).1,.str (P j k).2],.int .i64 0]))
  (ca:∀ j k,j<out.toNat→k≤2→Cl 45 [.agg [.str (S j k).1,.str (S j k).2],.agg [.str (P j k).1,.str (P j k).2]] (.tup [.agg [.str (S j (k+1)).1,.str (S j (k+1)).2],.int .i64 0]))
  (cd:∀ j,j<out.toNat→Cl 46 [.agg [.str (S j 3).1,.str (S j 3).2],.agg [.str (full).1,.str (full).2]] (.tup [.agg [.str (Y j).1,.str (Y j).2],.int .i64 0])) :
  Cl 14 [.agg [.ints .i64 zs,.int .i64 out,.ints .i64 data],.slf 2 2 X] (.tup [slQ Y out.toNat,.int .i64 0]):=by
 have B0:(A 0).length=2:=hAl 0 (by omega)
 refine V.en tbOk Tryz.func14 ?_
 (conv=>whnf)
 (conv=>whnf)
 (try simp only[B0,jjO,jjE,jiX,jiY,tn0,tn1,tn2,tn3,xt4,ji0])
 repeat ((first|refine V.s1 ?_|((try ((with_reducible refine .ext ?_);(conv=>whnf);(try simp only[B0,jjO,jjE,jiX,jiY,tn0,tn1,tn2,tn3,xt4,ji0])));(with_reducible refine jaa (r:=?_) ?_ ?_);rotate_left;(focus (first|exact(cell)));(conv=>whnf)));(try simp only[B0,jjO,jjE,jiX,jiY,tn0,tn1,tn2,tn3,xt4,ji0]))
 refine jad (0:Nat) (fun k=>k≤3) (fun k=>3-k) (fun k=>[(12,.int .i64 (k:Nat)),(10,rcv k)]) (fun k=>(36,.arr .i64 (A (min k 2)))::rch U k) ?_ ?_ ?_
 ·exact V.wk
 ·exact jiT _
 intro k hk
 try dsimp only at hk ⊢
 have hk4:k=0∨k=1∨k=2∨k=3:=by omega
 rcases hk4 with e|e|e|e
 all_goals subst e
 ·simp only[k0,rcv,rch,show min 0 2=0 from rfl]
  have hAk:List.take 2 (A 0)=A 0:=jjI (by rw[hAl 0 (by omega)];exact ji1 _)
  have pl:=place 0 (by omega)
  obtain⟨⟨pb,pd⟩,pU⟩:=hp 0 (by omega)
  have hUl:=hU 0 (by omega)
  have hle:decide ((0:Int)≤(O.length:Nat))=true:=decide_eq_true (by omega)
  refine V.r0 (V.a2 jik hle) ?_
  refine .inl ?_
  (conv=>whnf)
  refine⟨0,_,_,⟨Tryz.func44,rfl,rfl,jiS rfl⟩,?_⟩
  refine V.r0 (V.a2 jiB hAk) ?_
  have pl2:=pl
  rw[← hAk] at pl2
  refine .len ?_
  (conv=>whnf)
  refine⟨36,?_⟩
  (conv=>whnf)
  refine jaa (r:=?_) ?_ ?_
  rotate_left
  ·exact pl2
  refine V.r0 (V.a2 jik pU) ?_
  have hlt:decide ((0:Int)<(O.length:Nat))=true:=decide_eq_true (by omega)
  obtain⟨ob,vb,eA⟩:=hA 0 (by omega)
  have hAli:=hAl 0 (by omega)
  refine Cnd.yes hlt ?_
  refine V.r0 jiB ?_
  refine⟨1,by omega,by omega,?_⟩
  refine Wk.pub 148 ?_
  (conv=>whnf)
  simp only[jjE,jjT,← eA]
  exact V.wk
 ·simp only[k1,rcv,rch,show min 1 2=1 from rfl]
  have hAk:List.take 2 (A 1)=A 1:=jjI (by rw[hAl 1 (by omega)];exact ji1 _)
  have pl:=place 1 (by omega)
  obtain⟨⟨pb,pd⟩,pU⟩:=hp 1 (by omega)
  have hUl:=hU 1 (by omega)
  have hle:decide ((1:Int)≤(O.length:Nat))=true:=decide_eq_true (by omega)
  refine V.r0 (V.a2 jik hle) ?_
  refine .inl ?_
  (conv=>whnf)
  refine⟨0,_,_,⟨Tryz.func44,rfl,rfl,jiS rfl⟩,?_⟩
  refine V.r0 (V.a2 jiB hAk) ?_
  have pl2:=pl
  rw[← hAk] at pl2
  refine .len ?_
  (conv=>whnf)
  refine⟨36,?_⟩
  (conv=>whnf)
  refine jaa (r:=?_) ?_ ?_
  rotate_left
  ·exact pl2
  refine V.r0 (V.a2 jik pU) ?_
  have hlt:decide ((1:Int)<(O.length:Nat))=true:=decide_eq_true (by omega)
  obtain⟨ob,vb,eA⟩:=hA 1 (by omega)
  have hAli:=hAl 1 (by omega)
  refine Cnd.yes hlt ?_
  refine V.r0 jiB ?_
  refine⟨2,by omega,by omega,?_⟩
  refine Wk.pub 148 ?_
  (conv=>whnf)
  simp only[jjE,jjT,← eA]
  exact V.wk
 ·simp only[k2,rcv,rch,show min 2 2=2 from rfl]
  have hAk:List.take 2 (A 2)=A 2:=jjI (by rw[hAl 2 (by omega)];exact ji1 _)
  have pl:=place 2 (by omega)
  obtain⟨⟨pb,pd⟩,pU⟩:=hp 2 (by omega)
  have hUl:=hU 2 (by omega)
  have hle:decide ((2:Int)≤(O.length:Nat))=true:=decide_eq_true (by omega)
  refine V.r0 (V.a2 jik hle) ?_
  refine .inl ?_
  (conv=>whnf)
  refine⟨0,_,_,⟨Tryz.func44,rfl,rfl,jiS rfl⟩,?_⟩
  refine V.r0 (V.a2 jiB hAk) ?_
  have pl2:=pl
  rw[← hAk] at pl2
  refine .len ?_
  (conv=>whnf)
  refine⟨36,?_⟩
  (conv=>whnf)
  refine jaa (r:=?_) ?_ ?_
  rotate_left
  ·exact pl2
  refine V.r0 (V.a2 jik pU) ?_
  have hlf:decide ((2:Int)<(O.length:Nat))=false:=decide_eq_false (by omega)
  refine Cnd.no hlf ?_
  refine V.r0 jiB ?_
  refine⟨3,by omega,by omega,?_⟩
  refine Wk.pub 148 ?_
  (conv=>whnf)
  simp only[jjE,jjT]
  exact V.wk
 ·simp only[rcv,rch,show ((3:Nat):Int)=3 from rfl]
  have hle:decide ((3:Int)≤(O.length:Nat))=false:=decide_eq_false (by omega)
  refine V.r0 (V.a2 jik hle) ?_
  refine jad (0:Nat) (fun j=>(j:Int)≤out) (fun j=>out.toNat-j) (fun j=>[(16,.int .i64 (j:Nat)),(15,rb15 j)]) (fun j=>rbY Y j) ?_ ?_ ?_
  ·exact V.wk
  ·show ((0:Nat):Int)≤out
   omega
  intro j hj
  try dsimp only at hj ⊢
  by_cases hjo:(j:Int)<out
  ·have hlt:decide ((j:Int)<out)=true:=decide_eq_true hjo
   have hj4:j=0∨j=1∨j=2∨j=3:=by omega
   have ji:j<out.toNat:=by omega
   have d:=cd j ji
   have e0:=s0 j
   have i0:=ci j 0 ji (by omega)
   have m0:=cm j 0 ji (by omega)
   have a0:=ca j 0 ji (by omega)
   have u0:=hU 0 (by omega)
   have i1:=ci j 1 ji (by omega)
   have m1:=cm j 1 ji (by omega)
   have a1:=ca j 1 ji (by omega)
   have u1:=hU 1 (by omega)
   have i2:=ci j 2 ji (by omega)
   have m2:=cm j 2 ji (by omega)
   have a2:=ca j 2 ji (by omega)
   have u2:=hU 2 (by omega)
   obtain⟨Sj,hSj⟩:∃ f,S j=f:=⟨_,rfl⟩
   obtain⟨Pj,hPj⟩:∃ f,P j=f:=⟨_,rfl⟩
   obtain⟨Ij,hIj⟩:∃ f,I j=f:=⟨_,rfl⟩
   obtain⟨Yj,hYj⟩:∃ f,Y j=f:=⟨_,rfl⟩
   simp only[hSj,hPj,hIj,hYj] at d e0 i0 m0 a0 i1 m1 a1 i2 m2 a2
   rw[← e0] at zero
   rcases hj4 with rfl|rfl|rfl|rfl
   all_goals
    simp only[k0,k1,k2,k3,rb15,rbY] at hlt ⊢
    refine V.r1 (V.a2 jik hlt) zero ?_
    refine jad (0:Nat) (fun k=>k≤3) (fun k=>3-k) (fun k=>[(18,.int .i64 (k:Nat))]) (fun k=>[(17,.box [.str (Sj k).1,.str (Sj k).2])]) ?_ ?_ ?_
    ·exact V.wk
    ·exact jiT _
    intro k hk
    try dsimp only at hk ⊢
    rcases (show k=0∨k=1∨k=2∨k=3 by omega) with rfl|rfl|rfl|rfl
    ·refine V.r0 jin ?_
     refine⟨Pq14z,[],V.pok,?_⟩
     refine jab [(19,.box 19 0),(20,.int .i64 0)] [(19,.box [.str (Pj 0).1,.str (Pj 0).2])] ?_ ?_
     ·exact V.d2 jin i0 m0
     refine V.r1 jin a0 ?_
     exact⟨1,by omega,by omega,V.wk⟩
    ·refine V.r0 jin ?_
     refine⟨Pq14z,[],V.pok,?_⟩
     refine jab [(19,.box 19 0),(20,.int .i64 0)] [(19,.box [.str (Pj 1).1,.str (Pj 1).2])] ?_ ?_
     ·exact V.d2 jin i1 m1
     refine V.r1 jin a1 ?_
     exact⟨2,by omega,by omega,V.wk⟩
    ·refine V.r0 jin ?_
     refine⟨Pq14z,[],V.pok,?_⟩
     refine jab [(19,.box 19 0),(20,.int .i64 0)] [(19,.box [.str (Pj 2).1,.str (Pj 2).2])] ?_ ?_
     ·exact V.d2 jin i2 m2
     refine V.r1 jin a2 ?_
     exact⟨3,by omega,by omega,V.wk⟩
    ·refine V.r0 jin ?_
     refine⟨Pq86z,[],V.pok,?_⟩
     refine jab [(21,.box 21 0),(22,.int .i64 0)] [(21,.box [.str Yj.1,.str Yj.2])] ?_ ?_
     ·exact V.d2 jik cfull d
     refine V.r0 jik ?_
     rw[← hYj]
     first|exact⟨1,by omega,by omega,V.wk⟩|exact⟨2,by omega,by omega,V.wk⟩|exact⟨3,by omega,by omega,V.wk⟩|exact⟨4,by omega,by omega,V.wk⟩
  ·have hlf:decide ((j:Int)<out)=false:=decide_eq_false hjo
   obtain rfl:out=(j:Int):=by omega
   rcases (show j=1∨j=2∨j=3∨j=4 by omega) with rfl|rfl|rfl|rfl
   all_goals
    simp only[rb15,rbY]
    refine V.r0 (V.a2 jik hlf) ?_
    exact Fin.of rfl
theorem tw_congr {p q:Int→Bool} : ∀ {l:List Int},(∀ o∈l,p o=q o)→l.takeWhile p=l.takeWhile q∧l.dropWhile p=l.dropWhile q
 | [],_=>⟨rfl,rfl⟩
 | x::l,h=>by
  have ih:=tw_congr (l:=l) fun o ho=>h o (List.mem_cons_of_mem _ ho)
  have hx:=h x List.mem_cons_self
  simp only[List.takeWhile_cons,List.dropWhile_cons,hx]
  split
  ·exact⟨by rw[ih.1],ih.2⟩
  ·exact⟨rfl,rfl⟩
theorem jek {r s:Nat→Rat} : ∀ {n:Nat},(∀ i,i<n→r i=s i)→rS r n=rS s n
 | 0,_=>rfl
 | n+1,h=>by
  have ih:=jek (r:=r) (s:=s) (n:=n) fun i hi=>h i (by omega)
  have c:=tw_congr (l:=rS s n) (p:=fun o => !decide (r o.toNat<r n)) (q:=fun o => !decide (s o.toNat<s n)) fun o ho=>by
   have:=rS_mem s n o ho
   rw[h o.toNat (by omega),h n (by omega)]
  show rIns _ _ (rS r n)=rIns _ _ (rS s n)
  rw[ih]
  unfold rIns
  rw[c.1,c.2]
theorem jeE {data:List Int}{p out:Int}(h1:0≤p)(h2:0≤out):(data.take (p+out).toNat).drop p.toNat=slot data p out:=by
 unfold slot
 rw[show (p+out).toNat=p.toNat+out.toNat by omega,List.drop_take]
 rw[show p.toNat+out.toNat-p.toNat=out.toNat by omega]
theorem jgk {zs:List Int}{out:Int}{data xs:List Int}(h:jak zs out data=true)(hi:okIdx zs xs=true):0≤pz (zs.zip xs)*out∧pz (zs.zip xs)*out+out≤data.length:=by
 have o:=jav h
 unfold okIdx at hi
 simp only[jiR,decide_eq_true_eq,jjq] at hi
 have b:=pz_bd hi.2
 have e:(zs.zip xs).map (·.1)=zs:=List.map_fst_zip (by omega)
 rw[e] at b
 refine⟨jiW b.1 (by omega),?_⟩
 have m:=ji6 b.2 (show 0≤out by omega)
 rw[jjl,jjm] at m
 omega
def sQ (P:Nat→Rat):Nat→Rat
 | 0=>0
 | k+1=>smF P k
theorem rcellq1 {x0:Rat}{z0 out:Int}{data:List Int}(hg:jak [z0] out data=true)(h0:Fq 40 x0) :
  Cl 12 [.agg [.ints .i64 [z0],.int .i64 out,.ints .i64 data],.slf 2 1 (fun j=>[.str (txq ((rqN x0 0 0) j)).1,.str (txq ((rqN x0 0 0) j)).2])] (.tup [.ints .i64 [spB z0 x0],.ints .i64 [0],slQ (fun k=>txq (wqN (rqN (spR z0 x0) 0 0) [0] 1 k)) 2,.int .i64 0]):=by
 have og:=jav hg
 have ck:Cl 35 [.agg [.ints .i64 [z0],.int .i64 out,.ints .i64 data]] (.bool true):=by
  have c:=jeJ [z0] out data (by simp) (by omega)
  rw[hg] at c
  exact c
 have cell:=jhw (zs:=[z0]) (out:=out) (data:=data) (n:=1) (by omega) rfl (rqN x0 0 0) (fun i hi=>by
  rcases (show i=0 by omega) with rfl
  ·exact h0) (fun i hi=>by
  rcases (show i=0 by omega) with rfl
  ·exact og.2.1 z0 (by simp)) ck
 have eO:rS (fun i=>spR ([z0].getD i 0) ((rqN x0 0 0) i)) 1=[0]:=(jek (s:=(rqN (spR z0 x0) 0 0)) fun i hi=>by
  rcases (show i=0 by omega) with rfl
  ·rfl).trans (rS1 _)
 rw[eO] at cell
 have eW:slQ (fun k=>txq (wqN (fun i=>spR ([z0].getD i 0) ((rqN x0 0 0) i)) [0] 1 k)) (1+1)=slQ (fun k=>txq (wqN (rqN (spR z0 x0) 0 0) [0] 1 k)) 2:=by
  rfl
 rw[eW] at cell
 exact cell
theorem revalq1 {x0:Rat}{z0 out:Int}{data:List Int}(hg:jak [z0] out data=true)(h0:Fq 40 x0) :
  Cl 14 [.agg [.ints .i64 [z0],.int .i64 out,.ints .i64 data],.slf 2 1 (fun j=>[.str (txq ((rqN x0 0 0) j)).1,.str (txq ((rqN x0 0 0) j)).2])] (.tup [slQ (fun j=>txq (evQ [z0] out data x0 0 0 j)) out.toNat,.int .i64 0]):=by
 have og:=jav hg
 have cell:=rcellq1 hg h0
 have s0:=og.2.1 z0 (by simp)
 have f0:=jbc h0 (by decide) s0
 have b0:=jb2 s0.1 x0
 have fr:∀ k,Fq 43 ((rqN (spR z0 x0) 0 0) k):=fq_rq f0 jcf jcf
 have es:=fun j=>ev1_sm (x0:=x0) s0.1 out data j
 obtain⟨ol,ox,oc⟩:=corn1 (O:=[0]) rfl (spB z0 x0)
 have oi:∀ k,k<2→okIdx [z0] ((atK [spB z0 x0,0,0,0] ([0]:List Int) k).take 1)=true:=by
  intro k hk
  obtain⟨i0,e,hh⟩:=oc k hk
  rw[e]
  simp[okIdx]
  omega
 obtain⟨R,eR⟩:∃ R,(rqN (spR z0 x0) 0 0)=R:=⟨_,rfl⟩
 rw[eR] at fr cell
 simp only[eR] at es
 obtain⟨U,eU⟩:∃ U:Nat→List Int,U=fun k=>slot data (pz ([z0].zip ((atK [spB z0 x0,0,0,0] ([0]:List Int) k).take 1))*out) out:=⟨_,rfl⟩
 have uv:∀ k,k≤1→(U k).length=out.toNat ∧ ∀ j,0≤(U k).getD j 0∧(U k).getD j 0≤65535:=fun k hk=>by
  rw[eU]
  exact⟨jbx hg (oi k (by omega)),jbF og.2.2.2 _ _⟩
 have es:∀ j,evQ [z0] out data x0 0 0 j=smF (fun k=>wqN R ([0]:List Int) 1 k*(((U k).getD j 0:Int):Rat)) 1/65535:=fun j=>by
  rw[eU]
  exact es j
 have fm:∀ j k,k≤1→Fq 92 (wqN R ([0]:List Int) 1 k*(((U k).getD j 0:Int):Rat)):=fun j k hk=>(fq_wq fr ([0]:List Int) 1 k).mul (jaD (n:=5) (by have:=(uv k hk).2 j;omega) (by omega))
 have fs:∀ j k,k≤1→Fq 371 (smF (fun k=>wqN R ([0]:List Int) 1 k*(((U k).getD j 0:Int):Rat)) k):=fun j k hk=>by
  have fa:∀ k,k≤1→Fq ((k+1)*92+k) (smF (fun k=>wqN R ([0]:List Int) 1 k*(((U k).getD j 0:Int):Rat)) k):=fun k=>by
   induction k with
   | zero=>exact fun _=>(fm j 0 (by omega)).mono (by omega)
   | succ k ih=>exact fun h=>((ih (by omega)).add (fm j (k+1) h)).mono (by rw[Nat.add_mul (k+1)];omega)
  exact(fa k hk).mono (by omega)
 have fz:Fq 371 (0:Rat):=jcf.mono (by omega)
 have c:=reval1_t [z0] data ([0]:List Int) out (fun j=>[.str (txq ((rqN x0 0 0) j)).1,.str (txq ((rqN x0 0 0) j)).2]) (fun k=>(atK [spB z0 x0,0,0,0] ([0]:List Int) k).take 1) U (fun k=>pz ([z0].zip ((atK [spB z0 x0,0,0,0] ([0]:List Int) k).take 1))*out) (fun k=>txq (wqN R ([0]:List Int) 1 k)) (fun j=>txq (smF (fun k=>wqN R ([0]:List Int) 1 k*(((U k).getD j 0:Int):Rat)) 1/65535)) (fun j k=>txq (((U k).getD j 0:Int):Rat)) (fun j k=>txq (wqN R ([0]:List Int) 1 k*(((U k).getD j 0:Int):Rat))) (fun j k=>txq (sQ (fun k=>wqN R ([0]:List Int) 1 k*(((U k).getD j 0:Int):Rat)) k)) og.1 ol (by omega)
  (fun k hk=>by
   rcases (show k=0 by omega) with rfl<;>refine⟨by decide,?_,rfl⟩<;>(simp[atK];omega))
  (fun k hk=>by
   obtain⟨i0,e,hh⟩:=oc k (by omega)
   rw[e];rfl)
  (fun k hk=>?_) (fun k hk=>(uv k hk).1) cell (fun k hk=>?_) (jbC (n:=0) (by omega)) (fun j=>rfl) (txq ((65535:Int):Rat)) (jbC (n:=65535) (by omega))
  (fun j k hj hk=>jbC (by have:=(uv k hk).2 j;omega))
  (fun j k hj hk=>zrmul (fq_wq fr ([0]:List Int) 1 k) (jaD (n:=5) (by have:=(uv k hk).2 j;omega) (by omega)) (by omega) (by omega) (by omega))
  (fun j k hj hk=>?_)
  (fun j hj=>zrdiv (fs j 1 (by omega)) (jaD (n:=5) (z:=65535) jaN (by decide)) jbQ (by omega) (by omega) (by omega))
 ·rw[show (fun j=>txq (evQ [z0] out data x0 0 0 j))=_ from funext fun j=>congrArg txq (es j)]
  exact c
 ·have bd:=jgk hg (oi k (by omega))
  refine⟨bd,?_⟩
  rw[eU]
  exact jeE bd.1 (by omega)
 ·have r:=jgi [z0] out data ((atK [spB z0 x0,0,0,0] ([0]:List Int) k).take 1) (by simp) (by omega) (by rw[jjy];omega)
  rw[hg,oi k (by omega)] at r
  exact r
 ·rcases k with _|k
  ·have c:=zradd fz (fm j 0 (by omega)) (by omega) (by omega) (by omega)
   rw[Rat.zero_add] at c
   exact c
  ·exact zradd (fs j k (by omega)) (fm j (k+1) hk) (by omega) (by omega) (by omega)
theorem rcellq2 {x0 x1:Rat}{z0 z1 out:Int}{data:List Int}(hg:jak [z0,z1] out data=true)(h0:Fq 40 x0)(h1:Fq 40 x1) :
  Cl 12 [.agg [.ints .i64 [z0,z1],.int .i64 out,.ints .i64 data],.slf 2 2 (fun j=>[.str (txq ((rqN x0 x1 0) j)).1,.str (txq ((rqN x0 x1 0) j)).2])] (.tup [.ints .i64 [spB z0 x0,spB z1 x1],.ints .i64 (ord2 (spR z0 x0) (spR z1 x1)),slQ (fun k=>txq (wqN (rqN (spR z0 x0) (spR z1 x1) 0) (ord2 (spR z0 x0) (spR z1 x1)) 2 k)) 3,.int .i64 0]):=by
 have og:=jav hg
 have ck:Cl 35 [.agg [.ints .i64 [z0,z1],.int .i64 out,.ints .i64 data]] (.bool true):=by
  have c:=jeJ [z0,z1] out data (by simp) (by omega)
  rw[hg] at c
  exact c
 have cell:=jhw (zs:=[z0,z1]) (out:=out) (data:=data) (n:=2) (by omega) rfl (rqN x0 x1 0) (fun i hi=>by
  rcases (show i=0∨i=1 by omega) with rfl|rfl
  ·exact h0
  ·exact h1) (fun i hi=>by
  rcases (show i=0∨i=1 by omega) with rfl|rfl
  ·exact og.2.1 z0 (by simp)
  ·exact og.2.1 z1 (by simp)) ck
 have eO:rS (fun i=>spR ([z0,z1].getD i 0) ((rqN x0 x1 0) i)) 2=(ord2 (spR z0 x0) (spR z1 x1)):=(jek (s:=(rqN (spR z0 x0) (spR z1 x1) 0)) fun i hi=>by
  rcases (show i=0∨i=1 by omega) with rfl|rfl
  ·rfl
  ·rfl).trans (rS2 _ _ _)
 rw[eO] at cell
 have eW:slQ (fun k=>txq (wqN (fun i=>spR ([z0,z1].getD i 0) ((rqN x0 x1 0) i)) (ord2 (spR z0 x0) (spR z1 x1)) 2 k)) (2+1)=slQ (fun k=>txq (wqN (rqN (spR z0 x0) (spR z1 x1) 0) (ord2 (spR z0 x0) (spR z1 x1)) 2 k)) 3:=by
  obtain⟨O,eq⟩:∃ O,(ord2 (spR z0 x0) (spR z1 x1))=O:=⟨_,rfl⟩
  have hO:O=[0,1]∨O=[1,0]:=by rw[← eq];exact jdy _ _
  rw[eq]
  clear eq eO cell
  rcases hO with rfl|rfl<;>rfl
 rw[eW] at cell
 exact cell
theorem revalq2 {x0 x1:Rat}{z0 z1 out:Int}{data:List Int}(hg:jak [z0,z1] out data=true)(h0:Fq 40 x0)(h1:Fq 40 x1) :
  Cl 14 [.agg [.ints .i64 [z0,z1],.int .i64 out,.ints .i64 data],.slf 2 2 (fun j=>[.str (txq ((rqN x0 x1 0) j)).1,.str (txq ((rqN x0 x1 0) j)).2])] (.tup [slQ (fun j=>txq (evQ [z0,z1] out data x0 x1 0 j)) out.toNat,.int .i64 0]):=by
 have og:=jav hg
 have cell:=rcellq2 hg h0 h1
 have s0:=og.2.1 z0 (by simp)
 have f0:=jbc h0 (by decide) s0
 have b0:=jb2 s0.1 x0
 have s1:=og.2.1 z1 (by simp)
 have f1:=jbc h1 (by decide) s1
 have b1:=jb2 s1.1 x1
 have fr:∀ k,Fq 43 ((rqN (spR z0 x0) (spR z1 x1) 0) k):=fq_rq f0 f1 jcf
 have es:=fun j=>ev2_sm (x0:=x0) (x1:=x1) s0.1 s1.1 out data j
 have hO:(ord2 (spR z0 x0) (spR z1 x1))=[0,1]∨(ord2 (spR z0 x0) (spR z1 x1))=[1,0]:=jdy _ _
 obtain⟨O,eq⟩:∃ O,(ord2 (spR z0 x0) (spR z1 x1))=O:=⟨_,rfl⟩
 simp only[eq] at hO
 skip
 rw[eq] at cell
 simp only[eq] at es
 obtain⟨ol,ox,oc⟩:=corn2 (O:=O) hO (spB z0 x0) (spB z1 x1)
 have oi:∀ k,k<3→okIdx [z0,z1] ((atK [spB z0 x0,spB z1 x1,0,0] O k).take 2)=true:=by
  intro k hk
  obtain⟨i0,i1,e,hh⟩:=oc k hk
  rw[e]
  simp[okIdx]
  omega
 obtain⟨R,eR⟩:∃ R,(rqN (spR z0 x0) (spR z1 x1) 0)=R:=⟨_,rfl⟩
 rw[eR] at fr cell
 simp only[eR] at es
 obtain⟨U,eU⟩:∃ U:Nat→List Int,U=fun k=>slot data (pz ([z0,z1].zip ((atK [spB z0 x0,spB z1 x1,0,0] O k).take 2))*out) out:=⟨_,rfl⟩
 have uv:∀ k,k≤2→(U k).length=out.toNat ∧ ∀ j,0≤(U k).getD j 0∧(U k).getD j 0≤65535:=fun k hk=>by
  rw[eU]
  exact⟨jbx hg (oi k (by omega)),jbF og.2.2.2 _ _⟩
 have es:∀ j,evQ [z0,z1] out data x0 x1 0 j=smF (fun k=>wqN R O 2 k*(((U k).getD j 0:Int):Rat)) 2/65535:=fun j=>by
  rw[eU]
  exact es j
 have fm:∀ j k,k≤2→Fq 92 (wqN R O 2 k*(((U k).getD j 0:Int):Rat)):=fun j k hk=>(fq_wq fr O 2 k).mul (jaD (n:=5) (by have:=(uv k hk).2 j;omega) (by omega))
 have fs:∀ j k,k≤2→Fq 371 (smF (fun k=>wqN R O 2 k*(((U k).getD j 0:Int):Rat)) k):=fun j k hk=>by
  have fa:∀ k,k≤2→Fq ((k+1)*92+k) (smF (fun k=>wqN R O 2 k*(((U k).getD j 0:Int):Rat)) k):=fun k=>by
   induction k with
   | zero=>exact fun _=>(fm j 0 (by omega)).mono (by omega)
   | succ k ih=>exact fun h=>((ih (by omega)).add (fm j (k+1) h)).mono (by rw[Nat.add_mul (k+1)];omega)
  exact(fa k hk).mono (by omega)
 have fz:Fq 371 (0:Rat):=jcf.mono (by omega)
 have c:=reval2_t [z0,z1] data O out (fun j=>[.str (txq ((rqN x0 x1 0) j)).1,.str (txq ((rqN x0 x1 0) j)).2]) (fun k=>(atK [spB z0 x0,spB z1 x1,0,0] O k).take 2) U (fun k=>pz ([z0,z1].zip ((atK [spB z0 x0,spB z1 x1,0,0] O k).take 2))*out) (fun k=>txq (wqN R O 2 k)) (fun j=>txq (smF (fun k=>wqN R O 2 k*(((U k).getD j 0:Int):Rat)) 2/65535)) (fun j k=>txq (((U k).getD j 0:Int):Rat)) (fun j k=>txq (wqN R O 2 k*(((U k).getD j 0:Int):Rat))) (fun j k=>txq (sQ (fun k=>wqN R O 2 k*(((U k).getD j 0:Int):Rat)) k)) og.1 ol (by omega)
  (fun k hk=>by
   rcases hO with rfl|rfl<;>rcases (show k=0∨k=1 by omega) with rfl|rfl<;>refine⟨by decide,?_,rfl⟩<;>(simp[atK];omega))
  (fun k hk=>by
   obtain⟨i0,i1,e,hh⟩:=oc k (by omega)
   rw[e];rfl)
  (fun k hk=>?_) (fun k hk=>(uv k hk).1) cell (fun k hk=>?_) (jbC (n:=0) (by omega)) (fun j=>rfl) (txq ((65535:Int):Rat)) (jbC (n:=65535) (by omega))
  (fun j k hj hk=>jbC (by have:=(uv k hk).2 j;omega))
  (fun j k hj hk=>zrmul (fq_wq fr O 2 k) (jaD (n:=5) (by have:=(uv k hk).2 j;omega) (by omega)) (by omega) (by omega) (by omega))
  (fun j k hj hk=>?_)
  (fun j hj=>zrdiv (fs j 2 (by omega)) (jaD (n:=5) (z:=65535) jaN (by decide)) jbQ (by omega) (by omega) (by omega))
 ·rw[show (fun j=>txq (evQ [z0,z1] out data x0 x1 0 j))=_ from funext fun j=>congrArg txq (es j)]
  exact c
 ·have bd:=jgk hg (oi k (by omega))
  refine⟨bd,?_⟩
  rw[eU]
  exact jeE bd.1 (by omega)
 ·have r:=jgi [z0,z1] out data ((atK [spB z0 x0,spB z1 x1,0,0] O k).take 2) (by simp) (by omega) (by rw[jjy];omega)
  rw[hg,oi k (by omega)] at r
  exact r
 ·rcases k with _|k
  ·have c:=zradd fz (fm j 0 (by omega)) (by omega) (by omega) (by omega)
   rw[Rat.zero_add] at c
   exact c
  ·exact zradd (fs j k (by omega)) (fm j (k+1) hk) (by omega) (by omega) (by omega)
theorem jii:type_of% @ji0∧type_of% @jiY∧type_of% @jiX∧type_of% @tn0∧type_of% @tn1∧type_of% @tn2∧type_of% @tn3∧type_of% @xt4:=⟨@ji0,@jiY,@jiX,@tn0,@tn1,@tn2,@tn3,@xt4⟩
theorem jir:type_of% @ji0∧type_of% @jjO ∧ type_of% @jiY∧type_of% @jiX∧type_of% @tn0∧type_of% @tn1∧type_of% @tn2∧type_of% @tn3∧type_of% @xt4:=⟨@ji0,@jjO,@jiY,@jiX,@tn0,@tn1,@tn2,@tn3,@xt4⟩
theorem jih:type_of% @ji0∧type_of% @jiY∧type_of% @jiX∧type_of% @k0∧type_of% @k1∧type_of% @k2∧type_of% @k3∧type_of% @tn0∧type_of% @tn1∧type_of% @tn2∧type_of% @tn3∧type_of% @xt4:=⟨@ji0,@jiY,@jiX,@k0,@k1,@k2,@k3,@tn0,@tn1,@tn2,@tn3,@xt4⟩
theorem reval3_t (zs data O:List Int)(out:Int)(X:Nat→List D)(A U:Nat→List Int)(p:Nat→Int)(W Y:Nat→Tx)(I P S:Nat→Nat→Tx)(ho:1≤out∧out≤4)(hl:O.length=3)(hd:data.length≤4096)
  (hA:∀ k,k<3→(0≤O.getD k 0∧O.getD k 0<3)∧(-1000≤(A k).getD (O.getD k 0).toNat 0∧(A k).getD (O.getD k 0).toNat 0≤1000)∧A (k+1)=(A k).set (O.getD k 0).toNat ((A k).getD (O.getD k 0).toNat 0+1)) (hAl:∀ k,k≤3→(A k).length=3)
  (hp:∀ k,k≤3→(0≤p k∧p k+out≤data.length)∧(data.take (p k+out).toNat).drop (p k).toNat=U k) (hU:∀ k,k≤3→(U k).length=out.toNat)
  (cell:Cl 12 [.agg [.ints .i64 zs,.int .i64 out,.ints .i64 data],.slf 2 3 X] (.tup [.ints .i64 (A 0),.ints .i64 O,slQ W 4,.int .i64 0]))
  (place:∀ k,k≤3→Cl 91 [.agg [.ints .i64 zs,.int .i64 out,.ints .i64 data],.ints .i64 (A k)] (.tup [.int .i64 (p k),.int .i64 0]))
  (zero:Cl 39 [.int .i64 0,.int .i64 1] (.agg [.str (S 0 0).1,.str (S 0 0).2])) (s0:∀ j,S j 0=S 0 0) (full:Tx) (cfull:Cl 39 [.int .i64 65535,.int .i64 1] (.agg [.str (full).1,.str (full).2]))
  (ci:∀ j k,j<out.toNat→k≤3→Cl 39 [.int .i64 ((U k).getD j 0),.int .i64 1] (.agg [.str (I j k).1,.str (I j k).2]))
  (cm:∀ j k,j<out.toNat→k≤3→Cl 37 [.agg [.str (W k).1,.str (W k).2],.agg [.str (I j k).1,.str (I j k).2]] (.tup [.agg [.str (P j k).1,.str (P j k).2],.int .i64 0]))
  (ca:∀ j k,j<out.toNat→k≤3→Cl 45 [.agg [.str (S j k).1,.str (S j k).2],.agg [.str (P j k).1,.str (P j k).2]] (.tup [.agg [.str (S j (k+1)).1,.str (S j (k+1)).2],.int .i64 0]))
  (cd:∀ j,j<out.toNat→Cl 46 [.agg [.str (S j 4).1,.str (S j 4).2],.agg [.str (full).1,.str (full).2]] (.tup [.agg [.str (Y j).1,.str (Y j).2],.int .i64 0])) :
  Cl 14 [.agg [.ints .i64 zs,.int .i64 out,.ints .i64 data],.slf 2 3 X] (.tup [slQ Y out.toNat,.int .i64 0]):=by
 have B0:(A 0).length=3:=hAl 0 (by omega)
 refine V.en tbOk Tryz.func14 ?_
 (conv=>whnf)
 (conv=>whnf)
 (try simp only[B0,jjO,jjE,jiX,jiY,tn0,tn1,tn2,tn3,xt4,ji0])
 repeat ((first|refine V.s1 ?_|((try ((with_reducible refine .ext ?_);(conv=>whnf);(try simp only[B0,jjO,jjE,jiX,jiY,tn0,tn1,tn2,tn3,xt4,ji0])));(with_reducible refine jaa (r:=?_) ?_ ?_);rotate_left;(focus (first|exact(cell)));(conv=>whnf)));(try simp only[B0,jjO,jjE,jiX,jiY,tn0,tn1,tn2,tn3,xt4,ji0]))
 refine jad (0:Nat) (fun k=>k≤4) (fun k=>4-k) (fun k=>[(12,.int .i64 (k:Nat)),(10,rcv k)]) (fun k=>(36,.arr .i64 (A (min k 3)))::rch U k) ?_ ?_ ?_
 ·exact V.wk
 ·exact jiT _
 intro k hk
 try dsimp only at hk ⊢
 have hk4:k=0∨k=1∨k=2∨k=3∨k=4:=by omega
 rcases hk4 with e|e|e|e|e
 all_goals subst e
 ·simp only[k0,rcv,rch,show min 0 3=0 from rfl]
  have hAk:List.take 3 (A 0)=A 0:=jjI (by rw[hAl 0 (by omega)];exact ji1 _)
  have pl:=place 0 (by omega)
  obtain⟨⟨pb,pd⟩,pU⟩:=hp 0 (by omega)
  have hUl:=hU 0 (by omega)
  have hle:decide ((0:Int)≤(O.length:Nat))=true:=decide_eq_true (by omega)
  refine V.r0 (V.a2 jii hle) ?_
  refine .inl ?_
  (conv=>whnf)
  refine⟨0,_,_,⟨Tryz.func44,rfl,rfl,jiS rfl⟩,?_⟩
  refine V.r0 (V.a2 jir hAk) ?_
  have pl2:=pl
  rw[← hAk] at pl2
  refine .len ?_
  (conv=>whnf)
  refine⟨36,?_⟩
  (conv=>whnf)
  refine jaa (r:=?_) ?_ ?_
  rotate_left
  ·exact pl2
  refine V.r0 (V.a2 jii pU) ?_
  have hlt:decide ((0:Int)<(O.length:Nat))=true:=decide_eq_true (by omega)
  obtain⟨ob,vb,eA⟩:=hA 0 (by omega)
  have hAli:=hAl 0 (by omega)
  refine Cnd.yes hlt ?_
  refine V.r0 jir ?_
  refine⟨1,by omega,by omega,?_⟩
  refine Wk.pub 148 ?_
  (conv=>whnf)
  simp only[jjE,jjT,← eA]
  exact V.wk
 ·simp only[k1,rcv,rch,show min 1 3=1 from rfl]
  have hAk:List.take 3 (A 1)=A 1:=jjI (by rw[hAl 1 (by omega)];exact ji1 _)
  have pl:=place 1 (by omega)
  obtain⟨⟨pb,pd⟩,pU⟩:=hp 1 (by omega)
  have hUl:=hU 1 (by omega)
  have hle:decide ((1:Int)≤(O.length:Nat))=true:=decide_eq_true (by omega)
  refine V.r0 (V.a2 jii hle) ?_
  refine .inl ?_
  (conv=>whnf)
  refine⟨0,_,_,⟨Tryz.func44,rfl,rfl,jiS rfl⟩,?_⟩
  refine V.r0 (V.a2 jir hAk) ?_
  have pl2:=pl
  rw[← hAk] at pl2
  refine .len ?_
  (conv=>whnf)
  refine⟨36,?_⟩
  (conv=>whnf)
  refine jaa (r:=?_) ?_ ?_
  rotate_left
  ·exact pl2
  refine V.r0 (V.a2 jii pU) ?_
  have hlt:decide ((1:Int)<(O.length:Nat))=true:=decide_eq_true (by omega)
  obtain⟨ob,vb,eA⟩:=hA 1 (by omega)
  have hAli:=hAl 1 (by omega)
  refine Cnd.yes hlt ?_
  refine V.r0 jir ?_
  refine⟨2,by omega,by omega,?_⟩
  refine Wk.pub 148 ?_
  (conv=>whnf)
  simp only[jjE,jjT,← eA]
  exact V.wk
 ·simp only[k2,rcv,rch,show min 2 3=2 from rfl]
  have hAk:List.take 3 (A 2)=A 2:=jjI (by rw[hAl 2 (by omega)];exact ji1 _)
  have pl:=place 2 (by omega)
  obtain⟨⟨pb,pd⟩,pU⟩:=hp 2 (by omega)
  have hUl:=hU 2 (by omega)
  have hle:decide ((2:Int)≤(O.length:Nat))=true:=decide_eq_true (by omega)
  refine V.r0 (V.a2 jii hle) ?_
  refine .inl ?_
  (conv=>whnf)
  refine⟨0,_,_,⟨Tryz.func44,rfl,rfl,jiS rfl⟩,?_⟩
  refine V.r0 (V.a2 jir hAk) ?_
  have pl2:=pl
  rw[← hAk] at pl2
  refine .len ?_
  (conv=>whnf)
  refine⟨36,?_⟩
  (conv=>whnf)
  refine jaa (r:=?_) ?_ ?_
  rotate_left
  ·exact pl2
  refine V.r0 (V.a2 jii pU) ?_
  have hlt:decide ((2:Int)<(O.length:Nat))=true:=decide_eq_true (by omega)
  obtain⟨ob,vb,eA⟩:=hA 2 (by omega)
  have hAli:=hAl 2 (by omega)
  refine Cnd.yes hlt ?_
  refine V.r0 jir ?_
  refine⟨3,by omega,by omega,?_⟩
  refine Wk.pub 148 ?_
  (conv=>whnf)
  simp only[jjE,jjT,← eA]
  exact V.wk
 ·simp only[k3,rcv,rch,show min 3 3=3 from rfl]
  have hAk:List.take 3 (A 3)=A 3:=jjI (by rw[hAl 3 (by omega)];exact ji1 _)
  have pl:=place 3 (by omega)
  obtain⟨⟨pb,pd⟩,pU⟩:=hp 3 (by omega)
  have hUl:=hU 3 (by omega)
  have hle:decide ((3:Int)≤(O.length:Nat))=true:=decide_eq_true (by omega)
  refine V.r0 (V.a2 jii hle) ?_
  refine .inl ?_
  (conv=>whnf)
  refine⟨0,_,_,⟨Tryz.func44,rfl,rfl,jiS rfl⟩,?_⟩
  refine V.r0 (V.a2 jir hAk) ?_
  have pl2:=pl
  rw[← hAk] at pl2
  refine .len ?_
  (conv=>whnf)
  refine⟨36,?_⟩
  (conv=>whnf)
  refine jaa (r:=?_) ?_ ?_
  rotate_left
  ·exact pl2
  refine V.r0 (V.a2 jii pU) ?_
  have hlf:decide ((3:Int)<(O.length:Nat))=false:=decide_eq_false (by omega)
  refine Cnd.no hlf ?_
  refine V.r0 jir ?_
  refine⟨4,by omega,by omega,?_⟩
  refine Wk.pub 148 ?_
  (conv=>whnf)
  simp only[jjE,jjT]
  exact V.wk
 ·simp only[rcv,rch,show ((4:Nat):Int)=4 from rfl]
  have hle:decide ((4:Int)≤(O.length:Nat))=false:=decide_eq_false (by omega)
  refine V.r0 (V.a2 jii hle) ?_
  refine jad (0:Nat) (fun j=>(j:Int)≤out) (fun j=>out.toNat-j) (fun j=>[(16,.int .i64 (j:Nat)),(15,rb15 j)]) (fun j=>rbY Y j) ?_ ?_ ?_
  ·exact V.wk
  ·show ((0:Nat):Int)≤out
   omega
  intro j hj
  try dsimp only at hj ⊢
  by_cases hjo:(j:Int)<out
  ·have hlt:decide ((j:Int)<out)=true:=decide_eq_true hjo
   have hj4:j=0∨j=1∨j=2∨j=3:=by omega
   have ji:j<out.toNat:=by omega
   have d:=cd j ji
   have e0:=s0 j
   have i0:=ci j 0 ji (by omega)
   have m0:=cm j 0 ji (by omega)
   have a0:=ca j 0 ji (by omega)
   have u0:=hU 0 (by omega)
   have i1:=ci j 1 ji (by omega)
   have m1:=cm j 1 ji (by omega)
   have a1:=ca j 1 ji (by omega)
   have u1:=hU 1 (by omega)
   have i2:=ci j 2 ji (by omega)
   have m2:=cm j 2 ji (by omega)
   have a2:=ca j 2 ji (by omega)
   have u2:=hU 2 (by omega)
   have i3:=ci j 3 ji (by omega)
   have m3:=cm j 3 ji (by omega)
   have a3:=ca j 3 ji (by omega)
   have u3:=hU 3 (by omega)
   obtain⟨Sj,hSj⟩:∃ f,S j=f:=⟨_,rfl⟩
   obtain⟨Pj,hPj⟩:∃ f,P j=f:=⟨_,rfl⟩
   obtain⟨Ij,hIj⟩:∃ f,I j=f:=⟨_,rfl⟩
   obtain⟨Yj,hYj⟩:∃ f,Y j=f:=⟨_,rfl⟩
   simp only[hSj,hPj,hIj,hYj] at d e0 i0 m0 a0 i1 m1 a1 i2 m2 a2 i3 m3 a3
   rw[← e0] at zero
   rcases hj4 with rfl|rfl|rfl|rfl
   all_goals
    simp only[k0,k1,k2,k3,rb15,rbY] at hlt ⊢
    refine V.r1 (V.a2 jii hlt) zero ?_
    refine jad (0:Nat) (fun k=>k≤4) (fun k=>4-k) (fun k=>[(18,.int .i64 (k:Nat))]) (fun k=>[(17,.box [.str (Sj k).1,.str (Sj k).2])]) ?_ ?_ ?_
    ·exact V.wk
    ·exact jiT _
    intro k hk
    try dsimp only at hk ⊢
    rcases (show k=0∨k=1∨k=2∨k=3∨k=4 by omega) with rfl|rfl|rfl|rfl|rfl
    ·refine V.r0 jih ?_
     refine⟨Pq14z,[],V.pok,?_⟩
     refine jab [(19,.box 19 0),(20,.int .i64 0)] [(19,.box [.str (Pj 0).1,.str (Pj 0).2])] ?_ ?_
     ·exact V.d2 jih i0 m0
     refine V.r1 jih a0 ?_
     exact⟨1,by omega,by omega,V.wk⟩
    ·refine V.r0 jih ?_
     refine⟨Pq14z,[],V.pok,?_⟩
     refine jab [(19,.box 19 0),(20,.int .i64 0)] [(19,.box [.str (Pj 1).1,.str (Pj 1).2])] ?_ ?_
     ·exact V.d2 jih i1 m1
     refine V.r1 jih a1 ?_
     exact⟨2,by omega,by omega,V.wk⟩
    ·refine V.r0 jih ?_
     refine⟨Pq14z,[],V.pok,?_⟩
     refine jab [(19,.box 19 0),(20,.int .i64 0)] [(19,.box [.str (Pj 2).1,.str (Pj 2).2])] ?_ ?_
     ·exact V.d2 jih i2 m2
     refine V.r1 jih a2 ?_
     exact⟨3,by omega,by omega,V.wk⟩
    ·refine V.r0 jih ?_
     refine⟨Pq14z,[],V.pok,?_⟩
     refine jab [(19,.box 19 0),(20,.int .i64 0)] [(19,.box [.str (Pj 3).1,.str (Pj 3).2])] ?_ ?_
     ·exact V.d2 jih i3 m3
     refine V.r1 jih a3 ?_
     exact⟨4,by omega,by omega,V.wk⟩
    ·refine V.r0 jih ?_
     refine⟨Pq86z,[],V.pok,?_⟩
     refine jab [(21,.box 21 0),(22,.int .i64 0)] [(21,.box [.str Yj.1,.str Yj.2])] ?_ ?_
     ·exact V.d2 jii cfull d
     refine V.r0 jii ?_
     rw[← hYj]
     first|exact⟨1,by omega,by omega,V.wk⟩|exact⟨2,by omega,by omega,V.wk⟩|exact⟨3,by omega,by omega,V.wk⟩|exact⟨4,by omega,by omega,V.wk⟩
  ·have hlf:decide ((j:Int)<out)=false:=decide_eq_false hjo
   obtain rfl:out=(j:Int):=by omega
   rcases (show j=1∨j=2∨j=3∨j=4 by omega) with rfl|rfl|rfl|rfl
   all_goals
    simp only[rb15,rbY]
    refine V.r0 (V.a2 jii hlf) ?_
    exact Fin.of rfl
theorem rcellq3 {x0 x1 x2:Rat}{z0 z1 z2 out:Int}{data:List Int}(hg:jak [z0,z1,z2] out data=true)(h0:Fq 40 x0)(h1:Fq 40 x1)(h2:Fq 40 x2) :
  Cl 12 [.agg [.ints .i64 [z0,z1,z2],.int .i64 out,.ints .i64 data],.slf 2 3 (fun j=>[.str (txq ((rqN x0 x1 x2) j)).1,.str (txq ((rqN x0 x1 x2) j)).2])] (.tup [.ints .i64 [spB z0 x0,spB z1 x1,spB z2 x2],.ints .i64 (ord3 (spR z0 x0) (spR z1 x1) (spR z2 x2)),slQ (fun k=>txq (wqN (rqN (spR z0 x0) (spR z1 x1) (spR z2 x2)) (ord3 (spR z0 x0) (spR z1 x1) (spR z2 x2)) 3 k)) 4,.int .i64 0]):=by
 have og:=jav hg
 have ck:Cl 35 [.agg [.ints .i64 [z0,z1,z2],.int .i64 out,.ints .i64 data]] (.bool true):=by
  have c:=jeJ [z0,z1,z2] out data (by simp) (by omega)
  rw[hg] at c
  exact c
 have cell:=jhw (zs:=[z0,z1,z2]) (out:=out) (data:=data) (n:=3) (by omega) rfl (rqN x0 x1 x2) (fun i hi=>by
  rcases (show i=0∨i=1∨i=2 by omega) with rfl|rfl|rfl
  ·exact h0
  ·exact h1
  ·exact h2) (fun i hi=>by
  rcases (show i=0∨i=1∨i=2 by omega) with rfl|rfl|rfl
  ·exact og.2.1 z0 (by simp)
  ·exact og.2.1 z1 (by simp)
  ·exact og.2.1 z2 (by simp)) ck
 have eO:rS (fun i=>spR ([z0,z1,z2].getD i 0) ((rqN x0 x1 x2) i)) 3=(ord3 (spR z0 x0) (spR z1 x1) (spR z2 x2)):=(jek (s:=(rqN (spR z0 x0) (spR z1 x1) (spR z2 x2))) fun i hi=>by
  rcases (show i=0∨i=1∨i=2 by omega) with rfl|rfl|rfl
  ·rfl
  ·rfl
  ·rfl).trans (rS3 _ _ _)
 rw[eO] at cell
 have eW:slQ (fun k=>txq (wqN (fun i=>spR ([z0,z1,z2].getD i 0) ((rqN x0 x1 x2) i)) (ord3 (spR z0 x0) (spR z1 x1) (spR z2 x2)) 3 k)) (3+1)=slQ (fun k=>txq (wqN (rqN (spR z0 x0) (spR z1 x1) (spR z2 x2)) (ord3 (spR z0 x0) (spR z1 x1) (spR z2 x2)) 3 k)) 4:=by
  obtain⟨O,eq⟩:∃ O,(ord3 (spR z0 x0) (spR z1 x1) (spR z2 x2))=O:=⟨_,rfl⟩
  have hO:O=[0,1,2]∨O=[0,2,1]∨O=[1,0,2]∨O=[1,2,0]∨O=[2,0,1]∨O=[2,1,0]:=by rw[← eq];exact jdx _ _ _
  rw[eq]
  clear eq eO cell
  rcases hO with rfl|rfl|rfl|rfl|rfl|rfl<;>rfl
 rw[eW] at cell
 exact cell
theorem revalq3 {x0 x1 x2:Rat}{z0 z1 z2 out:Int}{data:List Int}(hg:jak [z0,z1,z2] out data=true)(h0:Fq 40 x0)(h1:Fq 40 x1)(h2:Fq 40 x2) :
  Cl 14 [.agg [.ints .i64 [z0,z1,z2],.int .i64 out,.ints .i64 data],.slf 2 3 (fun j=>[.str (txq ((rqN x0 x1 x2) j)).1,.str (txq ((rqN x0 x1 x2) j)).2])] (.tup [slQ (fun j=>txq (evQ [z0,z1,z2] out data x0 x1 x2 j)) out.toNat,.int .i64 0]):=by
 have og:=jav hg
 have cell:=rcellq3 hg h0 h1 h2
 have s0:=og.2.1 z0 (by simp)
 have f0:=jbc h0 (by decide) s0
 have b0:=jb2 s0.1 x0
 have s1:=og.2.1 z1 (by simp)
 have f1:=jbc h1 (by decide) s1
 have b1:=jb2 s1.1 x1
 have s2:=og.2.1 z2 (by simp)
 have f2:=jbc h2 (by decide) s2
 have b2:=jb2 s2.1 x2
 have fr:∀ k,Fq 43 ((rqN (spR z0 x0) (spR z1 x1) (spR z2 x2)) k):=fq_rq f0 f1 f2
 have es:=fun j=>ev3_sm (x0:=x0) (x1:=x1) (x2:=x2) s0.1 s1.1 s2.1 out data j
 have hO:(ord3 (spR z0 x0) (spR z1 x1) (spR z2 x2))=[0,1,2]∨(ord3 (spR z0 x0) (spR z1 x1) (spR z2 x2))=[0,2,1]∨(ord3 (spR z0 x0) (spR z1 x1) (spR z2 x2))=[1,0,2]∨(ord3 (spR z0 x0) (spR z1 x1) (spR z2 x2))=[1,2,0]∨(ord3 (spR z0 x0) (spR z1 x1) (spR z2 x2))=[2,0,1]∨(ord3 (spR z0 x0) (spR z1 x1) (spR z2 x2))=[2,1,0]:=jdx _ _ _
 obtain⟨O,eq⟩:∃ O,(ord3 (spR z0 x0) (spR z1 x1) (spR z2 x2))=O:=⟨_,rfl⟩
 simp only[eq] at hO
 skip
 rw[eq] at cell
 simp only[eq] at es
 obtain⟨ol,ox,oc⟩:=corn3 (O:=O) hO (spB z0 x0) (spB z1 x1) (spB z2 x2)
 have oi:∀ k,k<4→okIdx [z0,z1,z2] ((atK [spB z0 x0,spB z1 x1,spB z2 x2,0] O k).take 3)=true:=by
  intro k hk
  obtain⟨i0,i1,i2,e,hh⟩:=oc k hk
  rw[e]
  simp[okIdx]
  omega
 obtain⟨R,eR⟩:∃ R,(rqN (spR z0 x0) (spR z1 x1) (spR z2 x2))=R:=⟨_,rfl⟩
 rw[eR] at fr cell
 simp only[eR] at es
 obtain⟨U,eU⟩:∃ U:Nat→List Int,U=fun k=>slot data (pz ([z0,z1,z2].zip ((atK [spB z0 x0,spB z1 x1,spB z2 x2,0] O k).take 3))*out) out:=⟨_,rfl⟩
 have uv:∀ k,k≤3→(U k).length=out.toNat ∧ ∀ j,0≤(U k).getD j 0∧(U k).getD j 0≤65535:=fun k hk=>by
  rw[eU]
  exact⟨jbx hg (oi k (by omega)),jbF og.2.2.2 _ _⟩
 have es:∀ j,evQ [z0,z1,z2] out data x0 x1 x2 j=smF (fun k=>wqN R O 3 k*(((U k).getD j 0:Int):Rat)) 3/65535:=fun j=>by
  rw[eU]
  exact es j
 have fm:∀ j k,k≤3→Fq 92 (wqN R O 3 k*(((U k).getD j 0:Int):Rat)):=fun j k hk=>(fq_wq fr O 3 k).mul (jaD (n:=5) (by have:=(uv k hk).2 j;omega) (by omega))
 have fs:∀ j k,k≤3→Fq 371 (smF (fun k=>wqN R O 3 k*(((U k).getD j 0:Int):Rat)) k):=fun j k hk=>by
  have fa:∀ k,k≤3→Fq ((k+1)*92+k) (smF (fun k=>wqN R O 3 k*(((U k).getD j 0:Int):Rat)) k):=fun k=>by
   induction k with
   | zero=>exact fun _=>(fm j 0 (by omega)).mono (by omega)
   | succ k ih=>exact fun h=>((ih (by omega)).add (fm j (k+1) h)).mono (by rw[Nat.add_mul (k+1)];omega)
  exact(fa k hk).mono (by omega)
 have fz:Fq 371 (0:Rat):=jcf.mono (by omega)
 have c:=reval3_t [z0,z1,z2] data O out (fun j=>[.str (txq ((rqN x0 x1 x2) j)).1,.str (txq ((rqN x0 x1 x2) j)).2]) (fun k=>(atK [spB z0 x0,spB z1 x1,spB z2 x2,0] O k).take 3) U (fun k=>pz ([z0,z1,z2].zip ((atK [spB z0 x0,spB z1 x1,spB z2 x2,0] O k).take 3))*out) (fun k=>txq (wqN R O 3 k)) (fun j=>txq (smF (fun k=>wqN R O 3 k*(((U k).getD j 0:Int):Rat)) 3/65535)) (fun j k=>txq (((U k).getD j 0:Int):Rat)) (fun j k=>txq (wqN R O 3 k*(((U k).getD j 0:Int):Rat))) (fun j k=>txq (sQ (fun k=>wqN R O 3 k*(((U k).getD j 0:Int):Rat)) k)) og.1 ol (by omega)
  (fun k hk=>by
   rcases hO with rfl|rfl|rfl|rfl|rfl|rfl<;>rcases (show k=0∨k=1∨k=2 by omega) with rfl|rfl|rfl<;>refine⟨by decide,?_,rfl⟩<;>(simp[atK];omega))
  (fun k hk=>by
   obtain⟨i0,i1,i2,e,hh⟩:=oc k (by omega)
   rw[e];rfl)
  (fun k hk=>?_) (fun k hk=>(uv k hk).1) cell (fun k hk=>?_) (jbC (n:=0) (by omega)) (fun j=>rfl) (txq ((65535:Int):Rat)) (jbC (n:=65535) (by omega))
  (fun j k hj hk=>jbC (by have:=(uv k hk).2 j;omega))
  (fun j k hj hk=>zrmul (fq_wq fr O 3 k) (jaD (n:=5) (by have:=(uv k hk).2 j;omega) (by omega)) (by omega) (by omega) (by omega))
  (fun j k hj hk=>?_)
  (fun j hj=>zrdiv (fs j 3 (by omega)) (jaD (n:=5) (z:=65535) jaN (by decide)) jbQ (by omega) (by omega) (by omega))
 ·rw[show (fun j=>txq (evQ [z0,z1,z2] out data x0 x1 x2 j))=_ from funext fun j=>congrArg txq (es j)]
  exact c
 ·have bd:=jgk hg (oi k (by omega))
  refine⟨bd,?_⟩
  rw[eU]
  exact jeE bd.1 (by omega)
 ·have r:=jgi [z0,z1,z2] out data ((atK [spB z0 x0,spB z1 x1,spB z2 x2,0] O k).take 3) (by simp) (by omega) (by rw[jjy];omega)
  rw[hg,oi k (by omega)] at r
  exact r
 ·rcases k with _|k
  ·have c:=zradd fz (fm j 0 (by omega)) (by omega) (by omega) (by omega)
   rw[Rat.zero_add] at c
   exact c
  ·exact zradd (fs j k (by omega)) (fm j (k+1) hk) (by omega) (by omega) (by omega)
def slY (Y:Nat→Tx)(m:Nat):D := .slf 2 m (fun j=>[.str (Y j).1,.str (Y j).2])
theorem argL {f:Nat}{g a a' r:D}(h:Cl f [g,a] r)(A:_root_.Go.V.Fin a a'):Cl f [g,a'] r:=Called.arg (show FinL [g,a] [g,a'] from ⟨Fin.same _,A,trivial⟩) h
theorem fin_nil2 (f:Nat→List D):_root_.Go.V.Fin (.slf 2 0 f) .nil:=⟨fun hp v hv=>by
 simp only[Den] at hv ⊢
 refine⟨none,0,hv,?_⟩
 simp⟩
theorem fin_nili (k:IntKind):_root_.Go.V.Fin (.ints k []) .nil:=⟨fun hp v hv=>by
 simp only[Den] at hv ⊢
 subst hv
 exact⟨none,0,rfl,ji1 _,jiT _,fun _ h=>absurd h (by simp),rfl,rfl⟩⟩
def Alike (zs data:List Int)(out:Int)(Y:Nat→Tx)(m:Nat):Prop:=
 ∃ (bl ol:List Int) (w:Nat→Tx) (wn:Nat) (e:Int) (y:Nat→Tx) (yn:Nat) (h:Int),(bl.length≤4∧ol.length≤4)∧wn≤4∧yn≤4 ∧
  Cl 11 [.agg [.ints .i64 zs,.int .i64 out,.ints .i64 data],slY Y m] (.tup [.ints .i64 bl,.ints .i64 ol,slQ w wn,.int .i64 e]) ∧
  Cl 12 [.agg [.ints .i64 zs,.int .i64 out,.ints .i64 data],slY Y m] (.tup [.ints .i64 bl,.ints .i64 ol,slQ w wn,.int .i64 e]) ∧
  Cl 13 [.agg [.ints .i64 zs,.int .i64 out,.ints .i64 data],slY Y m] (.tup [slQ y yn,.int .i64 h]) ∧
  Cl 14 [.agg [.ints .i64 zs,.int .i64 out,.ints .i64 data],slY Y m] (.tup [slQ y yn,.int .i64 h])
theorem jh6 {zs data:List Int}{out e:Int}{Y:Nat→Tx}{m:Nat}(he:e≠0)(c:Cl 34 [.agg [.ints .i64 zs,.int .i64 out,.ints .i64 data],slY Y m] (.tup [.agg [.nil,.int .i64 0,.nil,.nil,.nil,.nil],.int .i64 e]))(r:Cl 12 [.agg [.ints .i64 zs,.int .i64 out,.ints .i64 data],slY Y m] (.tup [.nil,.nil,.nil,.int .i64 e])):Alike zs data out Y m:=by
 have f4:_root_.Go.V.Fin (.tup [.ints .i64 [],.ints .i64 [],slQ Y 0,.int .i64 e]) (.tup [.nil,.nil,.nil,.int .i64 e]):=Fin.tup ⟨fin_nili _,fin_nili _,fin_nil2 _,Fin.of rfl,trivial⟩
 have f2:_root_.Go.V.Fin (.tup [slQ Y 0,.int .i64 e]) (.tup [.nil,.int .i64 e]):=Fin.tup ⟨fin_nil2 _,Fin.of rfl,trivial⟩
 exact⟨[],[],Y,0,e,Y,0,e,⟨by simp,by simp⟩,by omega,by omega,(cell_e zs data out e he m _ c).fin f4,r.fin f4,(eval_e zs data out e he m _ c).fin f2,(reval_e zs data out e he m _ r).fin f2⟩
theorem jfV (p:Nat→Prop):∀ m:Nat,(∀ i,i<m→p i) ∨ ∃ k,k<m∧(∀ i,i<k→p i) ∧ ¬ p k
 | 0 => .inl fun i hi=>absurd hi (Nat.not_lt_zero _)
 | m+1=>by
  rcases jfV p m with h|⟨k,h1,h2,h3⟩
  ·by_cases g:p m
   ·exact .inl fun i hi=>by
     rcases ji8 i m with a|a
     ·exact h i a
     ·obtain rfl:i=m:=by omega
      exact g
   ·exact .inr ⟨m,by omega,h,g⟩
  ·exact .inr ⟨k,by omega,h2,h3⟩
theorem both_ok1 {z0 out:Int}{data:List Int}(hg:jak [z0] out data=true)(Y:Nat→Tx)(hY:∀ i,i<1→okP (Y i).1 (Y i).2=true∧Fq 40 (qX (Y i))):Alike [z0] data out Y 1:=by
 have f:_root_.Go.V.Fin (slQ (fun i=>txq ((rqN (qX (Y 0)) 0 0) i)) 1) (slY Y 1):=jbt fun j hj=>by
  rw[jfJ _ 1 j hj]
  have o:=jcx (hY j hj).1
  have e:txq ((rqN (qX (Y 0)) 0 0) j)=Y j:=by
   have e2:(rqN (qX (Y 0)) 0 0) j=qX (Y j):=by
    rcases (show j=0 by omega) with rfl<;>rfl
   rw[e2]
   exact Prod.ext o.1 o.2
  rw[e]
 have g:_root_.Go.V.Fin (.slf 2 1 (fun j=>[.str (txq ((rqN (qX (Y 0)) 0 0) j)).1,.str (txq ((rqN (qX (Y 0)) 0 0) j)).2])) (slY Y 1):=jbt fun j hj=>by
  have o:=jcx (hY j hj).1
  have e:txq ((rqN (qX (Y 0)) 0 0) j)=Y j:=by
   have e2:(rqN (qX (Y 0)) 0 0) j=qX (Y j):=by
    rcases (show j=0 by omega) with rfl<;>rfl
   rw[e2]
   exact Prod.ext o.1 o.2
  rw[e]
 have og:=jav hg
 exact⟨_,_,_,_,_,_,_,_,⟨by simp,by simp⟩,by omega,by omega,argL (cellq1 hg (hY 0 (by omega)).2) f,argL (rcellq1 hg (hY 0 (by omega)).2) g,argL (evalq1 hg (hY 0 (by omega)).2) f,argL (revalq1 hg (hY 0 (by omega)).2) g⟩
theorem both_ok2 {z0 z1 out:Int}{data:List Int}(hg:jak [z0,z1] out data=true)(Y:Nat→Tx)(hY:∀ i,i<2→okP (Y i).1 (Y i).2=true∧Fq 40 (qX (Y i))):Alike [z0,z1] data out Y 2:=by
 have f:_root_.Go.V.Fin (slQ (fun i=>txq ((rqN (qX (Y 0)) (qX (Y 1)) 0) i)) 2) (slY Y 2):=jbt fun j hj=>by
  rw[jfJ _ 2 j hj]
  have o:=jcx (hY j hj).1
  have e:txq ((rqN (qX (Y 0)) (qX (Y 1)) 0) j)=Y j:=by
   have e2:(rqN (qX (Y 0)) (qX (Y 1)) 0) j=qX (Y j):=by
    rcases (show j=0∨j=1 by omega) with rfl|rfl<;>rfl
   rw[e2]
   exact Prod.ext o.1 o.2
  rw[e]
 have g:_root_.Go.V.Fin (.slf 2 2 (fun j=>[.str (txq ((rqN (qX (Y 0)) (qX (Y 1)) 0) j)).1,.str (txq ((rqN (qX (Y 0)) (qX (Y 1)) 0) j)).2])) (slY Y 2):=jbt fun j hj=>by
  have o:=jcx (hY j hj).1
  have e:txq ((rqN (qX (Y 0)) (qX (Y 1)) 0) j)=Y j:=by
   have e2:(rqN (qX (Y 0)) (qX (Y 1)) 0) j=qX (Y j):=by
    rcases (show j=0∨j=1 by omega) with rfl|rfl<;>rfl
   rw[e2]
   exact Prod.ext o.1 o.2
  rw[e]
 have og:=jav hg
 exact⟨_,_,_,_,_,_,_,_,⟨by simp,by rcases jdy (spR z0 (qX (Y 0))) (spR z1 (qX (Y 1))) with e|e<;>rw[e]<;>simp⟩,by omega,by omega,argL (cellq2 hg (hY 0 (by omega)).2 (hY 1 (by omega)).2) f,argL (rcellq2 hg (hY 0 (by omega)).2 (hY 1 (by omega)).2) g,argL (evalq2 hg (hY 0 (by omega)).2 (hY 1 (by omega)).2) f,argL (revalq2 hg (hY 0 (by omega)).2 (hY 1 (by omega)).2) g⟩
theorem both_ok3 {z0 z1 z2 out:Int}{data:List Int}(hg:jak [z0,z1,z2] out data=true)(Y:Nat→Tx)(hY:∀ i,i<3→okP (Y i).1 (Y i).2=true∧Fq 40 (qX (Y i))):Alike [z0,z1,z2] data out Y 3:=by
 have f:_root_.Go.V.Fin (slQ (fun i=>txq ((rqN (qX (Y 0)) (qX (Y 1)) (qX (Y 2))) i)) 3) (slY Y 3):=jbt fun j hj=>by
  rw[jfJ _ 3 j hj]
  have o:=jcx (hY j hj).1
  have e:txq ((rqN (qX (Y 0)) (qX (Y 1)) (qX (Y 2))) j)=Y j:=by
   have e2:(rqN (qX (Y 0)) (qX (Y 1)) (qX (Y 2))) j=qX (Y j):=by
    rcases (show j=0∨j=1∨j=2 by omega) with rfl|rfl|rfl<;>rfl
   rw[e2]
   exact Prod.ext o.1 o.2
  rw[e]
 have g:_root_.Go.V.Fin (.slf 2 3 (fun j=>[.str (txq ((rqN (qX (Y 0)) (qX (Y 1)) (qX (Y 2))) j)).1,.str (txq ((rqN (qX (Y 0)) (qX (Y 1)) (qX (Y 2))) j)).2])) (slY Y 3):=jbt fun j hj=>by
  have o:=jcx (hY j hj).1
  have e:txq ((rqN (qX (Y 0)) (qX (Y 1)) (qX (Y 2))) j)=Y j:=by
   have e2:(rqN (qX (Y 0)) (qX (Y 1)) (qX (Y 2))) j=qX (Y j):=by
    rcases (show j=0∨j=1∨j=2 by omega) with rfl|rfl|rfl<;>rfl
   rw[e2]
   exact Prod.ext o.1 o.2
  rw[e]
 have og:=jav hg
 exact⟨_,_,_,_,_,_,_,_,⟨by simp,by rcases jdx (spR z0 (qX (Y 0))) (spR z1 (qX (Y 1))) (spR z2 (qX (Y 2))) with e|e|e|e|e|e<;>rw[e]<;>simp⟩,by omega,by omega,argL (cellq3 hg (hY 0 (by omega)).2 (hY 1 (by omega)).2 (hY 2 (by omega)).2) f,argL (rcellq3 hg (hY 0 (by omega)).2 (hY 1 (by omega)).2 (hY 2 (by omega)).2) g,argL (evalq3 hg (hY 0 (by omega)).2 (hY 1 (by omega)).2 (hY 2 (by omega)).2) f,argL (revalq3 hg (hY 0 (by omega)).2 (hY 1 (by omega)).2 (hY 2 (by omega)).2) g⟩
theorem fq_txt {x:Tx}(h:okP x.1 x.2=true)(h1:x.1.length≤20)(h2:x.2.length≤20):Fq 40 (qX x):=by
 obtain⟨e1,e2⟩:=jcx h
 have a:(dec (qX x).num.natAbs).length≤20:=by
  have:(decZ (qX x).num).length≤20:=by
   have e1':decZ (qX x).num=x.1:=e1
   rw[e1'];exact h1
  unfold decZ at this
  split at this
  ·simp only[jjG] at this;omega
  ·exact this
 have b:(dec (qX x).den).length≤20:=by
  have e2':dec (qX x).den=x.2:=e2
  rw[e2'];exact h2
 have lt:∀ {n:Nat},(dec n).length≤20→n<10^20:=fun {n} h=>by
  have:=jeK (jfl n)
  rw[jhv] at this
  exact ji7 this (jjg (by omega) h)
 exact Fq.mono (m:=20) ⟨lt a,lt b⟩ (by omega)
theorem alike_c {zs data:List Int}{out:Int}(hz:jak zs out data=true→zs.length=1∨zs.length=2∨zs.length=3)(hs:zs.length≤281474976710656)(hd:data.length≤281474976710656)(Y:Nat→Tx)(m:Nat)(hY:∀ i,i<m→(Y i).1.length≤600∧(Y i).2.length≤600∧(okP (Y i).1 (Y i).2=true→Fq 40 (qX (Y i)))):Alike zs data out Y m:=by
 have k:=jd4 zs out data hs hd
 have r:=jeJ zs out data hs hd
 cases hg:jak zs out data with
 | false=>
  rw[hg] at k r
  exact jh6 (by decide) (loc_b zs data out m _ k) (rcell_b zs data out m _ r)
 | true=>
  rw[hg] at k r
  by_cases hm:m=zs.length
  ·have h3:=hz hg
   rcases jfV (fun i=>okP (Y i).1 (Y i).2=true) m with h|⟨i,h1,h2,h3'⟩
   ·match zs,h3,hm,hg with
    | [z0],_,hm,hg=>obtain rfl:m=1:=hm;exact both_ok1 hg Y fun i hi=>⟨h i hi,(hY i hi).2.2 (h i hi)⟩
    | [z0,z1],_,hm,hg=>obtain rfl:m=2:=hm;exact both_ok2 hg Y fun i hi=>⟨h i hi,(hY i hi).2.2 (h i hi)⟩
    | [z0,z1,z2],_,hm,hg=>obtain rfl:m=3:=hm;exact both_ok3 hg Y fun i hi=>⟨h i hi,(hY i hi).2.2 (h i hi)⟩
   ·have fc:∀ j,j<m→Cl 72 [.agg [.str (Y j).1,.str (Y j).2]] (.int .i64 (if okP (Y j).1 (Y j).2 then 0 else 20)):=fun j hj=>fcheck_c _ _ (by have:=hY j hj;omega) (by have:=hY j hj;omega)
    have rc:∀ j,j<m→Cl 36 [.agg [.str (Y j).1,.str (Y j).2]] (.int .i64 (if okP (Y j).1 (Y j).2 then 0 else 20)):=fun j hj=>rcheck_c _ _ (by have:=hY j hj;omega) (by have:=hY j hj;omega)
    refine jh6 (e:=20) (by decide) (loc_fb zs data out 20 m i Y hm h1 (by omega) (by decide) k (fun j hj=>?_) ?_) (rcell_fb zs data out 20 m i Y hm h1 (by omega) (by decide) r (fun j hj=>?_) ?_)
    ·have c:=fc j (by omega)
     rw[if_pos (h2 j hj)] at c
     exact c
    ·have c:=fc i h1
     rw[if_neg h3'] at c
     exact c
    ·have c:=rc j (by omega)
     rw[if_pos (h2 j hj)] at c
     exact c
    ·have c:=rc i h1
     rw[if_neg h3'] at c
     exact c
  ·exact jh6 (by decide) (loc_len zs data out m _ hm k) (rcell_len zs data out m _ hm r)
end Go.Proofs.YtbnghipgicmpdaaGreatDoor
end
section
namespace Go.Gr
def PR:List Nat→Nat
 | []=>1
 | n::r=>n*PR r
def ixl:List Nat→Nat→List Int
 | [],_=>[]
 | n::r,m=>((m/PR r%n:Nat):Int)::ixl r m
theorem jfw {ns:List Nat}(h:∀ n∈ns,0<n):0<PR ns:=by
 induction ns with
 | nil=>decide
 | cons n r ih=>exact Nat.mul_pos (h n (by simp)) (ih fun x hx=>h x (by simp[hx]))
theorem jaw (ns:List Nat)(m:Nat):(ixl ns m).length=ns.length:=by
 induction ns with
 | nil=>rfl
 | cons n r ih=>simp[ixl,ih]
theorem jgy (ns:List Nat)(m i n:Nat)(h:ns[i]? = some n):(ixl ns m)[i]? = some ((m/PR (ns.drop (i+1))%n:Nat):Int):=by
 induction ns generalizing i with
 | nil=>simp at h
 | cons a r ih=>
  cases i with
  | zero=>simp at h;subst h;simp[ixl]
  | succ i=>simpa [ixl] using ih i (by simpa using h)
theorem jhN (ns:List Nat)(hp:∀ n∈ns,0<n)(m:Nat):ixl ns (m%PR ns)=ixl ns m:=by
 induction ns generalizing m with
 | nil=>rfl
 | cons n r ih=>
  have hr:∀ x∈r,0<x:=fun x hx=>hp x (by simp[hx])
  have h1:=jfw hr
  simp only[ixl,PR]
  have e1:m%(n*PR r)/PR r%n=m/PR r%n:=by
   rw[ji4,Nat.mod_mul_right_div_self,Nat.mod_mod]
  have e2:ixl r (m%(n*PR r))=ixl r m:=by
   rw[← ih hr (m%(n*PR r)),Nat.mod_mul_left_mod,ih hr]
  rw[e1,e2]
theorem jep (ns:List Nat)(hp:∀ n∈ns,0<n)(m:Nat)(h:m%PR ns=PR ns-1):ixl ns m=ns.map fun n:Nat=>(n:Int)-1:=by
 induction ns generalizing m with
 | nil=>rfl
 | cons n r ih=>
  have hr:∀ x∈r,0<x:=fun x hx=>hp x (by simp[hx])
  have hn:0<n:=hp n (by simp)
  have h1:=jfw hr
  simp only[PR] at h
  rw[ji4,Nat.mod_mul] at h
  have h2:=Nat.mod_lt m h1
  have h3:=Nat.mod_lt (m/PR r) hn
  have h4:PR r*(m/PR r%n)+m%PR r=PR r*(n-1)+(PR r-1):=by
   have:PR r*n=PR r*(n-1)+PR r:=by
    obtain⟨k,rfl⟩:∃ k,n=k+1:=⟨n-1,by omega⟩
    simp[Nat.mul_add]
   omega
  have h5:m/PR r%n=n-1:=by
   have e:=congrArg (· / PR r) h4
   simp only[Nat.mul_add_div h1] at e
   rw[Nat.div_eq_of_lt h2,Nat.div_eq_of_lt (by omega:PR r-1<PR r)] at e
   omega
  have h6:m%PR r=PR r-1:=by rw[h5] at h4;omega
  simp only[ixl,List.map_cons,h5,ih hr m h6]
  congr 1
  omega
theorem jeo (ns:List Nat)(hp:∀ n∈ns,0<n)(m:Nat)(h:ixl ns m=ns.map fun n:Nat=>(n:Int)-1):m%PR ns=PR ns-1:=by
 induction ns generalizing m with
 | nil=>simp[PR,Nat.mod_one]
 | cons n r ih=>
  have hr:∀ x∈r,0<x:=fun x hx=>hp x (by simp[hx])
  have hn:0<n:=hp n (by simp)
  have h1:=jfw hr
  simp only[ixl,List.map_cons,List.cons.injEq] at h
  have h2:=ih hr m h.2
  have h3:m/PR r%n=n-1:=by omega
  simp only[PR]
  rw[ji4,Nat.mod_mul,h2,h3]
  obtain⟨k,rfl⟩:∃ k,n=k+1:=⟨n-1,by omega⟩
  simp[Nat.mul_add];omega
theorem jeb (ns:List Nat)(hp:∀ n∈ns,0<n)(m:Nat)(h:m%PR ns=0):ixl ns m=List.replicate ns.length 0:=by
 rw[← jhN ns hp m,h]
 clear h
 induction ns with
 | nil=>rfl
 | cons n r ih=>simp only[ixl,Nat.zero_div,Nat.zero_mod,jjG,List.replicate_succ,ih fun x hx=>hp x (by simp[hx])];rfl
theorem succ_div {m P:Nat}(hP:0<P)(h:m%P≠P-1):(m+1)/P=m/P:=by
 have h2:=Nat.mod_lt m hP
 have h3:=Nat.div_add_mod m P
 have:m+1=P*(m/P)+(m%P+1):=by omega
 rw[this,Nat.mul_add_div hP,Nat.div_eq_of_lt (by omega:m%P+1<P)]
 omega
theorem jgb {m P:Nat}(hP:0<P)(h:m%P=P-1):(m+1)/P=m/P+1∧(m+1)%P=0:=by
 have h3:=Nat.div_add_mod m P
 have:m+1=P*(m/P+1):=by rw[Nat.mul_add];omega
 rw[this,Nat.mul_div_cancel_left _ hP,Nat.mul_mod_right]
 exact⟨rfl,rfl⟩
theorem mod_succ {a n:Nat}(hn:0<n)(h:a%n≠n-1):(a+1)%n=a%n+1:=by
 have h2:=Nat.mod_lt a hn
 have h3:=Nat.div_add_mod a n
 have:a+1=n*(a/n)+(a%n+1):=by omega
 rw[this,Nat.mul_add_mod,ji5 (by omega:a%n+1<n)]
theorem jgx (ns:List Nat)(hp:∀ n∈ns,0<n)(m j n:Nat)(hj:ns[j]? = some n)(x:Int)(hx:(ixl ns m)[j]? = some x)
  (h1:(ixl ns m).drop (j+1)=(ns.drop (j+1)).map fun n:Nat=>(n:Int)-1) (h2:x≠(n:Int)-1):ixl ns (m+1)=(ixl ns m).take j++(x+1)::List.replicate (ns.length-(j+1)) 0:=by
 induction ns generalizing j with
 | nil=>simp at hj
 | cons a r ih=>
  have hr:∀ y∈r,0<y:=fun y hy=>hp y (by simp[hy])
  have ha:0<a:=hp a (by simp)
  have hP:=jfw hr
  cases j with
  | zero=>
   simp at hj hx
   subst hj
   simp[ixl] at h1 hx
   have h3:=jeo r hr m h1
   have h4:=jgb hP h3
   have h5:=jeb r hr _ h4.2
   simp only[ixl,h4.1,h5]
   have h6:m/PR r%a≠a-1:=fun e=>by
    apply h2
    rw[← hx,← Int.natCast_ediv,← Int.natCast_emod,e]
    omega
   rw[mod_succ ha h6]
   subst hx
   simp
  | succ j=>
   have hj':r[j]? = some n:=by simpa using hj
   have hx':(ixl r m)[j]? = some x:=by simpa [ixl] using hx
   have h1':(ixl r m).drop (j+1)=(r.drop (j+1)).map fun n:Nat=>(n:Int)-1:=by simpa [ixl] using h1
   have h3:m%PR r≠PR r-1:=fun e=>by
    have:=jep r hr m e
    rw[this] at hx'
    simp[hj'] at hx'
    omega
   have h4:=ih hr j hj' hx' h1'
   simp only[ixl,succ_div hP h3,h4,List.take_succ_cons,List.cons_append,jjG]
   congr 2
   simp
theorem pz_ixl_aux (ns:List Nat)(hp:∀ n∈ns,0<n)(m:Nat)(p:Int):((ns.map fun n:Nat=>(n:Int)).zip (ixl ns m)).foldl (fun p a=>p*a.1+a.2) p=p*(PR ns:Int)+((m%PR ns:Nat):Int):=by
 induction ns generalizing p with
 | nil=>simp[ixl,PR,Nat.mod_one]
 | cons n r ih=>
  have hr:∀ x∈r,0<x:=fun x hx=>hp x (by simp[hx])
  simp only[ixl,List.map_cons,List.zip_cons_cons,List.foldl_cons,PR]
  rw[ih hr,ji4 n,Nat.mod_mul]
  simp only[Int.natCast_add,jja,jjl,jjd]
  rw[jjc (PR r:Int) (n:Int),jjc (PR r:Int) _]
  omega
def swp (l:List Int)(a b:Nat):List Int:=(l.set a (l.getD b 0)).set b (l.getD a 0)
def swn (l:List Nat)(a b:Nat):List Nat:=(l.set a (l.getD b 0)).set b (l.getD a 0)
end Go.Gr
end
section
namespace Go.Proofs.YtbnghipgicmpdaaGreatDoor
open Go Go.V Go.Gr
def nz (ns:List Nat):List Int:=ns.map fun n:Nat=>(n:Int)
theorem jeP (ns:List Nat):prod (nz ns)=(PR ns:Nat):=by
 have h:∀ (l:List Nat) (q:Int),(nz l).foldl (· * ·) q=q*(PR l:Nat):=by
  intro l
  induction l with
  | nil=>intro q;simp[nz,PR]
  | cons x l ih=>
   intro q
   have:=ih (q*x)
   simp only[nz,List.map_cons,List.foldl_cons,PR] at this ⊢
   rw[this,jja,jjd]
 have:=h ns 1
 simpa [prod] using this
def rl (lt:Int→Int→Bool)(data:List Int)(w:Nat):Nat→List Int
 | 0=>slot data 0 w
 | i+1=>(rl lt data w i).set (i%w) (if lt (data.getD i 0) ((rl lt data w i).getD (i%w) 0) then data.getD i 0 else (rl lt data w i).getD (i%w) 0)
theorem jeI {lt:Int→Int→Bool}{data:List Int}{w:Nat}(h:w≤data.length)(i:Nat):(rl lt data w i).length=w:=by
 induction i with
 | zero=>simp[rl,slot];omega
 | succ i ih=>simp[rl,ih]
theorem index_step {ns:List Nat}{m p n:Nat}(hn:ns[p]? = some n)(hp:p<ns.length) :
  (List.replicate (p+1) (0:Int)++(ixl ns m).drop (p+1)).set p ((m/PR (ns.drop (p+1))%n:Nat):Int)=List.replicate p 0++(ixl ns m).drop p∧m/PR (ns.drop (p+1))/n=m/PR (ns.drop p):=by
 have hx:=jgy ns m p n hn
 constructor
 ·rw[List.set_append_left _ _ (by simp),List.replicate_succ',List.set_append_right _ _ (by simp)]
  rw[jjM (i:=p) (by rw[jaw];exact hp)]
  have:=(jjB.1 hx).2
  rw[this]
  simp
 ·have hd:ns.drop p=n::ns.drop (p+1):=by
   rw[jjM hp]
   rw[(jjB.1 hn).2]
  rw[hd,PR,Nat.div_div_eq_div_mul,ji4]
theorem rindex_c (ns:List Nat)(m:Nat)(hp:∀ n∈ns,0<n∧n≤1000000)(hl:ns.length≤10000)(hm:m≤1000000000):Cl 63 [.ints .i64 (nz ns),.int .i64 m] (.ints .i64 (ixl ns m)):=by
 have hlen:(nz ns).length=ns.length:=by simp[nz]
 refine V.en tbOk Tryz.func63 ?_
 refine V.r0 (V.a2 hlen @ji0) ?_
 have e0:List.replicate ns.length (0:Int)=List.replicate ns.length 0++(ixl ns m).drop ns.length:=by
  rw[jjK (by rw[jaw];omega),jjH]
 have e1:(m:Int)=((m/PR (ns.drop ns.length):Nat):Int):=by simp[PR]
 refine jad (ns.length) (fun k=>k≤ns.length) (fun k=>k) (fun k=>[(1,.int .i64 ((m/PR (ns.drop k):Nat):Int)),(6,.int .i64 ((k:Int)-1))]) (fun k=>[(9,.arr .i64 (List.replicate k 0++(ixl ns m).drop k))]) ?_ ?_ ?_
 ·rw[← e0,← e1]
  exact V.wk
 ·exact ji1 _
 intro p hpl
 (conv=>whnf)
 refine V.st ?_
 refine V.br (fun h=>?_) (fun h=>?_)
 ·have hp0:0<p:=by simp at h;omega
  obtain⟨p,rfl⟩:∃ q,p=q+1:=⟨p-1,by omega⟩
  have hp1:p<ns.length:=by omega
  obtain⟨n,hn⟩:∃ n,ns[p]? = some n:=⟨ns[p],jju hp1⟩
  have hn0:=hp n (jjw hn)
  have en:(nz ns).getD p 0=n:=by simp[nz,jjr,hn]
  have e2:(((p+1:Nat):Int)-1)=(p:Int):=by omega
  have hst:=index_step (m:=m) hn hp1
  have e3:((m/PR (ns.drop (p+1)):Nat):Int)%(n:Int)=((m/PR (ns.drop (p+1))%n:Nat):Int):=by simp
  have e4:((m/PR (ns.drop (p+1)):Nat):Int)/(n:Int)=((m/PR (ns.drop p):Nat):Int):=by rw[← hst.2];simp
  have hl2:(List.replicate (p+1) (0:Int)++(ixl ns m).drop (p+1)).length=ns.length:=by simp[jaw];omega
  have hl3:m/PR (ns.drop (p+1))≤m:=jjh _ _
  generalize hq:m/PR (ns.drop (p+1))=q at *
  refine V.r0 (V.a5 hlen e2 @en @ji0 @jiX) ?_
  rw[e3,hst.1]
  refine V.st ?_
  rw[e4]
  exact⟨p,by omega,by omega,V.wk⟩
 ·have hp0:p=0:=by simp at h;omega
  subst hp0
  (conv=>whnf)
  refine V.st ?_
  have h0:(List.replicate 0 (0:Int)++(ixl ns m).drop 0)=ixl ns m:=by simp
  have hli:=jaw ns m
  rw[h0]
  refine Fin.of ?_
  rw[jjI (by rw[hli];simp)]
def lastL (ns:List Nat):List Int:=ns.map fun n:Nat=>(n:Int)-1
def flat (ns:List Nat)(f:Nat→List Int)(m:Nat):List Int:=(List.range m).flatMap f
theorem jdI (ns:List Nat)(f:Nat→List Int)(m:Nat):flat ns f (m+1)=flat ns f m++f m:=by
 simp[flat,List.range_succ]
theorem flat_len {ns:List Nat}{f:Nat→List Int}{m:Nat}(h:∀ j,j<m→(f j).length≤4):(flat ns f m).length≤4*m:=by
 induction m with
 | zero=>simp[flat]
 | succ m ih=>
  rw[jdI,jjx]
  have h1:=ih fun j hj=>h j (by omega)
  have h2:=h m (by omega)
  omega
theorem PR_le {ns:List Nat}(h1:ns.length≤4)(h2:∀ n∈ns,2≤n∧n≤9):PR ns≤6561:=by
 have hb:∀ l:List Nat,(∀ n∈l,2≤n∧n≤9)→PR l≤9^l.length:=by
  intro l
  induction l with
  | nil=>intro _;decide
  | cons x l ih=>
   intro hl
   have h3:=ih fun n hn=>hl n (by simp[hn])
   have h4:=hl x (by simp)
   rw[PR,jjG,Nat.pow_succ,ji4]
   exact Nat.mul_le_mul h3 h4.2
 exact ji2 (hb ns h2) (jjg (by omega) h1)
theorem ixl_pad0 {ns:List Nat}(h1:1≤ns.length∧ns.length≤4)(h2:∀ n∈ns,2≤n∧n≤9):pad4 (ixl ns 0)=[0,0,0,0]:=by
 rw[jeb ns (fun n hn=>by have:=h2 n hn;omega) 0 (Nat.zero_mod _)]
 unfold pad4
 rw[List.length_replicate,← List.replicate_append_replicate.symm]
 have:ns.length+(4-ns.length)=4:=by omega
 simp[this]
theorem jgq {a b:List Int}(h:a.length=b.length)(e:pad4 a=pad4 b):a=b:=(List.append_inj e h).1
theorem jcw {l:List Int}{p k:Nat}{x:Int}(h:l[p]? = some x)(hk:p<k)(hl:l.length≤4):(pad4 (l.take k)).getD p 0=x:=by
 have hp:=(jjB.1 h).1
 unfold pad4
 rw[jjr,jjA (by simp;omega),jjR hk,h]
 rfl
theorem jdu {l:List Int}{p:Nat}{x y:Int}(h:l[p]? = some x)(h1:p<l.length)(hl:l.length≤4):(pad4 (l.take (p+1))).set p y=pad4 (l.take p++y::List.replicate (l.length-(p+1)) 0):=by
 unfold pad4
 have e1:(l.take (p+1)).length=p+1:=by simp;omega
 have e2:(l.take p++y::List.replicate (l.length-(p+1)) 0).length=l.length:=by simp;omega
 have e4:(l.take p).length=p:=by simp;omega
 rw[e1,e2,List.set_append_left _ _ (by omega),jjS,h]
 have e3:(l.take p++(some x).toList).set p y=l.take p++[y]:=by
  rw[List.set_append_right _ _ (by omega),e4,Nat.sub_self]
  rfl
 rw[e3,jjz,jjz]
 congr 1
 rw[List.singleton_append,List.cons_append,List.replicate_append_replicate]
 congr 2
 omega
theorem jeQ {l:List Int}{p:Nat}{x:Int}(h:l[p]? = some x)(hl:l.length≤4):(pad4 (l.take (p+1))).set p 0=pad4 (l.take p):=by
 have h1:=(jjB.1 h).1
 rw[jdu h h1 hl]
 unfold pad4
 have e2:(l.take p++(0:Int)::List.replicate (l.length-(p+1)) 0).length=l.length:=by simp;omega
 have e3:(l.take p).length=p:=by simp;omega
 rw[e2,e3,jjz]
 congr 1
 rw[← List.replicate_succ,List.replicate_append_replicate]
 congr 1
 omega
theorem je4 {ns:List Nat}{m p n:Nat}{x:Int}(hpos:∀ n∈ns,0<n)(hn:ns[p]? = some n)(hx:(ixl ns m)[p]? = some x):0≤x∧x≤(n:Int)-1:=by
 rw[jgy ns m p n hn] at hx
 cases hx
 have:=Nat.mod_lt (m/PR (ns.drop (p+1))) (hpos n (jjw hn))
 omega
end Go.Proofs.YtbnghipgicmpdaaGreatDoor
end
