/- What functions of the program answer at given values, part 9. Conditions: those that each theorem names. -/
import Derived.Test.YtbnghipgicmpdaaGreatDoorSimplexBandsH7
import Derived.Test.YtbnghipgicmpdaaGreatDoorSimplexBandsH6
import Derived.Test.YtbnghipgicmpdaaGreatDoorSimplexBandsH8
import Derived.Test.YtbnghipgicmpdaaGreatDoorSimplexBandsH4
set_option linter.unusedSimpArgs false
set_option linter.unusedVariables false
set_option maxHeartbeats 8000000
set_option maxRecDepth 100000
section
namespace Go.Proofs.YtbnghipgicmpdaaGreatDoor
open Go Go.V Go.Nb
theorem je4 (s:List UInt8)(hs:s.length≤281474976710656):Cl 136 [.str s] (.bool (okW s)):=by
 obtain⟨d,j,neg,S,e1,_⟩:=sg_of s
 rw[e1]
 exact jhp s d j neg S hs
theorem jeM (s:List UInt8)(h:okW s=true):Cl 67 [.str s] (plD (wval s)):=by
 obtain⟨d,j,neg,S,e1,e2⟩:=sg_of s
 rw[e2]
 rw[e1] at h
 unfold okD at h
 simp only[jjv,Bool.not_eq_true',jjP,decide_eq_false_iff_not,jj7] at h
 exact in01_g s d j neg S h.1.2 Jo (by have:=S.hl;omega)
theorem jcl {s:List UInt8}(h:okW s=true):Sm 151 (wval s):=by
 obtain⟨d,j,neg,S,e1,e2⟩:=sg_of s
 rw[e1] at h
 unfold okD at h
 simp only[jjv,Bool.not_eq_true',jjP,decide_eq_false_iff_not,jj7] at h
 have hlt:=je5 (s:=d) h.1.2
 have h2:∀ k,d.length≤4*k→rdv d<10000^k:=fun k hk=>by
  refine jjN hlt ?_
  rw[show (10000:Nat)=10^4 from rfl,← Nat.pow_mul]
  exact jjW Jo hk
 have e:(wval s).natAbs=rdv d:=by
  rw[e2];split<;>omega
 unfold Sm
 rw[e]
 exact jax Jo (h2 151 Jo)
theorem jh7 (s t : List UInt8) (hs : s.length ≤ 281474976710656) (ht : t.length ≤ 281474976710656) : Cl 75 [.agg [.str s, .str t]] (.bool (okP s t)) := by
  have r1 := je4 s hs
  have r2 := je4 t ht
  by_cases h1 : okW s = true
  · rw [h1] at r1
    by_cases h2 : okW t = true
    · rw [h2] at r2
      have i1 := jeM s h1
      have i2 := jeM t h2
      have g1 := jd0 (wval s) (wval t) ((jcl h1).mono Jo) ((jcl h2).mono Jo)
      have hz := jb9 (B := 10000) (n := (wval t).natAbs) Jo
      have gl : Sm 151 (Int.gcd (wval s) (wval t) : Int) := by
        by_cases h0 : wval t = 0
        · rw [h0, Int.gcd_zero_right]
          exact (jcl h1).le Jo
        · exact (jcl h2).le (by
            rw [jjV]
            exact Nat.le_of_dvd Jo (Int.ofNat_dvd_left.1 (Int.gcd_dvd_right _ _)))
      have x1 := text_c _ (gl.mono Jo)
      have hp : okP s t = (decide (0 < wval t) && decide (decZ (Int.gcd (wval s) (wval t) : Int) = [49])) := by
        unfold okP
        rw [h1, h2, Bool.true_and, Bool.true_and]
        congr 1
        refine decide_eq_decide.2 ⟨fun h => ?_, fun h => ?_⟩
        · rw [show Int.gcd (wval s) (wval t) = 1 from h]; decide
        · have := jbf (Int.gcd (wval s) (wval t) : Int)
          rw [h] at this
          have e49 : wval [49] = 1 := Jd
          rw [e49] at this
          show Int.gcd (wval s) (wval t) = 1
          omega
      rw [hp]
      clear hp gl
      generalize wval s = x at *
      generalize wval t = y at *
      generalize (Int.gcd x y : Int) = g at *
      generalize decZ g = gt at *
      have hy : (decide (y < 0) || decide ((((mg 10000 y.natAbs).length : Nat) : Int) = 0)) = !decide (0 < y) := by
        rw [Bool.eq_iff_iff]
        simp only [Bool.or_eq_true, decide_eq_true_eq, Bool.not_eq_true', decide_eq_false_iff_not]
        constructor
        · rintro (h | h)
          · omega
          · have : mg 10000 y.natAbs = [] := jj9.1 Jo
            have := hz.1 this
            omega
        · intro h
          by_cases h0 : y < 0
          · exact .inl h0
          · right
            have : mg 10000 y.natAbs = [] := hz.2 Jo
            rw [this]; rfl
      unfold plD at *
      refine V.en tbOk Tryz.func75 ?_
      refine V.u2 r1 r2 ?_
      refine ⟨Pq66z, [], V.pok, ?_⟩
      refine jab [(3, .box 3 0), (4, .box 4 0)] [(3, .box [.bool (decide (x < 0)), Jj (mg 10000 x.natAbs)]), (4, .box [.bool (decide (y < 0)), Jj (mg 10000 y.natAbs)])] ?_ ?_
      · exact V.d2 @jjC i1 i2
      refine V.r0 hy ?_
      refine V.br (fun hq => ?_) (fun hq => ?_)
      · simp only [Bool.not_eq_true', decide_eq_false_iff_not] at hq
        rw [decide_eq_false hq, jj3]
        (conv => whnf)
        refine V.st ?_
        exact Fin.of rfl
      · simp only [Bool.not_eq_false', decide_eq_true_eq] at hq
        rw [decide_eq_true hq, Bool.true_and]
        refine V.u2 g1 x1 ?_
        exact Fin.of rfl
    · rw [Bool.eq_false_iff.2 h2] at r2
      have hp : okP s t = false := by unfold okP; rw [Bool.eq_false_iff.2 h2, Bool.and_false, jj3, jj3]
      rw [hp]
      refine V.en tbOk Tryz.func75 ?_
      refine V.u2 r1 r2 ?_
      exact Fin.of rfl
  · rw [Bool.eq_false_iff.2 h1] at r1
    have hp : okP s t = false := by unfold okP; rw [Bool.eq_false_iff.2 h1, jj3, jj3, jj3]
    rw [hp]
    refine V.en tbOk Tryz.func75 ?_
    refine V.u2 r1 r2 ?_
    refine V.br (fun hq => ?_) (fun hq => ?_)
    · (conv => whnf)
      refine V.st ?_
      exact Fin.of rfl
    · simp at hq
theorem q4_qv_n {s t:List UInt8}(h:okP s t=true):Q4 151 (qv s t):=by
 obtain⟨h1,h2,h3,h4⟩:=jer h
 obtain⟨p1,p2⟩:=jc9 h
 exact⟨by rw[p1];exact jcl h1,by rw[p2];exact(jcl h2).le Jo⟩
theorem in02_c_n (s t:List UInt8)(h:okP s t=true):Cl 77 [.agg [.str s,.str t]] (raD (qv s t)):=by
 obtain⟨h1,h2,h3,h4⟩:=jer h
 obtain⟨p1,p2⟩:=jc9 h
 have i1:=jeM s h1
 have i2:=jeM t h2
 unfold raD
 rw[p1,p2]
 unfold plD at i1 i2
 rw[decide_eq_false (show ¬ wval t<0 by omega)] at i2
 refine V.en tbOk Tryz.func77 ?_
 (conv=>whnf)
 refine V.st ?_
 refine⟨Pq68z,[],V.pok,.go (jac ?_)⟩
 refine V.u2 i1 i2 ?_
 exact Fin.of rfl
theorem jiG (p q:Int):Cl 55 [bA p q] (Ji (if vb p q=true then 0 else 30)):=by
 have r1:=jho p q
 by_cases hv:vb p q=true
 ·rw[if_pos hv]
  rw[hv] at r1
  refine V.en tbOk Tryz.func55 ?_
  refine V.u1 r1 ?_
  exact Fin.of rfl
 ·rw[if_neg hv]
  rw[Bool.eq_false_iff.2 hv] at r1
  refine V.en tbOk Tryz.func55 ?_
  refine V.u1 r1 ?_
  exact Fin.of rfl
def jiJ (s t:List UInt8):Int×Int×Int:=if okP s t=true then mk (loE (qv s t)) (hiE (qv s t)) else (0,0,20)
theorem around_r (s t:List UInt8)(hs:s.length≤281474976710656)(ht:t.length≤281474976710656):Cl 111 [.agg [.str s,.str t]] (bD (jiJ s t)):=by
 have r1:=jh7 s t hs ht
 unfold jiJ
 by_cases h:okP s t=true
 ·rw[if_pos h]
  rw[h] at r1
  have i1:=in02_c_n s t h
  have q1:=q4_qv_n h
  have t1:=tight_c (qv s t) (qv s t) (q1.mono Jo) (q1.mono Jo)
  rw[tightR_eq] at t1
  generalize mk (loE (qv s t)) (hiE (qv s t))=r at *
  generalize qv s t=x at *
  unfold raD at *
  refine V.en tbOk Tryz.func111 ?_
  refine V.u3 r1 i1 t1 ?_
  exact Fin.of rfl
 ·rw[if_neg h]
  rw[Bool.eq_false_iff.2 h] at r1
  refine V.en tbOk Tryz.func111 ?_
  refine V.u1 r1 ?_
  exact Fin.of rfl
theorem jeN {z d f:Int}(hd:0<d)(h1:f*d≤z)(h2:z<f*d+d):flo z d=f:=by
 have h3:=flo_mul (z:=z) hd
 rcases Int.lt_trichotomy (flo z d) f with g|g|g
 ·exfalso
  have:=jjM (show flo z d+1≤f by omega) (show (0:Int)≤d by omega)
  rw[jj1] at this
  omega
 ·exact g
 ·exfalso
  have:=jjM (show f+1≤flo z d by omega) (show (0:Int)≤d by omega)
  rw[jj1] at this
  omega
theorem jha {z d f:Int}(hd:0<d)(h1:z≤f*d)(h2:f*d<z+d):cei z d=f:=by
 have:=jeN (z := -z) (f := -f) hd (by rw[Int.neg_mul];omega) (by rw[Int.neg_mul];omega)
 unfold cei;omega
theorem aroundR_eq (x:Rat):jcI x=mk (loE x) (hiE x):=by
 have hp:=x.den_pos
 have e1:=loE_divInt x.num x.den Jo
 have e2:=hiE_divInt x.num x.den Jo
 rw[jj6] at e1 e2
 obtain⟨b1,b2⟩:=jgS x
 have l1:=jgX (nearZ x 1000000000000) x
 have l2:=jeX (nearZ x 1000000000000) x
 have l3:=jeZ (nearZ x 1000000000000) x
 unfold jcI
 generalize nearZ x 1000000000000=n at *
 have m1:(n + -1)*(x.den:Int)=n*x.den-x.den:=by rw[jj1];omega
 have m2:(n+1)*(x.den:Int)=n*x.den+x.den:=by rw[jj1];omega
 have key:loE x=n+min (ordQ x (unit n)) 0∧hiE x=n+max (ordQ x (unit n)) 0:=by
  rw[e1,e2]
  by_cases g1:x<unit n
  ·have o:ordQ x (unit n) = -1:=by unfold ordQ;rw[if_pos g1]
   rw[o,show min (-1:Int) 0 = -1 from rfl,show max (-1:Int) 0=0 from rfl,jjZ]
   have:=l1.1 g1
   exact⟨jeN Jo (by rw[m1];omega) (by rw[m1];omega),jha Jo Jo Jo⟩
  ·by_cases g2:x=unit n
   ·have o:ordQ x (unit n)=0:=by unfold ordQ;rw[if_neg g1,if_pos g2]
    rw[o,show min (0:Int) 0=0 from rfl,show max (0:Int) 0=0 from rfl,jjZ]
    have:=l3.1 g2
    exact⟨jeN Jo Jo Jo,jha Jo Jo Jo⟩
   ·have o:ordQ x (unit n)=1:=by unfold ordQ;rw[if_neg g1,if_neg g2]
    rw[o,show min (1:Int) 0=0 from rfl,show max (1:Int) 0=1 from rfl,jjZ]
    have:=l2.1 (Rat.lt_of_le_of_ne (Rat.not_lt.1 g1) (Ne.symm g2))
    exact⟨jeN Jo Jo Jo,jha Jo (by rw[m2];omega) (by rw[m2];omega)⟩
 have ho:=ordQ_r x (unit n)
 rw[key.1,key.2]
 by_cases hv:vb n n=true
 ·rw[if_pos hv]
 ·rw[if_neg hv,mk_no (fun h=>hv (jbC.2 Jo))]
def rpreI (B:Nat→Int):Nat→List Int
 | 0=>[]
 | k+1=>rpreI B k++[B k]
theorem jdI (B:Nat→Int):∀ k,(rpreI B k).length=k
 | 0=>rfl
 | k+1=>by simp only[rpreI,jkd,jdI B k];rfl
theorem wce_len (Y:Nat→Tx):∀ k,(wce Y k).length=k*2
 | 0=>rfl
 | k+1=>by simp only[wce,jkd,wce_len Y k,jkn,List.length_nil];omega
theorem rchk_q {n:Nat}{q:Rat}(h:Fq n q)(h0:0<n∧n≤600):Cl 36 [frT q] (Ji 0):=by
 obtain⟨o,e⟩:=jaE (h.ok h0.1 h0.2)
 have c:=rcheck_c (decZ q.num) (dec q.den) (jaH o).1 (jaH o).2
 rw[if_pos o] at c
 exact c
theorem jhr (Y:Nat→Tx):∀ (n j:Nat),j<n→List.take 2 (List.drop (j*2) (wce Y n))=[.str (Y j).1,.str (Y j).2]
 | n+1,j,h=>by
  have hl:=wce_len Y n
  simp only[wce]
  rcases jjO j n with g|g
  ·rw[jkm Jo,jkl (by rw[jkt];omega)]
   exact jhr Y n j g
  ·obtain rfl:j=n:=Jo
   rw[← hl,List.drop_left]
   rfl
theorem jbk {e n:Nat}{f g:Nat→List D}(h:∀ j,j<n→g j=f j):_root_.Go.V.Fin (.slf e n f) (.slf e n g):=⟨fun hp v hv=>by
 simp only[Den] at hv ⊢
 obtain⟨a,cap,h1,h2,h3,h4⟩:=hv
 refine⟨a,cap,h1,h2,h3,?_⟩
 cases a with
 | none=>exact h4
 | some ad=>
  refine⟨h4.1,fun j hj=>?_⟩
  have:=h4.2 j hj
  rw[h j hj] at this
  exact this⟩
def rb18:Nat→D
 | 0 => .nil
 | k+1 => .bsl 134 0 (k+1) 2
def rbW (R:Nat→Rat)(O:List Int):Nat→Hp
 | 0=>[]
 | k+1=>[(134,.box (wce (fun i=>txq (bqN R O i-bqN R O (i+1))) (k+1)))]
def rb10:Nat→D
 | 0 => .nil
 | k+1 => .osl 102 0 (k+1)
def rb11:Nat→D
 | 0 => .nil
 | k+1 => .bsl 106 0 (k+1) 2
def rbH (B:Nat→Int)(R:Nat→Rat):Nat→Hp
 | 0=>[]
 | k+1=>[(102,.arr .i64 (rpreI B (k+1))),(106,.box (wce (fun i=>txq (R i)) (k+1)))]
theorem jiM:type_of% @jjF∧type_of% @jjC∧type_of% @tn0∧type_of% @tn1∧type_of% @tn2∧type_of% @tn3:=⟨@jjF,@jjC,@tn0,@tn1,@tn2,@tn3⟩
theorem jh9 {zs data:List Int}{out:Int}{n:Nat}(hn:1≤n∧n≤3)(hz:zs.length=n)(q:Nat→Rat)(hq:∀ i,i<n→Fq 40 (q i))(h29:∀ i,i<n→2≤zs.getD i 0∧zs.getD i 0≤9)(ck:Cl 35 [.agg [Jj zs,Ji out,Jj data]] (.bool true)) :
  Cl 12 [.agg [Jj zs,Ji out,Jj data],.slf 2 n (fun j=>[.str (txq (q j)).1,.str (txq (q j)).2])] (.tup [Jj (rpreI (fun i=>spB (zs.getD i 0) (q i)) n),Jj (rS (fun i=>spR (zs.getD i 0) (q i)) n),slQ (fun k=>txq (wqN (fun i=>spR (zs.getD i 0) (q i)) (rS (fun i=>spR (zs.getD i 0) (q i)) n) n k)) (n+1),Ji 0]):=by
 obtain⟨B,hB⟩:∃ B:Nat→Int,B=fun i=>spB (zs.getD i 0) (q i):=⟨_,rfl⟩
 obtain⟨R,hR⟩:∃ R:Nat→Rat,R=fun i=>spR (zs.getD i 0) (q i):=⟨_,rfl⟩
 rw[← hB,← hR]
 obtain⟨G,hG⟩:∃ G:Nat→Rat,G=fun i=>gp (zs.getD i 0) (q i):=⟨_,rfl⟩
 have fg:∀ i,i<n→Fq 41 (G i):=fun i hi=>by
  rw[hG]
  exact(fq_cl (hq i hi) Jo).mul (jav (n:=1) (by have:=h29 i hi;omega) Jo)
 have c1:∀ i,i<n→Cl 36 [Jt (txq (q i))] (Ji 0):=fun i hi=>rchk_q (hq i hi) Jd
 have c2:∀ i,i<n→Cl 38 [Jt (txq (q i))] (Jt (txq (clQ (q i)))):=fun i hi=>r9clamp_c ((hq i hi).ok Jo Jo)
 have c3:∀ z:Int, -9223372036854775807≤z∧z≤9223372036854775807→Cl 39 [Ji z,Ji 1] (Jt (txq (z:Rat))):=fun z hz=>jbz hz
 have c4:∀ i,i<n→Cl 37 [Jt (txq (clQ (q i))),Jt (txq ((zs.getD i 0-1:Int):Rat))] (.tup [Jt (txq (G i)),Ji 0]):=fun i hi=>by
  rw[hG]
  exact zrmul (fq_cl (hq i hi) Jo) (jav (n:=1) (by have:=h29 i hi;omega) Jo) Jo Jo Jo
 have c5:∀ i,i<n → ∀ b:Int,0≤b∧b≤9→Cl 40 [Jt (txq (G i)),Jt (txq (b:Rat))] (.bool (decide (G i<(b:Rat)))):=fun i hi b hb=>jhs (fg i hi) (jav (n:=1) Jo Jo) Jd Jd
 have bb:∀ i,i<n→0≤B i∧B i≤7:=fun i hi=>by
  have h:=h29 i hi
  have g:=gp_bd h.1 (q i)
  rw[hB]
  dsimp only
  unfold spB
  have f0:(0:Int)≤(gp (zs.getD i 0) (q i)).floor:=Rat.le_floor_iff.2 g.1
  omega
 have st:∀ i,i<n → ∀ b:Int,(b<zs.getD i 0-2 ∧ ¬ G i<((b+1:Int):Rat))↔b+1≤B i:=fun i hi b=>by
  rw[hB,hG]
  exact spB_step (q i)
 have fr:∀ i,i<n→Fq 43 (R i):=fun i hi=>by
  rw[hR]
  exact ja0 (hq i hi) Jd (h29 i hi)
 have c6:∀ i,i<n→Cl 41 [Jt (txq (G i)),Jt (txq (B i:Rat))] (.tup [Jt (txq (R i)),Ji 0]):=fun i hi=>by
  have c:=zrsub (fg i hi) (jav (n:=1) (z:=B i) (by have:=bb i hi;omega) Jo) Jo Jo Jo
  rw[show G i-(B i:Rat)=R i by rw[hG,hB,hR];rfl] at c
  exact c
 clear hB hR hG
 refine V.en tbOk Tryz.func12 ?_
 refine V.r1 @jjC ck ?_
 refine Cnd.no (decide_eq_false (show ¬ ((n:Int)≠(zs.length:Int)) by omega)) ?_
 refine V.r0 @jjC ?_
 refine jad (0:Nat) (fun k=>k≤n) (fun k=>n-k) (fun k=>[(8,Ji (k:Nat))]) (fun _=>[]) ?_ ?_ ?_
 ·exact V.wk
 ·exact jjx _
 intro k hk
 try dsimp only at hk ⊢
 have hkc:((k:Int)+1)=((k+1:Nat):Int):=Jo
 by_cases hkn:k<n
 ·have hlt:decide ((k:Int)<n)=true:=decide_eq_true Jo
  have d1:=c1 k hkn
  refine V.r1 (V.a3 hlt hkc @jjF) d1 ?_
  exact⟨k+1,Jo,Jo,V.wk⟩
 have hlt:decide ((k:Int)<n)=false:=decide_eq_false Jo
 refine V.r0 (V.a2 hlt @jjF) ?_
 refine jbn (β:=Unit) 2 (fun _=>True) (fun _=>[(12,.any),(10,.osl 102 0 n),(11,.slf 2 n (fun j=>List.take 2 (List.drop (j*2) (wce (fun i=>txq (R i)) n))))]) (fun _=>[(102,.arr .i64 (rpreI B n)),(106,.gone)]) ?_ ?_
 rotate_left
 ·intro _ _
  try dsimp only
  have wat:∀ o,o<n→List.take 2 (List.drop (o*2) (wce (fun i=>txq (R i)) n))=[.str (txq (R o)).1,.str (txq (R o)).2]:=fun o ho=>jhr _ n o ho
  have sd0:=sorted_t (n:=n) Jo (fun i=>txq (R i)) R (fun i j hi hj=>jhs (fr i hi) (fr j hj) Jd Jd)
  have sdc:Cl 42 [.slf 2 n (fun j=>List.take 2 (List.drop (j*2) (wce (fun i=>txq (R i)) n)))] (Jj (rS R n)):=Called.arg (show FinL [.slf 2 n (fun j=>[.str (txq (R j)).1,.str (txq (R j)).2])] [.slf 2 n (fun j=>List.take 2 (List.drop (j*2) (wce (fun i=>txq (R i)) n)))] from ⟨jbk (fun j hj=>wat j hj),trivial⟩) sd0
  have hO:=rS_len R n
  have hOg:∀ k,k<n→0≤(rS R n).getD k 0∧(rS R n).getD k 0<n:=fun k hk=>rS_get R hk
  obtain⟨O,eO⟩:∃ O,rS R n=O:=⟨_,rfl⟩
  rw[eO] at sdc hO hOg ⊢
  have one:=c3 1 Jo
  rw[show ((1:Int):Rat)=1 from rfl] at one
  have cw:∀ k,k<n→Cl 41 [Jt (txq (bqN R O k)),Jt (txq (R (O.getD k 0).toNat))] (.tup [Jt (txq (bqN R O k-bqN R O (k+1))),Ji 0]):=fun k hk=>by
   have fb:Fq 43 (bqN R O k):=by
    rcases k with _|k
    ·exact fq_one
    ·exact fr _ (by have:=hOg k Jo;omega)
   exact zrsub fb (fr (O.getD k 0).toNat (by have:=hOg k hk;omega)) Jo Jo Jo
  refine V.r2 jiM sdc one ?_
  refine jad (0:Nat) (fun k=>k≤n) (fun k=>n-k) (fun k=>[(20,Ji (k:Nat)),(18,rb18 k)]) (fun k=>(19,.box [.str (txq (bqN R O k)).1,.str (txq (bqN R O k)).2])::rbW R O k) ?_ ?_ ?_
  ·exact V.wk
  ·exact jjx _
  intro k hk
  try dsimp only at hk ⊢
  have hk4:k=0∨k=1∨k=2∨k=3:=Jo
  rcases hk4 with e|e|e|e
  all_goals subst e
  ·simp only[k0,rb18,rbW]
   by_cases hkn:0<n
   ·have hlt:decide ((0:Int)<(O.length:Nat))=true:=decide_eq_true Jo
    have hob:=hOg 0 hkn
    have c:=cw 0 hkn
    have e2:=wat (O.getD 0 0).toNat Jo
    refine V.r0 (V.a2 jiM hlt) ?_
    refine⟨Pq28z,[],V.pok,?_⟩
    refine jab [(21,.box 21 0),(22,Ji 0)] [(21,.box [.str (txq (bqN R O 0-bqN R O 1)).1,.str (txq (bqN R O 0-bqN R O 1)).2])] ?_ ?_
    ·(conv=>whnf);(try simp only[jiM,e2])
     repeat' (first|exact V.wk|((with_reducible refine And.intro ?_ jaz);(conv=>whnf);(try simp only[jiM,e2]))|((with_reducible first|refine jas ?_ ?_|refine jau ?_ ?_)<;>(conv=>whnf);(try simp only[jiM,e2]))|((first|refine V.s1 ?_|((with_reducible refine jal ?_ ?_);(focus ((conv=>whnf);(try simp only[jiM,e2]);(repeat ((first|refine V.s1 ?_|((refine And.intro (fun _=>hob) ?_);(conv=>whnf)));(try simp only[jiM,e2])));exact⟨rfl⟩));(conv=>whnf))|((try ((with_reducible refine .ext ?_);(conv=>whnf);(try simp only[jiM,e2])));(with_reducible refine jaa (r:=?_) ?_ ?_);rotate_left;(focus (first|exact(c)));(conv=>whnf))|((refine And.intro (fun _=>hob) ?_);(conv=>whnf)));(try simp only[jiM,e2]))|(refine And.intro ?_ ?_<;>(conv=>whnf);(try simp only[jiM,e2])))
    (conv=>whnf)
    (try simp only[jiM,e2])
    repeat ((first|refine V.s1 ?_|((try ((with_reducible refine .ext ?_);(conv=>whnf);(try simp only[jiM,e2])));(with_reducible refine jaa (r:=?_) ?_ ?_);rotate_left;(focus (first|fail));(conv=>whnf))|((refine And.intro (fun _=>hob) ?_);(conv=>whnf)));(try simp only[jiM,e2]))
    exact⟨1,Jo,Jo,V.wk⟩
   ·have hlf:decide ((0:Int)<(O.length:Nat))=false:=decide_eq_false Jo
    omega
  ·simp only[k1,rb18,rbW]
   by_cases hkn:1<n
   ·have hlt:decide ((1:Int)<(O.length:Nat))=true:=decide_eq_true Jo
    have hob:=hOg 1 hkn
    have c:=cw 1 hkn
    have e2:=wat (O.getD 1 0).toNat Jo
    refine V.r0 (V.a2 jiM hlt) ?_
    refine⟨Pq28z,[],V.pok,?_⟩
    refine jab [(21,.box 21 0),(22,Ji 0)] [(21,.box [.str (txq (bqN R O 1-bqN R O 2)).1,.str (txq (bqN R O 1-bqN R O 2)).2])] ?_ ?_
    ·(conv=>whnf);(try simp only[jiM,e2])
     repeat' (first|exact V.wk|((with_reducible refine And.intro ?_ jaz);(conv=>whnf);(try simp only[jiM,e2]))|((with_reducible first|refine jas ?_ ?_|refine jau ?_ ?_)<;>(conv=>whnf);(try simp only[jiM,e2]))|((first|refine V.s1 ?_|((with_reducible refine jal ?_ ?_);(focus ((conv=>whnf);(try simp only[jiM,e2]);(repeat ((first|refine V.s1 ?_|((refine And.intro (fun _=>hob) ?_);(conv=>whnf)));(try simp only[jiM,e2])));exact⟨rfl⟩));(conv=>whnf))|((try ((with_reducible refine .ext ?_);(conv=>whnf);(try simp only[jiM,e2])));(with_reducible refine jaa (r:=?_) ?_ ?_);rotate_left;(focus (first|exact(c)));(conv=>whnf))|((refine And.intro (fun _=>hob) ?_);(conv=>whnf)));(try simp only[jiM,e2]))|(refine And.intro ?_ ?_<;>(conv=>whnf);(try simp only[jiM,e2])))
    (conv=>whnf)
    (try simp only[jiM,e2])
    repeat ((first|refine V.s1 ?_|((try ((with_reducible refine .ext ?_);(conv=>whnf);(try simp only[jiM,e2])));(with_reducible refine jaa (r:=?_) ?_ ?_);rotate_left;(focus (first|fail));(conv=>whnf))|((refine And.intro (fun _=>hob) ?_);(conv=>whnf)));(try simp only[jiM,e2]))
    exact⟨2,Jo,Jo,V.wk⟩
   ·have hlf:decide ((1:Int)<(O.length:Nat))=false:=decide_eq_false Jo
    obtain rfl:n=1:=Jo
    refine V.r0 jiM ?_
    refine Cnd.no hlf ?_
    refine V.r0 jiM ?_
    exact Fin.of rfl
  ·simp only[k2,rb18,rbW]
   by_cases hkn:2<n
   ·have hlt:decide ((2:Int)<(O.length:Nat))=true:=decide_eq_true Jo
    have hob:=hOg 2 hkn
    have c:=cw 2 hkn
    have e2:=wat (O.getD 2 0).toNat Jo
    refine V.r0 (V.a2 jiM hlt) ?_
    refine⟨Pq28z,[],V.pok,?_⟩
    refine jab [(21,.box 21 0),(22,Ji 0)] [(21,.box [.str (txq (bqN R O 2-bqN R O 3)).1,.str (txq (bqN R O 2-bqN R O 3)).2])] ?_ ?_
    ·(conv=>whnf);(try simp only[jiM,e2])
     repeat' (first|exact V.wk|((with_reducible refine And.intro ?_ jaz);(conv=>whnf);(try simp only[jiM,e2]))|((with_reducible first|refine jas ?_ ?_|refine jau ?_ ?_)<;>(conv=>whnf);(try simp only[jiM,e2]))|((first|refine V.s1 ?_|((with_reducible refine jal ?_ ?_);(focus ((conv=>whnf);(try simp only[jiM,e2]);(repeat ((first|refine V.s1 ?_|((refine And.intro (fun _=>hob) ?_);(conv=>whnf)));(try simp only[jiM,e2])));exact⟨rfl⟩));(conv=>whnf))|((try ((with_reducible refine .ext ?_);(conv=>whnf);(try simp only[jiM,e2])));(with_reducible refine jaa (r:=?_) ?_ ?_);rotate_left;(focus (first|exact(c)));(conv=>whnf))|((refine And.intro (fun _=>hob) ?_);(conv=>whnf)));(try simp only[jiM,e2]))|(refine And.intro ?_ ?_<;>(conv=>whnf);(try simp only[jiM,e2])))
    (conv=>whnf)
    (try simp only[jiM,e2])
    repeat ((first|refine V.s1 ?_|((try ((with_reducible refine .ext ?_);(conv=>whnf);(try simp only[jiM,e2])));(with_reducible refine jaa (r:=?_) ?_ ?_);rotate_left;(focus (first|fail));(conv=>whnf))|((refine And.intro (fun _=>hob) ?_);(conv=>whnf)));(try simp only[jiM,e2]))
    exact⟨3,Jo,Jo,V.wk⟩
   ·have hlf:decide ((2:Int)<(O.length:Nat))=false:=decide_eq_false Jo
    obtain rfl:n=2:=Jo
    refine V.r0 jiM ?_
    refine Cnd.no hlf ?_
    refine V.r0 jiM ?_
    exact Fin.of rfl
  ·simp only[k3,rb18,rbW]
   obtain rfl:n=3:=Jo
   have hlf:decide ((3:Int)<(O.length:Nat))=false:=decide_eq_false Jo
   refine V.r0 jiM ?_
   refine Cnd.no hlf ?_
   refine V.r0 jiM ?_
   exact Fin.of rfl
 refine jad (0:Nat) (fun k=>k≤n) (fun k=>n-k) (fun k=>[(12,Ji (k:Nat)),(10,rb10 k),(11,rb11 k)]) (fun k=>rbH B R k) ?_ ?_ ?_
 ·exact V.wk
 ·exact jjx _
 intro k hk
 try dsimp only at hk ⊢
 have hk4:k=0∨k=1∨k=2∨k=3:=Jo
 rcases hk4 with e|e|e|e
 all_goals subst e
 ·simp only[k0,rb10,rb11,rbH]
  by_cases hkn:0<n
  ·have hlt:decide ((0:Int)<n)=true:=decide_eq_true Jo
   obtain⟨z,hzz⟩:∃ z,zs.getD 0 0=z:=⟨_,rfl⟩
   have z0:=h29 0 hkn
   have d2:=c2 0 hkn
   have d4:=c4 0 hkn
   have d6:=c6 0 hkn
   have b0:=bb 0 hkn
   have s0:=st 0 hkn
   have c5i:=c5 0 hkn
   simp only[hzz] at z0 d4 s0
   have d3:=c3 (z-1) Jo
   have d7:=c3 (B 0) Jo
   refine V.r0 (V.a3 jiM hlt hzz) ?_
   refine⟨Pq47z,[],V.pok,?_⟩
   refine jab [(13,.box 13 0),(14,Ji 0)] [(13,.box [.str (txq (G 0)).1,.str (txq (G 0)).2])] ?_ ?_
   ·exact V.d3 (V.a2 jiM hzz) d2 d3 d4
   refine V.r0 jiM ?_
   refine jbn (β:=Unit) 4 (fun _=>True) (fun _=>[(15,Ji (B 0))]) (fun _=>[]) ?_ ?_
   ·refine jad (0:Nat) (fun b=>(b:Int)≤B 0) (fun b=>(B 0).toNat-b) (fun b=>[(15,Ji (b:Nat))]) (fun _=>[]) ?_ ?_ ?_
    ·exact V.wk
    ·exact b0.1
    intro b hb
    try dsimp only at hb ⊢
    have s1:=s0 b
    by_cases hbz:(b:Int)<z-2
    ·have hlt2:decide ((b:Int)<z-2)=true:=decide_eq_true hbz
     have e3:=c3 ((b:Int)+1) Jo
     have e5:=c5i ((b:Int)+1) Jo
     refine V.r0 (V.a3 jiM hlt2 hzz) ?_
     refine⟨Pq15z,[],V.pok,.go (jac ?_)⟩
     (conv=>whnf)
     (try simp only[jiM,hlt2,hzz])
     repeat ((first|refine V.s1 ?_|((try ((with_reducible refine .ext ?_);(conv=>whnf);(try simp only[jiM,hlt2,hzz])));(with_reducible refine jaa (r:=?_) ?_ ?_);rotate_left;(focus (first|fail));(conv=>whnf))|((refine⟨_,fun _=>e3,?_⟩);(conv=>whnf))|((refine⟨_,fun _=>e5,?_⟩);(conv=>whnf)));(try simp only[jiM,hlt2,hzz]))
     refine V.br (fun hq=>?_) (fun hq=>?_)
     ·have hq2:¬ G 0<(((b:Int)+1:Int):Rat):=by simpa using hq
      refine V.r0 jiM ?_
      exact⟨b+1,by have:=s1.1 ⟨hbz,hq2⟩;omega,by have:=s1.1 ⟨hbz,hq2⟩;omega,V.wk⟩
     ·have hq2:G 0<(((b:Int)+1:Int):Rat):=by simpa using hq
      have hB:B 0=b:=by
       have h:¬ ((b:Int)+1≤B 0):=fun h=>(s1.2 h).2 hq2
       omega
      refine V.r0 jiM ?_
      refine⟨(),trivial,?_⟩
      try dsimp only
      rw[hB]
      exact V.wk
    ·have hlt2:decide ((b:Int)<z-2)=false:=decide_eq_false hbz
     have hB:B 0=b:=by
      have h:¬ ((b:Int)+1≤B 0):=fun h=>hbz (s1.2 h).1
      omega
     refine V.r0 (V.a3 jiM hlt2 hzz) ?_
     refine⟨Pq15z,[],V.pok,.go (jac ?_)⟩
     (conv=>whnf)
     (try simp only[jiM,hlt2,hzz])
     repeat ((first|refine V.s1 ?_|((try ((with_reducible refine .ext ?_);(conv=>whnf);(try simp only[jiM,hlt2,hzz])));(with_reducible refine jaa (r:=?_) ?_ ?_);rotate_left;(focus (first|fail));(conv=>whnf))|((refine⟨.bool false,(fun h=>by cases h),?_⟩);(conv=>whnf))|((refine And.intro (fun h=>by cases h) ?_);(conv=>whnf)));(try simp only[jiM,hlt2,hzz]))
     refine⟨(),trivial,?_⟩
     try dsimp only
     rw[hB]
     exact V.wk
   intro _ _
   try dsimp only
   refine V.r0 jiM ?_
   refine⟨Pq71z,[],V.pok,?_⟩
   refine jab [(16,.box 16 0),(14,Ji 0)] [(16,.box [.str (txq (R 0)).1,.str (txq (R 0)).2])] ?_ ?_
   ·exact V.d2 jiM d7 d6
   have hpl:=jdI B 0
   (conv=>whnf)
   (try simp only[jiM])
   repeat ((first|refine V.s1 ?_|((try ((with_reducible refine .ext ?_);(conv=>whnf);(try simp only[jiM])));(with_reducible refine jaa (r:=?_) ?_ ?_);rotate_left;(focus (first|fail));(conv=>whnf))|((refine And.intro (fun _=>⟨hpl,jjw rfl⟩) ?_);(conv=>whnf)));(try simp only[jiM]))
   exact⟨1,Jo,Jo,V.wk⟩
  ·have hlt:decide ((0:Int)<n)=false:=decide_eq_false Jo
   omega
 ·simp only[k1,rb10,rb11,rbH]
  by_cases hkn:1<n
  ·have hlt:decide ((1:Int)<n)=true:=decide_eq_true Jo
   obtain⟨z,hzz⟩:∃ z,zs.getD 1 0=z:=⟨_,rfl⟩
   have z0:=h29 1 hkn
   have d2:=c2 1 hkn
   have d4:=c4 1 hkn
   have d6:=c6 1 hkn
   have b0:=bb 1 hkn
   have s0:=st 1 hkn
   have c5i:=c5 1 hkn
   simp only[hzz] at z0 d4 s0
   have d3:=c3 (z-1) Jo
   have d7:=c3 (B 1) Jo
   refine V.r0 (V.a3 jiM hlt hzz) ?_
   refine⟨Pq47z,[],V.pok,?_⟩
   refine jab [(13,.box 13 0),(14,Ji 0)] [(13,.box [.str (txq (G 1)).1,.str (txq (G 1)).2])] ?_ ?_
   ·exact V.d3 (V.a2 jiM hzz) d2 d3 d4
   refine V.r0 jiM ?_
   refine jbn (β:=Unit) 4 (fun _=>True) (fun _=>[(15,Ji (B 1))]) (fun _=>[]) ?_ ?_
   ·refine jad (0:Nat) (fun b=>(b:Int)≤B 1) (fun b=>(B 1).toNat-b) (fun b=>[(15,Ji (b:Nat))]) (fun _=>[]) ?_ ?_ ?_
    ·exact V.wk
    ·exact b0.1
    intro b hb
    try dsimp only at hb ⊢
    have s1:=s0 b
    by_cases hbz:(b:Int)<z-2
    ·have hlt2:decide ((b:Int)<z-2)=true:=decide_eq_true hbz
     have e3:=c3 ((b:Int)+1) Jo
     have e5:=c5i ((b:Int)+1) Jo
     refine V.r0 (V.a3 jiM hlt2 hzz) ?_
     refine⟨Pq15z,[],V.pok,.go (jac ?_)⟩
     (conv=>whnf)
     (try simp only[jiM,hlt2,hzz])
     repeat ((first|refine V.s1 ?_|((try ((with_reducible refine .ext ?_);(conv=>whnf);(try simp only[jiM,hlt2,hzz])));(with_reducible refine jaa (r:=?_) ?_ ?_);rotate_left;(focus (first|fail));(conv=>whnf))|((refine⟨_,fun _=>e3,?_⟩);(conv=>whnf))|((refine⟨_,fun _=>e5,?_⟩);(conv=>whnf)));(try simp only[jiM,hlt2,hzz]))
     refine V.br (fun hq=>?_) (fun hq=>?_)
     ·have hq2:¬ G 1<(((b:Int)+1:Int):Rat):=by simpa using hq
      refine V.r0 jiM ?_
      exact⟨b+1,by have:=s1.1 ⟨hbz,hq2⟩;omega,by have:=s1.1 ⟨hbz,hq2⟩;omega,V.wk⟩
     ·have hq2:G 1<(((b:Int)+1:Int):Rat):=by simpa using hq
      have hB:B 1=b:=by
       have h:¬ ((b:Int)+1≤B 1):=fun h=>(s1.2 h).2 hq2
       omega
      refine V.r0 jiM ?_
      refine⟨(),trivial,?_⟩
      try dsimp only
      rw[hB]
      exact V.wk
    ·have hlt2:decide ((b:Int)<z-2)=false:=decide_eq_false hbz
     have hB:B 1=b:=by
      have h:¬ ((b:Int)+1≤B 1):=fun h=>hbz (s1.2 h).1
      omega
     refine V.r0 (V.a3 jiM hlt2 hzz) ?_
     refine⟨Pq15z,[],V.pok,.go (jac ?_)⟩
     (conv=>whnf)
     (try simp only[jiM,hlt2,hzz])
     repeat ((first|refine V.s1 ?_|((try ((with_reducible refine .ext ?_);(conv=>whnf);(try simp only[jiM,hlt2,hzz])));(with_reducible refine jaa (r:=?_) ?_ ?_);rotate_left;(focus (first|fail));(conv=>whnf))|((refine⟨.bool false,(fun h=>by cases h),?_⟩);(conv=>whnf))|((refine And.intro (fun h=>by cases h) ?_);(conv=>whnf)));(try simp only[jiM,hlt2,hzz]))
     refine⟨(),trivial,?_⟩
     try dsimp only
     rw[hB]
     exact V.wk
   intro _ _
   try dsimp only
   refine V.r0 jiM ?_
   refine⟨Pq71z,[],V.pok,?_⟩
   refine jab [(16,.box 16 0),(14,Ji 0)] [(16,.box [.str (txq (R 1)).1,.str (txq (R 1)).2])] ?_ ?_
   ·exact V.d2 jiM d7 d6
   have hpl:=jdI B 1
   (conv=>whnf)
   (try simp only[jiM])
   repeat ((first|refine V.s1 ?_|((try ((with_reducible refine .ext ?_);(conv=>whnf);(try simp only[jiM])));(with_reducible refine jaa (r:=?_) ?_ ?_);rotate_left;(focus (first|fail));(conv=>whnf))|((refine And.intro (fun _=>⟨hpl,jjw rfl⟩) ?_);(conv=>whnf)));(try simp only[jiM]))
   exact⟨2,Jo,Jo,V.wk⟩
  ·have hlt:decide ((1:Int)<n)=false:=decide_eq_false Jo
   obtain rfl:n=1:=Jo
   refine V.r0 (V.a2 jiM hlt) ?_
   refine⟨(),trivial,?_⟩
   try dsimp only
   refine Wk.pub 106 ?_
   (conv=>whnf)
   simp only[jjC]
   exact V.wk
 ·simp only[k2,rb10,rb11,rbH]
  by_cases hkn:2<n
  ·have hlt:decide ((2:Int)<n)=true:=decide_eq_true Jo
   obtain⟨z,hzz⟩:∃ z,zs.getD 2 0=z:=⟨_,rfl⟩
   have z0:=h29 2 hkn
   have d2:=c2 2 hkn
   have d4:=c4 2 hkn
   have d6:=c6 2 hkn
   have b0:=bb 2 hkn
   have s0:=st 2 hkn
   have c5i:=c5 2 hkn
   simp only[hzz] at z0 d4 s0
   have d3:=c3 (z-1) Jo
   have d7:=c3 (B 2) Jo
   refine V.r0 (V.a3 jiM hlt hzz) ?_
   refine⟨Pq47z,[],V.pok,?_⟩
   refine jab [(13,.box 13 0),(14,Ji 0)] [(13,.box [.str (txq (G 2)).1,.str (txq (G 2)).2])] ?_ ?_
   ·exact V.d3 (V.a2 jiM hzz) d2 d3 d4
   refine V.r0 jiM ?_
   refine jbn (β:=Unit) 4 (fun _=>True) (fun _=>[(15,Ji (B 2))]) (fun _=>[]) ?_ ?_
   ·refine jad (0:Nat) (fun b=>(b:Int)≤B 2) (fun b=>(B 2).toNat-b) (fun b=>[(15,Ji (b:Nat))]) (fun _=>[]) ?_ ?_ ?_
    ·exact V.wk
    ·exact b0.1
    intro b hb
    try dsimp only at hb ⊢
    have s1:=s0 b
    by_cases hbz:(b:Int)<z-2
    ·have hlt2:decide ((b:Int)<z-2)=true:=decide_eq_true hbz
     have e3:=c3 ((b:Int)+1) Jo
     have e5:=c5i ((b:Int)+1) Jo
     refine V.r0 (V.a3 jiM hlt2 hzz) ?_
     refine⟨Pq15z,[],V.pok,.go (jac ?_)⟩
     (conv=>whnf)
     (try simp only[jiM,hlt2,hzz])
     repeat ((first|refine V.s1 ?_|((try ((with_reducible refine .ext ?_);(conv=>whnf);(try simp only[jiM,hlt2,hzz])));(with_reducible refine jaa (r:=?_) ?_ ?_);rotate_left;(focus (first|fail));(conv=>whnf))|((refine⟨_,fun _=>e3,?_⟩);(conv=>whnf))|((refine⟨_,fun _=>e5,?_⟩);(conv=>whnf)));(try simp only[jiM,hlt2,hzz]))
     refine V.br (fun hq=>?_) (fun hq=>?_)
     ·have hq2:¬ G 2<(((b:Int)+1:Int):Rat):=by simpa using hq
      refine V.r0 jiM ?_
      exact⟨b+1,by have:=s1.1 ⟨hbz,hq2⟩;omega,by have:=s1.1 ⟨hbz,hq2⟩;omega,V.wk⟩
     ·have hq2:G 2<(((b:Int)+1:Int):Rat):=by simpa using hq
      have hB:B 2=b:=by
       have h:¬ ((b:Int)+1≤B 2):=fun h=>(s1.2 h).2 hq2
       omega
      refine V.r0 jiM ?_
      refine⟨(),trivial,?_⟩
      try dsimp only
      rw[hB]
      exact V.wk
    ·have hlt2:decide ((b:Int)<z-2)=false:=decide_eq_false hbz
     have hB:B 2=b:=by
      have h:¬ ((b:Int)+1≤B 2):=fun h=>hbz (s1.2 h).1
      omega
     refine V.r0 (V.a3 jiM hlt2 hzz) ?_
     refine⟨Pq15z,[],V.pok,.go (jac ?_)⟩
     (conv=>whnf)
     (try simp only[jiM,hlt2,hzz])
     repeat ((first|refine V.s1 ?_|((try ((with_reducible refine .ext ?_);(conv=>whnf);(try simp only[jiM,hlt2,hzz])));(with_reducible refine jaa (r:=?_) ?_ ?_);rotate_left;(focus (first|fail));(conv=>whnf))|((refine⟨.bool false,(fun h=>by cases h),?_⟩);(conv=>whnf))|((refine And.intro (fun h=>by cases h) ?_);(conv=>whnf)));(try simp only[jiM,hlt2,hzz]))
     refine⟨(),trivial,?_⟩
     try dsimp only
     rw[hB]
     exact V.wk
   intro _ _
   try dsimp only
   refine V.r0 jiM ?_
   refine⟨Pq71z,[],V.pok,?_⟩
   refine jab [(16,.box 16 0),(14,Ji 0)] [(16,.box [.str (txq (R 2)).1,.str (txq (R 2)).2])] ?_ ?_
   ·exact V.d2 jiM d7 d6
   have hpl:=jdI B 2
   (conv=>whnf)
   (try simp only[jiM])
   repeat ((first|refine V.s1 ?_|((try ((with_reducible refine .ext ?_);(conv=>whnf);(try simp only[jiM])));(with_reducible refine jaa (r:=?_) ?_ ?_);rotate_left;(focus (first|fail));(conv=>whnf))|((refine And.intro (fun _=>⟨hpl,jjw rfl⟩) ?_);(conv=>whnf)));(try simp only[jiM]))
   exact⟨3,Jo,Jo,V.wk⟩
  ·have hlt:decide ((2:Int)<n)=false:=decide_eq_false Jo
   obtain rfl:n=2:=Jo
   refine V.r0 (V.a2 jiM hlt) ?_
   refine⟨(),trivial,?_⟩
   try dsimp only
   refine Wk.pub 106 ?_
   (conv=>whnf)
   simp only[jjC]
   exact V.wk
 ·simp only[k3,rb10,rb11,rbH]
  have hlt:decide ((3:Int)<n)=false:=decide_eq_false Jo
  obtain rfl:n=3:=Jo
  refine V.r0 (V.a2 jiM hlt) ?_
  refine⟨(),trivial,?_⟩
  try dsimp only
  refine Wk.pub 106 ?_
  (conv=>whnf)
  simp only[jjC]
  exact V.wk
def rcv:Nat→D
 | 0 => .nil
 | k+1 => .bsl 52 0 (k+1) 1
def rb15:Nat→D
 | 0 => .nil
 | k+1 => .bsl 119 0 (k+1) 2
def rbY (Y:Nat→Tx):Nat→Hp
 | 0=>[]
 | k+1=>[(119,.box (wce Y (k+1)))]
def rch (U:Nat→List Int):Nat→Hp
 | 0=>[]
 | k+1=>[(52,.box (pce U (k+1)))]
theorem ji5:type_of% @jjF∧type_of% @jjD∧type_of% @jjC∧type_of% @tn0∧type_of% @tn1∧type_of% @tn2∧type_of% @tn3∧type_of% @xt4:=⟨@jjF,@jjD,@jjC,@tn0,@tn1,@tn2,@tn3,@xt4⟩
theorem jjo:type_of% @jjF∧type_of% @jku ∧ type_of% @jjD∧type_of% @jjC∧type_of% @tn0∧type_of% @tn1∧type_of% @tn2∧type_of% @tn3∧type_of% @xt4:=⟨@jjF,@jku,@jjD,@jjC,@tn0,@tn1,@tn2,@tn3,@xt4⟩
theorem ji9:type_of% @jjF∧type_of% @jjD∧type_of% @jjC∧type_of% @k0∧type_of% @k1∧type_of% @k2∧type_of% @k3∧type_of% @tn0∧type_of% @tn1∧type_of% @tn2∧type_of% @tn3∧type_of% @xt4:=⟨@jjF,@jjD,@jjC,@k0,@k1,@k2,@k3,@tn0,@tn1,@tn2,@tn3,@xt4⟩
theorem reval1_t (zs data O:List Int)(out:Int)(X:Nat→List D)(A U:Nat→List Int)(p:Nat→Int)(W Y:Nat→Tx)(I P S:Nat→Nat→Tx)(ho:1≤out∧out≤4)(hl:O.length=1)(hd:data.length≤4096)
  (hA:∀ k,k<1→(0≤O.getD k 0∧O.getD k 0<1)∧(-1000≤(A k).getD (O.getD k 0).toNat 0∧(A k).getD (O.getD k 0).toNat 0≤1000)∧A (k+1)=(A k).set (O.getD k 0).toNat ((A k).getD (O.getD k 0).toNat 0+1)) (hAl:∀ k,k≤1→(A k).length=1)
  (hp:∀ k,k≤1→(0≤p k∧p k+out≤data.length)∧(data.take (p k+out).toNat).drop (p k).toNat=U k) (hU:∀ k,k≤1→(U k).length=out.toNat)
  (cell:Cl 12 [.agg [Jj zs,Ji out,Jj data],.slf 2 1 X] (.tup [Jj (A 0),Jj O,slQ W 2,Ji 0]))
  (place:∀ k,k≤1→Cl 91 [.agg [Jj zs,Ji out,Jj data],Jj (A k)] (.tup [Ji (p k),Ji 0]))
  (zero:Cl 39 [Ji 0,Ji 1] (Jt (S 0 0))) (s0:∀ j,S j 0=S 0 0) (full:Tx) (cfull:Cl 39 [Ji 65535,Ji 1] (Jt (full)))
  (ci:∀ j k,j<out.toNat→k≤1→Cl 39 [Ji ((U k).getD j 0),Ji 1] (Jt (I j k)))
  (cm:∀ j k,j<out.toNat→k≤1→Cl 37 [Jt (W k),Jt (I j k)] (.tup [Jt (P j k),Ji 0]))
  (ca:∀ j k,j<out.toNat→k≤1→Cl 45 [Jt (S j k),Jt (P j k)] (.tup [Jt (S j (k+1)),Ji 0]))
  (cd:∀ j,j<out.toNat→Cl 46 [Jt (S j 2),Jt (full)] (.tup [Jt (Y j),Ji 0])) :
  Cl 14 [.agg [Jj zs,Ji out,Jj data],.slf 2 1 X] (.tup [slQ Y out.toNat,Ji 0]):=by
 have B0:(A 0).length=1:=hAl 0 Jo
 refine V.en tbOk Tryz.func14 ?_
 (conv=>whnf)
 (conv=>whnf)
 (try simp only[B0,jku,jkk,jjC,jjD,tn0,tn1,tn2,tn3,xt4,jjF])
 repeat ((first|refine V.s1 ?_|((try ((with_reducible refine .ext ?_);(conv=>whnf);(try simp only[B0,jku,jkk,jjC,jjD,tn0,tn1,tn2,tn3,xt4,jjF])));(with_reducible refine jaa (r:=?_) ?_ ?_);rotate_left;(focus (first|exact(cell)));(conv=>whnf)));(try simp only[B0,jku,jkk,jjC,jjD,tn0,tn1,tn2,tn3,xt4,jjF]))
 refine jad (0:Nat) (fun k=>k≤2) (fun k=>2-k) (fun k=>[(12,Ji (k:Nat)),(10,rcv k)]) (fun k=>(36,.arr .i64 (A (min k 1)))::rch U k) ?_ ?_ ?_
 ·exact V.wk
 ·exact jjx _
 intro k hk
 try dsimp only at hk ⊢
 have hk4:k=0∨k=1∨k=2:=Jo
 rcases hk4 with e|e|e
 all_goals subst e
 ·simp only[k0,rcv,rch,show min 0 1=0 from rfl]
  have hAk:List.take 1 (A 0)=A 0:=jko (by rw[hAl 0 Jo];exact jjG _)
  have pl:=place 0 Jo
  obtain⟨⟨pb,pd⟩,pU⟩:=hp 0 Jo
  have hUl:=hU 0 Jo
  have hle:decide ((0:Int)≤(O.length:Nat))=true:=decide_eq_true Jo
  refine V.r0 (V.a2 ji5 hle) ?_
  refine V.il Tryz.func44 ?_
  refine V.r0 (V.a2 jjo hAk) ?_
  have pl2:=pl
  rw[← hAk] at pl2
  refine .len ?_
  (conv=>whnf)
  refine⟨36,?_⟩
  (conv=>whnf)
  refine jaa (r:=?_) ?_ ?_
  rotate_left
  ·exact pl2
  refine V.r0 (V.a2 ji5 pU) ?_
  have hlt:decide ((0:Int)<(O.length:Nat))=true:=decide_eq_true Jo
  obtain⟨ob,vb,eA⟩:=hA 0 Jo
  have hAli:=hAl 0 Jo
  refine Cnd.yes hlt ?_
  refine V.r0 jjo ?_
  refine⟨1,Jo,Jo,?_⟩
  refine Wk.pub 148 ?_
  (conv=>whnf)
  simp only[jkk,jkz,← eA]
  exact V.wk
 ·simp only[k1,rcv,rch,show min 1 1=1 from rfl]
  have hAk:List.take 1 (A 1)=A 1:=jko (by rw[hAl 1 Jo];exact jjG _)
  have pl:=place 1 Jo
  obtain⟨⟨pb,pd⟩,pU⟩:=hp 1 Jo
  have hUl:=hU 1 Jo
  have hle:decide ((1:Int)≤(O.length:Nat))=true:=decide_eq_true Jo
  refine V.r0 (V.a2 ji5 hle) ?_
  refine V.il Tryz.func44 ?_
  refine V.r0 (V.a2 jjo hAk) ?_
  have pl2:=pl
  rw[← hAk] at pl2
  refine .len ?_
  (conv=>whnf)
  refine⟨36,?_⟩
  (conv=>whnf)
  refine jaa (r:=?_) ?_ ?_
  rotate_left
  ·exact pl2
  refine V.r0 (V.a2 ji5 pU) ?_
  have hlf:decide ((1:Int)<(O.length:Nat))=false:=decide_eq_false Jo
  refine Cnd.no hlf ?_
  refine V.r0 jjo ?_
  refine⟨2,Jo,Jo,?_⟩
  refine Wk.pub 148 ?_
  (conv=>whnf)
  simp only[jkk,jkz]
  exact V.wk
 ·simp only[rcv,rch,show ((2:Nat):Int)=2 from rfl]
  have hle:decide ((2:Int)≤(O.length:Nat))=false:=decide_eq_false Jo
  refine V.r0 (V.a2 ji5 hle) ?_
  refine jad (0:Nat) (fun j=>(j:Int)≤out) (fun j=>out.toNat-j) (fun j=>[(16,Ji (j:Nat)),(15,rb15 j)]) (fun j=>rbY Y j) ?_ ?_ ?_
  ·exact V.wk
  ·show ((0:Nat):Int)≤out
   omega
  intro j hj
  try dsimp only at hj ⊢
  by_cases hjo:(j:Int)<out
  ·have hlt:decide ((j:Int)<out)=true:=decide_eq_true hjo
   have hj4:j=0∨j=1∨j=2∨j=3:=Jo
   have ji:j<out.toNat:=Jo
   have d:=cd j ji
   have e0:=s0 j
   have i0:=ci j 0 ji Jo
   have m0:=cm j 0 ji Jo
   have a0:=ca j 0 ji Jo
   have u0:=hU 0 Jo
   have i1:=ci j 1 ji Jo
   have m1:=cm j 1 ji Jo
   have a1:=ca j 1 ji Jo
   have u1:=hU 1 Jo
   obtain⟨Sj,hSj⟩:∃ f,S j=f:=⟨_,rfl⟩
   obtain⟨Pj,hPj⟩:∃ f,P j=f:=⟨_,rfl⟩
   obtain⟨Ij,hIj⟩:∃ f,I j=f:=⟨_,rfl⟩
   obtain⟨Yj,hYj⟩:∃ f,Y j=f:=⟨_,rfl⟩
   simp only[hSj,hPj,hIj,hYj] at d e0 i0 m0 a0 i1 m1 a1
   rw[← e0] at zero
   rcases hj4 with rfl|rfl|rfl|rfl
   all_goals
    simp only[k0,k1,k2,k3,rb15,rbY] at hlt ⊢
    refine V.r1 (V.a2 ji5 hlt) zero ?_
    refine jad (0:Nat) (fun k=>k≤2) (fun k=>2-k) (fun k=>[(18,Ji (k:Nat))]) (fun k=>[(17,.box [.str (Sj k).1,.str (Sj k).2])]) ?_ ?_ ?_
    ·exact V.wk
    ·exact jjx _
    intro k hk
    try dsimp only at hk ⊢
    rcases (show k=0∨k=1∨k=2 by omega) with rfl|rfl|rfl
    ·refine V.r0 ji9 ?_
     refine⟨Pq18z,[],V.pok,?_⟩
     refine jab [(19,.box 19 0),(20,Ji 0)] [(19,.box [.str (Pj 0).1,.str (Pj 0).2])] ?_ ?_
     ·exact V.d2 ji9 i0 m0
     refine V.r1 ji9 a0 ?_
     exact⟨1,Jo,Jo,V.wk⟩
    ·refine V.r0 ji9 ?_
     refine⟨Pq18z,[],V.pok,?_⟩
     refine jab [(19,.box 19 0),(20,Ji 0)] [(19,.box [.str (Pj 1).1,.str (Pj 1).2])] ?_ ?_
     ·exact V.d2 ji9 i1 m1
     refine V.r1 ji9 a1 ?_
     exact⟨2,Jo,Jo,V.wk⟩
    ·refine V.r0 ji9 ?_
     refine⟨Pq84z,[],V.pok,?_⟩
     refine jab [(21,.box 21 0),(22,Ji 0)] [(21,.box [.str Yj.1,.str Yj.2])] ?_ ?_
     ·exact V.d2 ji5 cfull d
     refine V.r0 ji5 ?_
     rw[← hYj]
     first|exact⟨1,Jo,Jo,V.wk⟩|exact⟨2,Jo,Jo,V.wk⟩|exact⟨3,Jo,Jo,V.wk⟩|exact⟨4,Jo,Jo,V.wk⟩
  ·have hlf:decide ((j:Int)<out)=false:=decide_eq_false hjo
   obtain rfl:out=(j:Int):=Jo
   rcases (show j=1∨j=2∨j=3∨j=4 by omega) with rfl|rfl|rfl|rfl
   all_goals
    simp only[rb15,rbY]
    refine V.r0 (V.a2 ji5 hlf) ?_
    exact Fin.of rfl
theorem jiZ:type_of% @jjF∧type_of% @jjD∧type_of% @jjC∧type_of% @tn0∧type_of% @tn1∧type_of% @tn2∧type_of% @tn3∧type_of% @xt4:=⟨@jjF,@jjD,@jjC,@tn0,@tn1,@tn2,@tn3,@xt4⟩
theorem jje:type_of% @jjF∧type_of% @jku ∧ type_of% @jjD∧type_of% @jjC∧type_of% @tn0∧type_of% @tn1∧type_of% @tn2∧type_of% @tn3∧type_of% @xt4:=⟨@jjF,@jku,@jjD,@jjC,@tn0,@tn1,@tn2,@tn3,@xt4⟩
theorem ji2:type_of% @jjF∧type_of% @jjD∧type_of% @jjC∧type_of% @k0∧type_of% @k1∧type_of% @k2∧type_of% @k3∧type_of% @tn0∧type_of% @tn1∧type_of% @tn2∧type_of% @tn3∧type_of% @xt4:=⟨@jjF,@jjD,@jjC,@k0,@k1,@k2,@k3,@tn0,@tn1,@tn2,@tn3,@xt4⟩
theorem reval2_t (zs data O:List Int)(out:Int)(X:Nat→List D)(A U:Nat→List Int)(p:Nat→Int)(W Y:Nat→Tx)(I P S:Nat→Nat→Tx)(ho:1≤out∧out≤4)(hl:O.length=2)(hd:data.length≤4096)
  (hA:∀ k,k<2→(0≤O.getD k 0∧O.getD k 0<2)∧(-1000≤(A k).getD (O.getD k 0).toNat 0∧(A k).getD (O.getD k 0).toNat 0≤1000)∧A (k+1)=(A k).set (O.getD k 0).toNat ((A k).getD (O.getD k 0).toNat 0+1)) (hAl:∀ k,k≤2→(A k).length=2)
  (hp:∀ k,k≤2→(0≤p k∧p k+out≤data.length)∧(data.take (p k+out).toNat).drop (p k).toNat=U k) (hU:∀ k,k≤2→(U k).length=out.toNat)
  (cell:Cl 12 [.agg [Jj zs,Ji out,Jj data],.slf 2 2 X] (.tup [Jj (A 0),Jj O,slQ W 3,Ji 0]))
  (place:∀ k,k≤2→Cl 91 [.agg [Jj zs,Ji out,Jj data],Jj (A k)] (.tup [Ji (p k),Ji 0]))
  (zero:Cl 39 [Ji 0,Ji 1] (Jt (S 0 0))) (s0:∀ j,S j 0=S 0 0) (full:Tx) (cfull:Cl 39 [Ji 65535,Ji 1] (Jt (full)))
  (ci:∀ j k,j<out.toNat→k≤2→Cl 39 [Ji ((U k).getD j 0),Ji 1] (Jt (I j k)))
  (cm:∀ j k,j<out.toNat→k≤2→Cl 37 [Jt (W k),Jt (I j k)] (.tup [Jt (P j k),Ji 0]))
  (ca:∀ j k,j<out.toNat→k≤2→Cl 45 [Jt (S j k),Jt (P j k)] (.tup [Jt (S j (k+1)),Ji 0]))
  (cd:∀ j,j<out.toNat→Cl 46 [Jt (S j 3),Jt (full)] (.tup [Jt (Y j),Ji 0])) :
  Cl 14 [.agg [Jj zs,Ji out,Jj data],.slf 2 2 X] (.tup [slQ Y out.toNat,Ji 0]):=by
 have B0:(A 0).length=2:=hAl 0 Jo
 refine V.en tbOk Tryz.func14 ?_
 (conv=>whnf)
 (conv=>whnf)
 (try simp only[B0,jku,jkk,jjC,jjD,tn0,tn1,tn2,tn3,xt4,jjF])
 repeat ((first|refine V.s1 ?_|((try ((with_reducible refine .ext ?_);(conv=>whnf);(try simp only[B0,jku,jkk,jjC,jjD,tn0,tn1,tn2,tn3,xt4,jjF])));(with_reducible refine jaa (r:=?_) ?_ ?_);rotate_left;(focus (first|exact(cell)));(conv=>whnf)));(try simp only[B0,jku,jkk,jjC,jjD,tn0,tn1,tn2,tn3,xt4,jjF]))
 refine jad (0:Nat) (fun k=>k≤3) (fun k=>3-k) (fun k=>[(12,Ji (k:Nat)),(10,rcv k)]) (fun k=>(36,.arr .i64 (A (min k 2)))::rch U k) ?_ ?_ ?_
 ·exact V.wk
 ·exact jjx _
 intro k hk
 try dsimp only at hk ⊢
 have hk4:k=0∨k=1∨k=2∨k=3:=Jo
 rcases hk4 with e|e|e|e
 all_goals subst e
 ·simp only[k0,rcv,rch,show min 0 2=0 from rfl]
  have hAk:List.take 2 (A 0)=A 0:=jko (by rw[hAl 0 Jo];exact jjG _)
  have pl:=place 0 Jo
  obtain⟨⟨pb,pd⟩,pU⟩:=hp 0 Jo
  have hUl:=hU 0 Jo
  have hle:decide ((0:Int)≤(O.length:Nat))=true:=decide_eq_true Jo
  refine V.r0 (V.a2 jiZ hle) ?_
  refine V.il Tryz.func44 ?_
  refine V.r0 (V.a2 jje hAk) ?_
  have pl2:=pl
  rw[← hAk] at pl2
  refine .len ?_
  (conv=>whnf)
  refine⟨36,?_⟩
  (conv=>whnf)
  refine jaa (r:=?_) ?_ ?_
  rotate_left
  ·exact pl2
  refine V.r0 (V.a2 jiZ pU) ?_
  have hlt:decide ((0:Int)<(O.length:Nat))=true:=decide_eq_true Jo
  obtain⟨ob,vb,eA⟩:=hA 0 Jo
  have hAli:=hAl 0 Jo
  refine Cnd.yes hlt ?_
  refine V.r0 jje ?_
  refine⟨1,Jo,Jo,?_⟩
  refine Wk.pub 148 ?_
  (conv=>whnf)
  simp only[jkk,jkz,← eA]
  exact V.wk
 ·simp only[k1,rcv,rch,show min 1 2=1 from rfl]
  have hAk:List.take 2 (A 1)=A 1:=jko (by rw[hAl 1 Jo];exact jjG _)
  have pl:=place 1 Jo
  obtain⟨⟨pb,pd⟩,pU⟩:=hp 1 Jo
  have hUl:=hU 1 Jo
  have hle:decide ((1:Int)≤(O.length:Nat))=true:=decide_eq_true Jo
  refine V.r0 (V.a2 jiZ hle) ?_
  refine V.il Tryz.func44 ?_
  refine V.r0 (V.a2 jje hAk) ?_
  have pl2:=pl
  rw[← hAk] at pl2
  refine .len ?_
  (conv=>whnf)
  refine⟨36,?_⟩
  (conv=>whnf)
  refine jaa (r:=?_) ?_ ?_
  rotate_left
  ·exact pl2
  refine V.r0 (V.a2 jiZ pU) ?_
  have hlt:decide ((1:Int)<(O.length:Nat))=true:=decide_eq_true Jo
  obtain⟨ob,vb,eA⟩:=hA 1 Jo
  have hAli:=hAl 1 Jo
  refine Cnd.yes hlt ?_
  refine V.r0 jje ?_
  refine⟨2,Jo,Jo,?_⟩
  refine Wk.pub 148 ?_
  (conv=>whnf)
  simp only[jkk,jkz,← eA]
  exact V.wk
 ·simp only[k2,rcv,rch,show min 2 2=2 from rfl]
  have hAk:List.take 2 (A 2)=A 2:=jko (by rw[hAl 2 Jo];exact jjG _)
  have pl:=place 2 Jo
  obtain⟨⟨pb,pd⟩,pU⟩:=hp 2 Jo
  have hUl:=hU 2 Jo
  have hle:decide ((2:Int)≤(O.length:Nat))=true:=decide_eq_true Jo
  refine V.r0 (V.a2 jiZ hle) ?_
  refine V.il Tryz.func44 ?_
  refine V.r0 (V.a2 jje hAk) ?_
  have pl2:=pl
  rw[← hAk] at pl2
  refine .len ?_
  (conv=>whnf)
  refine⟨36,?_⟩
  (conv=>whnf)
  refine jaa (r:=?_) ?_ ?_
  rotate_left
  ·exact pl2
  refine V.r0 (V.a2 jiZ pU) ?_
  have hlf:decide ((2:Int)<(O.length:Nat))=false:=decide_eq_false Jo
  refine Cnd.no hlf ?_
  refine V.r0 jje ?_
  refine⟨3,Jo,Jo,?_⟩
  refine Wk.pub 148 ?_
  (conv=>whnf)
  simp only[jkk,jkz]
  exact V.wk
 ·simp only[rcv,rch,show ((3:Nat):Int)=3 from rfl]
  have hle:decide ((3:Int)≤(O.length:Nat))=false:=decide_eq_false Jo
  refine V.r0 (V.a2 jiZ hle) ?_
  refine jad (0:Nat) (fun j=>(j:Int)≤out) (fun j=>out.toNat-j) (fun j=>[(16,Ji (j:Nat)),(15,rb15 j)]) (fun j=>rbY Y j) ?_ ?_ ?_
  ·exact V.wk
  ·show ((0:Nat):Int)≤out
   omega
  intro j hj
  try dsimp only at hj ⊢
  by_cases hjo:(j:Int)<out
  ·have hlt:decide ((j:Int)<out)=true:=decide_eq_true hjo
   have hj4:j=0∨j=1∨j=2∨j=3:=Jo
   have ji:j<out.toNat:=Jo
   have d:=cd j ji
   have e0:=s0 j
   have i0:=ci j 0 ji Jo
   have m0:=cm j 0 ji Jo
   have a0:=ca j 0 ji Jo
   have u0:=hU 0 Jo
   have i1:=ci j 1 ji Jo
   have m1:=cm j 1 ji Jo
   have a1:=ca j 1 ji Jo
   have u1:=hU 1 Jo
   have i2:=ci j 2 ji Jo
   have m2:=cm j 2 ji Jo
   have a2:=ca j 2 ji Jo
   have u2:=hU 2 Jo
   obtain⟨Sj,hSj⟩:∃ f,S j=f:=⟨_,rfl⟩
   obtain⟨Pj,hPj⟩:∃ f,P j=f:=⟨_,rfl⟩
   obtain⟨Ij,hIj⟩:∃ f,I j=f:=⟨_,rfl⟩
   obtain⟨Yj,hYj⟩:∃ f,Y j=f:=⟨_,rfl⟩
   simp only[hSj,hPj,hIj,hYj] at d e0 i0 m0 a0 i1 m1 a1 i2 m2 a2
   rw[← e0] at zero
   rcases hj4 with rfl|rfl|rfl|rfl
   all_goals
    simp only[k0,k1,k2,k3,rb15,rbY] at hlt ⊢
    refine V.r1 (V.a2 jiZ hlt) zero ?_
    refine jad (0:Nat) (fun k=>k≤3) (fun k=>3-k) (fun k=>[(18,Ji (k:Nat))]) (fun k=>[(17,.box [.str (Sj k).1,.str (Sj k).2])]) ?_ ?_ ?_
    ·exact V.wk
    ·exact jjx _
    intro k hk
    try dsimp only at hk ⊢
    rcases (show k=0∨k=1∨k=2∨k=3 by omega) with rfl|rfl|rfl|rfl
    ·refine V.r0 ji2 ?_
     refine⟨Pq18z,[],V.pok,?_⟩
     refine jab [(19,.box 19 0),(20,Ji 0)] [(19,.box [.str (Pj 0).1,.str (Pj 0).2])] ?_ ?_
     ·exact V.d2 ji2 i0 m0
     refine V.r1 ji2 a0 ?_
     exact⟨1,Jo,Jo,V.wk⟩
    ·refine V.r0 ji2 ?_
     refine⟨Pq18z,[],V.pok,?_⟩
     refine jab [(19,.box 19 0),(20,Ji 0)] [(19,.box [.str (Pj 1).1,.str (Pj 1).2])] ?_ ?_
     ·exact V.d2 ji2 i1 m1
     refine V.r1 ji2 a1 ?_
     exact⟨2,Jo,Jo,V.wk⟩
    ·refine V.r0 ji2 ?_
     refine⟨Pq18z,[],V.pok,?_⟩
     refine jab [(19,.box 19 0),(20,Ji 0)] [(19,.box [.str (Pj 2).1,.str (Pj 2).2])] ?_ ?_
     ·exact V.d2 ji2 i2 m2
     refine V.r1 ji2 a2 ?_
     exact⟨3,Jo,Jo,V.wk⟩
    ·refine V.r0 ji2 ?_
     refine⟨Pq84z,[],V.pok,?_⟩
     refine jab [(21,.box 21 0),(22,Ji 0)] [(21,.box [.str Yj.1,.str Yj.2])] ?_ ?_
     ·exact V.d2 jiZ cfull d
     refine V.r0 jiZ ?_
     rw[← hYj]
     first|exact⟨1,Jo,Jo,V.wk⟩|exact⟨2,Jo,Jo,V.wk⟩|exact⟨3,Jo,Jo,V.wk⟩|exact⟨4,Jo,Jo,V.wk⟩
  ·have hlf:decide ((j:Int)<out)=false:=decide_eq_false hjo
   obtain rfl:out=(j:Int):=Jo
   rcases (show j=1∨j=2∨j=3∨j=4 by omega) with rfl|rfl|rfl|rfl
   all_goals
    simp only[rb15,rbY]
    refine V.r0 (V.a2 jiZ hlf) ?_
    exact Fin.of rfl
theorem tw_congr {p q:Int→Bool} : ∀ {l:List Int},(∀ o∈l,p o=q o)→l.takeWhile p=l.takeWhile q∧l.dropWhile p=l.dropWhile q
 | [],_=>⟨rfl,rfl⟩
 | x::l,h=>by
  have ih:=tw_congr (l:=l) fun o ho=>h o (List.mem_cons_of_mem _ ho)
  have hx:=h x List.mem_cons_self
  simp only[List.takeWhile_cons,List.dropWhile_cons,hx]
  split
  ·exact⟨by rw[ih.1],ih.2⟩
  ·exact⟨rfl,rfl⟩
theorem jeC {r s:Nat→Rat} : ∀ {n:Nat},(∀ i,i<n→r i=s i)→rS r n=rS s n
 | 0,_=>rfl
 | n+1,h=>by
  have ih:=jeC (r:=r) (s:=s) (n:=n) fun i hi=>h i Jo
  have c:=tw_congr (l:=rS s n) (p:=fun o => !decide (r o.toNat<r n)) (q:=fun o => !decide (s o.toNat<s n)) fun o ho=>by
   have:=rS_mem s n o ho
   rw[h o.toNat Jo,h n Jo]
  show rIns _ _ (rS r n)=rIns _ _ (rS s n)
  rw[ih]
  unfold rIns
  rw[c.1,c.2]
theorem jcN {data:List Int}{p out:Int}(h1:0≤p)(h2:0≤out):(data.take (p+out).toNat).drop p.toNat=slot data p out:=by
 unfold slot
 rw[show (p+out).toNat=p.toNat+out.toNat by omega,List.drop_take]
 rw[show p.toNat+out.toNat-p.toNat=out.toNat by omega]
theorem jdJ {zs:List Int}{out:Int}{data xs:List Int}(h:jaf zs out data=true)(hi:okIdx zs xs=true):0≤pz (zs.zip xs)*out∧pz (zs.zip xs)*out+out≤data.length:=by
 have o:=jaq h
 unfold okIdx at hi
 simp only[jjv,decide_eq_true_eq,jj7] at hi
 have b:=pz_bd hi.2
 have e:(zs.zip xs).map (·.1)=zs:=List.map_fst_zip Jo
 rw[e] at b
 refine⟨jjB b.1 Jo,?_⟩
 have m:=jjM b.2 (show 0≤out by omega)
 rw[jj1,jj2] at m
 omega
def sQ (P:Nat→Rat):Nat→Rat
 | 0=>0
 | k+1=>smF P k
theorem rcellq1 {x0:Rat}{z0 out:Int}{data:List Int}(hg:jaf [z0] out data=true)(h0:Fq 40 x0) :
  Cl 12 [.agg [Jj [z0],Ji out,Jj data],.slf 2 1 (fun j=>[.str (txq ((rqN x0 0 0) j)).1,.str (txq ((rqN x0 0 0) j)).2])] (.tup [Jj [spB z0 x0],Jj [0],slQ (fun k=>txq (wqN (rqN (spR z0 x0) 0 0) [0] 1 k)) 2,Ji 0]):=by
 have og:=jaq hg
 have ck:Cl 35 [.agg [Jj [z0],Ji out,Jj data]] (.bool true):=by
  have c:=jcS [z0] out data Js Jo
  rw[hg] at c
  exact c
 have cell:=jh9 (zs:=[z0]) (out:=out) (data:=data) (n:=1) Jo rfl (rqN x0 0 0) (fun i hi=>by
  rcases (show i=0 by omega) with rfl
  ·exact h0) (fun i hi=>by
  rcases (show i=0 by omega) with rfl
  ·exact og.2.1 z0 Js) ck
 have eO:rS (fun i=>spR ([z0].getD i 0) ((rqN x0 0 0) i)) 1=[0]:=(jeC (s:=(rqN (spR z0 x0) 0 0)) fun i hi=>by
  rcases (show i=0 by omega) with rfl
  ·rfl).trans (rS1 _)
 rw[eO] at cell
 have eW:slQ (fun k=>txq (wqN (fun i=>spR ([z0].getD i 0) ((rqN x0 0 0) i)) [0] 1 k)) (1+1)=slQ (fun k=>txq (wqN (rqN (spR z0 x0) 0 0) [0] 1 k)) 2:=by
  rfl
 rw[eW] at cell
 exact cell
theorem revalq1 {x0:Rat}{z0 out:Int}{data:List Int}(hg:jaf [z0] out data=true)(h0:Fq 40 x0) :
  Cl 14 [.agg [Jj [z0],Ji out,Jj data],.slf 2 1 (fun j=>[.str (txq ((rqN x0 0 0) j)).1,.str (txq ((rqN x0 0 0) j)).2])] (.tup [slQ (fun j=>txq (evQ [z0] out data x0 0 0 j)) out.toNat,Ji 0]):=by
 have og:=jaq hg
 have cell:=rcellq1 hg h0
 have s0:=og.2.1 z0 Js
 have f0:=ja0 h0 Jd s0
 have b0:=jb5 s0.1 x0
 have fr:∀ k,Fq 43 ((rqN (spR z0 x0) 0 0) k):=fq_rq f0 jbd jbd
 have es:=fun j=>ev1_sm (x0:=x0) s0.1 out data j
 obtain⟨ol,ox,oc⟩:=corn1 (O:=[0]) rfl (spB z0 x0)
 have oi:∀ k,k<2→okIdx [z0] ((atK [spB z0 x0,0,0,0] ([0]:List Int) k).take 1)=true:=by
  intro k hk
  obtain⟨i0,e,hh⟩:=oc k hk
  rw[e]
  simp[okIdx]
  omega
 obtain⟨R,eR⟩:∃ R,(rqN (spR z0 x0) 0 0)=R:=⟨_,rfl⟩
 rw[eR] at fr cell
 simp only[eR] at es
 obtain⟨U,eU⟩:∃ U:Nat→List Int,U=fun k=>slot data (pz ([z0].zip ((atK [spB z0 x0,0,0,0] ([0]:List Int) k).take 1))*out) out:=⟨_,rfl⟩
 have uv:∀ k,k≤1→(U k).length=out.toNat ∧ ∀ j,0≤(U k).getD j 0∧(U k).getD j 0≤65535:=fun k hk=>by
  rw[eU]
  exact⟨ja6 hg (oi k Jo),jaS og.2.2.2 _ _⟩
 have es:∀ j,evQ [z0] out data x0 0 0 j=smF (fun k=>wqN R ([0]:List Int) 1 k*(((U k).getD j 0:Int):Rat)) 1/65535:=fun j=>by
  rw[eU]
  exact es j
 have fm:∀ j k,k≤1→Fq 92 (wqN R ([0]:List Int) 1 k*(((U k).getD j 0:Int):Rat)):=fun j k hk=>(fq_wq fr ([0]:List Int) 1 k).mul (jav (n:=5) (by have:=(uv k hk).2 j;omega) Jo)
 have fs:∀ j k,k≤1→Fq 371 (smF (fun k=>wqN R ([0]:List Int) 1 k*(((U k).getD j 0:Int):Rat)) k):=fun j k hk=>by
  have fa:∀ k,k≤1→Fq ((k+1)*92+k) (smF (fun k=>wqN R ([0]:List Int) 1 k*(((U k).getD j 0:Int):Rat)) k):=fun k=>by
   induction k with
   | zero=>exact fun _=>(fm j 0 Jo).mono Jo
   | succ k ih=>exact fun h=>((ih Jo).add (fm j (k+1) h)).mono (by rw[Nat.add_mul (k+1)];omega)
  exact(fa k hk).mono Jo
 have fz:Fq 371 (0:Rat):=jbd.mono Jo
 have c:=reval1_t [z0] data ([0]:List Int) out (fun j=>[.str (txq ((rqN x0 0 0) j)).1,.str (txq ((rqN x0 0 0) j)).2]) (fun k=>(atK [spB z0 x0,0,0,0] ([0]:List Int) k).take 1) U (fun k=>pz ([z0].zip ((atK [spB z0 x0,0,0,0] ([0]:List Int) k).take 1))*out) (fun k=>txq (wqN R ([0]:List Int) 1 k)) (fun j=>txq (smF (fun k=>wqN R ([0]:List Int) 1 k*(((U k).getD j 0:Int):Rat)) 1/65535)) (fun j k=>txq (((U k).getD j 0:Int):Rat)) (fun j k=>txq (wqN R ([0]:List Int) 1 k*(((U k).getD j 0:Int):Rat))) (fun j k=>txq (sQ (fun k=>wqN R ([0]:List Int) 1 k*(((U k).getD j 0:Int):Rat)) k)) og.1 ol Jo
  (fun k hk=>by
   rcases (show k=0 by omega) with rfl<;>refine⟨Jd,?_,rfl⟩<;>(simp[atK];omega))
  (fun k hk=>by
   obtain⟨i0,e,hh⟩:=oc k Jo
   rw[e];rfl)
  (fun k hk=>?_) (fun k hk=>(uv k hk).1) cell (fun k hk=>?_) (jbz (n:=0) Jo) (fun j=>rfl) (txq ((65535:Int):Rat)) (jbz (n:=65535) Jo)
  (fun j k hj hk=>jbz (by have:=(uv k hk).2 j;omega))
  (fun j k hj hk=>zrmul (fq_wq fr ([0]:List Int) 1 k) (jav (n:=5) (by have:=(uv k hk).2 j;omega) Jo) Jo Jo Jo)
  (fun j k hj hk=>?_)
  (fun j hj=>zrdiv (fs j 1 Jo) (jav (n:=5) (z:=65535) jaC Jd) jaX Jo Jo Jo)
 ·rw[show (fun j=>txq (evQ [z0] out data x0 0 0 j))=_ from funext fun j=>congrArg txq (es j)]
  exact c
 ·have bd:=jdJ hg (oi k Jo)
  refine⟨bd,?_⟩
  rw[eU]
  exact jcN bd.1 Jo
 ·have r:=jc8 [z0] out data ((atK [spB z0 x0,0,0,0] ([0]:List Int) k).take 1) Js Jo (by rw[jke];omega)
  rw[hg,oi k Jo] at r
  exact r
 ·rcases k with _|k
  ·have c:=zradd fz (fm j 0 Jo) Jo Jo Jo
   rw[Rat.zero_add] at c
   exact c
  ·exact zradd (fs j k Jo) (fm j (k+1) hk) Jo Jo Jo
theorem rcellq2 {x0 x1:Rat}{z0 z1 out:Int}{data:List Int}(hg:jaf [z0,z1] out data=true)(h0:Fq 40 x0)(h1:Fq 40 x1) :
  Cl 12 [.agg [Jj [z0,z1],Ji out,Jj data],.slf 2 2 (fun j=>[.str (txq ((rqN x0 x1 0) j)).1,.str (txq ((rqN x0 x1 0) j)).2])] (.tup [Jj [spB z0 x0,spB z1 x1],Jj (ord2 (spR z0 x0) (spR z1 x1)),slQ (fun k=>txq (wqN (rqN (spR z0 x0) (spR z1 x1) 0) (ord2 (spR z0 x0) (spR z1 x1)) 2 k)) 3,Ji 0]):=by
 have og:=jaq hg
 have ck:Cl 35 [.agg [Jj [z0,z1],Ji out,Jj data]] (.bool true):=by
  have c:=jcS [z0,z1] out data Js Jo
  rw[hg] at c
  exact c
 have cell:=jh9 (zs:=[z0,z1]) (out:=out) (data:=data) (n:=2) Jo rfl (rqN x0 x1 0) (fun i hi=>by
  rcases (show i=0∨i=1 by omega) with rfl|rfl
  ·exact h0
  ·exact h1) (fun i hi=>by
  rcases (show i=0∨i=1 by omega) with rfl|rfl
  ·exact og.2.1 z0 Js
  ·exact og.2.1 z1 Js) ck
 have eO:rS (fun i=>spR ([z0,z1].getD i 0) ((rqN x0 x1 0) i)) 2=(ord2 (spR z0 x0) (spR z1 x1)):=(jeC (s:=(rqN (spR z0 x0) (spR z1 x1) 0)) fun i hi=>by
  rcases (show i=0∨i=1 by omega) with rfl|rfl
  ·rfl
  ·rfl).trans (rS2 _ _ _)
 rw[eO] at cell
 have eW:slQ (fun k=>txq (wqN (fun i=>spR ([z0,z1].getD i 0) ((rqN x0 x1 0) i)) (ord2 (spR z0 x0) (spR z1 x1)) 2 k)) (2+1)=slQ (fun k=>txq (wqN (rqN (spR z0 x0) (spR z1 x1) 0) (ord2 (spR z0 x0) (spR z1 x1)) 2 k)) 3:=by
  obtain⟨O,eq⟩:∃ O,(ord2 (spR z0 x0) (spR z1 x1))=O:=⟨_,rfl⟩
  have hO:O=[0,1]∨O=[1,0]:=by rw[← eq];exact jeG _ _
  rw[eq]
  clear eq eO cell
  rcases hO with rfl|rfl<;>rfl
 rw[eW] at cell
 exact cell
theorem revalq2 {x0 x1:Rat}{z0 z1 out:Int}{data:List Int}(hg:jaf [z0,z1] out data=true)(h0:Fq 40 x0)(h1:Fq 40 x1) :
  Cl 14 [.agg [Jj [z0,z1],Ji out,Jj data],.slf 2 2 (fun j=>[.str (txq ((rqN x0 x1 0) j)).1,.str (txq ((rqN x0 x1 0) j)).2])] (.tup [slQ (fun j=>txq (evQ [z0,z1] out data x0 x1 0 j)) out.toNat,Ji 0]):=by
 have og:=jaq hg
 have cell:=rcellq2 hg h0 h1
 have s0:=og.2.1 z0 Js
 have f0:=ja0 h0 Jd s0
 have b0:=jb5 s0.1 x0
 have s1:=og.2.1 z1 Js
 have f1:=ja0 h1 Jd s1
 have b1:=jb5 s1.1 x1
 have fr:∀ k,Fq 43 ((rqN (spR z0 x0) (spR z1 x1) 0) k):=fq_rq f0 f1 jbd
 have es:=fun j=>ev2_sm (x0:=x0) (x1:=x1) s0.1 s1.1 out data j
 have hO:(ord2 (spR z0 x0) (spR z1 x1))=[0,1]∨(ord2 (spR z0 x0) (spR z1 x1))=[1,0]:=jeG _ _
 obtain⟨O,eq⟩:∃ O,(ord2 (spR z0 x0) (spR z1 x1))=O:=⟨_,rfl⟩
 simp only[eq] at hO
 skip
 rw[eq] at cell
 simp only[eq] at es
 obtain⟨ol,ox,oc⟩:=corn2 (O:=O) hO (spB z0 x0) (spB z1 x1)
 have oi:∀ k,k<3→okIdx [z0,z1] ((atK [spB z0 x0,spB z1 x1,0,0] O k).take 2)=true:=by
  intro k hk
  obtain⟨i0,i1,e,hh⟩:=oc k hk
  rw[e]
  simp[okIdx]
  omega
 obtain⟨R,eR⟩:∃ R,(rqN (spR z0 x0) (spR z1 x1) 0)=R:=⟨_,rfl⟩
 rw[eR] at fr cell
 simp only[eR] at es
 obtain⟨U,eU⟩:∃ U:Nat→List Int,U=fun k=>slot data (pz ([z0,z1].zip ((atK [spB z0 x0,spB z1 x1,0,0] O k).take 2))*out) out:=⟨_,rfl⟩
 have uv:∀ k,k≤2→(U k).length=out.toNat ∧ ∀ j,0≤(U k).getD j 0∧(U k).getD j 0≤65535:=fun k hk=>by
  rw[eU]
  exact⟨ja6 hg (oi k Jo),jaS og.2.2.2 _ _⟩
 have es:∀ j,evQ [z0,z1] out data x0 x1 0 j=smF (fun k=>wqN R O 2 k*(((U k).getD j 0:Int):Rat)) 2/65535:=fun j=>by
  rw[eU]
  exact es j
 have fm:∀ j k,k≤2→Fq 92 (wqN R O 2 k*(((U k).getD j 0:Int):Rat)):=fun j k hk=>(fq_wq fr O 2 k).mul (jav (n:=5) (by have:=(uv k hk).2 j;omega) Jo)
 have fs:∀ j k,k≤2→Fq 371 (smF (fun k=>wqN R O 2 k*(((U k).getD j 0:Int):Rat)) k):=fun j k hk=>by
  have fa:∀ k,k≤2→Fq ((k+1)*92+k) (smF (fun k=>wqN R O 2 k*(((U k).getD j 0:Int):Rat)) k):=fun k=>by
   induction k with
   | zero=>exact fun _=>(fm j 0 Jo).mono Jo
   | succ k ih=>exact fun h=>((ih Jo).add (fm j (k+1) h)).mono (by rw[Nat.add_mul (k+1)];omega)
  exact(fa k hk).mono Jo
 have fz:Fq 371 (0:Rat):=jbd.mono Jo
 have c:=reval2_t [z0,z1] data O out (fun j=>[.str (txq ((rqN x0 x1 0) j)).1,.str (txq ((rqN x0 x1 0) j)).2]) (fun k=>(atK [spB z0 x0,spB z1 x1,0,0] O k).take 2) U (fun k=>pz ([z0,z1].zip ((atK [spB z0 x0,spB z1 x1,0,0] O k).take 2))*out) (fun k=>txq (wqN R O 2 k)) (fun j=>txq (smF (fun k=>wqN R O 2 k*(((U k).getD j 0:Int):Rat)) 2/65535)) (fun j k=>txq (((U k).getD j 0:Int):Rat)) (fun j k=>txq (wqN R O 2 k*(((U k).getD j 0:Int):Rat))) (fun j k=>txq (sQ (fun k=>wqN R O 2 k*(((U k).getD j 0:Int):Rat)) k)) og.1 ol Jo
  (fun k hk=>by
   rcases hO with rfl|rfl<;>rcases (show k=0∨k=1 by omega) with rfl|rfl<;>refine⟨Jd,?_,rfl⟩<;>(simp[atK];omega))
  (fun k hk=>by
   obtain⟨i0,i1,e,hh⟩:=oc k Jo
   rw[e];rfl)
  (fun k hk=>?_) (fun k hk=>(uv k hk).1) cell (fun k hk=>?_) (jbz (n:=0) Jo) (fun j=>rfl) (txq ((65535:Int):Rat)) (jbz (n:=65535) Jo)
  (fun j k hj hk=>jbz (by have:=(uv k hk).2 j;omega))
  (fun j k hj hk=>zrmul (fq_wq fr O 2 k) (jav (n:=5) (by have:=(uv k hk).2 j;omega) Jo) Jo Jo Jo)
  (fun j k hj hk=>?_)
  (fun j hj=>zrdiv (fs j 2 Jo) (jav (n:=5) (z:=65535) jaC Jd) jaX Jo Jo Jo)
 ·rw[show (fun j=>txq (evQ [z0,z1] out data x0 x1 0 j))=_ from funext fun j=>congrArg txq (es j)]
  exact c
 ·have bd:=jdJ hg (oi k Jo)
  refine⟨bd,?_⟩
  rw[eU]
  exact jcN bd.1 Jo
 ·have r:=jc8 [z0,z1] out data ((atK [spB z0 x0,spB z1 x1,0,0] O k).take 2) Js Jo (by rw[jke];omega)
  rw[hg,oi k Jo] at r
  exact r
 ·rcases k with _|k
  ·have c:=zradd fz (fm j 0 Jo) Jo Jo Jo
   rw[Rat.zero_add] at c
   exact c
  ·exact zradd (fs j k Jo) (fm j (k+1) hk) Jo Jo Jo
theorem jiX:type_of% @jjF∧type_of% @jjD∧type_of% @jjC∧type_of% @tn0∧type_of% @tn1∧type_of% @tn2∧type_of% @tn3∧type_of% @xt4:=⟨@jjF,@jjD,@jjC,@tn0,@tn1,@tn2,@tn3,@xt4⟩
theorem ji7:type_of% @jjF∧type_of% @jku ∧ type_of% @jjD∧type_of% @jjC∧type_of% @tn0∧type_of% @tn1∧type_of% @tn2∧type_of% @tn3∧type_of% @xt4:=⟨@jjF,@jku,@jjD,@jjC,@tn0,@tn1,@tn2,@tn3,@xt4⟩
theorem jiW:type_of% @jjF∧type_of% @jjD∧type_of% @jjC∧type_of% @k0∧type_of% @k1∧type_of% @k2∧type_of% @k3∧type_of% @tn0∧type_of% @tn1∧type_of% @tn2∧type_of% @tn3∧type_of% @xt4:=⟨@jjF,@jjD,@jjC,@k0,@k1,@k2,@k3,@tn0,@tn1,@tn2,@tn3,@xt4⟩
theorem reval3_t (zs data O:List Int)(out:Int)(X:Nat→List D)(A U:Nat→List Int)(p:Nat→Int)(W Y:Nat→Tx)(I P S:Nat→Nat→Tx)(ho:1≤out∧out≤4)(hl:O.length=3)(hd:data.length≤4096)
  (hA:∀ k,k<3→(0≤O.getD k 0∧O.getD k 0<3)∧(-1000≤(A k).getD (O.getD k 0).toNat 0∧(A k).getD (O.getD k 0).toNat 0≤1000)∧A (k+1)=(A k).set (O.getD k 0).toNat ((A k).getD (O.getD k 0).toNat 0+1)) (hAl:∀ k,k≤3→(A k).length=3)
  (hp:∀ k,k≤3→(0≤p k∧p k+out≤data.length)∧(data.take (p k+out).toNat).drop (p k).toNat=U k) (hU:∀ k,k≤3→(U k).length=out.toNat)
  (cell:Cl 12 [.agg [Jj zs,Ji out,Jj data],.slf 2 3 X] (.tup [Jj (A 0),Jj O,slQ W 4,Ji 0]))
  (place:∀ k,k≤3→Cl 91 [.agg [Jj zs,Ji out,Jj data],Jj (A k)] (.tup [Ji (p k),Ji 0]))
  (zero:Cl 39 [Ji 0,Ji 1] (Jt (S 0 0))) (s0:∀ j,S j 0=S 0 0) (full:Tx) (cfull:Cl 39 [Ji 65535,Ji 1] (Jt (full)))
  (ci:∀ j k,j<out.toNat→k≤3→Cl 39 [Ji ((U k).getD j 0),Ji 1] (Jt (I j k)))
  (cm:∀ j k,j<out.toNat→k≤3→Cl 37 [Jt (W k),Jt (I j k)] (.tup [Jt (P j k),Ji 0]))
  (ca:∀ j k,j<out.toNat→k≤3→Cl 45 [Jt (S j k),Jt (P j k)] (.tup [Jt (S j (k+1)),Ji 0]))
  (cd:∀ j,j<out.toNat→Cl 46 [Jt (S j 4),Jt (full)] (.tup [Jt (Y j),Ji 0])) :
  Cl 14 [.agg [Jj zs,Ji out,Jj data],.slf 2 3 X] (.tup [slQ Y out.toNat,Ji 0]):=by
 have B0:(A 0).length=3:=hAl 0 Jo
 refine V.en tbOk Tryz.func14 ?_
 (conv=>whnf)
 (conv=>whnf)
 (try simp only[B0,jku,jkk,jjC,jjD,tn0,tn1,tn2,tn3,xt4,jjF])
 repeat ((first|refine V.s1 ?_|((try ((with_reducible refine .ext ?_);(conv=>whnf);(try simp only[B0,jku,jkk,jjC,jjD,tn0,tn1,tn2,tn3,xt4,jjF])));(with_reducible refine jaa (r:=?_) ?_ ?_);rotate_left;(focus (first|exact(cell)));(conv=>whnf)));(try simp only[B0,jku,jkk,jjC,jjD,tn0,tn1,tn2,tn3,xt4,jjF]))
 refine jad (0:Nat) (fun k=>k≤4) (fun k=>4-k) (fun k=>[(12,Ji (k:Nat)),(10,rcv k)]) (fun k=>(36,.arr .i64 (A (min k 3)))::rch U k) ?_ ?_ ?_
 ·exact V.wk
 ·exact jjx _
 intro k hk
 try dsimp only at hk ⊢
 have hk4:k=0∨k=1∨k=2∨k=3∨k=4:=Jo
 rcases hk4 with e|e|e|e|e
 all_goals subst e
 ·simp only[k0,rcv,rch,show min 0 3=0 from rfl]
  have hAk:List.take 3 (A 0)=A 0:=jko (by rw[hAl 0 Jo];exact jjG _)
  have pl:=place 0 Jo
  obtain⟨⟨pb,pd⟩,pU⟩:=hp 0 Jo
  have hUl:=hU 0 Jo
  have hle:decide ((0:Int)≤(O.length:Nat))=true:=decide_eq_true Jo
  refine V.r0 (V.a2 jiX hle) ?_
  refine V.il Tryz.func44 ?_
  refine V.r0 (V.a2 ji7 hAk) ?_
  have pl2:=pl
  rw[← hAk] at pl2
  refine .len ?_
  (conv=>whnf)
  refine⟨36,?_⟩
  (conv=>whnf)
  refine jaa (r:=?_) ?_ ?_
  rotate_left
  ·exact pl2
  refine V.r0 (V.a2 jiX pU) ?_
  have hlt:decide ((0:Int)<(O.length:Nat))=true:=decide_eq_true Jo
  obtain⟨ob,vb,eA⟩:=hA 0 Jo
  have hAli:=hAl 0 Jo
  refine Cnd.yes hlt ?_
  refine V.r0 ji7 ?_
  refine⟨1,Jo,Jo,?_⟩
  refine Wk.pub 148 ?_
  (conv=>whnf)
  simp only[jkk,jkz,← eA]
  exact V.wk
 ·simp only[k1,rcv,rch,show min 1 3=1 from rfl]
  have hAk:List.take 3 (A 1)=A 1:=jko (by rw[hAl 1 Jo];exact jjG _)
  have pl:=place 1 Jo
  obtain⟨⟨pb,pd⟩,pU⟩:=hp 1 Jo
  have hUl:=hU 1 Jo
  have hle:decide ((1:Int)≤(O.length:Nat))=true:=decide_eq_true Jo
  refine V.r0 (V.a2 jiX hle) ?_
  refine V.il Tryz.func44 ?_
  refine V.r0 (V.a2 ji7 hAk) ?_
  have pl2:=pl
  rw[← hAk] at pl2
  refine .len ?_
  (conv=>whnf)
  refine⟨36,?_⟩
  (conv=>whnf)
  refine jaa (r:=?_) ?_ ?_
  rotate_left
  ·exact pl2
  refine V.r0 (V.a2 jiX pU) ?_
  have hlt:decide ((1:Int)<(O.length:Nat))=true:=decide_eq_true Jo
  obtain⟨ob,vb,eA⟩:=hA 1 Jo
  have hAli:=hAl 1 Jo
  refine Cnd.yes hlt ?_
  refine V.r0 ji7 ?_
  refine⟨2,Jo,Jo,?_⟩
  refine Wk.pub 148 ?_
  (conv=>whnf)
  simp only[jkk,jkz,← eA]
  exact V.wk
 ·simp only[k2,rcv,rch,show min 2 3=2 from rfl]
  have hAk:List.take 3 (A 2)=A 2:=jko (by rw[hAl 2 Jo];exact jjG _)
  have pl:=place 2 Jo
  obtain⟨⟨pb,pd⟩,pU⟩:=hp 2 Jo
  have hUl:=hU 2 Jo
  have hle:decide ((2:Int)≤(O.length:Nat))=true:=decide_eq_true Jo
  refine V.r0 (V.a2 jiX hle) ?_
  refine V.il Tryz.func44 ?_
  refine V.r0 (V.a2 ji7 hAk) ?_
  have pl2:=pl
  rw[← hAk] at pl2
  refine .len ?_
  (conv=>whnf)
  refine⟨36,?_⟩
  (conv=>whnf)
  refine jaa (r:=?_) ?_ ?_
  rotate_left
  ·exact pl2
  refine V.r0 (V.a2 jiX pU) ?_
  have hlt:decide ((2:Int)<(O.length:Nat))=true:=decide_eq_true Jo
  obtain⟨ob,vb,eA⟩:=hA 2 Jo
  have hAli:=hAl 2 Jo
  refine Cnd.yes hlt ?_
  refine V.r0 ji7 ?_
  refine⟨3,Jo,Jo,?_⟩
  refine Wk.pub 148 ?_
  (conv=>whnf)
  simp only[jkk,jkz,← eA]
  exact V.wk
 ·simp only[k3,rcv,rch,show min 3 3=3 from rfl]
  have hAk:List.take 3 (A 3)=A 3:=jko (by rw[hAl 3 Jo];exact jjG _)
  have pl:=place 3 Jo
  obtain⟨⟨pb,pd⟩,pU⟩:=hp 3 Jo
  have hUl:=hU 3 Jo
  have hle:decide ((3:Int)≤(O.length:Nat))=true:=decide_eq_true Jo
  refine V.r0 (V.a2 jiX hle) ?_
  refine V.il Tryz.func44 ?_
  refine V.r0 (V.a2 ji7 hAk) ?_
  have pl2:=pl
  rw[← hAk] at pl2
  refine .len ?_
  (conv=>whnf)
  refine⟨36,?_⟩
  (conv=>whnf)
  refine jaa (r:=?_) ?_ ?_
  rotate_left
  ·exact pl2
  refine V.r0 (V.a2 jiX pU) ?_
  have hlf:decide ((3:Int)<(O.length:Nat))=false:=decide_eq_false Jo
  refine Cnd.no hlf ?_
  refine V.r0 ji7 ?_
  refine⟨4,Jo,Jo,?_⟩
  refine Wk.pub 148 ?_
  (conv=>whnf)
  simp only[jkk,jkz]
  exact V.wk
 ·simp only[rcv,rch,show ((4:Nat):Int)=4 from rfl]
  have hle:decide ((4:Int)≤(O.length:Nat))=false:=decide_eq_false Jo
  refine V.r0 (V.a2 jiX hle) ?_
  refine jad (0:Nat) (fun j=>(j:Int)≤out) (fun j=>out.toNat-j) (fun j=>[(16,Ji (j:Nat)),(15,rb15 j)]) (fun j=>rbY Y j) ?_ ?_ ?_
  ·exact V.wk
  ·show ((0:Nat):Int)≤out
   omega
  intro j hj
  try dsimp only at hj ⊢
  by_cases hjo:(j:Int)<out
  ·have hlt:decide ((j:Int)<out)=true:=decide_eq_true hjo
   have hj4:j=0∨j=1∨j=2∨j=3:=Jo
   have ji:j<out.toNat:=Jo
   have d:=cd j ji
   have e0:=s0 j
   have i0:=ci j 0 ji Jo
   have m0:=cm j 0 ji Jo
   have a0:=ca j 0 ji Jo
   have u0:=hU 0 Jo
   have i1:=ci j 1 ji Jo
   have m1:=cm j 1 ji Jo
   have a1:=ca j 1 ji Jo
   have u1:=hU 1 Jo
   have i2:=ci j 2 ji Jo
   have m2:=cm j 2 ji Jo
   have a2:=ca j 2 ji Jo
   have u2:=hU 2 Jo
   have i3:=ci j 3 ji Jo
   have m3:=cm j 3 ji Jo
   have a3:=ca j 3 ji Jo
   have u3:=hU 3 Jo
   obtain⟨Sj,hSj⟩:∃ f,S j=f:=⟨_,rfl⟩
   obtain⟨Pj,hPj⟩:∃ f,P j=f:=⟨_,rfl⟩
   obtain⟨Ij,hIj⟩:∃ f,I j=f:=⟨_,rfl⟩
   obtain⟨Yj,hYj⟩:∃ f,Y j=f:=⟨_,rfl⟩
   simp only[hSj,hPj,hIj,hYj] at d e0 i0 m0 a0 i1 m1 a1 i2 m2 a2 i3 m3 a3
   rw[← e0] at zero
   rcases hj4 with rfl|rfl|rfl|rfl
   all_goals
    simp only[k0,k1,k2,k3,rb15,rbY] at hlt ⊢
    refine V.r1 (V.a2 jiX hlt) zero ?_
    refine jad (0:Nat) (fun k=>k≤4) (fun k=>4-k) (fun k=>[(18,Ji (k:Nat))]) (fun k=>[(17,.box [.str (Sj k).1,.str (Sj k).2])]) ?_ ?_ ?_
    ·exact V.wk
    ·exact jjx _
    intro k hk
    try dsimp only at hk ⊢
    rcases (show k=0∨k=1∨k=2∨k=3∨k=4 by omega) with rfl|rfl|rfl|rfl|rfl
    ·refine V.r0 jiW ?_
     refine⟨Pq18z,[],V.pok,?_⟩
     refine jab [(19,.box 19 0),(20,Ji 0)] [(19,.box [.str (Pj 0).1,.str (Pj 0).2])] ?_ ?_
     ·exact V.d2 jiW i0 m0
     refine V.r1 jiW a0 ?_
     exact⟨1,Jo,Jo,V.wk⟩
    ·refine V.r0 jiW ?_
     refine⟨Pq18z,[],V.pok,?_⟩
     refine jab [(19,.box 19 0),(20,Ji 0)] [(19,.box [.str (Pj 1).1,.str (Pj 1).2])] ?_ ?_
     ·exact V.d2 jiW i1 m1
     refine V.r1 jiW a1 ?_
     exact⟨2,Jo,Jo,V.wk⟩
    ·refine V.r0 jiW ?_
     refine⟨Pq18z,[],V.pok,?_⟩
     refine jab [(19,.box 19 0),(20,Ji 0)] [(19,.box [.str (Pj 2).1,.str (Pj 2).2])] ?_ ?_
     ·exact V.d2 jiW i2 m2
     refine V.r1 jiW a2 ?_
     exact⟨3,Jo,Jo,V.wk⟩
    ·refine V.r0 jiW ?_
     refine⟨Pq18z,[],V.pok,?_⟩
     refine jab [(19,.box 19 0),(20,Ji 0)] [(19,.box [.str (Pj 3).1,.str (Pj 3).2])] ?_ ?_
     ·exact V.d2 jiW i3 m3
     refine V.r1 jiW a3 ?_
     exact⟨4,Jo,Jo,V.wk⟩
    ·refine V.r0 jiW ?_
     refine⟨Pq84z,[],V.pok,?_⟩
     refine jab [(21,.box 21 0),(22,Ji 0)] [(21,.box [.str Yj.1,.str Yj.2])] ?_ ?_
     ·exact V.d2 jiX cfull d
     refine V.r0 jiX ?_
     rw[← hYj]
     first|exact⟨1,Jo,Jo,V.wk⟩|exact⟨2,Jo,Jo,V.wk⟩|exact⟨3,Jo,Jo,V.wk⟩|exact⟨4,Jo,Jo,V.wk⟩
  ·have hlf:decide ((j:Int)<out)=false:=decide_eq_false hjo
   obtain rfl:out=(j:Int):=Jo
   rcases (show j=1∨j=2∨j=3∨j=4 by omega) with rfl|rfl|rfl|rfl
   all_goals
    simp only[rb15,rbY]
    refine V.r0 (V.a2 jiX hlf) ?_
    exact Fin.of rfl
theorem rcellq3 {x0 x1 x2:Rat}{z0 z1 z2 out:Int}{data:List Int}(hg:jaf [z0,z1,z2] out data=true)(h0:Fq 40 x0)(h1:Fq 40 x1)(h2:Fq 40 x2) :
  Cl 12 [.agg [Jj [z0,z1,z2],Ji out,Jj data],.slf 2 3 (fun j=>[.str (txq ((rqN x0 x1 x2) j)).1,.str (txq ((rqN x0 x1 x2) j)).2])] (.tup [Jj [spB z0 x0,spB z1 x1,spB z2 x2],Jj (ord3 (spR z0 x0) (spR z1 x1) (spR z2 x2)),slQ (fun k=>txq (wqN (rqN (spR z0 x0) (spR z1 x1) (spR z2 x2)) (ord3 (spR z0 x0) (spR z1 x1) (spR z2 x2)) 3 k)) 4,Ji 0]):=by
 have og:=jaq hg
 have ck:Cl 35 [.agg [Jj [z0,z1,z2],Ji out,Jj data]] (.bool true):=by
  have c:=jcS [z0,z1,z2] out data Js Jo
  rw[hg] at c
  exact c
 have cell:=jh9 (zs:=[z0,z1,z2]) (out:=out) (data:=data) (n:=3) Jo rfl (rqN x0 x1 x2) (fun i hi=>by
  rcases (show i=0∨i=1∨i=2 by omega) with rfl|rfl|rfl
  ·exact h0
  ·exact h1
  ·exact h2) (fun i hi=>by
  rcases (show i=0∨i=1∨i=2 by omega) with rfl|rfl|rfl
  ·exact og.2.1 z0 Js
  ·exact og.2.1 z1 Js
  ·exact og.2.1 z2 Js) ck
 have eO:rS (fun i=>spR ([z0,z1,z2].getD i 0) ((rqN x0 x1 x2) i)) 3=(ord3 (spR z0 x0) (spR z1 x1) (spR z2 x2)):=(jeC (s:=(rqN (spR z0 x0) (spR z1 x1) (spR z2 x2))) fun i hi=>by
  rcases (show i=0∨i=1∨i=2 by omega) with rfl|rfl|rfl
  ·rfl
  ·rfl
  ·rfl).trans (rS3 _ _ _)
 rw[eO] at cell
 have eW:slQ (fun k=>txq (wqN (fun i=>spR ([z0,z1,z2].getD i 0) ((rqN x0 x1 x2) i)) (ord3 (spR z0 x0) (spR z1 x1) (spR z2 x2)) 3 k)) (3+1)=slQ (fun k=>txq (wqN (rqN (spR z0 x0) (spR z1 x1) (spR z2 x2)) (ord3 (spR z0 x0) (spR z1 x1) (spR z2 x2)) 3 k)) 4:=by
  obtain⟨O,eq⟩:∃ O,(ord3 (spR z0 x0) (spR z1 x1) (spR z2 x2))=O:=⟨_,rfl⟩
  have hO:O=[0,1,2]∨O=[0,2,1]∨O=[1,0,2]∨O=[1,2,0]∨O=[2,0,1]∨O=[2,1,0]:=by rw[← eq];exact jeF _ _ _
  rw[eq]
  clear eq eO cell
  rcases hO with rfl|rfl|rfl|rfl|rfl|rfl<;>rfl
 rw[eW] at cell
 exact cell
theorem revalq3 {x0 x1 x2:Rat}{z0 z1 z2 out:Int}{data:List Int}(hg:jaf [z0,z1,z2] out data=true)(h0:Fq 40 x0)(h1:Fq 40 x1)(h2:Fq 40 x2) :
  Cl 14 [.agg [Jj [z0,z1,z2],Ji out,Jj data],.slf 2 3 (fun j=>[.str (txq ((rqN x0 x1 x2) j)).1,.str (txq ((rqN x0 x1 x2) j)).2])] (.tup [slQ (fun j=>txq (evQ [z0,z1,z2] out data x0 x1 x2 j)) out.toNat,Ji 0]):=by
 have og:=jaq hg
 have cell:=rcellq3 hg h0 h1 h2
 have s0:=og.2.1 z0 Js
 have f0:=ja0 h0 Jd s0
 have b0:=jb5 s0.1 x0
 have s1:=og.2.1 z1 Js
 have f1:=ja0 h1 Jd s1
 have b1:=jb5 s1.1 x1
 have s2:=og.2.1 z2 Js
 have f2:=ja0 h2 Jd s2
 have b2:=jb5 s2.1 x2
 have fr:∀ k,Fq 43 ((rqN (spR z0 x0) (spR z1 x1) (spR z2 x2)) k):=fq_rq f0 f1 f2
 have es:=fun j=>ev3_sm (x0:=x0) (x1:=x1) (x2:=x2) s0.1 s1.1 s2.1 out data j
 have hO:(ord3 (spR z0 x0) (spR z1 x1) (spR z2 x2))=[0,1,2]∨(ord3 (spR z0 x0) (spR z1 x1) (spR z2 x2))=[0,2,1]∨(ord3 (spR z0 x0) (spR z1 x1) (spR z2 x2))=[1,0,2]∨(ord3 (spR z0 x0) (spR z1 x1) (spR z2 x2))=[1,2,0]∨(ord3 (spR z0 x0) (spR z1 x1) (spR z2 x2))=[2,0,1]∨(ord3 (spR z0 x0) (spR z1 x1) (spR z2 x2))=[2,1,0]:=jeF _ _ _
 obtain⟨O,eq⟩:∃ O,(ord3 (spR z0 x0) (spR z1 x1) (spR z2 x2))=O:=⟨_,rfl⟩
 simp only[eq] at hO
 skip
 rw[eq] at cell
 simp only[eq] at es
 obtain⟨ol,ox,oc⟩:=corn3 (O:=O) hO (spB z0 x0) (spB z1 x1) (spB z2 x2)
 have oi:∀ k,k<4→okIdx [z0,z1,z2] ((atK [spB z0 x0,spB z1 x1,spB z2 x2,0] O k).take 3)=true:=by
  intro k hk
  obtain⟨i0,i1,i2,e,hh⟩:=oc k hk
  rw[e]
  simp[okIdx]
  omega
 obtain⟨R,eR⟩:∃ R,(rqN (spR z0 x0) (spR z1 x1) (spR z2 x2))=R:=⟨_,rfl⟩
 rw[eR] at fr cell
 simp only[eR] at es
 obtain⟨U,eU⟩:∃ U:Nat→List Int,U=fun k=>slot data (pz ([z0,z1,z2].zip ((atK [spB z0 x0,spB z1 x1,spB z2 x2,0] O k).take 3))*out) out:=⟨_,rfl⟩
 have uv:∀ k,k≤3→(U k).length=out.toNat ∧ ∀ j,0≤(U k).getD j 0∧(U k).getD j 0≤65535:=fun k hk=>by
  rw[eU]
  exact⟨ja6 hg (oi k Jo),jaS og.2.2.2 _ _⟩
 have es:∀ j,evQ [z0,z1,z2] out data x0 x1 x2 j=smF (fun k=>wqN R O 3 k*(((U k).getD j 0:Int):Rat)) 3/65535:=fun j=>by
  rw[eU]
  exact es j
 have fm:∀ j k,k≤3→Fq 92 (wqN R O 3 k*(((U k).getD j 0:Int):Rat)):=fun j k hk=>(fq_wq fr O 3 k).mul (jav (n:=5) (by have:=(uv k hk).2 j;omega) Jo)
 have fs:∀ j k,k≤3→Fq 371 (smF (fun k=>wqN R O 3 k*(((U k).getD j 0:Int):Rat)) k):=fun j k hk=>by
  have fa:∀ k,k≤3→Fq ((k+1)*92+k) (smF (fun k=>wqN R O 3 k*(((U k).getD j 0:Int):Rat)) k):=fun k=>by
   induction k with
   | zero=>exact fun _=>(fm j 0 Jo).mono Jo
   | succ k ih=>exact fun h=>((ih Jo).add (fm j (k+1) h)).mono (by rw[Nat.add_mul (k+1)];omega)
  exact(fa k hk).mono Jo
 have fz:Fq 371 (0:Rat):=jbd.mono Jo
 have c:=reval3_t [z0,z1,z2] data O out (fun j=>[.str (txq ((rqN x0 x1 x2) j)).1,.str (txq ((rqN x0 x1 x2) j)).2]) (fun k=>(atK [spB z0 x0,spB z1 x1,spB z2 x2,0] O k).take 3) U (fun k=>pz ([z0,z1,z2].zip ((atK [spB z0 x0,spB z1 x1,spB z2 x2,0] O k).take 3))*out) (fun k=>txq (wqN R O 3 k)) (fun j=>txq (smF (fun k=>wqN R O 3 k*(((U k).getD j 0:Int):Rat)) 3/65535)) (fun j k=>txq (((U k).getD j 0:Int):Rat)) (fun j k=>txq (wqN R O 3 k*(((U k).getD j 0:Int):Rat))) (fun j k=>txq (sQ (fun k=>wqN R O 3 k*(((U k).getD j 0:Int):Rat)) k)) og.1 ol Jo
  (fun k hk=>by
   rcases hO with rfl|rfl|rfl|rfl|rfl|rfl<;>rcases (show k=0∨k=1∨k=2 by omega) with rfl|rfl|rfl<;>refine⟨Jd,?_,rfl⟩<;>(simp[atK];omega))
  (fun k hk=>by
   obtain⟨i0,i1,i2,e,hh⟩:=oc k Jo
   rw[e];rfl)
  (fun k hk=>?_) (fun k hk=>(uv k hk).1) cell (fun k hk=>?_) (jbz (n:=0) Jo) (fun j=>rfl) (txq ((65535:Int):Rat)) (jbz (n:=65535) Jo)
  (fun j k hj hk=>jbz (by have:=(uv k hk).2 j;omega))
  (fun j k hj hk=>zrmul (fq_wq fr O 3 k) (jav (n:=5) (by have:=(uv k hk).2 j;omega) Jo) Jo Jo Jo)
  (fun j k hj hk=>?_)
  (fun j hj=>zrdiv (fs j 3 Jo) (jav (n:=5) (z:=65535) jaC Jd) jaX Jo Jo Jo)
 ·rw[show (fun j=>txq (evQ [z0,z1,z2] out data x0 x1 x2 j))=_ from funext fun j=>congrArg txq (es j)]
  exact c
 ·have bd:=jdJ hg (oi k Jo)
  refine⟨bd,?_⟩
  rw[eU]
  exact jcN bd.1 Jo
 ·have r:=jc8 [z0,z1,z2] out data ((atK [spB z0 x0,spB z1 x1,spB z2 x2,0] O k).take 3) Js Jo (by rw[jke];omega)
  rw[hg,oi k Jo] at r
  exact r
 ·rcases k with _|k
  ·have c:=zradd fz (fm j 0 Jo) Jo Jo Jo
   rw[Rat.zero_add] at c
   exact c
  ·exact zradd (fs j k Jo) (fm j (k+1) hk) Jo Jo Jo
theorem argL {f:Nat}{g a a' r:D}(h:Cl f [g,a] r)(A:_root_.Go.V.Fin a a'):Cl f [g,a'] r:=Called.arg (show FinL [g,a] [g,a'] from ⟨Fin.same _,A,trivial⟩) h
theorem fin_nil2 (f:Nat→List D):_root_.Go.V.Fin (.slf 2 0 f) .nil:=⟨fun hp v hv=>by
 simp only[Den] at hv ⊢
 refine⟨none,0,hv,?_⟩
 simp⟩
theorem jgi (p:Nat→Prop):∀ m:Nat,(∀ i,i<m→p i) ∨ ∃ k,k<m∧(∀ i,i<k→p i) ∧ ¬ p k
 | 0 => .inl fun i hi=>absurd hi (Nat.not_lt_zero _)
 | m+1=>by
  rcases jgi p m with h|⟨k,h1,h2,h3⟩
  ·by_cases g:p m
   ·exact .inl fun i hi=>by
     rcases jjO i m with a|a
     ·exact h i a
     ·obtain rfl:i=m:=Jo
      exact g
   ·exact .inr ⟨m,Jo,h,g⟩
  ·exact .inr ⟨k,Jo,h2,h3⟩
end Go.Proofs.YtbnghipgicmpdaaGreatDoor
end
section
namespace Go.Gr
def PR:List Nat→Nat
 | []=>1
 | n::r=>n*PR r
def ixl:List Nat→Nat→List Int
 | [],_=>[]
 | n::r,m=>((m/PR r%n:Nat):Int)::ixl r m
theorem jey {ns:List Nat}(h:∀ n∈ns,0<n):0<PR ns:=by
 induction ns with
 | nil=>decide
 | cons n r ih=>exact Nat.mul_pos (h n Js) (ih fun x hx=>h x (by simp[hx]))
theorem jar (ns:List Nat)(m:Nat):(ixl ns m).length=ns.length:=by
 induction ns with
 | nil=>rfl
 | cons n r ih=>simp[ixl,ih]
theorem jeh (ns:List Nat)(m i n:Nat)(h:ns[i]? = some n):(ixl ns m)[i]? = some ((m/PR (ns.drop (i+1))%n:Nat):Int):=by
 induction ns generalizing i with
 | nil=>simp at h
 | cons a r ih=>
  cases i with
  | zero=>simp at h;subst h;simp[ixl]
  | succ i=>simpa [ixl] using ih i (by simpa using h)
theorem jin (ns:List Nat)(hp:∀ n∈ns,0<n)(m:Nat):ixl ns (m%PR ns)=ixl ns m:=by
 induction ns generalizing m with
 | nil=>rfl
 | cons n r ih=>
  have hr:∀ x∈r,0<x:=fun x hx=>hp x (by simp[hx])
  have h1:=jey hr
  simp only[ixl,PR]
  have e1:m%(n*PR r)/PR r%n=m/PR r%n:=by
   rw[jjK,Nat.mod_mul_right_div_self,Nat.mod_mod]
  have e2:ixl r (m%(n*PR r))=ixl r m:=by
   rw[← ih hr (m%(n*PR r)),Nat.mod_mul_left_mod,ih hr]
  rw[e1,e2]
theorem jeJ (ns:List Nat)(hp:∀ n∈ns,0<n)(m:Nat)(h:m%PR ns=PR ns-1):ixl ns m=ns.map fun n:Nat=>(n:Int)-1:=by
 induction ns generalizing m with
 | nil=>rfl
 | cons n r ih=>
  have hr:∀ x∈r,0<x:=fun x hx=>hp x (by simp[hx])
  have hn:0<n:=hp n Js
  have h1:=jey hr
  simp only[PR] at h
  rw[jjK,Nat.mod_mul] at h
  have h2:=jjJ m h1
  have h3:=jjJ (m/PR r) hn
  have h4:PR r*(m/PR r%n)+m%PR r=PR r*(n-1)+(PR r-1):=by
   have:PR r*n=PR r*(n-1)+PR r:=by
    obtain⟨k,rfl⟩:∃ k,n=k+1:=⟨n-1,Jo⟩
    simp[Nat.mul_add]
   omega
  have h5:m/PR r%n=n-1:=by
   have e:=congrArg (· / PR r) h4
   simp only[Nat.mul_add_div h1] at e
   rw[Nat.div_eq_of_lt h2,Nat.div_eq_of_lt (by omega:PR r-1<PR r)] at e
   omega
  have h6:m%PR r=PR r-1:=by rw[h5] at h4;omega
  simp only[ixl,List.map_cons,h5,ih hr m h6]
  congr 1
  omega
theorem jeH (ns:List Nat)(hp:∀ n∈ns,0<n)(m:Nat)(h:ixl ns m=ns.map fun n:Nat=>(n:Int)-1):m%PR ns=PR ns-1:=by
 induction ns generalizing m with
 | nil=>simp[PR,Nat.mod_one]
 | cons n r ih=>
  have hr:∀ x∈r,0<x:=fun x hx=>hp x (by simp[hx])
  have hn:0<n:=hp n Js
  have h1:=jey hr
  simp only[ixl,List.map_cons,List.cons.injEq] at h
  have h2:=ih hr m h.2
  have h3:m/PR r%n=n-1:=Jo
  simp only[PR]
  rw[jjK,Nat.mod_mul,h2,h3]
  obtain⟨k,rfl⟩:∃ k,n=k+1:=⟨n-1,Jo⟩
  simp[Nat.mul_add];omega
theorem jet (ns:List Nat)(hp:∀ n∈ns,0<n)(m:Nat)(h:m%PR ns=0):ixl ns m=List.replicate ns.length 0:=by
 rw[← jin ns hp m,h]
 clear h
 induction ns with
 | nil=>rfl
 | cons n r ih=>simp only[ixl,Nat.zero_div,Nat.zero_mod,jkn,List.replicate_succ,ih fun x hx=>hp x (by simp[hx])];rfl
theorem succ_div {m P:Nat}(hP:0<P)(h:m%P≠P-1):(m+1)/P=m/P:=by
 have h2:=jjJ m hP
 have h3:=Nat.div_add_mod m P
 have:m+1=P*(m/P)+(m%P+1):=Jo
 rw[this,Nat.mul_add_div hP,Nat.div_eq_of_lt (by omega:m%P+1<P)]
 omega
theorem jgy {m P:Nat}(hP:0<P)(h:m%P=P-1):(m+1)/P=m/P+1∧(m+1)%P=0:=by
 have h3:=Nat.div_add_mod m P
 have:m+1=P*(m/P+1):=by rw[Nat.mul_add];omega
 rw[this,Nat.mul_div_cancel_left _ hP,Nat.mul_mod_right]
 exact⟨rfl,rfl⟩
theorem mod_succ {a n:Nat}(hn:0<n)(h:a%n≠n-1):(a+1)%n=a%n+1:=by
 have h2:=jjJ a hn
 have h3:=Nat.div_add_mod a n
 have:a+1=n*(a/n)+(a%n+1):=Jo
 rw[this,Nat.mul_add_mod,jjL (by omega:a%n+1<n)]
theorem jgZ (ns:List Nat)(hp:∀ n∈ns,0<n)(m j n:Nat)(hj:ns[j]? = some n)(x:Int)(hx:(ixl ns m)[j]? = some x)
  (h1:(ixl ns m).drop (j+1)=(ns.drop (j+1)).map fun n:Nat=>(n:Int)-1) (h2:x≠(n:Int)-1):ixl ns (m+1)=(ixl ns m).take j++(x+1)::List.replicate (ns.length-(j+1)) 0:=by
 induction ns generalizing j with
 | nil=>simp at hj
 | cons a r ih=>
  have hr:∀ y∈r,0<y:=fun y hy=>hp y (by simp[hy])
  have ha:0<a:=hp a Js
  have hP:=jey hr
  cases j with
  | zero=>
   simp at hj hx
   subst hj
   simp[ixl] at h1 hx
   have h3:=jeH r hr m h1
   have h4:=jgy hP h3
   have h5:=jet r hr _ h4.2
   simp only[ixl,h4.1,h5]
   have h6:m/PR r%a≠a-1:=fun e=>by
    apply h2
    rw[← hx,← Int.natCast_ediv,← Int.natCast_emod,e]
    omega
   rw[mod_succ ha h6]
   subst hx
   simp
  | succ j=>
   have hj':r[j]? = some n:=by simpa using hj
   have hx':(ixl r m)[j]? = some x:=by simpa [ixl] using hx
   have h1':(ixl r m).drop (j+1)=(r.drop (j+1)).map fun n:Nat=>(n:Int)-1:=by simpa [ixl] using h1
   have h3:m%PR r≠PR r-1:=fun e=>by
    have:=jeJ r hr m e
    rw[this] at hx'
    simp[hj'] at hx'
    omega
   have h4:=ih hr j hj' hx' h1'
   simp only[ixl,succ_div hP h3,h4,List.take_succ_cons,List.cons_append,jkn]
   congr 2
   simp
theorem jf4 (ns:List Nat)(hp:∀ n∈ns,0<n)(m:Nat)(p:Int):((ns.map fun n:Nat=>(n:Int)).zip (ixl ns m)).foldl (fun p a=>p*a.1+a.2) p=p*(PR ns:Int)+((m%PR ns:Nat):Int):=by
 induction ns generalizing p with
 | nil=>simp[ixl,PR,Nat.mod_one]
 | cons n r ih=>
  have hr:∀ x∈r,0<x:=fun x hx=>hp x (by simp[hx])
  simp only[ixl,List.map_cons,List.zip_cons_cons,List.foldl_cons,PR]
  rw[ih hr,jjK n,Nat.mod_mul]
  simp only[Int.natCast_add,jjQ,jj1,jjT]
  rw[jjS (PR r:Int) (n:Int),jjS (PR r:Int) _]
  omega
def swp (l:List Int)(a b:Nat):List Int:=(l.set a (l.getD b 0)).set b (l.getD a 0)
def swn (l:List Nat)(a b:Nat):List Nat:=(l.set a (l.getD b 0)).set b (l.getD a 0)
end Go.Gr
end
section
namespace Go.Proofs.YtbnghipgicmpdaaGreatDoor
open Go Go.V Go.Gr
def nz (ns:List Nat):List Int:=ns.map fun n:Nat=>(n:Int)
theorem jcV (ns:List Nat):prod (nz ns)=(PR ns:Nat):=by
 have h:∀ (l:List Nat) (q:Int),(nz l).foldl (· * ·) q=q*(PR l:Nat):=by
  intro l
  induction l with
  | nil=>intro q;simp[nz,PR]
  | cons x l ih=>
   intro q
   have:=ih (q*x)
   simp only[nz,List.map_cons,List.foldl_cons,PR] at this ⊢
   rw[this,jjQ,jjT]
 have:=h ns 1
 simpa [prod] using this
def rl (lt:Int→Int→Bool)(data:List Int)(w:Nat):Nat→List Int
 | 0=>slot data 0 w
 | i+1=>(rl lt data w i).set (i%w) (if lt (data.getD i 0) ((rl lt data w i).getD (i%w) 0) then data.getD i 0 else (rl lt data w i).getD (i%w) 0)
theorem jcR {lt:Int→Int→Bool}{data:List Int}{w:Nat}(h:w≤data.length)(i:Nat):(rl lt data w i).length=w:=by
 induction i with
 | zero=>simp[rl,slot];omega
 | succ i ih=>simp[rl,ih]
theorem jge {ns:List Nat}{m p n:Nat}(hn:ns[p]? = some n)(hp:p<ns.length) :
  (List.replicate (p+1) (0:Int)++(ixl ns m).drop (p+1)).set p ((m/PR (ns.drop (p+1))%n:Nat):Int)=List.replicate p 0++(ixl ns m).drop p∧m/PR (ns.drop (p+1))/n=m/PR (ns.drop p):=by
 have hx:=jeh ns m p n hn
 constructor
 ·rw[List.set_append_left _ _ Js,List.replicate_succ',List.set_append_right _ _ Js]
  rw[jks (i:=p) (by rw[jar];exact hp)]
  have:=(jkh.1 hx).2
  rw[this]
  simp
 ·have hd:ns.drop p=n::ns.drop (p+1):=by
   rw[jks hp]
   rw[(jkh.1 hn).2]
  rw[hd,PR,Nat.div_div_eq_div_mul,jjK]
theorem rindex_c (ns:List Nat)(m:Nat)(hp:∀ n∈ns,0<n∧n≤1000000)(hl:ns.length≤10000)(hm:m≤1000000000):Cl 63 [Jj (nz ns),Ji m] (Jj (ixl ns m)):=by
 have hlen:(nz ns).length=ns.length:=by simp[nz]
 refine V.en tbOk Tryz.func63 ?_
 refine V.r0 (V.a2 hlen @jjF) ?_
 have e0:List.replicate ns.length (0:Int)=List.replicate ns.length 0++(ixl ns m).drop ns.length:=by
  rw[jkq (by rw[jar];omega),List.append_nil]
 have e1:(m:Int)=((m/PR (ns.drop ns.length):Nat):Int):=by simp[PR]
 refine jad (ns.length) (fun k=>k≤ns.length) (fun k=>k) (fun k=>[(1,Ji ((m/PR (ns.drop k):Nat):Int)),(6,Ji ((k:Int)-1))]) (fun k=>[(9,.arr .i64 (List.replicate k 0++(ixl ns m).drop k))]) ?_ ?_ ?_
 ·rw[← e0,← e1]
  exact V.wk
 ·exact jjG _
 intro p hpl
 (conv=>whnf)
 refine V.st ?_
 refine V.br (fun h=>?_) (fun h=>?_)
 ·have hp0:0<p:=by simp at h;omega
  obtain⟨p,rfl⟩:∃ q,p=q+1:=⟨p-1,Jo⟩
  have hp1:p<ns.length:=Jo
  obtain⟨n,hn⟩:∃ n,ns[p]? = some n:=⟨ns[p],jkb hp1⟩
  have hn0:=hp n (jkc hn)
  have en:(nz ns).getD p 0=n:=by simp[nz,jj8,hn]
  have e2:(((p+1:Nat):Int)-1)=(p:Int):=Jo
  have hst:=jge (m:=m) hn hp1
  have e3:((m/PR (ns.drop (p+1)):Nat):Int)%(n:Int)=((m/PR (ns.drop (p+1))%n:Nat):Int):=Js
  have e4:((m/PR (ns.drop (p+1)):Nat):Int)/(n:Int)=((m/PR (ns.drop p):Nat):Int):=by rw[← hst.2];simp
  have hl2:(List.replicate (p+1) (0:Int)++(ixl ns m).drop (p+1)).length=ns.length:=by simp[jar];omega
  have hl3:m/PR (ns.drop (p+1))≤m:=jjX _ _
  generalize hq:m/PR (ns.drop (p+1))=q at *
  refine V.r0 (V.a5 hlen e2 @en @jjF @jjC) ?_
  rw[e3,hst.1]
  refine V.st ?_
  rw[e4]
  exact⟨p,Jo,Jo,V.wk⟩
 ·have hp0:p=0:=by simp at h;omega
  subst hp0
  (conv=>whnf)
  refine V.st ?_
  have h0:(List.replicate 0 (0:Int)++(ixl ns m).drop 0)=ixl ns m:=Js
  have hli:=jar ns m
  rw[h0]
  refine Fin.of ?_
  rw[jko (by rw[hli];simp)]
def lastL (ns:List Nat):List Int:=ns.map fun n:Nat=>(n:Int)-1
def flat (ns:List Nat)(f:Nat→List Int)(m:Nat):List Int:=(List.range m).flatMap f
theorem jdY (ns:List Nat)(f:Nat→List Int)(m:Nat):flat ns f (m+1)=flat ns f m++f m:=by
 simp[flat,List.range_succ]
theorem flat_len {ns:List Nat}{f:Nat→List Int}{m:Nat}(h:∀ j,j<m→(f j).length≤4):(flat ns f m).length≤4*m:=by
 induction m with
 | zero=>simp[flat]
 | succ m ih=>
  rw[jdY,jkd]
  have h1:=ih fun j hj=>h j Jo
  have h2:=h m Jo
  omega
theorem PR_le {ns:List Nat}(h1:ns.length≤4)(h2:∀ n∈ns,2≤n∧n≤9):PR ns≤6561:=by
 have hb:∀ l:List Nat,(∀ n∈l,2≤n∧n≤9)→PR l≤9^l.length:=by
  intro l
  induction l with
  | nil=>intro _;decide
  | cons x l ih=>
   intro hl
   have h3:=ih fun n hn=>hl n (by simp[hn])
   have h4:=hl x Js
   rw[PR,jkn,Nat.pow_succ,jjK]
   exact Nat.mul_le_mul h3 h4.2
 exact jjH (hb ns h2) (jjW Jo h1)
theorem ixl_pad0 {ns:List Nat}(h1:1≤ns.length∧ns.length≤4)(h2:∀ n∈ns,2≤n∧n≤9):pad4 (ixl ns 0)=[0,0,0,0]:=by
 rw[jet ns (fun n hn=>by have:=h2 n hn;omega) 0 (Nat.zero_mod _)]
 unfold pad4
 rw[List.length_replicate,← List.replicate_append_replicate.symm]
 have:ns.length+(4-ns.length)=4:=Jo
 simp[this]
theorem jgP {a b:List Int}(h:a.length=b.length)(e:pad4 a=pad4 b):a=b:=(List.append_inj e h).1
theorem jcz {l:List Int}{p k:Nat}{x:Int}(h:l[p]? = some x)(hk:p<k)(hl:l.length≤4):(pad4 (l.take k)).getD p 0=x:=by
 have hp:=(jkh.1 h).1
 unfold pad4
 rw[jj8,jkg (by simp;omega),jkx hk,h]
 rfl
theorem jdN {l:List Int}{p:Nat}{x y:Int}(h:l[p]? = some x)(h1:p<l.length)(hl:l.length≤4):(pad4 (l.take (p+1))).set p y=pad4 (l.take p++y::List.replicate (l.length-(p+1)) 0):=by
 unfold pad4
 have e1:(l.take (p+1)).length=p+1:=by simp;omega
 have e2:(l.take p++y::List.replicate (l.length-(p+1)) 0).length=l.length:=by simp;omega
 have e4:(l.take p).length=p:=by simp;omega
 rw[e1,e2,List.set_append_left _ _ Jo,jky,h]
 have e3:(l.take p++(some x).toList).set p y=l.take p++[y]:=by
  rw[List.set_append_right _ _ Jo,e4,Nat.sub_self]
  rfl
 rw[e3,jkf,jkf]
 congr 1
 rw[List.singleton_append,List.cons_append,List.replicate_append_replicate]
 congr 2
 omega
theorem jfb {l:List Int}{p:Nat}{x:Int}(h:l[p]? = some x)(hl:l.length≤4):(pad4 (l.take (p+1))).set p 0=pad4 (l.take p):=by
 have h1:=(jkh.1 h).1
 rw[jdN h h1 hl]
 unfold pad4
 have e2:(l.take p++(0:Int)::List.replicate (l.length-(p+1)) 0).length=l.length:=by simp;omega
 have e3:(l.take p).length=p:=by simp;omega
 rw[e2,e3,jkf]
 congr 1
 rw[← List.replicate_succ,List.replicate_append_replicate]
 congr 1
 omega
theorem jdm {ns:List Nat}{m p n:Nat}{x:Int}(hpos:∀ n∈ns,0<n)(hn:ns[p]? = some n)(hx:(ixl ns m)[p]? = some x):0≤x∧x≤(n:Int)-1:=by
 rw[jeh ns m p n hn] at hx
 cases hx
 have:=jjJ (m/PR (ns.drop (p+1))) (hpos n (jkc hn))
 omega
def mkV0 (vals:List Int)(w m k:Nat):Int:=if 0<vals.length then vals.getD ((m*w+k)%vals.length) 0 else 0
def mkV (vals:List Int)(sm:Bool)(ns:List Nat)(w m k:Nat):Int:=
 if sm then 60000*(ixl ns m).getD (k%ns.length) 0/((nz ns).getD (k%ns.length) 0-1)+mkV0 vals w m k%5000 else mkV0 vals w m k
def mkF (vals:List Int)(sm:Bool)(ns:List Nat)(w m:Nat):List Int:=(List.range w).map (mkV vals sm ns w m)
theorem getD_mem {xs:List Int}{i:Nat}(h:i<xs.length):xs.getD i 0∈xs:=by
 rw[jj8,jkb h];simp
theorem mkV0_bd {vals:List Int}{w m k:Nat}(hv:∀ v∈vals,0≤v∧v≤65535):0≤mkV0 vals w m k∧mkV0 vals w m k≤65535:=by
 unfold mkV0
 split
 ·rename_i h
  exact hv _ (getD_mem (jjJ _ h))
 ·omega
theorem mk_sm {ns:List Nat}{m k:Nat}(h1:1≤ns.length)(h2:∀ n∈ns,2≤n∧n≤9):0≤(ixl ns m).getD (k%ns.length) 0∧(ixl ns m).getD (k%ns.length) 0≤8∧1≤(nz ns).getD (k%ns.length) 0-1∧(nz ns).getD (k%ns.length) 0-1≤8 ∧
  0≤60000*(ixl ns m).getD (k%ns.length) 0/((nz ns).getD (k%ns.length) 0-1)∧60000*(ixl ns m).getD (k%ns.length) 0/((nz ns).getD (k%ns.length) 0-1)≤60000:=by
 have hlt:k%ns.length<ns.length:=jjJ _ Jo
 generalize k%ns.length=i at *
 obtain⟨n,hn⟩:∃ n,ns[i]? = some n:=⟨_,jkb hlt⟩
 obtain⟨x,hx⟩:∃ x,(ixl ns m)[i]? = some x:=⟨_,jkb (by rw[jar];exact hlt)⟩
 have hnb:=h2 n (jkc hn)
 have hxb:=jdm (fun n hn=>by have:=h2 n hn;omega) hn hx
 have e1:(nz ns).getD i 0=n:=by simp[nz,jj8,hn]
 have e2:(ixl ns m).getD i 0=x:=by rw[jj8,hx];rfl
 rw[e1,e2]
 refine⟨hxb.1,Jo,Jo,Jo,jjy Jo Jo,?_⟩
 exact Int.ediv_le_of_le_mul Jo Jo
theorem mkV_bd {vals:List Int}{sm:Bool}{ns:List Nat}{w m k:Nat}(hv:∀ v∈vals,0≤v∧v≤65535)(h1:1≤ns.length)(h2:∀ n∈ns,2≤n∧n≤9):0≤mkV vals sm ns w m k∧mkV vals sm ns w m k≤65535:=by
 have h3:=mkV0_bd (w:=w) (m:=m) (k:=k) hv
 have h4:=mk_sm (m:=m) (k:=k) h1 h2
 unfold mkV
 split<;>omega
theorem made_c (ds:List Int)(o:Int)(vals:List Int)(sm:Bool)(ns:List Nat)(w:Nat)(hv:∀ v∈vals,0≤v∧v≤65535)(hvl:vals.length≤281474976710656)(h1:1≤ns.length∧ns.length≤4)(h2:∀ n∈ns,2≤n∧n≤9)(hw:1≤w∧w≤4) :
  Cl 32 [.agg [.ints .u8 ds,.int .u8 o,.ints .u16 vals,.bool sm],Jj (nz ns),Ji w] (gridD (nz ns) w (flat ns (mkF vals sm ns w) (PR ns))):=by
 have hlen:(nz ns).length=ns.length:=by simp[nz]
 have hPR:=PR_le h1.2 h2
 have hprod:prod (nz ns)=(PR ns:Nat):=jcV ns
 have hpz:∀ k,InR .i64 (prod ((nz ns).take k)):=fun k=>(jdq (size:=nz ns) (by
  rw[jj7]
  intro x hx
  obtain⟨n,hn,rfl⟩:=List.mem_map.1 hx
  have:=h2 n hn
  simp;omega) k).2.2 Jo
 have hfl:∀ j,(mkF vals sm ns w j).length≤4:=fun j=>by simp[mkF];omega
 refine V.en tbOk Tryz.func32 ?_
 refine V.r0 @jjC ?_
 refine Lp.ghostBox 72 7 2 .i64 Jd Jd ?_
 (conv=>whnf)
 refine jad (0) (fun k=>k≤PR ns) (fun k=>PR ns-k) (fun k=>[(8,Ji k)]) (fun k=>[(7,.box [Jj (nz ns),Ji w,.osl 72 0 (flat ns (mkF vals sm ns w) k).length]),(72,.arr .i64 (flat ns (mkF vals sm ns w) k))]) ?_ ?_ ?_
 ·exact V.wk
 ·exact jjx _
 intro m hm
 have hfm:=flat_len (ns:=ns) (m:=m) (fun j _=>hfl j)
 (conv=>whnf)
 (try simp only[hprod])
 repeat ((first|refine V.s1 ?_|((try ((with_reducible refine .ext ?_);(conv=>whnf);(try simp only[hprod])));(with_reducible refine jaa (r:=?_) ?_ ?_);rotate_left;(focus (first|exact(jgL _ (fun k _=>hpz k) Jo)));(conv=>whnf)));(try simp only[hprod]))
 refine V.br (fun hq=>?_) (fun hq=>?_)
 ·rw[decide_eq_true_eq] at hq
  have hm1:m<PR ns:=Jo
  refine V.u1 (rindex_c ns m (fun n hn=>by have:=h2 n hn;omega) Jo Jo) ?_
  refine jad (0) (fun k=>k≤w) (fun k=>w-k) (fun k=>[(10,Ji k)]) (fun k=>[(7,.box [Jj (nz ns),Ji w,.osl 72 0 (flat ns (mkF vals sm ns w) m++(List.range k).map (mkV vals sm ns w m)).length]),(72,.arr .i64 (flat ns (mkF vals sm ns w) m++(List.range k).map (mkV vals sm ns w m)))]) ?_ ?_ ?_
  ·simp only[List.range_zero,List.map_nil,List.append_nil]
   exact V.wk
  ·exact jjx _
  intro k hk
  have hb0:=mkV0_bd (w:=w) (m:=m) (k:=k) hv
  have hbs:=mk_sm (m:=m) (k:=k) h1.1 h2
  have hmw:(m:Int)*w=((m*w:Nat):Int):=Js
  have hmw2:m*w≤6561*4:=Nat.mul_le_mul Jo Jo
  (conv=>whnf)
  refine V.st ?_
  refine V.br (fun hq2=>?_) (fun hq2=>?_)
  ·rw[decide_eq_true_eq] at hq2
   (conv=>whnf)
   refine V.st ?_
   refine ja5 [(11,Ji (mkV0 vals w m k))] [] (CondB.mk (fun hq3=>?_) (fun hq3=>?_)) ?_
   ·rw[decide_eq_true_eq] at hq3
    have hvp:0<vals.length:=Jo
    have e1:((((m*w:Nat):Int)+k)%vals.length).toNat=(m*w+k)%vals.length:=by
     rw[← Int.natCast_add,← Int.natCast_emod,jjF]
    have e2:vals.getD ((m*w+k)%vals.length) 0=mkV0 vals w m k:=by unfold mkV0;rw[if_pos hvp]
    have e3:=jjz (((m*w:Nat):Int)+k) (b:=vals.length) Jo
    have e4:=jjY (((m*w:Nat):Int)+k) (b:=vals.length) Jo
    (conv=>whnf)
    refine V.st ?_
    refine⟨(V.tk [0,1,2,3,4,5,6,7,8,9,10,11,12,13,14] .done),[],V.pok,.go (jac ?_)⟩
    (conv=>whnf)
    (try simp only[hmw,e1,e2])
    repeat ((first|refine V.s1 ?_);(try simp only[hmw,e1,e2]))
    exact V.wk
   ·rw[decide_eq_false_iff_not] at hq3
    have e2:mkV0 vals w m k=0:=by unfold mkV0;rw[if_neg Jo]
    rw[e2]
    (conv=>whnf)
    refine V.st ?_
    exact V.wk
   (conv=>whnf)
   refine V.st ?_
   refine ja5 [(11,Ji (mkV vals sm ns w m k))] [] (CondB.mk (fun hq3=>?_) (fun hq3=>?_)) ?_
   ·have hli:=jar ns m
    have hki:(k:Int)%(ns.length:Int)=((k%ns.length:Nat):Int):=Js
    have hkl:k%ns.length<ns.length:=jjJ _ Jo
    have e2:mkV vals sm ns w m k=60000*(ixl ns m).getD (k%ns.length) 0/((nz ns).getD (k%ns.length) 0-1)+mkV0 vals w m k%5000:=by unfold mkV;rw[hq3];rfl
    rw[e2]
    generalize mkV0 vals w m k=v0 at *
    generalize hgi:k%ns.length=i at *
    refine V.r0 (V.a3 hlen hki @jjF) ?_
    refine⟨(V.tk [0,1,2,3,4,5,6,7,8,9,10,11,12,13] (V.e1 14 [] .done)),[],V.pok,.go (jac ?_)⟩
    refine V.r0 (V.a3 hlen hki @jjF) ?_
    exact V.wk
   ·have e2:mkV vals sm ns w m k=mkV0 vals w m k:=by unfold mkV;rw[hq3];rfl
    rw[e2]
    (conv=>whnf)
    refine V.st ?_
    exact V.wk
   have hst:flat ns (mkF vals sm ns w) m++(List.range k).map (mkV vals sm ns w m)++[mkV vals sm ns w m k]=flat ns (mkF vals sm ns w) m++(List.range (k+1)).map (mkV vals sm ns w m):=by
    rw[List.range_succ];simp
   have hst2:(flat ns (mkF vals sm ns w) m++(List.range k).map (mkV vals sm ns w m)).length+1=(flat ns (mkF vals sm ns w) m++(List.range (k+1)).map (mkV vals sm ns w m)).length:=by rw[← hst];simp;omega
   (conv=>whnf)
   refine V.st ?_
   try refine And.intro (fun _=>⟨rfl,by simp;omega⟩) ?_
   refine V.r0 (V.a8 @jjC @jku @List.take_succ_cons.{0} @List.take_zero.{0} @jkn @List.length_nil.{0} hst hst2) ?_
   exact⟨k+1,Jo,Jo,V.wk⟩
  ·rw[decide_eq_false_iff_not] at hq2
   have hkw:k=w:=Jo
   subst hkw
   have hfs:flat ns (mkF vals sm ns k) m++(List.range k).map (mkV vals sm ns k m)=flat ns (mkF vals sm ns k) (m+1):=(jdY _ _ _).symm
   rw[hfs]
   (conv=>whnf)
   refine V.st ?_
   exact⟨m+1,Jo,Jo,V.wk⟩
 ·rw[decide_eq_false_iff_not] at hq
  have hm1:m=PR ns:=Jo
  subst hm1
  (conv=>whnf)
  refine V.st ?_
  rw[jko (jjG _)]
  exact Fin.of rfl
def nsD (ds:List Int):List Nat:=if ds=[] then [2] else (ds.take 3).map fun x=>(2+x%3).toNat
def wD (o:Int):Nat:=(1+o%3).toNat
def draftD (ds:List Int)(o:Int)(vals:List Int)(sm:Bool):D := .agg [.ints .u8 ds,.int .u8 o,.ints .u16 vals,.bool sm]
def dData (ds:List Int)(o:Int)(vals:List Int)(sm:Bool):List Int:=flat (nsD ds) (mkF vals sm (nsD ds) (wD o)) (PR (nsD ds))
theorem nsD_bd (ds:List Int):(1≤(nsD ds).length∧(nsD ds).length≤3) ∧ ∀ n∈nsD ds,2≤n∧n≤4:=by
 unfold nsD
 split
 ·simp
 ·rename_i h
  have:0<ds.length:=List.length_pos_iff.2 h
  refine⟨by simp;omega,fun n hn=>?_⟩
  obtain⟨x,_,rfl⟩:=List.mem_map.1 hn
  omega
theorem wD_bd (o:Int):1≤wD o∧wD o≤3:=by unfold wD;omega
theorem nz_nsD {ds:List Int}(h:ds≠[]):(ds.take 3).map (fun x=>2+x%3)=nz (nsD ds):=by
 unfold nsD nz
 rw[if_neg h,List.map_map]
 refine List.map_congr_left fun x _=>?_
 simp
 omega
theorem draft_c (ds:List Int)(o:Int)(vals:List Int)(sm:Bool)(hd:∀ v∈ds,0≤v∧v≤255)(hdl:ds.length≤281474976710656)(ho:0≤o∧o≤255)(hv:∀ v∈vals,0≤v∧v≤65535)(hvl:vals.length≤281474976710656) :
  Cl 7 [draftD ds o vals sm] (gridD (nz (nsD ds)) (wD o) (dData ds o vals sm)):=by
 have hb:=nsD_bd ds
 have hwb:=wD_bd o
 have hmade:=made_c ds o vals sm (nsD ds) (wD o) hv hvl Jo (fun n hn=>by have:=hb.2 n hn;omega) Jo
 have hwD:1+o%3=(wD o:Int):=by unfold wD;omega
 refine V.en tbOk Tryz.func7 ?_
 refine V.r0 @jjC ?_
 refine Lp.ghostSlot 26 3 .i64 Jd ?_
 (conv=>whnf)
 refine jad (0) (fun k=>k≤ds.length∧k≤3) (fun k=>3-k) (fun k=>[(4,Ji k),(3,.osl 26 0 ((ds.take k).map fun x=>2+x%3).length)]) (fun k=>[(26,.arr .i64 ((ds.take k).map fun x=>2+x%3))]) ?_ ?_ ?_
 ·exact V.wk
 ·omega
 intro k hk
 (conv=>whnf)
 refine V.st ?_
 refine V.br (fun hq=>?_) (fun hq=>?_)
 ·simp only[jjv,decide_eq_true_eq] at hq
  obtain⟨x,hx,ex⟩:=getxn (xs:=ds) (k:=k) Jo
  have hxb:=hd x (jkc hx)
  have hst:(ds.take k).map (fun x=>2+x%3)++[2+x%3]=(ds.take (k+1)).map fun x=>2+x%3:=by
   rw[jky,hx];simp
  have hst2:((ds.take k).map fun x=>2+x%3).length+1=((ds.take (k+1)).map fun x=>2+x%3).length:=by rw[← hst];simp
  have hml:((ds.take k).map fun x=>2+x%3).length≤3:=by simp;omega
  refine V.r0 (V.a2 @jjF ex) ?_
  try refine And.intro (fun _=>⟨trivial,by simp;omega⟩) ?_
  refine V.r0 (V.a8 @jjC @jku @List.take_succ_cons.{0} @List.take_zero.{0} @jkn @List.length_nil.{0} hst hst2) ?_
  exact⟨k+1,Jo,Jo,V.wk⟩
 ·have hq2:¬ ((k:Int)<ds.length∧(k:Int)<3):=by
   intro h
   rw[decide_eq_true h.1,decide_eq_true h.2] at hq
   cases hq
  have htk:ds.take k=ds.take 3:=by
   rcases jjO k 3 with h|h
   ·rw[jko Jo,jko Jo]
   ·congr 1;omega
  have hml:((ds.take 3).map fun x=>2+x%3).length≤3:=by simp;omega
  rw[htk]
  (conv=>whnf)
  refine V.st ?_
  by_cases hds:ds=[]
  ·subst hds
   have hnd:nsD []=[2]:=rfl
   refine V.br (fun hq3=>?_) (fun hq3=>?_)
   ·refine V.r1 (V.a5 hwD @List.take_succ_cons.{0} @List.take_zero.{0} @jjC @jku) hmade ?_
    exact Fin.of rfl
   ·simp at hq3
  ·have hnd:=nz_nsD hds
   have hlp:0<ds.length:=List.length_pos_iff.2 hds
   refine V.br (fun hq3=>?_) (fun hq3=>?_)
   ·simp at hq3
    exact absurd hq3 hds
   ·rw[hnd] at hml ⊢
    refine V.r1 (V.a2 hwD @jkz) hmade ?_
    exact Fin.of rfl
theorem jiv {ns:List Nat}{f:Nat→List Int}{w m:Nat}(h:∀ j,(f j).length=w):(flat ns f m).length=m*w:=by
 induction m with
 | zero=>simp[flat]
 | succ m ih=>rw[jdY,jkd,ih,h,Nat.add_mul,Nat.one_mul]
theorem mem_flat {ns:List Nat}{f:Nat→List Int}{m:Nat}{x:Int}(h:x∈flat ns f m):∃ j,j<m∧x∈f j:=by
 unfold flat at h
 rw[List.mem_flatMap] at h
 obtain⟨j,h1,h2⟩:=h
 exact⟨j,List.mem_range.1 h1,h2⟩
theorem draft_ok (ds:List Int)(o:Int)(vals:List Int)(sm:Bool)(hv:∀ v∈vals,0≤v∧v≤65535):jaf (nz (nsD ds)) (wD o) (dData ds o vals sm)=true:=by
 have hb:=nsD_bd ds
 have hwb:=wD_bd o
 have hl:(dData ds o vals sm).length=PR (nsD ds)*wD o:=jiv fun j=>by simp[mkF]
 have hP:PR (nsD ds)≤64:=by
  have hbb:∀ l:List Nat,(∀ n∈l,2≤n∧n≤4)→PR l≤4^l.length:=by
   intro l
   induction l with
   | nil=>intro _;decide
   | cons x l ih=>
    intro hl
    have h3:=ih fun n hn=>hl n (by simp[hn])
    have h4:=hl x Js
    rw[PR,jkn,Nat.pow_succ,jjK]
    exact Nat.mul_le_mul h3 h4.2
  exact jjH (hbb _ hb.2) (jjW Jo hb.1.2)
 have hl2:PR (nsD ds)*wD o≤64*3:=Nat.mul_le_mul hP hwb.2
 unfold jaf
 have e1:(nz (nsD ds)).length=(nsD ds).length:=by simp[nz]
 have e2:(nz (nsD ds)).all (fun n=>decide (2≤n∧n≤9))=true:=by
  rw[jj7]
  intro x hx
  obtain⟨n,hn,rfl⟩:=List.mem_map.1 hx
  have:=hb.2 n hn
  simp;omega
 have e3:(dData ds o vals sm).all (fun v=>decide (0≤v∧v≤65535))=true:=by
  rw[jj7]
  intro x hx
  obtain⟨j,_,hj⟩:=mem_flat hx
  unfold mkF at hj
  obtain⟨k,_,rfl⟩:=List.mem_map.1 hj
  have:=mkV_bd (sm:=sm) (w:=wD o) (m:=j) (k:=k) hv hb.1.1 (fun n hn=>by have:=hb.2 n hn;omega)
  simpa using this
 rw[e2,e3,jcV]
 simp only[Bool.and_true,jjv,decide_eq_true_eq]
 refine⟨⟨Jo,Jo⟩,Jo,?_⟩
 rw[hl];simp
end Go.Proofs.YtbnghipgicmpdaaGreatDoor
end
section
namespace Go.Proofs.YtbnghipgicmpdaaGreatDoor
open Go Go.V Go.Nb
def bentZ (k:Int)(zs:List Int):List Int:=if k%6=1 then 2::zs else zs
def bentO (k out:Int):Int:=if k%6=0 then 0 else out
theorem jjs:type_of% @jjF∧type_of% @jjC:=⟨@jjF,@jjC⟩
theorem bent_c (zs data:List Int)(out k:Int)(hk:0≤k∧k≤255)(hz:zs.length≤100):Cl 8 [.agg [Jj zs,Ji out,Jj data],.int .u8 k] (.agg [Jj (bentZ k zs),Ji (bentO k out),Jj data]):=by
 have hm:k.tmod 6=k%6:=Int.tmod_eq_emod_of_nonneg hk.1
 unfold bentZ bentO
 by_cases h0:k%6=0
 ·have e0:decide (k%6=0)=true:=decide_eq_true h0
  rw[if_neg Jo,if_pos h0]
  refine V.en tbOk Tryz.func8 ?_
  refine V.r0 (V.a3 jjs hm e0) ?_
  exact Fin.of rfl
 ·have e0:decide (k%6=0)=false:=decide_eq_false h0
  by_cases h1:k%6=1
  ·have e1:decide (k%6=1)=true:=decide_eq_true h1
   rw[if_pos h1,if_neg h0]
   refine V.en tbOk Tryz.func8 ?_
   (conv=>whnf)
   (conv=>whnf)
   (try simp only[jjs,hm,e0,e1])
   repeat ((first|refine V.s1 ?_);(try simp only[jjs,hm,e0,e1]))
   have ht:List.take (1+zs.length) (2::zs)=2::zs:=jko (by rw[jkn];omega)
   exact Fin.of (by simp[ht])
  ·have e1:decide (k%6=1)=false:=decide_eq_false h1
   rw[if_neg h1,if_neg h0]
   refine V.en tbOk Tryz.func8 ?_
   (conv=>whnf)
   (conv=>whnf)
   (try simp only[jjs,hm,e0,e1])
   repeat ((first|refine V.s1 ?_);(try simp only[jjs,hm,e0,e1]))
   exact Fin.of rfl
theorem jhu (a:Int)(zs:List Int):prod (a::zs)=a*prod zs:=by
 have h:∀ (l:List Int) (b:Int),l.foldl (· * ·) b=b*l.foldl (· * ·) 1:=fun l=>by
  induction l with
  | nil=>intro b;simp
  | cons x l ih=>intro b;simp only[List.foldl_cons];rw[ih (b*x),ih (1*x)];grind
 show List.foldl (· * ·) (1*a) zs=_
 rw[h,jj2]
 rfl
theorem bent_bad {zs data:List Int}{out k:Int}(hg:jaf zs out data=true):(bentZ k zs=zs∧bentO k out=out)∨jaf (bentZ k zs) (bentO k out) data=false:=by
 unfold bentZ bentO
 by_cases h1:k%6=1
 ·refine .inr ?_
  rw[if_pos h1,if_neg Jo]
  cases e:jaf (2::zs) out data with
  | false=>rfl
  | true=>
   have a:=jaq hg
   have b:=jaq e
   have p:=b.2.2.1.2
   rw[jhu,jjT,← a.2.2.1.2] at p
   have q:=a.2.2.1.2
   have l0:0<prod zs*out:=by
    have pp:∀ l:List Int,(∀ z∈l,2≤z∧z≤9)→0<prod l:=fun l=>by
     induction l with
     | nil=>intro _;decide
     | cons x l ih=>intro h;rw[jhu];exact Int.mul_pos (by have:=h x Js;omega) (ih fun z hz=>h z (by simp[hz]))
    exact Int.mul_pos (pp zs a.2.1) Jo
   omega
 ·rw[if_neg h1]
  by_cases h0:k%6=0
  ·refine .inr ?_
   rw[if_pos h0]
   cases e:jaf zs 0 data with
   | false=>rfl
   | true=>have b:=jaq e;omega
  ·rw[if_neg h0]
   exact .inl ⟨rfl,rfl⟩
theorem snoc_i {α:Type}(p:List α)(k:Nat)(d:α)(h:k<p.length):p.take (k+1)=p.take k++[p.getD k d]:=by
 rw[jky,jj8,jkb h];rfl
def icl:List (Int×Int)→List D
 | []=>[]
 | q::l=>Ji q.1::Ji q.2::icl l
theorem icl_len:∀ l,(icl l).length=l.length*2
 | []=>rfl
 | q::l=>by simp only[icl,jkn,icl_len l];omega
theorem icl_at:∀ (l:List (Int×Int)) (j:Nat),j<l.length→List.take 2 (List.drop (j*2) (icl l))=[Ji (l.getD j (0,0)).1,Ji (l.getD j (0,0)).2]
 | q::l,0,_=>rfl
 | q::l,j+1,h=>by
  rw[show (j+1)*2=j*2+1+1 by omega]
  exact icl_at l j (by simpa using h)
theorem jg1 (l:List (Int×Int)):D.pureL (icl l)=true:=by
 induction l with
 | nil=>rfl
 | cons q m ih=>simp only[icl,D.pureL,D.pure,ih]
theorem icl_fr (l:List (Int×Int))(i:Nat):D.freeL i (icl l)=true:=by
 induction l with
 | nil=>rfl
 | cons q m ih=>simp only[icl,D.freeL,D.free];exact ih
theorem icl_pubL (l:List (Int×Int))(i:Nat)(c:Chunk):pubL i c (icl l)=icl l:=by
 induction l with
 | nil=>rfl
 | cons q m ih=>simp only[icl,pubL,pubD,ih]
theorem jg2 (l:List (Int×Int))(i:Nat)(c:Chunk)(K:List D→Prop):pubLK i c (icl l) K=K (icl l):=by rw[jbK,icl_pubL]
theorem icl_app (l m:List (Int×Int)):icl (l++m)=icl l++icl m:=by
 induction l with
 | nil=>rfl
 | cons q r ih=>simp only[List.cons_append,icl,ih]
theorem icl_bsl (l:List (Int×Int)):bslOk (icl l) 0 l.length 2=true:=by
 unfold bslOk
 rw[jg1]
 dsimp only
 rw[Nat.ble_eq,icl_len];omega
theorem icl_pg (l:List (Int×Int))(i:Nat)(K:List D→Prop):jdb i (icl l) K=K (icl l):=by
 have e:∀ m:List (Int×Int),jcy i (icl m)=icl m:=fun m=>by
  induction m with
  | nil=>rfl
  | cons q m ih=>simp only[icl,jcy,D.free,ih]
 rw[je7,e]
theorem catF_i (p:List (Int×Int))(K:List D→Prop):∀ (n:Nat) (acc:List D),n≤p.length→catF 2 (fun j=>List.take 2 (List.drop (j*2) (icl p))) n acc K=K (icl (p.take n)++acc)
 | 0,acc,_=>rfl
 | n+1,acc,h=>by
  unfold catF
  rw[icl_at p n Jo]
  show (match Nat.beq (acc.length+1+1) (acc.length+2) with|true=>catF 2 (fun j=>List.take 2 (List.drop (j*2) (icl p))) n (Ji (p.getD n (0,0)).1::Ji (p.getD n (0,0)).2::acc) K|false=>False)=_
  rw[Nat.beq_refl]
  dsimp only
  rw[catF_i p K n _ Jo,snoc_i p n (0,0) Jo,icl_app]
  simp[icl]
theorem jft (s t:Int):∀ (K:List D→Prop) (l:List (Int×Int)) (k:Nat),k<l.length→jbq (icl l) (k*2) [Ji s,Ji t] K=K (icl (l.set k (s,t)))
 | _,[],_,h=>absurd h Js
 | K,u::p,0,_=>by
  show jbq (Ji u.1::Ji u.2::icl p) 0 [Ji s,Ji t] K=_
  simp only[jbq]
  rfl
 | K,u::p,k+1,h=>by
  rw[show (k+1)*2=k*2+1+1 by omega]
  show jbq (icl p) (k*2) _ _=_
  rw[jft s t _ p k (by simpa using h)]
  rfl
end Go.Proofs.YtbnghipgicmpdaaGreatDoor
end
section
namespace Go.Proofs.YtbnghipgicmpdaaGreatDoor
open Go Go.V Go.Nb Go.RowKit
theorem slf_congrB {h:Pub}{e n:Nat}{f g:Nat→List D}{v:Value}(hf:∀ j,j<n→f j=g j)(H:Den Env.dummy h (.slf e n f) v):Den Env.dummy h (.slf e n g) v:=by
 simp only[Den] at H ⊢
 obtain⟨a,cap,h1,h2,h3,h4⟩:=H
 refine⟨a,cap,h1,h2,h3,?_⟩
 cases a with
 | none=>exact h4
 | some ad=>
  refine⟨h4.1,fun j hj=>?_⟩
  have:=h4.2 j hj
  rw[hf j hj] at this
  exact this
def bndsL:List Lf:=[.recs [.int .i64,.int .i64]]
theorem bnds_of {n:Nat}{f:Nat→List D}(h:∀ j,j<n→l0sD [.int .i64,.int .i64] (f j)):∃ l:List (Int×Int),l.length=n∧(∀ j,j<n→f j=[Ji (l.getD j (0,0)).1,Ji (l.getD j (0,0)).2]):=by
 induction n with
 | zero=>exact⟨[],rfl,fun j hj=>absurd hj (Nat.not_lt_zero _)⟩
 | succ n ih=>
  obtain⟨l,h1,h2⟩:=ih (fun j hj=>h j Jo)
  obtain⟨d,ds,e1,⟨a,ea,ha⟩,d2,ds2,e2,⟨b,eb,hb⟩,e3⟩:=h n Jo
  subst e3 e2 ea eb
  refine⟨l++[(a,b)],by simp[h1],fun j hj=>?_⟩
  rcases jjO j n with g|g
  ·rw[h2 j g]
   simp only[jj8,jkg (show j<l.length by omega)]
  ·obtain rfl:j=n:=Jo
   rw[e1]
   simp only[jj8,jkp (show l.length≤j by omega),show j-l.length=0 by omega]
   rfl
theorem bnds_den {w:World}{v:Value}(h:leavesOk w bndsL [v]):∃ R:List (Int×Int),Den Env.dummy (pubOf w) (V.sl2 R.length (icl R)) v∧R.length≤281474976710656:=by
 obtain⟨v0,r0,e0,⟨n,f,hd,hn,hf⟩,e1⟩:=h
 subst e1
 simp only[List.cons.injEq,and_true] at e0
 subst e0
 obtain⟨l,l1,l2⟩:=bnds_of hf
 subst l1
 exact⟨l,slf_congrB (fun j hj=>by rw[l2 j hj,icl_at l j hj]) hd,Jo⟩
end Go.Proofs.YtbnghipgicmpdaaGreatDoor
end
section
namespace Go.V
open Go Go.RowKit
def Env.alias (E:Env)(i j:Nat):Env:=⟨fun x=>if x=j then E.blk i else E.blk x,fun x=>if x=j then E.siz i else E.siz x,fun x=>if x=j then E.kn i else E.kn x,fun x=>if x=j then E.real i else E.real x,fun x=>if x=j then E.lpr i else E.lpr x⟩
theorem Env.off_alias (E:Env)(i j:Nat):E.off (E.alias i j) j:=fun k hk=>by simp[Env.alias,hk]
section
variable {cx : Cx} {E : Env} {h : Pub} {a : Act} {w : World} {L : Sl} {H : Hp}
theorem Sat.renArr (S:Sat cx E h a w L H){i j:Nat}{k:IntKind}{xs:List Int}(hij:i≠j)(hoff':cx.off≤j)(hi:lookH H i=some (.arr k xs)) :
  Sat cx (E.alias i j) h a w (purge j L) ((j,.arr k xs)::(i,.gone)::jaK j H):=by
 have hoff:=E.off_alias i j
 have ej:(E.alias i j).blk j=E.blk i∧(E.alias i j).siz j=E.siz i∧(E.alias i j).kn j=E.kn i∧(E.alias i j).real j=E.real i:=by simp[Env.alias]
 have ne:∀ x,x≠j→(E.alias i j).blk x=E.blk x∧(E.alias i j).real x=E.real x:=fun x hx=>⟨(hoff x hx).1,(hoff x hx).2.2.2.1⟩
 have live:∀ x c',x≠j→lookH ((j,.arr k xs)::(i,.gone)::jaK j H) x=some c'→c'.live=true→x≠i ∧ ∃ c0,lookH H x=some c0∧c'=jb8 j c0∧c0.live=true:=by
  intro x c' hx hc' hl
  rw[jag,if_neg (Ne.symm hx),jag] at hc'
  by_cases hxi:i=x
  ·rw[if_pos hxi] at hc';cases hc';cases hl
  ·rw[if_neg hxi] at hc'
   obtain⟨c0,h1,h2⟩:=jbo hc'
   exact⟨Ne.symm hxi,c0,h1,h2,by rw[h2,jbm] at hl;exact hl⟩
 have atj:∀ c',lookH ((j,.arr k xs)::(i,.gone)::jaK j H) j=some c'→c' = .arr k xs:=fun c' hc'=>by
  rw[jag,if_pos rfl] at hc';cases hc';rfl
 refine { knows:=?_,mem:=?_,agree:=S.agree,since:=S.since,low:=fun x hx=>jfn S.low hoff hoff' x hx,side:=S.side }
 ·exact fun t=>jbW hoff (S.knows t)
 ·refine { ok:=?_,base:=?_,unpub:=?_,inj:=?_ }
  ·intro x c' hc'
   by_cases hx:x=j
   ·subst hx
    rw[atj c' hc']
    have:=S.mem.ok i _ hi
    simp only[ChunkOk] at this ⊢
    rw[ej.1,ej.2.1,ej.2.2.1,ej.2.2.2]
    exact this
   ·cases hl:c'.live with
    | false=>cases c'<;>first|trivial|(simp[Chunk.live] at hl)
    | true=>
     obtain⟨_,c0,h1,rfl,hl'⟩:=live x c' hx hc' hl
     exact ChunkOk.env hoff hx (S.mem.ok x _ h1)
  ·intro x c' hc' hl hr
   by_cases hx:x=j
   ·subst hx
    rw[ej.2.2.2] at hr
    rw[ej.1]
    exact S.mem.base i _ hi rfl hr
   ·obtain⟨_,c0,h1,rfl,hl'⟩:=live x c' hx hc' hl
    rw[(ne x hx).2] at hr
    rw[(ne x hx).1]
    exact S.mem.base x _ h1 hl' hr
  ·intro x c' hc' hl hr o
   by_cases hx:x=j
   ·subst hx
    rw[ej.2.2.2] at hr
    rw[ej.1]
    exact S.mem.unpub i _ hi rfl hr o
   ·obtain⟨_,c0,h1,rfl,hl'⟩:=live x c' hx hc' hl
    rw[(ne x hx).2] at hr
    rw[(ne x hx).1]
    exact S.mem.unpub x _ h1 hl' hr o
  ·intro x y c1 c2 hxy h1 h2 l1 l2 r1 r2
   by_cases hx:x=j
   ·subst hx
    obtain⟨hyi,c0',g2,rfl,l2'⟩:=live y c2 (Ne.symm hxy) h2 l2
    rw[ej.2.2.2] at r1
    rw[(ne y (Ne.symm hxy)).2] at r2
    rw[ej.1,(ne y (Ne.symm hxy)).1]
    exact S.mem.inj i y _ _ (Ne.symm hyi) hi g2 rfl l2' r1 r2
   ·obtain⟨hxi,c0,g1,rfl,l1'⟩:=live x c1 hx h1 l1
    rw[(ne x hx).2] at r1
    rw[(ne x hx).1]
    by_cases hy:y=j
    ·subst hy
     rw[ej.2.2.2] at r2
     rw[ej.1]
     exact S.mem.inj x i _ _ hxi g1 hi l1' rfl r1 r2
    ·obtain⟨hyi,c0',g2,rfl,l2'⟩:=live y c2 hy h2 l2
     rw[(ne y hy).2] at r2
     rw[(ne y hy).1]
     exact S.mem.inj x y _ _ hxy g1 g2 l1' l2' r1 r2
end
theorem Wk.renBox {off:Nat}{L:Sl}{H:Hp}{L2:Sl}{H2:Hp}(i j b p n:Nat){k:IntKind}{xs:List Int}{ds:List D}(hij:i≠j)(hb:b≠i∧b≠j)(hoff:off≤j)(hi:lookH H i=some (.arr k xs))(hj:lookH (jaK j H) b=some (.box ds))(hp:ds[p]? = some (.osl i 0 n))
  (h:Wk off (purge j L) ((b,.box (ds.set p (.osl j 0 n)))::(j,.arr k xs)::(i,.gone)::jaK j H) L2 H2):Wk off L H L2 H2:=by
 refine⟨fun cx E h' a w e S=>?_⟩
 subst e
 have S1:=S.renArr hij hoff hi
 have hb1:lookH ((j,.arr k xs)::(i,.gone)::jaK j H) b=some (.box ds):=by
  rw[jag,if_neg (Ne.symm hb.2),jag,if_neg (Ne.symm hb.1)];exact hj
 have fe:∀ v,Den (E.alias i j) h' (.osl i 0 n) v→Den (E.alias i j) h' (.osl j 0 n) v:=fun v hv=>by
  simp only[Den,Env.alias,if_true,if_neg hij] at hv ⊢
  exact hv
 refine h.out cx (E.alias i j) h' a w rfl (S1.rechunk hb1 rfl ?_)
 obtain⟨h1,vs,rest,T,h2,h3,h4⟩:=S1.mem.ok b _ hb1
 exact⟨h1,vs,rest,T,h2,jg7 h3 hp fe,h4⟩
end Go.V
end
section
namespace Go.Proofs.YtbnghipgicmpdaaGreatDoor
open Go Go.V Go.Nb
def grd (data:List Int)(s z:Int)(a:Nat):Int:=(z-1)*max (data.getD ((a:Int)+s).toNat 0-data.getD a 0) (data.getD a 0-data.getD ((a:Int)+s).toNat 0)
def stp (data:List Int)(out s z:Int)(i:Nat)(w:Nat→List Int)(a:Nat)(r:Nat):List Int:=
 if (a:Int)/s%z=z-1 then w r else if (a:Int)%out=r then (w r).set i (max ((w r).getD i 0) (grd data s z a)) else w r
def inS (data:List Int)(out s z:Int)(i:Nat)(w:Nat→List Int):Nat→Nat→List Int
 | 0=>w
 | a+1=>stp data out s z i (inS data out s z i w a) a
def strd (zs:List Int)(out:Int):Nat→Int
 | 0=>out
 | k+1=>strd zs out k*zs.getD (zs.length-1-k) 0
def outS (zs data:List Int)(out:Int):Nat→Nat→List Int
 | 0=>fun _=>List.replicate zs.length 0
 | k+1=>inS data out (strd zs out k) (zs.getD (zs.length-1-k) 0) (zs.length-1-k) (outS zs data out k) data.length
def rowOk (n:Nat)(l:List Int):Prop:=l.length=n ∧ ∀ j,0≤l.getD j 0∧l.getD j 0≤600000
theorem jhF {data:List Int}{s z:Int}{a:Nat}(hd:∀ v∈data,0≤v∧v≤65535)(hz:2≤z∧z≤9):0≤grd data s z a∧grd data s z a≤600000:=by
 have h1:=jaR (p:=fun v=>0≤v∧v≤65535) hd Jo a
 have h2:=jaR (p:=fun v=>0≤v∧v≤65535) hd Jo ((a:Int)+s).toNat
 unfold grd
 generalize hx:max (data.getD ((a:Int)+s).toNat 0-data.getD a 0) (data.getD a 0-data.getD ((a:Int)+s).toNat 0)=x
 have hx2:0≤x∧x≤65535:=Jo
 constructor
 ·exact jjB Jo hx2.1
 ·have:=Int.mul_le_mul (show z-1≤8 by omega) hx2.2 hx2.1 Jo
  omega
theorem rowOk_set {n:Nat}{l:List Int}{i:Nat}{v:Int}(h:rowOk n l)(hv:0≤v∧v≤600000):rowOk n (l.set i v):=by
 refine⟨by rw[jkw];exact h.1,fun j=>?_⟩
 by_cases hi:i<l.length
 ·rw[jdW l i j v hi]
  split
  ·exact hv
  ·exact h.2 j
 ·rw[List.set_eq_of_length_le Jo]
  exact h.2 j
theorem jgf {data:List Int}{out s z:Int}{i n:Nat}{w:Nat→List Int}(hd:∀ v∈data,0≤v∧v≤65535)(hz:2≤z∧z≤9)(hw:∀ r,rowOk n (w r)):∀ a r,rowOk n (inS data out s z i w a r)
 | 0,r=>hw r
 | a+1,r=>by
  have h:=jgf (out:=out) (s:=s) (z:=z) (i:=i) hd hz hw a r
  have g:=jhF (s:=s) (a:=a) hd hz
  simp only[inS,stp]
  split
  ·exact h
  ·split
   ·refine rowOk_set h ?_
    have:=h.2 i
    omega
   ·exact h
theorem jbu {l:List Int}{p:Int→Prop}(h:∀ v∈l,p v){j:Nat}(hj:j<l.length):p (l.getD j 0):=by
 rw[jj8,jkb hj]
 exact h _ (List.getElem_mem hj)
theorem jcf {zs data : List Int} {out : Int} (hd : ∀ v ∈ data, 0 ≤ v ∧ v ≤ 65535) (hz : ∀ z ∈ zs, 2 ≤ z ∧ z ≤ 9) : ∀ k, k ≤ zs.length → ∀ r, rowOk zs.length (outS zs data out k r)
  | 0, _, r => ⟨by simp [outS], fun j => by
      have := jaR (l := List.replicate zs.length (0 : Int)) (p := fun v => v = 0) (fun v hv => List.eq_of_mem_replicate hv) rfl j
      show 0 ≤ (List.replicate zs.length (0 : Int)).getD j 0 ∧ (List.replicate zs.length (0 : Int)).getD j 0 ≤ 600000
      omega⟩
  | k + 1, hk, r => jgf hd (jbu (l := zs) (p := fun z => 2 ≤ z ∧ z ≤ 9) hz Jo) (jcf hd hz k Jo) _ r
theorem jdz {zs:List Int}{out:Int}(ho:1≤out∧out≤4)(hz:∀ z∈zs,2≤z∧z≤9):∀ k,k≤zs.length→0<strd zs out k∧strd zs out k≤4*9^k
 | 0,_=>by simp only[strd];omega
 | k+1,hk=>by
  have h:=jdz ho hz k Jo
  have g:=jbu (p:=fun z=>2≤z∧z≤9) hz (j:=zs.length-1-k) Jo
  simp only[strd]
  constructor
  ·exact Int.mul_pos h.1 Jo
  ·have:=Int.mul_le_mul h.2 g.2 Jo (jjB Jd (Int.pow_nonneg Jd))
   rw[Int.pow_succ]
   omega
theorem jcM {zs:List Int}{out:Int} : ∀ k,k≤zs.length→prod zs*out=prod (zs.take (zs.length-k))*strd zs out k
 | 0,_=>by simp only[strd,Nat.sub_zero,jkz]
 | k+1,hk=>by
  have h:=jcM (zs:=zs) (out:=out) k Jo
  have e0:zs[zs.length-(k+1)]? = some (zs.getD (zs.length-1-k) 0):=by
   rw[show zs.length-1-k=zs.length-(k+1) from Jo,jj8,jkb (show zs.length-(k+1)<zs.length from Jo)]
   rfl
  rw[h,show zs.length-k=(zs.length-(k+1))+1 from Jo,jce e0]
  simp only[strd]
  rw[jjT,jjS (zs.getD (zs.length-1-k) 0)]
theorem pow9 (k:Nat)(h:k≤4):(4:Int)*9^k≤26244:=by
 have g:k=0∨k=1∨k=2∨k=3∨k=4:=Jo
 rcases g with rfl|rfl|rfl|rfl|rfl<;>decide
theorem stp_in {s z q:Int}{a:Nat}{len:Int}(hs:0<s)(hz:0<z)(hl:len=q*(s*z))(ha:(a:Int)<len)(h:¬ (a:Int)/s%z=z-1):(a:Int)+s<len:=by
 have h1:=jjz ((a:Int)/s) (show z≠0 by omega)
 have h2:=jjY ((a:Int)/s) hz
 have h3:(a:Int)/s<q*z:=(Int.ediv_lt_iff_lt_mul hs).2 (by rw[jjT,jjS z s,← hl];exact ha)
 have h4:=Int.mul_ediv_add_emod ((a:Int)/s) z
 have h5:=Int.mul_ediv_add_emod (a:Int) s
 have h6:=jjY (a:Int) hs
 have h7:(a:Int)/s/z<q:=(Int.ediv_lt_iff_lt_mul hz).2 h3
 have h8:(a:Int)/s+2≤q*z:=by
  have:=jjU (show (a:Int)/s/z+1≤q by omega) (show 0≤z by omega)
  rw[jjR,Int.mul_one,jjS z q] at this
  omega
 have h9:=jjU h8 (show 0≤s by omega)
 rw[jjR] at h9
 have h10:s*(q*z)=len:=by rw[hl,Int.mul_left_comm]
 omega
def stB1 (n:Nat):Nat→Hp
 | 0=>[(21,.box [.nil])]
 | _=>[(21,.box [.osl 200 0 n]),(200,.arr .i64 (List.replicate n 0))]
theorem jiN:type_of% @jjF∧type_of% @jjC∧type_of% @tn0∧type_of% @tn1∧type_of% @tn2∧type_of% @tn3∧type_of% @xt4:=⟨@jjF,@jjC,@tn0,@tn1,@tn2,@tn3,@xt4⟩
theorem jdA (zs data:List Int)(T:Nat→List Int)(hg:jaf zs 1 data=true)(hl:zs.length≤4)(hT:outS zs data 1 zs.length=T):Cl 22 [.agg [Jj zs,Ji 1,Jj data]] (.tup [.slf 1 1 (fun j=>List.take 1 (List.drop (j*1) [Jj (T 0)])),Ji 0]):=by
 have ck:Cl 58 [.agg [Jj zs,Ji 1,Jj data]] (Ji 0):=jb2 hg hl
 have og:=jaq hg
 refine V.en tbOk Tryz.func22 ?_
 refine V.r1 jiN ck ?_
 refine jad 0 (fun k=>k≤1) (fun k=>1-k) (fun k=>[(24,Ji k)]) (fun k=>stB1 zs.length k) ?_ ?_ ?_
 ·simp only[stB1]
  exact V.wk
 ·exact jjx _
 intro k hk
 have hk4:k=0∨k=1:=Jo
 rcases hk4 with e|e
 all_goals subst e
 ·simp only[k0,stB1]
  refine V.r0 jiN ?_
  refine⟨1,Jo,Jo,?_⟩
  simp only[stB1]
  refine Wk.renBox 32 200 21 0 zs.length Jd Jd Jd rfl rfl rfl ?_
  exact V.wk
 ·simp only[k1,stB1]
  refine V.r0 jiN ?_
  refine jbn (β:=Unit) 2 (fun _=>True) (fun _=>[(5,.slf 1 1 (fun j=>List.take 1 (List.drop (j*1) [Jj (T 0)]))),(7,.any),(8,.any),(21,.any),(22,.any)]) (fun _=>[(21,.gone),(200,.gone)]) ?_ ?_
  rotate_left
  ·intro _ _
   refine V.r0 @jjC ?_
   exact Fin.of rfl
  refine jad ((0,(zs.length:Int)-1,1,outS zs data 1 0):Nat×Int×Int×(Nat→List Int)) (fun y=>y.1≤zs.length∧y.2.1=(zs.length:Int)-1-y.1∧y.2.2.1=strd zs 1 y.1∧y.2.2.2=outS zs data 1 y.1) (fun y=>zs.length-y.1) (fun y=>[(8,Ji y.2.1),(7,Ji y.2.2.1)]) (fun y=>[(200,.arr .i64 (y.2.2.2 0))]) ?_ ?_ ?_
  ·exact V.wk
  ·exact⟨jjx _,(by show (zs.length:Int)-1=(zs.length:Int)-1-((0:Nat):Int);omega),rfl,rfl⟩
  rintro⟨k,x8,s,w⟩ ⟨hk,h8,hs,hw⟩
  dsimp only at hk h8 hs hw ⊢
  have wo:∀ r,rowOk zs.length (w r):=fun r=>by rw[hw];exact jcf og.2.2.2 og.2.1 k hk r
  refine V.r0 jiN ?_
  refine V.br (fun h=>?_) (fun h=>?_)
  ·have hx:=of_decide_eq_true h
   obtain⟨i,rfl⟩:∃ i:Nat,x8=i:=⟨x8.toNat,Jo⟩
   have hi:i=zs.length-1-k:=Jo
   obtain⟨z,hz⟩:∃ z,zs.getD i 0=z:=⟨_,rfl⟩
   have zb:2≤z∧z≤9:=by rw[← hz];exact jbu og.2.1 Jo
   have sp:=jdz og.1 og.2.1 k hk
   refine V.r0 (V.a2 jiN hz) ?_
   have s0:0<s:=by rw[hs];exact sp.1
   have pp:=jcM (zs:=zs) (out:=1) (k+1) Jo
   have hlen:(data.length:Int)=prod (zs.take (zs.length-(k+1)))*(s*z):=by rw[og.2.2.1.2,pp,hs,← hz,hi];rfl
   have sm:s≤26244:=by
    have:=pow9 k Jo
    omega
   have io:=jgf (out:=1) (s:=s) (z:=z) (i:=i) og.2.2.2 zb wo
   refine jad (0:Nat) (fun a=>a≤data.length) (fun a=>data.length-a) (fun a=>[(53,Ji (a:Nat))]) (fun a=>[(200,.arr .i64 (inS data 1 s z i w a 0))]) ?_ ?_ ?_
   ·exact V.wk
   ·exact jjx _
   intro a ha
   have b0:=jaR (p:=fun v=>0≤v∧v≤65535) og.2.2.2 Jo a
   have r0:=io a 0
   have q0:=r0.2 i
   have l0:=r0.1
   refine V.r0 jiN ?_
   refine V.br (fun c=>?_) (fun c=>?_)
   ·have hx2:=of_decide_eq_true c
    have hq:0≤(a:Int)/s:=jjy Jo Jo
    refine V.r0 jiN ?_
    refine V.br (fun f=>?_) (fun f=>?_)
    ·have he:=of_decide_eq_true f
     have e0:inS data 1 s z i w (a+1) 0=inS data 1 s z i w a 0:=if_pos he
     refine V.r0 jiN ?_
     refine⟨a+1,Jo,Jo,?_⟩
     simp only[e0]
     exact V.wk
    ·have he:=of_decide_eq_false f
     have hin:=stp_in s0 Jo hlen hx2 he
     have b1:=jaR (p:=fun v=>0≤v∧v≤65535) og.2.2.2 Jo ((a:Int)+s).toNat
     have gb:=jhF (s:=s) (a:=a) og.2.2.2 zb
     unfold grd at gb
     have hm:InR .i64 ((z-1)*max (data.getD ((a:Int)+s).toNat 0-data.getD a 0) (data.getD a 0-data.getD ((a:Int)+s).toNat 0)):=⟨Int.le_trans Jd gb.1,Int.le_trans gb.2 Jd⟩
     have g:(a:Int)%1=0:=Jo
     ·have u0:inS data 1 s z i w (a+1) 0=(inS data 1 s z i w a 0).set i (max ((inS data 1 s z i w a 0).getD i 0) (grd data s z a)):=(if_neg he).trans (if_pos (show (a:Int)%1=((0:Nat):Int) from g))
      (conv=>whnf)
      (try simp only[jiN])
      repeat ((first|refine V.s1 ?_|((try ((with_reducible refine .ext ?_);(conv=>whnf);(try simp only[jiN])));(with_reducible refine jaa (r:=?_) ?_ ?_);rotate_left;(focus (first|fail));(conv=>whnf))|((simp only[g]);(conv=>whnf)));(try simp only[jiN]))
      refine⟨a+1,Jo,Jo,?_⟩
      simp only[u0]
      exact V.wk
   ·have hx2:=of_decide_eq_false c
    obtain rfl:a=data.length:=Jo
    have hsz0:=Int.mul_le_mul sm zb.2 Jo Jd
    have hsz1:=jjB (show 0≤s by omega) (show 0≤z by omega)
    have hsz:InR .i64 (s*z):=⟨Int.le_trans Jd hsz1,Int.le_trans hsz0 Jd⟩
    refine V.r0 jiN ?_
    refine⟨(k+1,(i:Int)-1,s*z,inS data 1 s z i w data.length),⟨by show k+1≤zs.length;omega,by show (i:Int)-1=(zs.length:Int)-1-((k+1:Nat):Int);omega,?_,?_⟩,by show zs.length-(k+1)<zs.length-k;omega,?_⟩
    ·show s*z=strd zs 1 k*zs.getD (zs.length-1-k) 0
     rw[hs,← hz,hi]
    ·show _=inS data 1 (strd zs 1 k) (zs.getD (zs.length-1-k) 0) (zs.length-1-k) (outS zs data 1 k) data.length
     rw[← hs,← hw,← hi,hz]
    ·dsimp only
     exact V.wk
  ·have hx:=of_decide_eq_false h
   have hkn:k=zs.length:=Jo
   have hwT:w=T:=by rw[hw,hkn,hT]
   subst hwT
   refine V.r0 @jjC ?_
   refine⟨(),trivial,?_⟩
   have t0:(w 0).take zs.length=w 0:=jko (Nat.le_of_eq (wo 0).1)
   refine Wk.pub 200 ?_
   (conv=>whnf)
   simp only[t0]
   refine Wk.pub 21 ?_
   (conv=>whnf)
   simp only[jjC]
   exact V.wk
def stB2 (n:Nat):Nat→Hp
 | 0=>[(21,.box [.nil,.nil])]
 | 1=>[(21,.box [.osl 200 0 n,.nil]),(200,.arr .i64 (List.replicate n 0))]
 | _=>[(21,.box [.osl 200 0 n,.osl 201 0 n]),(200,.arr .i64 (List.replicate n 0)),(201,.arr .i64 (List.replicate n 0))]
theorem jgC (zs data:List Int)(T:Nat→List Int)(hg:jaf zs 2 data=true)(hl:zs.length≤4)(hT:outS zs data 2 zs.length=T):Cl 22 [.agg [Jj zs,Ji 2,Jj data]] (.tup [.slf 1 2 (fun j=>List.take 1 (List.drop (j*1) [Jj (T 0),Jj (T 1)])),Ji 0]):=by
 have ck:Cl 58 [.agg [Jj zs,Ji 2,Jj data]] (Ji 0):=jb2 hg hl
 have og:=jaq hg
 refine V.en tbOk Tryz.func22 ?_
 refine V.r1 jiN ck ?_
 refine jad 0 (fun k=>k≤2) (fun k=>2-k) (fun k=>[(24,Ji k)]) (fun k=>stB2 zs.length k) ?_ ?_ ?_
 ·simp only[stB2]
  exact V.wk
 ·exact jjx _
 intro k hk
 have hk4:k=0∨k=1∨k=2:=Jo
 rcases hk4 with e|e|e
 all_goals subst e
 ·simp only[k0,stB2]
  refine V.r0 jiN ?_
  refine⟨1,Jo,Jo,?_⟩
  simp only[stB2]
  refine Wk.renBox 32 200 21 0 zs.length Jd Jd Jd rfl rfl rfl ?_
  exact V.wk
 ·simp only[k1,stB2]
  refine V.r0 jiN ?_
  refine⟨2,Jo,Jo,?_⟩
  simp only[stB2]
  refine Wk.renBox 32 201 21 1 zs.length Jd Jd Jd rfl rfl rfl ?_
  exact V.wk
 ·simp only[k2,stB2]
  refine V.r0 jiN ?_
  refine jbn (β:=Unit) 2 (fun _=>True) (fun _=>[(5,.slf 1 2 (fun j=>List.take 1 (List.drop (j*1) [Jj (T 0),Jj (T 1)]))),(7,.any),(8,.any),(21,.any),(22,.any)]) (fun _=>[(21,.gone),(200,.gone),(201,.gone)]) ?_ ?_
  rotate_left
  ·intro _ _
   refine V.r0 @jjC ?_
   exact Fin.of rfl
  refine jad ((0,(zs.length:Int)-1,2,outS zs data 2 0):Nat×Int×Int×(Nat→List Int)) (fun y=>y.1≤zs.length∧y.2.1=(zs.length:Int)-1-y.1∧y.2.2.1=strd zs 2 y.1∧y.2.2.2=outS zs data 2 y.1) (fun y=>zs.length-y.1) (fun y=>[(8,Ji y.2.1),(7,Ji y.2.2.1)]) (fun y=>[(200,.arr .i64 (y.2.2.2 0)),(201,.arr .i64 (y.2.2.2 1))]) ?_ ?_ ?_
  ·exact V.wk
  ·exact⟨jjx _,(by show (zs.length:Int)-1=(zs.length:Int)-1-((0:Nat):Int);omega),rfl,rfl⟩
  rintro⟨k,x8,s,w⟩ ⟨hk,h8,hs,hw⟩
  dsimp only at hk h8 hs hw ⊢
  have wo:∀ r,rowOk zs.length (w r):=fun r=>by rw[hw];exact jcf og.2.2.2 og.2.1 k hk r
  refine V.r0 jiN ?_
  refine V.br (fun h=>?_) (fun h=>?_)
  ·have hx:=of_decide_eq_true h
   obtain⟨i,rfl⟩:∃ i:Nat,x8=i:=⟨x8.toNat,Jo⟩
   have hi:i=zs.length-1-k:=Jo
   obtain⟨z,hz⟩:∃ z,zs.getD i 0=z:=⟨_,rfl⟩
   have zb:2≤z∧z≤9:=by rw[← hz];exact jbu og.2.1 Jo
   have sp:=jdz og.1 og.2.1 k hk
   refine V.r0 (V.a2 jiN hz) ?_
   have s0:0<s:=by rw[hs];exact sp.1
   have pp:=jcM (zs:=zs) (out:=2) (k+1) Jo
   have hlen:(data.length:Int)=prod (zs.take (zs.length-(k+1)))*(s*z):=by rw[og.2.2.1.2,pp,hs,← hz,hi];rfl
   have sm:s≤26244:=by
    have:=pow9 k Jo
    omega
   have io:=jgf (out:=2) (s:=s) (z:=z) (i:=i) og.2.2.2 zb wo
   refine jad (0:Nat) (fun a=>a≤data.length) (fun a=>data.length-a) (fun a=>[(53,Ji (a:Nat))]) (fun a=>[(200,.arr .i64 (inS data 2 s z i w a 0)),(201,.arr .i64 (inS data 2 s z i w a 1))]) ?_ ?_ ?_
   ·exact V.wk
   ·exact jjx _
   intro a ha
   have b0:=jaR (p:=fun v=>0≤v∧v≤65535) og.2.2.2 Jo a
   have r0:=io a 0
   have q0:=r0.2 i
   have l0:=r0.1
   have r1:=io a 1
   have q1:=r1.2 i
   have l1:=r1.1
   refine V.r0 jiN ?_
   refine V.br (fun c=>?_) (fun c=>?_)
   ·have hx2:=of_decide_eq_true c
    have hq:0≤(a:Int)/s:=jjy Jo Jo
    refine V.r0 jiN ?_
    refine V.br (fun f=>?_) (fun f=>?_)
    ·have he:=of_decide_eq_true f
     have e0:inS data 2 s z i w (a+1) 0=inS data 2 s z i w a 0:=if_pos he
     have e1:inS data 2 s z i w (a+1) 1=inS data 2 s z i w a 1:=if_pos he
     refine V.r0 jiN ?_
     refine⟨a+1,Jo,Jo,?_⟩
     simp only[e0,e1]
     exact V.wk
    ·have he:=of_decide_eq_false f
     have hin:=stp_in s0 Jo hlen hx2 he
     have b1:=jaR (p:=fun v=>0≤v∧v≤65535) og.2.2.2 Jo ((a:Int)+s).toNat
     have gb:=jhF (s:=s) (a:=a) og.2.2.2 zb
     unfold grd at gb
     have hm:InR .i64 ((z-1)*max (data.getD ((a:Int)+s).toNat 0-data.getD a 0) (data.getD a 0-data.getD ((a:Int)+s).toNat 0)):=⟨Int.le_trans Jd gb.1,Int.le_trans gb.2 Jd⟩
     have hr:(a:Int)%2=0∨(a:Int)%2=1:=Jo
     rcases hr with g|g
     ·have u0:inS data 2 s z i w (a+1) 0=(inS data 2 s z i w a 0).set i (max ((inS data 2 s z i w a 0).getD i 0) (grd data s z a)):=(if_neg he).trans (if_pos (show (a:Int)%2=((0:Nat):Int) from g))
      have u1:inS data 2 s z i w (a+1) 1=inS data 2 s z i w a 1:=(if_neg he).trans (if_neg (by rw[g];decide))
      (conv=>whnf)
      (try simp only[jiN])
      repeat ((first|refine V.s1 ?_|((try ((with_reducible refine .ext ?_);(conv=>whnf);(try simp only[jiN])));(with_reducible refine jaa (r:=?_) ?_ ?_);rotate_left;(focus (first|fail));(conv=>whnf))|((simp only[g]);(conv=>whnf)));(try simp only[jiN]))
      refine⟨a+1,Jo,Jo,?_⟩
      simp only[u0,u1]
      exact V.wk
     ·have u1:inS data 2 s z i w (a+1) 1=(inS data 2 s z i w a 1).set i (max ((inS data 2 s z i w a 1).getD i 0) (grd data s z a)):=(if_neg he).trans (if_pos (show (a:Int)%2=((1:Nat):Int) from g))
      have u0:inS data 2 s z i w (a+1) 0=inS data 2 s z i w a 0:=(if_neg he).trans (if_neg (by rw[g];decide))
      (conv=>whnf)
      (try simp only[jiN])
      repeat ((first|refine V.s1 ?_|((try ((with_reducible refine .ext ?_);(conv=>whnf);(try simp only[jiN])));(with_reducible refine jaa (r:=?_) ?_ ?_);rotate_left;(focus (first|fail));(conv=>whnf))|((simp only[g]);(conv=>whnf)));(try simp only[jiN]))
      refine⟨a+1,Jo,Jo,?_⟩
      simp only[u0,u1]
      exact V.wk
   ·have hx2:=of_decide_eq_false c
    obtain rfl:a=data.length:=Jo
    have hsz0:=Int.mul_le_mul sm zb.2 Jo Jd
    have hsz1:=jjB (show 0≤s by omega) (show 0≤z by omega)
    have hsz:InR .i64 (s*z):=⟨Int.le_trans Jd hsz1,Int.le_trans hsz0 Jd⟩
    refine V.r0 jiN ?_
    refine⟨(k+1,(i:Int)-1,s*z,inS data 2 s z i w data.length),⟨by show k+1≤zs.length;omega,by show (i:Int)-1=(zs.length:Int)-1-((k+1:Nat):Int);omega,?_,?_⟩,by show zs.length-(k+1)<zs.length-k;omega,?_⟩
    ·show s*z=strd zs 2 k*zs.getD (zs.length-1-k) 0
     rw[hs,← hz,hi]
    ·show _=inS data 2 (strd zs 2 k) (zs.getD (zs.length-1-k) 0) (zs.length-1-k) (outS zs data 2 k) data.length
     rw[← hs,← hw,← hi,hz]
    ·dsimp only
     exact V.wk
  ·have hx:=of_decide_eq_false h
   have hkn:k=zs.length:=Jo
   have hwT:w=T:=by rw[hw,hkn,hT]
   subst hwT
   refine V.r0 @jjC ?_
   refine⟨(),trivial,?_⟩
   have t0:(w 0).take zs.length=w 0:=jko (Nat.le_of_eq (wo 0).1)
   refine Wk.pub 200 ?_
   (conv=>whnf)
   simp only[t0]
   have t1:(w 1).take zs.length=w 1:=jko (Nat.le_of_eq (wo 1).1)
   refine Wk.pub 201 ?_
   (conv=>whnf)
   simp only[t1]
   refine Wk.pub 21 ?_
   (conv=>whnf)
   simp only[jjC]
   exact V.wk
def stB3 (n:Nat):Nat→Hp
 | 0=>[(21,.box [.nil,.nil,.nil])]
 | 1=>[(21,.box [.osl 200 0 n,.nil,.nil]),(200,.arr .i64 (List.replicate n 0))]
 | 2=>[(21,.box [.osl 200 0 n,.osl 201 0 n,.nil]),(200,.arr .i64 (List.replicate n 0)),(201,.arr .i64 (List.replicate n 0))]
 | _=>[(21,.box [.osl 200 0 n,.osl 201 0 n,.osl 202 0 n]),(200,.arr .i64 (List.replicate n 0)),(201,.arr .i64 (List.replicate n 0)),(202,.arr .i64 (List.replicate n 0))]
theorem jgB (zs data:List Int)(T:Nat→List Int)(hg:jaf zs 3 data=true)(hl:zs.length≤4)(hT:outS zs data 3 zs.length=T):Cl 22 [.agg [Jj zs,Ji 3,Jj data]] (.tup [.slf 1 3 (fun j=>List.take 1 (List.drop (j*1) [Jj (T 0),Jj (T 1),Jj (T 2)])),Ji 0]):=by
 have ck:Cl 58 [.agg [Jj zs,Ji 3,Jj data]] (Ji 0):=jb2 hg hl
 have og:=jaq hg
 refine V.en tbOk Tryz.func22 ?_
 refine V.r1 jiN ck ?_
 refine jad 0 (fun k=>k≤3) (fun k=>3-k) (fun k=>[(24,Ji k)]) (fun k=>stB3 zs.length k) ?_ ?_ ?_
 ·simp only[stB3]
  exact V.wk
 ·exact jjx _
 intro k hk
 have hk4:k=0∨k=1∨k=2∨k=3:=Jo
 rcases hk4 with e|e|e|e
 all_goals subst e
 ·simp only[k0,stB3]
  refine V.r0 jiN ?_
  refine⟨1,Jo,Jo,?_⟩
  simp only[stB3]
  refine Wk.renBox 32 200 21 0 zs.length Jd Jd Jd rfl rfl rfl ?_
  exact V.wk
 ·simp only[k1,stB3]
  refine V.r0 jiN ?_
  refine⟨2,Jo,Jo,?_⟩
  simp only[stB3]
  refine Wk.renBox 32 201 21 1 zs.length Jd Jd Jd rfl rfl rfl ?_
  exact V.wk
 ·simp only[k2,stB3]
  refine V.r0 jiN ?_
  refine⟨3,Jo,Jo,?_⟩
  simp only[stB3]
  refine Wk.renBox 32 202 21 2 zs.length Jd Jd Jd rfl rfl rfl ?_
  exact V.wk
 ·simp only[k3,stB3]
  refine V.r0 jiN ?_
  refine jbn (β:=Unit) 2 (fun _=>True) (fun _=>[(5,.slf 1 3 (fun j=>List.take 1 (List.drop (j*1) [Jj (T 0),Jj (T 1),Jj (T 2)]))),(7,.any),(8,.any),(21,.any),(22,.any)]) (fun _=>[(21,.gone),(200,.gone),(201,.gone),(202,.gone)]) ?_ ?_
  rotate_left
  ·intro _ _
   refine V.r0 @jjC ?_
   exact Fin.of rfl
  refine jad ((0,(zs.length:Int)-1,3,outS zs data 3 0):Nat×Int×Int×(Nat→List Int)) (fun y=>y.1≤zs.length∧y.2.1=(zs.length:Int)-1-y.1∧y.2.2.1=strd zs 3 y.1∧y.2.2.2=outS zs data 3 y.1) (fun y=>zs.length-y.1) (fun y=>[(8,Ji y.2.1),(7,Ji y.2.2.1)]) (fun y=>[(200,.arr .i64 (y.2.2.2 0)),(201,.arr .i64 (y.2.2.2 1)),(202,.arr .i64 (y.2.2.2 2))]) ?_ ?_ ?_
  ·exact V.wk
  ·exact⟨jjx _,(by show (zs.length:Int)-1=(zs.length:Int)-1-((0:Nat):Int);omega),rfl,rfl⟩
  rintro⟨k,x8,s,w⟩ ⟨hk,h8,hs,hw⟩
  dsimp only at hk h8 hs hw ⊢
  have wo:∀ r,rowOk zs.length (w r):=fun r=>by rw[hw];exact jcf og.2.2.2 og.2.1 k hk r
  refine V.r0 jiN ?_
  refine V.br (fun h=>?_) (fun h=>?_)
  ·have hx:=of_decide_eq_true h
   obtain⟨i,rfl⟩:∃ i:Nat,x8=i:=⟨x8.toNat,Jo⟩
   have hi:i=zs.length-1-k:=Jo
   obtain⟨z,hz⟩:∃ z,zs.getD i 0=z:=⟨_,rfl⟩
   have zb:2≤z∧z≤9:=by rw[← hz];exact jbu og.2.1 Jo
   have sp:=jdz og.1 og.2.1 k hk
   refine V.r0 (V.a2 jiN hz) ?_
   have s0:0<s:=by rw[hs];exact sp.1
   have pp:=jcM (zs:=zs) (out:=3) (k+1) Jo
   have hlen:(data.length:Int)=prod (zs.take (zs.length-(k+1)))*(s*z):=by rw[og.2.2.1.2,pp,hs,← hz,hi];rfl
   have sm:s≤26244:=by
    have:=pow9 k Jo
    omega
   have io:=jgf (out:=3) (s:=s) (z:=z) (i:=i) og.2.2.2 zb wo
   refine jad (0:Nat) (fun a=>a≤data.length) (fun a=>data.length-a) (fun a=>[(53,Ji (a:Nat))]) (fun a=>[(200,.arr .i64 (inS data 3 s z i w a 0)),(201,.arr .i64 (inS data 3 s z i w a 1)),(202,.arr .i64 (inS data 3 s z i w a 2))]) ?_ ?_ ?_
   ·exact V.wk
   ·exact jjx _
   intro a ha
   have b0:=jaR (p:=fun v=>0≤v∧v≤65535) og.2.2.2 Jo a
   have r0:=io a 0
   have q0:=r0.2 i
   have l0:=r0.1
   have r1:=io a 1
   have q1:=r1.2 i
   have l1:=r1.1
   have r2:=io a 2
   have q2:=r2.2 i
   have l2:=r2.1
   refine V.r0 jiN ?_
   refine V.br (fun c=>?_) (fun c=>?_)
   ·have hx2:=of_decide_eq_true c
    have hq:0≤(a:Int)/s:=jjy Jo Jo
    refine V.r0 jiN ?_
    refine V.br (fun f=>?_) (fun f=>?_)
    ·have he:=of_decide_eq_true f
     have e0:inS data 3 s z i w (a+1) 0=inS data 3 s z i w a 0:=if_pos he
     have e1:inS data 3 s z i w (a+1) 1=inS data 3 s z i w a 1:=if_pos he
     have e2:inS data 3 s z i w (a+1) 2=inS data 3 s z i w a 2:=if_pos he
     refine V.r0 jiN ?_
     refine⟨a+1,Jo,Jo,?_⟩
     simp only[e0,e1,e2]
     exact V.wk
    ·have he:=of_decide_eq_false f
     have hin:=stp_in s0 Jo hlen hx2 he
     have b1:=jaR (p:=fun v=>0≤v∧v≤65535) og.2.2.2 Jo ((a:Int)+s).toNat
     have gb:=jhF (s:=s) (a:=a) og.2.2.2 zb
     unfold grd at gb
     have hm:InR .i64 ((z-1)*max (data.getD ((a:Int)+s).toNat 0-data.getD a 0) (data.getD a 0-data.getD ((a:Int)+s).toNat 0)):=⟨Int.le_trans Jd gb.1,Int.le_trans gb.2 Jd⟩
     have hr:(a:Int)%3=0∨(a:Int)%3=1∨(a:Int)%3=2:=Jo
     rcases hr with g|g|g
     ·have u0:inS data 3 s z i w (a+1) 0=(inS data 3 s z i w a 0).set i (max ((inS data 3 s z i w a 0).getD i 0) (grd data s z a)):=(if_neg he).trans (if_pos (show (a:Int)%3=((0:Nat):Int) from g))
      have u1:inS data 3 s z i w (a+1) 1=inS data 3 s z i w a 1:=(if_neg he).trans (if_neg (by rw[g];decide))
      have u2:inS data 3 s z i w (a+1) 2=inS data 3 s z i w a 2:=(if_neg he).trans (if_neg (by rw[g];decide))
      (conv=>whnf)
      (try simp only[jiN])
      repeat ((first|refine V.s1 ?_|((try ((with_reducible refine .ext ?_);(conv=>whnf);(try simp only[jiN])));(with_reducible refine jaa (r:=?_) ?_ ?_);rotate_left;(focus (first|fail));(conv=>whnf))|((simp only[g]);(conv=>whnf)));(try simp only[jiN]))
      refine⟨a+1,Jo,Jo,?_⟩
      simp only[u0,u1,u2]
      exact V.wk
     ·have u1:inS data 3 s z i w (a+1) 1=(inS data 3 s z i w a 1).set i (max ((inS data 3 s z i w a 1).getD i 0) (grd data s z a)):=(if_neg he).trans (if_pos (show (a:Int)%3=((1:Nat):Int) from g))
      have u0:inS data 3 s z i w (a+1) 0=inS data 3 s z i w a 0:=(if_neg he).trans (if_neg (by rw[g];decide))
      have u2:inS data 3 s z i w (a+1) 2=inS data 3 s z i w a 2:=(if_neg he).trans (if_neg (by rw[g];decide))
      (conv=>whnf)
      (try simp only[jiN])
      repeat ((first|refine V.s1 ?_|((try ((with_reducible refine .ext ?_);(conv=>whnf);(try simp only[jiN])));(with_reducible refine jaa (r:=?_) ?_ ?_);rotate_left;(focus (first|fail));(conv=>whnf))|((simp only[g]);(conv=>whnf)));(try simp only[jiN]))
      refine⟨a+1,Jo,Jo,?_⟩
      simp only[u0,u1,u2]
      exact V.wk
     ·have u2:inS data 3 s z i w (a+1) 2=(inS data 3 s z i w a 2).set i (max ((inS data 3 s z i w a 2).getD i 0) (grd data s z a)):=(if_neg he).trans (if_pos (show (a:Int)%3=((2:Nat):Int) from g))
      have u0:inS data 3 s z i w (a+1) 0=inS data 3 s z i w a 0:=(if_neg he).trans (if_neg (by rw[g];decide))
      have u1:inS data 3 s z i w (a+1) 1=inS data 3 s z i w a 1:=(if_neg he).trans (if_neg (by rw[g];decide))
      (conv=>whnf)
      (try simp only[jiN])
      repeat ((first|refine V.s1 ?_|((try ((with_reducible refine .ext ?_);(conv=>whnf);(try simp only[jiN])));(with_reducible refine jaa (r:=?_) ?_ ?_);rotate_left;(focus (first|fail));(conv=>whnf))|((simp only[g]);(conv=>whnf)));(try simp only[jiN]))
      refine⟨a+1,Jo,Jo,?_⟩
      simp only[u0,u1,u2]
      exact V.wk
   ·have hx2:=of_decide_eq_false c
    obtain rfl:a=data.length:=Jo
    have hsz0:=Int.mul_le_mul sm zb.2 Jo Jd
    have hsz1:=jjB (show 0≤s by omega) (show 0≤z by omega)
    have hsz:InR .i64 (s*z):=⟨Int.le_trans Jd hsz1,Int.le_trans hsz0 Jd⟩
    refine V.r0 jiN ?_
    refine⟨(k+1,(i:Int)-1,s*z,inS data 3 s z i w data.length),⟨by show k+1≤zs.length;omega,by show (i:Int)-1=(zs.length:Int)-1-((k+1:Nat):Int);omega,?_,?_⟩,by show zs.length-(k+1)<zs.length-k;omega,?_⟩
    ·show s*z=strd zs 3 k*zs.getD (zs.length-1-k) 0
     rw[hs,← hz,hi]
    ·show _=inS data 3 (strd zs 3 k) (zs.getD (zs.length-1-k) 0) (zs.length-1-k) (outS zs data 3 k) data.length
     rw[← hs,← hw,← hi,hz]
    ·dsimp only
     exact V.wk
  ·have hx:=of_decide_eq_false h
   have hkn:k=zs.length:=Jo
   have hwT:w=T:=by rw[hw,hkn,hT]
   subst hwT
   refine V.r0 @jjC ?_
   refine⟨(),trivial,?_⟩
   have t0:(w 0).take zs.length=w 0:=jko (Nat.le_of_eq (wo 0).1)
   refine Wk.pub 200 ?_
   (conv=>whnf)
   simp only[t0]
   have t1:(w 1).take zs.length=w 1:=jko (Nat.le_of_eq (wo 1).1)
   refine Wk.pub 201 ?_
   (conv=>whnf)
   simp only[t1]
   have t2:(w 2).take zs.length=w 2:=jko (Nat.le_of_eq (wo 2).1)
   refine Wk.pub 202 ?_
   (conv=>whnf)
   simp only[t2]
   refine Wk.pub 21 ?_
   (conv=>whnf)
   simp only[jjC]
   exact V.wk
theorem jiq {data:List Int}{out s z:Int}{i n:Nat}{w:Nat→List Int}(hw:∀ r,(w r).length=n):∀ a r,(inS data out s z i w a r).length=n
 | 0,r=>hw r
 | a+1,r=>by
  have h:=jiq (data:=data) (out:=out) (s:=s) (z:=z) (i:=i) hw a r
  simp only[inS,stp]
  split
  ·exact h
  ·split
   ·rw[jkw];exact h
   ·exact h
theorem jeE {zs data:List Int}{out:Int} : ∀ k r,(outS zs data out k r).length=zs.length
 | 0,r=>by simp[outS]
 | k+1,r=>jiq (jeE k) _ r
theorem dv_at {q o r:Int}(ho:0<o)(hr:0≤r∧r<o):(q*o+r)/o=q∧(q*o+r)%o=r:=by
 have h1:(q*o+r)%o=r:=by rw[Int.add_comm,Int.add_mul_emod_self_right];exact Int.emod_eq_of_lt hr.1 hr.2
 have h2:(q*o+r)/o=q:=by
  rw[Int.add_comm,Int.add_mul_ediv_right _ _ Jo,Int.ediv_eq_zero_of_lt hr.1 hr.2,Int.zero_add]
 exact⟨h2,h1⟩
theorem dv_mul {a o z:Int}(ho:0≤o):a/(o*z)=a/o/z:=Int.ediv_mul_of_nonneg ho
theorem slot_get {data:List Int}{p out:Int}{r:Nat}(hr:r<out.toNat):(slot data p out).getD r 0=data.getD (p.toNat+r) 0:=by
 unfold slot
 simp[jj8,List.getElem?_take,hr,List.getElem?_drop]
theorem pos_at {q out:Int}{data:List Int}{N:Int}(ho:1≤out)(hl:(data.length:Int)=N*out)(hq:0≤q∧q<N){r:Nat}(hr:r<out.toNat) :
  ∃ a:Nat,(a:Int)=q*out+r∧a<data.length∧(a:Int)%out=r∧(a:Int)/out=q∧(slot data (q*out) out).getD r 0=data.getD a 0:=by
 have h0:0≤q*out:=jjB hq.1 Jo
 have h1:q*out+out≤N*out:=by
  have:=jjM (show q+1≤N by omega) (show 0≤out by omega)
  rw[jj1,jj2] at this
  exact this
 have d:=dv_at (q:=q) (o:=out) (r:=(r:Int)) Jo Jo
 have e:(((q*out).toNat+r:Nat):Int)=q*out+r:=Jo
 refine⟨(q*out).toNat+r,e,Jo,by rw[e];exact d.2,by rw[e];exact d.1,slot_get hr⟩
theorem value_t (zs data:List Int)(out:Int)(n:Nat)(X:Nat→List D)(Y:Nat→Tx)(ev:Cl 13 [.agg [Jj zs,Ji out,Jj data],.slf 2 n X] (.tup [V.sl2 1 [.str (Y 0).1,.str (Y 0).2],Ji 0])) :
  Cl 31 [.agg [Jj zs,Ji out,Jj data],Jt (Y 0),.slf 2 n X] (.bool true):=by
 have q:=eqf1 Y
 refine V.en tbOk Tryz.func31 ?_
 refine V.r2 @jjC ev q ?_
 exact Fin.of rfl
end Go.Proofs.YtbnghipgicmpdaaGreatDoor
end
