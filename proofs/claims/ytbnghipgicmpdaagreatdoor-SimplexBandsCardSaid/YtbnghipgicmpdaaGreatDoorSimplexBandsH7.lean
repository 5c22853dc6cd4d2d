/- What functions of the program answer at given values, part 7. Conditions: those that each theorem names. -/
import Derived.Test.YtbnghipgicmpdaaGreatDoorSimplexBandsH6
import Derived.Test.YtbnghipgicmpdaaGreatDoorSimplexBandsH4
import Derived.Lib.LaidTab
import Derived.Stop.LaidErr
import Derived.LaidMore
import Derived.Test.YtbnghipgicmpdaaGreatDoorSimplexBandsH5
set_option linter.unusedSimpArgs false
set_option linter.unusedVariables false
set_option maxHeartbeats 8000000
set_option maxRecDepth 100000
section
namespace Go.Proofs.YtbnghipgicmpdaaGreatDoor
open Go Go.V Go.Nb
theorem clamp_b (p q lo hi:Int):Cl 50 [bA p q,Ji lo,Ji hi] (bD (if vb p q=true then (if vb lo hi=true then mk (min (max p lo) hi) (min (max q lo) hi) else (0,0,2)) else (0,0,30))):=by
 by_cases hv:vb p q=true
 ·rw[if_pos hv]
  have hc:Cl 99 [.ref [Ji lo],.ref [Ji hi],.ref [Ji p,Ji q]] (bD (if vb lo hi=true then mk (min (max p lo) hi) (min (max q lo) hi) else (0,0,2))):=by
   have hvl:=jcK lo hi
   have hm:=made_b (min (max p lo) hi) (min (max q lo) hi)
   generalize vb lo hi=v at *
   generalize mk (min (max p lo) hi) (min (max q lo) hi)=r at *
   refine V.en tbOk Tryz.func99 ?_
   refine V.u1 hvl ?_
   refine V.br (fun hq=>?_) (fun hq=>?_)
   ·simp at hq
    subst hq
    (conv=>whnf)
    refine V.st ?_
    exact Fin.of rfl
   ·simp at hq
    subst hq
    refine V.u1 hm ?_
    exact Fin.of rfl
  generalize (if vb lo hi=true then mk (min (max p lo) hi) (min (max q lo) hi) else (0,0,2))=r at *
  have hk:=ckb3_ok 99 p q lo hi r.1 r.2.1 r.2.2 1 (l1 p q) (fun _=>p) (fun _=>q) (l1_c p q) Jo (fun _ _=>hv) hc
  refine V.en tbOk Tryz.func50 ?_
  refine V.u1 hk ?_
  exact Fin.of rfl
 ·rw[if_neg hv]
  have hk:=ckb3_no 99 p q lo hi 0 0 0 1 (l1 p q) (fun _=>p) (fun _=>q) (l1_c p q) Jo (one_no hv)
  refine V.en tbOk Tryz.func50 ?_
  refine V.u1 hk ?_
  exact Fin.of rfl
theorem hull_b (p q p2 q2:Int):Cl 108 [bA p q,bA p2 q2] (bD (if vb p q=true∧vb p2 q2=true then (if p=p2∧q=q2 then (p,q,0) else if max q q2<min p p2 then (0,0,4) else (min p p2,max q q2,0)) else (0,0,30))):=by
 have ch:Cl 156 [Ji 2,bA p q,bA p2 q2] (bD (if vb p q=true∧vb p2 q2=true then (if p=p2∧q=q2 then (p,q,0) else if max q q2<min p p2 then (0,0,4) else (min p p2,max q q2,0)) else (0,0,30))):=by
  by_cases hv:vb p q=true∧vb p2 q2=true
  ·rw[if_pos hv]
   have hc:Cl 194 [.ref [Ji p,Ji q],.ref [Ji p2,Ji q2],.ref [Ji 2]] (bD (if p=p2∧q=q2 then (p,q,0) else if max q q2<min p p2 then (0,0,4) else (min p p2,max q q2,0))):=by
    have k1:=least_c p [p2] Js
    have k2:=greatest_c q [q2] Js
    rw[show [p2].foldl min p=min p p2 from rfl] at k1
    rw[show [q2].foldl max q=max q q2 from rfl] at k2
    generalize min p p2=lo at *
    generalize max q q2=hi at *
    refine V.en tbOk Tryz.func194 ?_
    (conv=>whnf)
    refine V.st ?_
    refine V.br (fun h1=>?_) (fun h1=>?_)
    ·simp only[Bool.and_true,jjv,decide_eq_true_eq] at h1
     rw[if_pos h1]
     (conv=>whnf)
     refine V.st ?_
     exact Fin.of rfl
    ·rw[if_neg (fun h=>by simp only[Bool.and_true,Bool.and_eq_false_iff,decide_eq_false_iff_not] at h1;omega)]
     (conv=>whnf)
     refine V.st ?_
     refine⟨(V.tk [0,1,2,3,4,5,8,9,10,11,12,13] (.ev (.cons 6 [13,12,11,10,9,8,1,0] (.ev (.cons 7 [13,12,11,10,9,8] (V.e1 14 [9,8] (V.e1 15 [] (V.tk [16,17] .done))) (.cons 14 [9,8,1,0] (V.e1 7 [9,8] (V.e1 15 [] (V.tk [16,17] .done))) .nil))) (.cons 14 [9,8,5,4,3,2,1,0] (V.e1 6 [9,8,1,0] (V.e1 7 [9,8] (V.e1 15 [] (V.tk [16,17] .done)))) .nil)))),[],V.pok,?_⟩
     refine jab [(7,Ji lo),(8,Ji hi)] [] ?_ ?_
     ·exact V.d2 @jjC k1 k2
     (conv=>whnf)
     refine V.st ?_
     refine V.br (fun h2=>?_) (fun h2=>?_)
     ·rw[decide_eq_true_eq] at h2
      rw[if_pos h2]
      (conv=>whnf)
      refine V.st ?_
      exact Fin.of rfl
     ·rw[decide_eq_false_iff_not] at h2
      rw[if_neg h2]
      (conv=>whnf)
      refine V.st ?_
      exact Fin.of rfl
   generalize (if p=p2∧q=q2 then (p,q,(0:Int)) else if max q q2<min p p2 then (0,0,4) else (min p p2,max q q2,0))=r at *
   have hk:=ckb4_ok 194 p q p2 q2 2 r.1 r.2.1 r.2.2 2 (l2 p q p2 q2) (sel_o p p2) (sel_o q q2) (l2_c p q p2 q2) Jo (sel_ok hv.1 hv.2) hc
   refine V.en tbOk Tryz.func156 ?_
   refine V.u1 hk ?_
   exact Fin.of rfl
  ·rw[if_neg hv]
   have hk:=ckb4_no 194 p q p2 q2 2 0 0 0 2 (l2 p q p2 q2) (sel_o p p2) (sel_o q q2) (l2_c p q p2 q2) Jo (sel_no hv)
   refine V.en tbOk Tryz.func156 ?_
   refine V.u1 hk ?_
   exact Fin.of rfl
 generalize (if vb p q=true∧vb p2 q2=true then (if p=p2∧q=q2 then (p,q,(0:Int)) else if max q q2<min p p2 then (0,0,4) else (min p p2,max q q2,0)) else (0,0,30))=r at *
 refine V.en tbOk Tryz.func108 ?_
 refine V.u1 ch ?_
 exact Fin.of rfl
theorem flo_mul {z d:Int}(hd:0<d):flo z d*d≤z∧z-d<flo z d*d:=by
 unfold flo
 rw[if_pos hd]
 have h1:=jjA z d
 have h2:=jjz z (show d≠0 by omega)
 have h3:=jjY z hd
 rw[jjS]
 omega
theorem mk_ok {p q:Int}(h : -1000000000000000000≤p∧p≤q∧q≤1000000000000000000):mk p q=(p,q,0):=by
 unfold mk;rw[if_pos (jbC.2 h)]
end Go.Proofs.YtbnghipgicmpdaaGreatDoor
end
section
namespace Go.Proofs.YtbnghipgicmpdaaGreatDoor
open Go Go.V Go.Nb Go.RowKit
theorem okWide_arr {P:Program}{w:World}{r:Reach}{base:Nat}{t n e:Nat}{v:Value}(ht:P.underlying t=some (.array n e))(h:Value.okWide P w r base t v):∃ cs,v = .agg cs∧cs.size=P.cellsOf t:=by
 simp only[Value.okWide,ht] at h
 obtain⟨cs,h1,h2,_⟩:=h
 exact⟨cs,h1,h2⟩
theorem okWide_one {P : Program} {w : World} {r : Reach} {base : Nat} {t : TypeId} {v : Value} (ht : (match P.underlying t with | some (.struct _) => false | some (.array _ _) => false | _ => true) = true) (h : Value.okWide P w r base t v) : v.cells.toList = [v] := by
  unfold Value.okWide at h
  split at h
  · rename_i e
    rw [e] at ht
    cases ht
  · rename_i e
    rw [e] at ht
    cases ht
  · cases v <;> first | rfl | skip
    exfalso
    unfold Cell.okWide at h
    split at h
    all_goals first
      | (rename_i h1; simp at h1; done)
      | skip
    unfold Cell.ok at h
    split at h <;> simp_all
theorem glW_of_tab {w:World}(h:Lib.TabIs Tryz.prog w "internal/strconv.uint64pow10" .u64 Lib.pow10Tab){tp:TypeId}{p:Value}(h2:w.var? Tryz.prog "strconv.ErrRange" = some #[.iface tp p]):GlW w:=by
 refine⟨?_,?_⟩
 rotate_left
 ·intro g hg
  simp only[glbE,jka,List.not_mem_nil,or_false] at hg
  subst hg
  unfold World.var? at h2
  have hn:Tryz.prog.globalNamed "strconv.ErrRange" = some 1:=by kernel_rfl
  rw[hn] at h2
  simp only[Option.bind_some] at h2
  split at h2
  ·rename_i cs T f he
   cases h2
   exact⟨tp,p,T,f,he⟩
  ·cases h2
 intro g vs hg
 simp only[glb,jka,List.not_mem_nil,or_false,Prod.mk.injEq] at hg
 obtain⟨rfl,rfl⟩:=hg
 refine⟨Js,?_⟩
 unfold Lib.TabIs World.var? at h
 have hg:Tryz.prog.globalNamed "internal/strconv.uint64pow10" = some 2:=by kernel_rfl
 rw[hg] at h
 simp only[Option.bind_some] at h
 split at h
 ·rename_i cs T f he
  cases h
  exact⟨T,f,he⟩
 ·cases h
theorem jfp {w:World}{k:IntKind} : ∀ {n:Nat} {vs:List Value},leavesOk w (List.replicate n (Lf.int k)) vs → ∃ xs:List Int,xs.length=n∧vs=xs.map (Value.int k) ∧ ∀ x∈xs,InR k x
 | 0,vs,h=>⟨[],rfl,h,fun x hx=>by cases hx⟩
 | n+1,vs,h=>by
  rw[List.replicate_succ] at h
  obtain⟨v,r,rfl,⟨x,rfl,hx⟩,h2⟩:=h
  obtain⟨xs,h3,h4,h5⟩:=jfp h2
  subst h4
  refine⟨x::xs,by simp[h3],rfl,fun y hy=>?_⟩
  rcases jka.1 hy with e|e
  ·rw[e];exact hx
  ·exact h5 y e
def gdraftL:List Lf:=[.ints .u8,.int .u8,.ints .u16,.bool]
theorem gdraft_den {w:World}{cs:Array Value}(h:leavesOk w gdraftL cs.toList):∃ ds o vals sm,Den Env.dummy (pubOf w) (.agg [.ints .u8 ds,.int .u8 o,.ints .u16 vals,.bool sm]) (.agg cs) ∧
  (∀ v∈ds,0≤v∧v≤255)∧ds.length≤281474976710656∧(0≤o∧o≤255)∧(∀ v∈vals,0≤v∧v≤65535)∧vals.length≤281474976710656:=by
 obtain⟨v0,r0,e0,⟨ds,h0⟩,v1,r1,e1,⟨o,h1,h1'⟩,v2,r2,e2,⟨vals,h2⟩,v3,r3,e3,⟨sm,h3⟩,e4⟩:=h
 subst e4 e3 e2 e1
 obtain rfl:cs = #[v0,v1,v2,v3]:=by cases cs;simp_all
 subst h1 h3
 have g0:=h0
 have g2:=h2
 obtain⟨a0,c0,x0,_,y0,z0,_⟩:=g0
 obtain⟨a2,c2,x2,_,y2,z2,_⟩:=g2
 refine⟨ds,o,vals,sm,⟨[v0,.int .u8 o,v2,.bool sm],rfl,⟨v0,_,rfl,h0,_,_,rfl,⟨rfl,h1'⟩,_,_,rfl,h2,_,_,rfl,rfl,rfl⟩,?_⟩,?_,y0,?_,?_,y2⟩
 ·subst x0 x2
  intro v hv
  simp only[jka,List.not_mem_nil,or_false] at hv
  rcases hv with rfl|rfl|rfl|rfl<;>rfl
 ·intro v hv
  simpa [InR,V.lo,V.hi] using z0 v hv
 ·simpa [InR,V.lo,V.hi] using h1'
 ·intro v hv
  simpa [InR,V.lo,V.hi] using z2 v hv
def s4 {α:Type}(a b c d:α):Nat→α
 | 0=>a
 | 1=>b
 | 2=>c
 | _=>d
def i16x8L:List Lf:=List.replicate 8 (Lf.int .i16)
theorem pairs4_den {w:World}{k:IntKind}{cs:Array Value}(h:leavesOk w (List.replicate 8 (Lf.int k)) cs.toList)(h0:InR k 0):∃ a b:Nat→Int,Den Env.dummy (pubOf w) (.agg [.int k (a 0),.int k (b 0),.int k (a 1),.int k (b 1),.int k (a 2),.int k (b 2),.int k (a 3),.int k (b 3)]) (.agg cs)∧(∀ i,InR k (a i)) ∧ ∀ i,InR k (b i):=by
 obtain⟨xs,hl,hv,hr⟩:=jfp h
 match xs,hl with
 | [x0,x1,x2,x3,x4,x5,x6,x7],_=>
  have hg:∀ i,InR k ([x0,x1,x2,x3,x4,x5,x6,x7].getD i 0):=fun i=>by
   rw[jj8]
   cases hi:[x0,x1,x2,x3,x4,x5,x6,x7][i]? with
   | none=>exact h0
   | some x=>exact hr x (jkc hi)
  obtain rfl:cs = #[.int k x0,.int k x1,.int k x2,.int k x3,.int k x4,.int k x5,.int k x6,.int k x7]:=by cases cs;simp_all
  refine⟨fun i=>[x0,x1,x2,x3,x4,x5,x6,x7].getD (2*i) 0,fun i=>[x0,x1,x2,x3,x4,x5,x6,x7].getD (2*i+1) 0,⟨_,rfl,⟨_,_,rfl,⟨rfl,hg 0⟩,_,_,rfl,⟨rfl,hg 1⟩,_,_,rfl,⟨rfl,hg 2⟩,_,_,rfl,⟨rfl,hg 3⟩,_,_,rfl,⟨rfl,hg 4⟩,_,_,rfl,⟨rfl,hg 5⟩,_,_,rfl,⟨rfl,hg 6⟩,_,_,rfl,⟨rfl,hg 7⟩,rfl⟩,?_⟩,fun i=>hg _,fun i=>hg _⟩
  intro v hv
  simp only[jka,List.not_mem_nil,or_false] at hv
  rcases hv with rfl|rfl|rfl|rfl|rfl|rfl|rfl|rfl<;>rfl
def u8L:List Lf:=[.int .u8]
theorem u8_den {w:World}{v:Value}(h:leavesOk w u8L [v]):∃ n,Den Env.dummy (pubOf w) (.int .u8 n) v∧(0≤n∧n≤255):=by
 obtain⟨v0,r0,e0,⟨n,h0,h0'⟩,e1⟩:=h
 subst e1
 simp only[List.cons.injEq,and_true] at e0
 subst e0 h0
 exact⟨n,⟨rfl,h0'⟩,by simpa [InR,V.lo,V.hi] using h0'⟩
end Go.Proofs.YtbnghipgicmpdaaGreatDoor
end
section
namespace Go.Proofs.YtbnghipgicmpdaaGreatDoor
open Go Go.V Go.Nb
def Fq (n:Nat)(q:Rat):Prop:=q.num.natAbs<10^n∧q.den<10^n
theorem Fq.mono {m n:Nat}{q:Rat}(h:Fq m q)(hl:m≤n):Fq n q:=
 ⟨jjN h.1 (jjW Jd hl),jjN h.2 (jjW Jd hl)⟩
theorem Fq.ok {n:Nat}{q:Rat}(h:Fq n q)(h0:0<n)(h6:n≤600):okF q=true:=by
 unfold okF
 simp only[jjv,decide_eq_true_eq]
 exact⟨jjH (jbI n _ h0 h.1).1 h6,jjH (jbI n _ h0 h.2).1 h6⟩
theorem jfU (n:Int)(d:Nat)(hd:0<d):(Rat.divInt n d).num.natAbs≤n.natAbs∧(Rat.divInt n d).den≤d:=by
 rw[Rat.num_divInt,Rat.den_divInt,if_neg Jo,jj5 Jo,jj2]
 refine⟨?_,?_⟩
 ·rw[Int.natAbs_ediv_of_dvd (by exact Int.gcd_dvd_right ..)]
  exact jjX _ _
 ·rw[jjV]
  exact jjX _ _
theorem ja1 {n:Nat}{x:Int}{d:Nat}(hd:0<d)(h1:x.natAbs<10^n)(h2:d<10^n):Fq n (Rat.divInt x d):=
 ⟨Nat.lt_of_le_of_lt (jfU x d hd).1 h1,Nat.lt_of_le_of_lt (jfU x d hd).2 h2⟩
theorem jeV {a b x y:Nat}(h1:x<10^a)(h2:y<10^b):x*y<10^(a+b):=by
 rw[Nat.pow_add]
 rcases jjI y with e|e
 ·rw[e,Nat.mul_zero]
  exact Nat.mul_pos (Nat.pow_pos Jd) (Nat.pow_pos Jd)
 ·exact jjN (Nat.mul_lt_mul_of_pos_right h1 e) (Nat.mul_le_mul_left _ (Nat.le_of_lt h2))
theorem Fq.add {a b:Nat}{p q:Rat}(h:Fq a p)(g:Fq b q):Fq (a+b+1) (p+q):=by
 have hp:=p.den_pos
 have hq:=q.den_pos
 have e:p+q=Rat.divInt (p.num*q.den+q.num*p.den) ((p.den*q.den:Nat):Int):=by
  conv=>lhs;rw[← jj6 p,← jj6 q]
  rw[Rat.divInt_add_divInt _ _ Jo Jo,jjQ]
 rw[e]
 have m1:=jeV h.1 g.2
 have m2:=jeV g.1 h.2
 have m3:=jeV h.2 g.2
 rw[Nat.add_comm b a] at m2
 have e10:10^(a+b+1)=10*10^(a+b):=by rw[Nat.pow_succ,jjK]
 refine ja1 (Nat.mul_pos hp hq) ?_ ?_
 ·have t:=Int.natAbs_add_le (p.num*q.den) (q.num*p.den)
  rw[Int.natAbs_mul,Int.natAbs_mul,jjV,jjV] at t
  omega
 ·omega
theorem Fq.neg {a:Nat}{p:Rat}(h:Fq a p):Fq a (-p):=⟨by rw[Rat.neg_num,Int.natAbs_neg];exact h.1,by rw[Rat.neg_den];exact h.2⟩
theorem Fq.sub {a b:Nat}{p q:Rat}(h:Fq a p)(g:Fq b q):Fq (a+b+1) (p-q):=by
 rw[Rat.sub_eq_add_neg]
 exact h.add g.neg
theorem Fq.mul {a b:Nat}{p q:Rat}(h:Fq a p)(g:Fq b q):Fq (a+b) (p*q):=by
 have e:p*q=Rat.divInt (p.num*q.num) ((p.den*q.den:Nat):Int):=by
  conv=>lhs;rw[← jj6 p,← jj6 q]
  rw[Rat.divInt_mul_divInt,jjQ]
 rw[e]
 refine ja1 (Nat.mul_pos p.den_pos q.den_pos) ?_ (jeV h.2 g.2)
 rw[Int.natAbs_mul]
 exact jeV h.1 g.1
theorem Fq.inv {a:Nat}{p:Rat}(h:Fq a p)(h0:p.num≠0):Fq a p⁻¹:=by
 rw[Rat.inv_def]
 rcases Int.lt_or_gt_of_ne h0 with hn|hn
 ·have e:Rat.divInt (p.den:Int) p.num=Rat.divInt (-(p.den:Int)) ((p.num.natAbs:Nat):Int):=by
   rw[Rat.divInt_eq_divInt_iff h0 Jo]
   have:((p.num.natAbs:Nat):Int) = -p.num:=Jo
   rw[this]
   grind
  rw[e]
  exact ja1 Jo (by rw[Int.natAbs_neg,jjV];exact h.2) h.1
 ·have e:p.num=((p.num.natAbs:Nat):Int):=Jo
  rw[e]
  exact ja1 Jo (by rw[jjV];exact h.2) h.1
theorem Fq.div {a b:Nat}{p q:Rat}(h:Fq a p)(g:Fq b q)(h0:q.num≠0):Fq (a+b) (p/q):=by
 rw[Rat.div_def]
 exact h.mul (g.inv h0)
theorem fadd_ok (s t u v:List UInt8)(h:okP s t=true)(g:okP u v=true)(hn:(mg 1000000000 (qv s t+qv u v).num.natAbs).length≤90000000)(hd:(mg 1000000000 (qv s t+qv u v).den).length≤90000000):Cl 105 [.agg [.str s,.str t],.agg [.str u,.str v]] (frR (qv s t+qv u v)):=by
 have r1:=jbG s t h
 have r2:=jbG u v g
 have o:=add_c (qv s t) (qv u v) (qsize h) (qsize g)
 have w:=jd8 (qv s t+qv u v) hn hd
 generalize qv s t+qv u v=q at *
 have ap:Cl 143 [.agg [.str s,.str t],.agg [.str u,.str v],.fn 155 [] []] (.tup [rtD q,Ji 0]):=by
  refine V.en tbOk Tryz.func143 ?_
  refine V.u3 r1 r2 o ?_
  exact Fin.of rfl
 have rs:Cl 142 [rtD q,Ji 0] (frR q):=by
  refine V.en tbOk Tryz.func142 ?_
  refine V.u1 w ?_
  exact Fin.of rfl
 refine V.en tbOk Tryz.func105 ?_
 refine V.u2 ap rs ?_
 exact Fin.of rfl
theorem fsub_ok (s t u v:List UInt8)(h:okP s t=true)(g:okP u v=true)(hn:(mg 1000000000 (qv s t-qv u v).num.natAbs).length≤90000000)(hd:(mg 1000000000 (qv s t-qv u v).den).length≤90000000):Cl 104 [.agg [.str s,.str t],.agg [.str u,.str v]] (frR (qv s t-qv u v)):=by
 have r1:=jbG s t h
 have r2:=jbG u v g
 have o:=sub_c (qv s t) (qv u v) (qsize h) (qsize g)
 have w:=jd8 (qv s t-qv u v) hn hd
 generalize qv s t-qv u v=q at *
 have ap:Cl 143 [.agg [.str s,.str t],.agg [.str u,.str v],.fn 154 [] []] (.tup [rtD q,Ji 0]):=by
  refine V.en tbOk Tryz.func143 ?_
  refine V.u3 r1 r2 o ?_
  exact Fin.of rfl
 have rs:Cl 142 [rtD q,Ji 0] (frR q):=by
  refine V.en tbOk Tryz.func142 ?_
  refine V.u1 w ?_
  exact Fin.of rfl
 refine V.en tbOk Tryz.func104 ?_
 refine V.u2 ap rs ?_
 exact Fin.of rfl
theorem fmul_ok (s t u v:List UInt8)(h:okP s t=true)(g:okP u v=true)(hn:(mg 1000000000 (qv s t*qv u v).num.natAbs).length≤90000000)(hd:(mg 1000000000 (qv s t*qv u v).den).length≤90000000):Cl 87 [.agg [.str s,.str t],.agg [.str u,.str v]] (frR (qv s t*qv u v)):=by
 have r1:=jbG s t h
 have r2:=jbG u v g
 have o:=mul_c (qv s t) (qv u v) (qsize h) (qsize g)
 have w:=jd8 (qv s t*qv u v) hn hd
 generalize qv s t*qv u v=q at *
 have ap:Cl 143 [.agg [.str s,.str t],.agg [.str u,.str v],.fn 144 [] []] (.tup [rtD q,Ji 0]):=by
  refine V.en tbOk Tryz.func143 ?_
  refine V.u3 r1 r2 o ?_
  exact Fin.of rfl
 have rs:Cl 142 [rtD q,Ji 0] (frR q):=by
  refine V.en tbOk Tryz.func142 ?_
  refine V.u1 w ?_
  exact Fin.of rfl
 refine V.en tbOk Tryz.func87 ?_
 refine V.u2 ap rs ?_
 exact Fin.of rfl
theorem Q9.inv {k:Nat}{q:Rat}(h:Q9 k q)(h0:q.num≠0):Q9 k q⁻¹:=by
 obtain⟨p1,p2⟩:=jhC q h0
 constructor
 ·rw[p1]
  unfold S9
  have e:(if decide (q.num<0)=true then -(q.den:Int) else (q.den:Int)).natAbs=q.den:=by
   split<;>simp
  rw[e]
  exact h.2
 ·rw[p2];exact h.1
theorem fdiv_ok (s t u v:List UInt8)(h:okP s t=true)(g:okP u v=true)(h0:(qv u v).num≠0)(hn:(mg 1000000000 (qv s t/qv u v).num.natAbs).length≤90000000)(hd:(mg 1000000000 (qv s t/qv u v).den).length≤90000000):Cl 90 [.agg [.str s,.str t],.agg [.str u,.str v]] (frR (qv s t/qv u v)):=by
 have r1:=jbG s t h
 have r2:=jbG u v g
 have z1:=jdv (qv u v).num.natAbs
 rw[decide_eq_false (show ¬ (qv u v).num.natAbs=0 by omega)] at z1
 have i1:=inverse_c (qv u v) h0
 have o:=mul_c (qv s t) (qv u v)⁻¹ (qsize h) ((qsize g).inv h0)
 have w:=jd8 (qv s t/qv u v) hn hd
 rw[Rat.div_def] at w ⊢
 unfold frR at *
 generalize qv s t*(qv u v)⁻¹=q at *
 generalize (qv u v)⁻¹=y at *
 refine V.en tbOk Tryz.func90 ?_
 refine V.u3 r1 r2 z1 ?_
 refine⟨(V.tk [0,1] (V.e1 2 [0] (V.e1 3 [] (V.e1 4 [] (V.tk [5,6] (V.e1 7 [] (V.tk [8] .done))))))),[],V.pok,.go (jac ?_)⟩
 refine V.u3 i1 o w ?_
 exact Fin.of rfl
def frT (x:Rat):D := .agg [.str (decZ x.num),.str (dec x.den)]
theorem jaE {q:Rat}(h:okF q=true):okP (decZ q.num) (dec q.den)=true∧qv (decZ q.num) (dec q.den)=q:=by
 unfold okF at h
 simp only[jjv,decide_eq_true_eq] at h
 have hdz:dec q.den=decZ (q.den:Int):=by unfold decZ;rw[if_neg Jo,jjV]
 have w1:wval (decZ q.num)=q.num:=jbf _
 have w2:wval (dec q.den)=(q.den:Int):=by rw[hdz];exact jbf _
 have o1:=jcA q.num h.1
 have o2:okW (dec q.den)=true:=by rw[hdz];exact jcA _ (by rw[jjV];exact h.2)
 have hp:=q.den_pos
 constructor
 ·unfold okP
  rw[o1,o2,w1,w2]
  simp only[jjv,decide_eq_true_eq,Bool.true_and,jjV]
  exact⟨Jo,q.reduced⟩
 ·unfold qv
  rw[w1,w2]
  exact jj6 q
theorem jc3 {q:Rat}(h:okF q=true):frR q = .tup [frT q,Ji 0]:=by
 unfold frR
 rw[h]
 rfl
theorem mg_fq {n:Nat}{q:Rat}(h:Fq n q)(h6:n≤600):(mg 1000000000 q.num.natAbs).length≤90000000∧(mg 1000000000 q.den).length≤90000000:=
 ⟨jjH (len9 (h.mono h6).1) Jo,jjH (len9 (h.mono h6).2) Jo⟩
theorem zadd {a b:Nat}{p q:Rat}(h:Fq a p)(g:Fq b q)(ha:0<a)(hb:0<b)(hab:a+b+1≤600):Cl 105 [frT p,frT q] (.tup [frT (p+q),Ji 0]):=by
 obtain⟨o1,e1⟩:=jaE (h.ok ha Jo)
 obtain⟨o2,e2⟩:=jaE (g.ok hb Jo)
 have hs:=h.add g
 have hm:=mg_fq hs Jo
 have c:=fadd_ok _ _ _ _ o1 o2 (by rw[e1,e2];exact hm.1) (by rw[e1,e2];exact hm.2)
 rw[e1,e2,jc3 (hs.ok Jo Jo)] at c
 exact c
theorem zsub {a b:Nat}{p q:Rat}(h:Fq a p)(g:Fq b q)(ha:0<a)(hb:0<b)(hab:a+b+1≤600):Cl 104 [frT p,frT q] (.tup [frT (p-q),Ji 0]):=by
 obtain⟨o1,e1⟩:=jaE (h.ok ha Jo)
 obtain⟨o2,e2⟩:=jaE (g.ok hb Jo)
 have hs:=h.sub g
 have hm:=mg_fq hs Jo
 have c:=fsub_ok _ _ _ _ o1 o2 (by rw[e1,e2];exact hm.1) (by rw[e1,e2];exact hm.2)
 rw[e1,e2,jc3 (hs.ok Jo Jo)] at c
 exact c
theorem zmul {a b:Nat}{p q:Rat}(h:Fq a p)(g:Fq b q)(ha:0<a)(hb:0<b)(hab:a+b+1≤600):Cl 87 [frT p,frT q] (.tup [frT (p*q),Ji 0]):=by
 obtain⟨o1,e1⟩:=jaE (h.ok ha Jo)
 obtain⟨o2,e2⟩:=jaE (g.ok hb Jo)
 have hs:=h.mul g
 have hm:=mg_fq hs Jo
 have c:=fmul_ok _ _ _ _ o1 o2 (by rw[e1,e2];exact hm.1) (by rw[e1,e2];exact hm.2)
 rw[e1,e2,jc3 (hs.ok Jo Jo)] at c
 exact c
theorem zdiv {a b:Nat}{p q:Rat}(h:Fq a p)(g:Fq b q)(h0:q.num≠0)(ha:0<a)(hb:0<b)(hab:a+b+1≤600):Cl 90 [frT p,frT q] (.tup [frT (p/q),Ji 0]):=by
 obtain⟨o1,e1⟩:=jaE (h.ok ha Jo)
 obtain⟨o2,e2⟩:=jaE (g.ok hb Jo)
 have hs:=h.div g h0
 have hm:=mg_fq hs Jo
 have c:=fdiv_ok _ _ _ _ o1 o2 (by rw[e2];exact h0) (by rw[e1,e2];exact hm.1) (by rw[e1,e2];exact hm.2)
 rw[e1,e2,jc3 (hs.ok Jo Jo)] at c
 exact c
theorem zcmp {a b:Nat}{p q:Rat}(h:Fq a p)(g:Fq b q)(ha:0<a∧a≤600)(hb:0<b∧b≤600):Cl 135 [frT p,frT q] (.tup [Ji (ordQ p q),Ji 0]):=by
 obtain⟨o1,e1⟩:=jaE (h.ok ha.1 ha.2)
 obtain⟨o2,e2⟩:=jaE (g.ok hb.1 hb.2)
 have c:=fcmp_ok _ _ _ _ o1 o2
 rw[e1,e2] at c
 exact c
abbrev Tx:=List UInt8×List UInt8
def okX (x:Tx):Bool:=okP x.1 x.2
def qX (x:Tx):Rat:=qv x.1 x.2
def BdX (n:Nat)(x:Tx):Prop:=(x.1.length≤281474976710656∧x.2.length≤281474976710656)∧(okX x=true→Fq n (qX x))
theorem BdX.mono {m n:Nat}{x:Tx}(h:BdX m x)(hl:m≤n):BdX n x:=⟨h.1,fun g=>(h.2 g).mono hl⟩
structure Sg (s d:List UInt8)(j:Nat)(neg:Bool):Prop where
 hj:j=if neg then 1 else 0
 hl:s.length=d.length+j
 hg:∀ i,s.getD (i+j) 0=d.getD i 0
 h0:(0<s.length∧s.getD 0 0=45)↔neg=true
theorem sg_of (s:List UInt8):∃ d j neg,Sg s d j neg∧okW s=okD d neg∧wval s=if neg then -(rdv d:Int) else rdv d:=by
 cases s with
 | nil=>exact⟨[],0,false,⟨rfl,rfl,fun i=>rfl,Js⟩,rfl,rfl⟩
 | cons c r=>
  by_cases hc:c=45
  ·subst hc
   have h1:Go.Lib.hasPrefix (45::r) [45]=true:=by simp[Go.Lib.hasPrefix]
   have h2:Go.Lib.trimPrefix (45::r) [45]=r:=by unfold Go.Lib.trimPrefix;rw[h1];rfl
   refine⟨r,1,true,⟨rfl,Js,fun i=>Js,Js⟩,?_,?_⟩
   ·unfold okW;rw[h1,h2]
   ·unfold wval;rw[h1,h2]
  ·have h1:Go.Lib.hasPrefix (c::r) [45]=false:=by
    show List.isPrefixOf [45] (c::r)=false
    simp only[List.isPrefixOf,Bool.and_true,beq_eq_false_iff_ne]
    exact Ne.symm hc
   have h2:Go.Lib.trimPrefix (c::r) [45]=c::r:=by unfold Go.Lib.trimPrefix;rw[h1];rfl
   refine⟨c::r,0,false,⟨rfl,Js,fun i=>Js,by simp[hc]⟩,?_,?_⟩
   ·unfold okW;rw[h1,h2]
   ·unfold wval;rw[h1,h2]
theorem u8_eq (c:UInt8)(n:Nat)(hn:n<256):decide (((c.toNat:Nat):Int)=n)=decide (c=UInt8.ofNat n):=decide_eq_decide.2 ⟨fun h=>UInt8.toNat_inj.1 (by rw[UInt8.toNat_ofNat_of_lt' (by simpa using hn)];omega),fun h=>by rw[h,UInt8.toNat_ofNat_of_lt' (by simpa using hn)]⟩
theorem jhp (s d:List UInt8)(j:Nat)(neg:Bool)(S:Sg s d j neg)(hs:s.length≤281474976710656):Cl 136 [.str s] (.bool (okD d neg)):=by
 obtain⟨hj,hl,hg,h0⟩:=S
 have hJ:j≤1:=by rw[hj];split<;>omega
 have e0:(0:Int).toNat=0:=rfl
 have q45:decide (((s.getD 0 0).toNat:Int)=45)=decide (s.getD 0 0=45):=u8_eq _ 45 Jo
 have qn:(decide ((s.length:Int)>0) && decide (s.getD 0 0=45))=neg:=by
  rw[Bool.eq_iff_iff,← h0,jjv,decide_eq_true_eq,decide_eq_true_eq]
  exact and_congr_left' Jo
 refine V.en tbOk Tryz.func136 ?_
 refine V.r0 (V.a3 e0 q45 qn) ?_
 refine ja5 [(3,Ji j)] [] (CondB.mk (fun hq=>?_) (fun hq=>?_)) ?_
 ·subst hq
  rw[if_pos rfl] at hj
  subst hj
  (conv=>whnf)
  refine V.st ?_
  exact V.wk
 ·subst hq
  rw[if_neg Js] at hj
  subst hj
  (conv=>whnf)
  refine V.st ?_
  exact V.wk
 have hsl:(s.length:Int)-j=d.length:=Jo
 clear q45 qn h0
 refine V.r0 hsl ?_
 refine V.br (fun hq=>?_) (fun hq=>?_)
 ·simp only[Bool.or_eq_true,decide_eq_true_eq] at hq
  have hf:okD d neg=false:=by
   unfold okD
   rcases hq with h|h
   ·rw[decide_eq_true (show d.length=0 by omega)];rfl
   ·rw[decide_eq_true (show 600<d.length by omega),Bool.or_true];rfl
  rw[hf]
  (conv=>whnf)
  refine V.st ?_
  exact Fin.of rfl
 ·simp only[jjP,decide_eq_false_iff_not] at hq
  (conv=>whnf)
  refine V.st ?_
  refine jad (0:Nat) (fun k=>k≤d.length ∧ ∀ i,i<k→isDig (d.getD i 0)=true) (fun k=>d.length-k) (fun k=>[(5,Ji ((k+j:Nat):Int))]) (fun _=>[]) ?_ ?_ ?_
  ·rw[jjC]
   exact V.wk
  ·exact⟨jjx _,fun i hi=>Jo⟩
  intro k hk
  have hkc:(((k+j:Nat):Int)+1)=((k+1+j:Nat):Int):=Jo
  have hkt:((k+j:Nat):Int).toNat=k+j:=Jo
  (conv=>whnf)
  refine V.st ?_
  refine V.br (fun hq2=>?_) (fun hq2=>?_)
  ·rw[decide_eq_true_eq] at hq2
   have hdl:=dig_lo (d.getD k 0)
   have hgk:=hg k
   generalize hc:d.getD k 0=c at *
   refine V.r0 (V.a3 hkt hgk hkc) ?_
   refine V.br (fun hq3=>?_) (fun hq3=>?_)
   ·rw[Bool.or_eq_true,decide_eq_true_eq,decide_eq_true_eq] at hq3
    have hf:okD d neg=false:=by
     have h1:d.all isDig=false:=by
      rw[List.all_eq_false]
      refine⟨c,?_,fun h=>by have:=hdl.1 h;omega⟩
      rw[← hc,jj8,jkb Jo]
      exact List.getElem_mem _
     unfold okD
     rw[h1,Bool.and_false,jj3]
    rw[hf]
    (conv=>whnf)
    refine V.st ?_
    exact Fin.of rfl
   ·rw[jjP,decide_eq_false_iff_not,decide_eq_false_iff_not] at hq3
    refine V.r0 hkc ?_
    refine⟨k+1,⟨Jo,fun i hi=>?_⟩,Jo,V.wk⟩
    rcases jjO i k with h|h
    ·exact hk.2 i h
    ·obtain rfl:i=k:=Jo
     rw[hc];exact hdl.2 Jo
  ·rw[decide_eq_false_iff_not] at hq2
   obtain rfl:k=d.length:=Jo
   have hall:∀ c∈d,isDig c=true:=fun c hc=>by
    obtain⟨i,hi,e⟩:=List.getElem_of_mem hc
    have:=hk.2 i hi
    rw[jj8,jkb hi] at this
    rw[← e];exact this
   have hok:okD d neg = !(decide (d.getD 0 0=48) && (neg || decide (1<d.length))):=by
    unfold okD
    rw[jj7.2 hall,decide_eq_false (show ¬ d.length=0 by omega),decide_eq_false (show ¬ 600<d.length by omega)]
    rfl
   have hu:decide ((((d.getD 0 0).toNat:Nat):Int)=48)=decide (d.getD 0 0=48):=u8_eq _ 48 Jo
   have hg0:=hg 0
   rw[jjC] at hg0
   have hll:decide ((s.length:Int)=1) = !(neg || decide (1<d.length)):=by
    by_cases hn:neg=true
    ·subst hn
     rw[if_pos rfl] at hj
     rw[decide_eq_false Jo]
     rfl
    ·rw[if_neg hn] at hj
     rw[Bool.eq_false_iff.2 hn,Bool.false_or]
     by_cases h1:1<d.length
     ·rw[decide_eq_true h1,decide_eq_false Jo];rfl
     ·rw[decide_eq_false h1,decide_eq_true Jo];rfl
   have hu2:decide ((((d.getD 0 0).toNat:Nat):Int)≠48) = !decide (d.getD 0 0=48):=by rw[← hu,decide_not]
   have hne:(!decide (d.getD 0 0=48) || !(neg || decide (1<d.length)))=okD d neg:=by rw[hok,Bool.not_and]
   refine V.r0 (V.a5 @jjF hg0 hu2 hll hne) ?_
   exact Fin.of rfl
theorem rdv_chunk (d:List UInt8)(hd:∀ c∈d,isDig c=true)(m:Nat)(hm:m≤d.length):rdv (d.take m)/10000=rdv (d.take (m-4))∧rdv (d.take m)%10000=rdv ((d.take m).drop (m-4)):=by
 have e:d.take m=d.take (m-4)++(d.take m).drop (m-4):=by
  conv=>lhs;rw[← List.take_append_drop (m-4) (d.take m),List.take_take,Nat.min_eq_left Jo]
 have hb:=je5 (s:=(d.take m).drop (m-4)) (fun c hc=>hd c (jkj (jki hc)))
 have hl:((d.take m).drop (m-4)).length=m-(m-4):=by rw[jkt,jke];omega
 rw[hl] at hb
 have ev:rdv (d.take m)=rdv (d.take (m-4))*10^(m-(m-4))+rdv ((d.take m).drop (m-4)):=by
  conv=>lhs;rw[e]
  rw[jbs,hl]
 rw[ev]
 generalize rdv ((d.take m).drop (m-4))=y at *
 rcases (by omega:m<4∨4≤m) with h|h
 ·have h0:m-4=0:=Jo
  have h10:10^(m-(m-4))≤10000:=by
   rw[h0]
   rcases (by omega:m=0∨m=1∨m=2∨m=3) with e|e|e|e<;>subst e<;>decide
  rw[h0,List.take_zero,show rdv []=0 from rfl,Nat.zero_mul]
  omega
 ·rw[show m-(m-4)=4 by omega,show (10:Nat)^4=10000 from rfl] at *
  omega
theorem rdv_next (d:List UInt8)(lo k:Nat)(h1:lo≤k)(h2:k<d.length):rdv ((d.take (k+1)).drop lo)=rdv ((d.take k).drop lo)*10+((d.getD k 0).toNat-48):=by
 have e:(d.take (k+1)).drop lo=(d.take k).drop lo++[d.getD k 0]:=by
  rw[jky,jkb h2,jkm (by rw[jke];omega),jj8,jkb h2]
  rfl
 rw[e,jbs,jec]
 rfl
theorem in01_g (s d:List UInt8)(j:Nat)(neg:Bool)(S:Sg s d j neg)(hd:∀ c∈d,isDig c=true)(hdl:d.length≤600)(hs0:0<s.length) :
  Cl 67 [.str s] (plD (if neg then -(rdv d:Int) else rdv d)):=by
 obtain⟨hj,hl,hg,h0⟩:=S
 have hJ:j≤1:=by rw[hj];split<;>omega
 have e0:(0:Int).toNat=0:=rfl
 have q45:decide (((s.getD 0 0).toNat:Int)=45)=neg:=by
  rw[show (45:Int)=((45:Nat):Int) from rfl,u8_eq _ 45 Jo,Bool.eq_iff_iff,← h0,decide_eq_true_eq]
  exact⟨fun h=>⟨hs0,h⟩,fun h=>h.2⟩
 refine V.en tbOk Tryz.func67 ?_
 refine V.r0 (V.a2 e0 q45) ?_
 refine ja5 [(3,Ji j)] [] (CondB.mk (fun hq=>?_) (fun hq=>?_)) ?_
 ·subst hq
  rw[if_pos rfl] at hj
  subst hj
  (conv=>whnf)
  refine V.st ?_
  exact V.wk
 ·subst hq
  rw[if_neg Js] at hj
  subst hj
  (conv=>whnf)
  refine V.st ?_
  exact V.wk
 (conv=>whnf)
 refine V.st ?_
 refine Lp.ghostSlot 38 4 .i64 Jd ?_
 (conv=>whnf)
 refine jad (((s.length:Int),d.length,[]):Int×Nat×List Int) (fun st=>st.2.1≤d.length∧(st.1=(st.2.1+j:Nat)∨(st.2.1=0∧st.1<j∧(j:Int)-4≤st.1))∧val 10000 st.2.2+((10000:Nat):Int)^st.2.2.length*((rdv (d.take st.2.1):Nat):Int)=((rdv d:Nat):Int)∧Dg 10000 st.2.2∧st.2.2.length+(st.2.1+3)/4≤151) (fun st=>st.2.1) (fun st=>[(5,Ji st.1),(4,.osl 38 0 st.2.2.length)]) (fun st=>[(38,.arr .i64 st.2.2)]) ?_ ?_ ?_
 ·exact V.wk
 ·exact⟨jjG _,.inl (by dsimp only;omega),by simp[val],fun x hx=>by simp at hx,by dsimp only [List.length_nil];omega⟩
 rintro⟨e,m,out⟩ ⟨h1,h2,h3,h4,h5⟩
 dsimp only at h1 h2 h3 h4 h5 ⊢
 (conv=>whnf)
 refine V.st ?_
 refine V.br (fun hq=>?_) (fun hq=>?_)
 ·rw[decide_eq_true_eq] at hq
  have he:e=((m+j:Nat):Int):=Jo
  have hm0:0<m:=Jo
  subst he
  obtain⟨lo,hlo⟩:∃ lo,lo=m-4:=⟨_,rfl⟩
  have hmx:max (((m+j:Nat):Int)-4) (j:Int)=((lo+j:Nat):Int):=Jo
  have hch:=rdv_chunk d hd m h1
  rw[← hlo] at hch
  have hst:=jeO (B:=10000) Jo h3
  rw[hch.1,hch.2] at hst
  have hbd:∀ i,lo+i≤m→rdv ((d.take (lo+i)).drop lo)<10000:=fun i hi=>by
   have hl1:((d.take (lo+i)).drop lo).length≤4:=by rw[jkt,jke];omega
   have:=je5 (s:=(d.take (lo+i)).drop lo) (fun c hc=>hd c (jkj (jki hc)))
   have h2:(10:Nat)^((d.take (lo+i)).drop lo).length≤10^4:=jjW Jo hl1
   omega
  have hnx:∀ i,lo+i<m→rdv ((d.take (lo+(i+1))).drop lo)=rdv ((d.take (lo+i)).drop lo)*10+((d.getD (lo+i) 0).toNat-48):=fun i hi=>by
   rw[← Nat.add_assoc]
   exact rdv_next d lo (lo+i) Jo Jo
  have hx0:rdv ((d.take (lo+0)).drop lo)=0:=by
   have hnil:(d.take lo).drop lo=[]:=List.drop_eq_nil_of_le (by rw[jke];omega)
   rw[jjD,hnil];rfl
  refine V.r0 hmx ?_
  refine jad (0:Nat) (fun i=>lo+i≤m) (fun i=>m-(lo+i)) (fun i=>[(7,Ji ((lo+i+j:Nat):Int)),(6,Ji ((rdv ((d.take (lo+i)).drop lo):Nat):Int))]) (fun _=>[]) ?_ ?_ ?_
  ·rw[hx0]
   exact V.wk
  ·show lo+0≤m
   omega
  intro i hi
  have hi2:=hbd i hi
  (conv=>whnf)
  refine V.st ?_
  refine V.br (fun hq2=>?_) (fun hq2=>?_)
  ·rw[decide_eq_true_eq] at hq2
   have hn2:=hnx i Jo
   have hgi:=hg (lo+i)
   have hdc:isDig (d.getD (lo+i) 0)=true:=hd _ (by rw[jj8,jkb Jo];exact List.getElem_mem _)
   have hdl2:=(dig_lo _).1 hdc
   have hi3:=hbd (i+1) Jo
   generalize d.getD (lo+i) 0=c at *
   have hkt:((lo+i+j:Nat):Int).toNat=lo+i+j:=Jo
   have hkc:(((lo+i+j:Nat):Int)+1)=((lo+(i+1)+j:Nat):Int):=Jo
   have hsum:((rdv ((d.take (lo+i)).drop lo):Nat):Int)*10+((c.toNat:Int)-48)=((rdv ((d.take (lo+(i+1))).drop lo):Nat):Int):=by
    rw[hn2];omega
   refine V.r0 (V.a4 hkt hgi hkc hsum) ?_
   exact⟨i+1,Jo,Jo,V.wk⟩
  ·rw[decide_eq_false_iff_not] at hq2
   have hmi:lo+i=m:=Jo
   rw[hmi]
   have hl2:(out++[((rdv ((d.take m).drop lo):Nat):Int)]).length=out.length+1:=Js
   have hl3:out.length+(List.take 1 (List.drop 0 [((rdv ((d.take m).drop lo):Nat):Int)])).length=(out++[((rdv ((d.take m).drop lo):Nat):Int)]).length:=Js
   have hdg:Dg 10000 (out++[((rdv ((d.take m).drop lo):Nat):Int)]):=jai h4 (jaA ⟨Jo,by have:=hbd i hi;rw[hmi] at this;omega⟩)
   refine V.r0 hl3 ?_
   try refine And.intro (fun _=>⟨trivial,Jo⟩) ?_
   refine V.r0 hl3 ?_
   exact⟨(((m+j:Nat):Int)-4,lo,out++[((rdv ((d.take m).drop lo):Nat):Int)]),⟨by dsimp only;omega,by dsimp only;omega,hst,hdg,by dsimp only;omega⟩,by dsimp only;omega,V.wk⟩
 ·rw[decide_eq_false_iff_not] at hq
  have hm0:m=0:=Jo
  subst hm0
  have hv:val 10000 out=((rdv d:Nat):Int):=by
   rw[List.take_zero,show rdv []=0 from rfl] at h3
   simpa using h3
  have hmd:=jfm neg out h4 Jo
  rw[hv] at hmd
  have e1:decide ((j:Int)=1)=neg:=by
   cases neg with
   | true=>rw[if_pos rfl] at hj;rw[hj];rfl
   | false=>rw[if_neg Js] at hj;rw[hj];rfl
  (conv=>whnf)
  (try simp only[e1,jkz])
  repeat ((first|refine V.s1 ?_|((try ((with_reducible refine .ext ?_);(conv=>whnf);(try simp only[e1,jkz])));(with_reducible refine jaa (r:=?_) ?_ ?_);rotate_left;(focus (first|exact(hmd)));(conv=>whnf)));(try simp only[e1,jkz]))
  exact Fin.of rfl
theorem jbw (x y:Int)(hx:Sm 40000000 x)(hy:Sm 40000000 y):Cl 125 [plD x,plD y] (plD (x*y)):=by
 unfold Sm at hx hy
 have hl:=jbV (B:=10000) Jo x.natAbs y.natAbs
 have hp:=jfa (mg 10000 x.natAbs) (mg 10000 y.natAbs) Jo Jo (mg_dg Jo _) (fun j=>by
  have:=jan (B:=10000) Jo (mg_dg (B:=10000) Jo y.natAbs) j
  omega)
 rw[jaJ Jo,jaJ Jo,← jjQ,jjF] at hp
 have hm:=jeg (!(decide (x<0) == decide (y<0))) (x.natAbs*y.natAbs) Jo
 have e:(if (!(decide (x<0) == decide (y<0)))=true then -((x.natAbs*y.natAbs:Nat):Int) else ((x.natAbs*y.natAbs:Nat):Int))=x*y:=by
  rw[jjQ]
  by_cases h:x<0
  ·have e1:(x.natAbs:Int) = -x:=Jo
   by_cases h2:y<0
   ·have e2:(y.natAbs:Int) = -y:=Jo
    rw[e1,e2];simp[h,h2,Int.neg_mul_neg]
   ·have e2:(y.natAbs:Int)=y:=Jo
    rw[e1,e2];simp[h,h2,Int.neg_mul]
  ·have e1:(x.natAbs:Int)=x:=Jo
   by_cases h2:y<0
   ·have e2:(y.natAbs:Int) = -y:=Jo
    rw[e1,e2];simp[h,h2,Int.mul_neg]
   ·have e2:(y.natAbs:Int)=y:=Jo
    rw[e1,e2];simp[h,h2]
 rw[e] at hm
 rw[show plD x = .agg [.bool (decide (x<0)),Jj (mg 10000 x.natAbs)] from rfl,show plD y = .agg [.bool (decide (y<0)),Jj (mg 10000 y.natAbs)] from rfl]
 refine V.en tbOk Tryz.func125 ?_
 (conv=>whnf)
 refine V.st ?_
 refine⟨(V.tk [0,1,2,3,4,5,6,7,8] (V.e1 9 [4,3,2,1,0] (V.e1 10 [] (V.e1 11 [] .done)))),[],V.pok,.go (jac ?_)⟩
 refine V.u2 hp hm ?_
 exact Fin.of rfl
theorem jff (x y:Int)(hx:Sm 80000000 x)(hy:Sm 80000000 y):Cl 170 [plD x,plD y] (Ji (x-y).sign):=by
 have hm:=minus_c x y (hx.mono Jo) (hy.mono Jo)
 have hn:=jb9 (B:=10000) (n:=(x-y).natAbs) Jo
 have hz:Sm 80000001 (x-y):=by rw[Int.sub_eq_add_neg];exact hx.add hy.neg
 unfold Sm at hz
 rw[show plD (x-y) = .agg [.bool (decide (x-y<0)),Jj (mg 10000 (x-y).natAbs)] from rfl] at hm
 generalize x-y=z at *
 generalize mg 10000 z.natAbs=xs at *
 refine V.en tbOk Tryz.func170 ?_
 refine V.u1 hm ?_
 refine V.br (fun hq=>?_) (fun hq=>?_)
 ·rw[decide_eq_true_eq] at hq
  (conv=>whnf)
  refine V.st ?_
  exact Fin.of (by rw[jj4 hq])
 ·rw[decide_eq_false_iff_not] at hq
  (conv=>whnf)
  refine V.st ?_
  refine V.br (fun hq2=>?_) (fun hq2=>?_)
  ·rw[decide_eq_true_eq] at hq2
   have h0:z≠0:=fun e=>by
    have:=hn.2 (by rw[e];rfl)
    rw[this] at hq2;simp at hq2
   (conv=>whnf)
   refine V.st ?_
   exact Fin.of (by rw[jj5 Jo])
  ·rw[decide_eq_false_iff_not] at hq2
   have h0:=hn.1 (jj9.1 Jo)
   (conv=>whnf)
   refine V.st ?_
   exact Fin.of (by rw[show z=0 by omega];rfl)
theorem off1 {p:Go.Program}{f:Nat}{ys:List D}{c:Bool}(hc:c=false):c=true→Called p f ys (Ji 0):=fun h=>by rw[hc] at h;cases h
theorem sign_lt {a b:Int} : (a-b).sign<0↔a<b:=by
 rcases Int.lt_trichotomy a b with h|h|h
 ·rw[jj4 Jo];exact⟨fun _=>h,fun _=>Jo⟩
 ·rw[h,Int.sub_self];exact⟨fun e=>by simp at e,fun e=>Jo⟩
 ·rw[jj5 Jo];exact⟨fun e=>Jo,fun e=>Jo⟩
theorem sign_gt {a b:Int} : (a-b).sign>0↔a>b:=by
 rcases Int.lt_trichotomy a b with h|h|h
 ·rw[jj4 Jo];exact⟨fun e=>Jo,fun e=>Jo⟩
 ·rw[h,Int.sub_self];exact⟨fun e=>by simp at e,fun e=>Jo⟩
 ·rw[jj5 Jo];exact⟨fun _=>h,fun _=>Jo⟩
theorem jgd (z:Int)(hz:Sm 80000000 z):Cl 120 [plD z] (.tup [Ji (if -9223372036854775808≤z∧z≤9223372036854775807 then z else 0),Ji (if -9223372036854775808≤z∧z≤9223372036854775807 then 0 else 6)]):=by
 have i1:=jc0 (-9223372036854775808) (by constructor<;>decide)
 have i2:=jc0 9223372036854775807 (by constructor<;>decide)
 have y1:Sm 5 (-9223372036854775808):=Sm.lit Jd
 have y2:Sm 5 9223372036854775807:=Sm.lit Jd
 have o1:=jff z (-9223372036854775808) hz (y1.mono Jo)
 have o2:=jff z 9223372036854775807 hz (y2.mono Jo)
 have t1:=sign_lt (a:=z) (b := -9223372036854775808)
 have t2:=sign_gt (a:=z) (b:=9223372036854775807)
 generalize (z - -9223372036854775808).sign=s1 at *
 generalize (z-9223372036854775807).sign=s2 at *
 have hdx:=mg_dg (B:=10000) Jo z.natAbs
 have hvx:=jaJ (B:=10000) Jo z.natAbs
 unfold Sm at hz
 have hlen:z.natAbs<10000^5→(mg 10000 z.natAbs).length≤5:=fun h=>jax Jo h
 rw[show plD z = .agg [.bool (decide (z<0)),Jj (mg 10000 z.natAbs)] from rfl] at *
 generalize mg 10000 z.natAbs=xs at *
 refine V.en tbOk Tryz.func120 ?_
 (conv=>whnf)
 refine V.st ?_
 refine⟨(V.tk [0] (V.e1 1 [0] (V.e1 2 [] (V.tk [3,4,5] (V.e1 6 [5] (V.e1 7 [] (V.tk [8,9] .done))))))),[],V.pok,.go (jac ?_)⟩
 by_cases h1:s1<0
 ·have hd:decide (s1<0)=true:=decide_eq_true h1
  have hn:¬ (-9223372036854775808≤z∧z≤9223372036854775807):=Jo
  rw[if_neg hn,if_neg hn]
  (conv=>whnf)
  (try simp only[hd])
  repeat ((first|refine V.s1 ?_|((try ((with_reducible refine .ext ?_);(conv=>whnf);(try simp only[hd])));(with_reducible refine jaa (r:=?_) ?_ ?_);rotate_left;(focus (first|exact(i1)|exact(o1)|exact(i2)|exact(o2)|exact(off1 rfl)));(conv=>whnf)));(try simp only[hd]))
  refine And.intro (fun _ h=>by cases h) ?_
  refine V.r0 hd ?_
  refine V.br (fun hq=>?_) (fun hq=>?_)
  ·(conv=>whnf)
   refine V.st ?_
   exact Fin.of rfl
  ·simp at hq
 ·have hd:decide (s1<0)=false:=decide_eq_false h1
  (conv=>whnf)
  (try simp only[hd])
  repeat ((first|refine V.s1 ?_|((try ((with_reducible refine .ext ?_);(conv=>whnf);(try simp only[hd])));(with_reducible refine jaa (r:=?_) ?_ ?_);rotate_left;(focus (first|exact(i1)|exact(o1)|exact(i2)|exact(o2)));(conv=>whnf)));(try simp only[hd]))
  refine V.br (fun hq=>?_) (fun hq=>?_)
  ·simp only[Bool.false_or,decide_eq_true_eq] at hq
   have hn:¬ (-9223372036854775808≤z∧z≤9223372036854775807):=Jo
   rw[if_neg hn,if_neg hn]
   (conv=>whnf)
   refine V.st ?_
   exact Fin.of rfl
  ·simp only[Bool.false_or,decide_eq_false_iff_not] at hq
   have hn : -9223372036854775808≤z∧z≤9223372036854775807:=Jo
   rw[if_pos hn,if_pos hn]
   have hl5:=hlen Jo
   (conv=>whnf)
   refine V.st ?_
   refine jad (xs.length:Nat) (fun k=>k≤xs.length) (fun k=>k) (fun k=>[(5,Ji ((k:Int)-1)),(4,Ji (0-val 10000 (xs.drop k)))]) (fun _=>[]) ?_ ?_ ?_
   ·rw[List.drop_length]
    exact V.wk
   ·exact jjG _
   intro k hk
   (conv=>whnf)
   refine V.st ?_
   refine V.br (fun hq2=>?_) (fun hq2=>?_)
   ·rw[decide_eq_true_eq] at hq2
    obtain⟨j,rfl⟩:∃ j,k=j+1:=⟨k-1,Jo⟩
    have hd2:=jbP (B:=10000) (l:=xs) (k:=j) Jo
    have bx:=jan Jo hdx j
    have h0:=jao (jbp hdx (j+1))
    have he:=(jdy (B:=10000) Jo hdx j).1
    have hp1:(1:Int)≤((10000:Nat):Int)^j:=by have:=jdL (B:=10000) Jo j;omega
    have hle:val 10000 (xs.drop j)≤val 10000 xs:=by
     have:=jjU hp1 (jao (jbp hdx j))
     omega
    have e2:(((j+1:Nat):Int)-1)=(j:Int):=Jo
    generalize hx0:xs.getD j 0=x at *
    have e3:(0-val 10000 (xs.drop (j+1)))*10000-x=0-val 10000 (xs.drop j):=Jo
    refine V.r0 (V.a4 e2 @jjF hx0 e3) ?_
    exact⟨j,Jo,Jo,V.wk⟩
   ·rw[decide_eq_false_iff_not] at hq2
    obtain rfl:k=0:=Jo
    rw[jku,hvx]
    (conv=>whnf)
    refine V.st ?_
    refine V.br (fun hz0=>?_) (fun hz0=>?_)
    ·rw[decide_eq_true_eq] at hz0
     (conv=>whnf)
     refine V.st ?_
     exact Fin.of (by rw[show 0-(z.natAbs:Int)=z by omega])
    ·rw[decide_eq_false_iff_not] at hz0
     (conv=>whnf)
     refine V.st ?_
     exact Fin.of (by rw[show 0-(0-(z.natAbs:Int))=z by omega])
def Q4 (k:Nat)(q:Rat):Prop:=Sm k q.num∧Sm k (q.den:Int)
theorem Q4.mono {k l:Nat}{q:Rat}(h:Q4 k q)(hl:k≤l):Q4 l q:=⟨h.1.mono hl,h.2.mono hl⟩
theorem Q4.neg {k:Nat}{q:Rat}(h:Q4 k q):Q4 k (-q):=⟨by rw[Rat.neg_num];exact h.1.neg,by rw[Rat.neg_den];exact h.2⟩
theorem Q4.of {k:Nat}{n d:Int}(hn:Sm k n)(hd:Sm k d)(hd0:d≠0):Q4 k (Rat.divInt n d):=by
 have h1:=jih n d hd0
 have h2:=jii n d hd0
 have h3:=jbh (if d<0 then -n else n) (Int.gcd (if d<0 then -n else n) (if d<0 then -d else d))
 have h4:=jbh (if d<0 then -d else d) (Int.gcd (if d<0 then -n else n) (if d<0 then -d else d))
 rw[h1] at h3
 rw[h2] at h4
 have e1:(if d<0 then -n else n).natAbs=n.natAbs:=by split<;>simp
 have e2:(if d<0 then -d else d).natAbs=d.natAbs:=by split<;>simp
 exact⟨hn.le Jo,hd.le Jo⟩
theorem plN (n:Nat):plD (n:Int) = .agg [.bool false,Jj (mg 10000 n)]:=by
 unfold plD
 rw[decide_eq_false Jo,jjV]
theorem jga (x y:Rat):x*y=Rat.divInt (x.num*y.num) ((x.den:Int)*(y.den:Int)):=by
 conv=>lhs;rw[← jj6 x,← jj6 y]
 rw[Rat.divInt_mul_divInt]
theorem jdo (x:Rat):(x.den:Int)≠0:=by have:=x.den_pos;omega
theorem je0 (x y:Rat)(hx:Q4 40000000 x)(hy:Q4 40000000 y):Cl 76 [raD x,raD y] (raD (x*y)):=by
 have h1:=jbw x.num y.num hx.1 hy.1
 have h2:=jbw x.den y.den hx.2 hy.2
 have h3:=jeI (x.num*y.num) ((x.den:Int)*(y.den:Int)) (hx.1.mul hy.1) (hx.2.mul hy.2) (Int.mul_ne_zero (jdo x) (jdo y))
 rw[← jga] at h3
 rw[plN,plN] at h2
 refine V.en tbOk Tryz.func76 ?_
 (conv=>whnf)
 refine V.st ?_
 refine⟨Pq50z,[],V.pok,.go (jac ?_)⟩
 refine V.u3 h1 h2 h3 ?_
 exact Fin.of rfl
theorem jdP (x y:Rat)(hx:Q4 40000000 x)(hy:Q4 40000000 y):Cl 138 [raD x,raD y] (Ji (ordQ x y)):=by
 have h1:=jbw x.num y.den hx.1 hy.2
 have h2:=jbw y.num x.den hy.1 hx.2
 have h3:=jff (x.num*y.den) (y.num*x.den) (hx.1.mul hy.2) (hy.1.mul hx.2)
 rw[Int.sub_eq_add_neg,jfe] at h3
 rw[plN] at h1 h2
 refine V.en tbOk Tryz.func138 ?_
 (conv=>whnf)
 refine V.st ?_
 refine⟨(V.tk [0,1,2,3,5,6,7,8] (V.e1 4 [8,7,6,5] (V.e1 9 [] (V.e1 10 [] (V.tk [11] .done))))),[],V.pok,.go (jac ?_)⟩
 refine V.u3 h1 h2 h3 ?_
 exact Fin.of rfl
theorem down_c (x:Rat)(hx:Q4 80000000 x):Cl 171 [raD x] (plD (x.num/(x.den:Int))):=by
 have h1:=jdM x.num x.den hx.1 hx.2 (jdo x)
 rw[plN] at h1
 refine V.en tbOk Tryz.func171 ?_
 refine V.u1 h1 ?_
 exact Fin.of rfl
theorem turn02_c (x:Rat)(hx:Q4 80000000 x):Cl 139 [raD x] (raD (-x)):=by
 have h1:=turn_c x.num (by have:=hx.1;unfold Sm at this;omega)
 have e:raD (-x) = .agg [.bool (decide (-x.num<0)),Jj (mg 10000 (-x.num).natAbs),.bool false,Jj (mg 10000 x.den)]:=by unfold raD;rw[Rat.neg_num,Rat.neg_den]
 rw[e]
 refine V.en tbOk Tryz.func139 ?_
 (conv=>whnf)
 refine V.st ?_
 refine⟨(V.tk [0,1,3,4] (V.e1 2 [4,3] (V.tk [5] (V.e1 6 [] .done)))),[],V.pok,.go (jac ?_)⟩
 refine V.u1 h1 ?_
 exact Fin.of rfl
theorem Q4.mul {k l:Nat}{x y:Rat}(h:Q4 k x)(g:Q4 l y):Q4 (k+l) (x*y):=by
 rw[jga]
 exact Q4.of (h.1.mul g.1) (h.2.mul g.2) (Int.mul_ne_zero (jdo x) (jdo y))
theorem jiK (x y:Rat):x+y=Rat.divInt (x.num*y.den+y.num*x.den) ((x.den:Int)*(y.den:Int)):=by
 conv=>lhs;rw[← jj6 x,← jj6 y]
 rw[Rat.divInt_add_divInt _ _ (jdo x) (jdo y)]
theorem plus02_c (x y:Rat)(hx:Q4 30000000 x)(hy:Q4 30000000 y):Cl 92 [raD x,raD y] (raD (x+y)):=by
 have h1:=jbw x.num y.den (hx.1.mono Jo) (hy.2.mono Jo)
 have h2:=jbw y.num x.den (hy.1.mono Jo) (hx.2.mono Jo)
 have z1:Sm 60000000 (x.num*(y.den:Int)):=hx.1.mul hy.2
 have z2:Sm 60000000 (y.num*(x.den:Int)):=hy.1.mul hx.2
 have z3:Sm 60000000 ((x.den:Int)*(y.den:Int)):=hx.2.mul hy.2
 have h3:=plus_c _ _ (z1.mono Jo) (z2.mono Jo)
 have h4:=jbw x.den y.den (hx.2.mono Jo) (hy.2.mono Jo)
 have h5:=jeI (x.num*y.den+y.num*x.den) ((x.den:Int)*(y.den:Int)) ((z1.add z2).mono Jo) (z3.mono Jo) (Int.mul_ne_zero (jdo x) (jdo y))
 rw[← jiK] at h5
 rw[plN] at h1 h2
 rw[plN,plN] at h4
 generalize x.num*y.den+y.num*x.den=S at *
 clear z1 z2 z3
 refine V.en tbOk Tryz.func92 ?_
 (conv=>whnf)
 refine V.st ?_
 refine⟨(V.tk [0,1,2,3,5,6,7,8] (.ev (.cons 4 [8,7,6,5] (.ev (.cons 9 [] (.ev (.cons 10 [] (V.e1 11 [] (V.e1 12 [] .done)) (.cons 11 [] (V.e1 10 [] (V.e1 12 [] .done)) .nil))) (.cons 11 [8,7,6,5] (V.e1 9 [] (V.e1 10 [] (V.e1 12 [] .done))) .nil))) (.cons 11 [8,7,6,5,3,2,1,0] (V.e1 4 [8,7,6,5] (V.e1 9 [] (V.e1 10 [] (V.e1 12 [] .done)))) .nil)))),[],V.pok,?_⟩
 refine jab [(5,.box 5 0)] [(5,.box [.bool (decide (S<0)),Jj (mg 10000 S.natAbs)])] ?_ ?_
 ·exact V.d3 @jjC h1 h2 h3
 (conv=>whnf)
 refine V.st ?_
 refine⟨(V.tk [0,1,2,3,4] (V.e1 5 [0] (V.e1 6 [] (V.e1 7 [] .done)))),[],V.pok,.go (jac ?_)⟩
 refine V.u2 h4 h5 ?_
 exact Fin.of rfl
theorem over_eq (x y:Rat)(hy:y≠0):x/y=Rat.divInt (x.num*y.den) ((x.den:Int)*y.num):=by
 rw[Rat.div_def]
 conv=>lhs;rw[← jj6 x,← jj6 y,Rat.inv_divInt,Rat.divInt_mul_divInt]
theorem minus02_c (x y:Rat)(hx:Q4 30000000 x)(hy:Q4 30000000 y):Cl 81 [raD x,raD y] (raD (x-y)):=by
 have h1:=turn02_c y (hy.mono Jo)
 have h2:=plus02_c x (-y) hx hy.neg
 rw[show x + -y=x-y from (Rat.sub_eq_add_neg x y).symm] at h2
 unfold raD at *
 refine V.en tbOk Tryz.func81 ?_
 (conv=>whnf)
 refine V.st ?_
 refine⟨Pq73z,[],V.pok,.go (jac ?_)⟩
 refine V.u2 h1 h2 ?_
 exact Fin.of rfl
theorem over02_c (x y:Rat)(hx:Q4 40000000 x)(hy:Q4 40000000 y)(h0:y.num≠0):Cl 93 [raD x,raD y] (raD (x/y)):=by
 have h1:=jbw x.num y.den hx.1 hy.2
 have h2:=jbw x.den y.num hx.2 hy.1
 have h3:=jeI (x.num*y.den) ((x.den:Int)*y.num) (hx.1.mul hy.2) (hx.2.mul hy.1) (Int.mul_ne_zero (jdo x) h0)
 rw[← over_eq x y (fun e=>h0 (by rw[e];rfl))] at h3
 rw[plN] at h1 h2
 refine V.en tbOk Tryz.func93 ?_
 (conv=>whnf)
 refine V.st ?_
 refine⟨Pq50z,[],V.pok,.go (jac ?_)⟩
 refine V.u3 h1 h2 h3 ?_
 exact Fin.of rfl
theorem jhq (s:List UInt8)(hs:s.length≤281474976710656):Cl 136 [.str s] (.bool (okW s)):=by
 obtain⟨d,j,neg,S,e1,_⟩:=sg_of s
 rw[e1]
 exact jhp s d j neg S hs
theorem in01_c (s:List UInt8)(h:okW s=true):Cl 67 [.str s] (plD (wval s)):=by
 obtain⟨d,j,neg,S,e1,e2⟩:=sg_of s
 rw[e2]
 rw[e1] at h
 unfold okD at h
 simp only[jjv,Bool.not_eq_true',jjP,decide_eq_false_iff_not,jj7] at h
 exact in01_g s d j neg S h.1.2 Jo (by have:=S.hl;omega)
theorem jea {s:List UInt8}(h:okW s=true):Sm 151 (wval s):=by
 obtain⟨d,j,neg,S,e1,e2⟩:=sg_of s
 rw[e1] at h
 unfold okD at h
 simp only[jjv,Bool.not_eq_true',jjP,decide_eq_false_iff_not,jj7] at h
 have hlt:=je5 (s:=d) h.1.2
 have h2:∀ k,d.length≤4*k→rdv d<10000^k:=fun k hk=>by
  refine jjN hlt ?_
  rw[show (10000:Nat)=10^4 from rfl,← Nat.pow_mul]
  exact jjW Jo hk
 have e:(wval s).natAbs=rdv d:=by
  rw[e2];split<;>omega
 unfold Sm
 rw[e]
 exact jax Jo (h2 151 Jo)
theorem jaZ (s t : List UInt8) (hs : s.length ≤ 281474976710656) (ht : t.length ≤ 281474976710656) : Cl 75 [.agg [.str s, .str t]] (.bool (okP s t)) := by
  have r1 := jhq s hs
  have r2 := jhq t ht
  by_cases h1 : okW s = true
  · rw [h1] at r1
    by_cases h2 : okW t = true
    · rw [h2] at r2
      have i1 := in01_c s h1
      have i2 := in01_c t h2
      have g1 := jd0 (wval s) (wval t) ((jea h1).mono Jo) ((jea h2).mono Jo)
      have hz := jb9 (B := 10000) (n := (wval t).natAbs) Jo
      have gl : Sm 151 (Int.gcd (wval s) (wval t) : Int) := by
        by_cases h0 : wval t = 0
        · rw [h0, Int.gcd_zero_right]
          exact (jea h1).le Jo
        · exact (jea h2).le (by
            rw [jjV]
            exact Nat.le_of_dvd Jo (Int.ofNat_dvd_left.1 (Int.gcd_dvd_right _ _)))
      have x1 := text_c _ (gl.mono Jo)
      have hp : okP s t = (decide (0 < wval t) && decide (decZ (Int.gcd (wval s) (wval t) : Int) = [49])) := by
        unfold okP
        rw [h1, h2, Bool.true_and, Bool.true_and]
        congr 1
        refine decide_eq_decide.2 ⟨fun h => ?_, fun h => ?_⟩
        · rw [show Int.gcd (wval s) (wval t) = 1 from h]; decide
        · have := jbf (Int.gcd (wval s) (wval t) : Int)
          rw [h] at this
          have e49 : wval [49] = 1 := Jd
          rw [e49] at this
          show Int.gcd (wval s) (wval t) = 1
          omega
      rw [hp]
      clear hp gl
      generalize wval s = x at *
      generalize wval t = y at *
      generalize (Int.gcd x y : Int) = g at *
      generalize decZ g = gt at *
      have hy : (decide (y < 0) || decide ((((mg 10000 y.natAbs).length : Nat) : Int) = 0)) = !decide (0 < y) := by
        rw [Bool.eq_iff_iff]
        simp only [Bool.or_eq_true, decide_eq_true_eq, Bool.not_eq_true', decide_eq_false_iff_not]
        constructor
        · rintro (h | h)
          · omega
          · have : mg 10000 y.natAbs = [] := jj9.1 Jo
            have := hz.1 this
            omega
        · intro h
          by_cases h0 : y < 0
          · exact .inl h0
          · right
            have : mg 10000 y.natAbs = [] := hz.2 Jo
            rw [this]; rfl
      unfold plD at *
      refine V.en tbOk Tryz.func75 ?_
      refine V.u2 r1 r2 ?_
      refine ⟨Pq66z, [], V.pok, ?_⟩
      refine jab [(3, .box 3 0), (4, .box 4 0)] [(3, .box [.bool (decide (x < 0)), Jj (mg 10000 x.natAbs)]), (4, .box [.bool (decide (y < 0)), Jj (mg 10000 y.natAbs)])] ?_ ?_
      · exact V.d2 @jjC i1 i2
      refine V.r0 hy ?_
      refine V.br (fun hq => ?_) (fun hq => ?_)
      · simp only [Bool.not_eq_true', decide_eq_false_iff_not] at hq
        rw [decide_eq_false hq, jj3]
        (conv => whnf)
        refine V.st ?_
        exact Fin.of rfl
      · simp only [Bool.not_eq_false', decide_eq_true_eq] at hq
        rw [decide_eq_true hq, Bool.true_and]
        refine V.u2 g1 x1 ?_
        exact Fin.of rfl
    · rw [Bool.eq_false_iff.2 h2] at r2
      have hp : okP s t = false := by unfold okP; rw [Bool.eq_false_iff.2 h2, Bool.and_false, jj3, jj3]
      rw [hp]
      refine V.en tbOk Tryz.func75 ?_
      refine V.u2 r1 r2 ?_
      exact Fin.of rfl
  · rw [Bool.eq_false_iff.2 h1] at r1
    have hp : okP s t = false := by unfold okP; rw [Bool.eq_false_iff.2 h1, jj3, jj3, jj3]
    rw [hp]
    refine V.en tbOk Tryz.func75 ?_
    refine V.u2 r1 r2 ?_
    refine V.br (fun hq => ?_) (fun hq => ?_)
    · (conv => whnf)
      refine V.st ?_
      exact Fin.of rfl
    · simp at hq
theorem q4_qv {s t:List UInt8}(h:okP s t=true):Q4 151 (qv s t):=by
 obtain⟨h1,h2,h3,h4⟩:=jer h
 obtain⟨p1,p2⟩:=jc9 h
 exact⟨by rw[p1];exact jea h1,by rw[p2];exact(jea h2).le Jo⟩
theorem jc1 (s t:List UInt8)(h:okP s t=true):Cl 77 [.agg [.str s,.str t]] (raD (qv s t)):=by
 obtain⟨h1,h2,h3,h4⟩:=jer h
 obtain⟨p1,p2⟩:=jc9 h
 have i1:=in01_c s h1
 have i2:=in01_c t h2
 unfold raD
 rw[p1,p2]
 unfold plD at i1 i2
 rw[decide_eq_false (show ¬ wval t<0 by omega)] at i2
 refine V.en tbOk Tryz.func77 ?_
 (conv=>whnf)
 refine V.st ?_
 refine⟨Pq68z,[],V.pok,.go (jac ?_)⟩
 refine V.u2 i1 i2 ?_
 exact Fin.of rfl
theorem rcheck_c (s t:List UInt8)(hs:s.length≤281474976710656)(ht:t.length≤281474976710656):Cl 36 [.agg [.str s,.str t]] (Ji (if okP s t then 0 else 20)):=by
 have r1:=jaZ s t hs ht
 by_cases h:okP s t=true
 ·rw[h] at r1 ⊢
  rw[if_pos rfl]
  refine V.en tbOk Tryz.func36 ?_
  refine V.u1 r1 ?_
  exact Fin.of rfl
 ·rw[if_neg h]
  rw[Bool.eq_false_iff.2 h] at r1
  refine V.en tbOk Tryz.func36 ?_
  refine V.u1 r1 ?_
  exact Fin.of rfl
theorem jaH {s t:List UInt8}(h:okP s t=true):s.length≤281474976710656∧t.length≤281474976710656:=by
 obtain⟨h1,h2,_,_⟩:=jer h
 have l1:=(jcg h1).1
 have l2:=(jcg h2).1
 omega
theorem pow_4 (k:Nat):(10000:Nat)^k=10^(4*k):=by rw[show (10000:Nat)=10^4 from rfl,← Nat.pow_mul]
theorem sm_nat {x:Nat}{k:Nat}(hk:k≤90000000)(h:x<10^(4*k)):(mg 10000 x).length≤90000000:=
 jjH (jax (k:=k) Jo (by rw[pow_4];exact h)) hk
theorem sm_fq {n:Nat}{q:Rat}(h:Fq n q)(h6:n≤600):Sm 90000000 q.num∧Sm 90000000 (q.den:Int):=by
 have h2:=h.mono (n:=4*150) Jo
 obtain⟨k,hk⟩:∃ k,150=k:=⟨_,rfl⟩
 rw[hk] at h2
 exact⟨sm_nat Jo h2.1,by unfold Sm;rw[jjV];exact sm_nat Jo h2.2⟩
theorem radd (s t u v:List UInt8)(h:okP s t=true)(g:okP u v=true)(hn:Sm 90000000 (qv s t+qv u v).num)(hd:Sm 90000000 ((qv s t+qv u v).den:Int)):Cl 45 [.agg [.str s,.str t],.agg [.str u,.str v]] (frR (qv s t+qv u v)):=by
 have r1:=jaZ s t (jaH h).1 (jaH h).2
 have r2:=jaZ u v (jaH g).1 (jaH g).2
 rw[h] at r1
 rw[g] at r2
 have i1:=jc1 s t h
 have i2:=jc1 u v g
 have o:=plus02_c (qv s t) (qv u v) ((q4_qv h).mono Jo) ((q4_qv g).mono Jo)
 have w:=jfd (qv s t+qv u v) hn hd
 generalize qv s t+qv u v=q at *
 generalize qv s t=q1 at *
 generalize qv u v=q2 at *
 unfold frR at w ⊢
 refine V.en tbOk Tryz.func45 ?_
 refine V.u2 r1 r2 ?_
 refine⟨Pq78z,[],V.pok,.go (jac ?_)⟩
 refine V.u4 i1 i2 o w ?_
 exact Fin.of rfl
theorem rsub (s t u v:List UInt8)(h:okP s t=true)(g:okP u v=true)(hn:Sm 90000000 (qv s t-qv u v).num)(hd:Sm 90000000 ((qv s t-qv u v).den:Int)):Cl 41 [.agg [.str s,.str t],.agg [.str u,.str v]] (frR (qv s t-qv u v)):=by
 have r1:=jaZ s t (jaH h).1 (jaH h).2
 have r2:=jaZ u v (jaH g).1 (jaH g).2
 rw[h] at r1
 rw[g] at r2
 have i1:=jc1 s t h
 have i2:=jc1 u v g
 have o:=minus02_c (qv s t) (qv u v) ((q4_qv h).mono Jo) ((q4_qv g).mono Jo)
 have w:=jfd (qv s t-qv u v) hn hd
 generalize qv s t-qv u v=q at *
 generalize qv s t=q1 at *
 generalize qv u v=q2 at *
 unfold frR at w ⊢
 refine V.en tbOk Tryz.func41 ?_
 refine V.u2 r1 r2 ?_
 refine⟨Pq78z,[],V.pok,.go (jac ?_)⟩
 refine V.u4 i1 i2 o w ?_
 exact Fin.of rfl
theorem rmul (s t u v:List UInt8)(h:okP s t=true)(g:okP u v=true)(hn:Sm 90000000 (qv s t*qv u v).num)(hd:Sm 90000000 ((qv s t*qv u v).den:Int)):Cl 37 [.agg [.str s,.str t],.agg [.str u,.str v]] (frR (qv s t*qv u v)):=by
 have r1:=jaZ s t (jaH h).1 (jaH h).2
 have r2:=jaZ u v (jaH g).1 (jaH g).2
 rw[h] at r1
 rw[g] at r2
 have i1:=jc1 s t h
 have i2:=jc1 u v g
 have o:=je0 (qv s t) (qv u v) ((q4_qv h).mono Jo) ((q4_qv g).mono Jo)
 have w:=jfd (qv s t*qv u v) hn hd
 generalize qv s t*qv u v=q at *
 generalize qv s t=q1 at *
 generalize qv u v=q2 at *
 unfold frR at w ⊢
 refine V.en tbOk Tryz.func37 ?_
 refine V.u2 r1 r2 ?_
 refine⟨Pq78z,[],V.pok,.go (jac ?_)⟩
 refine V.u4 i1 i2 o w ?_
 exact Fin.of rfl
theorem zradd {a b:Nat}{p q:Rat}(h:Fq a p)(g:Fq b q)(ha:0<a)(hb:0<b)(hab:a+b+1≤600):Cl 45 [frT p,frT q] (.tup [frT (p+q),Ji 0]):=by
 obtain⟨o1,e1⟩:=jaE (h.ok ha Jo)
 obtain⟨o2,e2⟩:=jaE (g.ok hb Jo)
 have hs:=h.add g
 have hm:=sm_fq hs Jo
 have c:=radd _ _ _ _ o1 o2 (by rw[e1,e2];exact hm.1) (by rw[e1,e2];exact hm.2)
 rw[e1,e2,jc3 (hs.ok Jo Jo)] at c
 exact c
theorem zrsub {a b:Nat}{p q:Rat}(h:Fq a p)(g:Fq b q)(ha:0<a)(hb:0<b)(hab:a+b+1≤600):Cl 41 [frT p,frT q] (.tup [frT (p-q),Ji 0]):=by
 obtain⟨o1,e1⟩:=jaE (h.ok ha Jo)
 obtain⟨o2,e2⟩:=jaE (g.ok hb Jo)
 have hs:=h.sub g
 have hm:=sm_fq hs Jo
 have c:=rsub _ _ _ _ o1 o2 (by rw[e1,e2];exact hm.1) (by rw[e1,e2];exact hm.2)
 rw[e1,e2,jc3 (hs.ok Jo Jo)] at c
 exact c
theorem zrmul {a b:Nat}{p q:Rat}(h:Fq a p)(g:Fq b q)(ha:0<a)(hb:0<b)(hab:a+b+1≤600):Cl 37 [frT p,frT q] (.tup [frT (p*q),Ji 0]):=by
 obtain⟨o1,e1⟩:=jaE (h.ok ha Jo)
 obtain⟨o2,e2⟩:=jaE (g.ok hb Jo)
 have hs:=h.mul g
 have hm:=sm_fq hs Jo
 have c:=rmul _ _ _ _ o1 o2 (by rw[e1,e2];exact hm.1) (by rw[e1,e2];exact hm.2)
 rw[e1,e2,jc3 (hs.ok Jo Jo)] at c
 exact c
theorem decZ_zero (z:Int):decide (decZ z=[48])=decide (z=0):=by
 refine decide_eq_decide.2 ⟨fun h=>?_,fun h=>by rw[h];rfl⟩
 have:=jbf z
 rw[h] at this
 exact this.symm
theorem rdiv_t {p q:Rat}(hp:okF p=true)(hq:okF q=true)(h0:q.num≠0)(hn:Sm 90000000 (p/q).num)(hd:Sm 90000000 ((p/q).den:Int)):Cl 46 [frT p,frT q] (frR (p/q)):=by
 obtain⟨h,e1⟩:=jaE hp
 obtain⟨g,e2⟩:=jaE hq
 have r1:=jaZ _ _ (jaH h).1 (jaH h).2
 have r2:=jaZ _ _ (jaH g).1 (jaH g).2
 rw[h] at r1
 rw[g] at r2
 have i1:=jc1 _ _ h
 have i2:=jc1 _ _ g
 rw[e1] at i1
 rw[e2] at i2
 have q1:=q4_qv h
 have q2:=q4_qv g
 rw[e1] at q1
 rw[e2] at q2
 have o:=over02_c p q (q1.mono Jo) (q2.mono Jo) h0
 have w:=jfd (p/q) hn hd
 have hz:decide (decZ q.num=[48])=false:=by rw[decZ_zero];exact decide_eq_false h0
 generalize p/q=r at *
 unfold frR at w ⊢
 unfold frT
 generalize decZ q.num=sq at *
 refine V.en tbOk Tryz.func46 ?_
 refine V.u2 r1 r2 ?_
 refine V.br (fun hq0=>?_) (fun hq0=>?_)
 ·exfalso
  simp at hq0
  rw[hq0] at hz
  simp at hz
 (conv=>whnf)
 refine V.st ?_
 refine⟨Pq78z,[],V.pok,.go (jac ?_)⟩
 refine V.u4 i1 i2 o w ?_
 exact Fin.of rfl
theorem zrdiv {a b:Nat}{p q:Rat}(h:Fq a p)(g:Fq b q)(h0:q.num≠0)(ha:0<a)(hb:0<b)(hab:a+b+1≤600):Cl 46 [frT p,frT q] (.tup [frT (p/q),Ji 0]):=by
 have hs:=h.div g h0
 have hm:=sm_fq hs Jo
 have c:=rdiv_t (h.ok ha Jo) (g.ok hb Jo) h0 hm.1 hm.2
 rw[jc3 (hs.ok Jo Jo)] at c
 exact c
theorem y_one:Fq 1 1:=⟨Jd,Jd⟩
theorem y_small {n m:Int}(hn : -9223372036854775807≤n∧n≤9223372036854775807)(hm:1≤m∧m≤9223372036854775807):Fq 20 (Rat.divInt n m):=by
 obtain⟨d,rfl⟩:∃ d:Nat,m=d:=⟨m.toNat,Jo⟩
 exact ja1 Jo Jo Jo
theorem y_of {n m:Int}(hn : -9223372036854775807≤n∧n≤9223372036854775807)(hm:1≤m∧m≤9223372036854775807):Cl 102 [Ji n,Ji m] (.tup [frT (Rat.divInt n m),Ji 0]):=by
 rw[← jc3 ((y_small hn hm).ok Jo Jo)]
 exact of_c n m (by simp[InR,V.lo,V.hi];omega) (by simp[InR,V.lo,V.hi];omega) Jo
theorem y_rof {n m:Int}(hn : -9223372036854775807≤n∧n≤9223372036854775807)(hm:1≤m∧m≤9223372036854775807):Cl 66 [Ji n,Ji m] (.tup [frT (Rat.divInt n m),Ji 0]):=by
 rw[← jc3 ((y_small hn hm).ok Jo Jo)]
 exact of02_c n m (by simp[InR,V.lo,V.hi];omega) (by simp[InR,V.lo,V.hi];omega) Jo
def sm (f:Nat→Rat):Nat→Rat
 | 0=>0
 | k+1=>sm f k+f k
theorem jbR {f g:Nat→Rat} : ∀ {k:Nat},(∀ i,i<k→f i=g i)→sm f k=sm g k
 | 0,_=>rfl
 | k+1,h=>by
  simp only[sm]
  rw[jbR (k:=k) fun i hi=>h i Jo,h k Jo]
theorem sm_add (f g:Nat→Rat):∀ k,sm (fun i=>f i+g i) k=sm f k+sm g k
 | 0=>by simp only[sm];grind
 | k+1=>by
  simp only[sm]
  rw[sm_add f g k]
  grind
theorem sm_mul (c:Rat)(f:Nat→Rat):∀ k,sm (fun i=>c*f i) k=c*sm f k
 | 0=>by simp only[sm];grind
 | k+1=>by
  simp only[sm]
  rw[sm_mul c f k]
  grind
theorem jeB (c:Rat):∀ k:Nat,sm (fun _=>c) k=((k:Int):Rat)*c
 | 0=>by simp[sm]
 | k+1=>by
  simp only[sm]
  rw[jeB c k,Int.natCast_add,Rat.intCast_add]
  grind
theorem sm_ind (R:Nat):∀ k,R≤k→sm (fun t=>if t<R then 1 else 0) k=((R:Int):Rat)
 | 0,h=>by
  have:R=0:=Jo
  subst this
  simp[sm]
 | k+1,h=>by
  simp only[sm]
  by_cases e:R=k+1
  ·subst e
   rw[if_pos Jo,jbR (g:=fun _=>1) fun i hi=>if_pos Jo,jeB,Int.natCast_add,Rat.intCast_add]
   grind
  ·rw[if_neg Jo,sm_ind R k Jo]
   grind
theorem sm_le {f g:Nat→Rat} : ∀ {k:Nat},(∀ i,i<k→f i≤g i)→sm f k≤sm g k
 | 0,_=>Rat.le_refl
 | k+1,h=>by
  simp only[sm]
  have h1:=sm_le (k:=k) fun i hi=>h i Jo
  have h2:=h k Jo
  grind
theorem lvl {N b R t:Int}(hN:0<N)(h0:0≤R)(h1:R≤N)(t0:0≤t)(t1:t<N):(b*N+R-1-t)/N+1=b+(if t<R then 1 else 0):=by
 by_cases h:t<R
 ·rw[if_pos h,show b*N+R-1-t=(R-1-t)+N*b by rw[jjS];omega,Int.add_mul_ediv_left _ _ Jo,Int.ediv_eq_zero_of_lt Jo Jo]
  omega
 ·rw[if_neg h,show b*N+R-1-t=(R-1-t+N)+N*(b-1) by rw[Int.mul_sub,Int.mul_one,jjS];omega,Int.add_mul_ediv_left _ _ Jo,Int.ediv_eq_zero_of_lt Jo Jo]
  omega
def lvF (v:Int→Int→Int→Rat)(N:Nat)(P Q R:Int):Rat:=sm (fun t=>v ((P-1-t)/N+1) ((Q-1-t)/N+1) ((R-1-t)/N+1)) N
theorem jek {N A B C:Nat}(hA:A≤N)(hB:B≤A)(hC:C≤B)(v0 v1 v2 v3:Rat) :
  sm (fun t=>if t<C then v3 else if t<B then v2 else if t<A then v1 else v0) N=(((N:Int):Rat)-((A:Int):Rat))*v0+(((A:Int):Rat)-((B:Int):Rat))*v1+(((B:Int):Rat)-((C:Int):Rat))*v2+((C:Int):Rat)*v3:=by
 have e:∀ t,(if t<C then v3 else if t<B then v2 else if t<A then v1 else v0)=v0+((v1-v0)*(if t<A then 1 else 0)+((v2-v1)*(if t<B then 1 else 0)+(v3-v2)*(if t<C then 1 else 0))):=fun t=>by
  by_cases h1:t<C
  ·rw[if_pos h1,if_pos h1,if_pos (show t<B by omega),if_pos (show t<A by omega)];grind
  ·rw[if_neg h1,if_neg h1]
   by_cases h2:t<B
   ·rw[if_pos h2,if_pos h2,if_pos (show t<A by omega)];grind
   ·rw[if_neg h2,if_neg h2]
    by_cases h3:t<A
    ·rw[if_pos h3,if_pos h3];grind
    ·rw[if_neg h3,if_neg h3];grind
 rw[jbR fun t _=>e t,sm_add,sm_add,sm_add,jeB,sm_mul,sm_mul,sm_mul,sm_ind A N hA,sm_ind B N Jo,sm_ind C N Jo]
 grind
def ord3 (r0 r1 r2:Rat):List Int:=
 if r0<r1 then (if r0<r2 then (if r1<r2 then [2,1,0] else [1,2,0]) else [1,0,2])
 else (if r1<r2 then (if r0<r2 then [2,0,1] else [0,2,1]) else [0,1,2])
def ord2 (r0 r1:Rat):List Int:=if r0<r1 then [1,0] else [0,1]
def sel (r0 r1 r2:Rat)(i:Int):Rat:=if i=0 then r0 else if i=1 then r1 else r2
def bmp (b:Int×Int×Int)(i:Int):Int×Int×Int:=if i=0 then (b.1+1,b.2.1,b.2.2) else if i=1 then (b.1,b.2.1+1,b.2.2) else (b.1,b.2.1,b.2.2+1)
def vat (v:Int→Int→Int→Rat)(b:Int×Int×Int):Rat:=v b.1 b.2.1 b.2.2
def evO (v:Int→Int→Int→Rat)(b:Int×Int×Int)(r0 r1 r2:Rat)(i j k:Int):Rat:=
 (1-sel r0 r1 r2 i)*vat v b+(sel r0 r1 r2 i-sel r0 r1 r2 j)*vat v (bmp b i)+(sel r0 r1 r2 j-sel r0 r1 r2 k)*vat v (bmp (bmp b i) j)+sel r0 r1 r2 k*vat v (bmp (bmp (bmp b i) j) k)
def evL (v:Int→Int→Int→Rat)(b:Int×Int×Int)(r0 r1 r2:Rat)(o:List Int):Rat:=evO v b r0 r1 r2 (o.getD 0 0) (o.getD 1 0) (o.getD 2 0)
theorem lvlN {N R t:Nat}{b:Int}(hN:0<N)(h1:R≤N)(t1:t<N):(b*N+R-1-t)/N+1=b+(if t<R then 1 else 0):=by
 have h:=lvl (N:=N) (b:=b) (R:=R) (t:=t) Jo Jo Jo Jo Jo
 rw[h]
 by_cases g:t<R
 ·rw[if_pos g,if_pos Jo]
 ·rw[if_neg g,if_neg Jo]
theorem jd1 {N:Nat}(h:0<N):((N:Int):Rat)≠0:=by
 intro e
 have:(N:Int)=0:=by exact_mod_cast e
 omega
theorem ev_210 {N A0 A1 A2:Nat}{b0 b1 b2:Int}(hN:0<N)(hA:A2≤N)(hB:A1≤A2)(hC:A0≤A1)(v:Int→Int→Int→Rat) :
  ((N:Int):Rat)*evO v (b0,b1,b2) (((A0:Int):Rat)/((N:Int):Rat)) (((A1:Int):Rat)/((N:Int):Rat)) (((A2:Int):Rat)/((N:Int):Rat)) 2 1 0=lvF v N (b0*N+A0) (b1*N+A1) (b2*N+A2):=by
 have hz:=jd1 hN
 have key:=jek hA hB hC (v b0 b1 b2) (v b0 b1 (b2+1)) (v b0 (b1+1) (b2+1)) (v (b0+1) (b1+1) (b2+1))
 unfold lvF
 rw[jbR (g:=fun t=>if t<A0 then v (b0+1) (b1+1) (b2+1) else if t<A1 then v b0 (b1+1) (b2+1) else if t<A2 then v b0 b1 (b2+1) else v b0 b1 b2) fun t ht=>by
  rw[lvlN hN (show A0≤N by omega) ht,lvlN hN (show A1≤N by omega) ht,lvlN hN (show A2≤N by omega) ht]
  by_cases h1:t<A0
  ·rw[if_pos h1,if_pos h1,if_pos (show t<A2 by omega),if_pos (show t<A1 by omega)]
  ·by_cases h2:t<A1
   ·rw[if_neg h1,if_neg h1,if_pos h2,if_pos h2,if_pos (show t<A2 by omega)]
    simp only[jjZ]
   ·by_cases h3:t<A2
    ·rw[if_neg h1,if_neg h1,if_neg h2,if_neg h2,if_pos h3,if_pos h3]
     simp only[jjZ]
    ·rw[if_neg h1,if_neg h1,if_neg h2,if_neg h2,if_neg h3,if_neg h3]
     simp only[jjZ],key]
 simp only[evO,sel,bmp,vat]
 simp
 generalize v b0 b1 b2=w0
 generalize v b0 b1 (b2+1)=w1
 generalize v b0 (b1+1) (b2+1)=w2
 generalize v (b0+1) (b1+1) (b2+1)=w3
 grind
theorem ev_120 {N A0 A1 A2:Nat}{b0 b1 b2:Int}(hN:0<N)(hA:A1≤N)(hB:A2≤A1)(hC:A0≤A2)(v:Int→Int→Int→Rat) :
  ((N:Int):Rat)*evO v (b0,b1,b2) (((A0:Int):Rat)/((N:Int):Rat)) (((A1:Int):Rat)/((N:Int):Rat)) (((A2:Int):Rat)/((N:Int):Rat)) 1 2 0=lvF v N (b0*N+A0) (b1*N+A1) (b2*N+A2):=by
 have hz:=jd1 hN
 have key:=jek hA hB hC (v b0 b1 b2) (v b0 (b1+1) b2) (v b0 (b1+1) (b2+1)) (v (b0+1) (b1+1) (b2+1))
 unfold lvF
 rw[jbR (g:=fun t=>if t<A0 then v (b0+1) (b1+1) (b2+1) else if t<A2 then v b0 (b1+1) (b2+1) else if t<A1 then v b0 (b1+1) b2 else v b0 b1 b2) fun t ht=>by
  rw[lvlN hN (show A0≤N by omega) ht,lvlN hN (show A1≤N by omega) ht,lvlN hN (show A2≤N by omega) ht]
  by_cases h1:t<A0
  ·rw[if_pos h1,if_pos h1,if_pos (show t<A1 by omega),if_pos (show t<A2 by omega)]
  ·by_cases h2:t<A2
   ·rw[if_neg h1,if_neg h1,if_pos h2,if_pos h2,if_pos (show t<A1 by omega)]
    simp only[jjZ]
   ·by_cases h3:t<A1
    ·rw[if_neg h1,if_neg h1,if_neg h2,if_neg h2,if_pos h3,if_pos h3]
     simp only[jjZ]
    ·rw[if_neg h1,if_neg h1,if_neg h2,if_neg h2,if_neg h3,if_neg h3]
     simp only[jjZ],key]
 simp only[evO,sel,bmp,vat]
 simp
 generalize v b0 b1 b2=w0
 generalize v b0 (b1+1) b2=w1
 generalize v b0 (b1+1) (b2+1)=w2
 generalize v (b0+1) (b1+1) (b2+1)=w3
 grind
theorem ev_102 {N A0 A1 A2:Nat}{b0 b1 b2:Int}(hN:0<N)(hA:A1≤N)(hB:A0≤A1)(hC:A2≤A0)(v:Int→Int→Int→Rat) :
  ((N:Int):Rat)*evO v (b0,b1,b2) (((A0:Int):Rat)/((N:Int):Rat)) (((A1:Int):Rat)/((N:Int):Rat)) (((A2:Int):Rat)/((N:Int):Rat)) 1 0 2=lvF v N (b0*N+A0) (b1*N+A1) (b2*N+A2):=by
 have hz:=jd1 hN
 have key:=jek hA hB hC (v b0 b1 b2) (v b0 (b1+1) b2) (v (b0+1) (b1+1) b2) (v (b0+1) (b1+1) (b2+1))
 unfold lvF
 rw[jbR (g:=fun t=>if t<A2 then v (b0+1) (b1+1) (b2+1) else if t<A0 then v (b0+1) (b1+1) b2 else if t<A1 then v b0 (b1+1) b2 else v b0 b1 b2) fun t ht=>by
  rw[lvlN hN (show A0≤N by omega) ht,lvlN hN (show A1≤N by omega) ht,lvlN hN (show A2≤N by omega) ht]
  by_cases h1:t<A2
  ·rw[if_pos h1,if_pos h1,if_pos (show t<A1 by omega),if_pos (show t<A0 by omega)]
  ·by_cases h2:t<A0
   ·rw[if_neg h1,if_neg h1,if_pos h2,if_pos h2,if_pos (show t<A1 by omega)]
    simp only[jjZ]
   ·by_cases h3:t<A1
    ·rw[if_neg h1,if_neg h1,if_neg h2,if_neg h2,if_pos h3,if_pos h3]
     simp only[jjZ]
    ·rw[if_neg h1,if_neg h1,if_neg h2,if_neg h2,if_neg h3,if_neg h3]
     simp only[jjZ],key]
 simp only[evO,sel,bmp,vat]
 simp
 generalize v b0 b1 b2=w0
 generalize v b0 (b1+1) b2=w1
 generalize v (b0+1) (b1+1) b2=w2
 generalize v (b0+1) (b1+1) (b2+1)=w3
 grind
theorem ev_201 {N A0 A1 A2:Nat}{b0 b1 b2:Int}(hN:0<N)(hA:A2≤N)(hB:A0≤A2)(hC:A1≤A0)(v:Int→Int→Int→Rat) :
  ((N:Int):Rat)*evO v (b0,b1,b2) (((A0:Int):Rat)/((N:Int):Rat)) (((A1:Int):Rat)/((N:Int):Rat)) (((A2:Int):Rat)/((N:Int):Rat)) 2 0 1=lvF v N (b0*N+A0) (b1*N+A1) (b2*N+A2):=by
 have hz:=jd1 hN
 have key:=jek hA hB hC (v b0 b1 b2) (v b0 b1 (b2+1)) (v (b0+1) b1 (b2+1)) (v (b0+1) (b1+1) (b2+1))
 unfold lvF
 rw[jbR (g:=fun t=>if t<A1 then v (b0+1) (b1+1) (b2+1) else if t<A0 then v (b0+1) b1 (b2+1) else if t<A2 then v b0 b1 (b2+1) else v b0 b1 b2) fun t ht=>by
  rw[lvlN hN (show A0≤N by omega) ht,lvlN hN (show A1≤N by omega) ht,lvlN hN (show A2≤N by omega) ht]
  by_cases h1:t<A1
  ·rw[if_pos h1,if_pos h1,if_pos (show t<A2 by omega),if_pos (show t<A0 by omega)]
  ·by_cases h2:t<A0
   ·rw[if_neg h1,if_neg h1,if_pos h2,if_pos h2,if_pos (show t<A2 by omega)]
    simp only[jjZ]
   ·by_cases h3:t<A2
    ·rw[if_neg h1,if_neg h1,if_neg h2,if_neg h2,if_pos h3,if_pos h3]
     simp only[jjZ]
    ·rw[if_neg h1,if_neg h1,if_neg h2,if_neg h2,if_neg h3,if_neg h3]
     simp only[jjZ],key]
 simp only[evO,sel,bmp,vat]
 simp
 generalize v b0 b1 b2=w0
 generalize v b0 b1 (b2+1)=w1
 generalize v (b0+1) b1 (b2+1)=w2
 generalize v (b0+1) (b1+1) (b2+1)=w3
 grind
theorem ev_021 {N A0 A1 A2:Nat}{b0 b1 b2:Int}(hN:0<N)(hA:A0≤N)(hB:A2≤A0)(hC:A1≤A2)(v:Int→Int→Int→Rat) :
  ((N:Int):Rat)*evO v (b0,b1,b2) (((A0:Int):Rat)/((N:Int):Rat)) (((A1:Int):Rat)/((N:Int):Rat)) (((A2:Int):Rat)/((N:Int):Rat)) 0 2 1=lvF v N (b0*N+A0) (b1*N+A1) (b2*N+A2):=by
 have hz:=jd1 hN
 have key:=jek hA hB hC (v b0 b1 b2) (v (b0+1) b1 b2) (v (b0+1) b1 (b2+1)) (v (b0+1) (b1+1) (b2+1))
 unfold lvF
 rw[jbR (g:=fun t=>if t<A1 then v (b0+1) (b1+1) (b2+1) else if t<A2 then v (b0+1) b1 (b2+1) else if t<A0 then v (b0+1) b1 b2 else v b0 b1 b2) fun t ht=>by
  rw[lvlN hN (show A0≤N by omega) ht,lvlN hN (show A1≤N by omega) ht,lvlN hN (show A2≤N by omega) ht]
  by_cases h1:t<A1
  ·rw[if_pos h1,if_pos h1,if_pos (show t<A0 by omega),if_pos (show t<A2 by omega)]
  ·by_cases h2:t<A2
   ·rw[if_neg h1,if_neg h1,if_pos h2,if_pos h2,if_pos (show t<A0 by omega)]
    simp only[jjZ]
   ·by_cases h3:t<A0
    ·rw[if_neg h1,if_neg h1,if_neg h2,if_neg h2,if_pos h3,if_pos h3]
     simp only[jjZ]
    ·rw[if_neg h1,if_neg h1,if_neg h2,if_neg h2,if_neg h3,if_neg h3]
     simp only[jjZ],key]
 simp only[evO,sel,bmp,vat]
 simp
 generalize v b0 b1 b2=w0
 generalize v (b0+1) b1 b2=w1
 generalize v (b0+1) b1 (b2+1)=w2
 generalize v (b0+1) (b1+1) (b2+1)=w3
 grind
theorem ev_012 {N A0 A1 A2:Nat}{b0 b1 b2:Int}(hN:0<N)(hA:A0≤N)(hB:A1≤A0)(hC:A2≤A1)(v:Int→Int→Int→Rat) :
  ((N:Int):Rat)*evO v (b0,b1,b2) (((A0:Int):Rat)/((N:Int):Rat)) (((A1:Int):Rat)/((N:Int):Rat)) (((A2:Int):Rat)/((N:Int):Rat)) 0 1 2=lvF v N (b0*N+A0) (b1*N+A1) (b2*N+A2):=by
 have hz:=jd1 hN
 have key:=jek hA hB hC (v b0 b1 b2) (v (b0+1) b1 b2) (v (b0+1) (b1+1) b2) (v (b0+1) (b1+1) (b2+1))
 unfold lvF
 rw[jbR (g:=fun t=>if t<A2 then v (b0+1) (b1+1) (b2+1) else if t<A1 then v (b0+1) (b1+1) b2 else if t<A0 then v (b0+1) b1 b2 else v b0 b1 b2) fun t ht=>by
  rw[lvlN hN (show A0≤N by omega) ht,lvlN hN (show A1≤N by omega) ht,lvlN hN (show A2≤N by omega) ht]
  by_cases h1:t<A2
  ·rw[if_pos h1,if_pos h1,if_pos (show t<A0 by omega),if_pos (show t<A1 by omega)]
  ·by_cases h2:t<A1
   ·rw[if_neg h1,if_neg h1,if_pos h2,if_pos h2,if_pos (show t<A0 by omega)]
    simp only[jjZ]
   ·by_cases h3:t<A0
    ·rw[if_neg h1,if_neg h1,if_neg h2,if_neg h2,if_pos h3,if_pos h3]
     simp only[jjZ]
    ·rw[if_neg h1,if_neg h1,if_neg h2,if_neg h2,if_neg h3,if_neg h3]
     simp only[jjZ],key]
 simp only[evO,sel,bmp,vat]
 simp
 generalize v b0 b1 b2=w0
 generalize v (b0+1) b1 b2=w1
 generalize v (b0+1) (b1+1) b2=w2
 generalize v (b0+1) (b1+1) (b2+1)=w3
 grind
theorem rlt {N A B:Nat}(hN:0<N):(((A:Int):Rat)/((N:Int):Rat)<((B:Int):Rat)/((N:Int):Rat))↔A<B:=by
 have h1:(0:Rat)<((N:Int):Rat):=by exact_mod_cast (show (0:Int)<N by omega)
 rw[Rat.div_lt_iff h1,Rat.div_mul_cancel (jd1 hN)]
 constructor
 ·intro h
  have:(A:Int)<B:=by exact_mod_cast h
  omega
 ·intro h
  exact_mod_cast (show (A:Int)<B by omega)
theorem ev_main {N A0 A1 A2:Nat}{b0 b1 b2:Int}(hN:0<N)(h0:A0≤N)(h1:A1≤N)(h2:A2≤N)(v:Int→Int→Int→Rat) :
  ((N:Int):Rat)*evL v (b0,b1,b2) (((A0:Int):Rat)/((N:Int):Rat)) (((A1:Int):Rat)/((N:Int):Rat)) (((A2:Int):Rat)/((N:Int):Rat)) (ord3 (((A0:Int):Rat)/((N:Int):Rat)) (((A1:Int):Rat)/((N:Int):Rat)) (((A2:Int):Rat)/((N:Int):Rat)))=lvF v N (b0*N+A0) (b1*N+A1) (b2*N+A2):=by
 unfold ord3
 simp only[rlt hN]
 by_cases c1:A0<A1
 ·rw[if_pos c1]
  by_cases c2:A0<A2
  ·rw[if_pos c2]
   by_cases c3:A1<A2
   ·rw[if_pos c3]
    exact ev_210 hN h2 Jo Jo v
   ·rw[if_neg c3]
    exact ev_120 hN h1 Jo Jo v
  ·rw[if_neg c2]
   exact ev_102 hN h1 Jo Jo v
 ·rw[if_neg c1]
  by_cases c3:A1<A2
  ·rw[if_pos c3]
   by_cases c2:A0<A2
   ·rw[if_pos c2]
    exact ev_201 hN h2 Jo Jo v
   ·rw[if_neg c2]
    exact ev_021 hN h0 Jo Jo v
  ·rw[if_neg c3]
   exact ev_012 hN h0 Jo Jo v
theorem split_N {N:Nat}(hN:0<N)(P:Int):∃ (b:Int) (A:Nat),A<N∧P=b*N+A:=by
 have h1:=jjz P (show (N:Int)≠0 by omega)
 have h2:=jjY P (show (0:Int)<N by omega)
 have h3:=Int.mul_ediv_add_emod P N
 refine⟨P/N,(P%N).toNat,Jo,?_⟩
 rw[jjE h1,jjS]
 omega
theorem lv_le {N:Nat}{v w:Int→Int→Int→Rat}{P Q R:Int}(h:∀ i j k:Int,(∃ t:Nat,t<N∧i=(P-1-t)/N+1∧j=(Q-1-t)/N+1∧k=(R-1-t)/N+1)→v i j k≤w i j k):lvF v N P Q R≤lvF w N P Q R:=
 sm_le fun t ht=>h _ _ _ ⟨t,ht,rfl,rfl,rfl⟩
theorem lv_const (c:Rat)(N:Nat)(P Q R:Int):lvF (fun _ _ _=>c) N P Q R=((N:Int):Rat)*c:=jeB c N
theorem lvl_in {N t:Nat}{P m:Int}(hN:0<N)(ht:t<N)(h0:0≤P)(h1:P≤m*N):0≤(P-1-t)/N+1∧(P-1-t)/N+1≤m:=by
 have hN':(0:Int)<N:=Jo
 constructor
 ·have : -1≤(P-1-t)/N:=(Int.le_ediv_iff_mul_le hN').2 Jo
  omega
 ·have:(P-1-t)/N<m:=(Int.ediv_lt_iff_lt_mul hN').2 Jo
  omega
theorem at_N {N:Nat}{p:Rat}{P s:Int}(hN:0<N)(hP:(P:Rat)=((N:Int):Rat)*p)(h0:0≤P)(h1:P≤(s-1)*N)(hs:2≤s) :
  ∃ A:Nat,A≤N∧P=(min p.floor (s-2))*N+A∧p-((min p.floor (s-2):Int):Rat)=((A:Int):Rat)/((N:Int):Rat)∧0≤min p.floor (s-2):=by
 obtain⟨b,B,hB,e⟩:=split_N hN P
 have hz:=jd1 hN
 have hNp:(0:Rat)<((N:Int):Rat):=by exact_mod_cast (show (0:Int)<N by omega)
 have hp:p=(P:Rat)/((N:Int):Rat):=by
  rw[hP]
  grind
 have hf:p.floor=b:=by
  have l1:(b:Rat)≤p:=by
   rw[← Rat.not_lt,hp,Rat.div_lt_iff hNp,Rat.not_lt]
   rw[e,Rat.intCast_add,Rat.intCast_mul]
   have:(0:Rat)≤((B:Int):Rat):=by exact_mod_cast (show (0:Int)≤B by omega)
   grind
  have l2:p<((b+1:Int):Rat):=by
   rw[hp,Rat.div_lt_iff hNp,e,Rat.intCast_add,Rat.intCast_mul,Rat.intCast_add]
   have:((B:Int):Rat)<((N:Int):Rat):=by exact_mod_cast (show (B:Int)<N by omega)
   grind
  have g1:=Rat.le_floor_iff.2 l1
  have g2:=Rat.floor_lt_iff.2 l2
  omega
 have b0:0≤b:=by
  rcases Int.lt_or_le b 0 with h|h
  ·exfalso
   have:b*N ≤ -1*N:=jjM Jo Jo
   omega
  ·exact h
 rw[hf]
 by_cases hm:b≤s-2
 ·rw[show min b (s-2)=b by omega]
  refine⟨B,Jo,e,?_,b0⟩
  rw[hp,e,Rat.intCast_add,Rat.intCast_mul]
  grind
 ·have hb:b=s-1:=by
   have:(s-1)*(N:Int)≤b*N:=jjM Jo Jo
   rcases Int.lt_or_le (s-1) b with h|h
   ·exfalso
    have:(s-1+1)*(N:Int)≤b*N:=jjM Jo Jo
    rw[jj1,jj2] at this
    omega
   ·omega
  have hB0:B=0:=by
   rw[hb] at e
   omega
  rw[show min b (s-2)=s-2 by omega]
  refine⟨N,Jo,?_,?_,Jo⟩
  ·rw[e,hb,hB0,show s-1=(s-2)+1 by omega,jj1,jj2]
   omega
  ·rw[hp,e,hb,hB0,show s-1=(s-2)+1 by omega,Rat.intCast_add,Rat.intCast_mul,Rat.intCast_add]
   grind
def clQ (x:Rat):Rat:=if 1<(if x<0 then 0 else x) then 1 else (if x<0 then 0 else x)
theorem clQ_bd (x:Rat):0≤clQ x∧clQ x≤1:=by
 unfold clQ
 have h01:(0:Rat)≤1:=Jd
 by_cases h:x<0
 ·rw[if_pos h]
  by_cases g:(1:Rat)<0
  ·rw[if_pos g];exact⟨h01,Rat.le_refl⟩
  ·rw[if_neg g];exact⟨Rat.le_refl,h01⟩
 ·rw[if_neg h]
  by_cases g:1<x
  ·rw[if_pos g];exact⟨h01,Rat.le_refl⟩
  ·rw[if_neg g];exact⟨Rat.not_lt.1 h,Rat.not_lt.1 g⟩
def gp (s:Int)(x:Rat):Rat:=clQ x*((s-1:Int):Rat)
def spB (s:Int)(x:Rat):Int:=min (gp s x).floor (s-2)
def spR (s:Int)(x:Rat):Rat:=gp s x-((spB s x:Int):Rat)
def evF (s0 s1 s2:Int)(v:Int→Int→Int→Rat)(x0 x1 x2:Rat):Rat:=
 evL v (spB s0 x0,spB s1 x1,spB s2 x2) (spR s0 x0) (spR s1 x1) (spR s2 x2) (ord3 (spR s0 x0) (spR s1 x1) (spR s2 x2))
theorem gp_bd {s:Int}(hs:2≤s)(x:Rat):0≤gp s x∧gp s x≤((s-1:Int):Rat):=by
 have h:=clQ_bd x
 have h1:(0:Rat)≤((s-1:Int):Rat):=by exact_mod_cast (show (0:Int)≤s-1 by omega)
 unfold gp
 refine⟨Rat.mul_nonneg h.1 h1,?_⟩
 have:=Rat.mul_nonneg (show 0≤1-clQ x by grind) h1
 grind
theorem np_pos {N:Nat}(hN:0<N):(0:Rat)<((N:Int):Rat):=by exact_mod_cast (show (0:Int)<N by omega)
theorem P_bd {N:Nat}{s P:Int}{x:Rat}(hN:0<N)(hs:2≤s)(hP:(P:Rat)=((N:Int):Rat)*gp s x):0≤P∧P≤(s-1)*N:=by
 have h:=gp_bd hs x
 have hn:=np_pos hN
 constructor
 ·have:=Rat.mul_nonneg (Rat.le_of_lt hn) h.1
  rw[← hP] at this
  exact_mod_cast this
 ·have:=Rat.mul_nonneg (Rat.le_of_lt hn) (show 0≤((s-1:Int):Rat)-gp s x by grind)
  have e:(P:Rat)≤(((s-1)*N:Int):Rat):=by
   rw[Rat.intCast_mul]
   grind
  exact_mod_cast e
theorem ev_lv {N:Nat}{s0 s1 s2 P Q R:Int}{x0 x1 x2:Rat}(hN:0<N)(hs:2≤s0∧2≤s1∧2≤s2)(h0:(P:Rat)=((N:Int):Rat)*gp s0 x0)(h1:(Q:Rat)=((N:Int):Rat)*gp s1 x1)(h2:(R:Rat)=((N:Int):Rat)*gp s2 x2)(v:Int→Int→Int→Rat) :
  ((N:Int):Rat)*evF s0 s1 s2 v x0 x1 x2=lvF v N P Q R:=by
 have b0:=P_bd hN hs.1 h0
 have b1:=P_bd hN hs.2.1 h1
 have b2:=P_bd hN hs.2.2 h2
 obtain⟨A0,a0,e0,r0,_⟩:=at_N hN h0 b0.1 b0.2 hs.1
 obtain⟨A1,a1,e1,r1,_⟩:=at_N hN h1 b1.1 b1.2 hs.2.1
 obtain⟨A2,a2,e2,r2,_⟩:=at_N hN h2 b2.1 b2.2 hs.2.2
 have m:=ev_main (b0:=spB s0 x0) (b1:=spB s1 x1) (b2:=spB s2 x2) hN a0 a1 a2 v
 unfold evF spR
 have f0:gp s0 x0-((spB s0 x0:Int):Rat)=((A0:Int):Rat)/((N:Int):Rat):=r0
 have f1:gp s1 x1-((spB s1 x1:Int):Rat)=((A1:Int):Rat)/((N:Int):Rat):=r1
 have f2:gp s2 x2-((spB s2 x2:Int):Rat)=((A2:Int):Rat)/((N:Int):Rat):=r2
 rw[f0,f1,f2,m]
 have g0:P=spB s0 x0*N+A0:=e0
 have g1:Q=spB s1 x1*N+A1:=e1
 have g2:R=spB s2 x2*N+A2:=e2
 rw[← g0,← g1,← g2]
theorem com_den:∀ l:List Rat, ∃ N:Nat,0<N ∧ ∀ p∈l, ∃ P:Int,(P:Rat)=((N:Int):Rat)*p
 | []=>⟨1,Jd,fun p hp=>by cases hp⟩
 | q::l=>by
  obtain⟨N,hN,h⟩:=com_den l
  refine⟨N*q.den,Nat.mul_pos hN q.den_pos,fun p hp=>?_⟩
  rcases jka.1 hp with e|e
  ·subst e
   refine⟨N*p.num,?_⟩
   have hd:((p.den:Int):Rat)*p=((p.num:Int):Rat):=by
    have h1:=jj6 p
    have hz:=jd1 p.den_pos
    rw[Rat.divInt_eq_div] at h1
    have:p=((p.num:Int):Rat)/((p.den:Int):Rat):=h1.symm
    conv=>lhs;rhs;rw[this]
    rw[Rat.mul_comm,Rat.div_mul_cancel hz]
   rw[Rat.intCast_mul,jjQ,Rat.intCast_mul,Rat.mul_assoc,hd]
  ·obtain⟨P,hP⟩:=h p e
   refine⟨q.den*P,?_⟩
   rw[Rat.intCast_mul,hP,jjQ,Rat.intCast_mul]
   grind
theorem com3 (a b c:Rat):∃ (N:Nat) (P Q R:Int),0<N∧(P:Rat)=((N:Int):Rat)*a∧(Q:Rat)=((N:Int):Rat)*b∧(R:Rat)=((N:Int):Rat)*c:=by
 obtain⟨N,hN,h⟩:=com_den [a,b,c]
 obtain⟨P,hP⟩:=h a Js
 obtain⟨Q,hQ⟩:=h b Js
 obtain⟨R,hR⟩:=h c Js
 exact⟨N,P,Q,R,hN,hP,hQ,hR⟩
theorem cancle {N:Nat}(hN:0<N){a b:Rat}(h:((N:Int):Rat)*a≤((N:Int):Rat)*b):a≤b:=by
 rcases (Rat.le_total:a≤b∨b≤a) with g|g
 ·exact g
 ·by_cases e:a=b
  ·rw[e];exact Rat.le_refl
  ·exfalso
   have hlt:b<a:=Rat.lt_of_le_of_ne g fun h=>e h.symm
   have:=Rat.mul_pos (np_pos hN) (show 0<a-b by grind)
   grind
theorem ev_bd {s0 s1 s2:Int}(hs:2≤s0∧2≤s1∧2≤s2){v:Int→Int→Int→Rat}{m M:Rat}(h:∀ i j k:Int,0≤i∧i≤s0-1→0≤j∧j≤s1-1→0≤k∧k≤s2-1→m≤v i j k∧v i j k≤M)(x0 x1 x2:Rat):m≤evF s0 s1 s2 v x0 x1 x2∧evF s0 s1 s2 v x0 x1 x2≤M:=by
 obtain⟨N,P,Q,R,hN,hP,hQ,hR⟩:=com3 (gp s0 x0) (gp s1 x1) (gp s2 x2)
 have b0:=P_bd hN hs.1 hP
 have b1:=P_bd hN hs.2.1 hQ
 have b2:=P_bd hN hs.2.2 hR
 have key:∀ i j k:Int,(∃ t:Nat,t<N∧i=(P-1-t)/N+1∧j=(Q-1-t)/N+1∧k=(R-1-t)/N+1)→m≤v i j k∧v i j k≤M:=fun i j k hh=>by
  obtain⟨t,ht,rfl,rfl,rfl⟩:=hh
  exact h _ _ _ (lvl_in hN ht b0.1 b0.2) (lvl_in hN ht b1.1 b1.2) (lvl_in hN ht b2.1 b2.2)
 constructor
 ·refine cancle hN ?_
  rw[ev_lv hN hs hP hQ hR,← lv_const m N P Q R]
  exact lv_le fun i j k hh=>(key i j k hh).1
 ·refine cancle hN ?_
  rw[ev_lv hN hs hP hQ hR,← lv_const M N P Q R]
  exact lv_le fun i j k hh=>(key i j k hh).2
theorem jbD {n m:Int}(hn : -9223372036854775807≤n∧n≤9223372036854775807)(hm:1≤m∧m≤9223372036854775807):Cl 51 [Ji n,Ji m] (frT (Rat.divInt n m)):=by
 have c:=y_of hn hm
 unfold frT at *
 generalize Rat.divInt n m=q at *
 refine V.en tbOk Tryz.func51 ?_
 refine V.u1 c ?_
 exact Fin.of rfl
theorem int_q (n:Int):Rat.divInt n 1=(n:Rat):=by rw[Rat.divInt_eq_div];grind
theorem jap {n:Int}(hn : -9223372036854775807≤n∧n≤9223372036854775807):Cl 88 [Ji n] (frT (n:Rat)):=by
 have c:=jbD (n:=n) (m:=1) hn Jo
 rw[int_q] at c
 unfold frT at *
 generalize (n:Rat)=q at *
 refine V.en tbOk Tryz.func88 ?_
 refine V.u1 c ?_
 exact Fin.of rfl
theorem q9_of {n:Nat}{q:Rat}(h:Fq n q)(h0:0<n∧n≤600):Q9 20000000 q:=by
 obtain⟨h1,e1⟩:=jaE (h.ok h0.1 h0.2)
 have:=qsize h1
 rw[e1] at this
 exact this
theorem rd_q {n:Nat}{q:Rat}(h:Fq n q)(h0:0<n∧n≤600):Cl 115 [frT q] (.tup [rtD q,.bool true]):=by
 obtain⟨h1,e1⟩:=jaE (h.ok h0.1 h0.2)
 have r1:=jbG _ _ h1
 rw[e1] at r1
 exact r1
theorem fq_cl {n:Nat}{q:Rat}(h:Fq n q)(h0:0<n):Fq n (clQ q):=by
 have z:Fq n 0:=(show Fq 1 0 from ⟨Jd,Jd⟩).mono h0
 have o:Fq n 1:=y_one.mono h0
 unfold clQ
 by_cases h1:q<0
 ·rw[if_pos h1]
  split
  ·exact o
  ·exact z
 ·rw[if_neg h1]
  split
  ·exact o
  ·exact h
theorem fclamp_c {n:Nat}{q:Rat}(h:Fq n q)(h0:0<n∧n≤600):Cl 179 [frT q,frT 0,frT 1] (.tup [frT (clQ q),Ji 0]):=by
 have fz:Fq 1 0:=⟨Jd,Jd⟩
 have r0:=rd_q h h0
 have r1:=rd_q fz Jo
 have r2:=rd_q y_one Jo
 have q0:=q9_of h h0
 have q1:=q9_of fz Jo
 have q2:=q9_of y_one Jo
 have od:=jgQ 0 1 (q1.1.mono Jo) (q2.1.mono Jo) (by have:=q1.2;omega) (by have:=q2.2;omega)
 have e:ordQ 0 1 = -1:=by decide +kernel
 rw[e] at od
 have g:=greater_c q 0 q0 q1
 have q3:Q9 20000000 (if q<0 then 0 else q):=by
  split
  ·exact q1
  ·exact q0
 have l:=lesser_c (if q<0 then 0 else q) 1 q3 q2
 have fc:=fq_cl h h0.1
 have ec:(if 1<(if q<0 then 0 else q) then 1 else (if q<0 then 0 else q))=clQ q:=rfl
 rw[ec] at l
 have qc:=q9_of fc h0
 have w:=jd8 (clQ q) (by have:=qc.1;unfold S9 at this;omega) (by have:=qc.2;omega)
 rw[jc3 (fc.ok h0.1 h0.2)] at w
 clear h fc ec e q0 q1 q2 q3 qc fz
 generalize clQ q=c at *
 generalize (if q<0 then 0 else q)=u at *
 generalize (0:Rat)=zz at *
 generalize (1:Rat)=oo at *
 unfold frT rtD at *
 refine V.en tbOk Tryz.func179 ?_
 refine V.r4 @jjC r0 r1 r2 od ?_
 refine⟨(V.tk [0,1,3] (V.e1 2 [3] (V.e1 4 [] (V.e1 5 [] (V.tk [6,7] (V.e1 8 [] (V.tk [9] .done))))))),[],V.pok,?_⟩
 refine jab [(7,Ji 0)] [(6,.box [.str (decZ c.num),.str (dec c.den)])] ?_ ?_
 ·exact V.d3 @jjC g l w
 refine V.r0 @jjC ?_
 exact Fin.of rfl
theorem ffloor_c {n:Nat}{q:Rat}(h:Fq n q)(h0:0<n∧n≤600):Cl 180 [frT q] (.tup [.str (decZ q.floor),Ji 0]):=by
 have r0:=rd_q h h0
 have q0:=q9_of h h0
 have f:=floor_c q.num q.den q.den_pos (q0.1.mono Jo) (by have:=q0.2;omega)
 rw[← Rat.floor_def] at f
 have hl:S9 20000000 q.floor:=by
  rw[Rat.floor_def]
  refine q0.1.le ?_
  exact Int.natAbs_ediv_le_natAbs _ _
 unfold S9 at hl
 have t:=jiu q.floor Jo
 generalize q.floor=z at *
 unfold frT at *
 unfold rtD at r0
 unfold itD at f t
 refine V.en tbOk Tryz.func180 ?_
 refine V.r3 @jjC r0 f t ?_
 exact Fin.of rfl
theorem atoi_dig:∀ z:Int,0≤z→z≤9→Go.Lib.atoi (decZ z)=some z:=fun z h0 h1=>by
 have key:∀ n∈List.range 10,Go.Lib.atoi (decZ ((n:Nat):Int))=some ((n:Nat):Int):=by decide +kernel
 obtain⟨n,rfl⟩:∃ n:Nat,z=(n:Int):=⟨z.toNat,Jo⟩
 exact key n (List.mem_range.2 Jo)
theorem atoi_len:∀ z:Int,0≤z→z≤9→(decZ z).length≤18:=fun z h0 h1=>by
 have key:∀ n∈List.range 10,(decZ ((n:Nat):Int)).length≤18:=by decide +kernel
 obtain⟨n,rfl⟩:∃ n:Nat,z=(n:Int):=⟨z.toNat,Jo⟩
 exact key n (List.mem_range.2 Jo)
theorem atoi_c {z:Int}(h0:0≤z)(h1:z≤9):Cl 181 [.str (decZ z)] (.tup [Ji z,.val .nilIface]):=by
 refine ja8 Tryz.func181 rfl rfl rfl fun w hp vs ha hd=>?_
 simp only[DenL,Den] at hd
 obtain⟨v,_,rfl,⟨rfl,h2⟩,rfl⟩:=hd
 refine(Tryz.strconv_Atoi ⟨(decZ z).toArray⟩ z (by have:=atoi_len z h0 h1;simpa [ByteArray.size] using this) (by simpa using atoi_dig z h0 h1) w).mono fun e w' ⟨he,t,hw⟩=>⟨⟨_,he,fun hp=>?_⟩,?_⟩
 ·simp only[Den,DenL]
  exact⟨_,rfl,_,_,rfl,⟨rfl,by simp only[InR,V.lo,V.hi];omega⟩,_,_,rfl,rfl,rfl⟩
 ·rw[hw]
  exact Go.Lib.bytesWorld_below w _ _
theorem floor_bd {p:Rat}{m:Int}(h0:0≤p)(h1:p≤(m:Rat)):0≤p.floor∧p.floor≤m:=by
 constructor
 ·exact Rat.le_floor_iff.2 (by exact_mod_cast h0)
 ·have:p<((m+1:Int):Rat):=by
   rw[Rat.intCast_add]
   have:(0:Rat)<((1:Int):Rat):=Jd
   grind
  have:=Rat.floor_lt_iff.2 this
  omega
theorem jb5 {s:Int}(hs:2≤s)(x:Rat):0≤spB s x∧spB s x≤s-2:=by
 have h:=gp_bd hs x
 have:=floor_bd h.1 h.2
 unfold spB
 omega
theorem split_t (a b z0 z1 o0 o1 c0 c1 s0 s1 p0 p1 i0 i1 r0 r1:List UInt8)(f:List UInt8)(s fl:Int)(hs:2≤s∧s≤9)(hf:0≤fl∧fl≤9)(iz:Cl 88 [Ji 0] (.agg [.str z0,.str z1]))(io:Cl 88 [Ji 1] (.agg [.str o0,.str o1]))
  (cl:Cl 179 [.agg [.str a,.str b],.agg [.str z0,.str z1],.agg [.str o0,.str o1]] (.tup [.agg [.str c0,.str c1],Ji 0])) (is:Cl 88 [Ji (s-1)] (.agg [.str s0,.str s1]))
  (mu:Cl 87 [.agg [.str c0,.str c1],.agg [.str s0,.str s1]] (.tup [.agg [.str p0,.str p1],Ji 0])) (fo:Cl 180 [.agg [.str p0,.str p1]] (.tup [.str f,Ji 0]))
  (at':Cl 181 [.str f] (.tup [Ji fl,.val .nilIface])) (ib:Cl 88 [Ji (min fl (s-2))] (.agg [.str i0,.str i1])) (sb:Cl 104 [.agg [.str p0,.str p1],.agg [.str i0,.str i1]] (.tup [.agg [.str r0,.str r1],Ji 0])) :
  Cl 132 [.agg [.str a,.str b],Ji s] (.tup [Ji (min fl (s-2)),.agg [.str r0,.str r1],Ji 0]):=by
 refine V.en tbOk Tryz.func132 ?_
 refine V.r0 @jjC ?_
 refine⟨(V.tk [0] (V.e1 1 [0] (V.e1 2 [0] (V.e1 3 [] (V.tk [4,5,6] (V.e1 7 [6] (V.tk [8] .done))))))),[],V.pok,?_⟩
 refine jab [(6,Ji 0)] [(2,.box [.str c0,.str c1])] ?_ ?_
 ·exact V.d3 @jjC iz io cl
 refine V.r0 @jjC ?_
 refine⟨(V.tk [0,1,2] (.ev (.cons 3 [0] (.ev (.cons 4 [] (V.tk [5,6,7] (V.e1 8 [7,6,5] (V.e1 9 [7] (V.tk [10] .done)))) (.cons 8 [0] (V.e1 4 [] (V.tk [5,6,7] (V.e1 9 [7] (V.tk [10] .done)))) .nil))) (.cons 8 [2,1,0] (V.e1 3 [0] (V.e1 4 [] (V.tk [5,6,7] (V.e1 9 [7] (V.tk [10] .done))))) .nil)))),[],V.pok,?_⟩
 refine jab [(7,.box 7 0),(6,Ji 0)] [(7,.box [.str p0,.str p1])] ?_ ?_
 ·exact V.d2 @jjC is mu
 refine V.r2 @jjC fo at' ?_
 refine⟨(V.tk [0,1] (V.e1 2 [0] (V.e1 3 [] (V.tk [4,5,6] (V.e1 7 [6] (V.tk [8] .done)))))),[],V.pok,?_⟩
 refine jab [(6,Ji 0)] [(5,.box [.str r0,.str r1])] ?_ ?_
 ·exact V.d2 @jjC ib sb
 refine V.r0 @jjC ?_
 refine⟨(V.tk [0,1,2] (V.e1 3 [2,1] (V.e1 4 [2] (V.e1 5 [] .done)))),[],V.pok,?_⟩
 refine jab [(4,Ji (min fl (s-2))),(6,Ji 0)] [(5,.box [.str r0,.str r1])] ?_ ?_
 ·exact V.d0 @jjC
 refine V.r0 @jjC ?_
 exact Fin.of rfl
theorem jav {n:Nat}{z:Int}(h:z.natAbs<10^n)(h0:0<n):Fq n (z:Rat):=by
 have:=ja1 (n:=n) (x:=z) (d:=1) Jo h (Nat.one_lt_pow Jo Jd)
 rw[show (((1:Nat):Int))=1 from rfl,int_q] at this
 exact this
theorem jd9 {n:Nat}{x:Rat}{s:Int}(h:Fq n x)(h0:0<n∧n≤500)(hs:2≤s∧s≤9):Cl 132 [frT x,Ji s] (.tup [Ji (spB s x),frT (spR s x),Ji 0]):=by
 have h6:0<n∧n≤600:=Jo
 have fc:=fq_cl h h0.1
 have iz:=jap (n:=0) Jo
 have io:=jap (n:=1) Jo
 rw[show ((0:Int):Rat)=0 from rfl] at iz
 rw[show ((1:Int):Rat)=1 from rfl] at io
 have is:=jap (n:=s-1) Jo
 have fs:Fq 1 ((s-1:Int):Rat):=jav Jo Jo
 have mu:=zmul fc fs h0.1 Jo Jo
 have gb:=gp_bd hs.1 x
 have fb:0≤(clQ x*((s-1:Int):Rat)).floor∧(clQ x*((s-1:Int):Rat)).floor≤s-1:=floor_bd gb.1 gb.2
 have fb2:0≤(gp s x).floor∧(gp s x).floor≤s-1:=fb
 have fo:=ffloor_c (fc.mul fs) Jo
 have bb:=jb5 hs.1 x
 have ib:=jap (n:=spB s x) Jo
 have fi:Fq 1 ((spB s x:Int):Rat):=jav Jo Jo
 have sb:=zsub (fc.mul fs) fi Jo Jo Jo
 exact split_t _ _ _ _ _ _ _ _ _ _ _ _ _ _ _ _ _ s _ hs ⟨fb.1,Jo⟩ iz io (fclamp_c h h6) is mu fo (atoi_c fb.1 Jo) ib sb
end Go.Proofs.YtbnghipgicmpdaaGreatDoor
end
section
namespace Go.Proofs.YtbnghipgicmpdaaGreatDoor
theorem k0:((0:Nat):Int)=0:=rfl
theorem k1:((1:Nat):Int)=1:=rfl
theorem k2:((2:Nat):Int)=2:=rfl
theorem k3:((3:Nat):Int)=3:=rfl
theorem tn0:(0:Int).toNat=0:=rfl
theorem tn1:(1:Int).toNat=1:=rfl
theorem tn2:(2:Int).toNat=2:=rfl
theorem tn3:(3:Int).toNat=3:=rfl
end Go.Proofs.YtbnghipgicmpdaaGreatDoor
end
section
namespace Go.Proofs.YtbnghipgicmpdaaGreatDoor
open Go Go.V Go.Nb
def preZ (k:Nat)(l:List Int):List Int:=l.take k++List.replicate (l.length-k) 0
def insJ (w:Int→Int→Int):Nat→List Int→List Int
 | 0,xs=>xs
 | j+1,xs=>if w (xs.getD (j+1) 0) (xs.getD j 0)<0 then insJ w j ((xs.set (j+1) (xs.getD j 0)).set j (xs.getD (j+1) 0)) else xs
def isoK (w:Int→Int→Int)(xs:List Int):Nat→List Int
 | 0=>xs
 | i+1=>insJ w (i+1) (isoK w xs i)
def Bel (n:Nat)(xs:List Int):Prop:=xs.length=n ∧ ∀ i,i<n→0≤xs.getD i 0∧xs.getD i 0<n
theorem jdW (xs:List Int)(i k:Nat)(v:Int)(h:i<xs.length):(xs.set i v).getD k 0=if k=i then v else xs.getD k 0:=by
 rw[jj8,List.getElem?_set]
 by_cases e:i=k
 ·rw[if_pos e,if_pos h,if_pos e.symm]
  rfl
 ·rw[if_neg e,if_neg (fun h=>e h.symm),jj8]
theorem jeQ {n:Nat}{xs:List Int}{j:Nat}(h:Bel n xs)(hj:j+1<n):Bel n ((xs.set (j+1) (xs.getD j 0)).set j (xs.getD (j+1) 0)):=by
 refine⟨by rw[jkw,jkw];exact h.1,fun i hi=>?_⟩
 rw[jdW _ _ _ _ (by rw[jkw,h.1];omega)]
 by_cases e:i=j
 ·rw[if_pos e];exact h.2 _ hj
 ·rw[if_neg e,jdW _ _ _ _ (by rw[h.1];omega)]
  by_cases e2:i=j+1
  ·rw[if_pos e2];exact h.2 _ Jo
  ·rw[if_neg e2];exact h.2 _ hi
theorem bel_ins (w:Int→Int→Int){n:Nat} : ∀ (j:Nat) {xs:List Int},j<n→Bel n xs→Bel n (insJ w j xs)
 | 0,_,_,h=>h
 | j+1,xs,hj,h=>by
  simp only[insJ]
  split
  ·exact bel_ins w j Jo (jeQ h hj)
  ·exact h
theorem jhe (w:Int→Int→Int){n:Nat}{xs:List Int}(h:Bel n xs):∀ i,i<n→Bel n (isoK w xs i)
 | 0,_=>h
 | i+1,hi=>bel_ins w (i+1) hi (jhe w h i Jo)
theorem tns (j:Nat):((j:Int)-1).toNat=j-1:=Jo
def wcl:Nat→D
 | 0 => .nil
 | k+1 => .bsl 62 0 (k+1) 2
def wce (W:Nat→Tx):Nat→List D
 | 0=>[]
 | k+1=>wce W k++[.str (W k).1,.str (W k).2]
def wch (W:Nat→Tx):Nat→Hp
 | 0=>[]
 | k+1=>[(62,.box (wce W (k+1)))]
def preD (k:Nat)(l:List D):List D:=l.take k++List.replicate (l.length-k) (.str [])
theorem xk4:((4:Nat):Int)=4:=rfl
theorem xt4:(4:Int).toNat=4:=rfl
theorem jiP:type_of% @jjC∧type_of% @tn0∧type_of% @tn1∧type_of% @tn2∧type_of% @tn3∧type_of% @xt4:=⟨@jjC,@tn0,@tn1,@tn2,@tn3,@xt4⟩
theorem jim {F e0 n0 e1 n1:Nat}{f0 f1:Nat→List D}{z:Int}(T:Nat→Tx)(c0:Cl F (Ji 0::[.ref [.slf e0 n0 f0],.ref [.slf e1 n1 f1]]) (.tup [Jt (T 0),Ji 0])) :
  Cl 84 [Ji 1,.fn F [] [.ref [.slf e0 n0 f0],.ref [.slf e1 n1 f1]]] (.tup [V.sl2 1 [.str (T 0).1,.str (T 0).2],Ji 0]):=by
 refine V.en tbOk Tryz.func84 ?_
 refine V.r0 @jjC ?_
 refine jad (0) (fun k=>k≤1) (fun k=>1-k) (fun k=>[(14,Ji k)]) (fun k=>[(11,.box (preD (2*k) [.str (T 0).1,.str (T 0).2]))]) ?_ ?_ ?_
 ·exact V.wk
 ·exact jjx _
 intro k hk
 have hk4:k=0∨k=1:=Jo
 rcases hk4 with e|e
 all_goals subst e
 ·simp only[k0]
  refine V.r1 jiP c0 ?_
  exact⟨1,Jo,Jo,V.wk⟩
 ·simp only[k1]
  refine V.r0 @jjC ?_
  exact Fin.of rfl
theorem jil {F e0 n0 e1 n1:Nat}{f0 f1:Nat→List D}{z:Int}(T:Nat→Tx)(c0:Cl F (Ji 0::[.ref [.slf e0 n0 f0],.ref [.slf e1 n1 f1]]) (.tup [Jt (T 0),Ji 0]))(c1:Cl F (Ji 1::[.ref [.slf e0 n0 f0],.ref [.slf e1 n1 f1]]) (.tup [Jt (T 1),Ji 0])) :
  Cl 84 [Ji 2,.fn F [] [.ref [.slf e0 n0 f0],.ref [.slf e1 n1 f1]]] (.tup [V.sl2 2 [.str (T 0).1,.str (T 0).2,.str (T 1).1,.str (T 1).2],Ji 0]):=by
 refine V.en tbOk Tryz.func84 ?_
 refine V.r0 @jjC ?_
 refine jad (0) (fun k=>k≤2) (fun k=>2-k) (fun k=>[(14,Ji k)]) (fun k=>[(11,.box (preD (2*k) [.str (T 0).1,.str (T 0).2,.str (T 1).1,.str (T 1).2]))]) ?_ ?_ ?_
 ·exact V.wk
 ·exact jjx _
 intro k hk
 have hk4:k=0∨k=1∨k=2:=Jo
 rcases hk4 with e|e|e
 all_goals subst e
 ·simp only[k0]
  refine V.r1 jiP c0 ?_
  exact⟨1,Jo,Jo,V.wk⟩
 ·simp only[k1]
  refine V.r1 jiP c1 ?_
  exact⟨2,Jo,Jo,V.wk⟩
 ·simp only[k2]
  refine V.r0 @jjC ?_
  exact Fin.of rfl
theorem list2_3 {F e0 n0 e1 n1:Nat}{f0 f1:Nat→List D}{z:Int}(T:Nat→Tx)(c0:Cl F (Ji 0::[.ref [.slf e0 n0 f0],.ref [.slf e1 n1 f1],.ref [Ji z]]) (.tup [Jt (T 0),Ji 0]))(c1:Cl F (Ji 1::[.ref [.slf e0 n0 f0],.ref [.slf e1 n1 f1],.ref [Ji z]]) (.tup [Jt (T 1),Ji 0])) :
  Cl 84 [Ji 2,.fn F [] [.ref [.slf e0 n0 f0],.ref [.slf e1 n1 f1],.ref [Ji z]]] (.tup [V.sl2 2 [.str (T 0).1,.str (T 0).2,.str (T 1).1,.str (T 1).2],Ji 0]):=by
 refine V.en tbOk Tryz.func84 ?_
 refine V.r0 @jjC ?_
 refine jad (0) (fun k=>k≤2) (fun k=>2-k) (fun k=>[(14,Ji k)]) (fun k=>[(11,.box (preD (2*k) [.str (T 0).1,.str (T 0).2,.str (T 1).1,.str (T 1).2]))]) ?_ ?_ ?_
 ·exact V.wk
 ·exact jjx _
 intro k hk
 have hk4:k=0∨k=1∨k=2:=Jo
 rcases hk4 with e|e|e
 all_goals subst e
 ·simp only[k0]
  refine V.r1 jiP c0 ?_
  exact⟨1,Jo,Jo,V.wk⟩
 ·simp only[k1]
  refine V.r1 jiP c1 ?_
  exact⟨2,Jo,Jo,V.wk⟩
 ·simp only[k2]
  refine V.r0 @jjC ?_
  exact Fin.of rfl
theorem jik {F e0 n0 e1 n1:Nat}{f0 f1:Nat→List D}{z:Int}(T:Nat→Tx)(c0:Cl F (Ji 0::[.ref [.slf e0 n0 f0],.ref [.slf e1 n1 f1]]) (.tup [Jt (T 0),Ji 0]))(c1:Cl F (Ji 1::[.ref [.slf e0 n0 f0],.ref [.slf e1 n1 f1]]) (.tup [Jt (T 1),Ji 0]))(c2:Cl F (Ji 2::[.ref [.slf e0 n0 f0],.ref [.slf e1 n1 f1]]) (.tup [Jt (T 2),Ji 0])) :
  Cl 84 [Ji 3,.fn F [] [.ref [.slf e0 n0 f0],.ref [.slf e1 n1 f1]]] (.tup [V.sl2 3 [.str (T 0).1,.str (T 0).2,.str (T 1).1,.str (T 1).2,.str (T 2).1,.str (T 2).2],Ji 0]):=by
 refine V.en tbOk Tryz.func84 ?_
 refine V.r0 @jjC ?_
 refine jad (0) (fun k=>k≤3) (fun k=>3-k) (fun k=>[(14,Ji k)]) (fun k=>[(11,.box (preD (2*k) [.str (T 0).1,.str (T 0).2,.str (T 1).1,.str (T 1).2,.str (T 2).1,.str (T 2).2]))]) ?_ ?_ ?_
 ·exact V.wk
 ·exact jjx _
 intro k hk
 have hk4:k=0∨k=1∨k=2∨k=3:=Jo
 rcases hk4 with e|e|e|e
 all_goals subst e
 ·simp only[k0]
  refine V.r1 jiP c0 ?_
  exact⟨1,Jo,Jo,V.wk⟩
 ·simp only[k1]
  refine V.r1 jiP c1 ?_
  exact⟨2,Jo,Jo,V.wk⟩
 ·simp only[k2]
  refine V.r1 jiP c2 ?_
  exact⟨3,Jo,Jo,V.wk⟩
 ·simp only[k3]
  refine V.r0 @jjC ?_
  exact Fin.of rfl
theorem list3_3 {F e0 n0 e1 n1:Nat}{f0 f1:Nat→List D}{z:Int}(T:Nat→Tx)(c0:Cl F (Ji 0::[.ref [.slf e0 n0 f0],.ref [.slf e1 n1 f1],.ref [Ji z]]) (.tup [Jt (T 0),Ji 0]))(c1:Cl F (Ji 1::[.ref [.slf e0 n0 f0],.ref [.slf e1 n1 f1],.ref [Ji z]]) (.tup [Jt (T 1),Ji 0]))(c2:Cl F (Ji 2::[.ref [.slf e0 n0 f0],.ref [.slf e1 n1 f1],.ref [Ji z]]) (.tup [Jt (T 2),Ji 0])) :
  Cl 84 [Ji 3,.fn F [] [.ref [.slf e0 n0 f0],.ref [.slf e1 n1 f1],.ref [Ji z]]] (.tup [V.sl2 3 [.str (T 0).1,.str (T 0).2,.str (T 1).1,.str (T 1).2,.str (T 2).1,.str (T 2).2],Ji 0]):=by
 refine V.en tbOk Tryz.func84 ?_
 refine V.r0 @jjC ?_
 refine jad (0) (fun k=>k≤3) (fun k=>3-k) (fun k=>[(14,Ji k)]) (fun k=>[(11,.box (preD (2*k) [.str (T 0).1,.str (T 0).2,.str (T 1).1,.str (T 1).2,.str (T 2).1,.str (T 2).2]))]) ?_ ?_ ?_
 ·exact V.wk
 ·exact jjx _
 intro k hk
 have hk4:k=0∨k=1∨k=2∨k=3:=Jo
 rcases hk4 with e|e|e|e
 all_goals subst e
 ·simp only[k0]
  refine V.r1 jiP c0 ?_
  exact⟨1,Jo,Jo,V.wk⟩
 ·simp only[k1]
  refine V.r1 jiP c1 ?_
  exact⟨2,Jo,Jo,V.wk⟩
 ·simp only[k2]
  refine V.r1 jiP c2 ?_
  exact⟨3,Jo,Jo,V.wk⟩
 ·simp only[k3]
  refine V.r0 @jjC ?_
  exact Fin.of rfl
theorem jij {F e0 n0 e1 n1:Nat}{f0 f1:Nat→List D}{z:Int}(T:Nat→Tx)(c0:Cl F (Ji 0::[.ref [.slf e0 n0 f0],.ref [.slf e1 n1 f1]]) (.tup [Jt (T 0),Ji 0]))(c1:Cl F (Ji 1::[.ref [.slf e0 n0 f0],.ref [.slf e1 n1 f1]]) (.tup [Jt (T 1),Ji 0]))(c2:Cl F (Ji 2::[.ref [.slf e0 n0 f0],.ref [.slf e1 n1 f1]]) (.tup [Jt (T 2),Ji 0]))(c3:Cl F (Ji 3::[.ref [.slf e0 n0 f0],.ref [.slf e1 n1 f1]]) (.tup [Jt (T 3),Ji 0])) :
  Cl 84 [Ji 4,.fn F [] [.ref [.slf e0 n0 f0],.ref [.slf e1 n1 f1]]] (.tup [V.sl2 4 [.str (T 0).1,.str (T 0).2,.str (T 1).1,.str (T 1).2,.str (T 2).1,.str (T 2).2,.str (T 3).1,.str (T 3).2],Ji 0]):=by
 refine V.en tbOk Tryz.func84 ?_
 refine V.r0 @jjC ?_
 refine jad (0) (fun k=>k≤4) (fun k=>4-k) (fun k=>[(14,Ji k)]) (fun k=>[(11,.box (preD (2*k) [.str (T 0).1,.str (T 0).2,.str (T 1).1,.str (T 1).2,.str (T 2).1,.str (T 2).2,.str (T 3).1,.str (T 3).2]))]) ?_ ?_ ?_
 ·exact V.wk
 ·exact jjx _
 intro k hk
 have hk4:k=0∨k=1∨k=2∨k=3∨k=4:=Jo
 rcases hk4 with e|e|e|e|e
 all_goals subst e
 ·simp only[k0]
  refine V.r1 jiP c0 ?_
  exact⟨1,Jo,Jo,V.wk⟩
 ·simp only[k1]
  refine V.r1 jiP c1 ?_
  exact⟨2,Jo,Jo,V.wk⟩
 ·simp only[k2]
  refine V.r1 jiP c2 ?_
  exact⟨3,Jo,Jo,V.wk⟩
 ·simp only[k3]
  refine V.r1 jiP c3 ?_
  exact⟨4,Jo,Jo,V.wk⟩
 ·simp only[xk4]
  refine V.r0 @jjC ?_
  exact Fin.of rfl
theorem list4_3 {F e0 n0 e1 n1:Nat}{f0 f1:Nat→List D}{z:Int}(T:Nat→Tx)(c0:Cl F (Ji 0::[.ref [.slf e0 n0 f0],.ref [.slf e1 n1 f1],.ref [Ji z]]) (.tup [Jt (T 0),Ji 0]))(c1:Cl F (Ji 1::[.ref [.slf e0 n0 f0],.ref [.slf e1 n1 f1],.ref [Ji z]]) (.tup [Jt (T 1),Ji 0]))(c2:Cl F (Ji 2::[.ref [.slf e0 n0 f0],.ref [.slf e1 n1 f1],.ref [Ji z]]) (.tup [Jt (T 2),Ji 0]))(c3:Cl F (Ji 3::[.ref [.slf e0 n0 f0],.ref [.slf e1 n1 f1],.ref [Ji z]]) (.tup [Jt (T 3),Ji 0])) :
  Cl 84 [Ji 4,.fn F [] [.ref [.slf e0 n0 f0],.ref [.slf e1 n1 f1],.ref [Ji z]]] (.tup [V.sl2 4 [.str (T 0).1,.str (T 0).2,.str (T 1).1,.str (T 1).2,.str (T 2).1,.str (T 2).2,.str (T 3).1,.str (T 3).2],Ji 0]):=by
 refine V.en tbOk Tryz.func84 ?_
 refine V.r0 @jjC ?_
 refine jad (0) (fun k=>k≤4) (fun k=>4-k) (fun k=>[(14,Ji k)]) (fun k=>[(11,.box (preD (2*k) [.str (T 0).1,.str (T 0).2,.str (T 1).1,.str (T 1).2,.str (T 2).1,.str (T 2).2,.str (T 3).1,.str (T 3).2]))]) ?_ ?_ ?_
 ·exact V.wk
 ·exact jjx _
 intro k hk
 have hk4:k=0∨k=1∨k=2∨k=3∨k=4:=Jo
 rcases hk4 with e|e|e|e|e
 all_goals subst e
 ·simp only[k0]
  refine V.r1 jiP c0 ?_
  exact⟨1,Jo,Jo,V.wk⟩
 ·simp only[k1]
  refine V.r1 jiP c1 ?_
  exact⟨2,Jo,Jo,V.wk⟩
 ·simp only[k2]
  refine V.r1 jiP c2 ?_
  exact⟨3,Jo,Jo,V.wk⟩
 ·simp only[k3]
  refine V.r1 jiP c3 ?_
  exact⟨4,Jo,Jo,V.wk⟩
 ·simp only[xk4]
  refine V.r0 @jjC ?_
  exact Fin.of rfl
theorem sum2 (P S:Nat→Tx)(h0:S 0=P 0)(c0:Cl 105 [Jt (S 0),Jt (P 1)] (.tup [Jt (S 1),Ji 0])) :
  Cl 89 [V.sl2 2 [.str (P 0).1,.str (P 0).2,.str (P 1).1,.str (P 1).2]] (.tup [Jt (S 1),Ji 0]):=by
 have h1:(S 0).1=(P 0).1∧(S 0).2=(P 0).2:=by rw[h0];exact⟨rfl,rfl⟩
 refine V.en tbOk Tryz.func89 ?_
 refine V.r0 jiP ?_
 refine jad (0) (fun k=>k≤1) (fun k=>1-k) (fun k=>[(14,Ji k)]) (fun k=>[(4,.box [.str (S k).1,.str (S k).2])]) ?_ ?_ ?_
 ·rw[h1.1,h1.2]
  exact V.wk
 ·exact jjx _
 intro k hk
 have hk4:k=0∨k=1:=Jo
 rcases hk4 with e|e
 all_goals subst e
 ·simp only[k0]
  refine V.r1 jiP c0 ?_
  exact⟨1,Jo,Jo,V.wk⟩
 ·simp only[k1]
  refine V.r0 @jjC ?_
  exact Fin.of rfl
theorem sum3 (P S:Nat→Tx)(h0:S 0=P 0)(c0:Cl 105 [Jt (S 0),Jt (P 1)] (.tup [Jt (S 1),Ji 0]))(c1:Cl 105 [Jt (S 1),Jt (P 2)] (.tup [Jt (S 2),Ji 0])) :
  Cl 89 [V.sl2 3 [.str (P 0).1,.str (P 0).2,.str (P 1).1,.str (P 1).2,.str (P 2).1,.str (P 2).2]] (.tup [Jt (S 2),Ji 0]):=by
 have h1:(S 0).1=(P 0).1∧(S 0).2=(P 0).2:=by rw[h0];exact⟨rfl,rfl⟩
 refine V.en tbOk Tryz.func89 ?_
 refine V.r0 jiP ?_
 refine jad (0) (fun k=>k≤2) (fun k=>2-k) (fun k=>[(14,Ji k)]) (fun k=>[(4,.box [.str (S k).1,.str (S k).2])]) ?_ ?_ ?_
 ·rw[h1.1,h1.2]
  exact V.wk
 ·exact jjx _
 intro k hk
 have hk4:k=0∨k=1∨k=2:=Jo
 rcases hk4 with e|e|e
 all_goals subst e
 ·simp only[k0]
  refine V.r1 jiP c0 ?_
  exact⟨1,Jo,Jo,V.wk⟩
 ·simp only[k1]
  refine V.r1 jiP c1 ?_
  exact⟨2,Jo,Jo,V.wk⟩
 ·simp only[k2]
  refine V.r0 @jjC ?_
  exact Fin.of rfl
theorem sum4 (P S:Nat→Tx)(h0:S 0=P 0)(c0:Cl 105 [Jt (S 0),Jt (P 1)] (.tup [Jt (S 1),Ji 0]))(c1:Cl 105 [Jt (S 1),Jt (P 2)] (.tup [Jt (S 2),Ji 0]))(c2:Cl 105 [Jt (S 2),Jt (P 3)] (.tup [Jt (S 3),Ji 0])) :
  Cl 89 [V.sl2 4 [.str (P 0).1,.str (P 0).2,.str (P 1).1,.str (P 1).2,.str (P 2).1,.str (P 2).2,.str (P 3).1,.str (P 3).2]] (.tup [Jt (S 3),Ji 0]):=by
 have h1:(S 0).1=(P 0).1∧(S 0).2=(P 0).2:=by rw[h0];exact⟨rfl,rfl⟩
 refine V.en tbOk Tryz.func89 ?_
 refine V.r0 jiP ?_
 refine jad (0) (fun k=>k≤3) (fun k=>3-k) (fun k=>[(14,Ji k)]) (fun k=>[(4,.box [.str (S k).1,.str (S k).2])]) ?_ ?_ ?_
 ·rw[h1.1,h1.2]
  exact V.wk
 ·exact jjx _
 intro k hk
 have hk4:k=0∨k=1∨k=2∨k=3:=Jo
 rcases hk4 with e|e|e|e
 all_goals subst e
 ·simp only[k0]
  refine V.r1 jiP c0 ?_
  exact⟨1,Jo,Jo,V.wk⟩
 ·simp only[k1]
  refine V.r1 jiP c1 ?_
  exact⟨2,Jo,Jo,V.wk⟩
 ·simp only[k2]
  refine V.r1 jiP c2 ?_
  exact⟨3,Jo,Jo,V.wk⟩
 ·simp only[k3]
  refine V.r0 @jjC ?_
  exact Fin.of rfl
theorem jjl:type_of% @jjF∧type_of% @jjC∧type_of% @tn0∧type_of% @tn1∧type_of% @tn2∧type_of% @tn3∧type_of% @xt4:=⟨@jjF,@jjC,@tn0,@tn1,@tn2,@tn3,@xt4⟩
theorem prod2_0 (W M:Nat→Tx)(U:Nat→List Int)(out:Nat)(g0 g1:List UInt8)(hl:out<(U 0).length)(ig:Cl 88 [Ji ((U 0).getD out 0)] (.agg [.str g0,.str g1]))
  (mu:Cl 87 [Jt (W 0),.agg [.str g0,.str g1]] (.tup [Jt (M 0),Ji 0])) :
  Cl 86 [Ji 0,.ref [V.sl2 2 [.str (W 0).1,.str (W 0).2,.str (W 1).1,.str (W 1).2]],.ref [.slf 1 2 (fun j=>List.take 1 (List.drop (j*1) [Jj (U 0),Jj (U 1)]))],.ref [Ji out]] (.tup [Jt (M 0),Ji 0]):=by
 have hi:(out:Int)<(U 0).length:=Jo
 refine V.en tbOk Tryz.func86 ?_
 refine V.r0 jiP ?_
 refine⟨Pq19z,[],V.pok,?_⟩
 refine jab [(6,Ji 0)] [(5,.box [.str (M 0).1,.str (M 0).2])] ?_ ?_
 ·exact V.d2 jjl ig mu
 refine V.r0 @jjC ?_
 exact Fin.of rfl
theorem prod2_1 (W M:Nat→Tx)(U:Nat→List Int)(out:Nat)(g0 g1:List UInt8)(hl:out<(U 1).length)(ig:Cl 88 [Ji ((U 1).getD out 0)] (.agg [.str g0,.str g1]))
  (mu:Cl 87 [Jt (W 1),.agg [.str g0,.str g1]] (.tup [Jt (M 1),Ji 0])) :
  Cl 86 [Ji 1,.ref [V.sl2 2 [.str (W 0).1,.str (W 0).2,.str (W 1).1,.str (W 1).2]],.ref [.slf 1 2 (fun j=>List.take 1 (List.drop (j*1) [Jj (U 0),Jj (U 1)]))],.ref [Ji out]] (.tup [Jt (M 1),Ji 0]):=by
 have hi:(out:Int)<(U 1).length:=Jo
 refine V.en tbOk Tryz.func86 ?_
 refine V.r0 jiP ?_
 refine⟨Pq19z,[],V.pok,?_⟩
 refine jab [(6,Ji 0)] [(5,.box [.str (M 1).1,.str (M 1).2])] ?_ ?_
 ·exact V.d2 jjl ig mu
 refine V.r0 @jjC ?_
 exact Fin.of rfl
theorem prod3_0 (W M:Nat→Tx)(U:Nat→List Int)(out:Nat)(g0 g1:List UInt8)(hl:out<(U 0).length)(ig:Cl 88 [Ji ((U 0).getD out 0)] (.agg [.str g0,.str g1]))
  (mu:Cl 87 [Jt (W 0),.agg [.str g0,.str g1]] (.tup [Jt (M 0),Ji 0])) :
  Cl 86 [Ji 0,.ref [V.sl2 3 [.str (W 0).1,.str (W 0).2,.str (W 1).1,.str (W 1).2,.str (W 2).1,.str (W 2).2]],.ref [.slf 1 3 (fun j=>List.take 1 (List.drop (j*1) [Jj (U 0),Jj (U 1),Jj (U 2)]))],.ref [Ji out]] (.tup [Jt (M 0),Ji 0]):=by
 have hi:(out:Int)<(U 0).length:=Jo
 refine V.en tbOk Tryz.func86 ?_
 refine V.r0 jiP ?_
 refine⟨Pq19z,[],V.pok,?_⟩
 refine jab [(6,Ji 0)] [(5,.box [.str (M 0).1,.str (M 0).2])] ?_ ?_
 ·exact V.d2 jjl ig mu
 refine V.r0 @jjC ?_
 exact Fin.of rfl
theorem prod3_1 (W M:Nat→Tx)(U:Nat→List Int)(out:Nat)(g0 g1:List UInt8)(hl:out<(U 1).length)(ig:Cl 88 [Ji ((U 1).getD out 0)] (.agg [.str g0,.str g1]))
  (mu:Cl 87 [Jt (W 1),.agg [.str g0,.str g1]] (.tup [Jt (M 1),Ji 0])) :
  Cl 86 [Ji 1,.ref [V.sl2 3 [.str (W 0).1,.str (W 0).2,.str (W 1).1,.str (W 1).2,.str (W 2).1,.str (W 2).2]],.ref [.slf 1 3 (fun j=>List.take 1 (List.drop (j*1) [Jj (U 0),Jj (U 1),Jj (U 2)]))],.ref [Ji out]] (.tup [Jt (M 1),Ji 0]):=by
 have hi:(out:Int)<(U 1).length:=Jo
 refine V.en tbOk Tryz.func86 ?_
 refine V.r0 jiP ?_
 refine⟨Pq19z,[],V.pok,?_⟩
 refine jab [(6,Ji 0)] [(5,.box [.str (M 1).1,.str (M 1).2])] ?_ ?_
 ·exact V.d2 jjl ig mu
 refine V.r0 @jjC ?_
 exact Fin.of rfl
theorem prod3_2 (W M:Nat→Tx)(U:Nat→List Int)(out:Nat)(g0 g1:List UInt8)(hl:out<(U 2).length)(ig:Cl 88 [Ji ((U 2).getD out 0)] (.agg [.str g0,.str g1]))
  (mu:Cl 87 [Jt (W 2),.agg [.str g0,.str g1]] (.tup [Jt (M 2),Ji 0])) :
  Cl 86 [Ji 2,.ref [V.sl2 3 [.str (W 0).1,.str (W 0).2,.str (W 1).1,.str (W 1).2,.str (W 2).1,.str (W 2).2]],.ref [.slf 1 3 (fun j=>List.take 1 (List.drop (j*1) [Jj (U 0),Jj (U 1),Jj (U 2)]))],.ref [Ji out]] (.tup [Jt (M 2),Ji 0]):=by
 have hi:(out:Int)<(U 2).length:=Jo
 refine V.en tbOk Tryz.func86 ?_
 refine V.r0 jiP ?_
 refine⟨Pq19z,[],V.pok,?_⟩
 refine jab [(6,Ji 0)] [(5,.box [.str (M 2).1,.str (M 2).2])] ?_ ?_
 ·exact V.d2 jjl ig mu
 refine V.r0 @jjC ?_
 exact Fin.of rfl
theorem prod4_0 (W M:Nat→Tx)(U:Nat→List Int)(out:Nat)(g0 g1:List UInt8)(hl:out<(U 0).length)(ig:Cl 88 [Ji ((U 0).getD out 0)] (.agg [.str g0,.str g1]))
  (mu:Cl 87 [Jt (W 0),.agg [.str g0,.str g1]] (.tup [Jt (M 0),Ji 0])) :
  Cl 86 [Ji 0,.ref [V.sl2 4 [.str (W 0).1,.str (W 0).2,.str (W 1).1,.str (W 1).2,.str (W 2).1,.str (W 2).2,.str (W 3).1,.str (W 3).2]],.ref [.slf 1 4 (fun j=>List.take 1 (List.drop (j*1) [Jj (U 0),Jj (U 1),Jj (U 2),Jj (U 3)]))],.ref [Ji out]] (.tup [Jt (M 0),Ji 0]):=by
 have hi:(out:Int)<(U 0).length:=Jo
 refine V.en tbOk Tryz.func86 ?_
 refine V.r0 jiP ?_
 refine⟨Pq19z,[],V.pok,?_⟩
 refine jab [(6,Ji 0)] [(5,.box [.str (M 0).1,.str (M 0).2])] ?_ ?_
 ·exact V.d2 jjl ig mu
 refine V.r0 @jjC ?_
 exact Fin.of rfl
theorem prod4_1 (W M:Nat→Tx)(U:Nat→List Int)(out:Nat)(g0 g1:List UInt8)(hl:out<(U 1).length)(ig:Cl 88 [Ji ((U 1).getD out 0)] (.agg [.str g0,.str g1]))
  (mu:Cl 87 [Jt (W 1),.agg [.str g0,.str g1]] (.tup [Jt (M 1),Ji 0])) :
  Cl 86 [Ji 1,.ref [V.sl2 4 [.str (W 0).1,.str (W 0).2,.str (W 1).1,.str (W 1).2,.str (W 2).1,.str (W 2).2,.str (W 3).1,.str (W 3).2]],.ref [.slf 1 4 (fun j=>List.take 1 (List.drop (j*1) [Jj (U 0),Jj (U 1),Jj (U 2),Jj (U 3)]))],.ref [Ji out]] (.tup [Jt (M 1),Ji 0]):=by
 have hi:(out:Int)<(U 1).length:=Jo
 refine V.en tbOk Tryz.func86 ?_
 refine V.r0 jiP ?_
 refine⟨Pq19z,[],V.pok,?_⟩
 refine jab [(6,Ji 0)] [(5,.box [.str (M 1).1,.str (M 1).2])] ?_ ?_
 ·exact V.d2 jjl ig mu
 refine V.r0 @jjC ?_
 exact Fin.of rfl
theorem prod4_2 (W M:Nat→Tx)(U:Nat→List Int)(out:Nat)(g0 g1:List UInt8)(hl:out<(U 2).length)(ig:Cl 88 [Ji ((U 2).getD out 0)] (.agg [.str g0,.str g1]))
  (mu:Cl 87 [Jt (W 2),.agg [.str g0,.str g1]] (.tup [Jt (M 2),Ji 0])) :
  Cl 86 [Ji 2,.ref [V.sl2 4 [.str (W 0).1,.str (W 0).2,.str (W 1).1,.str (W 1).2,.str (W 2).1,.str (W 2).2,.str (W 3).1,.str (W 3).2]],.ref [.slf 1 4 (fun j=>List.take 1 (List.drop (j*1) [Jj (U 0),Jj (U 1),Jj (U 2),Jj (U 3)]))],.ref [Ji out]] (.tup [Jt (M 2),Ji 0]):=by
 have hi:(out:Int)<(U 2).length:=Jo
 refine V.en tbOk Tryz.func86 ?_
 refine V.r0 jiP ?_
 refine⟨Pq19z,[],V.pok,?_⟩
 refine jab [(6,Ji 0)] [(5,.box [.str (M 2).1,.str (M 2).2])] ?_ ?_
 ·exact V.d2 jjl ig mu
 refine V.r0 @jjC ?_
 exact Fin.of rfl
theorem prod4_3 (W M:Nat→Tx)(U:Nat→List Int)(out:Nat)(g0 g1:List UInt8)(hl:out<(U 3).length)(ig:Cl 88 [Ji ((U 3).getD out 0)] (.agg [.str g0,.str g1]))
  (mu:Cl 87 [Jt (W 3),.agg [.str g0,.str g1]] (.tup [Jt (M 3),Ji 0])) :
  Cl 86 [Ji 3,.ref [V.sl2 4 [.str (W 0).1,.str (W 0).2,.str (W 1).1,.str (W 1).2,.str (W 2).1,.str (W 2).2,.str (W 3).1,.str (W 3).2]],.ref [.slf 1 4 (fun j=>List.take 1 (List.drop (j*1) [Jj (U 0),Jj (U 1),Jj (U 2),Jj (U 3)]))],.ref [Ji out]] (.tup [Jt (M 3),Ji 0]):=by
 have hi:(out:Int)<(U 3).length:=Jo
 refine V.en tbOk Tryz.func86 ?_
 refine V.r0 jiP ?_
 refine⟨Pq19z,[],V.pok,?_⟩
 refine jab [(6,Ji 0)] [(5,.box [.str (M 3).1,.str (M 3).2])] ?_ ?_
 ·exact V.d2 jjl ig mu
 refine V.r0 @jjC ?_
 exact Fin.of rfl
theorem val1_2 (W M S:Nat→Tx)(U:Nat→List Int)(out:Int)(f0 f1 y0 y1:List UInt8)(li:Cl 84 [Ji 2,.fn 86 [] [.ref [V.sl2 2 [.str (W 0).1,.str (W 0).2,.str (W 1).1,.str (W 1).2]],.ref [.slf 1 2 (fun j=>List.take 1 (List.drop (j*1) [Jj (U 0),Jj (U 1)]))],.ref [Ji out]]] (.tup [V.sl2 2 [.str (M 0).1,.str (M 0).2,.str (M 1).1,.str (M 1).2],Ji 0]))
  (su:Cl 89 [V.sl2 2 [.str (M 0).1,.str (M 0).2,.str (M 1).1,.str (M 1).2]] (.tup [Jt (S 1),Ji 0])) (fu:Cl 88 [Ji 65535] (.agg [.str f0,.str f1])) (dv:Cl 90 [Jt (S 1),.agg [.str f0,.str f1]] (.tup [.agg [.str y0,.str y1],Ji 0])) :
  Cl 85 [Ji out,.ref [.slf 1 2 (fun j=>List.take 1 (List.drop (j*1) [Jj (U 0),Jj (U 1)]))],.ref [V.sl2 2 [.str (W 0).1,.str (W 0).2,.str (W 1).1,.str (W 1).2]]] (.tup [.agg [.str y0,.str y1],Ji 0]):=by
 refine V.en tbOk Tryz.func85 ?_
 refine V.r2 @jjC li su ?_
 refine⟨Pq91z,[],V.pok,?_⟩
 refine jab [(5,Ji 0)] [(4,.box [.str y0,.str y1])] ?_ ?_
 ·exact V.d2 @jjC fu dv
 refine V.r0 @jjC ?_
 exact Fin.of rfl
theorem val1_3 (W M S:Nat→Tx)(U:Nat→List Int)(out:Int)(f0 f1 y0 y1:List UInt8)(li:Cl 84 [Ji 3,.fn 86 [] [.ref [V.sl2 3 [.str (W 0).1,.str (W 0).2,.str (W 1).1,.str (W 1).2,.str (W 2).1,.str (W 2).2]],.ref [.slf 1 3 (fun j=>List.take 1 (List.drop (j*1) [Jj (U 0),Jj (U 1),Jj (U 2)]))],.ref [Ji out]]] (.tup [V.sl2 3 [.str (M 0).1,.str (M 0).2,.str (M 1).1,.str (M 1).2,.str (M 2).1,.str (M 2).2],Ji 0]))
  (su:Cl 89 [V.sl2 3 [.str (M 0).1,.str (M 0).2,.str (M 1).1,.str (M 1).2,.str (M 2).1,.str (M 2).2]] (.tup [Jt (S 2),Ji 0])) (fu:Cl 88 [Ji 65535] (.agg [.str f0,.str f1])) (dv:Cl 90 [Jt (S 2),.agg [.str f0,.str f1]] (.tup [.agg [.str y0,.str y1],Ji 0])) :
  Cl 85 [Ji out,.ref [.slf 1 3 (fun j=>List.take 1 (List.drop (j*1) [Jj (U 0),Jj (U 1),Jj (U 2)]))],.ref [V.sl2 3 [.str (W 0).1,.str (W 0).2,.str (W 1).1,.str (W 1).2,.str (W 2).1,.str (W 2).2]]] (.tup [.agg [.str y0,.str y1],Ji 0]):=by
 refine V.en tbOk Tryz.func85 ?_
 refine V.r2 @jjC li su ?_
 refine⟨Pq91z,[],V.pok,?_⟩
 refine jab [(5,Ji 0)] [(4,.box [.str y0,.str y1])] ?_ ?_
 ·exact V.d2 @jjC fu dv
 refine V.r0 @jjC ?_
 exact Fin.of rfl
theorem val1_4 (W M S:Nat→Tx)(U:Nat→List Int)(out:Int)(f0 f1 y0 y1:List UInt8)(li:Cl 84 [Ji 4,.fn 86 [] [.ref [V.sl2 4 [.str (W 0).1,.str (W 0).2,.str (W 1).1,.str (W 1).2,.str (W 2).1,.str (W 2).2,.str (W 3).1,.str (W 3).2]],.ref [.slf 1 4 (fun j=>List.take 1 (List.drop (j*1) [Jj (U 0),Jj (U 1),Jj (U 2),Jj (U 3)]))],.ref [Ji out]]] (.tup [V.sl2 4 [.str (M 0).1,.str (M 0).2,.str (M 1).1,.str (M 1).2,.str (M 2).1,.str (M 2).2,.str (M 3).1,.str (M 3).2],Ji 0]))
  (su:Cl 89 [V.sl2 4 [.str (M 0).1,.str (M 0).2,.str (M 1).1,.str (M 1).2,.str (M 2).1,.str (M 2).2,.str (M 3).1,.str (M 3).2]] (.tup [Jt (S 3),Ji 0])) (fu:Cl 88 [Ji 65535] (.agg [.str f0,.str f1])) (dv:Cl 90 [Jt (S 3),.agg [.str f0,.str f1]] (.tup [.agg [.str y0,.str y1],Ji 0])) :
  Cl 85 [Ji out,.ref [.slf 1 4 (fun j=>List.take 1 (List.drop (j*1) [Jj (U 0),Jj (U 1),Jj (U 2),Jj (U 3)]))],.ref [V.sl2 4 [.str (W 0).1,.str (W 0).2,.str (W 1).1,.str (W 1).2,.str (W 2).1,.str (W 2).2,.str (W 3).1,.str (W 3).2]]] (.tup [.agg [.str y0,.str y1],Ji 0]):=by
 refine V.en tbOk Tryz.func85 ?_
 refine V.r2 @jjC li su ?_
 refine⟨Pq91z,[],V.pok,?_⟩
 refine jab [(5,Ji 0)] [(4,.box [.str y0,.str y1])] ?_ ?_
 ·exact V.d2 @jjC fu dv
 refine V.r0 @jjC ?_
 exact Fin.of rfl
theorem xd1:((1:Int)-1).toNat=0:=rfl
theorem xd2:((2:Int)-1).toNat=1:=rfl
theorem xd3:((3:Int)-1).toNat=2:=rfl
def atK (a:List Int)(xs:List Int):Nat→List Int
 | 0=>a
 | k+1=>(atK a xs k).set (xs.getD k 0).toNat ((atK a xs k).getD (xs.getD k 0).toNat 0+1)
theorem jbe (a xs:List Int):∀ k,a.length=4→(atK a xs k).length=4
 | 0,h=>h
 | k+1,h=>by simp only[atK];rw[jkw];exact jbe a xs k h
def atS (a xs:List Int):Nat→List Int
 | 0=>a
 | k+1=>atK a xs k
def wcv:Nat→D
 | 0 => .nil
 | k+1 => .bsl 109 0 (k+1) 2
def pcv:Nat→D
 | 0 => .nil
 | k+1 => .bsl 113 0 (k+1) 1
def pce (U:Nat→List Int):Nat→List D
 | 0=>[]
 | k+1=>pce U k++[Jj (U k)]
def tlv (W:Nat→Tx)(U:Nat→List Int):Nat→Hp
 | 0=>[]
 | k+1=>[(109,.box (wce W (k+1))),(113,.box (pce U (k+1)))]
theorem point1_t (z0 b0 out:Int)(data xs at' v:List Int)(W:Nat→Tx)(hl:at'.length=4)(ga:Cl 140 [.agg [Jj [z0],Ji out,Jj data],Jj (at'.take 1)] (.tup [Jj v,Ji 0])) :
  Cl 82 [.agg [Jj [z0],Ji out,Jj data,Jj [b0],Jj xs,V.sl2 2 [.str (W 0).1,.str (W 0).2,.str (W 1).1,.str (W 1).2]],.iarr .i64 at'] (.tup [Jj v,Ji 0]):=by
 obtain⟨a0,a1,a2,a3,rfl⟩:∃ a0 a1 a2 a3:Int,at'=[a0,a1,a2,a3]:=by
  match at',hl with
  | [a0,a1,a2,a3],_=>exact⟨a0,a1,a2,a3,rfl⟩
 refine V.en tbOk Tryz.func82 ?_
 refine V.r0 @jjC ?_
 refine⟨Pq35z,[],V.pok,?_⟩
 refine jab [(3,.any),(4,Jj v),(5,Ji 0)] [(3,.gone)] ?_ ?_
 ·exact V.d1 @jjC ga
 refine V.r0 @jjC ?_
 exact Fin.of rfl
theorem corners1_t (z0 b0 out:Int)(data xs:List Int)(W:Nat→Tx):Cl 83 [.agg [Jj [z0],Ji out,Jj data,Jj [b0],Jj xs,V.sl2 2 [.str (W 0).1,.str (W 0).2,.str (W 1).1,.str (W 1).2]]] (.fn 141 [] [.ref [Jj [z0],Ji out,Jj data,Jj [b0],Jj xs,V.sl2 2 [.str (W 0).1,.str (W 0).2,.str (W 1).1,.str (W 1).2]]]):=by
 refine V.en tbOk Tryz.func83 ?_
 refine V.r0 @jjC ?_
 exact Fin.of rfl
theorem jjk:type_of% @jjC∧type_of% @tn0∧type_of% @tn1∧type_of% @tn2∧type_of% @tn3∧type_of% @xd1∧type_of% @xd2∧type_of% @xd3∧type_of% @xt4:=⟨@jjC,@tn0,@tn1,@tn2,@tn3,@xd1,@xd2,@xd3,@xt4⟩
theorem value1_t (z0 b0 out:Int)(data xs:List Int)(W:Nat→Tx)(U:Nat→List Int)(Y:Nat→List D)(e0:Nat)(hl:xs.length=1)(hx:∀ k,k<1→0≤xs.getD k 0∧xs.getD k 0<4)(hi:∀ k,k<1→InR .i64 ((atK [b0,0,0,0] xs k).getD (xs.getD k 0).toNat 0+1))
  (pt:∀ k,k<2→Cl 82 [.agg [Jj [z0],Ji out,Jj data,Jj [b0],Jj xs,V.sl2 2 [.str (W 0).1,.str (W 0).2,.str (W 1).1,.str (W 1).2]],.iarr .i64 (atK [b0,0,0,0] xs k)] (.tup [Jj (U k),Ji 0]))
  (li:Cl 84 [Ji out,.fn 85 [] [.ref [.slf 1 2 (fun j=>List.take 1 (List.drop (j*1) [Jj (U 0),Jj (U 1)]))],.ref [V.sl2 2 [.str (W 0).1,.str (W 0).2,.str (W 1).1,.str (W 1).2]]]] (.tup [.slf 2 e0 Y,Ji 0])) :
  Cl 43 [.agg [Jj [z0],Ji out,Jj data,Jj [b0],Jj xs,V.sl2 2 [.str (W 0).1,.str (W 0).2,.str (W 1).1,.str (W 1).2]]] (.tup [.slf 2 e0 Y,Ji 0]):=by
 have co:=corners1_t z0 b0 out data xs W
 refine V.en tbOk Tryz.func43 ?_
 refine V.r1 @jjC co ?_
 refine⟨_,_,⟨Tryz.func141,rfl,rfl,jjw rfl⟩,?_⟩
 refine V.r0 @jjC ?_
 refine⟨(V.tk [0,1,2] (V.e1 3 [] .done)),[],V.pok,?_⟩
 refine jab [] [(47,.arr .i64 [b0,0,0,0])] ?_ ?_
 ·exact V.d0 @jjC
 refine V.r0 @jjC ?_
 refine jad 0 (fun k=>k≤2) (fun k=>2-k) (fun k=>[(13,Ji k)]) (fun k=>(43,.lp none)::(47,.arr .i64 (atS [b0,0,0,0] xs k))::(5,.box [wcv k])::(6,.box [pcv k])::(7,.box [Ji 0])::tlv W U k) ?_ ?_ ?_
 ·exact V.wk
 ·exact jjx _
 intro k hk
 have hk4:k=0∨k=1∨k=2:=Jo
 rcases hk4 with e|e|e
 all_goals subst e
 ·simp only[k0,atS,wcv,pcv,tlv]
  have p:=pt 0 Jo
  simp only[atK] at p
  refine V.r1 jjk p ?_
  exact⟨1,Jo,Jo,V.wk⟩
 ·simp only[k1,atS,wcv,pcv,tlv]
  have p:=pt 1 Jo
  have g:=hx 0 Jo
  have h:=hi 0 Jo
  have l4:=jbe [b0,0,0,0] xs 0 rfl
  have l5:=jbe [b0,0,0,0] xs 1 rfl
  simp only[atK] at p h l4 l5 ⊢
  refine V.r1 jjk p ?_
  exact⟨2,Jo,Jo,V.wk⟩
 ·simp only[k2,atS,wcv,pcv,tlv]
  (conv=>whnf)
  repeat ((fail_if_success (with_reducible refine Cnd.split ?_));refine V.s1 ?_;(try simp only[jjC]))
  refine V.s1 ?_
  (conv=>whnf)
  repeat ((fail_if_success (with_reducible refine Cnd.split ?_));refine V.s1 ?_;(try simp only[jjC]))
  refine ja5 [(5,.ref [V.sl2 2 [.str (W 0).1,.str (W 0).2,.str (W 1).1,.str (W 1).2]]),(6,.ref [.slf 1 2 (fun j=>List.take 1 (List.drop (j*1) [Jj (U 0),Jj (U 1)]))])] [(5,.gone),(6,.gone),(109,.gone),(113,.gone)] (CondB.mk (fun h=>absurd h Jd) (fun _=>?_)) ?_
  ·(conv=>whnf)
   refine Wk.pub 109 ?_
   (conv=>whnf)
   refine Wk.pub 113 ?_
   (conv=>whnf)
   refine Wk.pub 5 ?_
   (conv=>whnf)
   refine Wk.pub 6 ?_
   (conv=>whnf)
   simp only[jjC]
   exact V.wk
  refine V.r1 @jjC li ?_
  exact Fin.of rfl
theorem point2_t (z0 z1 b0 b1 out:Int)(data xs at' v:List Int)(W:Nat→Tx)(hl:at'.length=4)(ga:Cl 140 [.agg [Jj [z0,z1],Ji out,Jj data],Jj (at'.take 2)] (.tup [Jj v,Ji 0])) :
  Cl 82 [.agg [Jj [z0,z1],Ji out,Jj data,Jj [b0,b1],Jj xs,V.sl2 3 [.str (W 0).1,.str (W 0).2,.str (W 1).1,.str (W 1).2,.str (W 2).1,.str (W 2).2]],.iarr .i64 at'] (.tup [Jj v,Ji 0]):=by
 obtain⟨a0,a1,a2,a3,rfl⟩:∃ a0 a1 a2 a3:Int,at'=[a0,a1,a2,a3]:=by
  match at',hl with
  | [a0,a1,a2,a3],_=>exact⟨a0,a1,a2,a3,rfl⟩
 refine V.en tbOk Tryz.func82 ?_
 refine V.r0 @jjC ?_
 refine⟨Pq35z,[],V.pok,?_⟩
 refine jab [(3,.any),(4,Jj v),(5,Ji 0)] [(3,.gone)] ?_ ?_
 ·exact V.d1 @jjC ga
 refine V.r0 @jjC ?_
 exact Fin.of rfl
theorem corners2_t (z0 z1 b0 b1 out:Int)(data xs:List Int)(W:Nat→Tx):Cl 83 [.agg [Jj [z0,z1],Ji out,Jj data,Jj [b0,b1],Jj xs,V.sl2 3 [.str (W 0).1,.str (W 0).2,.str (W 1).1,.str (W 1).2,.str (W 2).1,.str (W 2).2]]] (.fn 141 [] [.ref [Jj [z0,z1],Ji out,Jj data,Jj [b0,b1],Jj xs,V.sl2 3 [.str (W 0).1,.str (W 0).2,.str (W 1).1,.str (W 1).2,.str (W 2).1,.str (W 2).2]]]):=by
 refine V.en tbOk Tryz.func83 ?_
 refine V.r0 @jjC ?_
 exact Fin.of rfl
theorem value2_t (z0 z1 b0 b1 out:Int)(data xs:List Int)(W:Nat→Tx)(U:Nat→List Int)(Y:Nat→List D)(e0:Nat)(hl:xs.length=2)(hx:∀ k,k<2→0≤xs.getD k 0∧xs.getD k 0<4)(hi:∀ k,k<2→InR .i64 ((atK [b0,b1,0,0] xs k).getD (xs.getD k 0).toNat 0+1))
  (pt:∀ k,k<3→Cl 82 [.agg [Jj [z0,z1],Ji out,Jj data,Jj [b0,b1],Jj xs,V.sl2 3 [.str (W 0).1,.str (W 0).2,.str (W 1).1,.str (W 1).2,.str (W 2).1,.str (W 2).2]],.iarr .i64 (atK [b0,b1,0,0] xs k)] (.tup [Jj (U k),Ji 0]))
  (li:Cl 84 [Ji out,.fn 85 [] [.ref [.slf 1 3 (fun j=>List.take 1 (List.drop (j*1) [Jj (U 0),Jj (U 1),Jj (U 2)]))],.ref [V.sl2 3 [.str (W 0).1,.str (W 0).2,.str (W 1).1,.str (W 1).2,.str (W 2).1,.str (W 2).2]]]] (.tup [.slf 2 e0 Y,Ji 0])) :
  Cl 43 [.agg [Jj [z0,z1],Ji out,Jj data,Jj [b0,b1],Jj xs,V.sl2 3 [.str (W 0).1,.str (W 0).2,.str (W 1).1,.str (W 1).2,.str (W 2).1,.str (W 2).2]]] (.tup [.slf 2 e0 Y,Ji 0]):=by
 have co:=corners2_t z0 z1 b0 b1 out data xs W
 refine V.en tbOk Tryz.func43 ?_
 refine V.r1 @jjC co ?_
 refine⟨_,_,⟨Tryz.func141,rfl,rfl,jjw rfl⟩,?_⟩
 refine V.r0 @jjC ?_
 refine⟨(V.tk [0,1,2] (V.e1 3 [] .done)),[],V.pok,?_⟩
 refine jab [] [(47,.arr .i64 [b0,b1,0,0])] ?_ ?_
 ·exact V.d0 @jjC
 refine V.r0 @jjC ?_
 refine jad 0 (fun k=>k≤3) (fun k=>3-k) (fun k=>[(13,Ji k)]) (fun k=>(43,.lp none)::(47,.arr .i64 (atS [b0,b1,0,0] xs k))::(5,.box [wcv k])::(6,.box [pcv k])::(7,.box [Ji 0])::tlv W U k) ?_ ?_ ?_
 ·exact V.wk
 ·exact jjx _
 intro k hk
 have hk4:k=0∨k=1∨k=2∨k=3:=Jo
 rcases hk4 with e|e|e|e
 all_goals subst e
 ·simp only[k0,atS,wcv,pcv,tlv]
  have p:=pt 0 Jo
  simp only[atK] at p
  refine V.r1 jjk p ?_
  exact⟨1,Jo,Jo,V.wk⟩
 ·simp only[k1,atS,wcv,pcv,tlv]
  have p:=pt 1 Jo
  have g:=hx 0 Jo
  have h:=hi 0 Jo
  have l4:=jbe [b0,b1,0,0] xs 0 rfl
  have l5:=jbe [b0,b1,0,0] xs 1 rfl
  simp only[atK] at p h l4 l5 ⊢
  refine V.r1 jjk p ?_
  exact⟨2,Jo,Jo,V.wk⟩
 ·simp only[k2,atS,wcv,pcv,tlv]
  have p:=pt 2 Jo
  have g:=hx 1 Jo
  have h:=hi 1 Jo
  have l4:=jbe [b0,b1,0,0] xs 1 rfl
  have l5:=jbe [b0,b1,0,0] xs 2 rfl
  simp only[atK] at p h l4 l5 ⊢
  refine V.r1 jjk p ?_
  exact⟨3,Jo,Jo,V.wk⟩
 ·simp only[k3,atS,wcv,pcv,tlv]
  (conv=>whnf)
  repeat ((fail_if_success (with_reducible refine Cnd.split ?_));refine V.s1 ?_;(try simp only[jjC]))
  refine V.s1 ?_
  (conv=>whnf)
  repeat ((fail_if_success (with_reducible refine Cnd.split ?_));refine V.s1 ?_;(try simp only[jjC]))
  refine ja5 [(5,.ref [V.sl2 3 [.str (W 0).1,.str (W 0).2,.str (W 1).1,.str (W 1).2,.str (W 2).1,.str (W 2).2]]),(6,.ref [.slf 1 3 (fun j=>List.take 1 (List.drop (j*1) [Jj (U 0),Jj (U 1),Jj (U 2)]))])] [(5,.gone),(6,.gone),(109,.gone),(113,.gone)] (CondB.mk (fun h=>absurd h Jd) (fun _=>?_)) ?_
  ·(conv=>whnf)
   refine Wk.pub 109 ?_
   (conv=>whnf)
   refine Wk.pub 113 ?_
   (conv=>whnf)
   refine Wk.pub 5 ?_
   (conv=>whnf)
   refine Wk.pub 6 ?_
   (conv=>whnf)
   simp only[jjC]
   exact V.wk
  refine V.r1 @jjC li ?_
  exact Fin.of rfl
theorem point3_t (z0 z1 z2 b0 b1 b2 out:Int)(data xs at' v:List Int)(W:Nat→Tx)(hl:at'.length=4)(ga:Cl 140 [.agg [Jj [z0,z1,z2],Ji out,Jj data],Jj (at'.take 3)] (.tup [Jj v,Ji 0])) :
  Cl 82 [.agg [Jj [z0,z1,z2],Ji out,Jj data,Jj [b0,b1,b2],Jj xs,V.sl2 4 [.str (W 0).1,.str (W 0).2,.str (W 1).1,.str (W 1).2,.str (W 2).1,.str (W 2).2,.str (W 3).1,.str (W 3).2]],.iarr .i64 at'] (.tup [Jj v,Ji 0]):=by
 obtain⟨a0,a1,a2,a3,rfl⟩:∃ a0 a1 a2 a3:Int,at'=[a0,a1,a2,a3]:=by
  match at',hl with
  | [a0,a1,a2,a3],_=>exact⟨a0,a1,a2,a3,rfl⟩
 refine V.en tbOk Tryz.func82 ?_
 refine V.r0 @jjC ?_
 refine⟨Pq35z,[],V.pok,?_⟩
 refine jab [(3,.any),(4,Jj v),(5,Ji 0)] [(3,.gone)] ?_ ?_
 ·exact V.d1 @jjC ga
 refine V.r0 @jjC ?_
 exact Fin.of rfl
theorem corners3_t (z0 z1 z2 b0 b1 b2 out:Int)(data xs:List Int)(W:Nat→Tx):Cl 83 [.agg [Jj [z0,z1,z2],Ji out,Jj data,Jj [b0,b1,b2],Jj xs,V.sl2 4 [.str (W 0).1,.str (W 0).2,.str (W 1).1,.str (W 1).2,.str (W 2).1,.str (W 2).2,.str (W 3).1,.str (W 3).2]]] (.fn 141 [] [.ref [Jj [z0,z1,z2],Ji out,Jj data,Jj [b0,b1,b2],Jj xs,V.sl2 4 [.str (W 0).1,.str (W 0).2,.str (W 1).1,.str (W 1).2,.str (W 2).1,.str (W 2).2,.str (W 3).1,.str (W 3).2]]]):=by
 refine V.en tbOk Tryz.func83 ?_
 refine V.r0 @jjC ?_
 exact Fin.of rfl
theorem value3_t (z0 z1 z2 b0 b1 b2 out:Int)(data xs:List Int)(W:Nat→Tx)(U:Nat→List Int)(Y:Nat→List D)(e0:Nat)(hl:xs.length=3)(hx:∀ k,k<3→0≤xs.getD k 0∧xs.getD k 0<4)(hi:∀ k,k<3→InR .i64 ((atK [b0,b1,b2,0] xs k).getD (xs.getD k 0).toNat 0+1))
  (pt:∀ k,k<4→Cl 82 [.agg [Jj [z0,z1,z2],Ji out,Jj data,Jj [b0,b1,b2],Jj xs,V.sl2 4 [.str (W 0).1,.str (W 0).2,.str (W 1).1,.str (W 1).2,.str (W 2).1,.str (W 2).2,.str (W 3).1,.str (W 3).2]],.iarr .i64 (atK [b0,b1,b2,0] xs k)] (.tup [Jj (U k),Ji 0]))
  (li:Cl 84 [Ji out,.fn 85 [] [.ref [.slf 1 4 (fun j=>List.take 1 (List.drop (j*1) [Jj (U 0),Jj (U 1),Jj (U 2),Jj (U 3)]))],.ref [V.sl2 4 [.str (W 0).1,.str (W 0).2,.str (W 1).1,.str (W 1).2,.str (W 2).1,.str (W 2).2,.str (W 3).1,.str (W 3).2]]]] (.tup [.slf 2 e0 Y,Ji 0])) :
  Cl 43 [.agg [Jj [z0,z1,z2],Ji out,Jj data,Jj [b0,b1,b2],Jj xs,V.sl2 4 [.str (W 0).1,.str (W 0).2,.str (W 1).1,.str (W 1).2,.str (W 2).1,.str (W 2).2,.str (W 3).1,.str (W 3).2]]] (.tup [.slf 2 e0 Y,Ji 0]):=by
 have co:=corners3_t z0 z1 z2 b0 b1 b2 out data xs W
 refine V.en tbOk Tryz.func43 ?_
 refine V.r1 @jjC co ?_
 refine⟨_,_,⟨Tryz.func141,rfl,rfl,jjw rfl⟩,?_⟩
 refine V.r0 @jjC ?_
 refine⟨(V.tk [0,1,2] (V.e1 3 [] .done)),[],V.pok,?_⟩
 refine jab [] [(47,.arr .i64 [b0,b1,b2,0])] ?_ ?_
 ·exact V.d0 @jjC
 refine V.r0 @jjC ?_
 refine jad 0 (fun k=>k≤4) (fun k=>4-k) (fun k=>[(13,Ji k)]) (fun k=>(43,.lp none)::(47,.arr .i64 (atS [b0,b1,b2,0] xs k))::(5,.box [wcv k])::(6,.box [pcv k])::(7,.box [Ji 0])::tlv W U k) ?_ ?_ ?_
 ·exact V.wk
 ·exact jjx _
 intro k hk
 have hk4:k=0∨k=1∨k=2∨k=3∨k=4:=Jo
 rcases hk4 with e|e|e|e|e
 all_goals subst e
 ·simp only[k0,atS,wcv,pcv,tlv]
  have p:=pt 0 Jo
  simp only[atK] at p
  refine V.r1 jjk p ?_
  exact⟨1,Jo,Jo,V.wk⟩
 ·simp only[k1,atS,wcv,pcv,tlv]
  have p:=pt 1 Jo
  have g:=hx 0 Jo
  have h:=hi 0 Jo
  have l4:=jbe [b0,b1,b2,0] xs 0 rfl
  have l5:=jbe [b0,b1,b2,0] xs 1 rfl
  simp only[atK] at p h l4 l5 ⊢
  refine V.r1 jjk p ?_
  exact⟨2,Jo,Jo,V.wk⟩
 ·simp only[k2,atS,wcv,pcv,tlv]
  have p:=pt 2 Jo
  have g:=hx 1 Jo
  have h:=hi 1 Jo
  have l4:=jbe [b0,b1,b2,0] xs 1 rfl
  have l5:=jbe [b0,b1,b2,0] xs 2 rfl
  simp only[atK] at p h l4 l5 ⊢
  refine V.r1 jjk p ?_
  exact⟨3,Jo,Jo,V.wk⟩
 ·simp only[k3,atS,wcv,pcv,tlv]
  have p:=pt 3 Jo
  have g:=hx 2 Jo
  have h:=hi 2 Jo
  have l4:=jbe [b0,b1,b2,0] xs 2 rfl
  have l5:=jbe [b0,b1,b2,0] xs 3 rfl
  simp only[atK] at p h l4 l5 ⊢
  refine V.r1 jjk p ?_
  exact⟨4,Jo,Jo,V.wk⟩
 ·simp only[xk4,atS,wcv,pcv,tlv]
  (conv=>whnf)
  repeat ((fail_if_success (with_reducible refine Cnd.split ?_));refine V.s1 ?_;(try simp only[jjC]))
  refine V.s1 ?_
  (conv=>whnf)
  repeat ((fail_if_success (with_reducible refine Cnd.split ?_));refine V.s1 ?_;(try simp only[jjC]))
  refine ja5 [(5,.ref [V.sl2 4 [.str (W 0).1,.str (W 0).2,.str (W 1).1,.str (W 1).2,.str (W 2).1,.str (W 2).2,.str (W 3).1,.str (W 3).2]]),(6,.ref [.slf 1 4 (fun j=>List.take 1 (List.drop (j*1) [Jj (U 0),Jj (U 1),Jj (U 2),Jj (U 3)]))])] [(5,.gone),(6,.gone),(109,.gone),(113,.gone)] (CondB.mk (fun h=>absurd h Jd) (fun _=>?_)) ?_
  ·(conv=>whnf)
   refine Wk.pub 109 ?_
   (conv=>whnf)
   refine Wk.pub 113 ?_
   (conv=>whnf)
   refine Wk.pub 5 ?_
   (conv=>whnf)
   refine Wk.pub 6 ?_
   (conv=>whnf)
   simp only[jjC]
   exact V.wk
  refine V.r1 @jjC li ?_
  exact Fin.of rfl
theorem jji:type_of% @jjC∧type_of% @tn0∧type_of% @tn1∧type_of% @tn2∧type_of% @tn3:=⟨@jjC,@tn0,@tn1,@tn2,@tn3⟩
theorem jjd:type_of% @jjF∧type_of% @jjC∧type_of% @tns:=⟨@jjF,@jjC,@tns⟩
theorem jjh:type_of% @jkw ∧ type_of% @jjC:=⟨@jkw,@jjC⟩
theorem find1_t (z0 out b0:Int)(data:List Int)(x0 y0 o0 o1:List UInt8)(R Bf W:Nat→Tx)
  (sp0:Cl 132 [.agg [.str x0,.str y0],Ji z0] (.tup [Ji b0,Jt (R 0),Ji 0]))
  (io:Cl 88 [Ji 1] (.agg [.str o0,.str o1])) (w:Int→Int→Int) (cm:∀ a b:Nat,a<1→b<1→Cl 134 [Ji a,Ji b,.ref [V.sl2 1 [.str (R 0).1,.str (R 0).2]]] (Ji (w a b)))
  (hBf0:Bf 0=(o0,o1)) (hBf:∀ k,k<1→Bf (k+1)=R ((isoK w [0] (1-1)).getD k 0).toNat) (sb:∀ k,k<1→Cl 104 [Jt (Bf k),.agg [.str (R ((isoK w [0] (1-1)).getD k 0).toNat).1,.str (R ((isoK w [0] (1-1)).getD k 0).toNat).2]] (.tup [Jt (W k),Ji 0])) :
  Cl 73 [.agg [Jj [z0],Ji out,Jj data],V.sl2 1 [.str x0,.str y0]] (.tup [.agg [Jj [z0],Ji out,Jj data,Jj [b0],Jj (isoK w [0] (1-1)),V.sl2 2 [.str (W 0).1,.str (W 0).2,.str (Bf 1).1,.str (Bf 1).2]],Ji 0]):=by
  refine V.en tbOk Tryz.func73 ?_
  refine V.r0 @jjC ?_
  refine⟨Pq58z,[],V.pok,?_⟩
  refine jab [(6,.box 6 0),(17,.osl 17 0 1),(20,.osl 20 0 1)] [(6,.box [Jj [z0],Ji out,Jj data,.osl 17 0 1,.osl 20 0 1,.nil]),(17,.arr .i64 [0]),(20,.arr .i64 [0])] ?_ ?_
  ·exact V.d0 @jjC
  refine V.r0 @jjC ?_
  refine V.il Tryz.func84 ?_
  refine V.r0 @jjC ?_
  refine jad (0) (fun k=>k≤1) (fun k=>1-k) (fun k=>[(14,Ji k)]) (fun k=>[(88,.box (preD (2*k) [.str (R 0).1,.str (R 0).2])),(17,.arr .i64 (preZ k [b0])),(20,.arr .i64 (preZ k [0]))]) ?_ ?_ ?_
  ·exact V.wk
  ·exact jjx _
  intro k hk
  have hk4:k=0∨k=1:=Jo
  rcases hk4 with e|e
  all_goals subst e
  ·simp only[k0]
   have q1:(preZ 0 [b0]).length=1:=rfl
   have q2:(preZ 0 [0]).length=1:=rfl
   refine V.r0 jji ?_
   refine V.il Tryz.func131 ?_
   refine V.r0 jji ?_
   refine⟨Pq24z,[],V.pok,?_⟩
   refine jab [(8,.box 118 0),(7,Ji b0),(9,Ji 0)] [(118,.box [.str (R 0).1,.str (R 0).2])] ?_ ?_
   ·exact V.d1 jji sp0
   refine V.r0 jji ?_
   refine⟨Pq26z,[],V.pok,?_⟩
   refine jab [] [(17,.arr .i64 (preZ 1 [b0])),(20,.arr .i64 (preZ 1 [0]))] ?_ ?_
   ·exact V.d0 jji
   refine V.r0 jji ?_
   exact⟨1,Jo,Jo,V.wk⟩
  ·simp only[k1]
   (conv=>whnf)
   repeat ((fail_if_success (with_reducible refine Cnd.split ?_));refine V.s1 ?_;(try simp only[jjC]))
   refine V.s1 ?_
   (conv=>whnf)
   repeat ((fail_if_success (with_reducible refine Cnd.split ?_));refine V.s1 ?_;(try simp only[jjC]))
   refine ja5 [(7,.ref [V.sl2 1 [.str (R 0).1,.str (R 0).2]]),(22,.any),(26,.any),(27,.any)] [(7,.gone),(88,.gone)] (CondB.mk (fun h=>absurd h Jd) (fun _=>?_)) ?_
   ·(conv=>whnf)
    refine Wk.pub 88 ?_
    (conv=>whnf)
    refine Wk.pub 7 ?_
    (conv=>whnf)
    simp only[jjC]
    exact V.wk
   refine V.r0 @jjC ?_
   refine V.il Tryz.func133 ?_
   refine V.r0 @jjC ?_
   refine V.il Tryz.func182 ?_
   refine V.r0 @jjC ?_
   refine jad (0) (fun k=>k=0) (fun k=>k) (fun k=>[(7,Ji 0),(8,Ji 20)]) (fun k=>[]) ?_ ?_ ?_
   ·exact V.wk
   ·rfl
   intro k hk
   refine V.r0 @jjC ?_
   refine V.il Tryz.func216 ?_
   refine V.r0 @jjC ?_
   refine jad (0) (fun k=>k+1≤1) (fun k=>1-k) (fun k=>[(8,Ji ((k+1:Nat):Int))]) (fun k=>[(20,.arr .i64 (isoK w [0] k))]) ?_ ?_ ?_
   ·exact V.wk
   ·omega
   clear hk
   intro k hk
   have hB:=jhe w (n:=1) (xs:=[0]) ⟨rfl,fun i hi=>by
    have:i=0∨i=1∨i=2:=Jo
    rcases this with e|e|e<;>subst e<;>first|decide|omega⟩ k Jo
   refine V.r0 @jjC ?_
   refine V.br (fun hq=>?_) (fun hq=>?_)
   ·have hk2:k+1<1:=by simp at hq;omega
    refine V.r0 @jjC ?_
    refine jad ((k+1,isoK w [0] k):Nat×List Int) (fun s=>s.1≤k+1∧Bel 1 s.2∧insJ w s.1 s.2=isoK w [0] (k+1)) (fun s=>s.1) (fun s=>[(9,Ji s.1)]) (fun s=>[(20,.arr .i64 s.2)]) ?_ ?_ ?_
    ·exact V.wk
    ·exact⟨jjG _,hB,rfl⟩
    rintro⟨j,xs⟩ ⟨h1,h2,h3⟩
    dsimp only at h1 h2 h3 ⊢
    have hl:=h2.1
    refine V.r0 @jjC ?_
    have c1:(decide ((j:Int)>0)=true)→Cl 134 [Ji (xs.getD j 0),Ji (xs.getD (j-1) 0),.ref [V.sl2 1 [.str (R 0).1,.str (R 0).2]]] (Ji (w (xs.getD j 0) (xs.getD (j-1) 0))):=fun h=>by
     have hj:(j:Int)>0:=of_decide_eq_true h
     have g1:=h2.2 j Jo
     have g2:=h2.2 (j-1) Jo
     have c:=cm (xs.getD j 0).toNat (xs.getD (j-1) 0).toNat Jo Jo
     rw[jjE g1.1,jjE g2.1] at c
     exact c
    refine⟨Pq11z,[],V.pok,?_⟩
    refine jab [(34,.bool (decide ((j:Int)>0) && decide (w (xs.getD j 0) (xs.getD (j-1) 0)<0)))] [] ?_ ?_
    ·(conv=>whnf);(try simp only[jjd])
     repeat' (first|exact V.wk|((with_reducible refine And.intro ?_ jaz);(conv=>whnf);(try simp only[jjd]))|((with_reducible first|refine jas ?_ ?_|refine jau ?_ ?_)<;>(conv=>whnf);(try simp only[jjd]))|((first|refine V.s1 ?_|((with_reducible refine jal ?_ ?_);(focus ((conv=>whnf);(try simp only[jjd]);(repeat ((first|refine V.s1 ?_|((refine⟨_,c1,?_⟩);(conv=>whnf)));(try simp only[jjd])));exact⟨rfl⟩));(conv=>whnf))|((try ((with_reducible refine .ext ?_);(conv=>whnf);(try simp only[jjd])));(with_reducible refine jaa (r:=?_) ?_ ?_);rotate_left;(focus (first|fail));(conv=>whnf))|((refine⟨_,c1,?_⟩);(conv=>whnf)));(try simp only[jjd]))|(refine And.intro ?_ ?_<;>(conv=>whnf);(try simp only[jjd])))
    refine V.r0 @jjC ?_
    refine V.br (fun hq2=>?_) (fun hq2=>?_)
    ·have hj:0<j∧w (xs.getD j 0) (xs.getD (j-1) 0)<0:=by
      rw[jjv,decide_eq_true_eq,decide_eq_true_eq] at hq2
      omega
     obtain⟨i,rfl⟩:∃ i,j=i+1:=⟨j-1,Jo⟩
     rw[show i+1-1=i by omega] at hj
     have hw:=jeQ h2 (show i+1<1 by omega)
     have e1:((i+1:Nat):Int).toNat=i+1:=Jo
     have e2:(((i+1:Nat):Int)-1).toNat=i:=Jo
     have e3:((i+1:Nat):Int)-1=(i:Int):=Jo
     have e4:(i:Int).toNat=i:=Jo
     have h3':insJ w i ((xs.set (i+1) (xs.getD i 0)).set i (xs.getD (i+1) 0))=isoK w [0] (k+1):=by
      rw[← h3]
      simp only[insJ]
      rw[if_pos hj.2]
     refine V.r0 @jjC ?_
     refine⟨Pq8z,[],V.pok,?_⟩
     refine jab [] [(20,.arr .i64 ((xs.set (i+1) (xs.getD i 0)).set i (xs.getD (i+1) 0)))] ?_ ?_
     ·(conv=>whnf);(try simp only[jjh,e1,e2,e3,e4])
      repeat' (first|exact V.wk|((with_reducible refine And.intro ?_ jaz);(conv=>whnf);(try simp only[jjh,e1,e2,e3,e4]))|((with_reducible first|refine jas ?_ ?_|refine jau ?_ ?_)<;>(conv=>whnf);(try simp only[jjh,e1,e2,e3,e4]))|((first|refine V.s1 ?_|((with_reducible refine jal ?_ ?_);(focus ((conv=>whnf);(try simp only[jjh,e1,e2,e3,e4]);(repeat ((first|refine V.s1 ?_);(try simp only[jjh,e1,e2,e3,e4])));exact⟨rfl⟩));(conv=>whnf)));(try simp only[jjh,e1,e2,e3,e4]))|(refine And.intro ?_ ?_<;>(conv=>whnf);(try simp only[jjh,e1,e2,e3,e4])))
     refine V.r0 (V.a2 @jjC e3) ?_
     exact⟨(i,(xs.set (i+1) (xs.getD i 0)).set i (xs.getD (i+1) 0)),⟨by dsimp only;omega,hw,h3'⟩,by dsimp only;omega,V.wk⟩
    ·have hx:isoK w [0] (k+1)=xs:=by
      rw[← h3]
      cases j with
      | zero=>rfl
      | succ i=>
       simp only[insJ]
       rw[if_neg]
       intro h
       rw[Bool.and_eq_false_iff,decide_eq_false_iff_not,decide_eq_false_iff_not,show i+1-1=i by omega] at hq2
       omega
     refine V.r0 @jjC ?_
     refine⟨k+1,Jo,Jo,?_⟩
     rw[hx]
     exact V.wk
   have hk2:k+1=1:=by simp at hq;omega
   have hk3:k=1-1:=Jo
   subst hk3
   refine V.r0 @jjC ?_
   refine jad (0) (fun k=>k=0) (fun k=>k) (fun k=>[(6,Ji 20)]) (fun k=>[]) ?_ ?_ ?_
   ·exact V.wk
   ·rfl
   clear hk
   intro k hk
   refine V.r0 @jjC ?_
   obtain⟨xs,hxs⟩:∃ xs,isoK w [0] (1-1)=xs:=⟨_,rfl⟩
   rw[hxs] at hB ⊢
   have hl:=hB.1
   refine V.r1 @jjC io ?_
   have hr:∀ m,m<1→List.take 2 (List.drop (m*2) ([.str (R 0).1,.str (R 0).2]:List D))=[.str (R m).1,.str (R m).2]:=fun m hm=>by
    have:m=0∨m=1∨m=2:=Jo
    rcases this with e|e|e<;>subst e<;>first|rfl|omega
   have e0:=hr (xs.getD 0 0).toNat (by have:=hB.2 0 Jo;omega)
   have g0:=hB.2 0 Jo
   have sb0:=sb 0 Jo
   have hb0:=hBf 0 Jo
   rw[hxs] at sb0 hb0
   have hb':(Bf 0).1=o0∧(Bf 0).2=o1:=by rw[hBf0];exact⟨rfl,rfl⟩
   refine jad 0 (fun k=>k≤1) (fun k=>1-k) (fun k=>[(41,Ji k)]) (fun k=>(9,.box [.str (Bf k).1,.str (Bf k).2])::(6,.box [Jj [z0],Ji out,Jj data,.osl 17 0 1,.osl 20 0 1,wcl k])::wch W k) ?_ ?_ ?_
   ·rw[hb'.1,hb'.2]
    exact V.wk
   ·exact jjx _
   clear hk
   intro k hk
   have hk4:k=0∨k=1:=Jo
   rcases hk4 with e|e
   all_goals subst e
   ·simp only[k0,wcl,wch]
    refine V.r0 jji ?_
    refine⟨Pq45z,[],V.pok,?_⟩
    refine jab [(12,.box 12 0),(13,Ji 0)] [(12,.box [.str (W 0).1,.str (W 0).2])] ?_ ?_
    ·(conv=>whnf);(try simp only[jjC])
     repeat' (first|exact V.wk|((with_reducible refine And.intro ?_ jaz);(conv=>whnf);(try simp only[jjC]))|((with_reducible first|refine jas ?_ ?_|refine jau ?_ ?_)<;>(conv=>whnf);(try simp only[jjC]))|((first|refine V.s1 ?_|((with_reducible refine jal ?_ ?_);(focus ((conv=>whnf);(try simp only[jjC]);(repeat ((first|refine V.s1 ?_|((simp only[e0]);(conv=>whnf)));(try simp only[jjC])));exact⟨rfl⟩));(conv=>whnf))|((try ((with_reducible refine .ext ?_);(conv=>whnf);(try simp only[jjC])));(with_reducible refine jaa (r:=?_) ?_ ?_);rotate_left;(focus (first|exact(sb0)));(conv=>whnf))|((simp only[e0]);(conv=>whnf)));(try simp only[jjC]))|(refine And.intro ?_ ?_<;>(conv=>whnf);(try simp only[jjC])))
    (conv=>whnf)
    (try simp only[jjC])
    repeat ((first|refine V.s1 ?_|((try ((with_reducible refine .ext ?_);(conv=>whnf);(try simp only[jjC])));(with_reducible refine jaa (r:=?_) ?_ ?_);rotate_left;(focus (first|fail));(conv=>whnf))|((simp only[e0]);(conv=>whnf)));(try simp only[jjC]))
    refine⟨1,Jo,Jo,?_⟩
    rw[hb0]
    exact V.wk
   ·simp only[k1,wcl,wch]
    have ht:List.take 1 xs=xs:=jko Jo
    refine V.r0 (V.a2 @jjC ht) ?_
    rw[← hxs]
    exact Fin.of rfl
end Go.Proofs.YtbnghipgicmpdaaGreatDoor
end
