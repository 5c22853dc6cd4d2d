/- What functions of the program answer at given values, part 7. Conditions: those that each theorem names. -/
import Derived.Test.YtgjgpdceghjajaaGreatDoorSimplexWeightsH6
import Derived.Test.YtgjgpdceghjajaaGreatDoorSimplexWeightsH5
import Derived.Lib.BitFns
import Derived.Laws.Bits64b
import Derived.Test.YtgjgpdceghjajaaGreatDoorSimplexWeightsH4
import Derived.Lib.LaidTab
import Derived.Stop.LaidErr
import Derived.LaidMore
import Derived.Test.YtgjgpdceghjajaaGreatDoorSimplexWeightsH3
set_option linter.unusedSimpArgs false
set_option linter.unusedVariables false
set_option maxHeartbeats 8000000
set_option maxRecDepth 100000
section
namespace Go.Proofs.YtgjgpdceghjajaaGreatDoor
open Go Go.V Go.Nb
theorem off {p:Go.Program}{f:Nat}{ys:List D}{c:Bool}(hc:c=false):c=true→Called p f ys (.int .i64 0):=fun h=>by rw[hc] at h;cases h
def okP (s t:List UInt8):Bool:=okW s && okW t && decide (0<wval t) && decide (Nat.gcd (wval s).natAbs (wval t).natAbs=1)
def qv (s t:List UInt8):Rat:=Rat.divInt (wval s) (wval t)
theorem jfs {s t:List UInt8}(h:okP s t=true):okW s=true∧okW t=true∧0<wval t∧Nat.gcd (wval s).natAbs (wval t).natAbs=1:=by
 unfold okP at h
 simp only[jiD,decide_eq_true_eq] at h
 exact⟨h.1.1.1,h.1.1.2,h.1.2,h.2⟩
theorem jea {s t:List UInt8}(h:okP s t=true):(qv s t).num=wval s∧(qv s t).den=(wval t).natAbs:=by
 obtain⟨h1,h2,h3,h4⟩:=jfs h
 have e:qv s t=Rat.divInt (wval s) ((wval t).natAbs:Nat):=by unfold qv;congr 1;omega
 rw[e]
 exact jc0 _ _ (by omega) h4
theorem jfU {s t:List UInt8}(h:okP s t=true):Q9 67 (qv s t):=by
 obtain⟨h1,h2,h3,h4⟩:=jfs h
 obtain⟨p1,p2⟩:=jea h
 exact⟨by rw[p1];exact len9 (jb9 h1).2,by rw[p2];exact len9 (jb9 h2).2⟩
theorem rtD_qv {s t:List UInt8}(h:okP s t=true):rtD (qv s t) = .agg [.ints .u32 (mg 1000000000 (wval s).natAbs),.bool (decide (wval s<0)),.ints .u32 (mg 1000000000 (wval t).natAbs)]:=by
 obtain⟨p1,p2⟩:=jea h
 unfold rtD
 rw[p1,p2]
theorem jbu (s t:List UInt8)(h:okP s t=true):Cl 111 [.agg [.str s,.str t]] (.tup [rtD (qv s t),.bool true]):=by
 obtain⟨h1,h2,h3,h4⟩:=jfs h
 have l1:=jb9 h1
 have l2:=jb9 h2
 have k1:=len9 l1.2
 have k2:=len9 l2.2
 have c1:=jcm s (by omega)
 have c2:=jcm t (by omega)
 rw[h1,if_pos rfl] at c1
 rw[h2,if_pos rfl] at c2
 have n1:=jcU s h1
 have n2:=jcU t h2
 have s1:=sign_c (wval t)
 rw[jja h3] at s1
 have g1:=gcd_c (wval s).natAbs (wval t).natAbs (by omega) (by omega)
 rw[h4] at g1
 have o1:=jcl 1 1 (by decide) (by decide)
 rw[rtD_qv h]
 refine V.en tbOk Tryz.func111 ?_
 (conv=>whnf)
 refine V.st ?_
 repeat ((try ((with_reducible refine .ext ?_);(conv=>whnf)));(with_reducible refine jaa (r:=?_) ?_ ?_);rotate_left;(focus (first|exact(c1)|exact(c2)));(conv=>whnf);refine V.st ?_)
 refine⟨Pq59z,[],V.pok,?_⟩
 refine jab [(4,.box 4 0),(5,.box 5 0)] [(4,.box [.ints .u32 (mg 1000000000 (wval s).natAbs),.bool (decide (wval s<0))]),(5,.box [.ints .u32 (mg 1000000000 (wval t).natAbs),.bool (decide (wval t<0))])] ?_ ?_
 ·exact V.d2 @jiI n1 n2
 (conv=>whnf)
 refine V.st ?_
 repeat ((try ((with_reducible refine .ext ?_);(conv=>whnf)));(with_reducible refine jaa (r:=?_) ?_ ?_);rotate_left;(focus (first|exact(s1)|exact(g1)|exact(o1)));(conv=>whnf);refine V.st ?_)
 exact Fin.of rfl
theorem read_no (s t:List UInt8)(h:okP s t=false)(hs:s.length≤281474976710656)(ht:t.length≤281474976710656):Cl 111 [.agg [.str s,.str t]] (.tup [.agg [.any,.any,.any],.bool false]):=by
 have c1:=jcm s hs
 have c2:=jcm t ht
 by_cases h1:okW s=true
 ·rw[h1,if_pos rfl] at c1
  by_cases h2:okW t=true
  ·rw[h2,if_pos rfl] at c2
   have l1:=jb9 h1
   have l2:=jb9 h2
   have k1:=len9 l1.2
   have k2:=len9 l2.2
   have n1:=jcU s h1
   have n2:=jcU t h2
   have s1:=sign_c (wval t)
   have g1:=gcd_c (wval s).natAbs (wval t).natAbs (by omega) (by omega)
   have gl:(mg 1000000000 (Nat.gcd (wval s).natAbs (wval t).natAbs)).length≤67:=by
    rcases jiM (wval t).natAbs with e|e
    ·rw[e,Nat.gcd_zero_right];exact k1
    ·exact jiS (jaf (by omega) (Nat.gcd_le_right _ e)) k2
   have o1:=jcl (Nat.gcd (wval s).natAbs (wval t).natAbs) 1 (by omega) (by decide)
   unfold okP at h
   rw[h1,h2,Bool.true_and,Bool.true_and] at h
   by_cases hp:0<wval t
   ·rw[decide_eq_true hp,Bool.true_and,decide_eq_false_iff_not] at h
    rw[jja hp] at s1
    refine V.en tbOk Tryz.func111 ?_
    (conv=>whnf)
    refine V.st ?_
    repeat ((try ((with_reducible refine .ext ?_);(conv=>whnf)));(with_reducible refine jaa (r:=?_) ?_ ?_);rotate_left;(focus (first|exact(c1)|exact(c2)));(conv=>whnf);refine V.st ?_)
    refine⟨Pq59z,[],V.pok,?_⟩
    refine jab [(4,.box 4 0),(5,.box 5 0)] [(4,.box [.ints .u32 (mg 1000000000 (wval s).natAbs),.bool (decide (wval s<0))]),(5,.box [.ints .u32 (mg 1000000000 (wval t).natAbs),.bool (decide (wval t<0))])] ?_ ?_
    ·exact V.d2 @jiI n1 n2
    (conv=>whnf)
    refine V.st ?_
    repeat ((try ((with_reducible refine .ext ?_);(conv=>whnf)));(with_reducible refine jaa (r:=?_) ?_ ?_);rotate_left;(focus (first|exact(s1)|exact(g1)|exact(o1)));(conv=>whnf);refine V.st ?_)
    refine V.br (fun hq=>?_) (fun hq=>?_)
    ·(conv=>whnf)
     refine V.st ?_
     exact Fin.tup ⟨Fin.agg ⟨Fin.any' _,Fin.any' _,Fin.any' _,trivial⟩,Fin.of rfl,trivial⟩
    ·exfalso
     simp only[jiU,decide_eq_false_iff_not,Decidable.not_not] at hq
     apply h
     have h9:=Int.sign_eq_zero_iff_zero.1 hq.2
     omega
   ·have hs1:(wval t).sign=0∨(wval t).sign = -1:=by
     rcases (by omega:wval t=0∨wval t<0) with e|e
     ·rw[e];exact .inl rfl
     ·exact .inr (ji9 e)
    rcases hs1 with e|e
    all_goals
     rw[e] at s1
     refine V.en tbOk Tryz.func111 ?_
     (conv=>whnf)
     refine V.st ?_
     repeat ((try ((with_reducible refine .ext ?_);(conv=>whnf)));(with_reducible refine jaa (r:=?_) ?_ ?_);rotate_left;(focus (first|exact(c1)|exact(c2)));(conv=>whnf);refine V.st ?_)
     refine⟨Pq59z,[],V.pok,?_⟩
     refine jab [(4,.box 4 0),(5,.box 5 0)] [(4,.box [.ints .u32 (mg 1000000000 (wval s).natAbs),.bool (decide (wval s<0))]),(5,.box [.ints .u32 (mg 1000000000 (wval t).natAbs),.bool (decide (wval t<0))])] ?_ ?_
     ·exact V.d2 @jiI n1 n2
     (conv=>whnf)
     refine V.st ?_
     repeat ((try ((with_reducible refine .ext ?_);(conv=>whnf)));(with_reducible refine jaa (r:=?_) ?_ ?_);rotate_left;(focus (first|exact(s1)|exact(g1)|exact(o1)));(conv=>whnf);refine V.st ?_)
     refine⟨.int .i64 0,off rfl,?_⟩
     (conv=>whnf)
     refine V.st ?_
     exact Fin.tup ⟨Fin.agg ⟨Fin.any' _,Fin.any' _,Fin.any' _,trivial⟩,Fin.of rfl,trivial⟩
  ·rw[if_neg h2] at c2
   refine V.en tbOk Tryz.func111 ?_
   (conv=>whnf)
   refine V.st ?_
   repeat ((try ((with_reducible refine .ext ?_);(conv=>whnf)));(with_reducible refine jaa (r:=?_) ?_ ?_);rotate_left;(focus (first|exact(c1)|exact(c2)));(conv=>whnf);refine V.st ?_)
   exact Fin.tup ⟨Fin.agg ⟨Fin.any' _,Fin.any' _,Fin.any' _,trivial⟩,Fin.of rfl,trivial⟩
 ·rw[if_neg h1] at c1
  refine V.en tbOk Tryz.func111 ?_
  (conv=>whnf)
  refine V.st ?_
  repeat ((try ((with_reducible refine .ext ?_);(conv=>whnf)));(with_reducible refine jaa (r:=?_) ?_ ?_);rotate_left;(focus (first|exact(c1)|exact(c2)));(conv=>whnf);refine V.st ?_)
  refine V.br (fun hq=>?_) (fun hq=>?_)
  ·(conv=>whnf)
   refine V.st ?_
   exact Fin.tup ⟨Fin.agg ⟨Fin.any' _,Fin.any' _,Fin.any' _,trivial⟩,Fin.of rfl,trivial⟩
  ·simp at hq
theorem fcheck_c (s t:List UInt8)(hs:s.length≤281474976710656)(ht:t.length≤281474976710656):Cl 78 [.agg [.str s,.str t]] (.int .i64 (if okP s t then 0 else 20)):=by
 by_cases h:okP s t=true
 ·have r1:=jbu s t h
  rw[h,if_pos rfl]
  refine V.en tbOk Tryz.func78 ?_
  (conv=>whnf)
  refine V.st ?_
  repeat ((try ((with_reducible refine .ext ?_);(conv=>whnf)));(with_reducible refine jaa (r:=?_) ?_ ?_);rotate_left;(focus (first|exact(r1)));(conv=>whnf);refine V.st ?_)
  exact Fin.of rfl
 ·have r1:=read_no s t (by simpa using h) hs ht
  rw[if_neg h]
  refine V.en tbOk Tryz.func78 ?_
  (conv=>whnf)
  refine V.st ?_
  repeat ((try ((with_reducible refine .ext ?_);(conv=>whnf)));(with_reducible refine jaa (r:=?_) ?_ ?_);rotate_left;(focus (first|exact(r1)));(conv=>whnf);refine V.st ?_)
  exact Fin.of rfl
theorem qsize {s t:List UInt8}(h:okP s t=true):Q9 20000000 (qv s t):=(jfU h).mono (by omega)
theorem qordS {s t:List UInt8}(h:okP s t=true):S9 40000000 (qv s t).num∧(mg 1000000000 (qv s t).den).length≤40000000:=⟨(jfU h).1.mono (by omega),jiS (jfU h).2 (by omega)⟩
theorem fcmp_ok (s t u v:List UInt8)(h:okP s t=true)(g:okP u v=true):Cl 127 [.agg [.str s,.str t],.agg [.str u,.str v]] (.tup [.int .i64 (ordQ (qv s t) (qv u v)),.int .i64 0]):=by
 have r1:=jbu s t h
 have r2:=jbu u v g
 have o:=jf3 (qv s t) (qv u v) (qordS h).1 (qordS g).1 (qordS h).2 (qordS g).2
 have ap:Cl 164 [.agg [.str s,.str t],.agg [.str u,.str v],.fn 165 [] []] (.tup [.int .i64 (ordQ (qv s t) (qv u v)),.int .i64 0]):=by
  refine V.en tbOk Tryz.func164 ?_
  (conv=>whnf)
  refine V.st ?_
  repeat ((try ((with_reducible refine .ext ?_);(conv=>whnf)));(with_reducible refine jaa (r:=?_) ?_ ?_);rotate_left;(focus (first|exact(r1)|exact(r2)|exact(o)));(conv=>whnf);refine V.st ?_)
  exact Fin.of rfl
 refine V.en tbOk Tryz.func127 ?_
 (conv=>whnf)
 refine V.st ?_
 repeat ((try ((with_reducible refine .ext ?_);(conv=>whnf)));(with_reducible refine jaa (r:=?_) ?_ ?_);rotate_left;(focus (first|exact(ap)));(conv=>whnf);refine V.st ?_)
 exact Fin.of rfl
def vb (lo hi:Int):Bool:=decide (-1000000000000000000≤lo) && decide (lo≤hi) && decide (hi≤1000000000000000000)
def bD (r:Int×Int×Int):D := .tup [.agg [.int .i64 r.1,.int .i64 r.2.1],.int .i64 r.2.2]
def mk (lo hi:Int):Int×Int×Int:=if vb lo hi=true then (lo,hi,0) else (0,0,6)
theorem jbD {lo hi:Int} : vb lo hi=true ↔ -1000000000000000000≤lo∧lo≤hi∧hi≤1000000000000000000:=by
 unfold vb;simp only[jiD,decide_eq_true_eq,and_assoc]
theorem jcE (lo hi:Int):Cl 95 [.int .i64 lo,.int .i64 hi] (.bool (vb lo hi)):=by
 refine V.en tbOk Tryz.func95 ?_
 (conv=>whnf)
 refine V.st ?_
 exact Fin.of rfl
theorem made_b (lo hi:Int):Cl 96 [.int .i64 lo,.int .i64 hi] (bD (mk lo hi)):=by
 have h:=jcE lo hi
 unfold mk
 generalize vb lo hi=v at *
 refine V.en tbOk Tryz.func96 ?_
 (conv=>whnf)
 refine V.st ?_
 repeat ((try ((with_reducible refine .ext ?_);(conv=>whnf)));(with_reducible refine jaa (r:=?_) ?_ ?_);rotate_left;(focus (first|exact(h)));(conv=>whnf);refine V.st ?_)
 refine V.br (fun hq=>?_) (fun hq=>?_)
 ·simp only[Bool.not_eq_true'] at hq
  subst hq
  (conv=>whnf)
  refine V.st ?_
  exact Fin.of rfl
 ·simp only[Bool.not_eq_false'] at hq
  subst hq
  (conv=>whnf)
  refine V.st ?_
  exact Fin.of rfl
theorem ckb3_ok (g:Nat)(p q m n0:Int)(x y e:Int)(n:Nat)(f:Nat→List D)(a c:Nat→Int)(hf:∀ j,j<n→f j=[.int .i64 (a j),.int .i64 (c j)])(hn:n<1000)
  (hv:∀ j,j<n→vb (a j) (c j)=true) (hg:Cl g [.ref [.int .i64 m],.ref [.int .i64 n0],.ref [.int .i64 p,.int .i64 q]] (bD (x,y,e))) :
  Cl 93 [.fn g [] [.ref [.int .i64 m],.ref [.int .i64 n0],.ref [.int .i64 p,.int .i64 q]],.slf 2 n f] (bD (x,y,e)):=by
 refine V.en tbOk Tryz.func93 ?_
 (conv=>whnf)
 refine V.st ?_
 refine jac (0:Nat) (fun k=>k≤n) (fun k=>n-k) (fun k=>[(11,.int .i64 k)]) (fun _=>[]) ?_ ?_ ?_
 ·exact V.wk
 ·exact jiF _
 intro k hk
 have hkc:((k:Int)+1)=((k+1:Nat):Int):=by omega
 have hfk:=hf k
 have hvk:=hv k
 have hvc:=jcE (a k) (c k)
 (conv=>whnf)
 refine V.st ?_
 refine V.br (fun hq=>?_) (fun hq=>?_)
 ·rw[decide_eq_true_eq] at hq
  rw[hvk (by omega)] at hvc
  (conv=>whnf)
  (try simp only[jiK,hfk (by omega),hkc])
  repeat ((first|refine V.s1 ?_);(try simp only[jiK,hfk (by omega),hkc]))
  (conv=>whnf)
  refine And.intro (fun _=>⟨by omega,by omega⟩) ?_
  refine V.r1 hkc hvc ?_
  exact⟨k+1,by omega,by omega,V.wk⟩
 ·rw[decide_eq_false_iff_not] at hq
  (conv=>whnf)
  refine V.st ?_
  repeat ((try ((with_reducible refine .ext ?_);(conv=>whnf)));(with_reducible refine jaa (r:=?_) ?_ ?_);rotate_left;(focus (first|exact(hg)));(conv=>whnf);refine V.st ?_)
  exact Fin.of rfl
theorem ckb3_no (g:Nat)(p q m n0:Int)(x y e:Int)(n:Nat)(f:Nat→List D)(a c:Nat→Int)(hf:∀ j,j<n→f j=[.int .i64 (a j),.int .i64 (c j)])(hn:n<1000)
  (hv:∃ j,j<n∧vb (a j) (c j)=false) :
  Cl 93 [.fn g [] [.ref [.int .i64 m],.ref [.int .i64 n0],.ref [.int .i64 p,.int .i64 q]],.slf 2 n f] (bD (0,0,30)):=by
 refine V.en tbOk Tryz.func93 ?_
 (conv=>whnf)
 refine V.st ?_
 refine jac (0:Nat) (fun k=>k≤n ∧ ∀ j,j<k→vb (a j) (c j)=true) (fun k=>n-k) (fun k=>[(11,.int .i64 k)]) (fun _=>[]) ?_ ?_ ?_
 ·exact V.wk
 ·exact⟨jiF _,fun j hj=>by omega⟩
 intro k hk
 have hkc:((k:Int)+1)=((k+1:Nat):Int):=by omega
 have hfk:=hf k
 have hvc:=jcE (a k) (c k)
 (conv=>whnf)
 refine V.st ?_
 refine V.br (fun hq=>?_) (fun hq=>?_)
 ·rw[decide_eq_true_eq] at hq
  generalize hvv:vb (a k) (c k)=v at *
  (conv=>whnf)
  (try simp only[jiK,hfk (by omega),hkc])
  repeat ((first|refine V.s1 ?_);(try simp only[jiK,hfk (by omega),hkc]))
  (conv=>whnf)
  refine And.intro (fun _=>⟨by omega,by omega⟩) ?_
  refine V.r1 hkc hvc ?_
  refine V.br (fun hz=>?_) (fun hz=>?_)
  ·refine V.r0 hkc ?_
   exact Fin.of rfl
  ·simp only[Bool.not_eq_false'] at hz
   refine V.r0 hkc ?_
   exact⟨k+1,⟨by omega,fun j hj=>by
    rcases jiR j k with h|h
    ·exact hk.2 j h
    ·rw[show j=k by omega,hvv,hz]⟩,by omega,V.wk⟩
 ·rw[decide_eq_false_iff_not] at hq
  obtain⟨j,hj,hv⟩:=hv
  rw[hk.2 j (by omega)] at hv
  cases hv
theorem ckb4_ok (g:Nat)(p q p2 q2 m:Int)(x y e:Int)(n:Nat)(f:Nat→List D)(a c:Nat→Int)(hf:∀ j,j<n→f j=[.int .i64 (a j),.int .i64 (c j)])(hn:n<1000)
  (hv:∀ j,j<n→vb (a j) (c j)=true) (hg:Cl g [.ref [.int .i64 p,.int .i64 q],.ref [.int .i64 p2,.int .i64 q2],.ref [.int .i64 m]] (bD (x,y,e))) :
  Cl 93 [.fn g [] [.ref [.int .i64 p,.int .i64 q],.ref [.int .i64 p2,.int .i64 q2],.ref [.int .i64 m]],.slf 2 n f] (bD (x,y,e)):=by
 refine V.en tbOk Tryz.func93 ?_
 (conv=>whnf)
 refine V.st ?_
 refine jac (0:Nat) (fun k=>k≤n) (fun k=>n-k) (fun k=>[(11,.int .i64 k)]) (fun _=>[]) ?_ ?_ ?_
 ·exact V.wk
 ·exact jiF _
 intro k hk
 have hkc:((k:Int)+1)=((k+1:Nat):Int):=by omega
 have hfk:=hf k
 have hvk:=hv k
 have hvc:=jcE (a k) (c k)
 (conv=>whnf)
 refine V.st ?_
 refine V.br (fun hq=>?_) (fun hq=>?_)
 ·rw[decide_eq_true_eq] at hq
  rw[hvk (by omega)] at hvc
  (conv=>whnf)
  (try simp only[jiK,hfk (by omega),hkc])
  repeat ((first|refine V.s1 ?_);(try simp only[jiK,hfk (by omega),hkc]))
  (conv=>whnf)
  refine And.intro (fun _=>⟨by omega,by omega⟩) ?_
  refine V.r1 hkc hvc ?_
  exact⟨k+1,by omega,by omega,V.wk⟩
 ·rw[decide_eq_false_iff_not] at hq
  (conv=>whnf)
  refine V.st ?_
  repeat ((try ((with_reducible refine .ext ?_);(conv=>whnf)));(with_reducible refine jaa (r:=?_) ?_ ?_);rotate_left;(focus (first|exact(hg)));(conv=>whnf);refine V.st ?_)
  exact Fin.of rfl
theorem ckb4_no (g:Nat)(p q p2 q2 m:Int)(x y e:Int)(n:Nat)(f:Nat→List D)(a c:Nat→Int)(hf:∀ j,j<n→f j=[.int .i64 (a j),.int .i64 (c j)])(hn:n<1000)
  (hv:∃ j,j<n∧vb (a j) (c j)=false) :
  Cl 93 [.fn g [] [.ref [.int .i64 p,.int .i64 q],.ref [.int .i64 p2,.int .i64 q2],.ref [.int .i64 m]],.slf 2 n f] (bD (0,0,30)):=by
 refine V.en tbOk Tryz.func93 ?_
 (conv=>whnf)
 refine V.st ?_
 refine jac (0:Nat) (fun k=>k≤n ∧ ∀ j,j<k→vb (a j) (c j)=true) (fun k=>n-k) (fun k=>[(11,.int .i64 k)]) (fun _=>[]) ?_ ?_ ?_
 ·exact V.wk
 ·exact⟨jiF _,fun j hj=>by omega⟩
 intro k hk
 have hkc:((k:Int)+1)=((k+1:Nat):Int):=by omega
 have hfk:=hf k
 have hvc:=jcE (a k) (c k)
 (conv=>whnf)
 refine V.st ?_
 refine V.br (fun hq=>?_) (fun hq=>?_)
 ·rw[decide_eq_true_eq] at hq
  generalize hvv:vb (a k) (c k)=v at *
  (conv=>whnf)
  (try simp only[jiK,hfk (by omega),hkc])
  repeat ((first|refine V.s1 ?_);(try simp only[jiK,hfk (by omega),hkc]))
  (conv=>whnf)
  refine And.intro (fun _=>⟨by omega,by omega⟩) ?_
  refine V.r1 hkc hvc ?_
  refine V.br (fun hz=>?_) (fun hz=>?_)
  ·refine V.r0 hkc ?_
   exact Fin.of rfl
  ·simp only[Bool.not_eq_false'] at hz
   refine V.r0 hkc ?_
   exact⟨k+1,⟨by omega,fun j hj=>by
    rcases jiR j k with h|h
    ·exact hk.2 j h
    ·rw[show j=k by omega,hvv,hz]⟩,by omega,V.wk⟩
 ·rw[decide_eq_false_iff_not] at hq
  obtain⟨j,hj,hv⟩:=hv
  rw[hk.2 j (by omega)] at hv
  cases hv
def bA (p q:Int):D := .agg [.int .i64 p,.int .i64 q]
def l1 (p q:Int):Nat→List D:=fun j=>List.take 2 (List.drop (0+j*2) [.int .i64 p,.int .i64 q])
def l2 (p q p2 q2:Int):Nat→List D:=fun j=>List.take 2 (List.drop (0+j*2) [.int .i64 p,.int .i64 q,.int .i64 p2,.int .i64 q2])
theorem l1_c (p q:Int):∀ j,j<1→l1 p q j=[.int .i64 ((fun _=>p) j),.int .i64 ((fun _=>q) j)]:=fun j hj=>by
 have h0:j=0:=by omega
 subst h0;rfl
def sel_o (x y:Int):Nat→Int:=fun j=>if j=0 then x else y
theorem l2_c (p q p2 q2:Int):∀ j,j<2→l2 p q p2 q2 j=[.int .i64 (sel_o p p2 j),.int .i64 (sel_o q q2 j)]:=fun j hj=>by
 rcases (by omega:j=0∨j=1) with e|e
 ·subst e;rfl
 ·subst e;rfl
theorem sel_ok {p q p2 q2:Int}(h:vb p q=true)(h2:vb p2 q2=true):∀ j,j<2→vb (sel_o p p2 j) (sel_o q q2 j)=true:=fun j hj=>by
 rcases (by omega:j=0∨j=1) with e|e
 ·subst e;exact h
 ·subst e;exact h2
theorem sel_no {p q p2 q2:Int}(h:¬ (vb p q=true∧vb p2 q2=true)):∃ j,j<2∧vb (sel_o p p2 j) (sel_o q q2 j)=false:=by
 by_cases h1:vb p q=true
 ·have h3:¬ vb p2 q2=true:=fun h2=>h ⟨h1,h2⟩
  exact⟨1,by omega,Bool.eq_false_iff.2 h3⟩
 ·exact⟨0,by omega,Bool.eq_false_iff.2 h1⟩
theorem one_no {p q:Int}(h:¬ vb p q=true):∃ j,j<1∧vb ((fun _=>p) j) ((fun _=>q) j)=false:=⟨0,by omega,Bool.eq_false_iff.2 h⟩
def mx:List Int→Int
 | []=>0
 | x::xs=>xs.foldl max x
theorem jfi {op:Int→Int→Int}{x:Int}{xs:List Int}{k:Nat}(h:k<xs.length):(xs.take (k+1)).foldl op x=op ((xs.take k).foldl op x) (xs.getD k 0):=by
 rw[jjz,List.foldl_append,jje,jjh h]
 rfl
theorem zC3_0:type_of% @jjB ∧ type_of% @jjq := ⟨@jjB,@jjq⟩
theorem minS_c (x:Int)(xs:List Int)(hl:xs.length<1000):Cl 199 [.ints .i64 (x::xs)] (.int .i64 (xs.foldl min x)):=by
 refine V.en tbOk Tryz.func199 ?_
 (conv=>whnf)
 refine V.st ?_
 refine V.br (fun h0=>?_) (fun h0=>?_)
 ·rw[decide_eq_true_eq,jjq] at h0
  omega
 ·refine V.r0 @jjq ?_
  refine jac (0:Nat) (fun k=>k≤xs.length) (fun k=>xs.length-k) (fun k=>[(4,.int .i64 ((k+1:Nat):Int)),(3,.int .i64 ((xs.take k).foldl min x))]) (fun _=>[]) ?_ ?_ ?_
  ·exact V.wk
  ·exact jiF _
  intro k hk
  have hkc:(((k+1:Nat):Int)+1)=((k+1+1:Nat):Int):=by omega
  have hi:((k+1:Nat):Int).toNat=k+1:=by omega
  refine V.r0 (V.a3 zC3_0 hkc @hi) ?_
  refine V.br (fun hq=>?_) (fun hq=>?_)
  ·rw[decide_eq_true_eq] at hq
   have ht:=jfi (op:=min) (x:=x) (xs:=xs) (k:=k) (by omega)
   refine V.r0 (V.a3 zC3_0 hkc @hi) ?_
   refine⟨k+1,by omega,by omega,?_⟩
   rw[ht]
   exact V.wk
  ·rw[decide_eq_false_iff_not] at hq
   have hk2:k=xs.length:=by omega
   refine V.r0 (V.a2 hk2 @jjA) ?_
   exact Fin.of rfl
theorem maxS_c (x:Int)(xs:List Int)(hl:xs.length<1000):Cl 200 [.ints .i64 (x::xs)] (.int .i64 (xs.foldl max x)):=by
 refine V.en tbOk Tryz.func200 ?_
 (conv=>whnf)
 refine V.st ?_
 refine V.br (fun h0=>?_) (fun h0=>?_)
 ·rw[decide_eq_true_eq,jjq] at h0
  omega
 ·refine V.r0 @jjq ?_
  refine jac (0:Nat) (fun k=>k≤xs.length) (fun k=>xs.length-k) (fun k=>[(4,.int .i64 ((k+1:Nat):Int)),(3,.int .i64 ((xs.take k).foldl max x))]) (fun _=>[]) ?_ ?_ ?_
  ·exact V.wk
  ·exact jiF _
  intro k hk
  have hkc:(((k+1:Nat):Int)+1)=((k+1+1:Nat):Int):=by omega
  have hi:((k+1:Nat):Int).toNat=k+1:=by omega
  refine V.r0 (V.a3 zC3_0 hkc @hi) ?_
  refine V.br (fun hq=>?_) (fun hq=>?_)
  ·rw[decide_eq_true_eq] at hq
   have ht:=jfi (op:=max) (x:=x) (xs:=xs) (k:=k) (by omega)
   refine V.r0 (V.a3 zC3_0 hkc @hi) ?_
   refine⟨k+1,by omega,by omega,?_⟩
   rw[ht]
   exact V.wk
  ·rw[decide_eq_false_iff_not] at hq
   have hk2:k=xs.length:=by omega
   refine V.r0 (V.a2 hk2 @jjA) ?_
   exact Fin.of rfl
theorem least_c (x:Int)(xs:List Int)(hl:xs.length<1000):Cl 172 [.ints .i64 (x::xs)] (.int .i64 (xs.foldl min x)):=by
 have h:=minS_c x xs hl
 refine V.en tbOk Tryz.func172 ?_
 (conv=>whnf)
 refine V.st ?_
 repeat ((try ((with_reducible refine .ext ?_);(conv=>whnf)));(with_reducible refine jaa (r:=?_) ?_ ?_);rotate_left;(focus (first|exact(h)));(conv=>whnf);refine V.st ?_)
 exact Fin.of rfl
theorem greatest_c (x:Int)(xs:List Int)(hl:xs.length<1000):Cl 173 [.ints .i64 (x::xs)] (.int .i64 (xs.foldl max x)):=by
 have h:=maxS_c x xs hl
 refine V.en tbOk Tryz.func173 ?_
 (conv=>whnf)
 refine V.st ?_
 repeat ((try ((with_reducible refine .ext ?_);(conv=>whnf)));(with_reducible refine jaa (r:=?_) ?_ ?_);rotate_left;(focus (first|exact(h)));(conv=>whnf);refine V.st ?_)
 exact Fin.of rfl
theorem of_b (p q:Int):Cl 104 [.int .i64 p,.int .i64 q] (bD (if vb p q=true then (p,q,0) else (0,0,30))):=by
 have h:=jcE p q
 generalize vb p q=v at *
 refine V.en tbOk Tryz.func104 ?_
 (conv=>whnf)
 refine V.st ?_
 repeat ((try ((with_reducible refine .ext ?_);(conv=>whnf)));(with_reducible refine jaa (r:=?_) ?_ ?_);rotate_left;(focus (first|exact(h)));(conv=>whnf);refine V.st ?_)
 refine V.br (fun hq=>?_) (fun hq=>?_)
 ·simp at hq
  subst hq
  (conv=>whnf)
  refine V.st ?_
  exact Fin.of rfl
 ·simp at hq
  subst hq
  (conv=>whnf)
  refine V.st ?_
  exact Fin.of rfl
theorem near_f (s t:List UInt8)(sc:Nat)(h:okP s t=true)(h1:1≤sc)(h2:sc≤1000000000000)(hz : -9223372036854775808≤nearZ (qv s t) sc∧nearZ (qv s t) sc≤9223372036854775807) :
  Cl 68 [.agg [.str s,.str t],.int .i64 sc] (.tup [.int .i64 (nearZ (qv s t) sc),.int .i64 0]):=by
 have r1:=jbu s t h
 have q1:=jfU h
 have f1:=jdc sc (by omega)
 have lsc:(mg 1000000000 sc).length≤2:=jaw (by omega) (by omega)
 have n1:=near_r (qv s t) sc (q1.1.mono (by omega)) (jiS q1.2 (by omega)) (by omega)
 clear q1
 generalize nearZ (qv s t) sc=z at *
 have lz:(mg 1000000000 z.natAbs).length≤3:=jaw (by omega) (by omega)
 have x1:=jhK z (by omega)
 have i1:=int_c z hz.1 hz.2
 clear lz lsc
 unfold rtD at *
 refine V.en tbOk Tryz.func68 ?_
 (conv=>whnf)
 refine V.st ?_
 repeat ((try ((with_reducible refine .ext ?_);(conv=>whnf)));(with_reducible refine jaa (r:=?_) ?_ ?_);rotate_left;(focus (first|exact(r1)));(conv=>whnf);refine V.st ?_)
 refine V.br (fun g1=>?_) (fun g1=>?_)
 ·simp at g1
  omega
 ·(conv=>whnf)
  refine V.st ?_
  refine⟨(V.tk [0,1,2] (V.e1 3 [0] (V.e1 4 [] (V.e1 5 [] (V.e1 6 [] (V.tk [7,8,9,10,11] .done)))))),[],V.pok,.go (jad ?_)⟩
  (conv=>whnf)
  refine V.st ?_
  repeat ((try ((with_reducible refine .ext ?_);(conv=>whnf)));(with_reducible refine jaa (r:=?_) ?_ ?_);rotate_left;(focus (first|exact(f1)|exact(n1)|exact(x1)|exact(i1)));(conv=>whnf);refine V.st ?_)
  exact Fin.of rfl
theorem okP_dec_o {q:Rat}(h:okF q=true):okP (decZ q.num) (dec q.den)=true∧qv (decZ q.num) (dec q.den)=q:=by
 unfold okF at h
 simp only[jiD,decide_eq_true_eq] at h
 have hdz:dec q.den=decZ (q.den:Int):=by unfold decZ;rw[if_neg (by omega),ji1]
 have w1:wval (decZ q.num)=q.num:=jbl _
 have w2:wval (dec q.den)=(q.den:Int):=by rw[hdz];exact jbl _
 have o1:=jbI q.num h.1
 have o2:okW (dec q.den)=true:=by rw[hdz];exact jbI _ (by rw[ji1];exact h.2)
 have hp:=q.den_pos
 constructor
 ·unfold okP
  rw[o1,o2,w1,w2]
  simp only[jiD,decide_eq_true_eq,Bool.true_and,ji1]
  exact⟨by omega,q.reduced⟩
 ·unfold qv
  rw[w1,w2]
  exact jjc q
theorem okF_small {q:Rat}(h1:q.num.natAbs<10^20)(h2:q.den<10^20):okF q=true:=by
 unfold okF
 simp only[jiD,decide_eq_true_eq]
 exact⟨jiS (jaW 20 _ (by omega) h1).1 (by omega),jiS (jaW 20 _ (by omega) h2).1 (by omega)⟩
theorem jeW (n:Int)(d:Nat)(hd:0<d):(Rat.divInt n d).num.natAbs≤n.natAbs∧(Rat.divInt n d).den≤d:=by
 obtain⟨h1,_,h3⟩:=jcO n d hd
 rw[h1,h3]
 exact⟨ji3 _ _,ji3 _ _⟩
theorem okF_unit (n:Int)(h : -9223372036854775808≤n∧n≤9223372036854775807):okF (Rat.divInt n 1000000000000)=true:=by
 have:=jeW n 1000000000000 (by omega)
 have e:Rat.divInt n 1000000000000=Rat.divInt n ((1000000000000:Nat):Int):=rfl
 rw[e]
 refine okF_small ?_ ?_
 ·exact Nat.lt_of_le_of_lt this.1 (by omega)
 ·exact Nat.lt_of_le_of_lt this.2 (by omega)
def unit (n:Int):Rat:=Rat.divInt n 1000000000000
theorem of_unit (n:Int)(h : -9223372036854775808≤n∧n≤9223372036854775807):Cl 97 [.int .i64 n,.int .i64 1000000000000] (.tup [.agg [.str (decZ (unit n).num),.str (dec (unit n).den)],.int .i64 0]):=by
 have h1:=of_c n 1000000000000 (by simp only[InR,V.lo,V.hi];omega) (by constructor<;>decide) (by decide)
 have h2:=okF_unit n h
 unfold frR at h1
 rw[h2] at h1
 exact h1
def jde (x:Rat):Int×Int×Int:=if vb (nearZ x 1000000000000) (nearZ x 1000000000000)=true then mk (nearZ x 1000000000000+min (ordQ x (unit (nearZ x 1000000000000))) 0) (nearZ x 1000000000000+max (ordQ x (unit (nearZ x 1000000000000))) 0) else (0,0,6)
theorem ordQ_r (x y:Rat) : -1≤ordQ x y∧ordQ x y≤1:=by
 unfold ordQ;split
 ·omega
 ·split<;>omega
theorem around_b (s t:List UInt8)(h:okP s t=true)(hz : -9223372036854775808≤nearZ (qv s t) 1000000000000∧nearZ (qv s t) 1000000000000≤9223372036854775807) :
  Cl 102 [.agg [.str s,.str t]] (bD (jde (qv s t))):=by
 have n1:=near_f s t 1000000000000 h (by omega) (by omega) hz
 unfold jde
 generalize nearZ (qv s t) 1000000000000=n at *
 have o1:=of_unit n hz
 obtain⟨p1,p2⟩:=okP_dec_o (okF_unit n hz)
 have c1:=fcmp_ok s t (decZ (unit n).num) (dec (unit n).den) h p1
 rw[show qv (decZ (unit n).num) (dec (unit n).den)=unit n from p2] at c1
 have hr:=ordQ_r (qv s t) (unit n)
 generalize ordQ (qv s t) (unit n)=o at *
 generalize decZ (unit n).num=u at *
 generalize dec (unit n).den=v at *
 clear p1 p2 h
 have v1:=jcE n n
 have m1:=made_b (n+min o 0) (n+max o 0)
 by_cases hv:vb n n=true
 ·rw[if_pos hv]
  rw[hv] at v1
  have hb:=jbD.1 hv
  generalize mk (n+min o 0) (n+max o 0)=r at *
  refine V.en tbOk Tryz.func102 ?_
  (conv=>whnf)
  refine V.st ?_
  repeat ((try ((with_reducible refine .ext ?_);(conv=>whnf)));(with_reducible refine jaa (r:=?_) ?_ ?_);rotate_left;(focus (first|exact(n1)|exact(o1)|exact(c1)|exact(v1)|exact(m1)));(conv=>whnf);refine V.st ?_)
  exact Fin.of rfl
 ·rw[if_neg hv]
  rw[Bool.eq_false_iff.2 hv] at v1
  refine V.en tbOk Tryz.func102 ?_
  (conv=>whnf)
  refine V.st ?_
  repeat ((try ((with_reducible refine .ext ?_);(conv=>whnf)));(with_reducible refine jaa (r:=?_) ?_ ?_);rotate_left;(focus (first|exact(n1)|exact(o1)|exact(c1)|exact(v1)));(conv=>whnf);refine V.st ?_)
  exact Fin.of rfl
def lw (a b c d:Int):Nat→List Int
 | 0=>[0,0,0,0]
 | 1=>[a,0,0,0]
 | 2=>[a,b,0,0]
 | 3=>[a,b,c,0]
 | _=>[a,b,c,d]
end Go.Proofs.YtgjgpdceghjajaaGreatDoor
end
section
namespace Go.Nb
structure Tr (B top v2 head u2:Int):Prop where
 hB:2≤B
 t1:1≤top
 tB:top<B
 v0:0≤v2
 vB:v2<B
 u0:0≤u2
 uB:u2<B
 h0:0≤head
 lt:head*B+u2<B*(top*B+v2)
section
variable {B top v2 head u2 : Int}
theorem Tr.kn (T:Tr B top v2 head u2):Kn B top v2 0 u2 0 head (head*B+u2) (top*B+v2) 1:=
 { hB:=T.hB,hP:=by omega,ht:=T.t1,hv:=by omega,hu:=by omega,v20:=T.v0,v2B:=T.vB,u20:=T.u0,u2B:=T.uB,vr0:=by omega,vrP:=by omega,ur0:=by omega,urP:=by omega,hh:=T.h0,htB:=T.tB,lt:=T.lt }
theorem Tr.vpos (T:Tr B top v2 head u2):0<top*B+v2:=T.kn.vpos
theorem Tr.qnn (T:Tr B top v2 head u2):0≤(head*B+u2)/(top*B+v2):=by
 have h1:0≤head*B:=jiH T.h0 (by have:=T.hB;omega)
 exact Int.ediv_nonneg (by have:=T.u0;omega) (by have:=T.vpos;omega)
theorem Tr.qmul (T:Tr B top v2 head u2):(head*B+u2)/(top*B+v2)*(top*B+v2)≤head*B+u2:=Int.ediv_mul_le _ (by have:=T.vpos;omega)
theorem Tr.init (T:Tr B top v2 head u2):(head*B+u2)/(top*B+v2)≤head/top:=T.kn.init T.qnn T.qmul
theorem Tr.step (T:Tr B top v2 head u2){q r:Int}(hq:(head*B+u2)/(top*B+v2)≤q)(hr:head=q*top+r)(hc:B≤q∨r*B+u2<q*v2) :
  (head*B+u2)/(top*B+v2)≤q-1∧head=(q-1)*top+(r+top):=
 ⟨T.kn.step T.qnn T.qmul hq hr hc,by rw[Int.sub_mul,ji8];omega⟩
theorem Tr.lt' (T:Tr B top v2 head u2):(head*B+u2)/(top*B+v2)<B:=T.kn.qlt T.qmul
end
structure Tq (B top v2 head u2 Q:Int):Prop where
 T:Tr B top v2 head u2
 e:(head*B+u2)/(top*B+v2)=Q
section
variable {B top v2 head u2 Q : Int}
theorem Tq.init (T:Tq B top v2 head u2 Q):Q≤head/top:=by rw[← T.e];exact T.T.init
theorem Tq.step (T:Tq B top v2 head u2 Q){q r:Int}(hq:Q≤q)(hr:head=q*top+r)(hc:B≤q∨r*B+u2<q*v2):Q≤q-1∧head=(q-1)*top+(r+top):=by
 rw[← T.e] at hq ⊢; exact T.T.step hq hr hc
theorem Tq.lt (T:Tq B top v2 head u2 Q):Q<B:=by rw[← T.e];exact T.T.lt'
end
end Go.Nb
end
section
namespace Go.Proofs.YtgjgpdceghjajaaGreatDoor
open Go Go.V Go.Nb
theorem clamp_b (p q lo hi:Int):Cl 57 [bA p q,.int .i64 lo,.int .i64 hi] (bD (if vb p q=true then (if vb lo hi=true then mk (min (max p lo) hi) (min (max q lo) hi) else (0,0,2)) else (0,0,30))):=by
 by_cases hv:vb p q=true
 ·rw[if_pos hv]
  have hc:Cl 94 [.ref [.int .i64 lo],.ref [.int .i64 hi],.ref [.int .i64 p,.int .i64 q]] (bD (if vb lo hi=true then mk (min (max p lo) hi) (min (max q lo) hi) else (0,0,2))):=by
   have hvl:=jcE lo hi
   have hm:=made_b (min (max p lo) hi) (min (max q lo) hi)
   generalize vb lo hi=v at *
   generalize mk (min (max p lo) hi) (min (max q lo) hi)=r at *
   refine V.en tbOk Tryz.func94 ?_
   (conv=>whnf)
   refine V.st ?_
   repeat ((try ((with_reducible refine .ext ?_);(conv=>whnf)));(with_reducible refine jaa (r:=?_) ?_ ?_);rotate_left;(focus (first|exact(hvl)));(conv=>whnf);refine V.st ?_)
   refine V.br (fun hq=>?_) (fun hq=>?_)
   ·simp at hq
    subst hq
    (conv=>whnf)
    refine V.st ?_
    exact Fin.of rfl
   ·simp at hq
    subst hq
    (conv=>whnf)
    refine V.st ?_
    repeat ((try ((with_reducible refine .ext ?_);(conv=>whnf)));(with_reducible refine jaa (r:=?_) ?_ ?_);rotate_left;(focus (first|exact(hm)));(conv=>whnf);refine V.st ?_)
    exact Fin.of rfl
  generalize (if vb lo hi=true then mk (min (max p lo) hi) (min (max q lo) hi) else (0,0,2))=r at *
  have hk:=ckb3_ok 94 p q lo hi r.1 r.2.1 r.2.2 1 (l1 p q) (fun _=>p) (fun _=>q) (l1_c p q) (by omega) (fun _ _=>hv) hc
  refine V.en tbOk Tryz.func57 ?_
  (conv=>whnf)
  refine V.st ?_
  repeat ((try ((with_reducible refine .ext ?_);(conv=>whnf)));(with_reducible refine jaa (r:=?_) ?_ ?_);rotate_left;(focus (first|exact(hk)));(conv=>whnf);refine V.st ?_)
  exact Fin.of rfl
 ·rw[if_neg hv]
  have hk:=ckb3_no 94 p q lo hi 0 0 0 1 (l1 p q) (fun _=>p) (fun _=>q) (l1_c p q) (by omega) (one_no hv)
  refine V.en tbOk Tryz.func57 ?_
  (conv=>whnf)
  refine V.st ?_
  repeat ((try ((with_reducible refine .ext ?_);(conv=>whnf)));(with_reducible refine jaa (r:=?_) ?_ ?_);rotate_left;(focus (first|exact(hk)));(conv=>whnf);refine V.st ?_)
  exact Fin.of rfl
theorem hull_b (p q p2 q2:Int):Cl 103 [bA p q,bA p2 q2] (bD (if vb p q=true∧vb p2 q2=true then (if p=p2∧q=q2 then (p,q,0) else if max q q2<min p p2 then (0,0,4) else (min p p2,max q q2,0)) else (0,0,30))):=by
 have ch:Cl 139 [.int .i64 2,bA p q,bA p2 q2] (bD (if vb p q=true∧vb p2 q2=true then (if p=p2∧q=q2 then (p,q,0) else if max q q2<min p p2 then (0,0,4) else (min p p2,max q q2,0)) else (0,0,30))):=by
  by_cases hv:vb p q=true∧vb p2 q2=true
  ·rw[if_pos hv]
   have hc:Cl 171 [.ref [.int .i64 p,.int .i64 q],.ref [.int .i64 p2,.int .i64 q2],.ref [.int .i64 2]] (bD (if p=p2∧q=q2 then (p,q,0) else if max q q2<min p p2 then (0,0,4) else (min p p2,max q q2,0))):=by
    have k1:=least_c p [p2] (by simp)
    have k2:=greatest_c q [q2] (by simp)
    rw[show [p2].foldl min p=min p p2 from rfl] at k1
    rw[show [q2].foldl max q=max q q2 from rfl] at k2
    generalize min p p2=lo at *
    generalize max q q2=hi at *
    refine V.en tbOk Tryz.func171 ?_
    (conv=>whnf)
    refine V.st ?_
    refine V.br (fun h1=>?_) (fun h1=>?_)
    ·simp only[jiV,jiD,decide_eq_true_eq] at h1
     rw[if_pos h1]
     (conv=>whnf)
     refine V.st ?_
     exact Fin.of rfl
    ·rw[if_neg (fun h=>by simp only[jiV,Bool.and_eq_false_iff,decide_eq_false_iff_not] at h1;omega)]
     (conv=>whnf)
     refine V.st ?_
     refine⟨(V.tk [0,1,2,3,4,5,8,9,10,11,12,13] (.ev (.cons 6 [13,12,11,10,9,8,1,0] (.ev (.cons 7 [13,12,11,10,9,8] (V.e1 14 [9,8] (V.e1 15 [] (V.tk [16,17] .done))) (.cons 14 [9,8,1,0] (V.e1 7 [9,8] (V.e1 15 [] (V.tk [16,17] .done))) .nil))) (.cons 14 [9,8,5,4,3,2,1,0] (V.e1 6 [9,8,1,0] (V.e1 7 [9,8] (V.e1 15 [] (V.tk [16,17] .done)))) .nil)))),[],V.pok,?_⟩
     refine jab [(7,.int .i64 lo),(8,.int .i64 hi)] [] ?_ ?_
     ·exact V.d2 @jiI k1 k2
     (conv=>whnf)
     refine V.st ?_
     refine V.br (fun h2=>?_) (fun h2=>?_)
     ·rw[decide_eq_true_eq] at h2
      rw[if_pos h2]
      (conv=>whnf)
      refine V.st ?_
      exact Fin.of rfl
     ·rw[decide_eq_false_iff_not] at h2
      rw[if_neg h2]
      (conv=>whnf)
      refine V.st ?_
      exact Fin.of rfl
   generalize (if p=p2∧q=q2 then (p,q,(0:Int)) else if max q q2<min p p2 then (0,0,4) else (min p p2,max q q2,0))=r at *
   have hk:=ckb4_ok 171 p q p2 q2 2 r.1 r.2.1 r.2.2 2 (l2 p q p2 q2) (sel_o p p2) (sel_o q q2) (l2_c p q p2 q2) (by omega) (sel_ok hv.1 hv.2) hc
   refine V.en tbOk Tryz.func139 ?_
   (conv=>whnf)
   refine V.st ?_
   repeat ((try ((with_reducible refine .ext ?_);(conv=>whnf)));(with_reducible refine jaa (r:=?_) ?_ ?_);rotate_left;(focus (first|exact(hk)));(conv=>whnf);refine V.st ?_)
   exact Fin.of rfl
  ·rw[if_neg hv]
   have hk:=ckb4_no 171 p q p2 q2 2 0 0 0 2 (l2 p q p2 q2) (sel_o p p2) (sel_o q q2) (l2_c p q p2 q2) (by omega) (sel_no hv)
   refine V.en tbOk Tryz.func139 ?_
   (conv=>whnf)
   refine V.st ?_
   repeat ((try ((with_reducible refine .ext ?_);(conv=>whnf)));(with_reducible refine jaa (r:=?_) ?_ ?_);rotate_left;(focus (first|exact(hk)));(conv=>whnf);refine V.st ?_)
   exact Fin.of rfl
 generalize (if vb p q=true∧vb p2 q2=true then (if p=p2∧q=q2 then (p,q,(0:Int)) else if max q q2<min p p2 then (0,0,4) else (min p p2,max q q2,0)) else (0,0,30))=r at *
 refine V.en tbOk Tryz.func103 ?_
 (conv=>whnf)
 refine V.st ?_
 repeat ((try ((with_reducible refine .ext ?_);(conv=>whnf)));(with_reducible refine jaa (r:=?_) ?_ ?_);rotate_left;(focus (first|exact(ch)));(conv=>whnf);refine V.st ?_)
 exact Fin.of rfl
theorem mk_ok {p q:Int}(h : -1000000000000000000≤p∧p≤q∧q≤1000000000000000000):mk p q=(p,q,0):=by
 unfold mk;rw[if_pos (jbD.2 h)]
end Go.Proofs.YtgjgpdceghjajaaGreatDoor
end
section
namespace Go.Proofs.YtgjgpdceghjajaaGreatDoor
open Go Go.V Go.Nb Go.RowKit
theorem glW_of_tab {w:World}(h:Lib.TabIs Tryz.prog w "internal/strconv.uint64pow10" .u64 Lib.pow10Tab){tp:TypeId}{p:Value}(h2:w.var? Tryz.prog "strconv.ErrRange" = some #[.iface tp p]):GlW w:=by
 refine⟨?_,?_⟩
 rotate_left
 ·intro g hg
  simp only[glbE,jjg,List.not_mem_nil,or_false] at hg
  subst hg
  unfold World.var? at h2
  have hn:Tryz.prog.globalNamed "strconv.ErrRange" = some 1:=by kernel_rfl
  rw[hn] at h2
  simp only[Option.bind_some] at h2
  split at h2
  ·rename_i cs T f he
   cases h2
   exact⟨tp,p,T,f,he⟩
  ·cases h2
 intro g vs hg
 simp only[glb,jjg,List.not_mem_nil,or_false,Prod.mk.injEq] at hg
 obtain⟨rfl,rfl⟩:=hg
 refine⟨by simp,?_⟩
 unfold Lib.TabIs World.var? at h
 have hg:Tryz.prog.globalNamed "internal/strconv.uint64pow10" = some 2:=by kernel_rfl
 rw[hg] at h
 simp only[Option.bind_some] at h
 split at h
 ·rename_i cs T f he
  cases h
  exact⟨T,f,he⟩
 ·cases h
def gdraftL:List Lf:=[.ints .u8,.int .u8,.ints .u16,.bool]
theorem gdraft_den {w:World}{cs:Array Value}(h:leavesOk w gdraftL cs.toList):∃ ds o vals sm,Den Env.dummy (pubOf w) (.agg [.ints .u8 ds,.int .u8 o,.ints .u16 vals,.bool sm]) (.agg cs) ∧
  (∀ v∈ds,0≤v∧v≤255)∧ds.length≤281474976710656∧(0≤o∧o≤255)∧(∀ v∈vals,0≤v∧v≤65535)∧vals.length≤281474976710656:=by
 obtain⟨v0,r0,e0,⟨ds,h0⟩,v1,r1,e1,⟨o,h1,h1'⟩,v2,r2,e2,⟨vals,h2⟩,v3,r3,e3,⟨sm,h3⟩,e4⟩:=h
 subst e4 e3 e2 e1
 obtain rfl:cs = #[v0,v1,v2,v3]:=by cases cs;simp_all
 subst h1 h3
 have g0:=h0
 have g2:=h2
 obtain⟨a0,c0,x0,_,y0,z0,_⟩:=g0
 obtain⟨a2,c2,x2,_,y2,z2,_⟩:=g2
 refine⟨ds,o,vals,sm,⟨[v0,.int .u8 o,v2,.bool sm],rfl,⟨v0,_,rfl,h0,_,_,rfl,⟨rfl,h1'⟩,_,_,rfl,h2,_,_,rfl,rfl,rfl⟩,?_⟩,?_,y0,?_,?_,y2⟩
 ·subst x0 x2
  intro v hv
  simp only[jjg,List.not_mem_nil,or_false] at hv
  rcases hv with rfl|rfl|rfl|rfl<;>rfl
 ·intro v hv
  simpa [InR,V.lo,V.hi] using z0 v hv
 ·simpa [InR,V.lo,V.hi] using h1'
 ·intro v hv
  simpa [InR,V.lo,V.hi] using z2 v hv
def colorL:List Lf:=[.int .i16,.int .i16,.int .i16,.int .i16,.bool,.ints .u16,.int .u16,.bool,.ints .u16,.int .u16,.bool,.ints .u16,.int .u16,.bool,.ints .u16,.int .u16,.bool,.ints .u16,.int .u16,.bool,.ints .u16,.int .u16,.bool,.ints .u16,.int .u16,.bool,.ints .u16,.int .u16]
theorem color_den {w:World}{cs:Array Value}(h:leavesOk w colorL cs.toList):∃ a0 a1 a2 a3 b0 p0 z0 c0 q0 y0 b1 p1 z1 c1 q1 y1 b2 p2 z2 c2 q2 y2 b3 p3 z3 c3 q3 y3,Den Env.dummy (pubOf w) (.agg [.int .i16 a0,.int .i16 a1,.int .i16 a2,.int .i16 a3,.bool b0,.ints .u16 p0,.int .u16 z0,.bool c0,.ints .u16 q0,.int .u16 y0,.bool b1,.ints .u16 p1,.int .u16 z1,.bool c1,.ints .u16 q1,.int .u16 y1,.bool b2,.ints .u16 p2,.int .u16 z2,.bool c2,.ints .u16 q2,.int .u16 y2,.bool b3,.ints .u16 p3,.int .u16 z3,.bool c3,.ints .u16 q3,.int .u16 y3]) (.agg cs) ∧
  (-32768≤a0∧a0≤32767)∧(-32768≤a1∧a1≤32767)∧(-32768≤a2∧a2≤32767)∧(-32768≤a3∧a3≤32767)∧(0≤z0∧z0≤65535)∧(0≤y0∧y0≤65535)∧(0≤z1∧z1≤65535)∧(0≤y1∧y1≤65535)∧(0≤z2∧z2≤65535)∧(0≤y2∧y2≤65535)∧(0≤z3∧z3≤65535)∧(0≤y3∧y3≤65535):=by
 obtain⟨v0,r0,e0,⟨a0,h0,g0⟩,v1,r1,e1,⟨a1,h1,g1⟩,v2,r2,e2,⟨a2,h2,g2⟩,v3,r3,e3,⟨a3,h3,g3⟩,v4,r4,e4,⟨b0,h4⟩,v5,r5,e5,⟨p0,h5⟩,v6,r6,e6,⟨z0,h6,g6⟩,v7,r7,e7,⟨c0,h7⟩,v8,r8,e8,⟨q0,h8⟩,v9,r9,e9,⟨y0,h9,g9⟩,v10,r10,e10,⟨b1,h10⟩,v11,r11,e11,⟨p1,h11⟩,v12,r12,e12,⟨z1,h12,g12⟩,v13,r13,e13,⟨c1,h13⟩,v14,r14,e14,⟨q1,h14⟩,v15,r15,e15,⟨y1,h15,g15⟩,v16,r16,e16,⟨b2,h16⟩,v17,r17,e17,⟨p2,h17⟩,v18,r18,e18,⟨z2,h18,g18⟩,v19,r19,e19,⟨c2,h19⟩,v20,r20,e20,⟨q2,h20⟩,v21,r21,e21,⟨y2,h21,g21⟩,v22,r22,e22,⟨b3,h22⟩,v23,r23,e23,⟨p3,h23⟩,v24,r24,e24,⟨z3,h24,g24⟩,v25,r25,e25,⟨c3,h25⟩,v26,r26,e26,⟨q3,h26⟩,v27,r27,e27,⟨y3,h27,g27⟩,e28⟩:=h
 subst e28 e27 e26 e25 e24 e23 e22 e21 e20 e19 e18 e17 e16 e15 e14 e13 e12 e11 e10 e9 e8 e7 e6 e5 e4 e3 e2 e1
 obtain rfl:cs = #[v0,v1,v2,v3,v4,v5,v6,v7,v8,v9,v10,v11,v12,v13,v14,v15,v16,v17,v18,v19,v20,v21,v22,v23,v24,v25,v26,v27]:=by cases cs;simp_all
 subst h0 h1 h2 h3 h4 h6 h7 h9 h10 h12 h13 h15 h16 h18 h19 h21 h22 h24 h25 h27
 have i5:=h5
 have i8:=h8
 have i11:=h11
 have i14:=h14
 have i17:=h17
 have i20:=h20
 have i23:=h23
 have i26:=h26
 obtain⟨_,_,x5,_⟩:=i5
 obtain⟨_,_,x8,_⟩:=i8
 obtain⟨_,_,x11,_⟩:=i11
 obtain⟨_,_,x14,_⟩:=i14
 obtain⟨_,_,x17,_⟩:=i17
 obtain⟨_,_,x20,_⟩:=i20
 obtain⟨_,_,x23,_⟩:=i23
 obtain⟨_,_,x26,_⟩:=i26
 refine⟨a0,a1,a2,a3,b0,p0,z0,c0,q0,y0,b1,p1,z1,c1,q1,y1,b2,p2,z2,c2,q2,y2,b3,p3,z3,c3,q3,y3,⟨[.int .i16 a0,.int .i16 a1,.int .i16 a2,.int .i16 a3,.bool b0,v5,.int .u16 z0,.bool c0,v8,.int .u16 y0,.bool b1,v11,.int .u16 z1,.bool c1,v14,.int .u16 y1,.bool b2,v17,.int .u16 z2,.bool c2,v20,.int .u16 y2,.bool b3,v23,.int .u16 z3,.bool c3,v26,.int .u16 y3],rfl,⟨_,_,rfl,⟨rfl,g0⟩,_,_,rfl,⟨rfl,g1⟩,_,_,rfl,⟨rfl,g2⟩,_,_,rfl,⟨rfl,g3⟩,_,_,rfl,rfl,v5,_,rfl,h5,_,_,rfl,⟨rfl,g6⟩,_,_,rfl,rfl,v8,_,rfl,h8,_,_,rfl,⟨rfl,g9⟩,_,_,rfl,rfl,v11,_,rfl,h11,_,_,rfl,⟨rfl,g12⟩,_,_,rfl,rfl,v14,_,rfl,h14,_,_,rfl,⟨rfl,g15⟩,_,_,rfl,rfl,v17,_,rfl,h17,_,_,rfl,⟨rfl,g18⟩,_,_,rfl,rfl,v20,_,rfl,h20,_,_,rfl,⟨rfl,g21⟩,_,_,rfl,rfl,v23,_,rfl,h23,_,_,rfl,⟨rfl,g24⟩,_,_,rfl,rfl,v26,_,rfl,h26,_,_,rfl,⟨rfl,g27⟩,rfl⟩,?_⟩,by simpa [InR,V.lo,V.hi] using g0,by simpa [InR,V.lo,V.hi] using g1,by simpa [InR,V.lo,V.hi] using g2,by simpa [InR,V.lo,V.hi] using g3,by simpa [InR,V.lo,V.hi] using g6,by simpa [InR,V.lo,V.hi] using g9,by simpa [InR,V.lo,V.hi] using g12,by simpa [InR,V.lo,V.hi] using g15,by simpa [InR,V.lo,V.hi] using g18,by simpa [InR,V.lo,V.hi] using g21,by simpa [InR,V.lo,V.hi] using g24,by simpa [InR,V.lo,V.hi] using g27⟩
 subst x5 x8 x11 x14 x17 x20 x23 x26
 intro v hv
 simp only[jjg,List.not_mem_nil,or_false] at hv
 rcases hv with rfl|rfl|rfl|rfl|rfl|rfl|rfl|rfl|rfl|rfl|rfl|rfl|rfl|rfl|rfl|rfl|rfl|rfl|rfl|rfl|rfl|rfl|rfl|rfl|rfl|rfl|rfl|rfl<;>rfl
def s4 {α:Type}(a b c d:α):Nat→α
 | 0=>a
 | 1=>b
 | 2=>c
 | _=>d
theorem s4_all {α:Type}{p:α→Prop}{a b c d:α}(ha:p a)(hb:p b)(hc:p c)(hd:p d):∀ i,p (s4 a b c d i)
 | 0=>ha
 | 1=>hb
 | 2=>hc
 | _+3=>hd
theorem color_fn {w:World}{cs:Array Value}(h:leavesOk w colorL cs.toList):∃ (at' z1 z2:Nat→Int) (b1 b2:Nat→Bool) (p1 p2:Nat→List Int),Den Env.dummy (pubOf w) ((colD at' z1 z2 b1 b2 p1 p2)) (.agg cs) ∧
  (∀ i, -32768≤at' i∧at' i≤32767)∧(∀ i,0≤z1 i∧z1 i≤65535)∧(∀ i,0≤z2 i∧z2 i≤65535):=by
 obtain⟨a0,a1,a2,a3,b0,p0,z0,c0,q0,y0,b1,p1,z1,c1,q1,y1,b2,p2,z2,c2,q2,y2,b3,p3,z3,c3,q3,y3,dn,k0,k1,k2,k3,m0,n0,m1,n1,m2,n2,m3,n3⟩:=color_den h
 exact⟨s4 a0 a1 a2 a3,s4 z0 z1 z2 z3,s4 y0 y1 y2 y3,s4 b0 b1 b2 b3,s4 c0 c1 c2 c3,s4 p0 p1 p2 p3,s4 q0 q1 q2 q3,dn,s4_all (p:=fun v => -32768≤v∧v≤32767) k0 k1 k2 k3,s4_all (p:=fun v=>0≤v∧v≤65535) m0 m1 m2 m3,s4_all (p:=fun v=>0≤v∧v≤65535) n0 n1 n2 n3⟩
end Go.Proofs.YtgjgpdceghjajaaGreatDoor
end
section
namespace Go.Proofs.YtgjgpdceghjajaaGreatDoor
open Go Go.V Go.Nb
def Fq (n:Nat)(q:Rat):Prop:=q.num.natAbs<10^n∧q.den<10^n
theorem Fq.mono {m n:Nat}{q:Rat}(h:Fq m q)(hl:m≤n):Fq n q:=
 ⟨jiQ h.1 (ji2 (by decide) hl),jiQ h.2 (ji2 (by decide) hl)⟩
theorem Fq.ok {n:Nat}{q:Rat}(h:Fq n q)(h0:0<n)(h6:n≤600):okF q=true:=by
 unfold okF
 simp only[jiD,decide_eq_true_eq]
 exact⟨jiS (jaW n _ h0 h.1).1 h6,jiS (jaW n _ h0 h.2).1 h6⟩
theorem jfd (n:Int)(d:Nat)(hd:0<d):(Rat.divInt n d).num.natAbs≤n.natAbs∧(Rat.divInt n d).den≤d:=by
 rw[Rat.num_divInt,Rat.den_divInt,if_neg (by omega),jja (by omega),ji8]
 refine⟨?_,?_⟩
 ·rw[Int.natAbs_ediv_of_dvd (by exact Int.gcd_dvd_right ..)]
  exact ji3 _ _
 ·rw[ji1]
  exact ji3 _ _
theorem jaN {n:Nat}{x:Int}{d:Nat}(hd:0<d)(h1:x.natAbs<10^n)(h2:d<10^n):Fq n (Rat.divInt x d):=
 ⟨Nat.lt_of_le_of_lt (jfd x d hd).1 h1,Nat.lt_of_le_of_lt (jfd x d hd).2 h2⟩
theorem jep {a b x y:Nat}(h1:x<10^a)(h2:y<10^b):x*y<10^(a+b):=by
 rw[Nat.pow_add]
 rcases jiM y with e|e
 ·rw[e,Nat.mul_zero]
  exact Nat.mul_pos (Nat.pow_pos (by decide)) (Nat.pow_pos (by decide))
 ·exact jiQ (Nat.mul_lt_mul_of_pos_right h1 e) (Nat.mul_le_mul_left _ (Nat.le_of_lt h2))
theorem Fq.add {a b:Nat}{p q:Rat}(h:Fq a p)(g:Fq b q):Fq (a+b+1) (p+q):=by
 have hp:=p.den_pos
 have hq:=q.den_pos
 have e:p+q=Rat.divInt (p.num*q.den+q.num*p.den) ((p.den*q.den:Nat):Int):=by
  conv=>lhs;rw[← jjc p,← jjc q]
  rw[Rat.divInt_add_divInt _ _ (by omega) (by omega),jiW]
 rw[e]
 have m1:=jep h.1 g.2
 have m2:=jep g.1 h.2
 have m3:=jep h.2 g.2
 rw[Nat.add_comm b a] at m2
 have e10:10^(a+b+1)=10*10^(a+b):=by rw[Nat.pow_succ,jiN]
 refine jaN (Nat.mul_pos hp hq) ?_ ?_
 ·have t:=Int.natAbs_add_le (p.num*q.den) (q.num*p.den)
  rw[Int.natAbs_mul,Int.natAbs_mul,ji1,ji1] at t
  omega
 ·omega
theorem Fq.neg {a:Nat}{p:Rat}(h:Fq a p):Fq a (-p):=⟨by rw[Rat.neg_num,Int.natAbs_neg];exact h.1,by rw[Rat.neg_den];exact h.2⟩
theorem Fq.sub {a b:Nat}{p q:Rat}(h:Fq a p)(g:Fq b q):Fq (a+b+1) (p-q):=by
 rw[Rat.sub_eq_add_neg]
 exact h.add g.neg
theorem Fq.mul {a b:Nat}{p q:Rat}(h:Fq a p)(g:Fq b q):Fq (a+b) (p*q):=by
 have e:p*q=Rat.divInt (p.num*q.num) ((p.den*q.den:Nat):Int):=by
  conv=>lhs;rw[← jjc p,← jjc q]
  rw[Rat.divInt_mul_divInt,jiW]
 rw[e]
 refine jaN (Nat.mul_pos p.den_pos q.den_pos) ?_ (jep h.2 g.2)
 rw[Int.natAbs_mul]
 exact jep h.1 g.1
theorem Fq.inv {a:Nat}{p:Rat}(h:Fq a p)(h0:p.num≠0):Fq a p⁻¹:=by
 rw[Rat.inv_def]
 rcases Int.lt_or_gt_of_ne h0 with hn|hn
 ·have e:Rat.divInt (p.den:Int) p.num=Rat.divInt (-(p.den:Int)) ((p.num.natAbs:Nat):Int):=by
   rw[Rat.divInt_eq_divInt_iff h0 (by omega)]
   have:((p.num.natAbs:Nat):Int) = -p.num:=by omega
   rw[this]
   grind
  rw[e]
  exact jaN (by omega) (by rw[Int.natAbs_neg,ji1];exact h.2) h.1
 ·have e:p.num=((p.num.natAbs:Nat):Int):=by omega
  rw[e]
  exact jaN (by omega) (by rw[ji1];exact h.2) h.1
theorem Fq.div {a b:Nat}{p q:Rat}(h:Fq a p)(g:Fq b q)(h0:q.num≠0):Fq (a+b) (p/q):=by
 rw[Rat.div_def]
 exact h.mul (g.inv h0)
theorem fadd_ok (s t u v:List UInt8)(h:okP s t=true)(g:okP u v=true)(hn:(mg 1000000000 (qv s t+qv u v).num.natAbs).length≤90000000)(hd:(mg 1000000000 (qv s t+qv u v).den).length≤90000000):Cl 100 [.agg [.str s,.str t],.agg [.str u,.str v]] (frR (qv s t+qv u v)):=by
 have r1:=jbu s t h
 have r2:=jbu u v g
 have o:=add_c (qv s t) (qv u v) (qsize h) (qsize g)
 have w:=jdJ (qv s t+qv u v) hn hd
 generalize qv s t+qv u v=q at *
 have ap:Cl 130 [.agg [.str s,.str t],.agg [.str u,.str v],.fn 138 [] []] (.tup [rtD q,.int .i64 0]):=by
  refine V.en tbOk Tryz.func130 ?_
  (conv=>whnf)
  refine V.st ?_
  repeat ((try ((with_reducible refine .ext ?_);(conv=>whnf)));(with_reducible refine jaa (r:=?_) ?_ ?_);rotate_left;(focus (first|exact(r1)|exact(r2)|exact(o)));(conv=>whnf);refine V.st ?_)
  exact Fin.of rfl
 have rs:Cl 129 [rtD q,.int .i64 0] (frR q):=by
  refine V.en tbOk Tryz.func129 ?_
  (conv=>whnf)
  refine V.st ?_
  repeat ((try ((with_reducible refine .ext ?_);(conv=>whnf)));(with_reducible refine jaa (r:=?_) ?_ ?_);rotate_left;(focus (first|exact(w)));(conv=>whnf);refine V.st ?_)
  exact Fin.of rfl
 refine V.en tbOk Tryz.func100 ?_
 (conv=>whnf)
 refine V.st ?_
 repeat ((try ((with_reducible refine .ext ?_);(conv=>whnf)));(with_reducible refine jaa (r:=?_) ?_ ?_);rotate_left;(focus (first|exact(ap)|exact(rs)));(conv=>whnf);refine V.st ?_)
 exact Fin.of rfl
theorem fsub_ok (s t u v:List UInt8)(h:okP s t=true)(g:okP u v=true)(hn:(mg 1000000000 (qv s t-qv u v).num.natAbs).length≤90000000)(hd:(mg 1000000000 (qv s t-qv u v).den).length≤90000000):Cl 99 [.agg [.str s,.str t],.agg [.str u,.str v]] (frR (qv s t-qv u v)):=by
 have r1:=jbu s t h
 have r2:=jbu u v g
 have o:=sub_c (qv s t) (qv u v) (qsize h) (qsize g)
 have w:=jdJ (qv s t-qv u v) hn hd
 generalize qv s t-qv u v=q at *
 have ap:Cl 130 [.agg [.str s,.str t],.agg [.str u,.str v],.fn 137 [] []] (.tup [rtD q,.int .i64 0]):=by
  refine V.en tbOk Tryz.func130 ?_
  (conv=>whnf)
  refine V.st ?_
  repeat ((try ((with_reducible refine .ext ?_);(conv=>whnf)));(with_reducible refine jaa (r:=?_) ?_ ?_);rotate_left;(focus (first|exact(r1)|exact(r2)|exact(o)));(conv=>whnf);refine V.st ?_)
  exact Fin.of rfl
 have rs:Cl 129 [rtD q,.int .i64 0] (frR q):=by
  refine V.en tbOk Tryz.func129 ?_
  (conv=>whnf)
  refine V.st ?_
  repeat ((try ((with_reducible refine .ext ?_);(conv=>whnf)));(with_reducible refine jaa (r:=?_) ?_ ?_);rotate_left;(focus (first|exact(w)));(conv=>whnf);refine V.st ?_)
  exact Fin.of rfl
 refine V.en tbOk Tryz.func99 ?_
 (conv=>whnf)
 refine V.st ?_
 repeat ((try ((with_reducible refine .ext ?_);(conv=>whnf)));(with_reducible refine jaa (r:=?_) ?_ ?_);rotate_left;(focus (first|exact(ap)|exact(rs)));(conv=>whnf);refine V.st ?_)
 exact Fin.of rfl
theorem fmul_ok (s t u v:List UInt8)(h:okP s t=true)(g:okP u v=true)(hn:(mg 1000000000 (qv s t*qv u v).num.natAbs).length≤90000000)(hd:(mg 1000000000 (qv s t*qv u v).den).length≤90000000):Cl 85 [.agg [.str s,.str t],.agg [.str u,.str v]] (frR (qv s t*qv u v)):=by
 have r1:=jbu s t h
 have r2:=jbu u v g
 have o:=mul_c (qv s t) (qv u v) (qsize h) (qsize g)
 have w:=jdJ (qv s t*qv u v) hn hd
 generalize qv s t*qv u v=q at *
 have ap:Cl 130 [.agg [.str s,.str t],.agg [.str u,.str v],.fn 131 [] []] (.tup [rtD q,.int .i64 0]):=by
  refine V.en tbOk Tryz.func130 ?_
  (conv=>whnf)
  refine V.st ?_
  repeat ((try ((with_reducible refine .ext ?_);(conv=>whnf)));(with_reducible refine jaa (r:=?_) ?_ ?_);rotate_left;(focus (first|exact(r1)|exact(r2)|exact(o)));(conv=>whnf);refine V.st ?_)
  exact Fin.of rfl
 have rs:Cl 129 [rtD q,.int .i64 0] (frR q):=by
  refine V.en tbOk Tryz.func129 ?_
  (conv=>whnf)
  refine V.st ?_
  repeat ((try ((with_reducible refine .ext ?_);(conv=>whnf)));(with_reducible refine jaa (r:=?_) ?_ ?_);rotate_left;(focus (first|exact(w)));(conv=>whnf);refine V.st ?_)
  exact Fin.of rfl
 refine V.en tbOk Tryz.func85 ?_
 (conv=>whnf)
 refine V.st ?_
 repeat ((try ((with_reducible refine .ext ?_);(conv=>whnf)));(with_reducible refine jaa (r:=?_) ?_ ?_);rotate_left;(focus (first|exact(ap)|exact(rs)));(conv=>whnf);refine V.st ?_)
 exact Fin.of rfl
theorem Q9.inv {k:Nat}{q:Rat}(h:Q9 k q)(h0:q.num≠0):Q9 k q⁻¹:=by
 obtain⟨p1,p2⟩:=jgM q h0
 constructor
 ·rw[p1]
  unfold S9
  have e:(if decide (q.num<0)=true then -(q.den:Int) else (q.den:Int)).natAbs=q.den:=by
   split<;>simp
  rw[e]
  exact h.2
 ·rw[p2];exact h.1
theorem fdiv_ok (s t u v:List UInt8)(h:okP s t=true)(g:okP u v=true)(h0:(qv u v).num≠0)(hn:(mg 1000000000 (qv s t/qv u v).num.natAbs).length≤90000000)(hd:(mg 1000000000 (qv s t/qv u v).den).length≤90000000):Cl 88 [.agg [.str s,.str t],.agg [.str u,.str v]] (frR (qv s t/qv u v)):=by
 have r1:=jbu s t h
 have r2:=jbu u v g
 have z1:=jdf (qv u v).num.natAbs
 rw[decide_eq_false (show ¬ (qv u v).num.natAbs=0 by omega)] at z1
 have i1:=inverse_c (qv u v) h0
 have o:=mul_c (qv s t) (qv u v)⁻¹ (qsize h) ((qsize g).inv h0)
 have w:=jdJ (qv s t/qv u v) hn hd
 rw[Rat.div_def] at w ⊢
 unfold frR at *
 generalize qv s t*(qv u v)⁻¹=q at *
 generalize (qv u v)⁻¹=y at *
 refine V.en tbOk Tryz.func88 ?_
 (conv=>whnf)
 refine V.st ?_
 repeat ((try ((with_reducible refine .ext ?_);(conv=>whnf)));(with_reducible refine jaa (r:=?_) ?_ ?_);rotate_left;(focus (first|exact(r1)|exact(r2)|exact(z1)));(conv=>whnf);refine V.st ?_)
 refine⟨(V.tk [0,1] (V.e1 2 [0] (V.e1 3 [] (V.e1 4 [] (V.tk [5,6] (V.e1 7 [] (V.tk [8] .done))))))),[],V.pok,.go (jad ?_)⟩
 (conv=>whnf)
 refine V.st ?_
 repeat ((try ((with_reducible refine .ext ?_);(conv=>whnf)));(with_reducible refine jaa (r:=?_) ?_ ?_);rotate_left;(focus (first|exact(i1)|exact(o)|exact(w)));(conv=>whnf);refine V.st ?_)
 exact Fin.of rfl
def frT (x:Rat):D := .agg [.str (decZ x.num),.str (dec x.den)]
theorem jaL {q:Rat}(h:okF q=true):okP (decZ q.num) (dec q.den)=true∧qv (decZ q.num) (dec q.den)=q:=by
 unfold okF at h
 simp only[jiD,decide_eq_true_eq] at h
 have hdz:dec q.den=decZ (q.den:Int):=by unfold decZ;rw[if_neg (by omega),ji1]
 have w1:wval (decZ q.num)=q.num:=jbl _
 have w2:wval (dec q.den)=(q.den:Int):=by rw[hdz];exact jbl _
 have o1:=jbI q.num h.1
 have o2:okW (dec q.den)=true:=by rw[hdz];exact jbI _ (by rw[ji1];exact h.2)
 have hp:=q.den_pos
 constructor
 ·unfold okP
  rw[o1,o2,w1,w2]
  simp only[jiD,decide_eq_true_eq,Bool.true_and,ji1]
  exact⟨by omega,q.reduced⟩
 ·unfold qv
  rw[w1,w2]
  exact jjc q
theorem jdA {q:Rat}(h:okF q=true):frR q = .tup [frT q,.int .i64 0]:=by
 unfold frR
 rw[h]
 rfl
theorem mg_fq {n:Nat}{q:Rat}(h:Fq n q)(h6:n≤600):(mg 1000000000 q.num.natAbs).length≤90000000∧(mg 1000000000 q.den).length≤90000000:=
 ⟨jiS (len9 (h.mono h6).1) (by omega),jiS (len9 (h.mono h6).2) (by omega)⟩
theorem zadd {a b:Nat}{p q:Rat}(h:Fq a p)(g:Fq b q)(ha:0<a)(hb:0<b)(hab:a+b+1≤600):Cl 100 [frT p,frT q] (.tup [frT (p+q),.int .i64 0]):=by
 obtain⟨o1,e1⟩:=jaL (h.ok ha (by omega))
 obtain⟨o2,e2⟩:=jaL (g.ok hb (by omega))
 have hs:=h.add g
 have hm:=mg_fq hs (by omega)
 have c:=fadd_ok _ _ _ _ o1 o2 (by rw[e1,e2];exact hm.1) (by rw[e1,e2];exact hm.2)
 rw[e1,e2,jdA (hs.ok (by omega) (by omega))] at c
 exact c
theorem zsub {a b:Nat}{p q:Rat}(h:Fq a p)(g:Fq b q)(ha:0<a)(hb:0<b)(hab:a+b+1≤600):Cl 99 [frT p,frT q] (.tup [frT (p-q),.int .i64 0]):=by
 obtain⟨o1,e1⟩:=jaL (h.ok ha (by omega))
 obtain⟨o2,e2⟩:=jaL (g.ok hb (by omega))
 have hs:=h.sub g
 have hm:=mg_fq hs (by omega)
 have c:=fsub_ok _ _ _ _ o1 o2 (by rw[e1,e2];exact hm.1) (by rw[e1,e2];exact hm.2)
 rw[e1,e2,jdA (hs.ok (by omega) (by omega))] at c
 exact c
theorem zmul {a b:Nat}{p q:Rat}(h:Fq a p)(g:Fq b q)(ha:0<a)(hb:0<b)(hab:a+b+1≤600):Cl 85 [frT p,frT q] (.tup [frT (p*q),.int .i64 0]):=by
 obtain⟨o1,e1⟩:=jaL (h.ok ha (by omega))
 obtain⟨o2,e2⟩:=jaL (g.ok hb (by omega))
 have hs:=h.mul g
 have hm:=mg_fq hs (by omega)
 have c:=fmul_ok _ _ _ _ o1 o2 (by rw[e1,e2];exact hm.1) (by rw[e1,e2];exact hm.2)
 rw[e1,e2,jdA (hs.ok (by omega) (by omega))] at c
 exact c
theorem zdiv {a b:Nat}{p q:Rat}(h:Fq a p)(g:Fq b q)(h0:q.num≠0)(ha:0<a)(hb:0<b)(hab:a+b+1≤600):Cl 88 [frT p,frT q] (.tup [frT (p/q),.int .i64 0]):=by
 obtain⟨o1,e1⟩:=jaL (h.ok ha (by omega))
 obtain⟨o2,e2⟩:=jaL (g.ok hb (by omega))
 have hs:=h.div g h0
 have hm:=mg_fq hs (by omega)
 have c:=fdiv_ok _ _ _ _ o1 o2 (by rw[e2];exact h0) (by rw[e1,e2];exact hm.1) (by rw[e1,e2];exact hm.2)
 rw[e1,e2,jdA (hs.ok (by omega) (by omega))] at c
 exact c
theorem zcmp {a b:Nat}{p q:Rat}(h:Fq a p)(g:Fq b q)(ha:0<a∧a≤600)(hb:0<b∧b≤600):Cl 127 [frT p,frT q] (.tup [.int .i64 (ordQ p q),.int .i64 0]):=by
 obtain⟨o1,e1⟩:=jaL (h.ok ha.1 ha.2)
 obtain⟨o2,e2⟩:=jaL (g.ok hb.1 hb.2)
 have c:=fcmp_ok _ _ _ _ o1 o2
 rw[e1,e2] at c
 exact c
abbrev Tx:=List UInt8×List UInt8
def okX (x:Tx):Bool:=okP x.1 x.2
def qX (x:Tx):Rat:=qv x.1 x.2
def BdX (n:Nat)(x:Tx):Prop:=(x.1.length≤281474976710656∧x.2.length≤281474976710656)∧(okX x=true→Fq n (qX x))
theorem BdX.mono {m n:Nat}{x:Tx}(h:BdX m x)(hl:m≤n):BdX n x:=⟨h.1,fun g=>(h.2 g).mono hl⟩
structure Sg (s d:List UInt8)(j:Nat)(neg:Bool):Prop where
 hj:j=if neg then 1 else 0
 hl:s.length=d.length+j
 hg:∀ i,s.getD (i+j) 0=d.getD i 0
 h0:(0<s.length∧s.getD 0 0=45)↔neg=true
theorem sg_of (s:List UInt8):∃ d j neg,Sg s d j neg∧okW s=okD d neg∧wval s=if neg then -(rdv d:Int) else rdv d:=by
 cases s with
 | nil=>exact⟨[],0,false,⟨rfl,rfl,fun i=>rfl,by simp⟩,rfl,rfl⟩
 | cons c r=>
  by_cases hc:c=45
  ·subst hc
   have h1:Go.Lib.hasPrefix (45::r) [45]=true:=by simp[Go.Lib.hasPrefix]
   have h2:Go.Lib.trimPrefix (45::r) [45]=r:=by unfold Go.Lib.trimPrefix;rw[h1];rfl
   refine⟨r,1,true,⟨rfl,by simp,fun i=>by simp,by simp⟩,?_,?_⟩
   ·unfold okW;rw[h1,h2]
   ·unfold wval;rw[h1,h2]
  ·have h1:Go.Lib.hasPrefix (c::r) [45]=false:=by
    show List.isPrefixOf [45] (c::r)=false
    simp only[List.isPrefixOf,jiV,beq_eq_false_iff_ne]
    exact Ne.symm hc
   have h2:Go.Lib.trimPrefix (c::r) [45]=c::r:=by unfold Go.Lib.trimPrefix;rw[h1];rfl
   refine⟨c::r,0,false,⟨rfl,by simp,fun i=>by simp,by simp[hc]⟩,?_,?_⟩
   ·unfold okW;rw[h1,h2]
   ·unfold wval;rw[h1,h2]
theorem u8_eq (c:UInt8)(n:Nat)(hn:n<256):decide (((c.toNat:Nat):Int)=n)=decide (c=UInt8.ofNat n):=decide_eq_decide.2 ⟨fun h=>UInt8.toNat_inj.1 (by rw[UInt8.toNat_ofNat_of_lt' (by simpa using hn)];omega),fun h=>by rw[h,UInt8.toNat_ofNat_of_lt' (by simpa using hn)]⟩
theorem right01_g (s d:List UInt8)(j:Nat)(neg:Bool)(S:Sg s d j neg)(hs:s.length≤281474976710656):Cl 105 [.str s] (.bool (okD d neg)):=by
 obtain⟨hj,hl,hg,h0⟩:=S
 have hJ:j≤1:=by rw[hj];split<;>omega
 have e0:(0:Int).toNat=0:=rfl
 have q45:decide (((s.getD 0 0).toNat:Int)=45)=decide (s.getD 0 0=45):=u8_eq _ 45 (by omega)
 have qn:(decide ((s.length:Int)>0) && decide (s.getD 0 0=45))=neg:=by
  rw[Bool.eq_iff_iff,← h0,jiD,decide_eq_true_eq,decide_eq_true_eq]
  exact and_congr_left' (by omega)
 refine V.en tbOk Tryz.func105 ?_
 refine V.r0 (V.a3 e0 q45 qn) ?_
 refine jbd [(3,.int .i64 j)] [] (CondB.mk (fun hq=>?_) (fun hq=>?_)) ?_
 ·subst hq
  rw[if_pos rfl] at hj
  subst hj
  (conv=>whnf)
  refine V.st ?_
  exact V.wk
 ·subst hq
  rw[if_neg (by simp)] at hj
  subst hj
  (conv=>whnf)
  refine V.st ?_
  exact V.wk
 have hsl:(s.length:Int)-j=d.length:=by omega
 clear q45 qn h0
 refine V.r0 hsl ?_
 refine V.br (fun hq=>?_) (fun hq=>?_)
 ·simp only[jiT,decide_eq_true_eq] at hq
  have hf:okD d neg=false:=by
   unfold okD
   rcases hq with h|h
   ·rw[decide_eq_true (show d.length=0 by omega)];rfl
   ·rw[decide_eq_true (show 600<d.length by omega),Bool.or_true];rfl
  rw[hf]
  (conv=>whnf)
  refine V.st ?_
  exact Fin.of rfl
 ·simp only[jiU,decide_eq_false_iff_not] at hq
  (conv=>whnf)
  refine V.st ?_
  refine jac (0:Nat) (fun k=>k≤d.length ∧ ∀ i,i<k→isDig (d.getD i 0)=true) (fun k=>d.length-k) (fun k=>[(5,.int .i64 ((k+j:Nat):Int))]) (fun _=>[]) ?_ ?_ ?_
  ·rw[jiI]
   exact V.wk
  ·exact⟨jiF _,fun i hi=>by omega⟩
  intro k hk
  have hkc:(((k+j:Nat):Int)+1)=((k+1+j:Nat):Int):=by omega
  have hkt:((k+j:Nat):Int).toNat=k+j:=by omega
  (conv=>whnf)
  refine V.st ?_
  refine V.br (fun hq2=>?_) (fun hq2=>?_)
  ·rw[decide_eq_true_eq] at hq2
   have hdl:=dig_lo (d.getD k 0)
   have hgk:=hg k
   generalize hc:d.getD k 0=c at *
   refine V.r0 (V.a3 hkt hgk hkc) ?_
   refine V.br (fun hq3=>?_) (fun hq3=>?_)
   ·rw[jiT,decide_eq_true_eq,decide_eq_true_eq] at hq3
    have hf:okD d neg=false:=by
     have h1:d.all isDig=false:=by
      rw[List.all_eq_false]
      refine⟨c,?_,fun h=>by have:=hdl.1 h;omega⟩
      rw[← hc,jje,jjh (by omega)]
      exact List.getElem_mem _
     unfold okD
     rw[h1,Bool.and_false,Bool.false_and]
    rw[hf]
    (conv=>whnf)
    refine V.st ?_
    exact Fin.of rfl
   ·rw[jiU,decide_eq_false_iff_not,decide_eq_false_iff_not] at hq3
    refine V.r0 hkc ?_
    refine⟨k+1,⟨by omega,fun i hi=>?_⟩,by omega,V.wk⟩
    rcases jiR i k with h|h
    ·exact hk.2 i h
    ·obtain rfl:i=k:=by omega
     rw[hc];exact hdl.2 (by omega)
  ·rw[decide_eq_false_iff_not] at hq2
   obtain rfl:k=d.length:=by omega
   have hall:∀ c∈d,isDig c=true:=fun c hc=>by
    obtain⟨i,hi,e⟩:=List.getElem_of_mem hc
    have:=hk.2 i hi
    rw[jje,jjh hi] at this
    rw[← e];exact this
   have hok:okD d neg = !(decide (d.getD 0 0=48) && (neg || decide (1<d.length))):=by
    unfold okD
    rw[jjd.2 hall,decide_eq_false (show ¬ d.length=0 by omega),decide_eq_false (show ¬ 600<d.length by omega)]
    rfl
   have hu:decide ((((d.getD 0 0).toNat:Nat):Int)=48)=decide (d.getD 0 0=48):=u8_eq _ 48 (by omega)
   have hg0:=hg 0
   rw[jiI] at hg0
   have hll:decide ((s.length:Int)=1) = !(neg || decide (1<d.length)):=by
    by_cases hn:neg=true
    ·subst hn
     rw[if_pos rfl] at hj
     rw[decide_eq_false (by omega)]
     rfl
    ·rw[if_neg hn] at hj
     rw[Bool.eq_false_iff.2 hn,Bool.false_or]
     by_cases h1:1<d.length
     ·rw[decide_eq_true h1,decide_eq_false (by omega)];rfl
     ·rw[decide_eq_false h1,decide_eq_true (by omega)];rfl
   have hu2:decide ((((d.getD 0 0).toNat:Nat):Int)≠48) = !decide (d.getD 0 0=48):=by rw[← hu,decide_not]
   have hne:(!decide (d.getD 0 0=48) || !(neg || decide (1<d.length)))=okD d neg:=by rw[hok,Bool.not_and]
   refine V.r0 (V.a5 @jiK hg0 hu2 hll hne) ?_
   exact Fin.of rfl
theorem rdv_chunk (d:List UInt8)(hd:∀ c∈d,isDig c=true)(m:Nat)(hm:m≤d.length):rdv (d.take m)/10000=rdv (d.take (m-4))∧rdv (d.take m)%10000=rdv ((d.take m).drop (m-4)):=by
 have e:d.take m=d.take (m-4)++(d.take m).drop (m-4):=by
  conv=>lhs;rw[← List.take_append_drop (m-4) (d.take m),List.take_take,Nat.min_eq_left (by omega)]
 have hb:=jfm (s:=(d.take m).drop (m-4)) (fun c hc=>hd c (jjp (jjo hc)))
 have hl:((d.take m).drop (m-4)).length=m-(m-4):=by rw[jjx,jjk];omega
 rw[hl] at hb
 have ev:rdv (d.take m)=rdv (d.take (m-4))*10^(m-(m-4))+rdv ((d.take m).drop (m-4)):=by
  conv=>lhs;rw[e]
  rw[jbh,hl]
 rw[ev]
 generalize rdv ((d.take m).drop (m-4))=y at *
 rcases (by omega:m<4∨4≤m) with h|h
 ·have h0:m-4=0:=by omega
  have h10:10^(m-(m-4))≤10000:=by
   rw[h0]
   rcases (by omega:m=0∨m=1∨m=2∨m=3) with e|e|e|e<;>subst e<;>decide
  rw[h0,List.take_zero,show rdv []=0 from rfl,Nat.zero_mul]
  omega
 ·rw[show m-(m-4)=4 by omega,show (10:Nat)^4=10000 from rfl] at *
  omega
theorem rdv_next (d:List UInt8)(lo k:Nat)(h1:lo≤k)(h2:k<d.length):rdv ((d.take (k+1)).drop lo)=rdv ((d.take k).drop lo)*10+((d.getD k 0).toNat-48):=by
 have e:(d.take (k+1)).drop lo=(d.take k).drop lo++[d.getD k 0]:=by
  rw[jjz,jjh h2,List.drop_append_of_le_length (by rw[jjk];omega),jje,jjh h2]
  rfl
 rw[e,jbh,jdN]
 rfl
theorem in01_g (s d:List UInt8)(j:Nat)(neg:Bool)(S:Sg s d j neg)(hd:∀ c∈d,isDig c=true)(hdl:d.length≤600)(hs0:0<s.length) :
  Cl 73 [.str s] (plD (if neg then -(rdv d:Int) else rdv d)):=by
 obtain⟨hj,hl,hg,h0⟩:=S
 have hJ:j≤1:=by rw[hj];split<;>omega
 have e0:(0:Int).toNat=0:=rfl
 have q45:decide (((s.getD 0 0).toNat:Int)=45)=neg:=by
  rw[show (45:Int)=((45:Nat):Int) from rfl,u8_eq _ 45 (by omega),Bool.eq_iff_iff,← h0,decide_eq_true_eq]
  exact⟨fun h=>⟨hs0,h⟩,fun h=>h.2⟩
 refine V.en tbOk Tryz.func73 ?_
 refine V.r0 (V.a2 e0 q45) ?_
 refine jbd [(3,.int .i64 j)] [] (CondB.mk (fun hq=>?_) (fun hq=>?_)) ?_
 ·subst hq
  rw[if_pos rfl] at hj
  subst hj
  (conv=>whnf)
  refine V.st ?_
  exact V.wk
 ·subst hq
  rw[if_neg (by simp)] at hj
  subst hj
  (conv=>whnf)
  refine V.st ?_
  exact V.wk
 (conv=>whnf)
 refine V.st ?_
 refine Lp.ghostSlot 38 4 .i64 (by decide) ?_
 (conv=>whnf)
 refine jac (((s.length:Int),d.length,[]):Int×Nat×List Int) (fun st=>st.2.1≤d.length∧(st.1=(st.2.1+j:Nat)∨(st.2.1=0∧st.1<j∧(j:Int)-4≤st.1))∧val 10000 st.2.2+((10000:Nat):Int)^st.2.2.length*((rdv (d.take st.2.1):Nat):Int)=((rdv d:Nat):Int)∧Dg 10000 st.2.2∧st.2.2.length+(st.2.1+3)/4≤151) (fun st=>st.2.1) (fun st=>[(5,.int .i64 st.1),(4,.osl 38 0 st.2.2.length)]) (fun st=>[(38,.arr .i64 st.2.2)]) ?_ ?_ ?_
 ·exact V.wk
 ·exact⟨jiL _,.inl (by dsimp only;omega),by simp[val],fun x hx=>by simp at hx,by dsimp only [List.length_nil];omega⟩
 rintro⟨e,m,out⟩ ⟨h1,h2,h3,h4,h5⟩
 dsimp only at h1 h2 h3 h4 h5 ⊢
 (conv=>whnf)
 refine V.st ?_
 refine V.br (fun hq=>?_) (fun hq=>?_)
 ·rw[decide_eq_true_eq] at hq
  have he:e=((m+j:Nat):Int):=by omega
  have hm0:0<m:=by omega
  subst he
  obtain⟨lo,hlo⟩:∃ lo,lo=m-4:=⟨_,rfl⟩
  have hmx:max (((m+j:Nat):Int)-4) (j:Int)=((lo+j:Nat):Int):=by omega
  have hch:=rdv_chunk d hd m h1
  rw[← hlo] at hch
  have hst:=jek (B:=10000) (by omega) h3
  rw[hch.1,hch.2] at hst
  have hbd:∀ i,lo+i≤m→rdv ((d.take (lo+i)).drop lo)<10000:=fun i hi=>by
   have hl1:((d.take (lo+i)).drop lo).length≤4:=by rw[jjx,jjk];omega
   have:=jfm (s:=(d.take (lo+i)).drop lo) (fun c hc=>hd c (jjp (jjo hc)))
   have h2:(10:Nat)^((d.take (lo+i)).drop lo).length≤10^4:=ji2 (by omega) hl1
   omega
  have hnx:∀ i,lo+i<m→rdv ((d.take (lo+(i+1))).drop lo)=rdv ((d.take (lo+i)).drop lo)*10+((d.getD (lo+i) 0).toNat-48):=fun i hi=>by
   rw[← Nat.add_assoc]
   exact rdv_next d lo (lo+i) (by omega) (by omega)
  have hx0:rdv ((d.take (lo+0)).drop lo)=0:=by
   have hnil:(d.take lo).drop lo=[]:=List.drop_eq_nil_of_le (by rw[jjk];omega)
   rw[Nat.add_zero,hnil];rfl
  refine V.r0 hmx ?_
  refine jac (0:Nat) (fun i=>lo+i≤m) (fun i=>m-(lo+i)) (fun i=>[(7,.int .i64 ((lo+i+j:Nat):Int)),(6,.int .i64 ((rdv ((d.take (lo+i)).drop lo):Nat):Int))]) (fun _=>[]) ?_ ?_ ?_
  ·rw[hx0]
   exact V.wk
  ·show lo+0≤m
   omega
  intro i hi
  have hi2:=hbd i hi
  (conv=>whnf)
  refine V.st ?_
  refine V.br (fun hq2=>?_) (fun hq2=>?_)
  ·rw[decide_eq_true_eq] at hq2
   have hn2:=hnx i (by omega)
   have hgi:=hg (lo+i)
   have hdc:isDig (d.getD (lo+i) 0)=true:=hd _ (by rw[jje,jjh (by omega)];exact List.getElem_mem _)
   have hdl2:=(dig_lo _).1 hdc
   have hi3:=hbd (i+1) (by omega)
   generalize d.getD (lo+i) 0=c at *
   have hkt:((lo+i+j:Nat):Int).toNat=lo+i+j:=by omega
   have hkc:(((lo+i+j:Nat):Int)+1)=((lo+(i+1)+j:Nat):Int):=by omega
   have hsum:((rdv ((d.take (lo+i)).drop lo):Nat):Int)*10+((c.toNat:Int)-48)=((rdv ((d.take (lo+(i+1))).drop lo):Nat):Int):=by
    rw[hn2];omega
   refine V.r0 (V.a4 hkt hgi hkc hsum) ?_
   exact⟨i+1,by omega,by omega,V.wk⟩
  ·rw[decide_eq_false_iff_not] at hq2
   have hmi:lo+i=m:=by omega
   rw[hmi]
   have hl2:(out++[((rdv ((d.take m).drop lo):Nat):Int)]).length=out.length+1:=by simp
   have hl3:out.length+(List.take 1 (List.drop 0 [((rdv ((d.take m).drop lo):Nat):Int)])).length=(out++[((rdv ((d.take m).drop lo):Nat):Int)]).length:=by simp
   have hdg:Dg 10000 (out++[((rdv ((d.take m).drop lo):Nat):Int)]):=jah h4 (jav ⟨by omega,by have:=hbd i hi;rw[hmi] at this;omega⟩)
   refine V.r0 hl3 ?_
   try refine And.intro (fun _=>⟨trivial,by omega⟩) ?_
   refine V.r0 hl3 ?_
   exact⟨(((m+j:Nat):Int)-4,lo,out++[((rdv ((d.take m).drop lo):Nat):Int)]),⟨by dsimp only;omega,by dsimp only;omega,hst,hdg,by dsimp only;omega⟩,by dsimp only;omega,V.wk⟩
 ·rw[decide_eq_false_iff_not] at hq
  have hm0:m=0:=by omega
  subst hm0
  have hv:val 10000 out=((rdv d:Nat):Int):=by
   rw[List.take_zero,show rdv []=0 from rfl] at h3
   simpa using h3
  have hmd:=jeG neg out h4 (by omega)
  rw[hv] at hmd
  have e1:decide ((j:Int)=1)=neg:=by
   cases neg with
   | true=>rw[if_pos rfl] at hj;rw[hj];rfl
   | false=>rw[if_neg (by simp)] at hj;rw[hj];rfl
  refine V.r1 (V.a2 @e1 @jjA) hmd ?_
  exact Fin.of rfl
theorem ja5 (x y:Int)(hx:Sm 40000000 x)(hy:Sm 40000000 y):Cl 109 [plD x,plD y] (plD (x*y)):=by
 unfold Sm at hx hy
 have hl:=jbO (B:=10000) (by omega) x.natAbs y.natAbs
 have hp:=jey (mg 10000 x.natAbs) (mg 10000 y.natAbs) (by omega) (by omega) (mg_dg (by omega) _) (fun j=>by
  have:=jal (B:=10000) (by omega) (mg_dg (B:=10000) (by omega) y.natAbs) j
  omega)
 rw[jaE (by omega),jaE (by omega),← jiW,jiK] at hp
 have hm:=jc9 (!(decide (x<0) == decide (y<0))) (x.natAbs*y.natAbs) (by omega)
 have e:(if (!(decide (x<0) == decide (y<0)))=true then -((x.natAbs*y.natAbs:Nat):Int) else ((x.natAbs*y.natAbs:Nat):Int))=x*y:=by
  rw[jiW]
  by_cases h:x<0
  ·have e1:(x.natAbs:Int) = -x:=by omega
   by_cases h2:y<0
   ·have e2:(y.natAbs:Int) = -y:=by omega
    rw[e1,e2];simp[h,h2,Int.neg_mul_neg]
   ·have e2:(y.natAbs:Int)=y:=by omega
    rw[e1,e2];simp[h,h2,Int.neg_mul]
  ·have e1:(x.natAbs:Int)=x:=by omega
   by_cases h2:y<0
   ·have e2:(y.natAbs:Int) = -y:=by omega
    rw[e1,e2];simp[h,h2,Int.mul_neg]
   ·have e2:(y.natAbs:Int)=y:=by omega
    rw[e1,e2];simp[h,h2]
 rw[e] at hm
 rw[show plD x = .agg [.bool (decide (x<0)),.ints .i64 (mg 10000 x.natAbs)] from rfl,show plD y = .agg [.bool (decide (y<0)),.ints .i64 (mg 10000 y.natAbs)] from rfl]
 refine V.en tbOk Tryz.func109 ?_
 (conv=>whnf)
 refine V.st ?_
 refine⟨(V.tk [0,1,2,3,4,5,6,7,8] (V.e1 9 [4,3,2,1,0] (V.e1 10 [] (V.e1 11 [] .done)))),[],V.pok,.go (jad ?_)⟩
 (conv=>whnf)
 refine V.st ?_
 repeat ((try ((with_reducible refine .ext ?_);(conv=>whnf)));(with_reducible refine jaa (r:=?_) ?_ ?_);rotate_left;(focus (first|exact(hp)|exact(hm)));(conv=>whnf);refine V.st ?_)
 exact Fin.of rfl
theorem order01_c (x y:Int)(hx:Sm 80000000 x)(hy:Sm 80000000 y):Cl 108 [plD x,plD y] (.int .i64 (x-y).sign):=by
 have hm:=minus_c x y (hx.mono (by omega)) (hy.mono (by omega))
 have hn:=jb2 (B:=10000) (n:=(x-y).natAbs) (by omega)
 have hz:Sm 80000001 (x-y):=by rw[Int.sub_eq_add_neg];exact hx.add hy.neg
 unfold Sm at hz
 rw[show plD (x-y) = .agg [.bool (decide (x-y<0)),.ints .i64 (mg 10000 (x-y).natAbs)] from rfl] at hm
 generalize x-y=z at *
 generalize mg 10000 z.natAbs=xs at *
 refine V.en tbOk Tryz.func108 ?_
 (conv=>whnf)
 refine V.st ?_
 repeat ((try ((with_reducible refine .ext ?_);(conv=>whnf)));(with_reducible refine jaa (r:=?_) ?_ ?_);rotate_left;(focus (first|exact(hm)));(conv=>whnf);refine V.st ?_)
 refine V.br (fun hq=>?_) (fun hq=>?_)
 ·rw[decide_eq_true_eq] at hq
  (conv=>whnf)
  refine V.st ?_
  exact Fin.of (by rw[ji9 hq])
 ·rw[decide_eq_false_iff_not] at hq
  (conv=>whnf)
  refine V.st ?_
  refine V.br (fun hq2=>?_) (fun hq2=>?_)
  ·rw[decide_eq_true_eq] at hq2
   have h0:z≠0:=fun e=>by
    have:=hn.2 (by rw[e];rfl)
    rw[this] at hq2;simp at hq2
   (conv=>whnf)
   refine V.st ?_
   exact Fin.of (by rw[jja (by omega)])
  ·rw[decide_eq_false_iff_not] at hq2
   have h0:=hn.1 (jjf.1 (by omega))
   (conv=>whnf)
   refine V.st ?_
   exact Fin.of (by rw[show z=0 by omega];rfl)
def Q4 (k:Nat)(q:Rat):Prop:=Sm k q.num∧Sm k (q.den:Int)
theorem Q4.mono {k l:Nat}{q:Rat}(h:Q4 k q)(hl:k≤l):Q4 l q:=⟨h.1.mono hl,h.2.mono hl⟩
theorem Q4.neg {k:Nat}{q:Rat}(h:Q4 k q):Q4 k (-q):=⟨by rw[Rat.neg_num];exact h.1.neg,by rw[Rat.neg_den];exact h.2⟩
theorem Q4.of {k:Nat}{n d:Int}(hn:Sm k n)(hd:Sm k d)(hd0:d≠0):Q4 k (Rat.divInt n d):=by
 have h1:=jhz n d hd0
 have h2:=jhA n d hd0
 have h3:=jby (if d<0 then -n else n) (Int.gcd (if d<0 then -n else n) (if d<0 then -d else d))
 have h4:=jby (if d<0 then -d else d) (Int.gcd (if d<0 then -n else n) (if d<0 then -d else d))
 rw[h1] at h3
 rw[h2] at h4
 have e1:(if d<0 then -n else n).natAbs=n.natAbs:=by split<;>simp
 have e2:(if d<0 then -d else d).natAbs=d.natAbs:=by split<;>simp
 exact⟨hn.le (by omega),hd.le (by omega)⟩
theorem plN (n:Nat):plD (n:Int) = .agg [.bool false,.ints .i64 (mg 10000 n)]:=by
 unfold plD
 rw[decide_eq_false (by omega),ji1]
theorem jft (x y:Rat):x*y=Rat.divInt (x.num*y.num) ((x.den:Int)*(y.den:Int)):=by
 conv=>lhs;rw[← jjc x,← jjc y]
 rw[Rat.divInt_mul_divInt]
theorem jd2 (x:Rat):(x.den:Int)≠0:=by have:=x.den_pos;omega
theorem times02_c (x y:Rat)(hx:Q4 40000000 x)(hy:Q4 40000000 y):Cl 91 [raD x,raD y] (raD (x*y)):=by
 have h1:=ja5 x.num y.num hx.1 hy.1
 have h2:=ja5 x.den y.den hx.2 hy.2
 have h3:=jeg (x.num*y.num) ((x.den:Int)*(y.den:Int)) (hx.1.mul hy.1) (hx.2.mul hy.2) (Int.mul_ne_zero (jd2 x) (jd2 y))
 rw[← jft] at h3
 rw[plN,plN] at h2
 refine V.en tbOk Tryz.func91 ?_
 (conv=>whnf)
 refine V.st ?_
 refine⟨(V.tk [0,1,2,3,5,6,7,8] (V.e1 4 [8,7,6,5] (V.e1 9 [] (V.e1 10 [] (V.e1 11 [] .done))))),[],V.pok,.go (jad ?_)⟩
 (conv=>whnf)
 refine V.st ?_
 repeat ((try ((with_reducible refine .ext ?_);(conv=>whnf)));(with_reducible refine jaa (r:=?_) ?_ ?_);rotate_left;(focus (first|exact(h1)|exact(h2)|exact(h3)));(conv=>whnf);refine V.st ?_)
 exact Fin.of rfl
theorem order02_c (x y:Rat)(hx:Q4 40000000 x)(hy:Q4 40000000 y):Cl 65 [raD x,raD y] (.int .i64 (ordQ x y)):=by
 have h1:=ja5 x.num y.den hx.1 hy.2
 have h2:=ja5 y.num x.den hy.1 hx.2
 have h3:=order01_c (x.num*y.den) (y.num*x.den) (hx.1.mul hy.2) (hy.1.mul hx.2)
 rw[Int.sub_eq_add_neg,jeC] at h3
 rw[plN] at h1 h2
 refine V.en tbOk Tryz.func65 ?_
 (conv=>whnf)
 refine V.st ?_
 refine⟨(V.tk [0,1,2,3,5,6,7,8] (V.e1 4 [8,7,6,5] (V.e1 9 [] (V.e1 10 [] (V.tk [11] .done))))),[],V.pok,.go (jad ?_)⟩
 (conv=>whnf)
 refine V.st ?_
 repeat ((try ((with_reducible refine .ext ?_);(conv=>whnf)));(with_reducible refine jaa (r:=?_) ?_ ?_);rotate_left;(focus (first|exact(h1)|exact(h2)|exact(h3)));(conv=>whnf);refine V.st ?_)
 exact Fin.of rfl
theorem Q4.mul {k l:Nat}{x y:Rat}(h:Q4 k x)(g:Q4 l y):Q4 (k+l) (x*y):=by
 rw[jft]
 exact Q4.of (h.1.mul g.1) (h.2.mul g.2) (Int.mul_ne_zero (jd2 x) (jd2 y))
theorem jhZ (x y:Rat):x+y=Rat.divInt (x.num*y.den+y.num*x.den) ((x.den:Int)*(y.den:Int)):=by
 conv=>lhs;rw[← jjc x,← jjc y]
 rw[Rat.divInt_add_divInt _ _ (jd2 x) (jd2 y)]
theorem plus02_c (x y:Rat)(hx:Q4 30000000 x)(hy:Q4 30000000 y):Cl 90 [raD x,raD y] (raD (x+y)):=by
 have h1:=ja5 x.num y.den (hx.1.mono (by omega)) (hy.2.mono (by omega))
 have h2:=ja5 y.num x.den (hy.1.mono (by omega)) (hx.2.mono (by omega))
 have z1:Sm 60000000 (x.num*(y.den:Int)):=hx.1.mul hy.2
 have z2:Sm 60000000 (y.num*(x.den:Int)):=hy.1.mul hx.2
 have z3:Sm 60000000 ((x.den:Int)*(y.den:Int)):=hx.2.mul hy.2
 have h3:=jgw _ _ (z1.mono (by omega)) (z2.mono (by omega))
 have h4:=ja5 x.den y.den (hx.2.mono (by omega)) (hy.2.mono (by omega))
 have h5:=jeg (x.num*y.den+y.num*x.den) ((x.den:Int)*(y.den:Int)) ((z1.add z2).mono (by omega)) (z3.mono (by omega)) (Int.mul_ne_zero (jd2 x) (jd2 y))
 rw[← jhZ] at h5
 rw[plN] at h1 h2
 rw[plN,plN] at h4
 generalize x.num*y.den+y.num*x.den=S at *
 clear z1 z2 z3
 refine V.en tbOk Tryz.func90 ?_
 (conv=>whnf)
 refine V.st ?_
 refine⟨(V.tk [0,1,2,3,5,6,7,8] (.ev (.cons 4 [8,7,6,5] (.ev (.cons 9 [] (.ev (.cons 10 [] (V.e1 11 [] (V.e1 12 [] .done)) (.cons 11 [] (V.e1 10 [] (V.e1 12 [] .done)) .nil))) (.cons 11 [8,7,6,5] (V.e1 9 [] (V.e1 10 [] (V.e1 12 [] .done))) .nil))) (.cons 11 [8,7,6,5,3,2,1,0] (V.e1 4 [8,7,6,5] (V.e1 9 [] (V.e1 10 [] (V.e1 12 [] .done)))) .nil)))),[],V.pok,?_⟩
 refine jab [(5,.box 5 0)] [(5,.box [.bool (decide (S<0)),.ints .i64 (mg 10000 S.natAbs)])] ?_ ?_
 ·exact V.d3 @jiI h1 h2 h3
 (conv=>whnf)
 refine V.st ?_
 refine⟨(V.tk [0,1,2,3,4] (V.e1 5 [0] (V.e1 6 [] (V.e1 7 [] .done)))),[],V.pok,.go (jad ?_)⟩
 (conv=>whnf)
 refine V.st ?_
 repeat ((try ((with_reducible refine .ext ?_);(conv=>whnf)));(with_reducible refine jaa (r:=?_) ?_ ?_);rotate_left;(focus (first|exact(h4)|exact(h5)));(conv=>whnf);refine V.st ?_)
 exact Fin.of rfl
theorem jgu (s:List UInt8)(hs:s.length≤281474976710656):Cl 105 [.str s] (.bool (okW s)):=by
 obtain⟨d,j,neg,S,e1,_⟩:=sg_of s
 rw[e1]
 exact right01_g s d j neg S hs
theorem in01_c (s:List UInt8)(h:okW s=true):Cl 73 [.str s] (plD (wval s)):=by
 obtain⟨d,j,neg,S,e1,e2⟩:=sg_of s
 rw[e2]
 rw[e1] at h
 unfold okD at h
 simp only[jiD,Bool.not_eq_true',jiU,decide_eq_false_iff_not,jjd] at h
 exact in01_g s d j neg S h.1.2 (by omega) (by have:=S.hl;omega)
theorem jdL {s:List UInt8}(h:okW s=true):Sm 151 (wval s):=by
 obtain⟨d,j,neg,S,e1,e2⟩:=sg_of s
 rw[e1] at h
 unfold okD at h
 simp only[jiD,Bool.not_eq_true',jiU,decide_eq_false_iff_not,jjd] at h
 have hlt:=jfm (s:=d) h.1.2
 have h2:∀ k,d.length≤4*k→rdv d<10000^k:=fun k hk=>by
  refine jiQ hlt ?_
  rw[show (10000:Nat)=10^4 from rfl,← Nat.pow_mul]
  exact ji2 (by omega) hk
 have e:(wval s).natAbs=rdv d:=by
  rw[e2];split<;>omega
 unfold Sm
 rw[e]
 exact jaw (by omega) (h2 151 (by omega))
theorem jcf (s t : List UInt8) (hs : s.length ≤ 281474976710656) (ht : t.length ≤ 281474976710656) : Cl 63 [.agg [.str s, .str t]] (.bool (okP s t)) := by
  have r1 := jgu s hs
  have r2 := jgu t ht
  by_cases h1 : okW s = true
  · rw [h1] at r1
    by_cases h2 : okW t = true
    · rw [h2] at r2
      have i1 := in01_c s h1
      have i2 := in01_c t h2
      have g1 := jeV (wval s) (wval t) ((jdL h1).mono (by omega)) ((jdL h2).mono (by omega))
      have hz := jb2 (B := 10000) (n := (wval t).natAbs) (by omega)
      have gl : Sm 151 (Int.gcd (wval s) (wval t) : Int) := by
        by_cases h0 : wval t = 0
        · rw [h0, Int.gcd_zero_right]
          exact (jdL h1).le (by omega)
        · exact (jdL h2).le (by
            rw [ji1]
            exact Nat.le_of_dvd (by omega) (Int.ofNat_dvd_left.1 (Int.gcd_dvd_right _ _)))
      have x1 := text_c _ (gl.mono (by omega))
      have hp : okP s t = (decide (0 < wval t) && decide (decZ (Int.gcd (wval s) (wval t) : Int) = [49])) := by
        unfold okP
        rw [h1, h2, Bool.true_and, Bool.true_and]
        congr 1
        refine decide_eq_decide.2 ⟨fun h => ?_, fun h => ?_⟩
        · rw [show Int.gcd (wval s) (wval t) = 1 from h]; decide
        · have := jbl (Int.gcd (wval s) (wval t) : Int)
          rw [h] at this
          have e49 : wval [49] = 1 := by decide
          rw [e49] at this
          show Int.gcd (wval s) (wval t) = 1
          omega
      rw [hp]
      clear hp gl
      generalize wval s = x at *
      generalize wval t = y at *
      generalize (Int.gcd x y : Int) = g at *
      generalize decZ g = gt at *
      have hy : (decide (y < 0) || decide ((((mg 10000 y.natAbs).length : Nat) : Int) = 0)) = !decide (0 < y) := by
        rw [Bool.eq_iff_iff]
        simp only [jiT, decide_eq_true_eq, Bool.not_eq_true', decide_eq_false_iff_not]
        constructor
        · rintro (h | h)
          · omega
          · have : mg 10000 y.natAbs = [] := jjf.1 (by omega)
            have := hz.1 this
            omega
        · intro h
          by_cases h0 : y < 0
          · exact .inl h0
          · right
            have : mg 10000 y.natAbs = [] := hz.2 (by omega)
            rw [this]; rfl
      unfold plD at *
      refine V.en tbOk Tryz.func63 ?_
      (conv => whnf)
      refine V.st ?_
      repeat ((try ((with_reducible refine .ext ?_); (conv => whnf))); (with_reducible refine jaa (r := ?_) ?_ ?_); rotate_left; (focus (first | exact (r1) | exact (r2))); (conv => whnf); refine V.st ?_)
      refine ⟨Pq59z, [], V.pok, ?_⟩
      refine jab [(3, .box 3 0), (4, .box 4 0)] [(3, .box [.bool (decide (x < 0)), .ints .i64 (mg 10000 x.natAbs)]), (4, .box [.bool (decide (y < 0)), .ints .i64 (mg 10000 y.natAbs)])] ?_ ?_
      · exact V.d2 @jiI i1 i2
      refine V.r0 hy ?_
      refine V.br (fun hq => ?_) (fun hq => ?_)
      · simp only [Bool.not_eq_true', decide_eq_false_iff_not] at hq
        rw [decide_eq_false hq, Bool.false_and]
        (conv => whnf)
        refine V.st ?_
        exact Fin.of rfl
      · simp only [Bool.not_eq_false', decide_eq_true_eq] at hq
        rw [decide_eq_true hq, Bool.true_and]
        (conv => whnf)
        refine V.st ?_
        repeat ((try ((with_reducible refine .ext ?_); (conv => whnf))); (with_reducible refine jaa (r := ?_) ?_ ?_); rotate_left; (focus (first | exact (g1) | exact (x1))); (conv => whnf); refine V.st ?_)
        exact Fin.of rfl
    · rw [Bool.eq_false_iff.2 h2] at r2
      have hp : okP s t = false := by unfold okP; rw [Bool.eq_false_iff.2 h2, Bool.and_false, Bool.false_and, Bool.false_and]
      rw [hp]
      refine V.en tbOk Tryz.func63 ?_
      (conv => whnf)
      refine V.st ?_
      repeat ((try ((with_reducible refine .ext ?_); (conv => whnf))); (with_reducible refine jaa (r := ?_) ?_ ?_); rotate_left; (focus (first | exact (r1) | exact (r2))); (conv => whnf); refine V.st ?_)
      exact Fin.of rfl
  · rw [Bool.eq_false_iff.2 h1] at r1
    have hp : okP s t = false := by unfold okP; rw [Bool.eq_false_iff.2 h1, Bool.false_and, Bool.false_and, Bool.false_and]
    rw [hp]
    refine V.en tbOk Tryz.func63 ?_
    (conv => whnf)
    refine V.st ?_
    repeat ((try ((with_reducible refine .ext ?_); (conv => whnf))); (with_reducible refine jaa (r := ?_) ?_ ?_); rotate_left; (focus (first | exact (r1) | exact (r2))); (conv => whnf); refine V.st ?_)
    refine V.br (fun hq => ?_) (fun hq => ?_)
    · (conv => whnf)
      refine V.st ?_
      exact Fin.of rfl
    · simp at hq
theorem q4_qv {s t:List UInt8}(h:okP s t=true):Q4 151 (qv s t):=by
 obtain⟨h1,h2,h3,h4⟩:=jfs h
 obtain⟨p1,p2⟩:=jea h
 exact⟨by rw[p1];exact jdL h1,by rw[p2];exact(jdL h2).le (by omega)⟩
theorem jfv (s t:List UInt8)(h:okP s t=true):Cl 64 [.agg [.str s,.str t]] (raD (qv s t)):=by
 obtain⟨h1,h2,h3,h4⟩:=jfs h
 obtain⟨p1,p2⟩:=jea h
 have i1:=in01_c s h1
 have i2:=in01_c t h2
 unfold raD
 rw[p1,p2]
 unfold plD at i1 i2
 rw[decide_eq_false (show ¬ wval t<0 by omega)] at i2
 refine V.en tbOk Tryz.func64 ?_
 (conv=>whnf)
 refine V.st ?_
 refine⟨(V.tk [0,1,3,4] (V.e1 2 [4,3] (V.e1 5 [] (V.tk [6] (V.e1 7 [] .done))))),[],V.pok,.go (jad ?_)⟩
 (conv=>whnf)
 refine V.st ?_
 repeat ((try ((with_reducible refine .ext ?_);(conv=>whnf)));(with_reducible refine jaa (r:=?_) ?_ ?_);rotate_left;(focus (first|exact(i1)|exact(i2)));(conv=>whnf);refine V.st ?_)
 exact Fin.of rfl
theorem jbC {s t:List UInt8}(h:okP s t=true):s.length≤281474976710656∧t.length≤281474976710656:=by
 obtain⟨h1,h2,_,_⟩:=jfs h
 have l1:=(jb9 h1).1
 have l2:=(jb9 h2).1
 omega
theorem pow_4 (k:Nat):(10000:Nat)^k=10^(4*k):=by rw[show (10000:Nat)=10^4 from rfl,← Nat.pow_mul]
theorem sm_nat {x:Nat}{k:Nat}(hk:k≤90000000)(h:x<10^(4*k)):(mg 10000 x).length≤90000000:=
 jiS (jaw (k:=k) (by omega) (by rw[pow_4];exact h)) hk
theorem sm_fq {n:Nat}{q:Rat}(h:Fq n q)(h6:n≤600):Sm 90000000 q.num∧Sm 90000000 (q.den:Int):=by
 have h2:=h.mono (n:=4*150) (by omega)
 obtain⟨k,hk⟩:∃ k,150=k:=⟨_,rfl⟩
 rw[hk] at h2
 exact⟨sm_nat (by omega) h2.1,by unfold Sm;rw[ji1];exact sm_nat (by omega) h2.2⟩
theorem radd (s t u v:List UInt8)(h:okP s t=true)(g:okP u v=true)(hn:Sm 90000000 (qv s t+qv u v).num)(hd:Sm 90000000 ((qv s t+qv u v).den:Int)):Cl 49 [.agg [.str s,.str t],.agg [.str u,.str v]] (frR (qv s t+qv u v)):=by
 have r1:=jcf s t (jbC h).1 (jbC h).2
 have r2:=jcf u v (jbC g).1 (jbC g).2
 rw[h] at r1
 rw[g] at r2
 have i1:=jfv s t h
 have i2:=jfv u v g
 have o:=plus02_c (qv s t) (qv u v) ((q4_qv h).mono (by omega)) ((q4_qv g).mono (by omega))
 have w:=jf2 (qv s t+qv u v) hn hd
 generalize qv s t+qv u v=q at *
 generalize qv s t=q1 at *
 generalize qv u v=q2 at *
 unfold frR at w ⊢
 refine V.en tbOk Tryz.func49 ?_
 (conv=>whnf)
 refine V.st ?_
 repeat ((try ((with_reducible refine .ext ?_);(conv=>whnf)));(with_reducible refine jaa (r:=?_) ?_ ?_);rotate_left;(focus (first|exact(r1)|exact(r2)));(conv=>whnf);refine V.st ?_)
 refine⟨Pq70z,[],V.pok,.go (jad ?_)⟩
 (conv=>whnf)
 refine V.st ?_
 repeat ((try ((with_reducible refine .ext ?_);(conv=>whnf)));(with_reducible refine jaa (r:=?_) ?_ ?_);rotate_left;(focus (first|exact(i1)|exact(i2)|exact(o)|exact(w)));(conv=>whnf);refine V.st ?_)
 exact Fin.of rfl
theorem rmul (s t u v:List UInt8)(h:okP s t=true)(g:okP u v=true)(hn:Sm 90000000 (qv s t*qv u v).num)(hd:Sm 90000000 ((qv s t*qv u v).den:Int)):Cl 50 [.agg [.str s,.str t],.agg [.str u,.str v]] (frR (qv s t*qv u v)):=by
 have r1:=jcf s t (jbC h).1 (jbC h).2
 have r2:=jcf u v (jbC g).1 (jbC g).2
 rw[h] at r1
 rw[g] at r2
 have i1:=jfv s t h
 have i2:=jfv u v g
 have o:=times02_c (qv s t) (qv u v) ((q4_qv h).mono (by omega)) ((q4_qv g).mono (by omega))
 have w:=jf2 (qv s t*qv u v) hn hd
 generalize qv s t*qv u v=q at *
 generalize qv s t=q1 at *
 generalize qv u v=q2 at *
 unfold frR at w ⊢
 refine V.en tbOk Tryz.func50 ?_
 (conv=>whnf)
 refine V.st ?_
 repeat ((try ((with_reducible refine .ext ?_);(conv=>whnf)));(with_reducible refine jaa (r:=?_) ?_ ?_);rotate_left;(focus (first|exact(r1)|exact(r2)));(conv=>whnf);refine V.st ?_)
 refine⟨Pq70z,[],V.pok,.go (jad ?_)⟩
 (conv=>whnf)
 refine V.st ?_
 repeat ((try ((with_reducible refine .ext ?_);(conv=>whnf)));(with_reducible refine jaa (r:=?_) ?_ ?_);rotate_left;(focus (first|exact(i1)|exact(i2)|exact(o)|exact(w)));(conv=>whnf);refine V.st ?_)
 exact Fin.of rfl
theorem zradd {a b:Nat}{p q:Rat}(h:Fq a p)(g:Fq b q)(ha:0<a)(hb:0<b)(hab:a+b+1≤600):Cl 49 [frT p,frT q] (.tup [frT (p+q),.int .i64 0]):=by
 obtain⟨o1,e1⟩:=jaL (h.ok ha (by omega))
 obtain⟨o2,e2⟩:=jaL (g.ok hb (by omega))
 have hs:=h.add g
 have hm:=sm_fq hs (by omega)
 have c:=radd _ _ _ _ o1 o2 (by rw[e1,e2];exact hm.1) (by rw[e1,e2];exact hm.2)
 rw[e1,e2,jdA (hs.ok (by omega) (by omega))] at c
 exact c
theorem zrmul {a b:Nat}{p q:Rat}(h:Fq a p)(g:Fq b q)(ha:0<a)(hb:0<b)(hab:a+b+1≤600):Cl 50 [frT p,frT q] (.tup [frT (p*q),.int .i64 0]):=by
 obtain⟨o1,e1⟩:=jaL (h.ok ha (by omega))
 obtain⟨o2,e2⟩:=jaL (g.ok hb (by omega))
 have hs:=h.mul g
 have hm:=sm_fq hs (by omega)
 have c:=rmul _ _ _ _ o1 o2 (by rw[e1,e2];exact hm.1) (by rw[e1,e2];exact hm.2)
 rw[e1,e2,jdA (hs.ok (by omega) (by omega))] at c
 exact c
theorem y_one:Fq 1 1:=⟨by decide,by decide⟩
theorem y_small {n m:Int}(hn : -9223372036854775807≤n∧n≤9223372036854775807)(hm:1≤m∧m≤9223372036854775807):Fq 20 (Rat.divInt n m):=by
 obtain⟨d,rfl⟩:∃ d:Nat,m=d:=⟨m.toNat,by omega⟩
 exact jaN (by omega) (by omega) (by omega)
theorem y_of {n m:Int}(hn : -9223372036854775807≤n∧n≤9223372036854775807)(hm:1≤m∧m≤9223372036854775807):Cl 97 [.int .i64 n,.int .i64 m] (.tup [frT (Rat.divInt n m),.int .i64 0]):=by
 rw[← jdA ((y_small hn hm).ok (by omega) (by omega))]
 exact of_c n m (by simp[InR,V.lo,V.hi];omega) (by simp[InR,V.lo,V.hi];omega) (by omega)
theorem y_rof {n m:Int}(hn : -9223372036854775807≤n∧n≤9223372036854775807)(hm:1≤m∧m≤9223372036854775807):Cl 46 [.int .i64 n,.int .i64 m] (.tup [frT (Rat.divInt n m),.int .i64 0]):=by
 rw[← jdA ((y_small hn hm).ok (by omega) (by omega))]
 exact of02_c n m (by simp[InR,V.lo,V.hi];omega) (by simp[InR,V.lo,V.hi];omega) (by omega)
def sm (f:Nat→Rat):Nat→Rat
 | 0=>0
 | k+1=>sm f k+f k
theorem jbF {f g:Nat→Rat} : ∀ {k:Nat},(∀ i,i<k→f i=g i)→sm f k=sm g k
 | 0,_=>rfl
 | k+1,h=>by
  simp only[sm]
  rw[jbF (k:=k) fun i hi=>h i (by omega),h k (by omega)]
theorem sm_add (f g:Nat→Rat):∀ k,sm (fun i=>f i+g i) k=sm f k+sm g k
 | 0=>by simp only[sm];grind
 | k+1=>by
  simp only[sm]
  rw[sm_add f g k]
  grind
theorem sm_mul (c:Rat)(f:Nat→Rat):∀ k,sm (fun i=>c*f i) k=c*sm f k
 | 0=>by simp only[sm];grind
 | k+1=>by
  simp only[sm]
  rw[sm_mul c f k]
  grind
theorem jd9 (c:Rat):∀ k:Nat,sm (fun _=>c) k=((k:Int):Rat)*c
 | 0=>by simp[sm]
 | k+1=>by
  simp only[sm]
  rw[jd9 c k,Int.natCast_add,Rat.intCast_add]
  grind
theorem sm_ind (R:Nat):∀ k,R≤k→sm (fun t=>if t<R then 1 else 0) k=((R:Int):Rat)
 | 0,h=>by
  have:R=0:=by omega
  subst this
  simp[sm]
 | k+1,h=>by
  simp only[sm]
  by_cases e:R=k+1
  ·subst e
   rw[if_pos (by omega),jbF (g:=fun _=>1) fun i hi=>if_pos (by omega),jd9,Int.natCast_add,Rat.intCast_add]
   grind
  ·rw[if_neg (by omega),sm_ind R k (by omega)]
   grind
theorem sm_le {f g:Nat→Rat} : ∀ {k:Nat},(∀ i,i<k→f i≤g i)→sm f k≤sm g k
 | 0,_=>Rat.le_refl
 | k+1,h=>by
  simp only[sm]
  have h1:=sm_le (k:=k) fun i hi=>h i (by omega)
  have h2:=h k (by omega)
  grind
theorem lvl {N b R t:Int}(hN:0<N)(h0:0≤R)(h1:R≤N)(t0:0≤t)(t1:t<N):(b*N+R-1-t)/N+1=b+(if t<R then 1 else 0):=by
 by_cases h:t<R
 ·rw[if_pos h,show b*N+R-1-t=(R-1-t)+N*b by rw[jiY];omega,Int.add_mul_ediv_left _ _ (by omega),Int.ediv_eq_zero_of_lt (by omega) (by omega)]
  omega
 ·rw[if_neg h,show b*N+R-1-t=(R-1-t+N)+N*(b-1) by rw[Int.mul_sub,Int.mul_one,jiY];omega,Int.add_mul_ediv_left _ _ (by omega),Int.ediv_eq_zero_of_lt (by omega) (by omega)]
  omega
def lvF (v:Int→Int→Int→Rat)(N:Nat)(P Q R:Int):Rat:=sm (fun t=>v ((P-1-t)/N+1) ((Q-1-t)/N+1) ((R-1-t)/N+1)) N
theorem jdU {N A B C:Nat}(hA:A≤N)(hB:B≤A)(hC:C≤B)(v0 v1 v2 v3:Rat) :
  sm (fun t=>if t<C then v3 else if t<B then v2 else if t<A then v1 else v0) N=(((N:Int):Rat)-((A:Int):Rat))*v0+(((A:Int):Rat)-((B:Int):Rat))*v1+(((B:Int):Rat)-((C:Int):Rat))*v2+((C:Int):Rat)*v3:=by
 have e:∀ t,(if t<C then v3 else if t<B then v2 else if t<A then v1 else v0)=v0+((v1-v0)*(if t<A then 1 else 0)+((v2-v1)*(if t<B then 1 else 0)+(v3-v2)*(if t<C then 1 else 0))):=fun t=>by
  by_cases h1:t<C
  ·rw[if_pos h1,if_pos h1,if_pos (show t<B by omega),if_pos (show t<A by omega)];grind
  ·rw[if_neg h1,if_neg h1]
   by_cases h2:t<B
   ·rw[if_pos h2,if_pos h2,if_pos (show t<A by omega)];grind
   ·rw[if_neg h2,if_neg h2]
    by_cases h3:t<A
    ·rw[if_pos h3,if_pos h3];grind
    ·rw[if_neg h3,if_neg h3];grind
 rw[jbF fun t _=>e t,sm_add,sm_add,sm_add,jd9,sm_mul,sm_mul,sm_mul,sm_ind A N hA,sm_ind B N (by omega),sm_ind C N (by omega)]
 grind
def ord3 (r0 r1 r2:Rat):List Int:=
 if r0<r1 then (if r0<r2 then (if r1<r2 then [2,1,0] else [1,2,0]) else [1,0,2])
 else (if r1<r2 then (if r0<r2 then [2,0,1] else [0,2,1]) else [0,1,2])
def ord2 (r0 r1:Rat):List Int:=if r0<r1 then [1,0] else [0,1]
def sel (r0 r1 r2:Rat)(i:Int):Rat:=if i=0 then r0 else if i=1 then r1 else r2
def bmp (b:Int×Int×Int)(i:Int):Int×Int×Int:=if i=0 then (b.1+1,b.2.1,b.2.2) else if i=1 then (b.1,b.2.1+1,b.2.2) else (b.1,b.2.1,b.2.2+1)
def vat (v:Int→Int→Int→Rat)(b:Int×Int×Int):Rat:=v b.1 b.2.1 b.2.2
def evO (v:Int→Int→Int→Rat)(b:Int×Int×Int)(r0 r1 r2:Rat)(i j k:Int):Rat:=
 (1-sel r0 r1 r2 i)*vat v b+(sel r0 r1 r2 i-sel r0 r1 r2 j)*vat v (bmp b i)+(sel r0 r1 r2 j-sel r0 r1 r2 k)*vat v (bmp (bmp b i) j)+sel r0 r1 r2 k*vat v (bmp (bmp (bmp b i) j) k)
def evL (v:Int→Int→Int→Rat)(b:Int×Int×Int)(r0 r1 r2:Rat)(o:List Int):Rat:=evO v b r0 r1 r2 (o.getD 0 0) (o.getD 1 0) (o.getD 2 0)
theorem lvlN {N R t:Nat}{b:Int}(hN:0<N)(h1:R≤N)(t1:t<N):(b*N+R-1-t)/N+1=b+(if t<R then 1 else 0):=by
 have h:=lvl (N:=N) (b:=b) (R:=R) (t:=t) (by omega) (by omega) (by omega) (by omega) (by omega)
 rw[h]
 by_cases g:t<R
 ·rw[if_pos g,if_pos (by omega)]
 ·rw[if_neg g,if_neg (by omega)]
theorem jdC {N:Nat}(h:0<N):((N:Int):Rat)≠0:=by
 intro e
 have:(N:Int)=0:=by exact_mod_cast e
 omega
theorem ev_210 {N A0 A1 A2:Nat}{b0 b1 b2:Int}(hN:0<N)(hA:A2≤N)(hB:A1≤A2)(hC:A0≤A1)(v:Int→Int→Int→Rat) :
  ((N:Int):Rat)*evO v (b0,b1,b2) (((A0:Int):Rat)/((N:Int):Rat)) (((A1:Int):Rat)/((N:Int):Rat)) (((A2:Int):Rat)/((N:Int):Rat)) 2 1 0=lvF v N (b0*N+A0) (b1*N+A1) (b2*N+A2):=by
 have hz:=jdC hN
 have key:=jdU hA hB hC (v b0 b1 b2) (v b0 b1 (b2+1)) (v b0 (b1+1) (b2+1)) (v (b0+1) (b1+1) (b2+1))
 unfold lvF
 rw[jbF (g:=fun t=>if t<A0 then v (b0+1) (b1+1) (b2+1) else if t<A1 then v b0 (b1+1) (b2+1) else if t<A2 then v b0 b1 (b2+1) else v b0 b1 b2) fun t ht=>by
  rw[lvlN hN (show A0≤N by omega) ht,lvlN hN (show A1≤N by omega) ht,lvlN hN (show A2≤N by omega) ht]
  by_cases h1:t<A0
  ·rw[if_pos h1,if_pos h1,if_pos (show t<A2 by omega),if_pos (show t<A1 by omega)]
  ·by_cases h2:t<A1
   ·rw[if_neg h1,if_neg h1,if_pos h2,if_pos h2,if_pos (show t<A2 by omega)]
    simp only[ji5]
   ·by_cases h3:t<A2
    ·rw[if_neg h1,if_neg h1,if_neg h2,if_neg h2,if_pos h3,if_pos h3]
     simp only[ji5]
    ·rw[if_neg h1,if_neg h1,if_neg h2,if_neg h2,if_neg h3,if_neg h3]
     simp only[ji5],key]
 simp only[evO,sel,bmp,vat]
 simp
 generalize v b0 b1 b2=w0
 generalize v b0 b1 (b2+1)=w1
 generalize v b0 (b1+1) (b2+1)=w2
 generalize v (b0+1) (b1+1) (b2+1)=w3
 grind
theorem ev_120 {N A0 A1 A2:Nat}{b0 b1 b2:Int}(hN:0<N)(hA:A1≤N)(hB:A2≤A1)(hC:A0≤A2)(v:Int→Int→Int→Rat) :
  ((N:Int):Rat)*evO v (b0,b1,b2) (((A0:Int):Rat)/((N:Int):Rat)) (((A1:Int):Rat)/((N:Int):Rat)) (((A2:Int):Rat)/((N:Int):Rat)) 1 2 0=lvF v N (b0*N+A0) (b1*N+A1) (b2*N+A2):=by
 have hz:=jdC hN
 have key:=jdU hA hB hC (v b0 b1 b2) (v b0 (b1+1) b2) (v b0 (b1+1) (b2+1)) (v (b0+1) (b1+1) (b2+1))
 unfold lvF
 rw[jbF (g:=fun t=>if t<A0 then v (b0+1) (b1+1) (b2+1) else if t<A2 then v b0 (b1+1) (b2+1) else if t<A1 then v b0 (b1+1) b2 else v b0 b1 b2) fun t ht=>by
  rw[lvlN hN (show A0≤N by omega) ht,lvlN hN (show A1≤N by omega) ht,lvlN hN (show A2≤N by omega) ht]
  by_cases h1:t<A0
  ·rw[if_pos h1,if_pos h1,if_pos (show t<A1 by omega),if_pos (show t<A2 by omega)]
  ·by_cases h2:t<A2
   ·rw[if_neg h1,if_neg h1,if_pos h2,if_pos h2,if_pos (show t<A1 by omega)]
    simp only[ji5]
   ·by_cases h3:t<A1
    ·rw[if_neg h1,if_neg h1,if_neg h2,if_neg h2,if_pos h3,if_pos h3]
     simp only[ji5]
    ·rw[if_neg h1,if_neg h1,if_neg h2,if_neg h2,if_neg h3,if_neg h3]
     simp only[ji5],key]
 simp only[evO,sel,bmp,vat]
 simp
 generalize v b0 b1 b2=w0
 generalize v b0 (b1+1) b2=w1
 generalize v b0 (b1+1) (b2+1)=w2
 generalize v (b0+1) (b1+1) (b2+1)=w3
 grind
theorem ev_102 {N A0 A1 A2:Nat}{b0 b1 b2:Int}(hN:0<N)(hA:A1≤N)(hB:A0≤A1)(hC:A2≤A0)(v:Int→Int→Int→Rat) :
  ((N:Int):Rat)*evO v (b0,b1,b2) (((A0:Int):Rat)/((N:Int):Rat)) (((A1:Int):Rat)/((N:Int):Rat)) (((A2:Int):Rat)/((N:Int):Rat)) 1 0 2=lvF v N (b0*N+A0) (b1*N+A1) (b2*N+A2):=by
 have hz:=jdC hN
 have key:=jdU hA hB hC (v b0 b1 b2) (v b0 (b1+1) b2) (v (b0+1) (b1+1) b2) (v (b0+1) (b1+1) (b2+1))
 unfold lvF
 rw[jbF (g:=fun t=>if t<A2 then v (b0+1) (b1+1) (b2+1) else if t<A0 then v (b0+1) (b1+1) b2 else if t<A1 then v b0 (b1+1) b2 else v b0 b1 b2) fun t ht=>by
  rw[lvlN hN (show A0≤N by omega) ht,lvlN hN (show A1≤N by omega) ht,lvlN hN (show A2≤N by omega) ht]
  by_cases h1:t<A2
  ·rw[if_pos h1,if_pos h1,if_pos (show t<A1 by omega),if_pos (show t<A0 by omega)]
  ·by_cases h2:t<A0
   ·rw[if_neg h1,if_neg h1,if_pos h2,if_pos h2,if_pos (show t<A1 by omega)]
    simp only[ji5]
   ·by_cases h3:t<A1
    ·rw[if_neg h1,if_neg h1,if_neg h2,if_neg h2,if_pos h3,if_pos h3]
     simp only[ji5]
    ·rw[if_neg h1,if_neg h1,if_neg h2,if_neg h2,if_neg h3,if_neg h3]
     simp only[ji5],key]
 simp only[evO,sel,bmp,vat]
 simp
 generalize v b0 b1 b2=w0
 generalize v b0 (b1+1) b2=w1
 generalize v (b0+1) (b1+1) b2=w2
 generalize v (b0+1) (b1+1) (b2+1)=w3
 grind
theorem ev_201 {N A0 A1 A2:Nat}{b0 b1 b2:Int}(hN:0<N)(hA:A2≤N)(hB:A0≤A2)(hC:A1≤A0)(v:Int→Int→Int→Rat) :
  ((N:Int):Rat)*evO v (b0,b1,b2) (((A0:Int):Rat)/((N:Int):Rat)) (((A1:Int):Rat)/((N:Int):Rat)) (((A2:Int):Rat)/((N:Int):Rat)) 2 0 1=lvF v N (b0*N+A0) (b1*N+A1) (b2*N+A2):=by
 have hz:=jdC hN
 have key:=jdU hA hB hC (v b0 b1 b2) (v b0 b1 (b2+1)) (v (b0+1) b1 (b2+1)) (v (b0+1) (b1+1) (b2+1))
 unfold lvF
 rw[jbF (g:=fun t=>if t<A1 then v (b0+1) (b1+1) (b2+1) else if t<A0 then v (b0+1) b1 (b2+1) else if t<A2 then v b0 b1 (b2+1) else v b0 b1 b2) fun t ht=>by
  rw[lvlN hN (show A0≤N by omega) ht,lvlN hN (show A1≤N by omega) ht,lvlN hN (show A2≤N by omega) ht]
  by_cases h1:t<A1
  ·rw[if_pos h1,if_pos h1,if_pos (show t<A2 by omega),if_pos (show t<A0 by omega)]
  ·by_cases h2:t<A0
   ·rw[if_neg h1,if_neg h1,if_pos h2,if_pos h2,if_pos (show t<A2 by omega)]
    simp only[ji5]
   ·by_cases h3:t<A2
    ·rw[if_neg h1,if_neg h1,if_neg h2,if_neg h2,if_pos h3,if_pos h3]
     simp only[ji5]
    ·rw[if_neg h1,if_neg h1,if_neg h2,if_neg h2,if_neg h3,if_neg h3]
     simp only[ji5],key]
 simp only[evO,sel,bmp,vat]
 simp
 generalize v b0 b1 b2=w0
 generalize v b0 b1 (b2+1)=w1
 generalize v (b0+1) b1 (b2+1)=w2
 generalize v (b0+1) (b1+1) (b2+1)=w3
 grind
theorem ev_021 {N A0 A1 A2:Nat}{b0 b1 b2:Int}(hN:0<N)(hA:A0≤N)(hB:A2≤A0)(hC:A1≤A2)(v:Int→Int→Int→Rat) :
  ((N:Int):Rat)*evO v (b0,b1,b2) (((A0:Int):Rat)/((N:Int):Rat)) (((A1:Int):Rat)/((N:Int):Rat)) (((A2:Int):Rat)/((N:Int):Rat)) 0 2 1=lvF v N (b0*N+A0) (b1*N+A1) (b2*N+A2):=by
 have hz:=jdC hN
 have key:=jdU hA hB hC (v b0 b1 b2) (v (b0+1) b1 b2) (v (b0+1) b1 (b2+1)) (v (b0+1) (b1+1) (b2+1))
 unfold lvF
 rw[jbF (g:=fun t=>if t<A1 then v (b0+1) (b1+1) (b2+1) else if t<A2 then v (b0+1) b1 (b2+1) else if t<A0 then v (b0+1) b1 b2 else v b0 b1 b2) fun t ht=>by
  rw[lvlN hN (show A0≤N by omega) ht,lvlN hN (show A1≤N by omega) ht,lvlN hN (show A2≤N by omega) ht]
  by_cases h1:t<A1
  ·rw[if_pos h1,if_pos h1,if_pos (show t<A0 by omega),if_pos (show t<A2 by omega)]
  ·by_cases h2:t<A2
   ·rw[if_neg h1,if_neg h1,if_pos h2,if_pos h2,if_pos (show t<A0 by omega)]
    simp only[ji5]
   ·by_cases h3:t<A0
    ·rw[if_neg h1,if_neg h1,if_neg h2,if_neg h2,if_pos h3,if_pos h3]
     simp only[ji5]
    ·rw[if_neg h1,if_neg h1,if_neg h2,if_neg h2,if_neg h3,if_neg h3]
     simp only[ji5],key]
 simp only[evO,sel,bmp,vat]
 simp
 generalize v b0 b1 b2=w0
 generalize v (b0+1) b1 b2=w1
 generalize v (b0+1) b1 (b2+1)=w2
 generalize v (b0+1) (b1+1) (b2+1)=w3
 grind
theorem ev_012 {N A0 A1 A2:Nat}{b0 b1 b2:Int}(hN:0<N)(hA:A0≤N)(hB:A1≤A0)(hC:A2≤A1)(v:Int→Int→Int→Rat) :
  ((N:Int):Rat)*evO v (b0,b1,b2) (((A0:Int):Rat)/((N:Int):Rat)) (((A1:Int):Rat)/((N:Int):Rat)) (((A2:Int):Rat)/((N:Int):Rat)) 0 1 2=lvF v N (b0*N+A0) (b1*N+A1) (b2*N+A2):=by
 have hz:=jdC hN
 have key:=jdU hA hB hC (v b0 b1 b2) (v (b0+1) b1 b2) (v (b0+1) (b1+1) b2) (v (b0+1) (b1+1) (b2+1))
 unfold lvF
 rw[jbF (g:=fun t=>if t<A2 then v (b0+1) (b1+1) (b2+1) else if t<A1 then v (b0+1) (b1+1) b2 else if t<A0 then v (b0+1) b1 b2 else v b0 b1 b2) fun t ht=>by
  rw[lvlN hN (show A0≤N by omega) ht,lvlN hN (show A1≤N by omega) ht,lvlN hN (show A2≤N by omega) ht]
  by_cases h1:t<A2
  ·rw[if_pos h1,if_pos h1,if_pos (show t<A0 by omega),if_pos (show t<A1 by omega)]
  ·by_cases h2:t<A1
   ·rw[if_neg h1,if_neg h1,if_pos h2,if_pos h2,if_pos (show t<A0 by omega)]
    simp only[ji5]
   ·by_cases h3:t<A0
    ·rw[if_neg h1,if_neg h1,if_neg h2,if_neg h2,if_pos h3,if_pos h3]
     simp only[ji5]
    ·rw[if_neg h1,if_neg h1,if_neg h2,if_neg h2,if_neg h3,if_neg h3]
     simp only[ji5],key]
 simp only[evO,sel,bmp,vat]
 simp
 generalize v b0 b1 b2=w0
 generalize v (b0+1) b1 b2=w1
 generalize v (b0+1) (b1+1) b2=w2
 generalize v (b0+1) (b1+1) (b2+1)=w3
 grind
theorem rlt {N A B:Nat}(hN:0<N):(((A:Int):Rat)/((N:Int):Rat)<((B:Int):Rat)/((N:Int):Rat))↔A<B:=by
 have h1:(0:Rat)<((N:Int):Rat):=by exact_mod_cast (show (0:Int)<N by omega)
 rw[Rat.div_lt_iff h1,Rat.div_mul_cancel (jdC hN)]
 constructor
 ·intro h
  have:(A:Int)<B:=by exact_mod_cast h
  omega
 ·intro h
  exact_mod_cast (show (A:Int)<B by omega)
theorem ev_main {N A0 A1 A2:Nat}{b0 b1 b2:Int}(hN:0<N)(h0:A0≤N)(h1:A1≤N)(h2:A2≤N)(v:Int→Int→Int→Rat) :
  ((N:Int):Rat)*evL v (b0,b1,b2) (((A0:Int):Rat)/((N:Int):Rat)) (((A1:Int):Rat)/((N:Int):Rat)) (((A2:Int):Rat)/((N:Int):Rat)) (ord3 (((A0:Int):Rat)/((N:Int):Rat)) (((A1:Int):Rat)/((N:Int):Rat)) (((A2:Int):Rat)/((N:Int):Rat)))=lvF v N (b0*N+A0) (b1*N+A1) (b2*N+A2):=by
 unfold ord3
 simp only[rlt hN]
 by_cases c1:A0<A1
 ·rw[if_pos c1]
  by_cases c2:A0<A2
  ·rw[if_pos c2]
   by_cases c3:A1<A2
   ·rw[if_pos c3]
    exact ev_210 hN h2 (by omega) (by omega) v
   ·rw[if_neg c3]
    exact ev_120 hN h1 (by omega) (by omega) v
  ·rw[if_neg c2]
   exact ev_102 hN h1 (by omega) (by omega) v
 ·rw[if_neg c1]
  by_cases c3:A1<A2
  ·rw[if_pos c3]
   by_cases c2:A0<A2
   ·rw[if_pos c2]
    exact ev_201 hN h2 (by omega) (by omega) v
   ·rw[if_neg c2]
    exact ev_021 hN h0 (by omega) (by omega) v
  ·rw[if_neg c3]
   exact ev_012 hN h0 (by omega) (by omega) v
theorem split_N {N:Nat}(hN:0<N)(P:Int):∃ (b:Int) (A:Nat),A<N∧P=b*N+A:=by
 have h1:=Int.emod_nonneg P (show (N:Int)≠0 by omega)
 have h2:=ji4 P (show (0:Int)<N by omega)
 have h3:=Int.mul_ediv_add_emod P N
 refine⟨P/N,(P%N).toNat,by omega,?_⟩
 rw[jiJ h1,jiY]
 omega
theorem lv_le {N:Nat}{v w:Int→Int→Int→Rat}{P Q R:Int}(h:∀ i j k:Int,(∃ t:Nat,t<N∧i=(P-1-t)/N+1∧j=(Q-1-t)/N+1∧k=(R-1-t)/N+1)→v i j k≤w i j k):lvF v N P Q R≤lvF w N P Q R:=
 sm_le fun t ht=>h _ _ _ ⟨t,ht,rfl,rfl,rfl⟩
theorem lv_const (c:Rat)(N:Nat)(P Q R:Int):lvF (fun _ _ _=>c) N P Q R=((N:Int):Rat)*c:=jd9 c N
theorem lvl_in {N t:Nat}{P m:Int}(hN:0<N)(ht:t<N)(h0:0≤P)(h1:P≤m*N):0≤(P-1-t)/N+1∧(P-1-t)/N+1≤m:=by
 have hN':(0:Int)<N:=by omega
 constructor
 ·have : -1≤(P-1-t)/N:=(Int.le_ediv_iff_mul_le hN').2 (by omega)
  omega
 ·have:(P-1-t)/N<m:=(Int.ediv_lt_iff_lt_mul hN').2 (by omega)
  omega
theorem at_N {N:Nat}{p:Rat}{P s:Int}(hN:0<N)(hP:(P:Rat)=((N:Int):Rat)*p)(h0:0≤P)(h1:P≤(s-1)*N)(hs:2≤s) :
  ∃ A:Nat,A≤N∧P=(min p.floor (s-2))*N+A∧p-((min p.floor (s-2):Int):Rat)=((A:Int):Rat)/((N:Int):Rat)∧0≤min p.floor (s-2):=by
 obtain⟨b,B,hB,e⟩:=split_N hN P
 have hz:=jdC hN
 have hNp:(0:Rat)<((N:Int):Rat):=by exact_mod_cast (show (0:Int)<N by omega)
 have hp:p=(P:Rat)/((N:Int):Rat):=by
  rw[hP]
  grind
 have hf:p.floor=b:=by
  have l1:(b:Rat)≤p:=by
   rw[← Rat.not_lt,hp,Rat.div_lt_iff hNp,Rat.not_lt]
   rw[e,Rat.intCast_add,Rat.intCast_mul]
   have:(0:Rat)≤((B:Int):Rat):=by exact_mod_cast (show (0:Int)≤B by omega)
   grind
  have l2:p<((b+1:Int):Rat):=by
   rw[hp,Rat.div_lt_iff hNp,e,Rat.intCast_add,Rat.intCast_mul,Rat.intCast_add]
   have:((B:Int):Rat)<((N:Int):Rat):=by exact_mod_cast (show (B:Int)<N by omega)
   grind
  have g1:=Rat.le_floor_iff.2 l1
  have g2:=Rat.floor_lt_iff.2 l2
  omega
 have b0:0≤b:=by
  rcases Int.lt_or_le b 0 with h|h
  ·exfalso
   have:b*N ≤ -1*N:=jiP (by omega) (by omega)
   omega
  ·exact h
 rw[hf]
 by_cases hm:b≤s-2
 ·rw[show min b (s-2)=b by omega]
  refine⟨B,by omega,e,?_,b0⟩
  rw[hp,e,Rat.intCast_add,Rat.intCast_mul]
  grind
 ·have hb:b=s-1:=by
   have:(s-1)*(N:Int)≤b*N:=jiP (by omega) (by omega)
   rcases Int.lt_or_le (s-1) b with h|h
   ·exfalso
    have:(s-1+1)*(N:Int)≤b*N:=jiP (by omega) (by omega)
    rw[ji7,ji8] at this
    omega
   ·omega
  have hB0:B=0:=by
   rw[hb] at e
   omega
  rw[show min b (s-2)=s-2 by omega]
  refine⟨N,by omega,?_,?_,by omega⟩
  ·rw[e,hb,hB0,show s-1=(s-2)+1 by omega,ji7,ji8]
   omega
  ·rw[hp,e,hb,hB0,show s-1=(s-2)+1 by omega,Rat.intCast_add,Rat.intCast_mul,Rat.intCast_add]
   grind
def clQ (x:Rat):Rat:=if 1<(if x<0 then 0 else x) then 1 else (if x<0 then 0 else x)
theorem clQ_bd (x:Rat):0≤clQ x∧clQ x≤1:=by
 unfold clQ
 have h01:(0:Rat)≤1:=by decide
 by_cases h:x<0
 ·rw[if_pos h]
  by_cases g:(1:Rat)<0
  ·rw[if_pos g];exact⟨h01,Rat.le_refl⟩
  ·rw[if_neg g];exact⟨Rat.le_refl,h01⟩
 ·rw[if_neg h]
  by_cases g:1<x
  ·rw[if_pos g];exact⟨h01,Rat.le_refl⟩
  ·rw[if_neg g];exact⟨Rat.not_lt.1 h,Rat.not_lt.1 g⟩
theorem clQ_id {x:Rat}(h0:0≤x)(h1:x≤1):clQ x=x:=by
 unfold clQ
 rw[if_neg (Rat.not_lt.2 h0),if_neg (Rat.not_lt.2 h1)]
def gp (s:Int)(x:Rat):Rat:=clQ x*((s-1:Int):Rat)
def spB (s:Int)(x:Rat):Int:=min (gp s x).floor (s-2)
def spR (s:Int)(x:Rat):Rat:=gp s x-((spB s x:Int):Rat)
def evF (s0 s1 s2:Int)(v:Int→Int→Int→Rat)(x0 x1 x2:Rat):Rat:=
 evL v (spB s0 x0,spB s1 x1,spB s2 x2) (spR s0 x0) (spR s1 x1) (spR s2 x2) (ord3 (spR s0 x0) (spR s1 x1) (spR s2 x2))
theorem gp_bd {s:Int}(hs:2≤s)(x:Rat):0≤gp s x∧gp s x≤((s-1:Int):Rat):=by
 have h:=clQ_bd x
 have h1:(0:Rat)≤((s-1:Int):Rat):=by exact_mod_cast (show (0:Int)≤s-1 by omega)
 unfold gp
 refine⟨Rat.mul_nonneg h.1 h1,?_⟩
 have:=Rat.mul_nonneg (show 0≤1-clQ x by grind) h1
 grind
theorem np_pos {N:Nat}(hN:0<N):(0:Rat)<((N:Int):Rat):=by exact_mod_cast (show (0:Int)<N by omega)
theorem P_bd {N:Nat}{s P:Int}{x:Rat}(hN:0<N)(hs:2≤s)(hP:(P:Rat)=((N:Int):Rat)*gp s x):0≤P∧P≤(s-1)*N:=by
 have h:=gp_bd hs x
 have hn:=np_pos hN
 constructor
 ·have:=Rat.mul_nonneg (Rat.le_of_lt hn) h.1
  rw[← hP] at this
  exact_mod_cast this
 ·have:=Rat.mul_nonneg (Rat.le_of_lt hn) (show 0≤((s-1:Int):Rat)-gp s x by grind)
  have e:(P:Rat)≤(((s-1)*N:Int):Rat):=by
   rw[Rat.intCast_mul]
   grind
  exact_mod_cast e
theorem ev_lv {N:Nat}{s0 s1 s2 P Q R:Int}{x0 x1 x2:Rat}(hN:0<N)(hs:2≤s0∧2≤s1∧2≤s2)(h0:(P:Rat)=((N:Int):Rat)*gp s0 x0)(h1:(Q:Rat)=((N:Int):Rat)*gp s1 x1)(h2:(R:Rat)=((N:Int):Rat)*gp s2 x2)(v:Int→Int→Int→Rat) :
  ((N:Int):Rat)*evF s0 s1 s2 v x0 x1 x2=lvF v N P Q R:=by
 have b0:=P_bd hN hs.1 h0
 have b1:=P_bd hN hs.2.1 h1
 have b2:=P_bd hN hs.2.2 h2
 obtain⟨A0,a0,e0,r0,_⟩:=at_N hN h0 b0.1 b0.2 hs.1
 obtain⟨A1,a1,e1,r1,_⟩:=at_N hN h1 b1.1 b1.2 hs.2.1
 obtain⟨A2,a2,e2,r2,_⟩:=at_N hN h2 b2.1 b2.2 hs.2.2
 have m:=ev_main (b0:=spB s0 x0) (b1:=spB s1 x1) (b2:=spB s2 x2) hN a0 a1 a2 v
 unfold evF spR
 have f0:gp s0 x0-((spB s0 x0:Int):Rat)=((A0:Int):Rat)/((N:Int):Rat):=r0
 have f1:gp s1 x1-((spB s1 x1:Int):Rat)=((A1:Int):Rat)/((N:Int):Rat):=r1
 have f2:gp s2 x2-((spB s2 x2:Int):Rat)=((A2:Int):Rat)/((N:Int):Rat):=r2
 rw[f0,f1,f2,m]
 have g0:P=spB s0 x0*N+A0:=e0
 have g1:Q=spB s1 x1*N+A1:=e1
 have g2:R=spB s2 x2*N+A2:=e2
 rw[← g0,← g1,← g2]
theorem com_den:∀ l:List Rat, ∃ N:Nat,0<N ∧ ∀ p∈l, ∃ P:Int,(P:Rat)=((N:Int):Rat)*p
 | []=>⟨1,by decide,fun p hp=>by cases hp⟩
 | q::l=>by
  obtain⟨N,hN,h⟩:=com_den l
  refine⟨N*q.den,Nat.mul_pos hN q.den_pos,fun p hp=>?_⟩
  rcases jjg.1 hp with e|e
  ·subst e
   refine⟨N*p.num,?_⟩
   have hd:((p.den:Int):Rat)*p=((p.num:Int):Rat):=by
    have h1:=jjc p
    have hz:=jdC p.den_pos
    rw[Rat.divInt_eq_div] at h1
    have:p=((p.num:Int):Rat)/((p.den:Int):Rat):=h1.symm
    conv=>lhs;rhs;rw[this]
    rw[Rat.mul_comm,Rat.div_mul_cancel hz]
   rw[Rat.intCast_mul,jiW,Rat.intCast_mul,Rat.mul_assoc,hd]
  ·obtain⟨P,hP⟩:=h p e
   refine⟨q.den*P,?_⟩
   rw[Rat.intCast_mul,hP,jiW,Rat.intCast_mul]
   grind
theorem com3 (a b c:Rat):∃ (N:Nat) (P Q R:Int),0<N∧(P:Rat)=((N:Int):Rat)*a∧(Q:Rat)=((N:Int):Rat)*b∧(R:Rat)=((N:Int):Rat)*c:=by
 obtain⟨N,hN,h⟩:=com_den [a,b,c]
 obtain⟨P,hP⟩:=h a (by simp)
 obtain⟨Q,hQ⟩:=h b (by simp)
 obtain⟨R,hR⟩:=h c (by simp)
 exact⟨N,P,Q,R,hN,hP,hQ,hR⟩
theorem cancle {N:Nat}(hN:0<N){a b:Rat}(h:((N:Int):Rat)*a≤((N:Int):Rat)*b):a≤b:=by
 rcases (Rat.le_total:a≤b∨b≤a) with g|g
 ·exact g
 ·by_cases e:a=b
  ·rw[e];exact Rat.le_refl
  ·exfalso
   have hlt:b<a:=Rat.lt_of_le_of_ne g fun h=>e h.symm
   have:=Rat.mul_pos (np_pos hN) (show 0<a-b by grind)
   grind
theorem ev_bd {s0 s1 s2:Int}(hs:2≤s0∧2≤s1∧2≤s2){v:Int→Int→Int→Rat}{m M:Rat}(h:∀ i j k:Int,0≤i∧i≤s0-1→0≤j∧j≤s1-1→0≤k∧k≤s2-1→m≤v i j k∧v i j k≤M)(x0 x1 x2:Rat):m≤evF s0 s1 s2 v x0 x1 x2∧evF s0 s1 s2 v x0 x1 x2≤M:=by
 obtain⟨N,P,Q,R,hN,hP,hQ,hR⟩:=com3 (gp s0 x0) (gp s1 x1) (gp s2 x2)
 have b0:=P_bd hN hs.1 hP
 have b1:=P_bd hN hs.2.1 hQ
 have b2:=P_bd hN hs.2.2 hR
 have key:∀ i j k:Int,(∃ t:Nat,t<N∧i=(P-1-t)/N+1∧j=(Q-1-t)/N+1∧k=(R-1-t)/N+1)→m≤v i j k∧v i j k≤M:=fun i j k hh=>by
  obtain⟨t,ht,rfl,rfl,rfl⟩:=hh
  exact h _ _ _ (lvl_in hN ht b0.1 b0.2) (lvl_in hN ht b1.1 b1.2) (lvl_in hN ht b2.1 b2.2)
 constructor
 ·refine cancle hN ?_
  rw[ev_lv hN hs hP hQ hR,← lv_const m N P Q R]
  exact lv_le fun i j k hh=>(key i j k hh).1
 ·refine cancle hN ?_
  rw[ev_lv hN hs hP hQ hR,← lv_const M N P Q R]
  exact lv_le fun i j k hh=>(key i j k hh).2
theorem jfp {n m:Int}(hn : -9223372036854775807≤n∧n≤9223372036854775807)(hm:1≤m∧m≤9223372036854775807):Cl 58 [.int .i64 n,.int .i64 m] (frT (Rat.divInt n m)):=by
 have c:=y_of hn hm
 unfold frT at *
 generalize Rat.divInt n m=q at *
 refine V.en tbOk Tryz.func58 ?_
 (conv=>whnf)
 refine V.st ?_
 repeat ((try ((with_reducible refine .ext ?_);(conv=>whnf)));(with_reducible refine jaa (r:=?_) ?_ ?_);rotate_left;(focus (first|exact(c)));(conv=>whnf);refine V.st ?_)
 exact Fin.of rfl
theorem int_q (n:Int):Rat.divInt n 1=(n:Rat):=by rw[Rat.divInt_eq_div];grind
theorem jap {n:Int}(hn : -9223372036854775807≤n∧n≤9223372036854775807):Cl 86 [.int .i64 n] (frT (n:Rat)):=by
 have c:=jfp (n:=n) (m:=1) hn (by omega)
 rw[int_q] at c
 unfold frT at *
 generalize (n:Rat)=q at *
 refine V.en tbOk Tryz.func86 ?_
 (conv=>whnf)
 refine V.st ?_
 repeat ((try ((with_reducible refine .ext ?_);(conv=>whnf)));(with_reducible refine jaa (r:=?_) ?_ ?_);rotate_left;(focus (first|exact(c)));(conv=>whnf);refine V.st ?_)
 exact Fin.of rfl
theorem q9_of {n:Nat}{q:Rat}(h:Fq n q)(h0:0<n∧n≤600):Q9 20000000 q:=by
 obtain⟨h1,e1⟩:=jaL (h.ok h0.1 h0.2)
 have:=qsize h1
 rw[e1] at this
 exact this
theorem rd_q {n:Nat}{q:Rat}(h:Fq n q)(h0:0<n∧n≤600):Cl 111 [frT q] (.tup [rtD q,.bool true]):=by
 obtain⟨h1,e1⟩:=jaL (h.ok h0.1 h0.2)
 have r1:=jbu _ _ h1
 rw[e1] at r1
 exact r1
theorem fq_cl {n:Nat}{q:Rat}(h:Fq n q)(h0:0<n):Fq n (clQ q):=by
 have z:Fq n 0:=(show Fq 1 0 from ⟨by decide,by decide⟩).mono h0
 have o:Fq n 1:=y_one.mono h0
 unfold clQ
 by_cases h1:q<0
 ·rw[if_pos h1]
  split
  ·exact o
  ·exact z
 ·rw[if_neg h1]
  split
  ·exact o
  ·exact h
theorem fclamp_c {n:Nat}{q:Rat}(h:Fq n q)(h0:0<n∧n≤600):Cl 160 [frT q,frT 0,frT 1] (.tup [frT (clQ q),.int .i64 0]):=by
 have fz:Fq 1 0:=⟨by decide,by decide⟩
 have r0:=rd_q h h0
 have r1:=rd_q fz (by omega)
 have r2:=rd_q y_one (by omega)
 have q0:=q9_of h h0
 have q1:=q9_of fz (by omega)
 have q2:=q9_of y_one (by omega)
 have od:=jf3 0 1 (q1.1.mono (by omega)) (q2.1.mono (by omega)) (by have:=q1.2;omega) (by have:=q2.2;omega)
 have e:ordQ 0 1 = -1:=by decide +kernel
 rw[e] at od
 have g:=greater_c q 0 q0 q1
 have q3:Q9 20000000 (if q<0 then 0 else q):=by
  split
  ·exact q1
  ·exact q0
 have l:=lesser_c (if q<0 then 0 else q) 1 q3 q2
 have fc:=fq_cl h h0.1
 have ec:(if 1<(if q<0 then 0 else q) then 1 else (if q<0 then 0 else q))=clQ q:=rfl
 rw[ec] at l
 have qc:=q9_of fc h0
 have w:=jdJ (clQ q) (by have:=qc.1;unfold S9 at this;omega) (by have:=qc.2;omega)
 rw[jdA (fc.ok h0.1 h0.2)] at w
 clear h fc ec e q0 q1 q2 q3 qc fz
 generalize clQ q=c at *
 generalize (if q<0 then 0 else q)=u at *
 generalize (0:Rat)=zz at *
 generalize (1:Rat)=oo at *
 unfold frT rtD at *
 refine V.en tbOk Tryz.func160 ?_
 refine V.r4 @jiI r0 r1 r2 od ?_
 refine⟨(V.tk [0,1,3] (V.e1 2 [3] (V.e1 4 [] (V.e1 5 [] (V.tk [6,7] (V.e1 8 [] (V.tk [9] .done))))))),[],V.pok,?_⟩
 refine jab [(7,.int .i64 0)] [(6,.box [.str (decZ c.num),.str (dec c.den)])] ?_ ?_
 ·exact V.d3 @jiI g l w
 refine V.r0 @jiI ?_
 exact Fin.of rfl
theorem ffloor_c {n:Nat}{q:Rat}(h:Fq n q)(h0:0<n∧n≤600):Cl 161 [frT q] (.tup [.str (decZ q.floor),.int .i64 0]):=by
 have r0:=rd_q h h0
 have q0:=q9_of h h0
 have f:=floor_c q.num q.den q.den_pos (q0.1.mono (by omega)) (by have:=q0.2;omega)
 rw[← Rat.floor_def] at f
 have hl:S9 20000000 q.floor:=by
  rw[Rat.floor_def]
  refine q0.1.le ?_
  exact Int.natAbs_ediv_le_natAbs _ _
 unfold S9 at hl
 have t:=jhK q.floor (by omega)
 generalize q.floor=z at *
 unfold frT at *
 unfold rtD at r0
 unfold itD at f t
 refine V.en tbOk Tryz.func161 ?_
 refine V.r3 @jiI r0 f t ?_
 exact Fin.of rfl
theorem atoi_dig:∀ z:Int,0≤z→z≤9→Go.Lib.atoi (decZ z)=some z:=fun z h0 h1=>by
 have key:∀ n∈List.range 10,Go.Lib.atoi (decZ ((n:Nat):Int))=some ((n:Nat):Int):=by decide +kernel
 obtain⟨n,rfl⟩:∃ n:Nat,z=(n:Int):=⟨z.toNat,by omega⟩
 exact key n (List.mem_range.2 (by omega))
theorem atoi_len:∀ z:Int,0≤z→z≤9→(decZ z).length≤18:=fun z h0 h1=>by
 have key:∀ n∈List.range 10,(decZ ((n:Nat):Int)).length≤18:=by decide +kernel
 obtain⟨n,rfl⟩:∃ n:Nat,z=(n:Int):=⟨z.toNat,by omega⟩
 exact key n (List.mem_range.2 (by omega))
theorem atoi_c {z:Int}(h0:0≤z)(h1:z≤9):Cl 162 [.str (decZ z)] (.tup [.int .i64 z,.val .nilIface]):=by
 refine jaZ Tryz.func162 rfl rfl rfl fun w hp vs ha hd=>?_
 simp only[DenL,Den] at hd
 obtain⟨v,_,rfl,⟨rfl,h2⟩,rfl⟩:=hd
 refine(Tryz.strconv_Atoi ⟨(decZ z).toArray⟩ z (by have:=atoi_len z h0 h1;simpa [ByteArray.size] using this) (by simpa using atoi_dig z h0 h1) w).mono fun e w' ⟨he,t,hw⟩=>⟨⟨_,he,fun hp=>?_⟩,?_⟩
 ·simp only[Den,DenL]
  exact⟨_,rfl,_,_,rfl,⟨rfl,by simp only[InR,V.lo,V.hi];omega⟩,_,_,rfl,rfl,rfl⟩
 ·rw[hw]
  exact Go.Lib.bytesWorld_below w _ _
theorem floor_bd {p:Rat}{m:Int}(h0:0≤p)(h1:p≤(m:Rat)):0≤p.floor∧p.floor≤m:=by
 constructor
 ·exact Rat.le_floor_iff.2 (by exact_mod_cast h0)
 ·have:p<((m+1:Int):Rat):=by
   rw[Rat.intCast_add]
   have:(0:Rat)<((1:Int):Rat):=by decide
   grind
  have:=Rat.floor_lt_iff.2 this
  omega
theorem jbZ {s:Int}(hs:2≤s)(x:Rat):0≤spB s x∧spB s x≤s-2:=by
 have h:=gp_bd hs x
 have:=floor_bd h.1 h.2
 unfold spB
 omega
theorem split_t (a b z0 z1 o0 o1 c0 c1 s0 s1 p0 p1 i0 i1 r0 r1:List UInt8)(f:List UInt8)(s fl:Int)(hs:2≤s∧s≤9)(hf:0≤fl∧fl≤9)(iz:Cl 86 [.int .i64 0] (.agg [.str z0,.str z1]))(io:Cl 86 [.int .i64 1] (.agg [.str o0,.str o1]))
  (cl:Cl 160 [.agg [.str a,.str b],.agg [.str z0,.str z1],.agg [.str o0,.str o1]] (.tup [.agg [.str c0,.str c1],.int .i64 0])) (is:Cl 86 [.int .i64 (s-1)] (.agg [.str s0,.str s1]))
  (mu:Cl 85 [.agg [.str c0,.str c1],.agg [.str s0,.str s1]] (.tup [.agg [.str p0,.str p1],.int .i64 0])) (fo:Cl 161 [.agg [.str p0,.str p1]] (.tup [.str f,.int .i64 0]))
  (at':Cl 162 [.str f] (.tup [.int .i64 fl,.val .nilIface])) (ib:Cl 86 [.int .i64 (min fl (s-2))] (.agg [.str i0,.str i1])) (sb:Cl 99 [.agg [.str p0,.str p1],.agg [.str i0,.str i1]] (.tup [.agg [.str r0,.str r1],.int .i64 0])) :
  Cl 124 [.agg [.str a,.str b],.int .i64 s] (.tup [.int .i64 (min fl (s-2)),.agg [.str r0,.str r1],.int .i64 0]):=by
 refine V.en tbOk Tryz.func124 ?_
 refine V.r0 @jiI ?_
 refine⟨(V.tk [0] (V.e1 1 [0] (V.e1 2 [0] (V.e1 3 [] (V.tk [4,5,6] (V.e1 7 [6] (V.tk [8] .done))))))),[],V.pok,?_⟩
 refine jab [(6,.int .i64 0)] [(2,.box [.str c0,.str c1])] ?_ ?_
 ·exact V.d3 @jiI iz io cl
 refine V.r0 @jiI ?_
 refine⟨(V.tk [0,1,2] (.ev (.cons 3 [0] (.ev (.cons 4 [] (V.tk [5,6,7] (V.e1 8 [7,6,5] (V.e1 9 [7] (V.tk [10] .done)))) (.cons 8 [0] (V.e1 4 [] (V.tk [5,6,7] (V.e1 9 [7] (V.tk [10] .done)))) .nil))) (.cons 8 [2,1,0] (V.e1 3 [0] (V.e1 4 [] (V.tk [5,6,7] (V.e1 9 [7] (V.tk [10] .done))))) .nil)))),[],V.pok,?_⟩
 refine jab [(7,.box 7 0),(6,.int .i64 0)] [(7,.box [.str p0,.str p1])] ?_ ?_
 ·exact V.d2 @jiI is mu
 refine V.r2 @jiI fo at' ?_
 refine⟨(V.tk [0,1] (V.e1 2 [0] (V.e1 3 [] (V.tk [4,5,6] (V.e1 7 [6] (V.tk [8] .done)))))),[],V.pok,?_⟩
 refine jab [(6,.int .i64 0)] [(5,.box [.str r0,.str r1])] ?_ ?_
 ·exact V.d2 @jiI ib sb
 refine V.r0 @jiI ?_
 refine⟨(V.tk [0,1,2] (V.e1 3 [2,1] (V.e1 4 [2] (V.e1 5 [] .done)))),[],V.pok,?_⟩
 refine jab [(4,.int .i64 (min fl (s-2))),(6,.int .i64 0)] [(5,.box [.str r0,.str r1])] ?_ ?_
 ·exact V.d0 @jiI
 refine V.r0 @jiI ?_
 exact Fin.of rfl
theorem jaS {n:Nat}{z:Int}(h:z.natAbs<10^n)(h0:0<n):Fq n (z:Rat):=by
 have:=jaN (n:=n) (x:=z) (d:=1) (by omega) h (Nat.one_lt_pow (by omega) (by decide))
 rw[show (((1:Nat):Int))=1 from rfl,int_q] at this
 exact this
theorem jdK {n:Nat}{x:Rat}{s:Int}(h:Fq n x)(h0:0<n∧n≤500)(hs:2≤s∧s≤9):Cl 124 [frT x,.int .i64 s] (.tup [.int .i64 (spB s x),frT (spR s x),.int .i64 0]):=by
 have h6:0<n∧n≤600:=by omega
 have fc:=fq_cl h h0.1
 have iz:=jap (n:=0) (by omega)
 have io:=jap (n:=1) (by omega)
 rw[show ((0:Int):Rat)=0 from rfl] at iz
 rw[show ((1:Int):Rat)=1 from rfl] at io
 have is:=jap (n:=s-1) (by omega)
 have fs:Fq 1 ((s-1:Int):Rat):=jaS (by omega) (by omega)
 have mu:=zmul fc fs h0.1 (by omega) (by omega)
 have gb:=gp_bd hs.1 x
 have fb:0≤(clQ x*((s-1:Int):Rat)).floor∧(clQ x*((s-1:Int):Rat)).floor≤s-1:=floor_bd gb.1 gb.2
 have fb2:0≤(gp s x).floor∧(gp s x).floor≤s-1:=fb
 have fo:=ffloor_c (fc.mul fs) (by omega)
 have bb:=jbZ hs.1 x
 have ib:=jap (n:=spB s x) (by omega)
 have fi:Fq 1 ((spB s x:Int):Rat):=jaS (by omega) (by omega)
 have sb:=zsub (fc.mul fs) fi (by omega) (by omega) (by omega)
 exact split_t _ _ _ _ _ _ _ _ _ _ _ _ _ _ _ _ _ s _ hs ⟨fb.1,by omega⟩ iz io (fclamp_c h h6) is mu fo (atoi_c fb.1 (by omega)) ib sb
end Go.Proofs.YtgjgpdceghjajaaGreatDoor
end
section
namespace Go.Proofs.YtgjgpdceghjajaaGreatDoor
theorem k0:((0:Nat):Int)=0:=rfl
theorem k1:((1:Nat):Int)=1:=rfl
theorem k2:((2:Nat):Int)=2:=rfl
theorem k3:((3:Nat):Int)=3:=rfl
theorem tn0:(0:Int).toNat=0:=rfl
theorem tn1:(1:Int).toNat=1:=rfl
theorem tn2:(2:Int).toNat=2:=rfl
theorem tn3:(3:Int).toNat=3:=rfl
end Go.Proofs.YtgjgpdceghjajaaGreatDoor
end
section
namespace Go.Proofs.YtgjgpdceghjajaaGreatDoor
open Go Go.V Go.Nb
def preZ (k:Nat)(l:List Int):List Int:=l.take k++List.replicate (l.length-k) 0
def insJ (w:Int→Int→Int):Nat→List Int→List Int
 | 0,xs=>xs
 | j+1,xs=>if w (xs.getD (j+1) 0) (xs.getD j 0)<0 then insJ w j ((xs.set (j+1) (xs.getD j 0)).set j (xs.getD (j+1) 0)) else xs
def isoK (w:Int→Int→Int)(xs:List Int):Nat→List Int
 | 0=>xs
 | i+1=>insJ w (i+1) (isoK w xs i)
def Bel (n:Nat)(xs:List Int):Prop:=xs.length=n ∧ ∀ i,i<n→0≤xs.getD i 0∧xs.getD i 0<n
theorem jeO (xs:List Int)(i k:Nat)(v:Int)(h:i<xs.length):(xs.set i v).getD k 0=if k=i then v else xs.getD k 0:=by
 rw[jje,List.getElem?_set]
 by_cases e:i=k
 ·rw[if_pos e,if_pos h,if_pos e.symm]
  rfl
 ·rw[if_neg e,if_neg (fun h=>e h.symm),jje]
theorem jem {n:Nat}{xs:List Int}{j:Nat}(h:Bel n xs)(hj:j+1<n):Bel n ((xs.set (j+1) (xs.getD j 0)).set j (xs.getD (j+1) 0)):=by
 refine⟨by rw[jjw,jjw];exact h.1,fun i hi=>?_⟩
 rw[jeO _ _ _ _ (by rw[jjw,h.1];omega)]
 by_cases e:i=j
 ·rw[if_pos e];exact h.2 _ hj
 ·rw[if_neg e,jeO _ _ _ _ (by rw[h.1];omega)]
  by_cases e2:i=j+1
  ·rw[if_pos e2];exact h.2 _ (by omega)
  ·rw[if_neg e2];exact h.2 _ hi
theorem bel_ins (w:Int→Int→Int){n:Nat} : ∀ (j:Nat) {xs:List Int},j<n→Bel n xs→Bel n (insJ w j xs)
 | 0,_,_,h=>h
 | j+1,xs,hj,h=>by
  simp only[insJ]
  split
  ·exact bel_ins w j (by omega) (jem h hj)
  ·exact h
theorem jgk (w:Int→Int→Int){n:Nat}{xs:List Int}(h:Bel n xs):∀ i,i<n→Bel n (isoK w xs i)
 | 0,_=>h
 | i+1,hi=>bel_ins w (i+1) hi (jgk w h i (by omega))
theorem tns (j:Nat):((j:Int)-1).toNat=j-1:=by omega
def wcl:Nat→D
 | 0 => .nil
 | k+1 => .bsl 62 0 (k+1) 2
def wce (W:Nat→Tx):Nat→List D
 | 0=>[]
 | k+1=>wce W k++[.str (W k).1,.str (W k).2]
def wch (W:Nat→Tx):Nat→Hp
 | 0=>[]
 | k+1=>[(62,.box (wce W (k+1)))]
def preD (k:Nat)(l:List D):List D:=l.take k++List.replicate (l.length-k) (.str [])
theorem xk4:((4:Nat):Int)=4:=rfl
theorem xt4:(4:Int).toNat=4:=rfl
theorem jia:type_of% @jiI∧type_of% @tn0∧type_of% @tn1∧type_of% @tn2∧type_of% @tn3∧type_of% @xt4:=⟨@jiI,@tn0,@tn1,@tn2,@tn3,@xt4⟩
theorem jhE {F e0 n0 e1 n1:Nat}{f0 f1:Nat→List D}{z:Int}(T:Nat→Tx)(c0:Cl F (.int .i64 0::[.ref [.slf e0 n0 f0],.ref [.slf e1 n1 f1]]) (.tup [.agg [.str (T 0).1,.str (T 0).2],.int .i64 0])) :
  Cl 82 [.int .i64 1,.fn F [] [.ref [.slf e0 n0 f0],.ref [.slf e1 n1 f1]]] (.tup [V.sl2 1 [.str (T 0).1,.str (T 0).2],.int .i64 0]):=by
 refine V.en tbOk Tryz.func82 ?_
 refine V.r0 @jiI ?_
 refine jac (0) (fun k=>k≤1) (fun k=>1-k) (fun k=>[(14,.int .i64 k)]) (fun k=>[(11,.box (preD (2*k) [.str (T 0).1,.str (T 0).2]))]) ?_ ?_ ?_
 ·exact V.wk
 ·exact jiF _
 intro k hk
 have hk4:k=0∨k=1:=by omega
 rcases hk4 with e|e
 all_goals subst e
 ·simp only[k0]
  refine V.r1 jia c0 ?_
  exact⟨1,by omega,by omega,V.wk⟩
 ·simp only[k1]
  refine V.r0 @jiI ?_
  exact Fin.of rfl
theorem jhD {F e0 n0 e1 n1:Nat}{f0 f1:Nat→List D}{z:Int}(T:Nat→Tx)(c0:Cl F (.int .i64 0::[.ref [.slf e0 n0 f0],.ref [.slf e1 n1 f1]]) (.tup [.agg [.str (T 0).1,.str (T 0).2],.int .i64 0]))(c1:Cl F (.int .i64 1::[.ref [.slf e0 n0 f0],.ref [.slf e1 n1 f1]]) (.tup [.agg [.str (T 1).1,.str (T 1).2],.int .i64 0])) :
  Cl 82 [.int .i64 2,.fn F [] [.ref [.slf e0 n0 f0],.ref [.slf e1 n1 f1]]] (.tup [V.sl2 2 [.str (T 0).1,.str (T 0).2,.str (T 1).1,.str (T 1).2],.int .i64 0]):=by
 refine V.en tbOk Tryz.func82 ?_
 refine V.r0 @jiI ?_
 refine jac (0) (fun k=>k≤2) (fun k=>2-k) (fun k=>[(14,.int .i64 k)]) (fun k=>[(11,.box (preD (2*k) [.str (T 0).1,.str (T 0).2,.str (T 1).1,.str (T 1).2]))]) ?_ ?_ ?_
 ·exact V.wk
 ·exact jiF _
 intro k hk
 have hk4:k=0∨k=1∨k=2:=by omega
 rcases hk4 with e|e|e
 all_goals subst e
 ·simp only[k0]
  refine V.r1 jia c0 ?_
  exact⟨1,by omega,by omega,V.wk⟩
 ·simp only[k1]
  refine V.r1 jia c1 ?_
  exact⟨2,by omega,by omega,V.wk⟩
 ·simp only[k2]
  refine V.r0 @jiI ?_
  exact Fin.of rfl
theorem list2_3 {F e0 n0 e1 n1:Nat}{f0 f1:Nat→List D}{z:Int}(T:Nat→Tx)(c0:Cl F (.int .i64 0::[.ref [.slf e0 n0 f0],.ref [.slf e1 n1 f1],.ref [.int .i64 z]]) (.tup [.agg [.str (T 0).1,.str (T 0).2],.int .i64 0]))(c1:Cl F (.int .i64 1::[.ref [.slf e0 n0 f0],.ref [.slf e1 n1 f1],.ref [.int .i64 z]]) (.tup [.agg [.str (T 1).1,.str (T 1).2],.int .i64 0])) :
  Cl 82 [.int .i64 2,.fn F [] [.ref [.slf e0 n0 f0],.ref [.slf e1 n1 f1],.ref [.int .i64 z]]] (.tup [V.sl2 2 [.str (T 0).1,.str (T 0).2,.str (T 1).1,.str (T 1).2],.int .i64 0]):=by
 refine V.en tbOk Tryz.func82 ?_
 refine V.r0 @jiI ?_
 refine jac (0) (fun k=>k≤2) (fun k=>2-k) (fun k=>[(14,.int .i64 k)]) (fun k=>[(11,.box (preD (2*k) [.str (T 0).1,.str (T 0).2,.str (T 1).1,.str (T 1).2]))]) ?_ ?_ ?_
 ·exact V.wk
 ·exact jiF _
 intro k hk
 have hk4:k=0∨k=1∨k=2:=by omega
 rcases hk4 with e|e|e
 all_goals subst e
 ·simp only[k0]
  refine V.r1 jia c0 ?_
  exact⟨1,by omega,by omega,V.wk⟩
 ·simp only[k1]
  refine V.r1 jia c1 ?_
  exact⟨2,by omega,by omega,V.wk⟩
 ·simp only[k2]
  refine V.r0 @jiI ?_
  exact Fin.of rfl
theorem jhC {F e0 n0 e1 n1:Nat}{f0 f1:Nat→List D}{z:Int}(T:Nat→Tx)(c0:Cl F (.int .i64 0::[.ref [.slf e0 n0 f0],.ref [.slf e1 n1 f1]]) (.tup [.agg [.str (T 0).1,.str (T 0).2],.int .i64 0]))(c1:Cl F (.int .i64 1::[.ref [.slf e0 n0 f0],.ref [.slf e1 n1 f1]]) (.tup [.agg [.str (T 1).1,.str (T 1).2],.int .i64 0]))(c2:Cl F (.int .i64 2::[.ref [.slf e0 n0 f0],.ref [.slf e1 n1 f1]]) (.tup [.agg [.str (T 2).1,.str (T 2).2],.int .i64 0])) :
  Cl 82 [.int .i64 3,.fn F [] [.ref [.slf e0 n0 f0],.ref [.slf e1 n1 f1]]] (.tup [V.sl2 3 [.str (T 0).1,.str (T 0).2,.str (T 1).1,.str (T 1).2,.str (T 2).1,.str (T 2).2],.int .i64 0]):=by
 refine V.en tbOk Tryz.func82 ?_
 refine V.r0 @jiI ?_
 refine jac (0) (fun k=>k≤3) (fun k=>3-k) (fun k=>[(14,.int .i64 k)]) (fun k=>[(11,.box (preD (2*k) [.str (T 0).1,.str (T 0).2,.str (T 1).1,.str (T 1).2,.str (T 2).1,.str (T 2).2]))]) ?_ ?_ ?_
 ·exact V.wk
 ·exact jiF _
 intro k hk
 have hk4:k=0∨k=1∨k=2∨k=3:=by omega
 rcases hk4 with e|e|e|e
 all_goals subst e
 ·simp only[k0]
  refine V.r1 jia c0 ?_
  exact⟨1,by omega,by omega,V.wk⟩
 ·simp only[k1]
  refine V.r1 jia c1 ?_
  exact⟨2,by omega,by omega,V.wk⟩
 ·simp only[k2]
  refine V.r1 jia c2 ?_
  exact⟨3,by omega,by omega,V.wk⟩
 ·simp only[k3]
  refine V.r0 @jiI ?_
  exact Fin.of rfl
theorem list3_3 {F e0 n0 e1 n1:Nat}{f0 f1:Nat→List D}{z:Int}(T:Nat→Tx)(c0:Cl F (.int .i64 0::[.ref [.slf e0 n0 f0],.ref [.slf e1 n1 f1],.ref [.int .i64 z]]) (.tup [.agg [.str (T 0).1,.str (T 0).2],.int .i64 0]))(c1:Cl F (.int .i64 1::[.ref [.slf e0 n0 f0],.ref [.slf e1 n1 f1],.ref [.int .i64 z]]) (.tup [.agg [.str (T 1).1,.str (T 1).2],.int .i64 0]))(c2:Cl F (.int .i64 2::[.ref [.slf e0 n0 f0],.ref [.slf e1 n1 f1],.ref [.int .i64 z]]) (.tup [.agg [.str (T 2).1,.str (T 2).2],.int .i64 0])) :
  Cl 82 [.int .i64 3,.fn F [] [.ref [.slf e0 n0 f0],.ref [.slf e1 n1 f1],.ref [.int .i64 z]]] (.tup [V.sl2 3 [.str (T 0).1,.str (T 0).2,.str (T 1).1,.str (T 1).2,.str (T 2).1,.str (T 2).2],.int .i64 0]):=by
 refine V.en tbOk Tryz.func82 ?_
 refine V.r0 @jiI ?_
 refine jac (0) (fun k=>k≤3) (fun k=>3-k) (fun k=>[(14,.int .i64 k)]) (fun k=>[(11,.box (preD (2*k) [.str (T 0).1,.str (T 0).2,.str (T 1).1,.str (T 1).2,.str (T 2).1,.str (T 2).2]))]) ?_ ?_ ?_
 ·exact V.wk
 ·exact jiF _
 intro k hk
 have hk4:k=0∨k=1∨k=2∨k=3:=by omega
 rcases hk4 with e|e|e|e
 all_goals subst e
 ·simp only[k0]
  refine V.r1 jia c0 ?_
  exact⟨1,by omega,by omega,V.wk⟩
 ·simp only[k1]
  refine V.r1 jia c1 ?_
  exact⟨2,by omega,by omega,V.wk⟩
 ·simp only[k2]
  refine V.r1 jia c2 ?_
  exact⟨3,by omega,by omega,V.wk⟩
 ·simp only[k3]
  refine V.r0 @jiI ?_
  exact Fin.of rfl
theorem jhB {F e0 n0 e1 n1:Nat}{f0 f1:Nat→List D}{z:Int}(T:Nat→Tx)(c0:Cl F (.int .i64 0::[.ref [.slf e0 n0 f0],.ref [.slf e1 n1 f1]]) (.tup [.agg [.str (T 0).1,.str (T 0).2],.int .i64 0]))(c1:Cl F (.int .i64 1::[.ref [.slf e0 n0 f0],.ref [.slf e1 n1 f1]]) (.tup [.agg [.str (T 1).1,.str (T 1).2],.int .i64 0]))(c2:Cl F (.int .i64 2::[.ref [.slf e0 n0 f0],.ref [.slf e1 n1 f1]]) (.tup [.agg [.str (T 2).1,.str (T 2).2],.int .i64 0]))(c3:Cl F (.int .i64 3::[.ref [.slf e0 n0 f0],.ref [.slf e1 n1 f1]]) (.tup [.agg [.str (T 3).1,.str (T 3).2],.int .i64 0])) :
  Cl 82 [.int .i64 4,.fn F [] [.ref [.slf e0 n0 f0],.ref [.slf e1 n1 f1]]] (.tup [V.sl2 4 [.str (T 0).1,.str (T 0).2,.str (T 1).1,.str (T 1).2,.str (T 2).1,.str (T 2).2,.str (T 3).1,.str (T 3).2],.int .i64 0]):=by
 refine V.en tbOk Tryz.func82 ?_
 refine V.r0 @jiI ?_
 refine jac (0) (fun k=>k≤4) (fun k=>4-k) (fun k=>[(14,.int .i64 k)]) (fun k=>[(11,.box (preD (2*k) [.str (T 0).1,.str (T 0).2,.str (T 1).1,.str (T 1).2,.str (T 2).1,.str (T 2).2,.str (T 3).1,.str (T 3).2]))]) ?_ ?_ ?_
 ·exact V.wk
 ·exact jiF _
 intro k hk
 have hk4:k=0∨k=1∨k=2∨k=3∨k=4:=by omega
 rcases hk4 with e|e|e|e|e
 all_goals subst e
 ·simp only[k0]
  refine V.r1 jia c0 ?_
  exact⟨1,by omega,by omega,V.wk⟩
 ·simp only[k1]
  refine V.r1 jia c1 ?_
  exact⟨2,by omega,by omega,V.wk⟩
 ·simp only[k2]
  refine V.r1 jia c2 ?_
  exact⟨3,by omega,by omega,V.wk⟩
 ·simp only[k3]
  refine V.r1 jia c3 ?_
  exact⟨4,by omega,by omega,V.wk⟩
 ·simp only[xk4]
  refine V.r0 @jiI ?_
  exact Fin.of rfl
theorem list4_3 {F e0 n0 e1 n1:Nat}{f0 f1:Nat→List D}{z:Int}(T:Nat→Tx)(c0:Cl F (.int .i64 0::[.ref [.slf e0 n0 f0],.ref [.slf e1 n1 f1],.ref [.int .i64 z]]) (.tup [.agg [.str (T 0).1,.str (T 0).2],.int .i64 0]))(c1:Cl F (.int .i64 1::[.ref [.slf e0 n0 f0],.ref [.slf e1 n1 f1],.ref [.int .i64 z]]) (.tup [.agg [.str (T 1).1,.str (T 1).2],.int .i64 0]))(c2:Cl F (.int .i64 2::[.ref [.slf e0 n0 f0],.ref [.slf e1 n1 f1],.ref [.int .i64 z]]) (.tup [.agg [.str (T 2).1,.str (T 2).2],.int .i64 0]))(c3:Cl F (.int .i64 3::[.ref [.slf e0 n0 f0],.ref [.slf e1 n1 f1],.ref [.int .i64 z]]) (.tup [.agg [.str (T 3).1,.str (T 3).2],.int .i64 0])) :
  Cl 82 [.int .i64 4,.fn F [] [.ref [.slf e0 n0 f0],.ref [.slf e1 n1 f1],.ref [.int .i64 z]]] (.tup [V.sl2 4 [.str (T 0).1,.str (T 0).2,.str (T 1).1,.str (T 1).2,.str (T 2).1,.str (T 2).2,.str (T 3).1,.str (T 3).2],.int .i64 0]):=by
 refine V.en tbOk Tryz.func82 ?_
 refine V.r0 @jiI ?_
 refine jac (0) (fun k=>k≤4) (fun k=>4-k) (fun k=>[(14,.int .i64 k)]) (fun k=>[(11,.box (preD (2*k) [.str (T 0).1,.str (T 0).2,.str (T 1).1,.str (T 1).2,.str (T 2).1,.str (T 2).2,.str (T 3).1,.str (T 3).2]))]) ?_ ?_ ?_
 ·exact V.wk
 ·exact jiF _
 intro k hk
 have hk4:k=0∨k=1∨k=2∨k=3∨k=4:=by omega
 rcases hk4 with e|e|e|e|e
 all_goals subst e
 ·simp only[k0]
  refine V.r1 jia c0 ?_
  exact⟨1,by omega,by omega,V.wk⟩
 ·simp only[k1]
  refine V.r1 jia c1 ?_
  exact⟨2,by omega,by omega,V.wk⟩
 ·simp only[k2]
  refine V.r1 jia c2 ?_
  exact⟨3,by omega,by omega,V.wk⟩
 ·simp only[k3]
  refine V.r1 jia c3 ?_
  exact⟨4,by omega,by omega,V.wk⟩
 ·simp only[xk4]
  refine V.r0 @jiI ?_
  exact Fin.of rfl
theorem sum2 (P S:Nat→Tx)(h0:S 0=P 0)(c0:Cl 100 [.agg [.str (S 0).1,.str (S 0).2],.agg [.str (P 1).1,.str (P 1).2]] (.tup [.agg [.str (S 1).1,.str (S 1).2],.int .i64 0])) :
  Cl 87 [V.sl2 2 [.str (P 0).1,.str (P 0).2,.str (P 1).1,.str (P 1).2]] (.tup [.agg [.str (S 1).1,.str (S 1).2],.int .i64 0]):=by
 have h1:(S 0).1=(P 0).1∧(S 0).2=(P 0).2:=by rw[h0];exact⟨rfl,rfl⟩
 refine V.en tbOk Tryz.func87 ?_
 refine V.r0 jia ?_
 refine jac (0) (fun k=>k≤1) (fun k=>1-k) (fun k=>[(14,.int .i64 k)]) (fun k=>[(4,.box [.str (S k).1,.str (S k).2])]) ?_ ?_ ?_
 ·rw[h1.1,h1.2]
  exact V.wk
 ·exact jiF _
 intro k hk
 have hk4:k=0∨k=1:=by omega
 rcases hk4 with e|e
 all_goals subst e
 ·simp only[k0]
  refine V.r1 jia c0 ?_
  exact⟨1,by omega,by omega,V.wk⟩
 ·simp only[k1]
  refine V.r0 @jiI ?_
  exact Fin.of rfl
theorem sum3 (P S:Nat→Tx)(h0:S 0=P 0)(c0:Cl 100 [.agg [.str (S 0).1,.str (S 0).2],.agg [.str (P 1).1,.str (P 1).2]] (.tup [.agg [.str (S 1).1,.str (S 1).2],.int .i64 0]))(c1:Cl 100 [.agg [.str (S 1).1,.str (S 1).2],.agg [.str (P 2).1,.str (P 2).2]] (.tup [.agg [.str (S 2).1,.str (S 2).2],.int .i64 0])) :
  Cl 87 [V.sl2 3 [.str (P 0).1,.str (P 0).2,.str (P 1).1,.str (P 1).2,.str (P 2).1,.str (P 2).2]] (.tup [.agg [.str (S 2).1,.str (S 2).2],.int .i64 0]):=by
 have h1:(S 0).1=(P 0).1∧(S 0).2=(P 0).2:=by rw[h0];exact⟨rfl,rfl⟩
 refine V.en tbOk Tryz.func87 ?_
 refine V.r0 jia ?_
 refine jac (0) (fun k=>k≤2) (fun k=>2-k) (fun k=>[(14,.int .i64 k)]) (fun k=>[(4,.box [.str (S k).1,.str (S k).2])]) ?_ ?_ ?_
 ·rw[h1.1,h1.2]
  exact V.wk
 ·exact jiF _
 intro k hk
 have hk4:k=0∨k=1∨k=2:=by omega
 rcases hk4 with e|e|e
 all_goals subst e
 ·simp only[k0]
  refine V.r1 jia c0 ?_
  exact⟨1,by omega,by omega,V.wk⟩
 ·simp only[k1]
  refine V.r1 jia c1 ?_
  exact⟨2,by omega,by omega,V.wk⟩
 ·simp only[k2]
  refine V.r0 @jiI ?_
  exact Fin.of rfl
theorem sum4 (P S:Nat→Tx)(h0:S 0=P 0)(c0:Cl 100 [.agg [.str (S 0).1,.str (S 0).2],.agg [.str (P 1).1,.str (P 1).2]] (.tup [.agg [.str (S 1).1,.str (S 1).2],.int .i64 0]))(c1:Cl 100 [.agg [.str (S 1).1,.str (S 1).2],.agg [.str (P 2).1,.str (P 2).2]] (.tup [.agg [.str (S 2).1,.str (S 2).2],.int .i64 0]))(c2:Cl 100 [.agg [.str (S 2).1,.str (S 2).2],.agg [.str (P 3).1,.str (P 3).2]] (.tup [.agg [.str (S 3).1,.str (S 3).2],.int .i64 0])) :
  Cl 87 [V.sl2 4 [.str (P 0).1,.str (P 0).2,.str (P 1).1,.str (P 1).2,.str (P 2).1,.str (P 2).2,.str (P 3).1,.str (P 3).2]] (.tup [.agg [.str (S 3).1,.str (S 3).2],.int .i64 0]):=by
 have h1:(S 0).1=(P 0).1∧(S 0).2=(P 0).2:=by rw[h0];exact⟨rfl,rfl⟩
 refine V.en tbOk Tryz.func87 ?_
 refine V.r0 jia ?_
 refine jac (0) (fun k=>k≤3) (fun k=>3-k) (fun k=>[(14,.int .i64 k)]) (fun k=>[(4,.box [.str (S k).1,.str (S k).2])]) ?_ ?_ ?_
 ·rw[h1.1,h1.2]
  exact V.wk
 ·exact jiF _
 intro k hk
 have hk4:k=0∨k=1∨k=2∨k=3:=by omega
 rcases hk4 with e|e|e|e
 all_goals subst e
 ·simp only[k0]
  refine V.r1 jia c0 ?_
  exact⟨1,by omega,by omega,V.wk⟩
 ·simp only[k1]
  refine V.r1 jia c1 ?_
  exact⟨2,by omega,by omega,V.wk⟩
 ·simp only[k2]
  refine V.r1 jia c2 ?_
  exact⟨3,by omega,by omega,V.wk⟩
 ·simp only[k3]
  refine V.r0 @jiI ?_
  exact Fin.of rfl
theorem jis:type_of% @jiK∧type_of% @jiI∧type_of% @tn0∧type_of% @tn1∧type_of% @tn2∧type_of% @tn3∧type_of% @xt4:=⟨@jiK,@jiI,@tn0,@tn1,@tn2,@tn3,@xt4⟩
theorem prod2_0 (W M:Nat→Tx)(U:Nat→List Int)(out:Nat)(g0 g1:List UInt8)(hl:out<(U 0).length)(ig:Cl 86 [.int .i64 ((U 0).getD out 0)] (.agg [.str g0,.str g1]))
  (mu:Cl 85 [.agg [.str (W 0).1,.str (W 0).2],.agg [.str g0,.str g1]] (.tup [.agg [.str (M 0).1,.str (M 0).2],.int .i64 0])) :
  Cl 84 [.int .i64 0,.ref [V.sl2 2 [.str (W 0).1,.str (W 0).2,.str (W 1).1,.str (W 1).2]],.ref [.slf 1 2 (fun j=>List.take 1 (List.drop (j*1) [.ints .i64 (U 0),.ints .i64 (U 1)]))],.ref [.int .i64 out]] (.tup [.agg [.str (M 0).1,.str (M 0).2],.int .i64 0]):=by
 have hi:(out:Int)<(U 0).length:=by omega
 refine V.en tbOk Tryz.func84 ?_
 refine V.r0 jia ?_
 refine⟨Pq12z,[],V.pok,?_⟩
 refine jab [(6,.int .i64 0)] [(5,.box [.str (M 0).1,.str (M 0).2])] ?_ ?_
 ·exact V.d2 jis ig mu
 refine V.r0 @jiI ?_
 exact Fin.of rfl
theorem prod2_1 (W M:Nat→Tx)(U:Nat→List Int)(out:Nat)(g0 g1:List UInt8)(hl:out<(U 1).length)(ig:Cl 86 [.int .i64 ((U 1).getD out 0)] (.agg [.str g0,.str g1]))
  (mu:Cl 85 [.agg [.str (W 1).1,.str (W 1).2],.agg [.str g0,.str g1]] (.tup [.agg [.str (M 1).1,.str (M 1).2],.int .i64 0])) :
  Cl 84 [.int .i64 1,.ref [V.sl2 2 [.str (W 0).1,.str (W 0).2,.str (W 1).1,.str (W 1).2]],.ref [.slf 1 2 (fun j=>List.take 1 (List.drop (j*1) [.ints .i64 (U 0),.ints .i64 (U 1)]))],.ref [.int .i64 out]] (.tup [.agg [.str (M 1).1,.str (M 1).2],.int .i64 0]):=by
 have hi:(out:Int)<(U 1).length:=by omega
 refine V.en tbOk Tryz.func84 ?_
 refine V.r0 jia ?_
 refine⟨Pq12z,[],V.pok,?_⟩
 refine jab [(6,.int .i64 0)] [(5,.box [.str (M 1).1,.str (M 1).2])] ?_ ?_
 ·exact V.d2 jis ig mu
 refine V.r0 @jiI ?_
 exact Fin.of rfl
theorem prod3_0 (W M:Nat→Tx)(U:Nat→List Int)(out:Nat)(g0 g1:List UInt8)(hl:out<(U 0).length)(ig:Cl 86 [.int .i64 ((U 0).getD out 0)] (.agg [.str g0,.str g1]))
  (mu:Cl 85 [.agg [.str (W 0).1,.str (W 0).2],.agg [.str g0,.str g1]] (.tup [.agg [.str (M 0).1,.str (M 0).2],.int .i64 0])) :
  Cl 84 [.int .i64 0,.ref [V.sl2 3 [.str (W 0).1,.str (W 0).2,.str (W 1).1,.str (W 1).2,.str (W 2).1,.str (W 2).2]],.ref [.slf 1 3 (fun j=>List.take 1 (List.drop (j*1) [.ints .i64 (U 0),.ints .i64 (U 1),.ints .i64 (U 2)]))],.ref [.int .i64 out]] (.tup [.agg [.str (M 0).1,.str (M 0).2],.int .i64 0]):=by
 have hi:(out:Int)<(U 0).length:=by omega
 refine V.en tbOk Tryz.func84 ?_
 refine V.r0 jia ?_
 refine⟨Pq12z,[],V.pok,?_⟩
 refine jab [(6,.int .i64 0)] [(5,.box [.str (M 0).1,.str (M 0).2])] ?_ ?_
 ·exact V.d2 jis ig mu
 refine V.r0 @jiI ?_
 exact Fin.of rfl
theorem prod3_1 (W M:Nat→Tx)(U:Nat→List Int)(out:Nat)(g0 g1:List UInt8)(hl:out<(U 1).length)(ig:Cl 86 [.int .i64 ((U 1).getD out 0)] (.agg [.str g0,.str g1]))
  (mu:Cl 85 [.agg [.str (W 1).1,.str (W 1).2],.agg [.str g0,.str g1]] (.tup [.agg [.str (M 1).1,.str (M 1).2],.int .i64 0])) :
  Cl 84 [.int .i64 1,.ref [V.sl2 3 [.str (W 0).1,.str (W 0).2,.str (W 1).1,.str (W 1).2,.str (W 2).1,.str (W 2).2]],.ref [.slf 1 3 (fun j=>List.take 1 (List.drop (j*1) [.ints .i64 (U 0),.ints .i64 (U 1),.ints .i64 (U 2)]))],.ref [.int .i64 out]] (.tup [.agg [.str (M 1).1,.str (M 1).2],.int .i64 0]):=by
 have hi:(out:Int)<(U 1).length:=by omega
 refine V.en tbOk Tryz.func84 ?_
 refine V.r0 jia ?_
 refine⟨Pq12z,[],V.pok,?_⟩
 refine jab [(6,.int .i64 0)] [(5,.box [.str (M 1).1,.str (M 1).2])] ?_ ?_
 ·exact V.d2 jis ig mu
 refine V.r0 @jiI ?_
 exact Fin.of rfl
theorem prod3_2 (W M:Nat→Tx)(U:Nat→List Int)(out:Nat)(g0 g1:List UInt8)(hl:out<(U 2).length)(ig:Cl 86 [.int .i64 ((U 2).getD out 0)] (.agg [.str g0,.str g1]))
  (mu:Cl 85 [.agg [.str (W 2).1,.str (W 2).2],.agg [.str g0,.str g1]] (.tup [.agg [.str (M 2).1,.str (M 2).2],.int .i64 0])) :
  Cl 84 [.int .i64 2,.ref [V.sl2 3 [.str (W 0).1,.str (W 0).2,.str (W 1).1,.str (W 1).2,.str (W 2).1,.str (W 2).2]],.ref [.slf 1 3 (fun j=>List.take 1 (List.drop (j*1) [.ints .i64 (U 0),.ints .i64 (U 1),.ints .i64 (U 2)]))],.ref [.int .i64 out]] (.tup [.agg [.str (M 2).1,.str (M 2).2],.int .i64 0]):=by
 have hi:(out:Int)<(U 2).length:=by omega
 refine V.en tbOk Tryz.func84 ?_
 refine V.r0 jia ?_
 refine⟨Pq12z,[],V.pok,?_⟩
 refine jab [(6,.int .i64 0)] [(5,.box [.str (M 2).1,.str (M 2).2])] ?_ ?_
 ·exact V.d2 jis ig mu
 refine V.r0 @jiI ?_
 exact Fin.of rfl
theorem prod4_0 (W M:Nat→Tx)(U:Nat→List Int)(out:Nat)(g0 g1:List UInt8)(hl:out<(U 0).length)(ig:Cl 86 [.int .i64 ((U 0).getD out 0)] (.agg [.str g0,.str g1]))
  (mu:Cl 85 [.agg [.str (W 0).1,.str (W 0).2],.agg [.str g0,.str g1]] (.tup [.agg [.str (M 0).1,.str (M 0).2],.int .i64 0])) :
  Cl 84 [.int .i64 0,.ref [V.sl2 4 [.str (W 0).1,.str (W 0).2,.str (W 1).1,.str (W 1).2,.str (W 2).1,.str (W 2).2,.str (W 3).1,.str (W 3).2]],.ref [.slf 1 4 (fun j=>List.take 1 (List.drop (j*1) [.ints .i64 (U 0),.ints .i64 (U 1),.ints .i64 (U 2),.ints .i64 (U 3)]))],.ref [.int .i64 out]] (.tup [.agg [.str (M 0).1,.str (M 0).2],.int .i64 0]):=by
 have hi:(out:Int)<(U 0).length:=by omega
 refine V.en tbOk Tryz.func84 ?_
 refine V.r0 jia ?_
 refine⟨Pq12z,[],V.pok,?_⟩
 refine jab [(6,.int .i64 0)] [(5,.box [.str (M 0).1,.str (M 0).2])] ?_ ?_
 ·exact V.d2 jis ig mu
 refine V.r0 @jiI ?_
 exact Fin.of rfl
theorem prod4_1 (W M:Nat→Tx)(U:Nat→List Int)(out:Nat)(g0 g1:List UInt8)(hl:out<(U 1).length)(ig:Cl 86 [.int .i64 ((U 1).getD out 0)] (.agg [.str g0,.str g1]))
  (mu:Cl 85 [.agg [.str (W 1).1,.str (W 1).2],.agg [.str g0,.str g1]] (.tup [.agg [.str (M 1).1,.str (M 1).2],.int .i64 0])) :
  Cl 84 [.int .i64 1,.ref [V.sl2 4 [.str (W 0).1,.str (W 0).2,.str (W 1).1,.str (W 1).2,.str (W 2).1,.str (W 2).2,.str (W 3).1,.str (W 3).2]],.ref [.slf 1 4 (fun j=>List.take 1 (List.drop (j*1) [.ints .i64 (U 0),.ints .i64 (U 1),.ints .i64 (U 2),.ints .i64 (U 3)]))],.ref [.int .i64 out]] (.tup [.agg [.str (M 1).1,.str (M 1).2],.int .i64 0]):=by
 have hi:(out:Int)<(U 1).length:=by omega
 refine V.en tbOk Tryz.func84 ?_
 refine V.r0 jia ?_
 refine⟨Pq12z,[],V.pok,?_⟩
 refine jab [(6,.int .i64 0)] [(5,.box [.str (M 1).1,.str (M 1).2])] ?_ ?_
 ·exact V.d2 jis ig mu
 refine V.r0 @jiI ?_
 exact Fin.of rfl
theorem prod4_2 (W M:Nat→Tx)(U:Nat→List Int)(out:Nat)(g0 g1:List UInt8)(hl:out<(U 2).length)(ig:Cl 86 [.int .i64 ((U 2).getD out 0)] (.agg [.str g0,.str g1]))
  (mu:Cl 85 [.agg [.str (W 2).1,.str (W 2).2],.agg [.str g0,.str g1]] (.tup [.agg [.str (M 2).1,.str (M 2).2],.int .i64 0])) :
  Cl 84 [.int .i64 2,.ref [V.sl2 4 [.str (W 0).1,.str (W 0).2,.str (W 1).1,.str (W 1).2,.str (W 2).1,.str (W 2).2,.str (W 3).1,.str (W 3).2]],.ref [.slf 1 4 (fun j=>List.take 1 (List.drop (j*1) [.ints .i64 (U 0),.ints .i64 (U 1),.ints .i64 (U 2),.ints .i64 (U 3)]))],.ref [.int .i64 out]] (.tup [.agg [.str (M 2).1,.str (M 2).2],.int .i64 0]):=by
 have hi:(out:Int)<(U 2).length:=by omega
 refine V.en tbOk Tryz.func84 ?_
 refine V.r0 jia ?_
 refine⟨Pq12z,[],V.pok,?_⟩
 refine jab [(6,.int .i64 0)] [(5,.box [.str (M 2).1,.str (M 2).2])] ?_ ?_
 ·exact V.d2 jis ig mu
 refine V.r0 @jiI ?_
 exact Fin.of rfl
theorem prod4_3 (W M:Nat→Tx)(U:Nat→List Int)(out:Nat)(g0 g1:List UInt8)(hl:out<(U 3).length)(ig:Cl 86 [.int .i64 ((U 3).getD out 0)] (.agg [.str g0,.str g1]))
  (mu:Cl 85 [.agg [.str (W 3).1,.str (W 3).2],.agg [.str g0,.str g1]] (.tup [.agg [.str (M 3).1,.str (M 3).2],.int .i64 0])) :
  Cl 84 [.int .i64 3,.ref [V.sl2 4 [.str (W 0).1,.str (W 0).2,.str (W 1).1,.str (W 1).2,.str (W 2).1,.str (W 2).2,.str (W 3).1,.str (W 3).2]],.ref [.slf 1 4 (fun j=>List.take 1 (List.drop (j*1) [.ints .i64 (U 0),.ints .i64 (U 1),.ints .i64 (U 2),.ints .i64 (U 3)]))],.ref [.int .i64 out]] (.tup [.agg [.str (M 3).1,.str (M 3).2],.int .i64 0]):=by
 have hi:(out:Int)<(U 3).length:=by omega
 refine V.en tbOk Tryz.func84 ?_
 refine V.r0 jia ?_
 refine⟨Pq12z,[],V.pok,?_⟩
 refine jab [(6,.int .i64 0)] [(5,.box [.str (M 3).1,.str (M 3).2])] ?_ ?_
 ·exact V.d2 jis ig mu
 refine V.r0 @jiI ?_
 exact Fin.of rfl
theorem val1_2 (W M S:Nat→Tx)(U:Nat→List Int)(out:Int)(f0 f1 y0 y1:List UInt8)(li:Cl 82 [.int .i64 2,.fn 84 [] [.ref [V.sl2 2 [.str (W 0).1,.str (W 0).2,.str (W 1).1,.str (W 1).2]],.ref [.slf 1 2 (fun j=>List.take 1 (List.drop (j*1) [.ints .i64 (U 0),.ints .i64 (U 1)]))],.ref [.int .i64 out]]] (.tup [V.sl2 2 [.str (M 0).1,.str (M 0).2,.str (M 1).1,.str (M 1).2],.int .i64 0]))
  (su:Cl 87 [V.sl2 2 [.str (M 0).1,.str (M 0).2,.str (M 1).1,.str (M 1).2]] (.tup [.agg [.str (S 1).1,.str (S 1).2],.int .i64 0])) (fu:Cl 86 [.int .i64 65535] (.agg [.str f0,.str f1])) (dv:Cl 88 [.agg [.str (S 1).1,.str (S 1).2],.agg [.str f0,.str f1]] (.tup [.agg [.str y0,.str y1],.int .i64 0])) :
  Cl 83 [.int .i64 out,.ref [.slf 1 2 (fun j=>List.take 1 (List.drop (j*1) [.ints .i64 (U 0),.ints .i64 (U 1)]))],.ref [V.sl2 2 [.str (W 0).1,.str (W 0).2,.str (W 1).1,.str (W 1).2]]] (.tup [.agg [.str y0,.str y1],.int .i64 0]):=by
 refine V.en tbOk Tryz.func83 ?_
 refine V.r2 @jiI li su ?_
 refine⟨Pq80z,[],V.pok,?_⟩
 refine jab [(5,.int .i64 0)] [(4,.box [.str y0,.str y1])] ?_ ?_
 ·exact V.d2 @jiI fu dv
 refine V.r0 @jiI ?_
 exact Fin.of rfl
theorem val1_3 (W M S:Nat→Tx)(U:Nat→List Int)(out:Int)(f0 f1 y0 y1:List UInt8)(li:Cl 82 [.int .i64 3,.fn 84 [] [.ref [V.sl2 3 [.str (W 0).1,.str (W 0).2,.str (W 1).1,.str (W 1).2,.str (W 2).1,.str (W 2).2]],.ref [.slf 1 3 (fun j=>List.take 1 (List.drop (j*1) [.ints .i64 (U 0),.ints .i64 (U 1),.ints .i64 (U 2)]))],.ref [.int .i64 out]]] (.tup [V.sl2 3 [.str (M 0).1,.str (M 0).2,.str (M 1).1,.str (M 1).2,.str (M 2).1,.str (M 2).2],.int .i64 0]))
  (su:Cl 87 [V.sl2 3 [.str (M 0).1,.str (M 0).2,.str (M 1).1,.str (M 1).2,.str (M 2).1,.str (M 2).2]] (.tup [.agg [.str (S 2).1,.str (S 2).2],.int .i64 0])) (fu:Cl 86 [.int .i64 65535] (.agg [.str f0,.str f1])) (dv:Cl 88 [.agg [.str (S 2).1,.str (S 2).2],.agg [.str f0,.str f1]] (.tup [.agg [.str y0,.str y1],.int .i64 0])) :
  Cl 83 [.int .i64 out,.ref [.slf 1 3 (fun j=>List.take 1 (List.drop (j*1) [.ints .i64 (U 0),.ints .i64 (U 1),.ints .i64 (U 2)]))],.ref [V.sl2 3 [.str (W 0).1,.str (W 0).2,.str (W 1).1,.str (W 1).2,.str (W 2).1,.str (W 2).2]]] (.tup [.agg [.str y0,.str y1],.int .i64 0]):=by
 refine V.en tbOk Tryz.func83 ?_
 refine V.r2 @jiI li su ?_
 refine⟨Pq80z,[],V.pok,?_⟩
 refine jab [(5,.int .i64 0)] [(4,.box [.str y0,.str y1])] ?_ ?_
 ·exact V.d2 @jiI fu dv
 refine V.r0 @jiI ?_
 exact Fin.of rfl
theorem val1_4 (W M S:Nat→Tx)(U:Nat→List Int)(out:Int)(f0 f1 y0 y1:List UInt8)(li:Cl 82 [.int .i64 4,.fn 84 [] [.ref [V.sl2 4 [.str (W 0).1,.str (W 0).2,.str (W 1).1,.str (W 1).2,.str (W 2).1,.str (W 2).2,.str (W 3).1,.str (W 3).2]],.ref [.slf 1 4 (fun j=>List.take 1 (List.drop (j*1) [.ints .i64 (U 0),.ints .i64 (U 1),.ints .i64 (U 2),.ints .i64 (U 3)]))],.ref [.int .i64 out]]] (.tup [V.sl2 4 [.str (M 0).1,.str (M 0).2,.str (M 1).1,.str (M 1).2,.str (M 2).1,.str (M 2).2,.str (M 3).1,.str (M 3).2],.int .i64 0]))
  (su:Cl 87 [V.sl2 4 [.str (M 0).1,.str (M 0).2,.str (M 1).1,.str (M 1).2,.str (M 2).1,.str (M 2).2,.str (M 3).1,.str (M 3).2]] (.tup [.agg [.str (S 3).1,.str (S 3).2],.int .i64 0])) (fu:Cl 86 [.int .i64 65535] (.agg [.str f0,.str f1])) (dv:Cl 88 [.agg [.str (S 3).1,.str (S 3).2],.agg [.str f0,.str f1]] (.tup [.agg [.str y0,.str y1],.int .i64 0])) :
  Cl 83 [.int .i64 out,.ref [.slf 1 4 (fun j=>List.take 1 (List.drop (j*1) [.ints .i64 (U 0),.ints .i64 (U 1),.ints .i64 (U 2),.ints .i64 (U 3)]))],.ref [V.sl2 4 [.str (W 0).1,.str (W 0).2,.str (W 1).1,.str (W 1).2,.str (W 2).1,.str (W 2).2,.str (W 3).1,.str (W 3).2]]] (.tup [.agg [.str y0,.str y1],.int .i64 0]):=by
 refine V.en tbOk Tryz.func83 ?_
 refine V.r2 @jiI li su ?_
 refine⟨Pq80z,[],V.pok,?_⟩
 refine jab [(5,.int .i64 0)] [(4,.box [.str y0,.str y1])] ?_ ?_
 ·exact V.d2 @jiI fu dv
 refine V.r0 @jiI ?_
 exact Fin.of rfl
end Go.Proofs.YtgjgpdceghjajaaGreatDoor
end
