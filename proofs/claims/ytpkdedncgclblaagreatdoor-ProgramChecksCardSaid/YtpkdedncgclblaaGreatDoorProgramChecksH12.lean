/- What functions of the program answer at given values, part 12. Conditions: those that each theorem names. -/
import Derived.Test.YtpkdedncgclblaaGreatDoorProgramChecksH11
import Derived.Test.YtpkdedncgclblaaGreatDoorProgramChecksH7
import Derived.Test.YtpkdedncgclblaaGreatDoorProgramChecksH10
import Derived.Test.YtpkdedncgclblaaGreatDoorProgramChecksH6
import Derived.Test.YtpkdedncgclblaaGreatDoorProgramChecksH9
set_option linter.unusedSimpArgs false
set_option linter.unusedVariables false
set_option maxHeartbeats 8000000
set_option maxRecDepth 100000
section
namespace Go.Proofs.YtpkdedncgclblaaGreatDoor
open Go Go.V Go.Nb
theorem jel {n:Nat}{q:Rat}(h:Fq n q)(h0:0<n∧n≤600):Q9 20000000 q:=by
 obtain⟨h1,e1⟩:=jer (h.ok h0.1 h0.2)
 have:=qsize h1
 rw[e1] at this
 exact this
theorem rd_q_p {n:Nat}{q:Rat}(h:Fq n q)(h0:0<n∧n≤600):Cl 75 [frT q] (.tup [rtD q,.bool true]):=by
 obtain⟨h1,e1⟩:=jer (h.ok h0.1 h0.2)
 have r1:=jdx _ _ h1
 rw[e1] at r1
 exact r1
theorem fq_cl_p {n:Nat}{q:Rat}(h:Fq n q)(h0:0<n):Fq n (clQ q):=by
 have z:Fq n 0:=(show Fq 1 0 from ⟨by decide,by decide⟩).mono h0
 have o:Fq n 1:=y_one.mono h0
 unfold clQ
 by_cases h1:q<0
 ·rw[if_pos h1]
  split
  ·exact o
  ·exact z
 ·rw[if_neg h1]
  split
  ·exact o
  ·exact h
theorem fclamp_c_p {n:Nat}{q:Rat}(h:Fq n q)(h0:0<n∧n≤600):Cl 90 [frT q,frT 0,frT 1] (.tup [frT (clQ q),.int .i64 0]):=by
 have fz:Fq 1 0:=⟨by decide,by decide⟩
 have r0:=rd_q_p h h0
 have r1:=rd_q_p fz (by omega)
 have r2:=rd_q_p y_one (by omega)
 have q0:=jel h h0
 have q1:=jel fz (by omega)
 have q2:=jel y_one (by omega)
 have od:=jfO 0 1 (q1.1.mono (by omega)) (q2.1.mono (by omega)) (by have:=q1.2;omega) (by have:=q2.2;omega)
 have e:ordQ 0 1 = -1:=by decide +kernel
 rw[e] at od
 have g:=jgx q 0 q0 q1
 have q3:Q9 20000000 (if q<0 then 0 else q):=by
  split
  ·exact q1
  ·exact q0
 have l:=lesser_c (if q<0 then 0 else q) 1 q3 q2
 have fc:=fq_cl_p h h0.1
 have ec:(if 1<(if q<0 then 0 else q) then 1 else (if q<0 then 0 else q))=clQ q:=rfl
 rw[ec] at l
 have qc:=jel fc h0
 have w:=jgL (clQ q) (by have:=qc.1;unfold S9 at this;omega) (by have:=qc.2;omega)
 rw[jgC (fc.ok h0.1 h0.2)] at w
 clear h fc ec e q0 q1 q2 q3 qc fz
 generalize clQ q=c at *
 generalize (if q<0 then 0 else q)=u at *
 generalize (0:Rat)=zz at *
 generalize (1:Rat)=oo at *
 unfold frT rtD at *
 refine V.en tbOk Tryz.func90 ?_
 refine V.r4 @jhQ r0 r1 r2 od ?_
 refine⟨(V.tk [0,1,3] (V.e1 2 [3] (V.e1 4 [] (V.e1 5 [] (V.tk [6,7] (V.e1 8 [] (V.tk [9] .done))))))),[],V.pok,?_⟩
 refine ja6 [(7,.int .i64 0)] [(6,.box [.str (decZ c.num),.str (dec c.den)])] ?_ ?_
 ·exact V.d3 @jhQ g l w
 refine V.r0 @jhQ ?_
 exact Fin.of rfl
theorem nat_okF {n m:Nat}(h:(dec n).length≤m):n<10^m:=by
 have:=rdv_lt (jeN n)
 rw[jgZ] at this
 exact jhY this (jh8 (by decide) h)
theorem jbG {q:Rat}(h:okF q=true):Fq 600 q:=by
 unfold okF at h
 simp only[jhK,decide_eq_true_eq] at h
 unfold Fq
 generalize 600=m at *
 exact⟨nat_okF h.1,nat_okF h.2⟩
theorem mg_fq2 {n k:Nat}{q:Rat}(h:Fq n q)(h6:n≤9*k)(hk:k≤90000000):(mg 1000000000 q.num.natAbs).length≤90000000∧(mg 1000000000 q.den).length≤90000000:=by
 have h:=h.mono h6
 have e:(1000000000:Nat)^k=10^(9*k):=by rw[Nat.pow_mul]
 exact⟨jhT (jar (k:=k) (by omega) (by rw[e];exact h.1)) hk,jhT (jar (k:=k) (by omega) (by rw[e];exact h.2)) hk⟩
theorem rd_f {q:Rat}(h:okF q=true):Cl 75 [frT q] (.tup [rtD q,.bool true]):=rd_q_p (jbG h) (by omega)
theorem q9_f {q:Rat}(h:okF q=true):Q9 20000000 q:=jel (jbG h) (by omega)
theorem wr_f {n:Nat}{q:Rat}(h:Fq n q)(h6:n≤9*200):Cl 173 [rtD q] (frR q):=jgL q (mg_fq2 h h6 (by omega)).1 (mg_fq2 h h6 (by omega)).2
theorem fadd_f {p q:Rat}(hp:okF p=true)(hq:okF q=true):Cl 79 [frT p,frT q] (frR (p+q)):=by
 have r1:=rd_f hp
 have r2:=rd_f hq
 have o:=add_c p q (q9_f hp) (q9_f hq)
 have w:=wr_f (q:=p+q) ((jbG hp).add (jbG hq)) (by omega)
 generalize (p+q)=r at *
 have ap:Cl 165 [frT p,frT q,.fn 166 [] []] (.tup [rtD r,.int .i64 0]):=by
  unfold frT at *
  refine V.en tbOk Tryz.func165 ?_
  (conv=>whnf)
  refine V.st ?_
  repeat ((try ((with_reducible refine .ext ?_);(conv=>whnf)));(with_reducible refine jaa (r:=?_) ?_ ?_);rotate_left;(focus (first|exact(r1)|exact(r2)|exact(o)));(conv=>whnf);refine V.st ?_)
  exact Fin.of rfl
 have rs:Cl 164 [rtD r,.int .i64 0] (frR r):=by
  refine V.en tbOk Tryz.func164 ?_
  (conv=>whnf)
  refine V.st ?_
  repeat ((try ((with_reducible refine .ext ?_);(conv=>whnf)));(with_reducible refine jaa (r:=?_) ?_ ?_);rotate_left;(focus (first|exact(w)));(conv=>whnf);refine V.st ?_)
  exact Fin.of rfl
 unfold frT at *
 refine V.en tbOk Tryz.func79 ?_
 (conv=>whnf)
 refine V.st ?_
 repeat ((try ((with_reducible refine .ext ?_);(conv=>whnf)));(with_reducible refine jaa (r:=?_) ?_ ?_);rotate_left;(focus (first|exact(ap)|exact(rs)));(conv=>whnf);refine V.st ?_)
 exact Fin.of rfl
theorem fsub_f {p q:Rat}(hp:okF p=true)(hq:okF q=true):Cl 80 [frT p,frT q] (frR (p-q)):=by
 have r1:=rd_f hp
 have r2:=rd_f hq
 have o:=sub_c p q (q9_f hp) (q9_f hq)
 have w:=wr_f (q:=p-q) ((jbG hp).sub (jbG hq)) (by omega)
 generalize (p-q)=r at *
 have ap:Cl 165 [frT p,frT q,.fn 167 [] []] (.tup [rtD r,.int .i64 0]):=by
  unfold frT at *
  refine V.en tbOk Tryz.func165 ?_
  (conv=>whnf)
  refine V.st ?_
  repeat ((try ((with_reducible refine .ext ?_);(conv=>whnf)));(with_reducible refine jaa (r:=?_) ?_ ?_);rotate_left;(focus (first|exact(r1)|exact(r2)|exact(o)));(conv=>whnf);refine V.st ?_)
  exact Fin.of rfl
 have rs:Cl 164 [rtD r,.int .i64 0] (frR r):=by
  refine V.en tbOk Tryz.func164 ?_
  (conv=>whnf)
  refine V.st ?_
  repeat ((try ((with_reducible refine .ext ?_);(conv=>whnf)));(with_reducible refine jaa (r:=?_) ?_ ?_);rotate_left;(focus (first|exact(w)));(conv=>whnf);refine V.st ?_)
  exact Fin.of rfl
 unfold frT at *
 refine V.en tbOk Tryz.func80 ?_
 (conv=>whnf)
 refine V.st ?_
 repeat ((try ((with_reducible refine .ext ?_);(conv=>whnf)));(with_reducible refine jaa (r:=?_) ?_ ?_);rotate_left;(focus (first|exact(ap)|exact(rs)));(conv=>whnf);refine V.st ?_)
 exact Fin.of rfl
theorem fmul_f {p q:Rat}(hp:okF p=true)(hq:okF q=true):Cl 81 [frT p,frT q] (frR (p*q)):=by
 have r1:=rd_f hp
 have r2:=rd_f hq
 have o:=mul_c p q (q9_f hp) (q9_f hq)
 have w:=wr_f (q:=p*q) ((jbG hp).mul (jbG hq)) (by omega)
 generalize (p*q)=r at *
 have ap:Cl 165 [frT p,frT q,.fn 168 [] []] (.tup [rtD r,.int .i64 0]):=by
  unfold frT at *
  refine V.en tbOk Tryz.func165 ?_
  (conv=>whnf)
  refine V.st ?_
  repeat ((try ((with_reducible refine .ext ?_);(conv=>whnf)));(with_reducible refine jaa (r:=?_) ?_ ?_);rotate_left;(focus (first|exact(r1)|exact(r2)|exact(o)));(conv=>whnf);refine V.st ?_)
  exact Fin.of rfl
 have rs:Cl 164 [rtD r,.int .i64 0] (frR r):=by
  refine V.en tbOk Tryz.func164 ?_
  (conv=>whnf)
  refine V.st ?_
  repeat ((try ((with_reducible refine .ext ?_);(conv=>whnf)));(with_reducible refine jaa (r:=?_) ?_ ?_);rotate_left;(focus (first|exact(w)));(conv=>whnf);refine V.st ?_)
  exact Fin.of rfl
 unfold frT at *
 refine V.en tbOk Tryz.func81 ?_
 (conv=>whnf)
 refine V.st ?_
 repeat ((try ((with_reducible refine .ext ?_);(conv=>whnf)));(with_reducible refine jaa (r:=?_) ?_ ?_);rotate_left;(focus (first|exact(ap)|exact(rs)));(conv=>whnf);refine V.st ?_)
 exact Fin.of rfl
theorem fq_if {n:Nat}{p q:Rat}{c:Prop}[Decidable c](h:Fq n p)(g:Fq n q):Fq n (if c then p else q):=by split<;>assumption
theorem fmin_f {p q:Rat}(hp:okF p=true)(hq:okF q=true):Cl 82 [frT p,frT q] (frR (if q<p then q else p)):=by
 have r1:=rd_f hp
 have r2:=rd_f hq
 have o:=lesser_c p q (q9_f hp) (q9_f hq)
 have w:=wr_f (q:=if q<p then q else p) (fq_if (jbG hq) (jbG hp)) (by omega)
 generalize (if q<p then q else p)=r at *
 have ap:Cl 165 [frT p,frT q,.fn 169 [] []] (.tup [rtD r,.int .i64 0]):=by
  unfold frT at *
  refine V.en tbOk Tryz.func165 ?_
  (conv=>whnf)
  refine V.st ?_
  repeat ((try ((with_reducible refine .ext ?_);(conv=>whnf)));(with_reducible refine jaa (r:=?_) ?_ ?_);rotate_left;(focus (first|exact(r1)|exact(r2)|exact(o)));(conv=>whnf);refine V.st ?_)
  exact Fin.of rfl
 have rs:Cl 164 [rtD r,.int .i64 0] (frR r):=by
  refine V.en tbOk Tryz.func164 ?_
  (conv=>whnf)
  refine V.st ?_
  repeat ((try ((with_reducible refine .ext ?_);(conv=>whnf)));(with_reducible refine jaa (r:=?_) ?_ ?_);rotate_left;(focus (first|exact(w)));(conv=>whnf);refine V.st ?_)
  exact Fin.of rfl
 unfold frT at *
 refine V.en tbOk Tryz.func82 ?_
 (conv=>whnf)
 refine V.st ?_
 repeat ((try ((with_reducible refine .ext ?_);(conv=>whnf)));(with_reducible refine jaa (r:=?_) ?_ ?_);rotate_left;(focus (first|exact(ap)|exact(rs)));(conv=>whnf);refine V.st ?_)
 exact Fin.of rfl
theorem fmax_f {p q:Rat}(hp:okF p=true)(hq:okF q=true):Cl 83 [frT p,frT q] (frR (if p<q then q else p)):=by
 have r1:=rd_f hp
 have r2:=rd_f hq
 have o:=jgx p q (q9_f hp) (q9_f hq)
 have w:=wr_f (q:=if p<q then q else p) (fq_if (jbG hq) (jbG hp)) (by omega)
 generalize (if p<q then q else p)=r at *
 have ap:Cl 165 [frT p,frT q,.fn 170 [] []] (.tup [rtD r,.int .i64 0]):=by
  unfold frT at *
  refine V.en tbOk Tryz.func165 ?_
  (conv=>whnf)
  refine V.st ?_
  repeat ((try ((with_reducible refine .ext ?_);(conv=>whnf)));(with_reducible refine jaa (r:=?_) ?_ ?_);rotate_left;(focus (first|exact(r1)|exact(r2)|exact(o)));(conv=>whnf);refine V.st ?_)
  exact Fin.of rfl
 have rs:Cl 164 [rtD r,.int .i64 0] (frR r):=by
  refine V.en tbOk Tryz.func164 ?_
  (conv=>whnf)
  refine V.st ?_
  repeat ((try ((with_reducible refine .ext ?_);(conv=>whnf)));(with_reducible refine jaa (r:=?_) ?_ ?_);rotate_left;(focus (first|exact(w)));(conv=>whnf);refine V.st ?_)
  exact Fin.of rfl
 unfold frT at *
 refine V.en tbOk Tryz.func83 ?_
 (conv=>whnf)
 refine V.st ?_
 repeat ((try ((with_reducible refine .ext ?_);(conv=>whnf)));(with_reducible refine jaa (r:=?_) ?_ ?_);rotate_left;(focus (first|exact(ap)|exact(rs)));(conv=>whnf);refine V.st ?_)
 exact Fin.of rfl
theorem jg4 {q:Rat}(h:okF q=true):okF (-q)=true:=by
 unfold okF at *
 rw[Rat.neg_num,Rat.neg_den,Int.natAbs_neg];exact h
theorem okF_if {p q:Rat}{c:Prop}[Decidable c](h:okF p=true)(g:okF q=true):okF (if c then p else q)=true:=by split<;>assumption
theorem fneg_f {q:Rat}(h:okF q=true):Cl 85 [frT q] (.tup [frT (-q),.int .i64 0]):=by
 have r1:=rd_f h
 have n1:=jgq q
 have w:=wr_f (jbG h).neg (by omega)
 rw[jgC (jg4 h)] at w
 generalize -q=r at *
 unfold frT at *
 refine V.en tbOk Tryz.func85 ?_
 (conv=>whnf)
 refine V.st ?_
 repeat ((try ((with_reducible refine .ext ?_);(conv=>whnf)));(with_reducible refine jaa (r:=?_) ?_ ?_);rotate_left;(focus (first|exact(r1)));(conv=>whnf);refine V.st ?_)
 (conv=>whnf)
 refine V.st ?_
 repeat ((try ((with_reducible refine .ext ?_);(conv=>whnf)));(with_reducible refine jaa (r:=?_) ?_ ?_);rotate_left;(focus (first|exact(n1)|exact(w)));(conv=>whnf);refine V.st ?_)
 exact Fin.of rfl
def absQ (q:Rat):Rat:=if q.num<0 then -q else q
theorem jg5 {q:Rat}(h:okF q=true):okF (absQ q)=true:=okF_if (jg4 h) h
theorem fabs_f {q:Rat}(h:okF q=true):Cl 86 [frT q] (.tup [frT (absQ q),.int .i64 0]):=by
 have r1:=rd_f h
 have w:=wr_f (jbG (jg5 h)) (by omega)
 rw[jgC (jg5 h)] at w
 have s1:=ja2 q.num.natAbs false
 have e1:(absQ q).num.natAbs=q.num.natAbs:=by
  unfold absQ;split
  ·rw[Rat.neg_num,Int.natAbs_neg]
  ·rfl
 have e2:(absQ q).den=q.den:=by
  unfold absQ;split
  ·rw[Rat.neg_den]
  ·rfl
 have e3:decide ((absQ q).num<0)=false:=by
  unfold absQ;split
  ·rw[Rat.neg_num];exact decide_eq_false (by omega)
  ·exact decide_eq_false (by omega)
 unfold rtD at r1 w
 rw[e1,e2,e3] at w
 generalize absQ q=r at *
 unfold frT at *
 refine V.en tbOk Tryz.func86 ?_
 (conv=>whnf)
 refine V.st ?_
 repeat ((try ((with_reducible refine .ext ?_);(conv=>whnf)));(with_reducible refine jaa (r:=?_) ?_ ?_);rotate_left;(focus (first|exact(r1)));(conv=>whnf);refine V.st ?_)
 (conv=>whnf)
 refine V.st ?_
 refine⟨(V.tk [0,1,2,4,5] (V.e1 3 [5,4] (V.tk [6] (V.e1 7 [] (V.tk [8,9] (V.e1 10 [] (V.tk [11] .done))))))),[],V.pok,.go (jab ?_)⟩
 (conv=>whnf)
 refine V.st ?_
 repeat ((try ((with_reducible refine .ext ?_);(conv=>whnf)));(with_reducible refine jaa (r:=?_) ?_ ?_);rotate_left;(focus (first|exact(s1)|exact(w)));(conv=>whnf);refine V.st ?_)
 exact Fin.of rfl
theorem fsign_f {q:Rat}(hq:okF q=true):Cl 88 [frT q] (.tup [.int .i64 q.num.sign,.int .i64 0]):=by
 obtain⟨h,e1⟩:=jer hq
 have r1:=jdx _ _ h
 rw[e1] at r1
 have sg:=sign_c q.num
 unfold rtD at r1
 unfold itD at sg
 unfold frT
 refine V.en tbOk Tryz.func88 ?_
 (conv=>whnf)
 refine V.st ?_
 repeat ((try ((with_reducible refine .ext ?_);(conv=>whnf)));(with_reducible refine jaa (r:=?_) ?_ ?_);rotate_left;(focus (first|exact(r1)));(conv=>whnf);refine V.st ?_)
 (conv=>whnf)
 refine V.st ?_
 repeat ((try ((with_reducible refine .ext ?_);(conv=>whnf)));(with_reducible refine jaa (r:=?_) ?_ ?_);rotate_left;(focus (first|exact(sg)));(conv=>whnf);refine V.st ?_)
 exact Fin.of rfl
theorem jfK (p:List (Int×Int))(i o:Int):Cl 25 [opsD p,.int .i64 i,.int .i64 o] (.int .i64 (if (surv p i o).isSome then 0 else 120)):=by
 have s:=survey_c p i o
 refine V.en tbOk Tryz.func25 ?_
 (conv=>whnf)
 refine V.st ?_
 repeat ((try ((with_reducible refine .ext ?_);(conv=>whnf)));(with_reducible refine jaa (r:=?_) ?_ ?_);rotate_left;(focus (first|exact(s)));(conv=>whnf);refine V.st ?_)
 exact Fin.of rfl
theorem pdepth_c (p:List (Int×Int))(i o:Int):Cl 27 [opsD p,.int .i64 i,.int .i64 o] (.tup [.int .i64 ((surv p i o).getD 0),.int .i64 (if (surv p i o).isSome then 0 else 120)]):=by
 have s:=survey_c p i o
 refine V.en tbOk Tryz.func27 ?_
 (conv=>whnf)
 refine V.st ?_
 repeat ((try ((with_reducible refine .ext ?_);(conv=>whnf)));(with_reducible refine jaa (r:=?_) ?_ ?_);rotate_left;(focus (first|exact(s)));(conv=>whnf);refine V.st ?_)
 exact Fin.of rfl
theorem jga (f:Nat):Cl 78 [.fn f [] []] (.fn 163 [] [.ref [.fn f [] []]]):=by
 refine V.en tbOk Tryz.func78 ?_
 (conv=>whnf)
 refine V.st ?_
 exact Fin.of rfl
theorem oneF_c (f:Nat):Cl 84 [.fn f [] []] (.fn 171 [] [.ref [.fn f [] []]]):=by
 refine V.en tbOk Tryz.func84 ?_
 (conv=>whnf)
 refine V.st ?_
 exact Fin.of rfl
theorem numF_c (n:Int)(h : -1000000000≤n∧n≤1000000000):Cl 76 [.int .i64 n] (.tup [frT (Rat.divInt n 1000000),.int .i64 0]):=by
 have c:=y_of (n:=n) (m:=1000000) (by omega) (by omega)
 unfold frT at *
 generalize Rat.divInt n 1000000=q at *
 refine V.en tbOk Tryz.func76 ?_
 (conv=>whnf)
 refine V.st ?_
 repeat ((try ((with_reducible refine .ext ?_);(conv=>whnf)));(with_reducible refine jaa (r:=?_) ?_ ?_);rotate_left;(focus (first|exact(c)));(conv=>whnf);refine V.st ?_)
 exact Fin.of rfl
theorem clF_c {q:Rat}(h:okF q=true):Cl 89 [frT q] (.tup [frT (clQ q),.int .i64 0]):=by
 have c:=fclamp_c_p (jbG h) (by omega)
 have e0:frT 0 = .agg [.str [48],.str [49]]:=by unfold frT;rw[show decZ (0:Rat).num=[48] by decide +kernel,show dec (0:Rat).den=[49] by decide +kernel]
 have e1:frT 1 = .agg [.str [49],.str [49]]:=by unfold frT;rw[show decZ (1:Rat).num=[49] by decide +kernel,show dec (1:Rat).den=[49] by decide +kernel]
 rw[e0,e1] at c
 unfold frT at *
 generalize clQ q=r at *
 refine V.en tbOk Tryz.func89 ?_
 (conv=>whnf)
 refine V.st ?_
 repeat ((try ((with_reducible refine .ext ?_);(conv=>whnf)));(with_reducible refine jaa (r:=?_) ?_ ?_);rotate_left;(focus (first|exact(c)));(conv=>whnf);refine V.st ?_)
 exact Fin.of rfl
end Go.Proofs.YtpkdedncgclblaaGreatDoor
end
section
namespace Go.V
open Go Go.RowKit
def Env.alias2 (E:Env)(i j:Nat):Env:=⟨fun x=>if x=j then E.blk i else E.blk x,fun x=>if x=j then E.siz i else E.siz x,fun x=>if x=j then E.kn i else E.kn x,fun x=>if x=j then E.real i else E.real x,fun x=>if x=j then E.lpr i else E.lpr x⟩
theorem Env.off_alias2 (E:Env)(i j:Nat):E.off (E.alias2 i j) j:=fun k hk=>by simp[Env.alias2,hk]
section
variable {cx : Cx} {E : Env} {h : Pub} {a : Act} {w : World} {L : Sl} {H : Hp}
theorem Sat.renBx (S:Sat cx E h a w L H){i j:Nat}{es:List D}(hij:i≠j)(hoff':cx.off≤j)(hfr:D.freeL j es=true)(hi:lookH H i=some (.box es)) :
  Sat cx (E.alias2 i j) h a w (purge j L) ((j,.box es)::(i,.gone)::jaC j H):=by
 have hoff:=E.off_alias2 i j
 have ej:(E.alias2 i j).blk j=E.blk i∧(E.alias2 i j).siz j=E.siz i∧(E.alias2 i j).kn j=E.kn i∧(E.alias2 i j).real j=E.real i:=by simp[Env.alias2]
 have ne:∀ x,x≠j→(E.alias2 i j).blk x=E.blk x∧(E.alias2 i j).real x=E.real x:=fun x hx=>⟨(hoff x hx).1,(hoff x hx).2.2.2.1⟩
 have live:∀ x c',x≠j→lookH ((j,.box es)::(i,.gone)::jaC j H) x=some c'→c'.live=true→x≠i ∧ ∃ c0,lookH H x=some c0∧c'=jb5 j c0∧c0.live=true:=by
  intro x c' hx hc' hl
  rw[jad,if_neg (Ne.symm hx),jad] at hc'
  by_cases hxi:i=x
  ·rw[if_pos hxi] at hc';cases hc';cases hl
  ·rw[if_neg hxi] at hc'
   obtain⟨c0,h1,h2⟩:=jbe hc'
   exact⟨Ne.symm hxi,c0,h1,h2,by rw[h2,jbd] at hl;exact hl⟩
 have atj:∀ c',lookH ((j,.box es)::(i,.gone)::jaC j H) j=some c'→c' = .box es:=fun c' hc'=>by
  rw[jad,if_pos rfl] at hc';cases hc';rfl
 refine { knows:=?_,mem:=?_,agree:=S.agree,since:=S.since,low:=fun x hx=>jeu S.low hoff hoff' x hx,side:=S.side }
 ·exact fun t=>jbO hoff (S.knows t)
 ·refine { ok:=?_,base:=?_,unpub:=?_,inj:=?_ }
  ·intro x c' hc'
   by_cases hx:x=j
   ·subst hx
    rw[atj c' hc']
    obtain⟨h1,vs,rest,T,h2,h3,h4,h5⟩:=S.mem.ok i _ hi
    exact⟨by rw[ej.2.2.2];exact h1,vs,rest,T,by rw[ej.1];exact h2,DenL.env hoff hfr h3,h4,by rw[ej.2.1];exact h5⟩
   ·cases hl:c'.live with
    | false=>cases c'<;>first|trivial|(simp[Chunk.live] at hl)
    | true=>
     obtain⟨_,c0,h1,rfl,hl'⟩:=live x c' hx hc' hl
     exact ChunkOk.env hoff hx (S.mem.ok x _ h1)
  ·intro x c' hc' hl hr
   by_cases hx:x=j
   ·subst hx
    rw[ej.2.2.2] at hr
    rw[ej.1]
    exact S.mem.base i _ hi rfl hr
   ·obtain⟨_,c0,h1,rfl,hl'⟩:=live x c' hx hc' hl
    rw[(ne x hx).2] at hr
    rw[(ne x hx).1]
    exact S.mem.base x _ h1 hl' hr
  ·intro x c' hc' hl hr o
   by_cases hx:x=j
   ·subst hx
    rw[ej.2.2.2] at hr
    rw[ej.1]
    exact S.mem.unpub i _ hi rfl hr o
   ·obtain⟨_,c0,h1,rfl,hl'⟩:=live x c' hx hc' hl
    rw[(ne x hx).2] at hr
    rw[(ne x hx).1]
    exact S.mem.unpub x _ h1 hl' hr o
  ·intro x y c1 c2 hxy h1 h2 l1 l2 r1 r2
   by_cases hx:x=j
   ·subst hx
    obtain⟨hyi,c0',g2,rfl,l2'⟩:=live y c2 (Ne.symm hxy) h2 l2
    rw[ej.2.2.2] at r1
    rw[(ne y (Ne.symm hxy)).2] at r2
    rw[ej.1,(ne y (Ne.symm hxy)).1]
    exact S.mem.inj i y _ _ (Ne.symm hyi) hi g2 rfl l2' r1 r2
   ·obtain⟨hxi,c0,g1,rfl,l1'⟩:=live x c1 hx h1 l1
    rw[(ne x hx).2] at r1
    rw[(ne x hx).1]
    by_cases hy:y=j
    ·subst hy
     rw[ej.2.2.2] at r2
     rw[ej.1]
     exact S.mem.inj x i _ _ hxi g1 hi l1' rfl r1 r2
    ·obtain⟨hyi,c0',g2,rfl,l2'⟩:=live y c2 hy h2 l2
     rw[(ne y hy).2] at r2
     rw[(ne y hy).1]
     exact S.mem.inj x y _ _ hxy g1 g2 l1' l2' r1 r2
end
theorem Wk.renB {off:Nat}{L:Sl}{H:Hp}{L2:Sl}{H2:Hp}(i j b p n e:Nat){es:List D}{ds:List D}(hij:i≠j)(hb:b≠i∧b≠j)(hoff:off≤j)(hfr:D.freeL j es=true)(hi:lookH H i=some (.box es))(hj:lookH (jaC j H) b=some (.box ds))(hp:ds[p]? = some (.bsl i 0 n e))
  (h:Wk off (purge j L) ((b,.box (ds.set p (.bsl j 0 n e)))::(j,.box es)::(i,.gone)::jaC j H) L2 H2):Wk off L H L2 H2:=by
 refine⟨fun cx E h' a w e' S=>?_⟩
 subst e'
 have S1:=S.renBx hij hoff hfr hi
 have hb1:lookH ((j,.box es)::(i,.gone)::jaC j H) b=some (.box ds):=by
  rw[jad,if_neg (Ne.symm hb.2),jad,if_neg (Ne.symm hb.1)];exact hj
 have fe:∀ v,Den (E.alias2 i j) h' (.bsl i 0 n e) v→Den (E.alias2 i j) h' (.bsl j 0 n e) v:=fun v hv=>by
  simp only[Den,Env.alias2,if_true,if_neg hij] at hv ⊢
  exact hv
 refine h.out cx (E.alias2 i j) h' a w rfl (S1.rechunk hb1 rfl ?_)
 obtain⟨h1,vs,rest,T,h2,h3,h4⟩:=S1.mem.ok b _ hb1
 exact⟨h1,vs,rest,T,h2,denL_set h3 hp fe,h4⟩
theorem Wk.trim {off:Nat}{L:Sl}{H:Hp}{L2:Sl}{H2:Hp}(i n:Nat){ds:List D}(hi:lookH H i=some (.box ds))(h:Wk off L ((i,.box (ds.take n))::H) L2 H2):Wk off L H L2 H2:=by
 refine⟨fun cx E h' a w e' S=>?_⟩
 refine h.out cx E h' a w e' (S.rechunk hi rfl ?_)
 obtain⟨h1,vs,rest,T,h2,h3,h4,h5⟩:=S.mem.ok i _ hi
 refine⟨h1,vs.take n,vs.drop n++rest,T,?_,h3.take n,fun v hv=>h4 v (jit hv),?_⟩
 ·rw[h2]
  congr 2
  apply Array.toList_inj.1
  simp only[← jip,List.take_append_drop]
 ·rw[h5]
  have:vs.length=(vs.take n).length+(vs.drop n).length:=by rw[← jin,List.take_append_drop]
  simp only[jin];omega
theorem Wk.same {off:Nat}{L:Sl}{H:Hp}{L2:Sl}{H2:Hp}(i:Nat){ds es:List D}(hi:lookH H i=some (.box ds))(he:ds=es)(h:Wk off L ((i,.box es)::H) L2 H2):Wk off L H L2 H2:=by
 refine⟨fun cx E h' a w e' S=>?_⟩
 subst he
 exact h.out cx E h' a w e' (S.rechunk hi rfl (S.mem.ok i _ hi))
end Go.V
end
section
namespace Go.Proofs.YtpkdedncgclblaaGreatDoor
open Go Go.V Go.Nb
def jaw:Code→Option Code
 | .loop b=>some b
 | .seq a b=>match jaw a with|some c=>some c|none=>jaw b
 | .block _ b=>jaw b
 | .scope b=>jaw b
 | _=>none
abbrev slM (p:List (Int×Int))(k:Nat):Sl:=[(0,.box 58 0),(1,opsD p),(6,.mapr 114),(7,.int .i64 k),(4,.box 64 0),(5,.box 65 0)]
abbrev slE:Sl:=[(4,.box 64 0),(5,.box 65 0)]
abbrev hpE:Hp:=[(64,.box [.nil]),(65,.box [.int .i64 0])]
theorem jay {n:Nat}(h:n≤16):Nat.ble (n+1) 1000000=true:=by rw[jig];omega
def fcl:List Rat→List D
 | []=>[]
 | q::l => .str (decZ q.num) :: .str (dec q.den)::fcl l
theorem fcl_app (l m:List Rat):fcl (l++m)=fcl l++fcl m:=by
 induction l with
 | nil=>rfl
 | cons q l ih=>simp[fcl,ih]
theorem jbk (l:List Rat):(fcl l).length=l.length*2:=by
 induction l with
 | nil=>rfl
 | cons q l ih=>simp only[fcl,jiv,ih];omega
theorem jbs (l:List Rat):Nat.beq (fcl l).length (l.length*2)=true:=by rw[jbk];exact Nat.beq_refl _
theorem jaV (l:List Rat)(i:Nat)(K:List D→Prop):jcs i (fcl l) K=K (fcl l):=by
 have e:∀ m:List Rat,jbX i (fcl m)=fcl m:=fun m=>by
  induction m with
  | nil=>rfl
  | cons q m ih=>simp only[fcl,jbX,D.free,ih]
 rw[jc3,e]
theorem jbv (l r:List Rat):(fcl (l++r)).take (l.length*2)=fcl l:=by
 rw[fcl_app,List.take_append_of_le_length (by rw[jbk];omega),jix (by rw[jbk];omega)]
theorem ja4 (l:List Rat)(S T:List UInt8)(i:Nat):D.freeL i (fcl l++[.str S,.str T])=true:=by
 induction l with
 | nil=>rfl
 | cons q l ih=>simp only[fcl,jih,D.freeL,D.free];exact ih
theorem jaW (r:List Rat)(K:List D→Prop):∀ l:List Rat,dropK (fcl (l++r)) (l.length*2) K=K (fcl r)
 | []=>by simp only[jiu,List.length_nil,Nat.zero_mul,dropK]
 | q::l=>by
  have e:(q::l).length*2=l.length*2+1+1:=by simp only[jiv];omega
  rw[e]
  simp only[jih,fcl,dropK]
  exact jaW r K l
theorem jbZ (l r:List Rat)(u:Rat)(K:List D→Prop):dropK (fcl (l++u::r)) (l.length*2+2) K=K (fcl r):=by
 have:=jaW r K (l++[u])
 rw[jip,jin,Nat.add_mul] at this
 exact this
theorem jgE (l r:List Rat)(u v:Rat)(K:List D→Prop):dropK (fcl (l++u::v::r)) (l.length*2+4) K=K (fcl r):=by
 have:=jaW r K (l++[u,v])
 rw[jip,jin,Nat.add_mul] at this
 exact this
abbrev inF (x:List Rat):D := .slf 2 x.length (fun j=>[.str (decZ (x.getD j 0).num),.str (dec (x.getD j 0).den)])
abbrev esF:List (Int×D):=[(3,.fn 163 [] [.ref [.fn 79 [] []]]),(4,.fn 163 [] [.ref [.fn 80 [] []]]),(5,.fn 163 [] [.ref [.fn 81 [] []]]),(6,.fn 163 [] [.ref [.fn 82 [] []]]),(7,.fn 163 [] [.ref [.fn 83 [] []]]),(8,.fn 171 [] [.ref [.fn 85 [] []]]),(9,.fn 171 [] [.ref [.fn 86 [] []]]),(10,.fn 87 [] []),(12,.fn 171 [] [.ref [.fn 89 [] []]])]
abbrev stepsF:List (Int×D):=[(1,.fn 92 [] []),(2,.fn 93 [] []),(11,.fn 94 [] [])]
abbrev hpF0 (x:List Rat):Hp:=[(58,.box [.nil,inF x,.fn 76 [] [],.mapr 44]),(44,.mp esF),(114,.mp stepsF),(64,.box [.nil]),(65,.box [.int .i64 0])]
abbrev hpF (x:List Rat)(n:Nat)(cs:List D):Hp:=[(58,.box [.bsl 145 0 n 2,inF x,.fn 76 [] [],.mapr 44]),(145,.box cs),(44,.mp esF),(114,.mp stepsF),(64,.box [.nil]),(65,.box [.int .i64 0])]
theorem rdF_in0 (p:List (Int×Int))(x:List Rat)(k:Nat)(a:Int)(hk:k<p.length)(hp:p.length≤40)(hca:p.getD k (0,0)=(1,a))(ha:0≤a∧a<x.length){K:K3}
  (hok:∀ L H,Wk 103 L H (slM p (k+1)) (hpF x 1 [.str (decZ (x.getD a.toNat 0).num),.str (dec (x.getD a.toNat 0).den)])→K .normal L H):RunC Tryz.prog tb (inlN Tryz.prog tb 6) 42 ((jaw (Tryz.f49.body.getD .skip)).getD .skip) (fun _ _ _ _ _=>False) 103 (slM p k) (hpF0 x) K:=by
 have hkc:((k:Int)+1)=((k+1:Nat):Int):=by omega
 have hne:decide ((k:Int)=p.length)=false:=decide_eq_false (by omega)
 refine V.r0 (V.a3 hne @jhR hca) ?_
 refine .inl ?_
 (conv=>whnf)
 refine⟨0,_,_,⟨Tryz.func92,rfl,rfl,jhL rfl⟩,?_⟩
 refine V.r0 @jhR ?_
 refine⟨Pq8z,[],V.pok,.go (jab ?_)⟩
 refine V.r0 @jhR ?_
 refine .inl ?_
 (conv=>whnf)
 refine⟨0,_,_,⟨Tryz.func176,rfl,rfl,jhL rfl⟩,?_⟩
 refine V.r0 @jhR ?_
 refine⟨Pq18z,[],V.pok,.go (jab ?_)⟩
 refine V.r0 (V.a2 @jhR hkc) ?_
 refine hok _ _ (Wk.renB 179 145 58 0 1 2 (by decide) (by decide) (by decide) rfl rfl rfl rfl ?_)
 exact V.wk
theorem rdF_in1 (p:List (Int×Int))(x l:List Rat)(k:Nat)(a:Int)(hk:k<p.length)(hp:p.length≤40)(hca:p.getD k (0,0)=(1,a))(ha:0≤a∧a<x.length)(hl:l.length≤16){K:K3}
  (hok:∀ L H,Wk 103 L H (slM p (k+1)) (hpF x (l.length+1) (fcl l++[.str (decZ (x.getD a.toNat 0).num),.str (dec (x.getD a.toNat 0).den)]))→K .normal L H):RunC Tryz.prog tb (inlN Tryz.prog tb 6) 42 ((jaw (Tryz.f49.body.getD .skip)).getD .skip) (fun _ _ _ _ _=>False) 103 (slM p k) (hpF x l.length (fcl l)) K:=by
 have hkc:((k:Int)+1)=((k+1:Nat):Int):=by omega
 have hne:decide ((k:Int)=p.length)=false:=decide_eq_false (by omega)
 have pg:=jaV l
 have hb:=jbs l
 have ht:=jay hl
 have hf:∀ i,D.freeL i (fcl l++[.str (decZ (x.getD a.toNat 0).num),.str (dec (x.getD a.toNat 0).den)])=true:=ja4 l _ _
 (conv=>whnf)
 (try simp only[hne,jhR,hca])
 repeat ((first|refine V.s1 ?_|((try ((with_reducible refine .ext ?_);(conv=>whnf);(try simp only[hne,jhR,hca])));(with_reducible refine jaa (r:=?_) ?_ ?_);rotate_left;(focus (first|fail));(conv=>whnf))|(((simp only[pg];(conv=>whnf)));(conv=>whnf)));(try simp only[hne,jhR,hca]))
 refine .inl ?_
 (conv=>whnf)
 refine⟨0,_,_,⟨Tryz.func92,rfl,rfl,jhL rfl⟩,?_⟩
 (conv=>whnf)
 (conv=>whnf)
 (try simp only[jhR])
 repeat ((first|refine V.s1 ?_|((try ((with_reducible refine .ext ?_);(conv=>whnf);(try simp only[jhR])));(with_reducible refine jaa (r:=?_) ?_ ?_);rotate_left;(focus (first|fail));(conv=>whnf))|(((simp only[pg];(conv=>whnf)));(conv=>whnf)));(try simp only[jhR]))
 refine⟨Pq8z,[],V.pok,.go (jab ?_)⟩
 (conv=>whnf)
 (try simp only[jhR])
 repeat ((first|refine V.s1 ?_|((try ((with_reducible refine .ext ?_);(conv=>whnf);(try simp only[jhR])));(with_reducible refine jaa (r:=?_) ?_ ?_);rotate_left;(focus (first|fail));(conv=>whnf))|(((simp only[pg];(conv=>whnf)));(conv=>whnf)));(try simp only[jhR]))
 refine .inl ?_
 (conv=>whnf)
 refine⟨0,_,_,⟨Tryz.func176,rfl,rfl,jhL rfl⟩,?_⟩
 (conv=>whnf)
 (conv=>whnf)
 (try simp only[jhR])
 repeat ((first|refine V.s1 ?_|((try ((with_reducible refine .ext ?_);(conv=>whnf);(try simp only[jhR])));(with_reducible refine jaa (r:=?_) ?_ ?_);rotate_left;(focus (first|fail));(conv=>whnf))|(((simp only[pg];(conv=>whnf)));(conv=>whnf)));(try simp only[jhR]))
 refine⟨Pq18z,[],V.pok,.go (jab ?_)⟩
 (conv=>whnf)
 (try simp only[jhR,hkc])
 repeat ((first|refine V.s1 ?_|((try ((with_reducible refine .ext ?_);(conv=>whnf);(try simp only[jhR,hkc])));(with_reducible refine jaa (r:=?_) ?_ ?_);rotate_left;(focus (first|fail));(conv=>whnf))|(((simp only[pg];(conv=>whnf)));(conv=>whnf))|(((simp only[hb,ht,jiD,hf];(conv=>whnf)));(conv=>whnf)));(try simp only[jhR,hkc]))
 refine hok _ _ (Wk.renB 179 145 58 0 (l.length+1) 2 (by decide) (by decide) (by decide) (hf _) rfl rfl rfl ?_)
 exact V.wk
theorem rdF_num0 (p:List (Int×Int))(x:List Rat)(S T:List UInt8)(k:Nat)(a:Int)(hk:k<p.length)(hp:p.length≤40)(hca:p.getD k (0,0)=(2,a))(nu:Cl 76 [.int .i64 a] (.tup [.agg [.str S,.str T],.int .i64 0])){K:K3}
  (hok:∀ L H,Wk 103 L H (slM p (k+1)) (hpF x 1 [.str S,.str T])→K .normal L H):RunC Tryz.prog tb (inlN Tryz.prog tb 6) 42 ((jaw (Tryz.f49.body.getD .skip)).getD .skip) (fun _ _ _ _ _=>False) 103 (slM p k) (hpF0 x) K:=by
 have hkc:((k:Int)+1)=((k+1:Nat):Int):=by omega
 have hne:decide ((k:Int)=p.length)=false:=decide_eq_false (by omega)
 refine V.r0 (V.a3 hne @jhR hca) ?_
 refine .inl ?_
 (conv=>whnf)
 refine⟨0,_,_,⟨Tryz.func93,rfl,rfl,jhL rfl⟩,?_⟩
 refine V.r0 @jhR ?_
 refine⟨Pq13z,[],V.pok,.go (jab ?_)⟩
 refine V.r1 @jhR nu ?_
 refine .inl ?_
 (conv=>whnf)
 refine⟨0,_,_,⟨Tryz.func176,rfl,rfl,jhL rfl⟩,?_⟩
 refine V.r0 @jhR ?_
 refine⟨Pq18z,[],V.pok,.go (jab ?_)⟩
 refine V.r0 (V.a2 @jhR hkc) ?_
 refine hok _ _ (Wk.renB 180 145 58 0 1 2 (by decide) (by decide) (by decide) rfl rfl rfl rfl ?_)
 exact V.wk
theorem rdF_num1 (p:List (Int×Int))(x l:List Rat)(S T:List UInt8)(k:Nat)(a:Int)(hk:k<p.length)(hp:p.length≤40)(hca:p.getD k (0,0)=(2,a))(nu:Cl 76 [.int .i64 a] (.tup [.agg [.str S,.str T],.int .i64 0]))(hl:l.length≤16){K:K3}
  (hok:∀ L H,Wk 103 L H (slM p (k+1)) (hpF x (l.length+1) (fcl l++[.str S,.str T]))→K .normal L H):RunC Tryz.prog tb (inlN Tryz.prog tb 6) 42 ((jaw (Tryz.f49.body.getD .skip)).getD .skip) (fun _ _ _ _ _=>False) 103 (slM p k) (hpF x l.length (fcl l)) K:=by
 have hkc:((k:Int)+1)=((k+1:Nat):Int):=by omega
 have hne:decide ((k:Int)=p.length)=false:=decide_eq_false (by omega)
 have pg:=jaV l
 have hb:=jbs l
 have ht:=jay hl
 have hf:=ja4 l S T
 (conv=>whnf)
 (try simp only[hne,jhR,hca])
 repeat ((first|refine V.s1 ?_|((try ((with_reducible refine .ext ?_);(conv=>whnf);(try simp only[hne,jhR,hca])));(with_reducible refine jaa (r:=?_) ?_ ?_);rotate_left;(focus (first|fail));(conv=>whnf))|(((simp only[pg];(conv=>whnf)));(conv=>whnf)));(try simp only[hne,jhR,hca]))
 refine .inl ?_
 (conv=>whnf)
 refine⟨0,_,_,⟨Tryz.func93,rfl,rfl,jhL rfl⟩,?_⟩
 (conv=>whnf)
 (conv=>whnf)
 (try simp only[jhR])
 repeat ((first|refine V.s1 ?_|((try ((with_reducible refine .ext ?_);(conv=>whnf);(try simp only[jhR])));(with_reducible refine jaa (r:=?_) ?_ ?_);rotate_left;(focus (first|fail));(conv=>whnf))|(((simp only[pg];(conv=>whnf)));(conv=>whnf)));(try simp only[jhR]))
 refine⟨Pq13z,[],V.pok,.go (jab ?_)⟩
 (conv=>whnf)
 (try simp only[jhR])
 repeat ((first|refine V.s1 ?_|((try ((with_reducible refine .ext ?_);(conv=>whnf);(try simp only[jhR])));(with_reducible refine jaa (r:=?_) ?_ ?_);rotate_left;(focus (first|exact(nu)));(conv=>whnf))|(((simp only[pg];(conv=>whnf)));(conv=>whnf)));(try simp only[jhR]))
 refine .inl ?_
 (conv=>whnf)
 refine⟨0,_,_,⟨Tryz.func176,rfl,rfl,jhL rfl⟩,?_⟩
 (conv=>whnf)
 (conv=>whnf)
 (try simp only[jhR])
 repeat ((first|refine V.s1 ?_|((try ((with_reducible refine .ext ?_);(conv=>whnf);(try simp only[jhR])));(with_reducible refine jaa (r:=?_) ?_ ?_);rotate_left;(focus (first|fail));(conv=>whnf))|(((simp only[pg];(conv=>whnf)));(conv=>whnf)));(try simp only[jhR]))
 refine⟨Pq18z,[],V.pok,.go (jab ?_)⟩
 (conv=>whnf)
 (try simp only[jhR,hkc])
 repeat ((first|refine V.s1 ?_|((try ((with_reducible refine .ext ?_);(conv=>whnf);(try simp only[jhR,hkc])));(with_reducible refine jaa (r:=?_) ?_ ?_);rotate_left;(focus (first|fail));(conv=>whnf))|(((simp only[pg];(conv=>whnf)));(conv=>whnf))|(((simp only[hb,ht,jiD,hf];(conv=>whnf)));(conv=>whnf)));(try simp only[jhR,hkc]))
 refine hok _ _ (Wk.renB 180 145 58 0 (l.length+1) 2 (by decide) (by decide) (by decide) (hf _) rfl rfl rfl ?_)
 exact V.wk
theorem rdF_copy (p:List (Int×Int))(x l:List Rat)(y:Rat)(rest:List D)(j:Nat)(k:Nat)(a:Int)(hk:k<p.length)(hp:p.length≤40)(hca:p.getD k (0,0)=(11,a))(hl:l.length≤16)(hix:(l.length:Int)-1-a=(j:Nat))(hj:j<l.length)(hd:∀ K,dropK (fcl l) (j*2) K=K (.str (decZ y.num) :: .str (dec y.den)::rest)){K:K3}
  (hok:∀ L H,Wk 103 L H (slM p (k+1)) (hpF x (l.length+1) (fcl l++[.str (decZ y.num),.str (dec y.den)]))→K .normal L H):RunC Tryz.prog tb (inlN Tryz.prog tb 6) 42 ((jaw (Tryz.f49.body.getD .skip)).getD .skip) (fun _ _ _ _ _=>False) 103 (slM p k) (hpF x l.length (fcl l)) K:=by
 have hkc:((k:Int)+1)=((k+1:Nat):Int):=by omega
 have hne:decide ((k:Int)=p.length)=false:=decide_eq_false (by omega)
 have pg:=jaV l
 have hb:=jbs l
 have ht:=jay hl
 have hf:∀ i,D.freeL i ((fcl l)++[.str (decZ y.num),.str (dec y.den)])=true:=ja4 l _ _
 (conv=>whnf)
 (try simp only[hne,jhR,hca])
 repeat ((first|refine V.s1 ?_|((try ((with_reducible refine .ext ?_);(conv=>whnf);(try simp only[hne,jhR,hca])));(with_reducible refine jaa (r:=?_) ?_ ?_);rotate_left;(focus (first|fail));(conv=>whnf))|(((simp only[pg];(conv=>whnf)));(conv=>whnf)));(try simp only[hne,jhR,hca]))
 refine .inl ?_
 (conv=>whnf)
 refine⟨0,_,_,⟨Tryz.func94,rfl,rfl,jhL rfl⟩,?_⟩
 (conv=>whnf)
 (conv=>whnf)
 (try simp only[jhR])
 repeat ((first|refine V.s1 ?_|((try ((with_reducible refine .ext ?_);(conv=>whnf);(try simp only[jhR])));(with_reducible refine jaa (r:=?_) ?_ ?_);rotate_left;(focus (first|fail));(conv=>whnf))|(((simp only[pg];(conv=>whnf)));(conv=>whnf)));(try simp only[jhR]))
 refine⟨Pq0z,[],V.pok,.go (jab ?_)⟩
 (conv=>whnf)
 (try simp only[hix,jhR,jhQ])
 repeat ((first|refine V.s1 ?_|((try ((with_reducible refine .ext ?_);(conv=>whnf);(try simp only[hix,jhR,jhQ])));(with_reducible refine jaa (r:=?_) ?_ ?_);rotate_left;(focus (first|fail));(conv=>whnf))|(((simp only[pg];(conv=>whnf)));(conv=>whnf)));(try simp only[hix,jhR,jhQ]))
 refine .inl ?_
 (conv=>whnf)
 refine⟨0,_,_,⟨Tryz.func177,rfl,rfl,jhL rfl⟩,?_⟩
 refine V.r0 (V.a3 hix @jhR @jhQ) ?_
 simp only[hd]
 unfold takeK takeK takeK
 dsimp only
 unfold ltK
 rw[show Nat.blt 19 Tryz.f94.ntmps=true from rfl]
 dsimp only
 unfold drawK
 unfold jdq
 refine And.intro ?_ jbK
 (conv=>whnf)
 refine .inl ?_
 (conv=>whnf)
 refine⟨0,_,_,⟨Tryz.func176,rfl,rfl,jhL rfl⟩,?_⟩
 (conv=>whnf)
 (conv=>whnf)
 (try simp only[jhR])
 repeat ((first|refine V.s1 ?_|((try ((with_reducible refine .ext ?_);(conv=>whnf);(try simp only[jhR])));(with_reducible refine jaa (r:=?_) ?_ ?_);rotate_left;(focus (first|fail));(conv=>whnf))|(((simp only[pg];(conv=>whnf)));(conv=>whnf)));(try simp only[jhR]))
 refine⟨Pq18z,[],V.pok,.go (jab ?_)⟩
 (conv=>whnf)
 (try simp only[jhR,hkc])
 repeat ((first|refine V.s1 ?_|((try ((with_reducible refine .ext ?_);(conv=>whnf);(try simp only[jhR,hkc])));(with_reducible refine jaa (r:=?_) ?_ ?_);rotate_left;(focus (first|fail));(conv=>whnf))|(((simp only[pg];(conv=>whnf)));(conv=>whnf))|(((simp only[hb,ht,jiD,hf];(conv=>whnf)));(conv=>whnf)));(try simp only[jhR,hkc]))
 refine hok _ _ (Wk.renB 186 145 58 0 (l.length+1) 2 (by decide) (by decide) (by decide) (hf _) rfl rfl rfl ?_)
 exact V.wk
theorem jhF:type_of% @jhR∧type_of% @jhQ:=⟨@jhR,@jhQ⟩
theorem rdF_add (p:List (Int×Int))(x l:List Rat)(u v:Rat)(k:Nat)(a:Int)(S T:List UInt8)(e:Int)(hk:k<p.length)(hp:p.length≤40)(hca:p.getD k (0,0)=(3,a))(hl:l.length≤16)
  (cf:Cl 79 [.agg [.str (decZ u.num),.str (dec u.den)],.agg [.str (decZ v.num),.str (dec v.den)]] (.tup [.agg [.str S,.str T],.int .i64 e])) {K:K3}
  (hok:e=0 → ∀ L H,Wk 103 L H (slM p (k+1)) (hpF x (l.length+1) (fcl l++[.str S,.str T]))→K .normal L H)
  (hpan:e≠0 → ∀ L H,Wk 103 L H slE hpE→K (.panic [{ v := .iface 155 (.agg #[.int .i64 e]),recovered:=false }]) L H) :
  RunC Tryz.prog tb (inlN Tryz.prog tb 6) 42 ((jaw (Tryz.f49.body.getD .skip)).getD .skip) (fun _ _ _ _ _=>False) 103 (slM p k) (hpF x (l.length+2) (fcl (l++[u,v]))) K:=by
 have hkc:((k:Int)+1)=((k+1:Nat):Int):=by omega
 have hne:decide ((k:Int)=p.length)=false:=decide_eq_false (by omega)
 have pg:=jaV (l++[u,v])
 have tk:Cl 120 [.int .i64 3] (.tup [.int .i64 2,.bool true]):=jaD 3
 have hr:(((l.length+2:Nat):Int)-2)=(l.length:Nat):=by omega
 have hble:Nat.ble (0+(l.length+2)*2) (fcl (l++[u,v])).length=true:=by rw[jbk,jig];simp
 have hsub:l.length+2-l.length=2:=by omega
 have hd0:∀ K,dropK (fcl (l++[u,v])) (l.length*2+Int.toNat 0*2) K=K (fcl [u,v]):=fun K=>jaW [u,v] K l
 have hd1:∀ K,dropK (fcl (l++[u,v])) (l.length*2+Int.toNat 1*2) K=K (fcl [v]):=fun K=>jbZ l [v] u K
 (conv=>whnf)
 (try simp only[hne,jhR,hca])
 repeat ((first|refine V.s1 ?_|((try ((with_reducible refine .ext ?_);(conv=>whnf);(try simp only[hne,jhR,hca])));(with_reducible refine jaa (r:=?_) ?_ ?_);rotate_left;(focus (first|fail));(conv=>whnf))|(((simp only[pg];(conv=>whnf)));(conv=>whnf)));(try simp only[hne,jhR,hca]))
 refine .inl ?_
 (conv=>whnf)
 refine⟨0,_,_,⟨Tryz.func95,rfl,rfl,jhL rfl⟩,?_⟩
 (conv=>whnf)
 (conv=>whnf)
 (try simp only[jhR])
 repeat ((first|refine V.s1 ?_|((try ((with_reducible refine .ext ?_);(conv=>whnf);(try simp only[jhR])));(with_reducible refine jaa (r:=?_) ?_ ?_);rotate_left;(focus (first|exact(tk)));(conv=>whnf))|(((simp only[pg];(conv=>whnf)));(conv=>whnf)));(try simp only[jhR]))
 refine .inl ?_
 (conv=>whnf)
 refine⟨0,_,_,⟨Tryz.func177,rfl,rfl,jhL rfl⟩,?_⟩
 (conv=>whnf)
 (conv=>whnf)
 (try simp only[hr,jhR])
 repeat ((first|refine V.s1 ?_|((try ((with_reducible refine .ext ?_);(conv=>whnf);(try simp only[hr,jhR])));(with_reducible refine jaa (r:=?_) ?_ ?_);rotate_left;(focus (first|exact(tk)));(conv=>whnf))|(((simp only[pg];(conv=>whnf)));(conv=>whnf))|(((simp only[hr,jhR,hsub];(conv=>whnf)));(conv=>whnf))|(((simp only[hble];(conv=>whnf)));(conv=>whnf)));(try simp only[hr,jhR]))
 refine⟨Pq7z,[],V.pok,.go (jab ?_)⟩
 (conv=>whnf)
 (try simp only[jhR])
 repeat ((first|refine V.s1 ?_|((try ((with_reducible refine .ext ?_);(conv=>whnf);(try simp only[jhR])));(with_reducible refine jaa (r:=?_) ?_ ?_);rotate_left;(focus (first|fail));(conv=>whnf))|(((simp only[pg];(conv=>whnf)));(conv=>whnf)));(try simp only[jhR]))
 refine .inl ?_
 (conv=>whnf)
 refine⟨0,_,_,⟨Tryz.func163,rfl,rfl,jhL rfl⟩,?_⟩
 (conv=>whnf)
 (conv=>whnf)
 (try simp only[jhR])
 repeat ((first|refine V.s1 ?_|((try ((with_reducible refine .ext ?_);(conv=>whnf);(try simp only[jhR])));(with_reducible refine jaa (r:=?_) ?_ ?_);rotate_left;(focus (first|fail));(conv=>whnf))|(((simp only[pg];(conv=>whnf)));(conv=>whnf)));(try simp only[jhR]))
 refine⟨Pq14z,[],V.pok,.go (jab ?_)⟩
 (conv=>whnf)
 (try simp only[jhF])
 repeat ((first|refine V.s1 ?_|((try ((with_reducible refine .ext ?_);(conv=>whnf);(try simp only[jhF])));(with_reducible refine jaa (r:=?_) ?_ ?_);rotate_left;(focus (first|exact(cf)));(conv=>whnf))|(((simp only[pg];(conv=>whnf)));(conv=>whnf))|(((simp only[hd0];(conv=>whnf)));(conv=>whnf))|(((simp only[hd1];(conv=>whnf)));(conv=>whnf)));(try simp only[jhF]))
 refine .inl ?_
 (conv=>whnf)
 refine⟨0,_,_,⟨Tryz.func176,rfl,rfl,jhL rfl⟩,?_⟩
 (conv=>whnf)
 (conv=>whnf)
 (try simp only[jhR])
 repeat ((first|refine V.s1 ?_|((try ((with_reducible refine .ext ?_);(conv=>whnf);(try simp only[jhR])));(with_reducible refine jaa (r:=?_) ?_ ?_);rotate_left;(focus (first|fail));(conv=>whnf))|(((simp only[pg];(conv=>whnf)));(conv=>whnf)));(try simp only[jhR]))
 by_cases he:e=0
 ·refine jaY [(0,.box 58 0),(4,.box 200 0)] [(58,.box [.bsl 145 0 l.length 2,inF x,.fn 76 [] [],.mapr 44]),(145,.box (fcl l)),(200,.box [.str S,.str T]),(44,.mp esF),(114,.mp stepsF),(64,.box [.nil]),(65,.box [.int .i64 0])] (CondB.mk (fun h=>absurd he (by simpa using h)) (fun _=>?_)) ?_
  ·(conv=>whnf)
   exact Wk.trim 145 (l.length*2) rfl (Wk.same 145 rfl (jbv l [u,v]) V.wk)
  ·have pg:=jaV l
   have hb:=jbs l
   have ht:=jay hl
   have hf:∀ i,D.freeL i (fcl l++[.str S,.str T])=true:=ja4 l _ _
   (conv=>whnf)
   refine⟨Pq18z,[],V.pok,.go (jab ?_)⟩
   (conv=>whnf)
   (try simp only[jhR,hkc])
   repeat ((first|refine V.s1 ?_|((try ((with_reducible refine .ext ?_);(conv=>whnf);(try simp only[jhR,hkc])));(with_reducible refine jaa (r:=?_) ?_ ?_);rotate_left;(focus (first|fail));(conv=>whnf))|(((simp only[pg];(conv=>whnf)));(conv=>whnf))|(((simp only[hb,ht,jiD,hf];(conv=>whnf)));(conv=>whnf)));(try simp only[jhR,hkc]))
   refine hok he _ _ (Wk.renB 214 145 58 0 (l.length+1) 2 (by decide) (by decide) (by decide) (hf _) rfl rfl rfl ?_)
   exact V.wk
 ·refine Cnd.split (CondB.mk (fun _=>?_) (fun h=>absurd (by simpa using h) he))
  refine V.r0 @jhR ?_
  exact hpan he _ _ V.wk
theorem rdF_sub (p:List (Int×Int))(x l:List Rat)(u v:Rat)(k:Nat)(a:Int)(S T:List UInt8)(e:Int)(hk:k<p.length)(hp:p.length≤40)(hca:p.getD k (0,0)=(4,a))(hl:l.length≤16)
  (cf:Cl 80 [.agg [.str (decZ u.num),.str (dec u.den)],.agg [.str (decZ v.num),.str (dec v.den)]] (.tup [.agg [.str S,.str T],.int .i64 e])) {K:K3}
  (hok:e=0 → ∀ L H,Wk 103 L H (slM p (k+1)) (hpF x (l.length+1) (fcl l++[.str S,.str T]))→K .normal L H)
  (hpan:e≠0 → ∀ L H,Wk 103 L H slE hpE→K (.panic [{ v := .iface 155 (.agg #[.int .i64 e]),recovered:=false }]) L H) :
  RunC Tryz.prog tb (inlN Tryz.prog tb 6) 42 ((jaw (Tryz.f49.body.getD .skip)).getD .skip) (fun _ _ _ _ _=>False) 103 (slM p k) (hpF x (l.length+2) (fcl (l++[u,v]))) K:=by
 have hkc:((k:Int)+1)=((k+1:Nat):Int):=by omega
 have hne:decide ((k:Int)=p.length)=false:=decide_eq_false (by omega)
 have pg:=jaV (l++[u,v])
 have tk:Cl 120 [.int .i64 4] (.tup [.int .i64 2,.bool true]):=jaD 4
 have hr:(((l.length+2:Nat):Int)-2)=(l.length:Nat):=by omega
 have hble:Nat.ble (0+(l.length+2)*2) (fcl (l++[u,v])).length=true:=by rw[jbk,jig];simp
 have hsub:l.length+2-l.length=2:=by omega
 have hd0:∀ K,dropK (fcl (l++[u,v])) (l.length*2+Int.toNat 0*2) K=K (fcl [u,v]):=fun K=>jaW [u,v] K l
 have hd1:∀ K,dropK (fcl (l++[u,v])) (l.length*2+Int.toNat 1*2) K=K (fcl [v]):=fun K=>jbZ l [v] u K
 (conv=>whnf)
 (try simp only[hne,jhR,hca])
 repeat ((first|refine V.s1 ?_|((try ((with_reducible refine .ext ?_);(conv=>whnf);(try simp only[hne,jhR,hca])));(with_reducible refine jaa (r:=?_) ?_ ?_);rotate_left;(focus (first|fail));(conv=>whnf))|(((simp only[pg];(conv=>whnf)));(conv=>whnf)));(try simp only[hne,jhR,hca]))
 refine .inl ?_
 (conv=>whnf)
 refine⟨0,_,_,⟨Tryz.func95,rfl,rfl,jhL rfl⟩,?_⟩
 (conv=>whnf)
 (conv=>whnf)
 (try simp only[jhR])
 repeat ((first|refine V.s1 ?_|((try ((with_reducible refine .ext ?_);(conv=>whnf);(try simp only[jhR])));(with_reducible refine jaa (r:=?_) ?_ ?_);rotate_left;(focus (first|exact(tk)));(conv=>whnf))|(((simp only[pg];(conv=>whnf)));(conv=>whnf)));(try simp only[jhR]))
 refine .inl ?_
 (conv=>whnf)
 refine⟨0,_,_,⟨Tryz.func177,rfl,rfl,jhL rfl⟩,?_⟩
 (conv=>whnf)
 (conv=>whnf)
 (try simp only[hr,jhR])
 repeat ((first|refine V.s1 ?_|((try ((with_reducible refine .ext ?_);(conv=>whnf);(try simp only[hr,jhR])));(with_reducible refine jaa (r:=?_) ?_ ?_);rotate_left;(focus (first|exact(tk)));(conv=>whnf))|(((simp only[pg];(conv=>whnf)));(conv=>whnf))|(((simp only[hr,jhR,hsub];(conv=>whnf)));(conv=>whnf))|(((simp only[hble];(conv=>whnf)));(conv=>whnf)));(try simp only[hr,jhR]))
 refine⟨Pq7z,[],V.pok,.go (jab ?_)⟩
 (conv=>whnf)
 (try simp only[jhR])
 repeat ((first|refine V.s1 ?_|((try ((with_reducible refine .ext ?_);(conv=>whnf);(try simp only[jhR])));(with_reducible refine jaa (r:=?_) ?_ ?_);rotate_left;(focus (first|fail));(conv=>whnf))|(((simp only[pg];(conv=>whnf)));(conv=>whnf)));(try simp only[jhR]))
 refine .inl ?_
 (conv=>whnf)
 refine⟨0,_,_,⟨Tryz.func163,rfl,rfl,jhL rfl⟩,?_⟩
 (conv=>whnf)
 (conv=>whnf)
 (try simp only[jhR])
 repeat ((first|refine V.s1 ?_|((try ((with_reducible refine .ext ?_);(conv=>whnf);(try simp only[jhR])));(with_reducible refine jaa (r:=?_) ?_ ?_);rotate_left;(focus (first|fail));(conv=>whnf))|(((simp only[pg];(conv=>whnf)));(conv=>whnf)));(try simp only[jhR]))
 refine⟨Pq14z,[],V.pok,.go (jab ?_)⟩
 (conv=>whnf)
 (try simp only[jhF])
 repeat ((first|refine V.s1 ?_|((try ((with_reducible refine .ext ?_);(conv=>whnf);(try simp only[jhF])));(with_reducible refine jaa (r:=?_) ?_ ?_);rotate_left;(focus (first|exact(cf)));(conv=>whnf))|(((simp only[pg];(conv=>whnf)));(conv=>whnf))|(((simp only[hd0];(conv=>whnf)));(conv=>whnf))|(((simp only[hd1];(conv=>whnf)));(conv=>whnf)));(try simp only[jhF]))
 refine .inl ?_
 (conv=>whnf)
 refine⟨0,_,_,⟨Tryz.func176,rfl,rfl,jhL rfl⟩,?_⟩
 (conv=>whnf)
 (conv=>whnf)
 (try simp only[jhR])
 repeat ((first|refine V.s1 ?_|((try ((with_reducible refine .ext ?_);(conv=>whnf);(try simp only[jhR])));(with_reducible refine jaa (r:=?_) ?_ ?_);rotate_left;(focus (first|fail));(conv=>whnf))|(((simp only[pg];(conv=>whnf)));(conv=>whnf)));(try simp only[jhR]))
 by_cases he:e=0
 ·refine jaY [(0,.box 58 0),(4,.box 200 0)] [(58,.box [.bsl 145 0 l.length 2,inF x,.fn 76 [] [],.mapr 44]),(145,.box (fcl l)),(200,.box [.str S,.str T]),(44,.mp esF),(114,.mp stepsF),(64,.box [.nil]),(65,.box [.int .i64 0])] (CondB.mk (fun h=>absurd he (by simpa using h)) (fun _=>?_)) ?_
  ·(conv=>whnf)
   exact Wk.trim 145 (l.length*2) rfl (Wk.same 145 rfl (jbv l [u,v]) V.wk)
  ·have pg:=jaV l
   have hb:=jbs l
   have ht:=jay hl
   have hf:∀ i,D.freeL i (fcl l++[.str S,.str T])=true:=ja4 l _ _
   (conv=>whnf)
   refine⟨Pq18z,[],V.pok,.go (jab ?_)⟩
   (conv=>whnf)
   (try simp only[jhR,hkc])
   repeat ((first|refine V.s1 ?_|((try ((with_reducible refine .ext ?_);(conv=>whnf);(try simp only[jhR,hkc])));(with_reducible refine jaa (r:=?_) ?_ ?_);rotate_left;(focus (first|fail));(conv=>whnf))|(((simp only[pg];(conv=>whnf)));(conv=>whnf))|(((simp only[hb,ht,jiD,hf];(conv=>whnf)));(conv=>whnf)));(try simp only[jhR,hkc]))
   refine hok he _ _ (Wk.renB 214 145 58 0 (l.length+1) 2 (by decide) (by decide) (by decide) (hf _) rfl rfl rfl ?_)
   exact V.wk
 ·refine Cnd.split (CondB.mk (fun _=>?_) (fun h=>absurd (by simpa using h) he))
  refine V.r0 @jhR ?_
  exact hpan he _ _ V.wk
theorem rdF_mul (p:List (Int×Int))(x l:List Rat)(u v:Rat)(k:Nat)(a:Int)(S T:List UInt8)(e:Int)(hk:k<p.length)(hp:p.length≤40)(hca:p.getD k (0,0)=(5,a))(hl:l.length≤16)
  (cf:Cl 81 [.agg [.str (decZ u.num),.str (dec u.den)],.agg [.str (decZ v.num),.str (dec v.den)]] (.tup [.agg [.str S,.str T],.int .i64 e])) {K:K3}
  (hok:e=0 → ∀ L H,Wk 103 L H (slM p (k+1)) (hpF x (l.length+1) (fcl l++[.str S,.str T]))→K .normal L H)
  (hpan:e≠0 → ∀ L H,Wk 103 L H slE hpE→K (.panic [{ v := .iface 155 (.agg #[.int .i64 e]),recovered:=false }]) L H) :
  RunC Tryz.prog tb (inlN Tryz.prog tb 6) 42 ((jaw (Tryz.f49.body.getD .skip)).getD .skip) (fun _ _ _ _ _=>False) 103 (slM p k) (hpF x (l.length+2) (fcl (l++[u,v]))) K:=by
 have hkc:((k:Int)+1)=((k+1:Nat):Int):=by omega
 have hne:decide ((k:Int)=p.length)=false:=decide_eq_false (by omega)
 have pg:=jaV (l++[u,v])
 have tk:Cl 120 [.int .i64 5] (.tup [.int .i64 2,.bool true]):=jaD 5
 have hr:(((l.length+2:Nat):Int)-2)=(l.length:Nat):=by omega
 have hble:Nat.ble (0+(l.length+2)*2) (fcl (l++[u,v])).length=true:=by rw[jbk,jig];simp
 have hsub:l.length+2-l.length=2:=by omega
 have hd0:∀ K,dropK (fcl (l++[u,v])) (l.length*2+Int.toNat 0*2) K=K (fcl [u,v]):=fun K=>jaW [u,v] K l
 have hd1:∀ K,dropK (fcl (l++[u,v])) (l.length*2+Int.toNat 1*2) K=K (fcl [v]):=fun K=>jbZ l [v] u K
 (conv=>whnf)
 (try simp only[hne,jhR,hca])
 repeat ((first|refine V.s1 ?_|((try ((with_reducible refine .ext ?_);(conv=>whnf);(try simp only[hne,jhR,hca])));(with_reducible refine jaa (r:=?_) ?_ ?_);rotate_left;(focus (first|fail));(conv=>whnf))|(((simp only[pg];(conv=>whnf)));(conv=>whnf)));(try simp only[hne,jhR,hca]))
 refine .inl ?_
 (conv=>whnf)
 refine⟨0,_,_,⟨Tryz.func95,rfl,rfl,jhL rfl⟩,?_⟩
 (conv=>whnf)
 (conv=>whnf)
 (try simp only[jhR])
 repeat ((first|refine V.s1 ?_|((try ((with_reducible refine .ext ?_);(conv=>whnf);(try simp only[jhR])));(with_reducible refine jaa (r:=?_) ?_ ?_);rotate_left;(focus (first|exact(tk)));(conv=>whnf))|(((simp only[pg];(conv=>whnf)));(conv=>whnf)));(try simp only[jhR]))
 refine .inl ?_
 (conv=>whnf)
 refine⟨0,_,_,⟨Tryz.func177,rfl,rfl,jhL rfl⟩,?_⟩
 (conv=>whnf)
 (conv=>whnf)
 (try simp only[hr,jhR])
 repeat ((first|refine V.s1 ?_|((try ((with_reducible refine .ext ?_);(conv=>whnf);(try simp only[hr,jhR])));(with_reducible refine jaa (r:=?_) ?_ ?_);rotate_left;(focus (first|exact(tk)));(conv=>whnf))|(((simp only[pg];(conv=>whnf)));(conv=>whnf))|(((simp only[hr,jhR,hsub];(conv=>whnf)));(conv=>whnf))|(((simp only[hble];(conv=>whnf)));(conv=>whnf)));(try simp only[hr,jhR]))
 refine⟨Pq7z,[],V.pok,.go (jab ?_)⟩
 (conv=>whnf)
 (try simp only[jhR])
 repeat ((first|refine V.s1 ?_|((try ((with_reducible refine .ext ?_);(conv=>whnf);(try simp only[jhR])));(with_reducible refine jaa (r:=?_) ?_ ?_);rotate_left;(focus (first|fail));(conv=>whnf))|(((simp only[pg];(conv=>whnf)));(conv=>whnf)));(try simp only[jhR]))
 refine .inl ?_
 (conv=>whnf)
 refine⟨0,_,_,⟨Tryz.func163,rfl,rfl,jhL rfl⟩,?_⟩
 (conv=>whnf)
 (conv=>whnf)
 (try simp only[jhR])
 repeat ((first|refine V.s1 ?_|((try ((with_reducible refine .ext ?_);(conv=>whnf);(try simp only[jhR])));(with_reducible refine jaa (r:=?_) ?_ ?_);rotate_left;(focus (first|fail));(conv=>whnf))|(((simp only[pg];(conv=>whnf)));(conv=>whnf)));(try simp only[jhR]))
 refine⟨Pq14z,[],V.pok,.go (jab ?_)⟩
 (conv=>whnf)
 (try simp only[jhF])
 repeat ((first|refine V.s1 ?_|((try ((with_reducible refine .ext ?_);(conv=>whnf);(try simp only[jhF])));(with_reducible refine jaa (r:=?_) ?_ ?_);rotate_left;(focus (first|exact(cf)));(conv=>whnf))|(((simp only[pg];(conv=>whnf)));(conv=>whnf))|(((simp only[hd0];(conv=>whnf)));(conv=>whnf))|(((simp only[hd1];(conv=>whnf)));(conv=>whnf)));(try simp only[jhF]))
 refine .inl ?_
 (conv=>whnf)
 refine⟨0,_,_,⟨Tryz.func176,rfl,rfl,jhL rfl⟩,?_⟩
 (conv=>whnf)
 (conv=>whnf)
 (try simp only[jhR])
 repeat ((first|refine V.s1 ?_|((try ((with_reducible refine .ext ?_);(conv=>whnf);(try simp only[jhR])));(with_reducible refine jaa (r:=?_) ?_ ?_);rotate_left;(focus (first|fail));(conv=>whnf))|(((simp only[pg];(conv=>whnf)));(conv=>whnf)));(try simp only[jhR]))
 by_cases he:e=0
 ·refine jaY [(0,.box 58 0),(4,.box 200 0)] [(58,.box [.bsl 145 0 l.length 2,inF x,.fn 76 [] [],.mapr 44]),(145,.box (fcl l)),(200,.box [.str S,.str T]),(44,.mp esF),(114,.mp stepsF),(64,.box [.nil]),(65,.box [.int .i64 0])] (CondB.mk (fun h=>absurd he (by simpa using h)) (fun _=>?_)) ?_
  ·(conv=>whnf)
   exact Wk.trim 145 (l.length*2) rfl (Wk.same 145 rfl (jbv l [u,v]) V.wk)
  ·have pg:=jaV l
   have hb:=jbs l
   have ht:=jay hl
   have hf:∀ i,D.freeL i (fcl l++[.str S,.str T])=true:=ja4 l _ _
   (conv=>whnf)
   refine⟨Pq18z,[],V.pok,.go (jab ?_)⟩
   (conv=>whnf)
   (try simp only[jhR,hkc])
   repeat ((first|refine V.s1 ?_|((try ((with_reducible refine .ext ?_);(conv=>whnf);(try simp only[jhR,hkc])));(with_reducible refine jaa (r:=?_) ?_ ?_);rotate_left;(focus (first|fail));(conv=>whnf))|(((simp only[pg];(conv=>whnf)));(conv=>whnf))|(((simp only[hb,ht,jiD,hf];(conv=>whnf)));(conv=>whnf)));(try simp only[jhR,hkc]))
   refine hok he _ _ (Wk.renB 214 145 58 0 (l.length+1) 2 (by decide) (by decide) (by decide) (hf _) rfl rfl rfl ?_)
   exact V.wk
 ·refine Cnd.split (CondB.mk (fun _=>?_) (fun h=>absurd (by simpa using h) he))
  refine V.r0 @jhR ?_
  exact hpan he _ _ V.wk
theorem rdF_min (p:List (Int×Int))(x l:List Rat)(u v:Rat)(k:Nat)(a:Int)(S T:List UInt8)(e:Int)(hk:k<p.length)(hp:p.length≤40)(hca:p.getD k (0,0)=(6,a))(hl:l.length≤16)
  (cf:Cl 82 [.agg [.str (decZ u.num),.str (dec u.den)],.agg [.str (decZ v.num),.str (dec v.den)]] (.tup [.agg [.str S,.str T],.int .i64 e])) {K:K3}
  (hok:e=0 → ∀ L H,Wk 103 L H (slM p (k+1)) (hpF x (l.length+1) (fcl l++[.str S,.str T]))→K .normal L H)
  (hpan:e≠0 → ∀ L H,Wk 103 L H slE hpE→K (.panic [{ v := .iface 155 (.agg #[.int .i64 e]),recovered:=false }]) L H) :
  RunC Tryz.prog tb (inlN Tryz.prog tb 6) 42 ((jaw (Tryz.f49.body.getD .skip)).getD .skip) (fun _ _ _ _ _=>False) 103 (slM p k) (hpF x (l.length+2) (fcl (l++[u,v]))) K:=by
 have hkc:((k:Int)+1)=((k+1:Nat):Int):=by omega
 have hne:decide ((k:Int)=p.length)=false:=decide_eq_false (by omega)
 have pg:=jaV (l++[u,v])
 have tk:Cl 120 [.int .i64 6] (.tup [.int .i64 2,.bool true]):=jaD 6
 have hr:(((l.length+2:Nat):Int)-2)=(l.length:Nat):=by omega
 have hble:Nat.ble (0+(l.length+2)*2) (fcl (l++[u,v])).length=true:=by rw[jbk,jig];simp
 have hsub:l.length+2-l.length=2:=by omega
 have hd0:∀ K,dropK (fcl (l++[u,v])) (l.length*2+Int.toNat 0*2) K=K (fcl [u,v]):=fun K=>jaW [u,v] K l
 have hd1:∀ K,dropK (fcl (l++[u,v])) (l.length*2+Int.toNat 1*2) K=K (fcl [v]):=fun K=>jbZ l [v] u K
 (conv=>whnf)
 (try simp only[hne,jhR,hca])
 repeat ((first|refine V.s1 ?_|((try ((with_reducible refine .ext ?_);(conv=>whnf);(try simp only[hne,jhR,hca])));(with_reducible refine jaa (r:=?_) ?_ ?_);rotate_left;(focus (first|fail));(conv=>whnf))|(((simp only[pg];(conv=>whnf)));(conv=>whnf)));(try simp only[hne,jhR,hca]))
 refine .inl ?_
 (conv=>whnf)
 refine⟨0,_,_,⟨Tryz.func95,rfl,rfl,jhL rfl⟩,?_⟩
 (conv=>whnf)
 (conv=>whnf)
 (try simp only[jhR])
 repeat ((first|refine V.s1 ?_|((try ((with_reducible refine .ext ?_);(conv=>whnf);(try simp only[jhR])));(with_reducible refine jaa (r:=?_) ?_ ?_);rotate_left;(focus (first|exact(tk)));(conv=>whnf))|(((simp only[pg];(conv=>whnf)));(conv=>whnf)));(try simp only[jhR]))
 refine .inl ?_
 (conv=>whnf)
 refine⟨0,_,_,⟨Tryz.func177,rfl,rfl,jhL rfl⟩,?_⟩
 (conv=>whnf)
 (conv=>whnf)
 (try simp only[hr,jhR])
 repeat ((first|refine V.s1 ?_|((try ((with_reducible refine .ext ?_);(conv=>whnf);(try simp only[hr,jhR])));(with_reducible refine jaa (r:=?_) ?_ ?_);rotate_left;(focus (first|exact(tk)));(conv=>whnf))|(((simp only[pg];(conv=>whnf)));(conv=>whnf))|(((simp only[hr,jhR,hsub];(conv=>whnf)));(conv=>whnf))|(((simp only[hble];(conv=>whnf)));(conv=>whnf)));(try simp only[hr,jhR]))
 refine⟨Pq7z,[],V.pok,.go (jab ?_)⟩
 (conv=>whnf)
 (try simp only[jhR])
 repeat ((first|refine V.s1 ?_|((try ((with_reducible refine .ext ?_);(conv=>whnf);(try simp only[jhR])));(with_reducible refine jaa (r:=?_) ?_ ?_);rotate_left;(focus (first|fail));(conv=>whnf))|(((simp only[pg];(conv=>whnf)));(conv=>whnf)));(try simp only[jhR]))
 refine .inl ?_
 (conv=>whnf)
 refine⟨0,_,_,⟨Tryz.func163,rfl,rfl,jhL rfl⟩,?_⟩
 (conv=>whnf)
 (conv=>whnf)
 (try simp only[jhR])
 repeat ((first|refine V.s1 ?_|((try ((with_reducible refine .ext ?_);(conv=>whnf);(try simp only[jhR])));(with_reducible refine jaa (r:=?_) ?_ ?_);rotate_left;(focus (first|fail));(conv=>whnf))|(((simp only[pg];(conv=>whnf)));(conv=>whnf)));(try simp only[jhR]))
 refine⟨Pq14z,[],V.pok,.go (jab ?_)⟩
 (conv=>whnf)
 (try simp only[jhF])
 repeat ((first|refine V.s1 ?_|((try ((with_reducible refine .ext ?_);(conv=>whnf);(try simp only[jhF])));(with_reducible refine jaa (r:=?_) ?_ ?_);rotate_left;(focus (first|exact(cf)));(conv=>whnf))|(((simp only[pg];(conv=>whnf)));(conv=>whnf))|(((simp only[hd0];(conv=>whnf)));(conv=>whnf))|(((simp only[hd1];(conv=>whnf)));(conv=>whnf)));(try simp only[jhF]))
 refine .inl ?_
 (conv=>whnf)
 refine⟨0,_,_,⟨Tryz.func176,rfl,rfl,jhL rfl⟩,?_⟩
 (conv=>whnf)
 (conv=>whnf)
 (try simp only[jhR])
 repeat ((first|refine V.s1 ?_|((try ((with_reducible refine .ext ?_);(conv=>whnf);(try simp only[jhR])));(with_reducible refine jaa (r:=?_) ?_ ?_);rotate_left;(focus (first|fail));(conv=>whnf))|(((simp only[pg];(conv=>whnf)));(conv=>whnf)));(try simp only[jhR]))
 by_cases he:e=0
 ·refine jaY [(0,.box 58 0),(4,.box 200 0)] [(58,.box [.bsl 145 0 l.length 2,inF x,.fn 76 [] [],.mapr 44]),(145,.box (fcl l)),(200,.box [.str S,.str T]),(44,.mp esF),(114,.mp stepsF),(64,.box [.nil]),(65,.box [.int .i64 0])] (CondB.mk (fun h=>absurd he (by simpa using h)) (fun _=>?_)) ?_
  ·(conv=>whnf)
   exact Wk.trim 145 (l.length*2) rfl (Wk.same 145 rfl (jbv l [u,v]) V.wk)
  ·have pg:=jaV l
   have hb:=jbs l
   have ht:=jay hl
   have hf:∀ i,D.freeL i (fcl l++[.str S,.str T])=true:=ja4 l _ _
   (conv=>whnf)
   refine⟨Pq18z,[],V.pok,.go (jab ?_)⟩
   (conv=>whnf)
   (try simp only[jhR,hkc])
   repeat ((first|refine V.s1 ?_|((try ((with_reducible refine .ext ?_);(conv=>whnf);(try simp only[jhR,hkc])));(with_reducible refine jaa (r:=?_) ?_ ?_);rotate_left;(focus (first|fail));(conv=>whnf))|(((simp only[pg];(conv=>whnf)));(conv=>whnf))|(((simp only[hb,ht,jiD,hf];(conv=>whnf)));(conv=>whnf)));(try simp only[jhR,hkc]))
   refine hok he _ _ (Wk.renB 214 145 58 0 (l.length+1) 2 (by decide) (by decide) (by decide) (hf _) rfl rfl rfl ?_)
   exact V.wk
 ·refine Cnd.split (CondB.mk (fun _=>?_) (fun h=>absurd (by simpa using h) he))
  refine V.r0 @jhR ?_
  exact hpan he _ _ V.wk
theorem rdF_max (p:List (Int×Int))(x l:List Rat)(u v:Rat)(k:Nat)(a:Int)(S T:List UInt8)(e:Int)(hk:k<p.length)(hp:p.length≤40)(hca:p.getD k (0,0)=(7,a))(hl:l.length≤16)
  (cf:Cl 83 [.agg [.str (decZ u.num),.str (dec u.den)],.agg [.str (decZ v.num),.str (dec v.den)]] (.tup [.agg [.str S,.str T],.int .i64 e])) {K:K3}
  (hok:e=0 → ∀ L H,Wk 103 L H (slM p (k+1)) (hpF x (l.length+1) (fcl l++[.str S,.str T]))→K .normal L H)
  (hpan:e≠0 → ∀ L H,Wk 103 L H slE hpE→K (.panic [{ v := .iface 155 (.agg #[.int .i64 e]),recovered:=false }]) L H) :
  RunC Tryz.prog tb (inlN Tryz.prog tb 6) 42 ((jaw (Tryz.f49.body.getD .skip)).getD .skip) (fun _ _ _ _ _=>False) 103 (slM p k) (hpF x (l.length+2) (fcl (l++[u,v]))) K:=by
 have hkc:((k:Int)+1)=((k+1:Nat):Int):=by omega
 have hne:decide ((k:Int)=p.length)=false:=decide_eq_false (by omega)
 have pg:=jaV (l++[u,v])
 have tk:Cl 120 [.int .i64 7] (.tup [.int .i64 2,.bool true]):=jaD 7
 have hr:(((l.length+2:Nat):Int)-2)=(l.length:Nat):=by omega
 have hble:Nat.ble (0+(l.length+2)*2) (fcl (l++[u,v])).length=true:=by rw[jbk,jig];simp
 have hsub:l.length+2-l.length=2:=by omega
 have hd0:∀ K,dropK (fcl (l++[u,v])) (l.length*2+Int.toNat 0*2) K=K (fcl [u,v]):=fun K=>jaW [u,v] K l
 have hd1:∀ K,dropK (fcl (l++[u,v])) (l.length*2+Int.toNat 1*2) K=K (fcl [v]):=fun K=>jbZ l [v] u K
 (conv=>whnf)
 (try simp only[hne,jhR,hca])
 repeat ((first|refine V.s1 ?_|((try ((with_reducible refine .ext ?_);(conv=>whnf);(try simp only[hne,jhR,hca])));(with_reducible refine jaa (r:=?_) ?_ ?_);rotate_left;(focus (first|fail));(conv=>whnf))|(((simp only[pg];(conv=>whnf)));(conv=>whnf)));(try simp only[hne,jhR,hca]))
 refine .inl ?_
 (conv=>whnf)
 refine⟨0,_,_,⟨Tryz.func95,rfl,rfl,jhL rfl⟩,?_⟩
 (conv=>whnf)
 (conv=>whnf)
 (try simp only[jhR])
 repeat ((first|refine V.s1 ?_|((try ((with_reducible refine .ext ?_);(conv=>whnf);(try simp only[jhR])));(with_reducible refine jaa (r:=?_) ?_ ?_);rotate_left;(focus (first|exact(tk)));(conv=>whnf))|(((simp only[pg];(conv=>whnf)));(conv=>whnf)));(try simp only[jhR]))
 refine .inl ?_
 (conv=>whnf)
 refine⟨0,_,_,⟨Tryz.func177,rfl,rfl,jhL rfl⟩,?_⟩
 (conv=>whnf)
 (conv=>whnf)
 (try simp only[hr,jhR])
 repeat ((first|refine V.s1 ?_|((try ((with_reducible refine .ext ?_);(conv=>whnf);(try simp only[hr,jhR])));(with_reducible refine jaa (r:=?_) ?_ ?_);rotate_left;(focus (first|exact(tk)));(conv=>whnf))|(((simp only[pg];(conv=>whnf)));(conv=>whnf))|(((simp only[hr,jhR,hsub];(conv=>whnf)));(conv=>whnf))|(((simp only[hble];(conv=>whnf)));(conv=>whnf)));(try simp only[hr,jhR]))
 refine⟨Pq7z,[],V.pok,.go (jab ?_)⟩
 (conv=>whnf)
 (try simp only[jhR])
 repeat ((first|refine V.s1 ?_|((try ((with_reducible refine .ext ?_);(conv=>whnf);(try simp only[jhR])));(with_reducible refine jaa (r:=?_) ?_ ?_);rotate_left;(focus (first|fail));(conv=>whnf))|(((simp only[pg];(conv=>whnf)));(conv=>whnf)));(try simp only[jhR]))
 refine .inl ?_
 (conv=>whnf)
 refine⟨0,_,_,⟨Tryz.func163,rfl,rfl,jhL rfl⟩,?_⟩
 (conv=>whnf)
 (conv=>whnf)
 (try simp only[jhR])
 repeat ((first|refine V.s1 ?_|((try ((with_reducible refine .ext ?_);(conv=>whnf);(try simp only[jhR])));(with_reducible refine jaa (r:=?_) ?_ ?_);rotate_left;(focus (first|fail));(conv=>whnf))|(((simp only[pg];(conv=>whnf)));(conv=>whnf)));(try simp only[jhR]))
 refine⟨Pq14z,[],V.pok,.go (jab ?_)⟩
 (conv=>whnf)
 (try simp only[jhF])
 repeat ((first|refine V.s1 ?_|((try ((with_reducible refine .ext ?_);(conv=>whnf);(try simp only[jhF])));(with_reducible refine jaa (r:=?_) ?_ ?_);rotate_left;(focus (first|exact(cf)));(conv=>whnf))|(((simp only[pg];(conv=>whnf)));(conv=>whnf))|(((simp only[hd0];(conv=>whnf)));(conv=>whnf))|(((simp only[hd1];(conv=>whnf)));(conv=>whnf)));(try simp only[jhF]))
 refine .inl ?_
 (conv=>whnf)
 refine⟨0,_,_,⟨Tryz.func176,rfl,rfl,jhL rfl⟩,?_⟩
 (conv=>whnf)
 (conv=>whnf)
 (try simp only[jhR])
 repeat ((first|refine V.s1 ?_|((try ((with_reducible refine .ext ?_);(conv=>whnf);(try simp only[jhR])));(with_reducible refine jaa (r:=?_) ?_ ?_);rotate_left;(focus (first|fail));(conv=>whnf))|(((simp only[pg];(conv=>whnf)));(conv=>whnf)));(try simp only[jhR]))
 by_cases he:e=0
 ·refine jaY [(0,.box 58 0),(4,.box 200 0)] [(58,.box [.bsl 145 0 l.length 2,inF x,.fn 76 [] [],.mapr 44]),(145,.box (fcl l)),(200,.box [.str S,.str T]),(44,.mp esF),(114,.mp stepsF),(64,.box [.nil]),(65,.box [.int .i64 0])] (CondB.mk (fun h=>absurd he (by simpa using h)) (fun _=>?_)) ?_
  ·(conv=>whnf)
   exact Wk.trim 145 (l.length*2) rfl (Wk.same 145 rfl (jbv l [u,v]) V.wk)
  ·have pg:=jaV l
   have hb:=jbs l
   have ht:=jay hl
   have hf:∀ i,D.freeL i (fcl l++[.str S,.str T])=true:=ja4 l _ _
   (conv=>whnf)
   refine⟨Pq18z,[],V.pok,.go (jab ?_)⟩
   (conv=>whnf)
   (try simp only[jhR,hkc])
   repeat ((first|refine V.s1 ?_|((try ((with_reducible refine .ext ?_);(conv=>whnf);(try simp only[jhR,hkc])));(with_reducible refine jaa (r:=?_) ?_ ?_);rotate_left;(focus (first|fail));(conv=>whnf))|(((simp only[pg];(conv=>whnf)));(conv=>whnf))|(((simp only[hb,ht,jiD,hf];(conv=>whnf)));(conv=>whnf)));(try simp only[jhR,hkc]))
   refine hok he _ _ (Wk.renB 214 145 58 0 (l.length+1) 2 (by decide) (by decide) (by decide) (hf _) rfl rfl rfl ?_)
   exact V.wk
 ·refine Cnd.split (CondB.mk (fun _=>?_) (fun h=>absurd (by simpa using h) he))
  refine V.r0 @jhR ?_
  exact hpan he _ _ V.wk
theorem jhD:type_of% @jhR∧type_of% @jhQ:=⟨@jhR,@jhQ⟩
theorem rdF_neg (p:List (Int×Int))(x l:List Rat)(u:Rat)(k:Nat)(a:Int)(S T:List UInt8)(e:Int)(hk:k<p.length)(hp:p.length≤40)(hca:p.getD k (0,0)=(8,a))(hl:l.length≤16)
  (cf:Cl 85 [.agg [.str (decZ u.num),.str (dec u.den)]] (.tup [.agg [.str S,.str T],.int .i64 e])) {K:K3}
  (hok:e=0 → ∀ L H,Wk 103 L H (slM p (k+1)) (hpF x (l.length+1) (fcl l++[.str S,.str T]))→K .normal L H)
  (hpan:e≠0 → ∀ L H,Wk 103 L H slE hpE→K (.panic [{ v := .iface 155 (.agg #[.int .i64 e]),recovered:=false }]) L H) :
  RunC Tryz.prog tb (inlN Tryz.prog tb 6) 42 ((jaw (Tryz.f49.body.getD .skip)).getD .skip) (fun _ _ _ _ _=>False) 103 (slM p k) (hpF x (l.length+1) (fcl (l++[u]))) K:=by
 have hkc:((k:Int)+1)=((k+1:Nat):Int):=by omega
 have hne:decide ((k:Int)=p.length)=false:=decide_eq_false (by omega)
 have pg:=jaV (l++[u])
 have tk:Cl 120 [.int .i64 8] (.tup [.int .i64 1,.bool true]):=jaD 8
 have hr:(((l.length+1:Nat):Int)-1)=(l.length:Nat):=by omega
 have hble:Nat.ble (0+(l.length+1)*2) (fcl (l++[u])).length=true:=by rw[jbk,jig];simp
 have hsub:l.length+1-l.length=1:=by omega
 have hd0:∀ K,dropK (fcl (l++[u])) (l.length*2+Int.toNat 0*2) K=K (fcl [u]):=fun K=>jaW [u] K l
 (conv=>whnf)
 (try simp only[hne,jhR,hca])
 repeat ((first|refine V.s1 ?_|((try ((with_reducible refine .ext ?_);(conv=>whnf);(try simp only[hne,jhR,hca])));(with_reducible refine jaa (r:=?_) ?_ ?_);rotate_left;(focus (first|fail));(conv=>whnf))|(((simp only[pg];(conv=>whnf)));(conv=>whnf)));(try simp only[hne,jhR,hca]))
 refine .inl ?_
 (conv=>whnf)
 refine⟨0,_,_,⟨Tryz.func95,rfl,rfl,jhL rfl⟩,?_⟩
 (conv=>whnf)
 (conv=>whnf)
 (try simp only[jhR])
 repeat ((first|refine V.s1 ?_|((try ((with_reducible refine .ext ?_);(conv=>whnf);(try simp only[jhR])));(with_reducible refine jaa (r:=?_) ?_ ?_);rotate_left;(focus (first|exact(tk)));(conv=>whnf))|(((simp only[pg];(conv=>whnf)));(conv=>whnf)));(try simp only[jhR]))
 refine .inl ?_
 (conv=>whnf)
 refine⟨0,_,_,⟨Tryz.func177,rfl,rfl,jhL rfl⟩,?_⟩
 (conv=>whnf)
 (conv=>whnf)
 (try simp only[hr,jhR])
 repeat ((first|refine V.s1 ?_|((try ((with_reducible refine .ext ?_);(conv=>whnf);(try simp only[hr,jhR])));(with_reducible refine jaa (r:=?_) ?_ ?_);rotate_left;(focus (first|exact(tk)));(conv=>whnf))|(((simp only[pg];(conv=>whnf)));(conv=>whnf))|(((simp only[hr,jhR,hsub];(conv=>whnf)));(conv=>whnf))|(((simp only[hble];(conv=>whnf)));(conv=>whnf)));(try simp only[hr,jhR]))
 refine⟨Pq7z,[],V.pok,.go (jab ?_)⟩
 (conv=>whnf)
 (try simp only[jhR])
 repeat ((first|refine V.s1 ?_|((try ((with_reducible refine .ext ?_);(conv=>whnf);(try simp only[jhR])));(with_reducible refine jaa (r:=?_) ?_ ?_);rotate_left;(focus (first|fail));(conv=>whnf))|(((simp only[pg];(conv=>whnf)));(conv=>whnf)));(try simp only[jhR]))
 refine .inl ?_
 (conv=>whnf)
 refine⟨0,_,_,⟨Tryz.func171,rfl,rfl,jhL rfl⟩,?_⟩
 (conv=>whnf)
 (conv=>whnf)
 (try simp only[jhR])
 repeat ((first|refine V.s1 ?_|((try ((with_reducible refine .ext ?_);(conv=>whnf);(try simp only[jhR])));(with_reducible refine jaa (r:=?_) ?_ ?_);rotate_left;(focus (first|fail));(conv=>whnf))|(((simp only[pg];(conv=>whnf)));(conv=>whnf)));(try simp only[jhR]))
 refine⟨Pq28z,[],V.pok,.go (jab ?_)⟩
 (conv=>whnf)
 (try simp only[jhD])
 repeat ((first|refine V.s1 ?_|((try ((with_reducible refine .ext ?_);(conv=>whnf);(try simp only[jhD])));(with_reducible refine jaa (r:=?_) ?_ ?_);rotate_left;(focus (first|exact(cf)));(conv=>whnf))|(((simp only[pg];(conv=>whnf)));(conv=>whnf))|(((simp only[hd0];(conv=>whnf)));(conv=>whnf)));(try simp only[jhD]))
 refine .inl ?_
 (conv=>whnf)
 refine⟨0,_,_,⟨Tryz.func176,rfl,rfl,jhL rfl⟩,?_⟩
 (conv=>whnf)
 (conv=>whnf)
 (try simp only[jhR])
 repeat ((first|refine V.s1 ?_|((try ((with_reducible refine .ext ?_);(conv=>whnf);(try simp only[jhR])));(with_reducible refine jaa (r:=?_) ?_ ?_);rotate_left;(focus (first|fail));(conv=>whnf))|(((simp only[pg];(conv=>whnf)));(conv=>whnf)));(try simp only[jhR]))
 by_cases he:e=0
 ·refine jaY [(0,.box 58 0),(4,.box 200 0)] [(58,.box [.bsl 145 0 l.length 2,inF x,.fn 76 [] [],.mapr 44]),(145,.box (fcl l)),(200,.box [.str S,.str T]),(44,.mp esF),(114,.mp stepsF),(64,.box [.nil]),(65,.box [.int .i64 0])] (CondB.mk (fun h=>absurd he (by simpa using h)) (fun _=>?_)) ?_
  ·(conv=>whnf)
   exact Wk.trim 145 (l.length*2) rfl (Wk.same 145 rfl (jbv l [u]) V.wk)
  ·have pg:=jaV l
   have hb:=jbs l
   have ht:=jay hl
   have hf:∀ i,D.freeL i (fcl l++[.str S,.str T])=true:=ja4 l _ _
   (conv=>whnf)
   refine⟨Pq18z,[],V.pok,.go (jab ?_)⟩
   (conv=>whnf)
   (try simp only[jhR,hkc])
   repeat ((first|refine V.s1 ?_|((try ((with_reducible refine .ext ?_);(conv=>whnf);(try simp only[jhR,hkc])));(with_reducible refine jaa (r:=?_) ?_ ?_);rotate_left;(focus (first|fail));(conv=>whnf))|(((simp only[pg];(conv=>whnf)));(conv=>whnf))|(((simp only[hb,ht,jiD,hf];(conv=>whnf)));(conv=>whnf)));(try simp only[jhR,hkc]))
   refine hok he _ _ (Wk.renB 214 145 58 0 (l.length+1) 2 (by decide) (by decide) (by decide) (hf _) rfl rfl rfl ?_)
   exact V.wk
 ·refine Cnd.split (CondB.mk (fun _=>?_) (fun h=>absurd (by simpa using h) he))
  refine V.r0 @jhR ?_
  exact hpan he _ _ V.wk
theorem rdF_abs (p:List (Int×Int))(x l:List Rat)(u:Rat)(k:Nat)(a:Int)(S T:List UInt8)(e:Int)(hk:k<p.length)(hp:p.length≤40)(hca:p.getD k (0,0)=(9,a))(hl:l.length≤16)
  (cf:Cl 86 [.agg [.str (decZ u.num),.str (dec u.den)]] (.tup [.agg [.str S,.str T],.int .i64 e])) {K:K3}
  (hok:e=0 → ∀ L H,Wk 103 L H (slM p (k+1)) (hpF x (l.length+1) (fcl l++[.str S,.str T]))→K .normal L H)
  (hpan:e≠0 → ∀ L H,Wk 103 L H slE hpE→K (.panic [{ v := .iface 155 (.agg #[.int .i64 e]),recovered:=false }]) L H) :
  RunC Tryz.prog tb (inlN Tryz.prog tb 6) 42 ((jaw (Tryz.f49.body.getD .skip)).getD .skip) (fun _ _ _ _ _=>False) 103 (slM p k) (hpF x (l.length+1) (fcl (l++[u]))) K:=by
 have hkc:((k:Int)+1)=((k+1:Nat):Int):=by omega
 have hne:decide ((k:Int)=p.length)=false:=decide_eq_false (by omega)
 have pg:=jaV (l++[u])
 have tk:Cl 120 [.int .i64 9] (.tup [.int .i64 1,.bool true]):=jaD 9
 have hr:(((l.length+1:Nat):Int)-1)=(l.length:Nat):=by omega
 have hble:Nat.ble (0+(l.length+1)*2) (fcl (l++[u])).length=true:=by rw[jbk,jig];simp
 have hsub:l.length+1-l.length=1:=by omega
 have hd0:∀ K,dropK (fcl (l++[u])) (l.length*2+Int.toNat 0*2) K=K (fcl [u]):=fun K=>jaW [u] K l
 (conv=>whnf)
 (try simp only[hne,jhR,hca])
 repeat ((first|refine V.s1 ?_|((try ((with_reducible refine .ext ?_);(conv=>whnf);(try simp only[hne,jhR,hca])));(with_reducible refine jaa (r:=?_) ?_ ?_);rotate_left;(focus (first|fail));(conv=>whnf))|(((simp only[pg];(conv=>whnf)));(conv=>whnf)));(try simp only[hne,jhR,hca]))
 refine .inl ?_
 (conv=>whnf)
 refine⟨0,_,_,⟨Tryz.func95,rfl,rfl,jhL rfl⟩,?_⟩
 (conv=>whnf)
 (conv=>whnf)
 (try simp only[jhR])
 repeat ((first|refine V.s1 ?_|((try ((with_reducible refine .ext ?_);(conv=>whnf);(try simp only[jhR])));(with_reducible refine jaa (r:=?_) ?_ ?_);rotate_left;(focus (first|exact(tk)));(conv=>whnf))|(((simp only[pg];(conv=>whnf)));(conv=>whnf)));(try simp only[jhR]))
 refine .inl ?_
 (conv=>whnf)
 refine⟨0,_,_,⟨Tryz.func177,rfl,rfl,jhL rfl⟩,?_⟩
 (conv=>whnf)
 (conv=>whnf)
 (try simp only[hr,jhR])
 repeat ((first|refine V.s1 ?_|((try ((with_reducible refine .ext ?_);(conv=>whnf);(try simp only[hr,jhR])));(with_reducible refine jaa (r:=?_) ?_ ?_);rotate_left;(focus (first|exact(tk)));(conv=>whnf))|(((simp only[pg];(conv=>whnf)));(conv=>whnf))|(((simp only[hr,jhR,hsub];(conv=>whnf)));(conv=>whnf))|(((simp only[hble];(conv=>whnf)));(conv=>whnf)));(try simp only[hr,jhR]))
 refine⟨Pq7z,[],V.pok,.go (jab ?_)⟩
 (conv=>whnf)
 (try simp only[jhR])
 repeat ((first|refine V.s1 ?_|((try ((with_reducible refine .ext ?_);(conv=>whnf);(try simp only[jhR])));(with_reducible refine jaa (r:=?_) ?_ ?_);rotate_left;(focus (first|fail));(conv=>whnf))|(((simp only[pg];(conv=>whnf)));(conv=>whnf)));(try simp only[jhR]))
 refine .inl ?_
 (conv=>whnf)
 refine⟨0,_,_,⟨Tryz.func171,rfl,rfl,jhL rfl⟩,?_⟩
 (conv=>whnf)
 (conv=>whnf)
 (try simp only[jhR])
 repeat ((first|refine V.s1 ?_|((try ((with_reducible refine .ext ?_);(conv=>whnf);(try simp only[jhR])));(with_reducible refine jaa (r:=?_) ?_ ?_);rotate_left;(focus (first|fail));(conv=>whnf))|(((simp only[pg];(conv=>whnf)));(conv=>whnf)));(try simp only[jhR]))
 refine⟨Pq28z,[],V.pok,.go (jab ?_)⟩
 (conv=>whnf)
 (try simp only[jhD])
 repeat ((first|refine V.s1 ?_|((try ((with_reducible refine .ext ?_);(conv=>whnf);(try simp only[jhD])));(with_reducible refine jaa (r:=?_) ?_ ?_);rotate_left;(focus (first|exact(cf)));(conv=>whnf))|(((simp only[pg];(conv=>whnf)));(conv=>whnf))|(((simp only[hd0];(conv=>whnf)));(conv=>whnf)));(try simp only[jhD]))
 refine .inl ?_
 (conv=>whnf)
 refine⟨0,_,_,⟨Tryz.func176,rfl,rfl,jhL rfl⟩,?_⟩
 (conv=>whnf)
 (conv=>whnf)
 (try simp only[jhR])
 repeat ((first|refine V.s1 ?_|((try ((with_reducible refine .ext ?_);(conv=>whnf);(try simp only[jhR])));(with_reducible refine jaa (r:=?_) ?_ ?_);rotate_left;(focus (first|fail));(conv=>whnf))|(((simp only[pg];(conv=>whnf)));(conv=>whnf)));(try simp only[jhR]))
 by_cases he:e=0
 ·refine jaY [(0,.box 58 0),(4,.box 200 0)] [(58,.box [.bsl 145 0 l.length 2,inF x,.fn 76 [] [],.mapr 44]),(145,.box (fcl l)),(200,.box [.str S,.str T]),(44,.mp esF),(114,.mp stepsF),(64,.box [.nil]),(65,.box [.int .i64 0])] (CondB.mk (fun h=>absurd he (by simpa using h)) (fun _=>?_)) ?_
  ·(conv=>whnf)
   exact Wk.trim 145 (l.length*2) rfl (Wk.same 145 rfl (jbv l [u]) V.wk)
  ·have pg:=jaV l
   have hb:=jbs l
   have ht:=jay hl
   have hf:∀ i,D.freeL i (fcl l++[.str S,.str T])=true:=ja4 l _ _
   (conv=>whnf)
   refine⟨Pq18z,[],V.pok,.go (jab ?_)⟩
   (conv=>whnf)
   (try simp only[jhR,hkc])
   repeat ((first|refine V.s1 ?_|((try ((with_reducible refine .ext ?_);(conv=>whnf);(try simp only[jhR,hkc])));(with_reducible refine jaa (r:=?_) ?_ ?_);rotate_left;(focus (first|fail));(conv=>whnf))|(((simp only[pg];(conv=>whnf)));(conv=>whnf))|(((simp only[hb,ht,jiD,hf];(conv=>whnf)));(conv=>whnf)));(try simp only[jhR,hkc]))
   refine hok he _ _ (Wk.renB 214 145 58 0 (l.length+1) 2 (by decide) (by decide) (by decide) (hf _) rfl rfl rfl ?_)
   exact V.wk
 ·refine Cnd.split (CondB.mk (fun _=>?_) (fun h=>absurd (by simpa using h) he))
  refine V.r0 @jhR ?_
  exact hpan he _ _ V.wk
theorem rdF_clamp (p:List (Int×Int))(x l:List Rat)(u:Rat)(k:Nat)(a:Int)(S T:List UInt8)(e:Int)(hk:k<p.length)(hp:p.length≤40)(hca:p.getD k (0,0)=(12,a))(hl:l.length≤16)
  (cf:Cl 89 [.agg [.str (decZ u.num),.str (dec u.den)]] (.tup [.agg [.str S,.str T],.int .i64 e])) {K:K3}
  (hok:e=0 → ∀ L H,Wk 103 L H (slM p (k+1)) (hpF x (l.length+1) (fcl l++[.str S,.str T]))→K .normal L H)
  (hpan:e≠0 → ∀ L H,Wk 103 L H slE hpE→K (.panic [{ v := .iface 155 (.agg #[.int .i64 e]),recovered:=false }]) L H) :
  RunC Tryz.prog tb (inlN Tryz.prog tb 6) 42 ((jaw (Tryz.f49.body.getD .skip)).getD .skip) (fun _ _ _ _ _=>False) 103 (slM p k) (hpF x (l.length+1) (fcl (l++[u]))) K:=by
 have hkc:((k:Int)+1)=((k+1:Nat):Int):=by omega
 have hne:decide ((k:Int)=p.length)=false:=decide_eq_false (by omega)
 have pg:=jaV (l++[u])
 have tk:Cl 120 [.int .i64 12] (.tup [.int .i64 1,.bool true]):=jaD 12
 have hr:(((l.length+1:Nat):Int)-1)=(l.length:Nat):=by omega
 have hble:Nat.ble (0+(l.length+1)*2) (fcl (l++[u])).length=true:=by rw[jbk,jig];simp
 have hsub:l.length+1-l.length=1:=by omega
 have hd0:∀ K,dropK (fcl (l++[u])) (l.length*2+Int.toNat 0*2) K=K (fcl [u]):=fun K=>jaW [u] K l
 (conv=>whnf)
 (try simp only[hne,jhR,hca])
 repeat ((first|refine V.s1 ?_|((try ((with_reducible refine .ext ?_);(conv=>whnf);(try simp only[hne,jhR,hca])));(with_reducible refine jaa (r:=?_) ?_ ?_);rotate_left;(focus (first|fail));(conv=>whnf))|(((simp only[pg];(conv=>whnf)));(conv=>whnf)));(try simp only[hne,jhR,hca]))
 refine .inl ?_
 (conv=>whnf)
 refine⟨0,_,_,⟨Tryz.func95,rfl,rfl,jhL rfl⟩,?_⟩
 (conv=>whnf)
 (conv=>whnf)
 (try simp only[jhR])
 repeat ((first|refine V.s1 ?_|((try ((with_reducible refine .ext ?_);(conv=>whnf);(try simp only[jhR])));(with_reducible refine jaa (r:=?_) ?_ ?_);rotate_left;(focus (first|exact(tk)));(conv=>whnf))|(((simp only[pg];(conv=>whnf)));(conv=>whnf)));(try simp only[jhR]))
 refine .inl ?_
 (conv=>whnf)
 refine⟨0,_,_,⟨Tryz.func177,rfl,rfl,jhL rfl⟩,?_⟩
 (conv=>whnf)
 (conv=>whnf)
 (try simp only[hr,jhR])
 repeat ((first|refine V.s1 ?_|((try ((with_reducible refine .ext ?_);(conv=>whnf);(try simp only[hr,jhR])));(with_reducible refine jaa (r:=?_) ?_ ?_);rotate_left;(focus (first|exact(tk)));(conv=>whnf))|(((simp only[pg];(conv=>whnf)));(conv=>whnf))|(((simp only[hr,jhR,hsub];(conv=>whnf)));(conv=>whnf))|(((simp only[hble];(conv=>whnf)));(conv=>whnf)));(try simp only[hr,jhR]))
 refine⟨Pq7z,[],V.pok,.go (jab ?_)⟩
 (conv=>whnf)
 (try simp only[jhR])
 repeat ((first|refine V.s1 ?_|((try ((with_reducible refine .ext ?_);(conv=>whnf);(try simp only[jhR])));(with_reducible refine jaa (r:=?_) ?_ ?_);rotate_left;(focus (first|fail));(conv=>whnf))|(((simp only[pg];(conv=>whnf)));(conv=>whnf)));(try simp only[jhR]))
 refine .inl ?_
 (conv=>whnf)
 refine⟨0,_,_,⟨Tryz.func171,rfl,rfl,jhL rfl⟩,?_⟩
 (conv=>whnf)
 (conv=>whnf)
 (try simp only[jhR])
 repeat ((first|refine V.s1 ?_|((try ((with_reducible refine .ext ?_);(conv=>whnf);(try simp only[jhR])));(with_reducible refine jaa (r:=?_) ?_ ?_);rotate_left;(focus (first|fail));(conv=>whnf))|(((simp only[pg];(conv=>whnf)));(conv=>whnf)));(try simp only[jhR]))
 refine⟨Pq28z,[],V.pok,.go (jab ?_)⟩
 (conv=>whnf)
 (try simp only[jhD])
 repeat ((first|refine V.s1 ?_|((try ((with_reducible refine .ext ?_);(conv=>whnf);(try simp only[jhD])));(with_reducible refine jaa (r:=?_) ?_ ?_);rotate_left;(focus (first|exact(cf)));(conv=>whnf))|(((simp only[pg];(conv=>whnf)));(conv=>whnf))|(((simp only[hd0];(conv=>whnf)));(conv=>whnf)));(try simp only[jhD]))
 refine .inl ?_
 (conv=>whnf)
 refine⟨0,_,_,⟨Tryz.func176,rfl,rfl,jhL rfl⟩,?_⟩
 (conv=>whnf)
 (conv=>whnf)
 (try simp only[jhR])
 repeat ((first|refine V.s1 ?_|((try ((with_reducible refine .ext ?_);(conv=>whnf);(try simp only[jhR])));(with_reducible refine jaa (r:=?_) ?_ ?_);rotate_left;(focus (first|fail));(conv=>whnf))|(((simp only[pg];(conv=>whnf)));(conv=>whnf)));(try simp only[jhR]))
 by_cases he:e=0
 ·refine jaY [(0,.box 58 0),(4,.box 200 0)] [(58,.box [.bsl 145 0 l.length 2,inF x,.fn 76 [] [],.mapr 44]),(145,.box (fcl l)),(200,.box [.str S,.str T]),(44,.mp esF),(114,.mp stepsF),(64,.box [.nil]),(65,.box [.int .i64 0])] (CondB.mk (fun h=>absurd he (by simpa using h)) (fun _=>?_)) ?_
  ·(conv=>whnf)
   exact Wk.trim 145 (l.length*2) rfl (Wk.same 145 rfl (jbv l [u]) V.wk)
  ·have pg:=jaV l
   have hb:=jbs l
   have ht:=jay hl
   have hf:∀ i,D.freeL i (fcl l++[.str S,.str T])=true:=ja4 l _ _
   (conv=>whnf)
   refine⟨Pq18z,[],V.pok,.go (jab ?_)⟩
   (conv=>whnf)
   (try simp only[jhR,hkc])
   repeat ((first|refine V.s1 ?_|((try ((with_reducible refine .ext ?_);(conv=>whnf);(try simp only[jhR,hkc])));(with_reducible refine jaa (r:=?_) ?_ ?_);rotate_left;(focus (first|fail));(conv=>whnf))|(((simp only[pg];(conv=>whnf)));(conv=>whnf))|(((simp only[hb,ht,jiD,hf];(conv=>whnf)));(conv=>whnf)));(try simp only[jhR,hkc]))
   refine hok he _ _ (Wk.renB 214 145 58 0 (l.length+1) 2 (by decide) (by decide) (by decide) (hf _) rfl rfl rfl ?_)
   exact V.wk
 ·refine Cnd.split (CondB.mk (fun _=>?_) (fun h=>absurd (by simpa using h) he))
  refine V.r0 @jhR ?_
  exact hpan he _ _ V.wk
theorem rdF_pick1 (p:List (Int×Int))(x l:List Rat)(u v w:Rat)(k:Nat)(a:Int)(s:Int)(hk:k<p.length)(hp:p.length≤40)(hca:p.getD k (0,0)=(10,a))(hl:l.length≤16)
  (sg:Cl 88 [.agg [.str (decZ w.num),.str (dec w.den)]] (.tup [.int .i64 s,.int .i64 0])) (hs:decide (s<0)=true) {K:K3}
  (hok:∀ L H,Wk 103 L H (slM p (k+1)) (hpF x (l.length+1) (fcl l++[.str (decZ v.num),.str (dec v.den)]))→K .normal L H) :
  RunC Tryz.prog tb (inlN Tryz.prog tb 6) 42 ((jaw (Tryz.f49.body.getD .skip)).getD .skip) (fun _ _ _ _ _=>False) 103 (slM p k) (hpF x (l.length+3) (fcl (l++[u,v,w]))) K:=by
 have hkc:((k:Int)+1)=((k+1:Nat):Int):=by omega
 have hne:decide ((k:Int)=p.length)=false:=decide_eq_false (by omega)
 have pg:=jaV (l++[u,v,w])
 have tk:Cl 120 [.int .i64 10] (.tup [.int .i64 3,.bool true]):=jaD 10
 have hr:(((l.length+3:Nat):Int)-3)=(l.length:Nat):=by omega
 have hble:Nat.ble (0+(l.length+3)*2) (fcl (l++[u,v,w])).length=true:=by rw[jbk,jig];simp
 have hsub:l.length+3-l.length=3:=by omega
 have hd0:∀ K,dropK (fcl (l++[u,v,w])) (l.length*2+Int.toNat 0*2) K=K (fcl [u,v,w]):=fun K=>jaW [u,v,w] K l
 have hd1:∀ K,dropK (fcl (l++[u,v,w])) (l.length*2+Int.toNat 1*2) K=K (fcl [v,w]):=fun K=>jbZ l [v,w] u K
 have hd2:∀ K,dropK (fcl (l++[u,v,w])) (l.length*2+Int.toNat 2*2) K=K (fcl [w]):=fun K=>jgE l [w] u v K
 (conv=>whnf)
 (try simp only[hne,jhR,hca])
 repeat ((first|refine V.s1 ?_|((try ((with_reducible refine .ext ?_);(conv=>whnf);(try simp only[hne,jhR,hca])));(with_reducible refine jaa (r:=?_) ?_ ?_);rotate_left;(focus (first|fail));(conv=>whnf))|(((simp only[pg];(conv=>whnf)));(conv=>whnf)));(try simp only[hne,jhR,hca]))
 refine .inl ?_
 (conv=>whnf)
 refine⟨0,_,_,⟨Tryz.func95,rfl,rfl,jhL rfl⟩,?_⟩
 (conv=>whnf)
 (conv=>whnf)
 (try simp only[jhR])
 repeat ((first|refine V.s1 ?_|((try ((with_reducible refine .ext ?_);(conv=>whnf);(try simp only[jhR])));(with_reducible refine jaa (r:=?_) ?_ ?_);rotate_left;(focus (first|exact(tk)));(conv=>whnf))|(((simp only[pg];(conv=>whnf)));(conv=>whnf)));(try simp only[jhR]))
 refine .inl ?_
 (conv=>whnf)
 refine⟨0,_,_,⟨Tryz.func177,rfl,rfl,jhL rfl⟩,?_⟩
 (conv=>whnf)
 (conv=>whnf)
 (try simp only[hr,jhR])
 repeat ((first|refine V.s1 ?_|((try ((with_reducible refine .ext ?_);(conv=>whnf);(try simp only[hr,jhR])));(with_reducible refine jaa (r:=?_) ?_ ?_);rotate_left;(focus (first|exact(tk)));(conv=>whnf))|(((simp only[pg];(conv=>whnf)));(conv=>whnf))|(((simp only[hr,jhR,hsub];(conv=>whnf)));(conv=>whnf))|(((simp only[hble];(conv=>whnf)));(conv=>whnf)));(try simp only[hr,jhR]))
 refine⟨Pq7z,[],V.pok,.go (jab ?_)⟩
 (conv=>whnf)
 (try simp only[jhR])
 repeat ((first|refine V.s1 ?_|((try ((with_reducible refine .ext ?_);(conv=>whnf);(try simp only[jhR])));(with_reducible refine jaa (r:=?_) ?_ ?_);rotate_left;(focus (first|fail));(conv=>whnf))|(((simp only[pg];(conv=>whnf)));(conv=>whnf)));(try simp only[jhR]))
 refine .inl ?_
 (conv=>whnf)
 refine⟨0,_,_,⟨Tryz.func87,rfl,rfl,jhL rfl⟩,?_⟩
 (conv=>whnf)
 (conv=>whnf)
 (try simp only[jhD,hs])
 repeat ((first|refine V.s1 ?_|((try ((with_reducible refine .ext ?_);(conv=>whnf);(try simp only[jhD,hs])));(with_reducible refine jaa (r:=?_) ?_ ?_);rotate_left;(focus (first|exact(sg)));(conv=>whnf))|(((simp only[pg];(conv=>whnf)));(conv=>whnf))|(((simp only[hd2];(conv=>whnf)));(conv=>whnf))|(((simp only[hd1];(conv=>whnf)));(conv=>whnf)));(try simp only[jhD,hs]))
 refine .inl ?_
 (conv=>whnf)
 refine⟨0,_,_,⟨Tryz.func176,rfl,rfl,jhL rfl⟩,?_⟩
 (conv=>whnf)
 repeat (simp only[pg];(conv=>whnf))
 refine jaY [(0,.box 58 0),(4,.box 200 0)] [(58,.box [.bsl 145 0 l.length 2,inF x,.fn 76 [] [],.mapr 44]),(145,.box (fcl l)),(200,.box [.str (decZ v.num),.str (dec v.den)]),(44,.mp esF),(114,.mp stepsF),(64,.box [.nil]),(65,.box [.int .i64 0])] (CondB.mk (fun h=>by simp at h) (fun _=>?_)) ?_
 ·(conv=>whnf)
  exact Wk.trim 145 (l.length*2) rfl (Wk.same 145 rfl (jbv l [u,v,w]) V.wk)
 ·have pg:=jaV l
  have hb:=jbs l
  have ht:=jay hl
  have hf:∀ i,D.freeL i (fcl l++[.str (decZ v.num),.str (dec v.den)])=true:=ja4 l _ _
  (conv=>whnf)
  refine⟨Pq18z,[],V.pok,.go (jab ?_)⟩
  (conv=>whnf)
  (try simp only[jhR,hkc])
  repeat ((first|refine V.s1 ?_|((try ((with_reducible refine .ext ?_);(conv=>whnf);(try simp only[jhR,hkc])));(with_reducible refine jaa (r:=?_) ?_ ?_);rotate_left;(focus (first|fail));(conv=>whnf))|(((simp only[pg];(conv=>whnf)));(conv=>whnf))|(((simp only[hb,ht,jiD,hf];(conv=>whnf)));(conv=>whnf)));(try simp only[jhR,hkc]))
  refine hok _ _ (Wk.renB 214 145 58 0 (l.length+1) 2 (by decide) (by decide) (by decide) (hf _) rfl rfl rfl ?_)
  exact V.wk
theorem rdF_pick0 (p:List (Int×Int))(x l:List Rat)(u v w:Rat)(k:Nat)(a:Int)(s:Int)(hk:k<p.length)(hp:p.length≤40)(hca:p.getD k (0,0)=(10,a))(hl:l.length≤16)
  (sg:Cl 88 [.agg [.str (decZ w.num),.str (dec w.den)]] (.tup [.int .i64 s,.int .i64 0])) (hs:decide (s<0)=false) {K:K3}
  (hok:∀ L H,Wk 103 L H (slM p (k+1)) (hpF x (l.length+1) (fcl l++[.str (decZ u.num),.str (dec u.den)]))→K .normal L H) :
  RunC Tryz.prog tb (inlN Tryz.prog tb 6) 42 ((jaw (Tryz.f49.body.getD .skip)).getD .skip) (fun _ _ _ _ _=>False) 103 (slM p k) (hpF x (l.length+3) (fcl (l++[u,v,w]))) K:=by
 have hkc:((k:Int)+1)=((k+1:Nat):Int):=by omega
 have hne:decide ((k:Int)=p.length)=false:=decide_eq_false (by omega)
 have pg:=jaV (l++[u,v,w])
 have tk:Cl 120 [.int .i64 10] (.tup [.int .i64 3,.bool true]):=jaD 10
 have hr:(((l.length+3:Nat):Int)-3)=(l.length:Nat):=by omega
 have hble:Nat.ble (0+(l.length+3)*2) (fcl (l++[u,v,w])).length=true:=by rw[jbk,jig];simp
 have hsub:l.length+3-l.length=3:=by omega
 have hd0:∀ K,dropK (fcl (l++[u,v,w])) (l.length*2+Int.toNat 0*2) K=K (fcl [u,v,w]):=fun K=>jaW [u,v,w] K l
 have hd1:∀ K,dropK (fcl (l++[u,v,w])) (l.length*2+Int.toNat 1*2) K=K (fcl [v,w]):=fun K=>jbZ l [v,w] u K
 have hd2:∀ K,dropK (fcl (l++[u,v,w])) (l.length*2+Int.toNat 2*2) K=K (fcl [w]):=fun K=>jgE l [w] u v K
 (conv=>whnf)
 (try simp only[hne,jhR,hca])
 repeat ((first|refine V.s1 ?_|((try ((with_reducible refine .ext ?_);(conv=>whnf);(try simp only[hne,jhR,hca])));(with_reducible refine jaa (r:=?_) ?_ ?_);rotate_left;(focus (first|fail));(conv=>whnf))|(((simp only[pg];(conv=>whnf)));(conv=>whnf)));(try simp only[hne,jhR,hca]))
 refine .inl ?_
 (conv=>whnf)
 refine⟨0,_,_,⟨Tryz.func95,rfl,rfl,jhL rfl⟩,?_⟩
 (conv=>whnf)
 (conv=>whnf)
 (try simp only[jhR])
 repeat ((first|refine V.s1 ?_|((try ((with_reducible refine .ext ?_);(conv=>whnf);(try simp only[jhR])));(with_reducible refine jaa (r:=?_) ?_ ?_);rotate_left;(focus (first|exact(tk)));(conv=>whnf))|(((simp only[pg];(conv=>whnf)));(conv=>whnf)));(try simp only[jhR]))
 refine .inl ?_
 (conv=>whnf)
 refine⟨0,_,_,⟨Tryz.func177,rfl,rfl,jhL rfl⟩,?_⟩
 (conv=>whnf)
 (conv=>whnf)
 (try simp only[hr,jhR])
 repeat ((first|refine V.s1 ?_|((try ((with_reducible refine .ext ?_);(conv=>whnf);(try simp only[hr,jhR])));(with_reducible refine jaa (r:=?_) ?_ ?_);rotate_left;(focus (first|exact(tk)));(conv=>whnf))|(((simp only[pg];(conv=>whnf)));(conv=>whnf))|(((simp only[hr,jhR,hsub];(conv=>whnf)));(conv=>whnf))|(((simp only[hble];(conv=>whnf)));(conv=>whnf)));(try simp only[hr,jhR]))
 refine⟨Pq7z,[],V.pok,.go (jab ?_)⟩
 (conv=>whnf)
 (try simp only[jhR])
 repeat ((first|refine V.s1 ?_|((try ((with_reducible refine .ext ?_);(conv=>whnf);(try simp only[jhR])));(with_reducible refine jaa (r:=?_) ?_ ?_);rotate_left;(focus (first|fail));(conv=>whnf))|(((simp only[pg];(conv=>whnf)));(conv=>whnf)));(try simp only[jhR]))
 refine .inl ?_
 (conv=>whnf)
 refine⟨0,_,_,⟨Tryz.func87,rfl,rfl,jhL rfl⟩,?_⟩
 (conv=>whnf)
 (conv=>whnf)
 (try simp only[jhD,hs])
 repeat ((first|refine V.s1 ?_|((try ((with_reducible refine .ext ?_);(conv=>whnf);(try simp only[jhD,hs])));(with_reducible refine jaa (r:=?_) ?_ ?_);rotate_left;(focus (first|exact(sg)));(conv=>whnf))|(((simp only[pg];(conv=>whnf)));(conv=>whnf))|(((simp only[hd2];(conv=>whnf)));(conv=>whnf))|(((simp only[hd0];(conv=>whnf)));(conv=>whnf)));(try simp only[jhD,hs]))
 refine .inl ?_
 (conv=>whnf)
 refine⟨0,_,_,⟨Tryz.func176,rfl,rfl,jhL rfl⟩,?_⟩
 (conv=>whnf)
 repeat (simp only[pg];(conv=>whnf))
 refine jaY [(0,.box 58 0),(4,.box 200 0)] [(58,.box [.bsl 145 0 l.length 2,inF x,.fn 76 [] [],.mapr 44]),(145,.box (fcl l)),(200,.box [.str (decZ u.num),.str (dec u.den)]),(44,.mp esF),(114,.mp stepsF),(64,.box [.nil]),(65,.box [.int .i64 0])] (CondB.mk (fun h=>by simp at h) (fun _=>?_)) ?_
 ·(conv=>whnf)
  exact Wk.trim 145 (l.length*2) rfl (Wk.same 145 rfl (jbv l [u,v,w]) V.wk)
 ·have pg:=jaV l
  have hb:=jbs l
  have ht:=jay hl
  have hf:∀ i,D.freeL i (fcl l++[.str (decZ u.num),.str (dec u.den)])=true:=ja4 l _ _
  (conv=>whnf)
  refine⟨Pq18z,[],V.pok,.go (jab ?_)⟩
  (conv=>whnf)
  (try simp only[jhR,hkc])
  repeat ((first|refine V.s1 ?_|((try ((with_reducible refine .ext ?_);(conv=>whnf);(try simp only[jhR,hkc])));(with_reducible refine jaa (r:=?_) ?_ ?_);rotate_left;(focus (first|fail));(conv=>whnf))|(((simp only[pg];(conv=>whnf)));(conv=>whnf))|(((simp only[hb,ht,jiD,hf];(conv=>whnf)));(conv=>whnf)));(try simp only[jhR,hkc]))
  refine hok _ _ (Wk.renB 214 145 58 0 (l.length+1) 2 (by decide) (by decide) (by decide) (hf _) rfl rfl rfl ?_)
  exact V.wk
end Go.Proofs.YtpkdedncgclblaaGreatDoor
end
