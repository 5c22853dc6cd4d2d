/- What functions of the program answer at given values, part 11. Conditions: those that each theorem names. -/
import Derived.Test.YtbhpaandigaanaaGreatDoorLocateBackH10
import Derived.Test.YtbhpaandigaanaaGreatDoorLocateBackH9
import Derived.Test.YtbhpaandigaanaaGreatDoorLocateBackH8
import Derived.Test.YtbhpaandigaanaaGreatDoorLocateBackH7
import Derived.Test.YtbhpaandigaanaaGreatDoorLocateBackH6
set_option linter.unusedSimpArgs false
set_option linter.unusedVariables false
set_option maxHeartbeats 8000000
set_option maxRecDepth 100000
section
namespace Go.Proofs.YtbhpaandigaanaaGreatDoor
open Go Go.V Go.Nb
def Q9 (k:Nat)(q:Rat):Prop:=S9 k q.num∧(mg 1000000000 q.den).length≤k
theorem Q9.mono {k l:Nat}{q:Rat}(h:Q9 k q)(hl:k≤l):Q9 l q:=⟨h.1.mono hl,jhc h.2 hl⟩
theorem Q9.neg {k:Nat}{q:Rat}(h:Q9 k q):Q9 k (-q):=⟨by rw[Rat.neg_num];exact h.1.neg,by rw[Rat.neg_den];exact h.2⟩
theorem div_sign (t:Int)(h:Nat)(hd:h ∣ t.natAbs):(if decide (t<0)=true then -((t.natAbs/h:Nat):Int) else ((t.natAbs/h:Nat):Int))=t/h:=by
 have e:t=t.sign*(t.natAbs:Int):=(Int.sign_mul_natAbs t).symm
 by_cases hz:t<0
 ·rw[decide_eq_true hz,if_pos rfl]
  have e2:t = -(t.natAbs:Int):=by omega
  conv=>rhs;rw[e2]
  rw[Int.neg_ediv_of_dvd (Int.ofNat_dvd.2 hd),Int.natCast_ediv]
 ·rw[decide_eq_false hz,if_neg (by simp)]
  have e2:t=(t.natAbs:Int):=by omega
  conv=>rhs;rw[e2]
  rw[Int.natCast_ediv]
theorem negated_c (q:Rat):Cl 130 [rtD q] (rtD (-q)):=by
 have h1:=jeF q.num
 have e:rtD (-q) = .agg [.ints .u32 (mg 1000000000 (-q.num).natAbs),.bool (decide (-q.num<0)),.ints .u32 (mg 1000000000 q.den)]:=by unfold rtD;rw[Rat.neg_num,Rat.neg_den]
 rw[e]
 refine V.en tbOk Tryz.func130 ?_
 (conv=>whnf)
 refine V.st ?_
 refine⟨(V.tk [0,1,3,4] (V.e1 2 [4,3] (V.tk [5] (V.e1 6 [] .done)))),[],V.pok,.go (jab ?_)⟩
 (conv=>whnf)
 refine V.st ?_
 repeat ((try ((with_reducible refine .ext ?_);(conv=>whnf)));(with_reducible refine jaa (r:=?_) ?_ ?_);rotate_left;(focus (first|exact(h1)));(conv=>whnf);refine V.st ?_)
 exact Fin.of rfl
theorem add_c (x y:Rat)(hx:Q9 20000000 x)(hy:Q9 20000000 y):Cl 101 [rtD x,rtD y] (rtD (x+y)):=by
 obtain⟨p1,p2⟩:=add_parts x y
 have g1:=gcd_c x.den y.den (by have:=hx.2;omega) (by have:=hy.2;omega)
 have hg:0<Nat.gcd x.den y.den:=Nat.gcd_pos_of_pos_left _ x.den_pos
 have lg:=jaf (B:=1000000000) (by omega) (Nat.gcd_le_left y.den x.den_pos)
 generalize Nat.gcd x.den y.den=g at *
 have hx1:=hx.1
 have hy1:=hy.1
 have hx2:=hx.2
 have hy2:=hy.2
 have d1:=jaZ y.den g hg (by omega) (by omega)
 have d2:=jaZ x.den g hg (by omega) (by omega)
 have lL:=jaf (B:=1000000000) (by omega) (jhu y.den g)
 have lR:=jaf (B:=1000000000) (by omega) (jhu x.den g)
 have s1:=jdv x.num (y.den/g) (hx1.mono (by omega)) (by omega)
 have s2:=jdv y.num (x.den/g) (hy1.mono (by omega)) (by omega)
 have z1:S9 40000000 (x.num*((y.den/g:Nat):Int)):=hx1.mul (l:=20000000) (S9.nat.2 (by omega))
 have z2:S9 40000000 (y.num*((x.den/g:Nat):Int)):=hy1.mul (l:=20000000) (S9.nat.2 (by omega))
 have s3:=sum_c9 _ _ (z1.mono (by omega)) (z2.mono (by omega))
 have z3:=z1.add z2
 generalize x.num*((y.den/g:Nat):Int)+y.num*((x.den/g:Nat):Int)=top at *
 unfold S9 at z3
 have g2:=gcd_c top.natAbs g (by omega) (by omega)
 have hh:0<Nat.gcd top.natAbs g:=Nat.gcd_pos_of_pos_right _ hg
 have lh:=jaf (B:=1000000000) (by omega) (Nat.gcd_le_right top.natAbs hg)
 have hdv:Nat.gcd top.natAbs g ∣ top.natAbs:=Nat.gcd_dvd_left _ _
 generalize Nat.gcd top.natAbs g=h at *
 have d3:=jaZ top.natAbs h hh (by omega) (by omega)
 have d4:=jaZ y.den h hh (by omega) (by omega)
 have lT:=jaf (B:=1000000000) (by omega) (jhu y.den h)
 have t1:=jc4 (x.den/g) (y.den/h) (by omega) (by omega)
 have m1:=jaX (top.natAbs/h) (decide (top<0))
 rw[div_sign top h hdv,← p1] at m1
 rw[← p2] at t1
 refine V.en tbOk Tryz.func101 ?_
 (conv=>whnf)
 refine V.st ?_
 repeat ((try ((with_reducible refine .ext ?_);(conv=>whnf)));(with_reducible refine jaa (r:=?_) ?_ ?_);rotate_left;(focus (first|exact(g1)|exact(d1)|exact(d2)));(conv=>whnf);refine V.st ?_)
 refine⟨(V.tk [0,1,2,4,5,6] (.ev (.cons 3 [6,5,4] (.ev (.cons 7 [] (.ev (.cons 8 [] (V.e1 9 [] (V.e1 10 [] .done)) (.cons 9 [] (V.e1 8 [] (V.e1 10 [] .done)) .nil))) (.cons 9 [6,5,4] (V.e1 7 [] (V.e1 8 [] (V.e1 10 [] .done))) .nil))) (.cons 9 [6,5,4,2,1,0] (V.e1 3 [6,5,4] (V.e1 7 [] (V.e1 8 [] (V.e1 10 [] .done)))) .nil)))),[],V.pok,?_⟩
 refine jad [(10,.box 10 0)] [(10,.box [.ints .u32 (mg 1000000000 top.natAbs),.bool (decide (top<0))])] ?_ ?_
 ·exact V.d3 @jg8 s1 s2 s3
 (conv=>whnf)
 refine V.st ?_
 repeat ((try ((with_reducible refine .ext ?_);(conv=>whnf)));(with_reducible refine jaa (r:=?_) ?_ ?_);rotate_left;(focus (first|exact(g2)|exact(d3)|exact(d4)|exact(m1)|exact(t1)));(conv=>whnf);refine V.st ?_)
 exact Fin.of rfl
theorem sub_c (x y:Rat)(hx:Q9 20000000 x)(hy:Q9 20000000 y):Cl 96 [rtD x,rtD y] (rtD (x-y)):=by
 have h1:=negated_c y
 have h2:=add_c x (-y) hx hy.neg
 rw[← Rat.sub_eq_add_neg] at h2
 refine V.en tbOk Tryz.func96 ?_
 (conv=>whnf)
 refine V.st ?_
 refine⟨(V.tk [0,1] (V.e1 2 [0] (V.e1 3 [] (V.e1 4 [] .done)))),[],V.pok,.go (jab ?_)⟩
 (conv=>whnf)
 refine V.st ?_
 repeat ((try ((with_reducible refine .ext ?_);(conv=>whnf)));(with_reducible refine jaa (r:=?_) ?_ ?_);rotate_left;(focus (first|exact(h1)|exact(h2)));(conv=>whnf);refine V.st ?_)
 exact Fin.of rfl
theorem mul_num (x y:Rat):(if (decide (x.num<0) != decide (y.num<0))=true then -((x*y).num.natAbs:Int) else ((x*y).num.natAbs:Int))=(x*y).num:=by
 have h:=mul_sign x y
 by_cases h0:(x*y).num=0
 ·rw[h0];simp
 ·rw[decide_eq_false h0,Bool.not_false,Bool.and_true] at h
  rw[← h]
  by_cases h1:(x*y).num<0
  ·rw[decide_eq_true h1,if_pos rfl];omega
  ·rw[decide_eq_false h1,if_neg (by simp)];omega
theorem mul_c (x y:Rat)(hx:Q9 20000000 x)(hy:Q9 20000000 y):Cl 68 [rtD x,rtD y] (rtD (x*y)):=by
 obtain⟨p1,p2⟩:=mul_parts x y
 have pn:=mul_num x y
 have hx1:=hx.1
 have hy1:=hy.1
 have hx2:=hx.2
 have hy2:=hy.2
 unfold S9 at hx1 hy1
 have g1:=gcd_c x.num.natAbs y.den (by omega) (by omega)
 have g2:=gcd_c y.num.natAbs x.den (by omega) (by omega)
 have hg:0<Nat.gcd x.num.natAbs y.den:=Nat.gcd_pos_of_pos_right _ y.den_pos
 have hh:0<Nat.gcd y.num.natAbs x.den:=Nat.gcd_pos_of_pos_right _ x.den_pos
 have lg:=jaf (B:=1000000000) (by omega) (Nat.gcd_le_right x.num.natAbs y.den_pos)
 have lh:=jaf (B:=1000000000) (by omega) (Nat.gcd_le_right y.num.natAbs x.den_pos)
 generalize Nat.gcd x.num.natAbs y.den=g at *
 generalize Nat.gcd y.num.natAbs x.den=h at *
 have d1:=jaZ x.num.natAbs g hg (by omega) (by omega)
 have d2:=jaZ x.den h hh (by omega) (by omega)
 have d3:=jaZ y.num.natAbs h hh (by omega) (by omega)
 have d4:=jaZ y.den g hg (by omega) (by omega)
 have l1:=jaf (B:=1000000000) (by omega) (jhu x.num.natAbs g)
 have l2:=jaf (B:=1000000000) (by omega) (jhu x.den h)
 have l3:=jaf (B:=1000000000) (by omega) (jhu y.num.natAbs h)
 have l4:=jaf (B:=1000000000) (by omega) (jhu y.den g)
 have t1:=jc4 (x.num.natAbs/g) (y.num.natAbs/h) (by omega) (by omega)
 have t2:=jc4 (x.den/h) (y.den/g) (by omega) (by omega)
 rw[← p1] at t1
 rw[← p2] at t2
 have m1:=jaX (x*y).num.natAbs (decide (x.num<0) != decide (y.num<0))
 rw[pn] at m1
 refine V.en tbOk Tryz.func68 ?_
 (conv=>whnf)
 refine V.st ?_
 repeat ((try ((with_reducible refine .ext ?_);(conv=>whnf)));(with_reducible refine jaa (r:=?_) ?_ ?_);rotate_left;(focus (first|exact(g1)|exact(g2)|exact(d1)|exact(d2)|exact(d3)|exact(d4)));(conv=>whnf);refine V.st ?_)
 refine⟨(V.tk [0,1,3,4,5,6,7,8,9,11,12] (V.e1 2 [12,11,9,8,7,6,5,4,3] (V.e1 10 [12,11] (V.e1 13 [] (V.tk [14] (V.e1 15 [] .done)))))),[],V.pok,.go (jab ?_)⟩
 (conv=>whnf)
 refine V.st ?_
 repeat ((try ((with_reducible refine .ext ?_);(conv=>whnf)));(with_reducible refine jaa (r:=?_) ?_ ?_);rotate_left;(focus (first|exact(t1)|exact(m1)|exact(t2)));(conv=>whnf);refine V.st ?_)
 exact Fin.of rfl
theorem jfF (q:Rat)(hq:q.num≠0):q⁻¹.num=(if decide (q.num<0)=true then -(q.den:Int) else (q.den:Int))∧q⁻¹.den=q.num.natAbs:=by
 have hd:=q.den_pos
 have hc:Nat.Coprime (if decide (q.num<0)=true then -(q.den:Int) else (q.den:Int)).natAbs q.num.natAbs:=by
  have e:(if decide (q.num<0)=true then -(q.den:Int) else (q.den:Int)).natAbs=q.den:=by
   split<;>simp
  rw[e]
  exact q.reduced.symm
 have e:q⁻¹=Rat.divInt (if decide (q.num<0)=true then -(q.den:Int) else (q.den:Int)) (q.num.natAbs:Nat):=by
  rw[Rat.inv_def,Rat.divInt_eq_divInt_iff hq (by omega)]
  by_cases h:q.num<0
  ·rw[decide_eq_true h,if_pos rfl,show (q.num.natAbs:Int) = -q.num by omega,Int.mul_neg,Int.neg_mul]
  ·rw[decide_eq_false h,if_neg (by simp),show (q.num.natAbs:Int)=q.num by omega]
 obtain⟨h1,h2⟩:=jcs _ q.num.natAbs (by omega) hc
 rw[e]
 exact⟨h1,h2⟩
theorem inverse_c (q:Rat)(hq:q.num≠0):Cl 72 [rtD q] (rtD q⁻¹):=by
 obtain⟨p1,p2⟩:=jfF q hq
 have m1:=jaX q.den (decide (q.num<0))
 rw[← p1] at m1
 have e:rtD q⁻¹ = .agg [.ints .u32 (mg 1000000000 q⁻¹.num.natAbs),.bool (decide (q⁻¹.num<0)),.ints .u32 (mg 1000000000 q.num.natAbs)]:=by unfold rtD;rw[p2]
 rw[e]
 refine V.en tbOk Tryz.func72 ?_
 (conv=>whnf)
 refine V.st ?_
 refine⟨(V.tk [0,1,2,3,4,6,7,8] (V.e1 5 [8,7,6] (V.tk [9] (V.e1 10 [] .done)))),[],V.pok,.go (jab ?_)⟩
 (conv=>whnf)
 refine V.st ?_
 repeat ((try ((with_reducible refine .ext ?_);(conv=>whnf)));(with_reducible refine jaa (r:=?_) ?_ ?_);rotate_left;(focus (first|exact(m1)));(conv=>whnf);refine V.st ?_)
 exact Fin.of rfl
theorem lesser_c (x y:Rat)(hx:Q9 20000000 x)(hy:Q9 20000000 y):Cl 121 [rtD x,rtD y] (rtD (if y<x then y else x)):=by
 have h1:=je8 x y (hx.1.mono (by omega)) (hy.1.mono (by omega)) (jhc hx.2 (by omega)) (jhc hy.2 (by omega))
 have e:ordQ x y>0↔y<x:=by
  unfold ordQ
  by_cases a:x<y
  ·rw[if_pos a];exact⟨fun h=>by omega,fun h=>absurd h (Rat.not_lt.2 (Rat.le_of_lt a))⟩
  ·rw[if_neg a]
   by_cases b:x=y
   ·rw[if_pos b,b];exact⟨fun h=>by omega,fun h=>absurd h (Rat.lt_irrefl)⟩
   ·rw[if_neg b];exact⟨fun _=>Rat.lt_of_le_of_ne (Rat.not_lt.1 a) (Ne.symm b),fun _=>by omega⟩
 refine V.en tbOk Tryz.func121 ?_
 (conv=>whnf)
 refine V.st ?_
 repeat ((try ((with_reducible refine .ext ?_);(conv=>whnf)));(with_reducible refine jaa (r:=?_) ?_ ?_);rotate_left;(focus (first|exact(h1)));(conv=>whnf);refine V.st ?_)
 refine V.br (fun hq=>?_) (fun hq=>?_)
 ·rw[decide_eq_true_eq] at hq
  rw[if_pos (e.1 hq)]
  (conv=>whnf)
  refine V.st ?_
  exact Fin.of rfl
 ·rw[decide_eq_false_iff_not] at hq
  rw[if_neg (fun h=>hq (e.2 h))]
  (conv=>whnf)
  refine V.st ?_
  exact Fin.of rfl
theorem greater_c (x y:Rat)(hx:Q9 20000000 x)(hy:Q9 20000000 y):Cl 120 [rtD x,rtD y] (rtD (if x<y then y else x)):=by
 have h1:=je8 x y (hx.1.mono (by omega)) (hy.1.mono (by omega)) (jhc hx.2 (by omega)) (jhc hy.2 (by omega))
 have e:ordQ x y<0↔x<y:=by
  unfold ordQ
  by_cases a:x<y
  ·rw[if_pos a];exact⟨fun _=>a,fun _=>by omega⟩
  ·rw[if_neg a]
   by_cases b:x=y
   ·rw[if_pos b];exact⟨fun h=>by omega,fun h=>absurd h a⟩
   ·rw[if_neg b];exact⟨fun h=>by omega,fun h=>absurd h a⟩
 refine V.en tbOk Tryz.func120 ?_
 (conv=>whnf)
 refine V.st ?_
 repeat ((try ((with_reducible refine .ext ?_);(conv=>whnf)));(with_reducible refine jaa (r:=?_) ?_ ?_);rotate_left;(focus (first|exact(h1)));(conv=>whnf);refine V.st ?_)
 refine V.br (fun hq=>?_) (fun hq=>?_)
 ·rw[decide_eq_true_eq] at hq
  rw[if_pos (e.1 hq)]
  (conv=>whnf)
  refine V.st ?_
  exact Fin.of rfl
 ·rw[decide_eq_false_iff_not] at hq
  rw[if_neg (fun h=>hq (e.2 h))]
  (conv=>whnf)
  refine V.st ?_
  exact Fin.of rfl
theorem off {p:Go.Program}{f:Nat}{ys:List D}{c:Bool}(hc:c=false):c=true→Called p f ys (.int .i64 0):=fun h=>by rw[hc] at h;cases h
def okP (s t:List UInt8):Bool:=okW s && okW t && decide (0<wval t) && decide (Nat.gcd (wval s).natAbs (wval t).natAbs=1)
def qv (s t:List UInt8):Rat:=Rat.divInt (wval s) (wval t)
theorem jeG {s t:List UInt8}(h:okP s t=true):okW s=true∧okW t=true∧0<wval t∧Nat.gcd (wval s).natAbs (wval t).natAbs=1:=by
 unfold okP at h
 simp only[jg0,decide_eq_true_eq] at h
 exact⟨h.1.1.1,h.1.1.2,h.1.2,h.2⟩
theorem jdw {s t:List UInt8}(h:okP s t=true):(qv s t).num=wval s∧(qv s t).den=(wval t).natAbs:=by
 obtain⟨h1,h2,h3,h4⟩:=jeG h
 have e:qv s t=Rat.divInt (wval s) ((wval t).natAbs:Nat):=by unfold qv;congr 1;omega
 rw[e]
 exact jcs _ _ (by omega) h4
theorem jf8 {s t:List UInt8}(h:okP s t=true):Q9 67 (qv s t):=by
 obtain⟨h1,h2,h3,h4⟩:=jeG h
 obtain⟨p1,p2⟩:=jdw h
 exact⟨by rw[p1];exact len9 (jbI h1).2,by rw[p2];exact len9 (jbI h2).2⟩
theorem rtD_qv {s t:List UInt8}(h:okP s t=true):rtD (qv s t) = .agg [.ints .u32 (mg 1000000000 (wval s).natAbs),.bool (decide (wval s<0)),.ints .u32 (mg 1000000000 (wval t).natAbs)]:=by
 obtain⟨p1,p2⟩:=jdw h
 unfold rtD
 rw[p1,p2]
theorem jbj (s t:List UInt8)(h:okP s t=true):Cl 57 [.agg [.str s,.str t]] (.tup [rtD (qv s t),.bool true]):=by
 obtain⟨h1,h2,h3,h4⟩:=jeG h
 have l1:=jbI h1
 have l2:=jbI h2
 have k1:=len9 l1.2
 have k2:=len9 l2.2
 have c1:=jcm s (by omega)
 have c2:=jcm t (by omega)
 rw[h1,if_pos rfl] at c1
 rw[h2,if_pos rfl] at c2
 have n1:=jco s h1
 have n2:=jco t h2
 have s1:=sign_c (wval t)
 rw[jhC h3] at s1
 have g1:=gcd_c (wval s).natAbs (wval t).natAbs (by omega) (by omega)
 rw[h4] at g1
 have o1:=jbW 1 1 (by decide) (by decide)
 rw[rtD_qv h]
 refine V.en tbOk Tryz.func57 ?_
 (conv=>whnf)
 refine V.st ?_
 repeat ((try ((with_reducible refine .ext ?_);(conv=>whnf)));(with_reducible refine jaa (r:=?_) ?_ ?_);rotate_left;(focus (first|exact(c1)|exact(c2)));(conv=>whnf);refine V.st ?_)
 refine⟨Pq45z,[],V.pok,?_⟩
 refine jad [(4,.box 4 0),(5,.box 5 0)] [(4,.box [.ints .u32 (mg 1000000000 (wval s).natAbs),.bool (decide (wval s<0))]),(5,.box [.ints .u32 (mg 1000000000 (wval t).natAbs),.bool (decide (wval t<0))])] ?_ ?_
 ·exact V.d2 @jg8 n1 n2
 (conv=>whnf)
 refine V.st ?_
 repeat ((try ((with_reducible refine .ext ?_);(conv=>whnf)));(with_reducible refine jaa (r:=?_) ?_ ?_);rotate_left;(focus (first|exact(s1)|exact(g1)|exact(o1)));(conv=>whnf);refine V.st ?_)
 exact Fin.of rfl
theorem read_no (s t:List UInt8)(h:okP s t=false)(hs:s.length≤281474976710656)(ht:t.length≤281474976710656):Cl 57 [.agg [.str s,.str t]] (.tup [.agg [.any,.any,.any],.bool false]):=by
 have c1:=jcm s hs
 have c2:=jcm t ht
 by_cases h1:okW s=true
 ·rw[h1,if_pos rfl] at c1
  by_cases h2:okW t=true
  ·rw[h2,if_pos rfl] at c2
   have l1:=jbI h1
   have l2:=jbI h2
   have k1:=len9 l1.2
   have k2:=len9 l2.2
   have n1:=jco s h1
   have n2:=jco t h2
   have s1:=sign_c (wval t)
   have g1:=gcd_c (wval s).natAbs (wval t).natAbs (by omega) (by omega)
   have gl:(mg 1000000000 (Nat.gcd (wval s).natAbs (wval t).natAbs)).length≤67:=by
    rcases jhe (wval t).natAbs with e|e
    ·rw[e,Nat.gcd_zero_right];exact k1
    ·exact jhc (jaf (by omega) (Nat.gcd_le_right _ e)) k2
   have o1:=jbW (Nat.gcd (wval s).natAbs (wval t).natAbs) 1 (by omega) (by decide)
   unfold okP at h
   rw[h1,h2,Bool.true_and,Bool.true_and] at h
   by_cases hp:0<wval t
   ·rw[decide_eq_true hp,Bool.true_and,decide_eq_false_iff_not] at h
    rw[jhC hp] at s1
    refine V.en tbOk Tryz.func57 ?_
    (conv=>whnf)
    refine V.st ?_
    repeat ((try ((with_reducible refine .ext ?_);(conv=>whnf)));(with_reducible refine jaa (r:=?_) ?_ ?_);rotate_left;(focus (first|exact(c1)|exact(c2)));(conv=>whnf);refine V.st ?_)
    refine⟨Pq45z,[],V.pok,?_⟩
    refine jad [(4,.box 4 0),(5,.box 5 0)] [(4,.box [.ints .u32 (mg 1000000000 (wval s).natAbs),.bool (decide (wval s<0))]),(5,.box [.ints .u32 (mg 1000000000 (wval t).natAbs),.bool (decide (wval t<0))])] ?_ ?_
    ·exact V.d2 @jg8 n1 n2
    (conv=>whnf)
    refine V.st ?_
    repeat ((try ((with_reducible refine .ext ?_);(conv=>whnf)));(with_reducible refine jaa (r:=?_) ?_ ?_);rotate_left;(focus (first|exact(s1)|exact(g1)|exact(o1)));(conv=>whnf);refine V.st ?_)
    refine V.br (fun hq=>?_) (fun hq=>?_)
    ·(conv=>whnf)
     refine V.st ?_
     exact Fin.tup ⟨Fin.agg ⟨Fin.any' _,Fin.any' _,Fin.any' _,trivial⟩,Fin.of rfl,trivial⟩
    ·exfalso
     simp only[jhk,decide_eq_false_iff_not,Decidable.not_not] at hq
     apply h
     have h9:=Int.sign_eq_zero_iff_zero.1 hq.2
     omega
   ·have hs1:(wval t).sign=0∨(wval t).sign = -1:=by
     rcases (by omega:wval t=0∨wval t<0) with e|e
     ·rw[e];exact .inl rfl
     ·exact .inr (jhB e)
    rcases hs1 with e|e
    all_goals
     rw[e] at s1
     refine V.en tbOk Tryz.func57 ?_
     (conv=>whnf)
     refine V.st ?_
     repeat ((try ((with_reducible refine .ext ?_);(conv=>whnf)));(with_reducible refine jaa (r:=?_) ?_ ?_);rotate_left;(focus (first|exact(c1)|exact(c2)));(conv=>whnf);refine V.st ?_)
     refine⟨Pq45z,[],V.pok,?_⟩
     refine jad [(4,.box 4 0),(5,.box 5 0)] [(4,.box [.ints .u32 (mg 1000000000 (wval s).natAbs),.bool (decide (wval s<0))]),(5,.box [.ints .u32 (mg 1000000000 (wval t).natAbs),.bool (decide (wval t<0))])] ?_ ?_
     ·exact V.d2 @jg8 n1 n2
     (conv=>whnf)
     refine V.st ?_
     repeat ((try ((with_reducible refine .ext ?_);(conv=>whnf)));(with_reducible refine jaa (r:=?_) ?_ ?_);rotate_left;(focus (first|exact(s1)|exact(g1)|exact(o1)));(conv=>whnf);refine V.st ?_)
     refine⟨.int .i64 0,off rfl,?_⟩
     (conv=>whnf)
     refine V.st ?_
     exact Fin.tup ⟨Fin.agg ⟨Fin.any' _,Fin.any' _,Fin.any' _,trivial⟩,Fin.of rfl,trivial⟩
  ·rw[if_neg h2] at c2
   refine V.en tbOk Tryz.func57 ?_
   (conv=>whnf)
   refine V.st ?_
   repeat ((try ((with_reducible refine .ext ?_);(conv=>whnf)));(with_reducible refine jaa (r:=?_) ?_ ?_);rotate_left;(focus (first|exact(c1)|exact(c2)));(conv=>whnf);refine V.st ?_)
   exact Fin.tup ⟨Fin.agg ⟨Fin.any' _,Fin.any' _,Fin.any' _,trivial⟩,Fin.of rfl,trivial⟩
 ·rw[if_neg h1] at c1
  refine V.en tbOk Tryz.func57 ?_
  (conv=>whnf)
  refine V.st ?_
  repeat ((try ((with_reducible refine .ext ?_);(conv=>whnf)));(with_reducible refine jaa (r:=?_) ?_ ?_);rotate_left;(focus (first|exact(c1)|exact(c2)));(conv=>whnf);refine V.st ?_)
  refine V.br (fun hq=>?_) (fun hq=>?_)
  ·(conv=>whnf)
   refine V.st ?_
   exact Fin.tup ⟨Fin.agg ⟨Fin.any' _,Fin.any' _,Fin.any' _,trivial⟩,Fin.of rfl,trivial⟩
  ·simp at hq
theorem fcheck_c (s t:List UInt8)(hs:s.length≤281474976710656)(ht:t.length≤281474976710656):Cl 34 [.agg [.str s,.str t]] (.int .i64 (if okP s t then 0 else 20)):=by
 by_cases h:okP s t=true
 ·have r1:=jbj s t h
  rw[h,if_pos rfl]
  refine V.en tbOk Tryz.func34 ?_
  (conv=>whnf)
  refine V.st ?_
  repeat ((try ((with_reducible refine .ext ?_);(conv=>whnf)));(with_reducible refine jaa (r:=?_) ?_ ?_);rotate_left;(focus (first|exact(r1)));(conv=>whnf);refine V.st ?_)
  exact Fin.of rfl
 ·have r1:=read_no s t (by simpa using h) hs ht
  rw[if_neg h]
  refine V.en tbOk Tryz.func34 ?_
  (conv=>whnf)
  refine V.st ?_
  repeat ((try ((with_reducible refine .ext ?_);(conv=>whnf)));(with_reducible refine jaa (r:=?_) ?_ ?_);rotate_left;(focus (first|exact(r1)));(conv=>whnf);refine V.st ?_)
  exact Fin.of rfl
theorem qsize {s t:List UInt8}(h:okP s t=true):Q9 20000000 (qv s t):=(jf8 h).mono (by omega)
theorem qordS {s t:List UInt8}(h:okP s t=true):S9 40000000 (qv s t).num∧(mg 1000000000 (qv s t).den).length≤40000000:=⟨(jf8 h).1.mono (by omega),jhc (jf8 h).2 (by omega)⟩
theorem fcmp_ok (s t u v:List UInt8)(h:okP s t=true)(g:okP u v=true):Cl 62 [.agg [.str s,.str t],.agg [.str u,.str v]] (.tup [.int .i64 (ordQ (qv s t) (qv u v)),.int .i64 0]):=by
 have r1:=jbj s t h
 have r2:=jbj u v g
 have o:=je8 (qv s t) (qv u v) (qordS h).1 (qordS g).1 (qordS h).2 (qordS g).2
 have ap:Cl 94 [.agg [.str s,.str t],.agg [.str u,.str v],.fn 95 [] []] (.tup [.int .i64 (ordQ (qv s t) (qv u v)),.int .i64 0]):=by
  refine V.en tbOk Tryz.func94 ?_
  (conv=>whnf)
  refine V.st ?_
  repeat ((try ((with_reducible refine .ext ?_);(conv=>whnf)));(with_reducible refine jaa (r:=?_) ?_ ?_);rotate_left;(focus (first|exact(r1)|exact(r2)|exact(o)));(conv=>whnf);refine V.st ?_)
  exact Fin.of rfl
 refine V.en tbOk Tryz.func62 ?_
 (conv=>whnf)
 refine V.st ?_
 repeat ((try ((with_reducible refine .ext ?_);(conv=>whnf)));(with_reducible refine jaa (r:=?_) ?_ ?_);rotate_left;(focus (first|exact(ap)));(conv=>whnf);refine V.st ?_)
 exact Fin.of rfl
def Fq (n:Nat)(q:Rat):Prop:=q.num.natAbs<10^n∧q.den<10^n
theorem Fq.mono {m n:Nat}{q:Rat}(h:Fq m q)(hl:m≤n):Fq n q:=
 ⟨jhh h.1 (jht (by decide) hl),jhh h.2 (jht (by decide) hl)⟩
theorem Fq.ok {n:Nat}{q:Rat}(h:Fq n q)(h0:0<n)(h6:n≤600):okF q=true:=by
 unfold okF
 simp only[jg0,decide_eq_true_eq]
 exact⟨jhc (jbv n _ h0 h.1).1 h6,jhc (jbv n _ h0 h.2).1 h6⟩
theorem jes (n:Int)(d:Nat)(hd:0<d):(Rat.divInt n d).num.natAbs≤n.natAbs∧(Rat.divInt n d).den≤d:=by
 rw[Rat.num_divInt,Rat.den_divInt,if_neg (by omega),jhC (by omega),jhz]
 refine⟨?_,?_⟩
 ·rw[Int.natAbs_ediv_of_dvd (by exact Int.gcd_dvd_right ..)]
  exact jhu _ _
 ·rw[jhA]
  exact jhu _ _
theorem jbx {n:Nat}{x:Int}{d:Nat}(hd:0<d)(h1:x.natAbs<10^n)(h2:d<10^n):Fq n (Rat.divInt x d):=
 ⟨Nat.lt_of_le_of_lt (jes x d hd).1 h1,Nat.lt_of_le_of_lt (jes x d hd).2 h2⟩
theorem jdH {a b x y:Nat}(h1:x<10^a)(h2:y<10^b):x*y<10^(a+b):=by
 rw[Nat.pow_add]
 rcases jhe y with e|e
 ·rw[e,Nat.mul_zero]
  exact Nat.mul_pos (Nat.pow_pos (by decide)) (Nat.pow_pos (by decide))
 ·exact jhh (Nat.mul_lt_mul_of_pos_right h1 e) (Nat.mul_le_mul_left _ (Nat.le_of_lt h2))
theorem Fq.add {a b:Nat}{p q:Rat}(h:Fq a p)(g:Fq b q):Fq (a+b+1) (p+q):=by
 have hp:=p.den_pos
 have hq:=q.den_pos
 have e:p+q=Rat.divInt (p.num*q.den+q.num*p.den) ((p.den*q.den:Nat):Int):=by
  conv=>lhs;rw[← Rat.num_divInt_den p,← Rat.num_divInt_den q]
  rw[Rat.divInt_add_divInt _ _ (by omega) (by omega),jho]
 rw[e]
 have m1:=jdH h.1 g.2
 have m2:=jdH g.1 h.2
 have m3:=jdH h.2 g.2
 rw[Nat.add_comm b a] at m2
 have e10:10^(a+b+1)=10*10^(a+b):=by rw[Nat.pow_succ,jhf]
 refine jbx (Nat.mul_pos hp hq) ?_ ?_
 ·have t:=Int.natAbs_add_le (p.num*q.den) (q.num*p.den)
  rw[Int.natAbs_mul,Int.natAbs_mul,jhA,jhA] at t
  omega
 ·omega
theorem Fq.neg {a:Nat}{p:Rat}(h:Fq a p):Fq a (-p):=⟨by rw[Rat.neg_num,Int.natAbs_neg];exact h.1,by rw[Rat.neg_den];exact h.2⟩
theorem Fq.sub {a b:Nat}{p q:Rat}(h:Fq a p)(g:Fq b q):Fq (a+b+1) (p-q):=by
 rw[Rat.sub_eq_add_neg]
 exact h.add g.neg
theorem Fq.mul {a b:Nat}{p q:Rat}(h:Fq a p)(g:Fq b q):Fq (a+b) (p*q):=by
 have e:p*q=Rat.divInt (p.num*q.num) ((p.den*q.den:Nat):Int):=by
  conv=>lhs;rw[← Rat.num_divInt_den p,← Rat.num_divInt_den q]
  rw[Rat.divInt_mul_divInt,jho]
 rw[e]
 refine jbx (Nat.mul_pos p.den_pos q.den_pos) ?_ (jdH h.2 g.2)
 rw[Int.natAbs_mul]
 exact jdH h.1 g.1
theorem Fq.inv {a:Nat}{p:Rat}(h:Fq a p)(h0:p.num≠0):Fq a p⁻¹:=by
 rw[Rat.inv_def]
 rcases Int.lt_or_gt_of_ne h0 with hn|hn
 ·have e:Rat.divInt (p.den:Int) p.num=Rat.divInt (-(p.den:Int)) ((p.num.natAbs:Nat):Int):=by
   rw[Rat.divInt_eq_divInt_iff h0 (by omega)]
   have:((p.num.natAbs:Nat):Int) = -p.num:=by omega
   rw[this]
   grind
  rw[e]
  exact jbx (by omega) (by rw[Int.natAbs_neg,jhA];exact h.2) h.1
 ·have e:p.num=((p.num.natAbs:Nat):Int):=by omega
  rw[e]
  exact jbx (by omega) (by rw[jhA];exact h.2) h.1
theorem Fq.div {a b:Nat}{p q:Rat}(h:Fq a p)(g:Fq b q)(h0:q.num≠0):Fq (a+b) (p/q):=by
 rw[Rat.div_def]
 exact h.mul (g.inv h0)
theorem fadd_ok (s t u v:List UInt8)(h:okP s t=true)(g:okP u v=true)(hn:(mg 1000000000 (qv s t+qv u v).num.natAbs).length≤90000000)(hd:(mg 1000000000 (qv s t+qv u v).den).length≤90000000):Cl 70 [.agg [.str s,.str t],.agg [.str u,.str v]] (frR (qv s t+qv u v)):=by
 have r1:=jbj s t h
 have r2:=jbj u v g
 have o:=add_c (qv s t) (qv u v) (qsize h) (qsize g)
 have w:=jc3 (qv s t+qv u v) hn hd
 generalize qv s t+qv u v=q at *
 have ap:Cl 67 [.agg [.str s,.str t],.agg [.str u,.str v],.fn 101 [] []] (.tup [rtD q,.int .i64 0]):=by
  refine V.en tbOk Tryz.func67 ?_
  (conv=>whnf)
  refine V.st ?_
  repeat ((try ((with_reducible refine .ext ?_);(conv=>whnf)));(with_reducible refine jaa (r:=?_) ?_ ?_);rotate_left;(focus (first|exact(r1)|exact(r2)|exact(o)));(conv=>whnf);refine V.st ?_)
  exact Fin.of rfl
 have rs:Cl 66 [rtD q,.int .i64 0] (frR q):=by
  refine V.en tbOk Tryz.func66 ?_
  (conv=>whnf)
  refine V.st ?_
  repeat ((try ((with_reducible refine .ext ?_);(conv=>whnf)));(with_reducible refine jaa (r:=?_) ?_ ?_);rotate_left;(focus (first|exact(w)));(conv=>whnf);refine V.st ?_)
  exact Fin.of rfl
 refine V.en tbOk Tryz.func70 ?_
 (conv=>whnf)
 refine V.st ?_
 repeat ((try ((with_reducible refine .ext ?_);(conv=>whnf)));(with_reducible refine jaa (r:=?_) ?_ ?_);rotate_left;(focus (first|exact(ap)|exact(rs)));(conv=>whnf);refine V.st ?_)
 exact Fin.of rfl
theorem fsub_ok (s t u v:List UInt8)(h:okP s t=true)(g:okP u v=true)(hn:(mg 1000000000 (qv s t-qv u v).num.natAbs).length≤90000000)(hd:(mg 1000000000 (qv s t-qv u v).den).length≤90000000):Cl 63 [.agg [.str s,.str t],.agg [.str u,.str v]] (frR (qv s t-qv u v)):=by
 have r1:=jbj s t h
 have r2:=jbj u v g
 have o:=sub_c (qv s t) (qv u v) (qsize h) (qsize g)
 have w:=jc3 (qv s t-qv u v) hn hd
 generalize qv s t-qv u v=q at *
 have ap:Cl 67 [.agg [.str s,.str t],.agg [.str u,.str v],.fn 96 [] []] (.tup [rtD q,.int .i64 0]):=by
  refine V.en tbOk Tryz.func67 ?_
  (conv=>whnf)
  refine V.st ?_
  repeat ((try ((with_reducible refine .ext ?_);(conv=>whnf)));(with_reducible refine jaa (r:=?_) ?_ ?_);rotate_left;(focus (first|exact(r1)|exact(r2)|exact(o)));(conv=>whnf);refine V.st ?_)
  exact Fin.of rfl
 have rs:Cl 66 [rtD q,.int .i64 0] (frR q):=by
  refine V.en tbOk Tryz.func66 ?_
  (conv=>whnf)
  refine V.st ?_
  repeat ((try ((with_reducible refine .ext ?_);(conv=>whnf)));(with_reducible refine jaa (r:=?_) ?_ ?_);rotate_left;(focus (first|exact(w)));(conv=>whnf);refine V.st ?_)
  exact Fin.of rfl
 refine V.en tbOk Tryz.func63 ?_
 (conv=>whnf)
 refine V.st ?_
 repeat ((try ((with_reducible refine .ext ?_);(conv=>whnf)));(with_reducible refine jaa (r:=?_) ?_ ?_);rotate_left;(focus (first|exact(ap)|exact(rs)));(conv=>whnf);refine V.st ?_)
 exact Fin.of rfl
theorem fmul_ok (s t u v:List UInt8)(h:okP s t=true)(g:okP u v=true)(hn:(mg 1000000000 (qv s t*qv u v).num.natAbs).length≤90000000)(hd:(mg 1000000000 (qv s t*qv u v).den).length≤90000000):Cl 41 [.agg [.str s,.str t],.agg [.str u,.str v]] (frR (qv s t*qv u v)):=by
 have r1:=jbj s t h
 have r2:=jbj u v g
 have o:=mul_c (qv s t) (qv u v) (qsize h) (qsize g)
 have w:=jc3 (qv s t*qv u v) hn hd
 generalize qv s t*qv u v=q at *
 have ap:Cl 67 [.agg [.str s,.str t],.agg [.str u,.str v],.fn 68 [] []] (.tup [rtD q,.int .i64 0]):=by
  refine V.en tbOk Tryz.func67 ?_
  (conv=>whnf)
  refine V.st ?_
  repeat ((try ((with_reducible refine .ext ?_);(conv=>whnf)));(with_reducible refine jaa (r:=?_) ?_ ?_);rotate_left;(focus (first|exact(r1)|exact(r2)|exact(o)));(conv=>whnf);refine V.st ?_)
  exact Fin.of rfl
 have rs:Cl 66 [rtD q,.int .i64 0] (frR q):=by
  refine V.en tbOk Tryz.func66 ?_
  (conv=>whnf)
  refine V.st ?_
  repeat ((try ((with_reducible refine .ext ?_);(conv=>whnf)));(with_reducible refine jaa (r:=?_) ?_ ?_);rotate_left;(focus (first|exact(w)));(conv=>whnf);refine V.st ?_)
  exact Fin.of rfl
 refine V.en tbOk Tryz.func41 ?_
 (conv=>whnf)
 refine V.st ?_
 repeat ((try ((with_reducible refine .ext ?_);(conv=>whnf)));(with_reducible refine jaa (r:=?_) ?_ ?_);rotate_left;(focus (first|exact(ap)|exact(rs)));(conv=>whnf);refine V.st ?_)
 exact Fin.of rfl
theorem Q9.inv {k:Nat}{q:Rat}(h:Q9 k q)(h0:q.num≠0):Q9 k q⁻¹:=by
 obtain⟨p1,p2⟩:=jfF q h0
 constructor
 ·rw[p1]
  unfold S9
  have e:(if decide (q.num<0)=true then -(q.den:Int) else (q.den:Int)).natAbs=q.den:=by
   split<;>simp
  rw[e]
  exact h.2
 ·rw[p2];exact h.1
theorem fdiv_ok (s t u v:List UInt8)(h:okP s t=true)(g:okP u v=true)(h0:(qv u v).num≠0)(hn:(mg 1000000000 (qv s t/qv u v).num.natAbs).length≤90000000)(hd:(mg 1000000000 (qv s t/qv u v).den).length≤90000000):Cl 44 [.agg [.str s,.str t],.agg [.str u,.str v]] (frR (qv s t/qv u v)):=by
 have r1:=jbj s t h
 have r2:=jbj u v g
 have z1:=jcG (qv u v).num.natAbs
 rw[decide_eq_false (show ¬ (qv u v).num.natAbs=0 by omega)] at z1
 have i1:=inverse_c (qv u v) h0
 have o:=mul_c (qv s t) (qv u v)⁻¹ (qsize h) ((qsize g).inv h0)
 have w:=jc3 (qv s t/qv u v) hn hd
 rw[Rat.div_def] at w ⊢
 unfold frR at *
 generalize qv s t*(qv u v)⁻¹=q at *
 generalize (qv u v)⁻¹=y at *
 refine V.en tbOk Tryz.func44 ?_
 (conv=>whnf)
 refine V.st ?_
 repeat ((try ((with_reducible refine .ext ?_);(conv=>whnf)));(with_reducible refine jaa (r:=?_) ?_ ?_);rotate_left;(focus (first|exact(r1)|exact(r2)|exact(z1)));(conv=>whnf);refine V.st ?_)
 refine⟨(V.tk [0,1] (V.e1 2 [0] (V.e1 3 [] (V.e1 4 [] (V.tk [5,6] (V.e1 7 [] (V.tk [8] .done))))))),[],V.pok,.go (jab ?_)⟩
 (conv=>whnf)
 refine V.st ?_
 repeat ((try ((with_reducible refine .ext ?_);(conv=>whnf)));(with_reducible refine jaa (r:=?_) ?_ ?_);rotate_left;(focus (first|exact(i1)|exact(o)|exact(w)));(conv=>whnf);refine V.st ?_)
 exact Fin.of rfl
def frT (x:Rat):D := .agg [.str (decZ x.num),.str (dec x.den)]
theorem ja0 {q:Rat}(h:okF q=true):okP (decZ q.num) (dec q.den)=true∧qv (decZ q.num) (dec q.den)=q:=by
 unfold okF at h
 simp only[jg0,decide_eq_true_eq] at h
 have hdz:dec q.den=decZ (q.den:Int):=by unfold decZ;rw[if_neg (by omega),jhA]
 have w1:wval (decZ q.num)=q.num:=jbK _
 have w2:wval (dec q.den)=(q.den:Int):=by rw[hdz];exact jbK _
 have o1:=jdA q.num h.1
 have o2:okW (dec q.den)=true:=by rw[hdz];exact jdA _ (by rw[jhA];exact h.2)
 have hp:=q.den_pos
 constructor
 ·unfold okP
  rw[o1,o2,w1,w2]
  simp only[jg0,decide_eq_true_eq,Bool.true_and,jhA]
  exact⟨by omega,q.reduced⟩
 ·unfold qv
  rw[w1,w2]
  exact Rat.num_divInt_den q
theorem jeK {q:Rat}(h:okF q=true):frR q = .tup [frT q,.int .i64 0]:=by
 unfold frR
 rw[h]
 rfl
theorem mg_fq {n:Nat}{q:Rat}(h:Fq n q)(h6:n≤600):(mg 1000000000 q.num.natAbs).length≤90000000∧(mg 1000000000 q.den).length≤90000000:=
 ⟨jhc (len9 (h.mono h6).1) (by omega),jhc (len9 (h.mono h6).2) (by omega)⟩
theorem zadd {a b:Nat}{p q:Rat}(h:Fq a p)(g:Fq b q)(ha:0<a)(hb:0<b)(hab:a+b+1≤600):Cl 70 [frT p,frT q] (.tup [frT (p+q),.int .i64 0]):=by
 obtain⟨o1,e1⟩:=ja0 (h.ok ha (by omega))
 obtain⟨o2,e2⟩:=ja0 (g.ok hb (by omega))
 have hs:=h.add g
 have hm:=mg_fq hs (by omega)
 have c:=fadd_ok _ _ _ _ o1 o2 (by rw[e1,e2];exact hm.1) (by rw[e1,e2];exact hm.2)
 rw[e1,e2,jeK (hs.ok (by omega) (by omega))] at c
 exact c
theorem zsub {a b:Nat}{p q:Rat}(h:Fq a p)(g:Fq b q)(ha:0<a)(hb:0<b)(hab:a+b+1≤600):Cl 63 [frT p,frT q] (.tup [frT (p-q),.int .i64 0]):=by
 obtain⟨o1,e1⟩:=ja0 (h.ok ha (by omega))
 obtain⟨o2,e2⟩:=ja0 (g.ok hb (by omega))
 have hs:=h.sub g
 have hm:=mg_fq hs (by omega)
 have c:=fsub_ok _ _ _ _ o1 o2 (by rw[e1,e2];exact hm.1) (by rw[e1,e2];exact hm.2)
 rw[e1,e2,jeK (hs.ok (by omega) (by omega))] at c
 exact c
theorem zmul {a b:Nat}{p q:Rat}(h:Fq a p)(g:Fq b q)(ha:0<a)(hb:0<b)(hab:a+b+1≤600):Cl 41 [frT p,frT q] (.tup [frT (p*q),.int .i64 0]):=by
 obtain⟨o1,e1⟩:=ja0 (h.ok ha (by omega))
 obtain⟨o2,e2⟩:=ja0 (g.ok hb (by omega))
 have hs:=h.mul g
 have hm:=mg_fq hs (by omega)
 have c:=fmul_ok _ _ _ _ o1 o2 (by rw[e1,e2];exact hm.1) (by rw[e1,e2];exact hm.2)
 rw[e1,e2,jeK (hs.ok (by omega) (by omega))] at c
 exact c
theorem zdiv {a b:Nat}{p q:Rat}(h:Fq a p)(g:Fq b q)(h0:q.num≠0)(ha:0<a)(hb:0<b)(hab:a+b+1≤600):Cl 44 [frT p,frT q] (.tup [frT (p/q),.int .i64 0]):=by
 obtain⟨o1,e1⟩:=ja0 (h.ok ha (by omega))
 obtain⟨o2,e2⟩:=ja0 (g.ok hb (by omega))
 have hs:=h.div g h0
 have hm:=mg_fq hs (by omega)
 have c:=fdiv_ok _ _ _ _ o1 o2 (by rw[e2];exact h0) (by rw[e1,e2];exact hm.1) (by rw[e1,e2];exact hm.2)
 rw[e1,e2,jeK (hs.ok (by omega) (by omega))] at c
 exact c
theorem zcmp {a b:Nat}{p q:Rat}(h:Fq a p)(g:Fq b q)(ha:0<a∧a≤600)(hb:0<b∧b≤600):Cl 62 [frT p,frT q] (.tup [.int .i64 (ordQ p q),.int .i64 0]):=by
 obtain⟨o1,e1⟩:=ja0 (h.ok ha.1 ha.2)
 obtain⟨o2,e2⟩:=ja0 (g.ok hb.1 hb.2)
 have c:=fcmp_ok _ _ _ _ o1 o2
 rw[e1,e2] at c
 exact c
abbrev Tx:=List UInt8×List UInt8
def okX (x:Tx):Bool:=okP x.1 x.2
def qX (x:Tx):Rat:=qv x.1 x.2
def BdX (n:Nat)(x:Tx):Prop:=(x.1.length≤281474976710656∧x.2.length≤281474976710656)∧(okX x=true→Fq n (qX x))
theorem BdX.mono {m n:Nat}{x:Tx}(h:BdX m x)(hl:m≤n):BdX n x:=⟨h.1,fun g=>(h.2 g).mono hl⟩
structure Sg (s d:List UInt8)(j:Nat)(neg:Bool):Prop where
 hj:j=if neg then 1 else 0
 hl:s.length=d.length+j
 hg:∀ i,s.getD (i+j) 0=d.getD i 0
 h0:(0<s.length∧s.getD 0 0=45)↔neg=true
theorem sg_of (s:List UInt8):∃ d j neg,Sg s d j neg∧okW s=okD d neg∧wval s=if neg then -(rdv d:Int) else rdv d:=by
 cases s with
 | nil=>exact⟨[],0,false,⟨rfl,rfl,fun i=>rfl,by simp⟩,rfl,rfl⟩
 | cons c r=>
  by_cases hc:c=45
  ·subst hc
   have h1:Go.Lib.hasPrefix (45::r) [45]=true:=by simp[Go.Lib.hasPrefix]
   have h2:Go.Lib.trimPrefix (45::r) [45]=r:=by unfold Go.Lib.trimPrefix;rw[h1];rfl
   refine⟨r,1,true,⟨rfl,by simp,fun i=>by simp,by simp⟩,?_,?_⟩
   ·unfold okW;rw[h1,h2]
   ·unfold wval;rw[h1,h2]
  ·have h1:Go.Lib.hasPrefix (c::r) [45]=false:=by
    show List.isPrefixOf [45] (c::r)=false
    simp only[List.isPrefixOf,Bool.and_true,beq_eq_false_iff_ne]
    exact Ne.symm hc
   have h2:Go.Lib.trimPrefix (c::r) [45]=c::r:=by unfold Go.Lib.trimPrefix;rw[h1];rfl
   refine⟨c::r,0,false,⟨rfl,by simp,fun i=>by simp,by simp[hc]⟩,?_,?_⟩
   ·unfold okW;rw[h1,h2]
   ·unfold wval;rw[h1,h2]
theorem u8_eq (c:UInt8)(n:Nat)(hn:n<256):decide (((c.toNat:Nat):Int)=n)=decide (c=UInt8.ofNat n):=decide_eq_decide.2 ⟨fun h=>UInt8.toNat_inj.1 (by rw[UInt8.toNat_ofNat_of_lt' (by simpa using hn)];omega),fun h=>by rw[h,UInt8.toNat_ofNat_of_lt' (by simpa using hn)]⟩
theorem right01_g (s d:List UInt8)(j:Nat)(neg:Bool)(S:Sg s d j neg)(hs:s.length≤281474976710656):Cl 45 [.str s] (.bool (okD d neg)):=by
 obtain⟨hj,hl,hg,h0⟩:=S
 have hJ:j≤1:=by rw[hj];split<;>omega
 have e0:(0:Int).toNat=0:=rfl
 have q45:decide (((s.getD 0 0).toNat:Int)=45)=decide (s.getD 0 0=45):=u8_eq _ 45 (by omega)
 have qn:(decide ((s.length:Int)>0) && decide (s.getD 0 0=45))=neg:=by
  rw[Bool.eq_iff_iff,← h0,jg0,decide_eq_true_eq,decide_eq_true_eq]
  exact and_congr_left' (by omega)
 refine V.en tbOk Tryz.func45 ?_
 refine V.r0 (V.a3 e0 q45 qn) ?_
 refine jaE [(3,.int .i64 j)] [] (CondB.mk (fun hq=>?_) (fun hq=>?_)) ?_
 ·subst hq
  rw[if_pos rfl] at hj
  subst hj
  (conv=>whnf)
  refine V.st ?_
  exact V.wk
 ·subst hq
  rw[if_neg (by simp)] at hj
  subst hj
  (conv=>whnf)
  refine V.st ?_
  exact V.wk
 have hsl:(s.length:Int)-j=d.length:=by omega
 clear q45 qn h0
 refine V.r0 hsl ?_
 refine V.br (fun hq=>?_) (fun hq=>?_)
 ·simp only[Bool.or_eq_true,decide_eq_true_eq] at hq
  have hf:okD d neg=false:=by
   unfold okD
   rcases hq with h|h
   ·rw[decide_eq_true (show d.length=0 by omega)];rfl
   ·rw[decide_eq_true (show 600<d.length by omega),Bool.or_true];rfl
  rw[hf]
  (conv=>whnf)
  refine V.st ?_
  exact Fin.of rfl
 ·simp only[jhk,decide_eq_false_iff_not] at hq
  (conv=>whnf)
  refine V.st ?_
  refine jae (0:Nat) (fun k=>k≤d.length ∧ ∀ i,i<k→isDig (d.getD i 0)=true) (fun k=>d.length-k) (fun k=>[(5,.int .i64 ((k+j:Nat):Int))]) (fun _=>[]) ?_ ?_ ?_
  ·rw[jg8]
   exact V.wk
  ·exact⟨jg2 _,fun i hi=>by omega⟩
  intro k hk
  have hkc:(((k+j:Nat):Int)+1)=((k+1+j:Nat):Int):=by omega
  have hkt:((k+j:Nat):Int).toNat=k+j:=by omega
  (conv=>whnf)
  refine V.st ?_
  refine V.br (fun hq2=>?_) (fun hq2=>?_)
  ·rw[decide_eq_true_eq] at hq2
   have hdl:=dig_lo (d.getD k 0)
   have hgk:=hg k
   generalize hc:d.getD k 0=c at *
   refine V.r0 (V.a3 hkt hgk hkc) ?_
   refine V.br (fun hq3=>?_) (fun hq3=>?_)
   ·rw[Bool.or_eq_true,decide_eq_true_eq,decide_eq_true_eq] at hq3
    have hf:okD d neg=false:=by
     have h1:d.all isDig=false:=by
      rw[List.all_eq_false]
      refine⟨c,?_,fun h=>by have:=hdl.1 h;omega⟩
      rw[← hc,jhF,jhI (by omega)]
      exact List.getElem_mem _
     unfold okD
     rw[h1,Bool.and_false,Bool.false_and]
    rw[hf]
    (conv=>whnf)
    refine V.st ?_
    exact Fin.of rfl
   ·rw[jhk,decide_eq_false_iff_not,decide_eq_false_iff_not] at hq3
    refine V.r0 hkc ?_
    refine⟨k+1,⟨by omega,fun i hi=>?_⟩,by omega,V.wk⟩
    rcases jhi i k with h|h
    ·exact hk.2 i h
    ·obtain rfl:i=k:=by omega
     rw[hc];exact hdl.2 (by omega)
  ·rw[decide_eq_false_iff_not] at hq2
   obtain rfl:k=d.length:=by omega
   have hall:∀ c∈d,isDig c=true:=fun c hc=>by
    obtain⟨i,hi,e⟩:=List.getElem_of_mem hc
    have:=hk.2 i hi
    rw[jhF,jhI hi] at this
    rw[← e];exact this
   have hok:okD d neg = !(decide (d.getD 0 0=48) && (neg || decide (1<d.length))):=by
    unfold okD
    rw[jhE.2 hall,decide_eq_false (show ¬ d.length=0 by omega),decide_eq_false (show ¬ 600<d.length by omega)]
    rfl
   have hu:decide ((((d.getD 0 0).toNat:Nat):Int)=48)=decide (d.getD 0 0=48):=u8_eq _ 48 (by omega)
   have hg0:=hg 0
   rw[jg8] at hg0
   have hll:decide ((s.length:Int)=1) = !(neg || decide (1<d.length)):=by
    by_cases hn:neg=true
    ·subst hn
     rw[if_pos rfl] at hj
     rw[decide_eq_false (by omega)]
     rfl
    ·rw[if_neg hn] at hj
     rw[Bool.eq_false_iff.2 hn,Bool.false_or]
     by_cases h1:1<d.length
     ·rw[decide_eq_true h1,decide_eq_false (by omega)];rfl
     ·rw[decide_eq_false h1,decide_eq_true (by omega)];rfl
   have hu2:decide ((((d.getD 0 0).toNat:Nat):Int)≠48) = !decide (d.getD 0 0=48):=by rw[← hu,decide_not]
   have hne:(!decide (d.getD 0 0=48) || !(neg || decide (1<d.length)))=okD d neg:=by rw[hok,Bool.not_and]
   refine V.r0 (V.a5 @jha hg0 hu2 hll hne) ?_
   exact Fin.of rfl
theorem rdv_chunk (d:List UInt8)(hd:∀ c∈d,isDig c=true)(m:Nat)(hm:m≤d.length):rdv (d.take m)/10000=rdv (d.take (m-4))∧rdv (d.take m)%10000=rdv ((d.take m).drop (m-4)):=by
 have e:d.take m=d.take (m-4)++(d.take m).drop (m-4):=by
  conv=>lhs;rw[← List.take_append_drop (m-4) (d.take m),List.take_take,Nat.min_eq_left (by omega)]
 have hb:=jeB (s:=(d.take m).drop (m-4)) (fun c hc=>hd c (jhQ (jhP hc)))
 have hl:((d.take m).drop (m-4)).length=m-(m-4):=by rw[jhV,jhL];omega
 rw[hl] at hb
 have ev:rdv (d.take m)=rdv (d.take (m-4))*10^(m-(m-4))+rdv ((d.take m).drop (m-4)):=by
  conv=>lhs;rw[e]
  rw[ja2,hl]
 rw[ev]
 generalize rdv ((d.take m).drop (m-4))=y at *
 rcases (by omega:m<4∨4≤m) with h|h
 ·have h0:m-4=0:=by omega
  have h10:10^(m-(m-4))≤10000:=by
   rw[h0]
   rcases (by omega:m=0∨m=1∨m=2∨m=3) with e|e|e|e<;>subst e<;>decide
  rw[h0,List.take_zero,show rdv []=0 from rfl,Nat.zero_mul]
  omega
 ·rw[show m-(m-4)=4 by omega,show (10:Nat)^4=10000 from rfl] at *
  omega
theorem rdv_next (d:List UInt8)(lo k:Nat)(h1:lo≤k)(h2:k<d.length):rdv ((d.take (k+1)).drop lo)=rdv ((d.take k).drop lo)*10+((d.getD k 0).toNat-48):=by
 have e:(d.take (k+1)).drop lo=(d.take k).drop lo++[d.getD k 0]:=by
  rw[List.take_add_one,jhI h2,List.drop_append_of_le_length (by rw[jhL];omega),jhF,jhI h2]
  rfl
 rw[e,ja2,jc7]
 rfl
theorem in01_g (s d:List UInt8)(j:Nat)(neg:Bool)(S:Sg s d j neg)(hd:∀ c∈d,isDig c=true)(hdl:d.length≤600)(hs0:0<s.length) :
  Cl 46 [.str s] (plD (if neg then -(rdv d:Int) else rdv d)):=by
 obtain⟨hj,hl,hg,h0⟩:=S
 have hJ:j≤1:=by rw[hj];split<;>omega
 have e0:(0:Int).toNat=0:=rfl
 have q45:decide (((s.getD 0 0).toNat:Int)=45)=neg:=by
  rw[show (45:Int)=((45:Nat):Int) from rfl,u8_eq _ 45 (by omega),Bool.eq_iff_iff,← h0,decide_eq_true_eq]
  exact⟨fun h=>⟨hs0,h⟩,fun h=>h.2⟩
 refine V.en tbOk Tryz.func46 ?_
 refine V.r0 (V.a2 e0 q45) ?_
 refine jaE [(3,.int .i64 j)] [] (CondB.mk (fun hq=>?_) (fun hq=>?_)) ?_
 ·subst hq
  rw[if_pos rfl] at hj
  subst hj
  (conv=>whnf)
  refine V.st ?_
  exact V.wk
 ·subst hq
  rw[if_neg (by simp)] at hj
  subst hj
  (conv=>whnf)
  refine V.st ?_
  exact V.wk
 (conv=>whnf)
 refine V.st ?_
 refine Lp.ghostSlot 38 4 .i64 (by decide) ?_
 (conv=>whnf)
 refine jae (((s.length:Int),d.length,[]):Int×Nat×List Int) (fun st=>st.2.1≤d.length∧(st.1=(st.2.1+j:Nat)∨(st.2.1=0∧st.1<j∧(j:Int)-4≤st.1))∧val 10000 st.2.2+((10000:Nat):Int)^st.2.2.length*((rdv (d.take st.2.1):Nat):Int)=((rdv d:Nat):Int)∧Dg 10000 st.2.2∧st.2.2.length+(st.2.1+3)/4≤151) (fun st=>st.2.1) (fun st=>[(5,.int .i64 st.1),(4,.osl 38 0 st.2.2.length)]) (fun st=>[(38,.arr .i64 st.2.2)]) ?_ ?_ ?_
 ·exact V.wk
 ·exact⟨jhb _,.inl (by dsimp only;omega),by simp[val],fun x hx=>by simp at hx,by dsimp only [List.length_nil];omega⟩
 rintro⟨e,m,out⟩ ⟨h1,h2,h3,h4,h5⟩
 dsimp only at h1 h2 h3 h4 h5 ⊢
 (conv=>whnf)
 refine V.st ?_
 refine V.br (fun hq=>?_) (fun hq=>?_)
 ·rw[decide_eq_true_eq] at hq
  have he:e=((m+j:Nat):Int):=by omega
  have hm0:0<m:=by omega
  subst he
  obtain⟨lo,hlo⟩:∃ lo,lo=m-4:=⟨_,rfl⟩
  have hmx:max (((m+j:Nat):Int)-4) (j:Int)=((lo+j:Nat):Int):=by omega
  have hch:=rdv_chunk d hd m h1
  rw[← hlo] at hch
  have hst:=jdE (B:=10000) (by omega) h3
  rw[hch.1,hch.2] at hst
  have hbd:∀ i,lo+i≤m→rdv ((d.take (lo+i)).drop lo)<10000:=fun i hi=>by
   have hl1:((d.take (lo+i)).drop lo).length≤4:=by rw[jhV,jhL];omega
   have:=jeB (s:=(d.take (lo+i)).drop lo) (fun c hc=>hd c (jhQ (jhP hc)))
   have h2:(10:Nat)^((d.take (lo+i)).drop lo).length≤10^4:=jht (by omega) hl1
   omega
  have hnx:∀ i,lo+i<m→rdv ((d.take (lo+(i+1))).drop lo)=rdv ((d.take (lo+i)).drop lo)*10+((d.getD (lo+i) 0).toNat-48):=fun i hi=>by
   rw[← Nat.add_assoc]
   exact rdv_next d lo (lo+i) (by omega) (by omega)
  have hx0:rdv ((d.take (lo+0)).drop lo)=0:=by
   have hnil:(d.take lo).drop lo=[]:=List.drop_eq_nil_of_le (by rw[jhL];omega)
   rw[jg9,hnil];rfl
  refine V.r0 hmx ?_
  refine jae (0:Nat) (fun i=>lo+i≤m) (fun i=>m-(lo+i)) (fun i=>[(7,.int .i64 ((lo+i+j:Nat):Int)),(6,.int .i64 ((rdv ((d.take (lo+i)).drop lo):Nat):Int))]) (fun _=>[]) ?_ ?_ ?_
  ·rw[hx0]
   exact V.wk
  ·show lo+0≤m
   omega
  intro i hi
  have hi2:=hbd i hi
  (conv=>whnf)
  refine V.st ?_
  refine V.br (fun hq2=>?_) (fun hq2=>?_)
  ·rw[decide_eq_true_eq] at hq2
   have hn2:=hnx i (by omega)
   have hgi:=hg (lo+i)
   have hdc:isDig (d.getD (lo+i) 0)=true:=hd _ (by rw[jhF,jhI (by omega)];exact List.getElem_mem _)
   have hdl2:=(dig_lo _).1 hdc
   have hi3:=hbd (i+1) (by omega)
   generalize d.getD (lo+i) 0=c at *
   have hkt:((lo+i+j:Nat):Int).toNat=lo+i+j:=by omega
   have hkc:(((lo+i+j:Nat):Int)+1)=((lo+(i+1)+j:Nat):Int):=by omega
   have hsum:((rdv ((d.take (lo+i)).drop lo):Nat):Int)*10+((c.toNat:Int)-48)=((rdv ((d.take (lo+(i+1))).drop lo):Nat):Int):=by
    rw[hn2];omega
   refine V.r0 (V.a4 hkt hgi hkc hsum) ?_
   exact⟨i+1,by omega,by omega,V.wk⟩
  ·rw[decide_eq_false_iff_not] at hq2
   have hmi:lo+i=m:=by omega
   rw[hmi]
   have hl2:(out++[((rdv ((d.take m).drop lo):Nat):Int)]).length=out.length+1:=by simp
   have hl3:out.length+(List.take 1 (List.drop 0 [((rdv ((d.take m).drop lo):Nat):Int)])).length=(out++[((rdv ((d.take m).drop lo):Nat):Int)]).length:=by simp
   have hdg:Dg 10000 (out++[((rdv ((d.take m).drop lo):Nat):Int)]):=jag h4 (jap ⟨by omega,by have:=hbd i hi;rw[hmi] at this;omega⟩)
   refine V.r0 hl3 ?_
   try refine And.intro (fun _=>⟨trivial,by omega⟩) ?_
   refine V.r0 hl3 ?_
   exact⟨(((m+j:Nat):Int)-4,lo,out++[((rdv ((d.take m).drop lo):Nat):Int)]),⟨by dsimp only;omega,by dsimp only;omega,hst,hdg,by dsimp only;omega⟩,by dsimp only;omega,V.wk⟩
 ·rw[decide_eq_false_iff_not] at hq
  have hm0:m=0:=by omega
  subst hm0
  have hv:val 10000 out=((rdv d:Nat):Int):=by
   rw[List.take_zero,show rdv []=0 from rfl] at h3
   simpa using h3
  have hmd:=jdV neg out h4 (by omega)
  rw[hv] at hmd
  have e1:decide ((j:Int)=1)=neg:=by
   cases neg with
   | true=>rw[if_pos rfl] at hj;rw[hj];rfl
   | false=>rw[if_neg (by simp)] at hj;rw[hj];rfl
  (conv=>whnf)
  (try simp only[e1,jhZ])
  repeat ((first|refine V.s1 ?_|((try ((with_reducible refine .ext ?_);(conv=>whnf);(try simp only[e1,jhZ])));(with_reducible refine jaa (r:=?_) ?_ ?_);rotate_left;(focus (first|exact(hmd)));(conv=>whnf)));(try simp only[e1,jhZ]))
  exact Fin.of rfl
theorem jfo (x y:Int)(hx:Sm 40000000 x)(hy:Sm 40000000 y):Cl 50 [plD x,plD y] (plD (x*y)):=by
 unfold Sm at hx hy
 have hl:=jcp (B:=10000) (by omega) x.natAbs y.natAbs
 have hp:=jdO (mg 10000 x.natAbs) (mg 10000 y.natAbs) (by omega) (by omega) (mg_dg (by omega) _) (fun j=>by
  have:=jak (B:=10000) (by omega) (mg_dg (B:=10000) (by omega) y.natAbs) j
  omega)
 rw[jax (by omega),jax (by omega),← jho,jha] at hp
 have hm:=jdb (!(decide (x<0) == decide (y<0))) (x.natAbs*y.natAbs) (by omega)
 have e:(if (!(decide (x<0) == decide (y<0)))=true then -((x.natAbs*y.natAbs:Nat):Int) else ((x.natAbs*y.natAbs:Nat):Int))=x*y:=by
  rw[jho]
  by_cases h:x<0
  ·have e1:(x.natAbs:Int) = -x:=by omega
   by_cases h2:y<0
   ·have e2:(y.natAbs:Int) = -y:=by omega
    rw[e1,e2];simp[h,h2,Int.neg_mul_neg]
   ·have e2:(y.natAbs:Int)=y:=by omega
    rw[e1,e2];simp[h,h2,Int.neg_mul]
  ·have e1:(x.natAbs:Int)=x:=by omega
   by_cases h2:y<0
   ·have e2:(y.natAbs:Int) = -y:=by omega
    rw[e1,e2];simp[h,h2,Int.mul_neg]
   ·have e2:(y.natAbs:Int)=y:=by omega
    rw[e1,e2];simp[h,h2]
 rw[e] at hm
 rw[show plD x = .agg [.bool (decide (x<0)),.ints .i64 (mg 10000 x.natAbs)] from rfl,show plD y = .agg [.bool (decide (y<0)),.ints .i64 (mg 10000 y.natAbs)] from rfl]
 refine V.en tbOk Tryz.func50 ?_
 (conv=>whnf)
 refine V.st ?_
 refine⟨(V.tk [0,1,2,3,4,5,6,7,8] (V.e1 9 [4,3,2,1,0] (V.e1 10 [] (V.e1 11 [] .done)))),[],V.pok,.go (jab ?_)⟩
 (conv=>whnf)
 refine V.st ?_
 repeat ((try ((with_reducible refine .ext ?_);(conv=>whnf)));(with_reducible refine jaa (r:=?_) ?_ ?_);rotate_left;(focus (first|exact(hp)|exact(hm)));(conv=>whnf);refine V.st ?_)
 exact Fin.of rfl
theorem order01_c (x y:Int)(hx:Sm 80000000 x)(hy:Sm 80000000 y):Cl 49 [plD x,plD y] (.int .i64 (x-y).sign):=by
 have hm:=minus_c x y (hx.mono (by omega)) (hy.mono (by omega))
 have hn:=jbR (B:=10000) (n:=(x-y).natAbs) (by omega)
 have hz:Sm 80000001 (x-y):=by rw[Int.sub_eq_add_neg];exact hx.add hy.neg
 unfold Sm at hz
 rw[show plD (x-y) = .agg [.bool (decide (x-y<0)),.ints .i64 (mg 10000 (x-y).natAbs)] from rfl] at hm
 generalize x-y=z at *
 generalize mg 10000 z.natAbs=xs at *
 refine V.en tbOk Tryz.func49 ?_
 (conv=>whnf)
 refine V.st ?_
 repeat ((try ((with_reducible refine .ext ?_);(conv=>whnf)));(with_reducible refine jaa (r:=?_) ?_ ?_);rotate_left;(focus (first|exact(hm)));(conv=>whnf);refine V.st ?_)
 refine V.br (fun hq=>?_) (fun hq=>?_)
 ·rw[decide_eq_true_eq] at hq
  (conv=>whnf)
  refine V.st ?_
  exact Fin.of (by rw[jhB hq])
 ·rw[decide_eq_false_iff_not] at hq
  (conv=>whnf)
  refine V.st ?_
  refine V.br (fun hq2=>?_) (fun hq2=>?_)
  ·rw[decide_eq_true_eq] at hq2
   have h0:z≠0:=fun e=>by
    have:=hn.2 (by rw[e];rfl)
    rw[this] at hq2;simp at hq2
   (conv=>whnf)
   refine V.st ?_
   exact Fin.of (by rw[jhC (by omega)])
  ·rw[decide_eq_false_iff_not] at hq2
   have h0:=hn.1 (jhG.1 (by omega))
   (conv=>whnf)
   refine V.st ?_
   exact Fin.of (by rw[show z=0 by omega];rfl)
def Q4 (k:Nat)(q:Rat):Prop:=Sm k q.num∧Sm k (q.den:Int)
theorem Q4.mono {k l:Nat}{q:Rat}(h:Q4 k q)(hl:k≤l):Q4 l q:=⟨h.1.mono hl,h.2.mono hl⟩
theorem Q4.neg {k:Nat}{q:Rat}(h:Q4 k q):Q4 k (-q):=⟨by rw[Rat.neg_num];exact h.1.neg,by rw[Rat.neg_den];exact h.2⟩
theorem Q4.of {k:Nat}{n d:Int}(hn:Sm k n)(hd:Sm k d)(hd0:d≠0):Q4 k (Rat.divInt n d):=by
 have h1:=jgh n d hd0
 have h2:=jgi n d hd0
 have h3:=jbg (if d<0 then -n else n) (Int.gcd (if d<0 then -n else n) (if d<0 then -d else d))
 have h4:=jbg (if d<0 then -d else d) (Int.gcd (if d<0 then -n else n) (if d<0 then -d else d))
 rw[h1] at h3
 rw[h2] at h4
 have e1:(if d<0 then -n else n).natAbs=n.natAbs:=by split<;>simp
 have e2:(if d<0 then -d else d).natAbs=d.natAbs:=by split<;>simp
 exact⟨hn.le (by omega),hd.le (by omega)⟩
theorem plN (n:Nat):plD (n:Int) = .agg [.bool false,.ints .i64 (mg 10000 n)]:=by
 unfold plD
 rw[decide_eq_false (by omega),jhA]
theorem mul_divInt (x y:Rat):x*y=Rat.divInt (x.num*y.num) ((x.den:Int)*(y.den:Int)):=by
 conv=>lhs;rw[← Rat.num_divInt_den x,← Rat.num_divInt_den y]
 rw[Rat.divInt_mul_divInt]
theorem den_ne (x:Rat):(x.den:Int)≠0:=by have:=x.den_pos;omega
theorem order02_c (x y:Rat)(hx:Q4 40000000 x)(hy:Q4 40000000 y):Cl 23 [raD x,raD y] (.int .i64 (ordQ x y)):=by
 have h1:=jfo x.num y.den hx.1 hy.2
 have h2:=jfo y.num x.den hy.1 hx.2
 have h3:=order01_c (x.num*y.den) (y.num*x.den) (hx.1.mul hy.2) (hy.1.mul hx.2)
 rw[Int.sub_eq_add_neg,jdP] at h3
 rw[plN] at h1 h2
 refine V.en tbOk Tryz.func23 ?_
 (conv=>whnf)
 refine V.st ?_
 refine⟨(V.tk [0,1,2,3,5,6,7,8] (V.e1 4 [8,7,6,5] (V.e1 9 [] (V.e1 10 [] (V.tk [11] .done))))),[],V.pok,.go (jab ?_)⟩
 (conv=>whnf)
 refine V.st ?_
 repeat ((try ((with_reducible refine .ext ?_);(conv=>whnf)));(with_reducible refine jaa (r:=?_) ?_ ?_);rotate_left;(focus (first|exact(h1)|exact(h2)|exact(h3)));(conv=>whnf);refine V.st ?_)
 exact Fin.of rfl
theorem Q4.mul {k l:Nat}{x y:Rat}(h:Q4 k x)(g:Q4 l y):Q4 (k+l) (x*y):=by
 rw[mul_divInt]
 exact Q4.of (h.1.mul g.1) (h.2.mul g.2) (Int.mul_ne_zero (den_ne x) (den_ne y))
theorem jfv (s:List UInt8)(hs:s.length≤281474976710656):Cl 45 [.str s] (.bool (okW s)):=by
 obtain⟨d,j,neg,S,e1,_⟩:=sg_of s
 rw[e1]
 exact right01_g s d j neg S hs
theorem in01_c (s:List UInt8)(h:okW s=true):Cl 46 [.str s] (plD (wval s)):=by
 obtain⟨d,j,neg,S,e1,e2⟩:=sg_of s
 rw[e2]
 rw[e1] at h
 unfold okD at h
 simp only[jg0,Bool.not_eq_true',jhk,decide_eq_false_iff_not,jhE] at h
 exact in01_g s d j neg S h.1.2 (by omega) (by have:=S.hl;omega)
theorem jc5 {s:List UInt8}(h:okW s=true):Sm 151 (wval s):=by
 obtain⟨d,j,neg,S,e1,e2⟩:=sg_of s
 rw[e1] at h
 unfold okD at h
 simp only[jg0,Bool.not_eq_true',jhk,decide_eq_false_iff_not,jhE] at h
 have hlt:=jeB (s:=d) h.1.2
 have h2:∀ k,d.length≤4*k→rdv d<10000^k:=fun k hk=>by
  refine jhh hlt ?_
  rw[show (10000:Nat)=10^4 from rfl,← Nat.pow_mul]
  exact jht (by omega) hk
 have e:(wval s).natAbs=rdv d:=by
  rw[e2];split<;>omega
 unfold Sm
 rw[e]
 exact jau (by omega) (h2 151 (by omega))
theorem jfu (s t : List UInt8) (hs : s.length ≤ 281474976710656) (ht : t.length ≤ 281474976710656) : Cl 22 [.agg [.str s, .str t]] (.bool (okP s t)) := by
  have r1 := jfv s hs
  have r2 := jfv t ht
  by_cases h1 : okW s = true
  · rw [h1] at r1
    by_cases h2 : okW t = true
    · rw [h2] at r2
      have i1 := in01_c s h1
      have i2 := in01_c t h2
      have g1 := jec (wval s) (wval t) ((jc5 h1).mono (by omega)) ((jc5 h2).mono (by omega))
      have hz := jbR (B := 10000) (n := (wval t).natAbs) (by omega)
      have gl : Sm 151 (Int.gcd (wval s) (wval t) : Int) := by
        by_cases h0 : wval t = 0
        · rw [h0, Int.gcd_zero_right]
          exact (jc5 h1).le (by omega)
        · exact (jc5 h2).le (by
            rw [jhA]
            exact Nat.le_of_dvd (by omega) (Int.ofNat_dvd_left.1 (Int.gcd_dvd_right _ _)))
      have x1 := text_c _ (gl.mono (by omega))
      have hp : okP s t = (decide (0 < wval t) && decide (decZ (Int.gcd (wval s) (wval t) : Int) = [49])) := by
        unfold okP
        rw [h1, h2, Bool.true_and, Bool.true_and]
        congr 1
        refine decide_eq_decide.2 ⟨fun h => ?_, fun h => ?_⟩
        · rw [show Int.gcd (wval s) (wval t) = 1 from h]; decide
        · have := jbK (Int.gcd (wval s) (wval t) : Int)
          rw [h] at this
          have e49 : wval [49] = 1 := by decide
          rw [e49] at this
          show Int.gcd (wval s) (wval t) = 1
          omega
      rw [hp]
      clear hp gl
      generalize wval s = x at *
      generalize wval t = y at *
      generalize (Int.gcd x y : Int) = g at *
      generalize decZ g = gt at *
      have hy : (decide (y < 0) || decide ((((mg 10000 y.natAbs).length : Nat) : Int) = 0)) = !decide (0 < y) := by
        rw [Bool.eq_iff_iff]
        simp only [Bool.or_eq_true, decide_eq_true_eq, Bool.not_eq_true', decide_eq_false_iff_not]
        constructor
        · rintro (h | h)
          · omega
          · have : mg 10000 y.natAbs = [] := jhG.1 (by omega)
            have := hz.1 this
            omega
        · intro h
          by_cases h0 : y < 0
          · exact .inl h0
          · right
            have : mg 10000 y.natAbs = [] := hz.2 (by omega)
            rw [this]; rfl
      unfold plD at *
      refine V.en tbOk Tryz.func22 ?_
      (conv => whnf)
      refine V.st ?_
      repeat ((try ((with_reducible refine .ext ?_); (conv => whnf))); (with_reducible refine jaa (r := ?_) ?_ ?_); rotate_left; (focus (first | exact (r1) | exact (r2))); (conv => whnf); refine V.st ?_)
      refine ⟨Pq45z, [], V.pok, ?_⟩
      refine jad [(3, .box 3 0), (4, .box 4 0)] [(3, .box [.bool (decide (x < 0)), .ints .i64 (mg 10000 x.natAbs)]), (4, .box [.bool (decide (y < 0)), .ints .i64 (mg 10000 y.natAbs)])] ?_ ?_
      · exact V.d2 @jg8 i1 i2
      refine V.r0 hy ?_
      refine V.br (fun hq => ?_) (fun hq => ?_)
      · simp only [Bool.not_eq_true', decide_eq_false_iff_not] at hq
        rw [decide_eq_false hq, Bool.false_and]
        (conv => whnf)
        refine V.st ?_
        exact Fin.of rfl
      · simp only [Bool.not_eq_false', decide_eq_true_eq] at hq
        rw [decide_eq_true hq, Bool.true_and]
        (conv => whnf)
        refine V.st ?_
        repeat ((try ((with_reducible refine .ext ?_); (conv => whnf))); (with_reducible refine jaa (r := ?_) ?_ ?_); rotate_left; (focus (first | exact (g1) | exact (x1))); (conv => whnf); refine V.st ?_)
        exact Fin.of rfl
    · rw [Bool.eq_false_iff.2 h2] at r2
      have hp : okP s t = false := by unfold okP; rw [Bool.eq_false_iff.2 h2, Bool.and_false, Bool.false_and, Bool.false_and]
      rw [hp]
      refine V.en tbOk Tryz.func22 ?_
      (conv => whnf)
      refine V.st ?_
      repeat ((try ((with_reducible refine .ext ?_); (conv => whnf))); (with_reducible refine jaa (r := ?_) ?_ ?_); rotate_left; (focus (first | exact (r1) | exact (r2))); (conv => whnf); refine V.st ?_)
      exact Fin.of rfl
  · rw [Bool.eq_false_iff.2 h1] at r1
    have hp : okP s t = false := by unfold okP; rw [Bool.eq_false_iff.2 h1, Bool.false_and, Bool.false_and, Bool.false_and]
    rw [hp]
    refine V.en tbOk Tryz.func22 ?_
    (conv => whnf)
    refine V.st ?_
    repeat ((try ((with_reducible refine .ext ?_); (conv => whnf))); (with_reducible refine jaa (r := ?_) ?_ ?_); rotate_left; (focus (first | exact (r1) | exact (r2))); (conv => whnf); refine V.st ?_)
    refine V.br (fun hq => ?_) (fun hq => ?_)
    · (conv => whnf)
      refine V.st ?_
      exact Fin.of rfl
    · simp at hq
theorem q4_qv {s t:List UInt8}(h:okP s t=true):Q4 151 (qv s t):=by
 obtain⟨h1,h2,h3,h4⟩:=jeG h
 obtain⟨p1,p2⟩:=jdw h
 exact⟨by rw[p1];exact jc5 h1,by rw[p2];exact(jc5 h2).le (by omega)⟩
theorem in02_c (s t:List UInt8)(h:okP s t=true):Cl 24 [.agg [.str s,.str t]] (raD (qv s t)):=by
 obtain⟨h1,h2,h3,h4⟩:=jeG h
 obtain⟨p1,p2⟩:=jdw h
 have i1:=in01_c s h1
 have i2:=in01_c t h2
 unfold raD
 rw[p1,p2]
 unfold plD at i1 i2
 rw[decide_eq_false (show ¬ wval t<0 by omega)] at i2
 refine V.en tbOk Tryz.func24 ?_
 (conv=>whnf)
 refine V.st ?_
 refine⟨(V.tk [0,1,3,4] (V.e1 2 [4,3] (V.e1 5 [] (V.tk [6] (V.e1 7 [] .done))))),[],V.pok,.go (jab ?_)⟩
 (conv=>whnf)
 refine V.st ?_
 repeat ((try ((with_reducible refine .ext ?_);(conv=>whnf)));(with_reducible refine jaa (r:=?_) ?_ ?_);rotate_left;(focus (first|exact(i1)|exact(i2)));(conv=>whnf);refine V.st ?_)
 exact Fin.of rfl
theorem je9 {s t:List UInt8}(h:okP s t=true):s.length≤281474976710656∧t.length≤281474976710656:=by
 obtain⟨h1,h2,_,_⟩:=jeG h
 have l1:=(jbI h1).1
 have l2:=(jbI h2).1
 omega
theorem y_one:Fq 1 1:=⟨by decide,by decide⟩
theorem y_small {n m:Int}(hn : -9223372036854775807≤n∧n≤9223372036854775807)(hm:1≤m∧m≤9223372036854775807):Fq 20 (Rat.divInt n m):=by
 obtain⟨d,rfl⟩:∃ d:Nat,m=d:=⟨m.toNat,by omega⟩
 exact jbx (by omega) (by omega) (by omega)
theorem y_of {n m:Int}(hn : -9223372036854775807≤n∧n≤9223372036854775807)(hm:1≤m∧m≤9223372036854775807):Cl 33 [.int .i64 n,.int .i64 m] (.tup [frT (Rat.divInt n m),.int .i64 0]):=by
 rw[← jeK ((y_small hn hm).ok (by omega) (by omega))]
 exact of_c n m (by simp[InR,V.lo,V.hi];omega) (by simp[InR,V.lo,V.hi];omega) (by omega)
def sm (f:Nat→Rat):Nat→Rat
 | 0=>0
 | k+1=>sm f k+f k
theorem jbl {f g:Nat→Rat} : ∀ {k:Nat},(∀ i,i<k→f i=g i)→sm f k=sm g k
 | 0,_=>rfl
 | k+1,h=>by
  simp only[sm]
  rw[jbl (k:=k) fun i hi=>h i (by omega),h k (by omega)]
theorem sm_add (f g:Nat→Rat):∀ k,sm (fun i=>f i+g i) k=sm f k+sm g k
 | 0=>by simp only[sm];grind
 | k+1=>by
  simp only[sm]
  rw[sm_add f g k]
  grind
theorem sm_mul (c:Rat)(f:Nat→Rat):∀ k,sm (fun i=>c*f i) k=c*sm f k
 | 0=>by simp only[sm];grind
 | k+1=>by
  simp only[sm]
  rw[sm_mul c f k]
  grind
theorem jeY (c:Rat):∀ k:Nat,sm (fun _=>c) k=((k:Int):Rat)*c
 | 0=>by simp[sm]
 | k+1=>by
  simp only[sm]
  rw[jeY c k,Int.natCast_add,Rat.intCast_add]
  grind
theorem sm_ind (R:Nat):∀ k,R≤k→sm (fun t=>if t<R then 1 else 0) k=((R:Int):Rat)
 | 0,h=>by
  have:R=0:=by omega
  subst this
  simp[sm]
 | k+1,h=>by
  simp only[sm]
  by_cases e:R=k+1
  ·subst e
   rw[if_pos (by omega),jbl (g:=fun _=>1) fun i hi=>if_pos (by omega),jeY,Int.natCast_add,Rat.intCast_add]
   grind
  ·rw[if_neg (by omega),sm_ind R k (by omega)]
   grind
theorem lvl {N b R t:Int}(hN:0<N)(h0:0≤R)(h1:R≤N)(t0:0≤t)(t1:t<N):(b*N+R-1-t)/N+1=b+(if t<R then 1 else 0):=by
 by_cases h:t<R
 ·rw[if_pos h,show b*N+R-1-t=(R-1-t)+N*b by rw[jhm];omega,Int.add_mul_ediv_left _ _ (by omega),Int.ediv_eq_zero_of_lt (by omega) (by omega)]
  omega
 ·rw[if_neg h,show b*N+R-1-t=(R-1-t+N)+N*(b-1) by rw[Int.mul_sub,Int.mul_one,jhm];omega,Int.add_mul_ediv_left _ _ (by omega),Int.ediv_eq_zero_of_lt (by omega) (by omega)]
  omega
def lvF (v:Int→Int→Int→Rat)(N:Nat)(P Q R:Int):Rat:=sm (fun t=>v ((P-1-t)/N+1) ((Q-1-t)/N+1) ((R-1-t)/N+1)) N
theorem jdd {N A B C:Nat}(hA:A≤N)(hB:B≤A)(hC:C≤B)(v0 v1 v2 v3:Rat) :
  sm (fun t=>if t<C then v3 else if t<B then v2 else if t<A then v1 else v0) N=(((N:Int):Rat)-((A:Int):Rat))*v0+(((A:Int):Rat)-((B:Int):Rat))*v1+(((B:Int):Rat)-((C:Int):Rat))*v2+((C:Int):Rat)*v3:=by
 have e:∀ t,(if t<C then v3 else if t<B then v2 else if t<A then v1 else v0)=v0+((v1-v0)*(if t<A then 1 else 0)+((v2-v1)*(if t<B then 1 else 0)+(v3-v2)*(if t<C then 1 else 0))):=fun t=>by
  by_cases h1:t<C
  ·rw[if_pos h1,if_pos h1,if_pos (show t<B by omega),if_pos (show t<A by omega)];grind
  ·rw[if_neg h1,if_neg h1]
   by_cases h2:t<B
   ·rw[if_pos h2,if_pos h2,if_pos (show t<A by omega)];grind
   ·rw[if_neg h2,if_neg h2]
    by_cases h3:t<A
    ·rw[if_pos h3,if_pos h3];grind
    ·rw[if_neg h3,if_neg h3];grind
 rw[jbl fun t _=>e t,sm_add,sm_add,sm_add,jeY,sm_mul,sm_mul,sm_mul,sm_ind A N hA,sm_ind B N (by omega),sm_ind C N (by omega)]
 grind
def ord3 (r0 r1 r2:Rat):List Int:=
 if r0<r1 then (if r0<r2 then (if r1<r2 then [2,1,0] else [1,2,0]) else [1,0,2])
 else (if r1<r2 then (if r0<r2 then [2,0,1] else [0,2,1]) else [0,1,2])
def sel (r0 r1 r2:Rat)(i:Int):Rat:=if i=0 then r0 else if i=1 then r1 else r2
def bmp (b:Int×Int×Int)(i:Int):Int×Int×Int:=if i=0 then (b.1+1,b.2.1,b.2.2) else if i=1 then (b.1,b.2.1+1,b.2.2) else (b.1,b.2.1,b.2.2+1)
def vat (v:Int→Int→Int→Rat)(b:Int×Int×Int):Rat:=v b.1 b.2.1 b.2.2
def evO (v:Int→Int→Int→Rat)(b:Int×Int×Int)(r0 r1 r2:Rat)(i j k:Int):Rat:=
 (1-sel r0 r1 r2 i)*vat v b+(sel r0 r1 r2 i-sel r0 r1 r2 j)*vat v (bmp b i)+(sel r0 r1 r2 j-sel r0 r1 r2 k)*vat v (bmp (bmp b i) j)+sel r0 r1 r2 k*vat v (bmp (bmp (bmp b i) j) k)
def evL (v:Int→Int→Int→Rat)(b:Int×Int×Int)(r0 r1 r2:Rat)(o:List Int):Rat:=evO v b r0 r1 r2 (o.getD 0 0) (o.getD 1 0) (o.getD 2 0)
theorem lvlN {N R t:Nat}{b:Int}(hN:0<N)(h1:R≤N)(t1:t<N):(b*N+R-1-t)/N+1=b+(if t<R then 1 else 0):=by
 have h:=lvl (N:=N) (b:=b) (R:=R) (t:=t) (by omega) (by omega) (by omega) (by omega) (by omega)
 rw[h]
 by_cases g:t<R
 ·rw[if_pos g,if_pos (by omega)]
 ·rw[if_neg g,if_neg (by omega)]
theorem jcz {N:Nat}(h:0<N):((N:Int):Rat)≠0:=by
 intro e
 have:(N:Int)=0:=by exact_mod_cast e
 omega
theorem ev_210 {N A0 A1 A2:Nat}{b0 b1 b2:Int}(hN:0<N)(hA:A2≤N)(hB:A1≤A2)(hC:A0≤A1)(v:Int→Int→Int→Rat) :
  ((N:Int):Rat)*evO v (b0,b1,b2) (((A0:Int):Rat)/((N:Int):Rat)) (((A1:Int):Rat)/((N:Int):Rat)) (((A2:Int):Rat)/((N:Int):Rat)) 2 1 0=lvF v N (b0*N+A0) (b1*N+A1) (b2*N+A2):=by
 have hz:=jcz hN
 have key:=jdd hA hB hC (v b0 b1 b2) (v b0 b1 (b2+1)) (v b0 (b1+1) (b2+1)) (v (b0+1) (b1+1) (b2+1))
 unfold lvF
 rw[jbl (g:=fun t=>if t<A0 then v (b0+1) (b1+1) (b2+1) else if t<A1 then v b0 (b1+1) (b2+1) else if t<A2 then v b0 b1 (b2+1) else v b0 b1 b2) fun t ht=>by
  rw[lvlN hN (show A0≤N by omega) ht,lvlN hN (show A1≤N by omega) ht,lvlN hN (show A2≤N by omega) ht]
  by_cases h1:t<A0
  ·rw[if_pos h1,if_pos h1,if_pos (show t<A2 by omega),if_pos (show t<A1 by omega)]
  ·by_cases h2:t<A1
   ·rw[if_neg h1,if_neg h1,if_pos h2,if_pos h2,if_pos (show t<A2 by omega)]
    simp only[jhw]
   ·by_cases h3:t<A2
    ·rw[if_neg h1,if_neg h1,if_neg h2,if_neg h2,if_pos h3,if_pos h3]
     simp only[jhw]
    ·rw[if_neg h1,if_neg h1,if_neg h2,if_neg h2,if_neg h3,if_neg h3]
     simp only[jhw],key]
 simp only[evO,sel,bmp,vat]
 simp
 generalize v b0 b1 b2=w0
 generalize v b0 b1 (b2+1)=w1
 generalize v b0 (b1+1) (b2+1)=w2
 generalize v (b0+1) (b1+1) (b2+1)=w3
 grind
theorem ev_120 {N A0 A1 A2:Nat}{b0 b1 b2:Int}(hN:0<N)(hA:A1≤N)(hB:A2≤A1)(hC:A0≤A2)(v:Int→Int→Int→Rat) :
  ((N:Int):Rat)*evO v (b0,b1,b2) (((A0:Int):Rat)/((N:Int):Rat)) (((A1:Int):Rat)/((N:Int):Rat)) (((A2:Int):Rat)/((N:Int):Rat)) 1 2 0=lvF v N (b0*N+A0) (b1*N+A1) (b2*N+A2):=by
 have hz:=jcz hN
 have key:=jdd hA hB hC (v b0 b1 b2) (v b0 (b1+1) b2) (v b0 (b1+1) (b2+1)) (v (b0+1) (b1+1) (b2+1))
 unfold lvF
 rw[jbl (g:=fun t=>if t<A0 then v (b0+1) (b1+1) (b2+1) else if t<A2 then v b0 (b1+1) (b2+1) else if t<A1 then v b0 (b1+1) b2 else v b0 b1 b2) fun t ht=>by
  rw[lvlN hN (show A0≤N by omega) ht,lvlN hN (show A1≤N by omega) ht,lvlN hN (show A2≤N by omega) ht]
  by_cases h1:t<A0
  ·rw[if_pos h1,if_pos h1,if_pos (show t<A1 by omega),if_pos (show t<A2 by omega)]
  ·by_cases h2:t<A2
   ·rw[if_neg h1,if_neg h1,if_pos h2,if_pos h2,if_pos (show t<A1 by omega)]
    simp only[jhw]
   ·by_cases h3:t<A1
    ·rw[if_neg h1,if_neg h1,if_neg h2,if_neg h2,if_pos h3,if_pos h3]
     simp only[jhw]
    ·rw[if_neg h1,if_neg h1,if_neg h2,if_neg h2,if_neg h3,if_neg h3]
     simp only[jhw],key]
 simp only[evO,sel,bmp,vat]
 simp
 generalize v b0 b1 b2=w0
 generalize v b0 (b1+1) b2=w1
 generalize v b0 (b1+1) (b2+1)=w2
 generalize v (b0+1) (b1+1) (b2+1)=w3
 grind
theorem ev_102 {N A0 A1 A2:Nat}{b0 b1 b2:Int}(hN:0<N)(hA:A1≤N)(hB:A0≤A1)(hC:A2≤A0)(v:Int→Int→Int→Rat) :
  ((N:Int):Rat)*evO v (b0,b1,b2) (((A0:Int):Rat)/((N:Int):Rat)) (((A1:Int):Rat)/((N:Int):Rat)) (((A2:Int):Rat)/((N:Int):Rat)) 1 0 2=lvF v N (b0*N+A0) (b1*N+A1) (b2*N+A2):=by
 have hz:=jcz hN
 have key:=jdd hA hB hC (v b0 b1 b2) (v b0 (b1+1) b2) (v (b0+1) (b1+1) b2) (v (b0+1) (b1+1) (b2+1))
 unfold lvF
 rw[jbl (g:=fun t=>if t<A2 then v (b0+1) (b1+1) (b2+1) else if t<A0 then v (b0+1) (b1+1) b2 else if t<A1 then v b0 (b1+1) b2 else v b0 b1 b2) fun t ht=>by
  rw[lvlN hN (show A0≤N by omega) ht,lvlN hN (show A1≤N by omega) ht,lvlN hN (show A2≤N by omega) ht]
  by_cases h1:t<A2
  ·rw[if_pos h1,if_pos h1,if_pos (show t<A1 by omega),if_pos (show t<A0 by omega)]
  ·by_cases h2:t<A0
   ·rw[if_neg h1,if_neg h1,if_pos h2,if_pos h2,if_pos (show t<A1 by omega)]
    simp only[jhw]
   ·by_cases h3:t<A1
    ·rw[if_neg h1,if_neg h1,if_neg h2,if_neg h2,if_pos h3,if_pos h3]
     simp only[jhw]
    ·rw[if_neg h1,if_neg h1,if_neg h2,if_neg h2,if_neg h3,if_neg h3]
     simp only[jhw],key]
 simp only[evO,sel,bmp,vat]
 simp
 generalize v b0 b1 b2=w0
 generalize v b0 (b1+1) b2=w1
 generalize v (b0+1) (b1+1) b2=w2
 generalize v (b0+1) (b1+1) (b2+1)=w3
 grind
theorem ev_201 {N A0 A1 A2:Nat}{b0 b1 b2:Int}(hN:0<N)(hA:A2≤N)(hB:A0≤A2)(hC:A1≤A0)(v:Int→Int→Int→Rat) :
  ((N:Int):Rat)*evO v (b0,b1,b2) (((A0:Int):Rat)/((N:Int):Rat)) (((A1:Int):Rat)/((N:Int):Rat)) (((A2:Int):Rat)/((N:Int):Rat)) 2 0 1=lvF v N (b0*N+A0) (b1*N+A1) (b2*N+A2):=by
 have hz:=jcz hN
 have key:=jdd hA hB hC (v b0 b1 b2) (v b0 b1 (b2+1)) (v (b0+1) b1 (b2+1)) (v (b0+1) (b1+1) (b2+1))
 unfold lvF
 rw[jbl (g:=fun t=>if t<A1 then v (b0+1) (b1+1) (b2+1) else if t<A0 then v (b0+1) b1 (b2+1) else if t<A2 then v b0 b1 (b2+1) else v b0 b1 b2) fun t ht=>by
  rw[lvlN hN (show A0≤N by omega) ht,lvlN hN (show A1≤N by omega) ht,lvlN hN (show A2≤N by omega) ht]
  by_cases h1:t<A1
  ·rw[if_pos h1,if_pos h1,if_pos (show t<A2 by omega),if_pos (show t<A0 by omega)]
  ·by_cases h2:t<A0
   ·rw[if_neg h1,if_neg h1,if_pos h2,if_pos h2,if_pos (show t<A2 by omega)]
    simp only[jhw]
   ·by_cases h3:t<A2
    ·rw[if_neg h1,if_neg h1,if_neg h2,if_neg h2,if_pos h3,if_pos h3]
     simp only[jhw]
    ·rw[if_neg h1,if_neg h1,if_neg h2,if_neg h2,if_neg h3,if_neg h3]
     simp only[jhw],key]
 simp only[evO,sel,bmp,vat]
 simp
 generalize v b0 b1 b2=w0
 generalize v b0 b1 (b2+1)=w1
 generalize v (b0+1) b1 (b2+1)=w2
 generalize v (b0+1) (b1+1) (b2+1)=w3
 grind
theorem ev_021 {N A0 A1 A2:Nat}{b0 b1 b2:Int}(hN:0<N)(hA:A0≤N)(hB:A2≤A0)(hC:A1≤A2)(v:Int→Int→Int→Rat) :
  ((N:Int):Rat)*evO v (b0,b1,b2) (((A0:Int):Rat)/((N:Int):Rat)) (((A1:Int):Rat)/((N:Int):Rat)) (((A2:Int):Rat)/((N:Int):Rat)) 0 2 1=lvF v N (b0*N+A0) (b1*N+A1) (b2*N+A2):=by
 have hz:=jcz hN
 have key:=jdd hA hB hC (v b0 b1 b2) (v (b0+1) b1 b2) (v (b0+1) b1 (b2+1)) (v (b0+1) (b1+1) (b2+1))
 unfold lvF
 rw[jbl (g:=fun t=>if t<A1 then v (b0+1) (b1+1) (b2+1) else if t<A2 then v (b0+1) b1 (b2+1) else if t<A0 then v (b0+1) b1 b2 else v b0 b1 b2) fun t ht=>by
  rw[lvlN hN (show A0≤N by omega) ht,lvlN hN (show A1≤N by omega) ht,lvlN hN (show A2≤N by omega) ht]
  by_cases h1:t<A1
  ·rw[if_pos h1,if_pos h1,if_pos (show t<A0 by omega),if_pos (show t<A2 by omega)]
  ·by_cases h2:t<A2
   ·rw[if_neg h1,if_neg h1,if_pos h2,if_pos h2,if_pos (show t<A0 by omega)]
    simp only[jhw]
   ·by_cases h3:t<A0
    ·rw[if_neg h1,if_neg h1,if_neg h2,if_neg h2,if_pos h3,if_pos h3]
     simp only[jhw]
    ·rw[if_neg h1,if_neg h1,if_neg h2,if_neg h2,if_neg h3,if_neg h3]
     simp only[jhw],key]
 simp only[evO,sel,bmp,vat]
 simp
 generalize v b0 b1 b2=w0
 generalize v (b0+1) b1 b2=w1
 generalize v (b0+1) b1 (b2+1)=w2
 generalize v (b0+1) (b1+1) (b2+1)=w3
 grind
theorem ev_012 {N A0 A1 A2:Nat}{b0 b1 b2:Int}(hN:0<N)(hA:A0≤N)(hB:A1≤A0)(hC:A2≤A1)(v:Int→Int→Int→Rat) :
  ((N:Int):Rat)*evO v (b0,b1,b2) (((A0:Int):Rat)/((N:Int):Rat)) (((A1:Int):Rat)/((N:Int):Rat)) (((A2:Int):Rat)/((N:Int):Rat)) 0 1 2=lvF v N (b0*N+A0) (b1*N+A1) (b2*N+A2):=by
 have hz:=jcz hN
 have key:=jdd hA hB hC (v b0 b1 b2) (v (b0+1) b1 b2) (v (b0+1) (b1+1) b2) (v (b0+1) (b1+1) (b2+1))
 unfold lvF
 rw[jbl (g:=fun t=>if t<A2 then v (b0+1) (b1+1) (b2+1) else if t<A1 then v (b0+1) (b1+1) b2 else if t<A0 then v (b0+1) b1 b2 else v b0 b1 b2) fun t ht=>by
  rw[lvlN hN (show A0≤N by omega) ht,lvlN hN (show A1≤N by omega) ht,lvlN hN (show A2≤N by omega) ht]
  by_cases h1:t<A2
  ·rw[if_pos h1,if_pos h1,if_pos (show t<A0 by omega),if_pos (show t<A1 by omega)]
  ·by_cases h2:t<A1
   ·rw[if_neg h1,if_neg h1,if_pos h2,if_pos h2,if_pos (show t<A0 by omega)]
    simp only[jhw]
   ·by_cases h3:t<A0
    ·rw[if_neg h1,if_neg h1,if_neg h2,if_neg h2,if_pos h3,if_pos h3]
     simp only[jhw]
    ·rw[if_neg h1,if_neg h1,if_neg h2,if_neg h2,if_neg h3,if_neg h3]
     simp only[jhw],key]
 simp only[evO,sel,bmp,vat]
 simp
 generalize v b0 b1 b2=w0
 generalize v (b0+1) b1 b2=w1
 generalize v (b0+1) (b1+1) b2=w2
 generalize v (b0+1) (b1+1) (b2+1)=w3
 grind
theorem rlt {N A B:Nat}(hN:0<N):(((A:Int):Rat)/((N:Int):Rat)<((B:Int):Rat)/((N:Int):Rat))↔A<B:=by
 have h1:(0:Rat)<((N:Int):Rat):=by exact_mod_cast (show (0:Int)<N by omega)
 rw[Rat.div_lt_iff h1,Rat.div_mul_cancel (jcz hN)]
 constructor
 ·intro h
  have:(A:Int)<B:=by exact_mod_cast h
  omega
 ·intro h
  exact_mod_cast (show (A:Int)<B by omega)
theorem ev_main {N A0 A1 A2:Nat}{b0 b1 b2:Int}(hN:0<N)(h0:A0≤N)(h1:A1≤N)(h2:A2≤N)(v:Int→Int→Int→Rat) :
  ((N:Int):Rat)*evL v (b0,b1,b2) (((A0:Int):Rat)/((N:Int):Rat)) (((A1:Int):Rat)/((N:Int):Rat)) (((A2:Int):Rat)/((N:Int):Rat)) (ord3 (((A0:Int):Rat)/((N:Int):Rat)) (((A1:Int):Rat)/((N:Int):Rat)) (((A2:Int):Rat)/((N:Int):Rat)))=lvF v N (b0*N+A0) (b1*N+A1) (b2*N+A2):=by
 unfold ord3
 simp only[rlt hN]
 by_cases c1:A0<A1
 ·rw[if_pos c1]
  by_cases c2:A0<A2
  ·rw[if_pos c2]
   by_cases c3:A1<A2
   ·rw[if_pos c3]
    exact ev_210 hN h2 (by omega) (by omega) v
   ·rw[if_neg c3]
    exact ev_120 hN h1 (by omega) (by omega) v
  ·rw[if_neg c2]
   exact ev_102 hN h1 (by omega) (by omega) v
 ·rw[if_neg c1]
  by_cases c3:A1<A2
  ·rw[if_pos c3]
   by_cases c2:A0<A2
   ·rw[if_pos c2]
    exact ev_201 hN h2 (by omega) (by omega) v
   ·rw[if_neg c2]
    exact ev_021 hN h0 (by omega) (by omega) v
  ·rw[if_neg c3]
   exact ev_012 hN h0 (by omega) (by omega) v
theorem split_N {N:Nat}(hN:0<N)(P:Int):∃ (b:Int) (A:Nat),A<N∧P=b*N+A:=by
 have h1:=Int.emod_nonneg P (show (N:Int)≠0 by omega)
 have h2:=jhv P (show (0:Int)<N by omega)
 have h3:=Int.mul_ediv_add_emod P N
 refine⟨P/N,(P%N).toNat,by omega,?_⟩
 rw[Int.toNat_of_nonneg h1,jhm]
 omega
theorem at_N {N:Nat}{p:Rat}{P s:Int}(hN:0<N)(hP:(P:Rat)=((N:Int):Rat)*p)(h0:0≤P)(h1:P≤(s-1)*N)(hs:2≤s) :
  ∃ A:Nat,A≤N∧P=(min p.floor (s-2))*N+A∧p-((min p.floor (s-2):Int):Rat)=((A:Int):Rat)/((N:Int):Rat)∧0≤min p.floor (s-2):=by
 obtain⟨b,B,hB,e⟩:=split_N hN P
 have hz:=jcz hN
 have hNp:(0:Rat)<((N:Int):Rat):=by exact_mod_cast (show (0:Int)<N by omega)
 have hp:p=(P:Rat)/((N:Int):Rat):=by
  rw[hP]
  grind
 have hf:p.floor=b:=by
  have l1:(b:Rat)≤p:=by
   rw[← Rat.not_lt,hp,Rat.div_lt_iff hNp,Rat.not_lt]
   rw[e,Rat.intCast_add,Rat.intCast_mul]
   have:(0:Rat)≤((B:Int):Rat):=by exact_mod_cast (show (0:Int)≤B by omega)
   grind
  have l2:p<((b+1:Int):Rat):=by
   rw[hp,Rat.div_lt_iff hNp,e,Rat.intCast_add,Rat.intCast_mul,Rat.intCast_add]
   have:((B:Int):Rat)<((N:Int):Rat):=by exact_mod_cast (show (B:Int)<N by omega)
   grind
  have g1:=Rat.le_floor_iff.2 l1
  have g2:=Rat.floor_lt_iff.2 l2
  omega
 have b0:0≤b:=by
  rcases Int.lt_or_le b 0 with h|h
  ·exfalso
   have:b*N ≤ -1*N:=jhg (by omega) (by omega)
   omega
  ·exact h
 rw[hf]
 by_cases hm:b≤s-2
 ·rw[show min b (s-2)=b by omega]
  refine⟨B,by omega,e,?_,b0⟩
  rw[hp,e,Rat.intCast_add,Rat.intCast_mul]
  grind
 ·have hb:b=s-1:=by
   have:(s-1)*(N:Int)≤b*N:=jhg (by omega) (by omega)
   rcases Int.lt_or_le (s-1) b with h|h
   ·exfalso
    have:(s-1+1)*(N:Int)≤b*N:=jhg (by omega) (by omega)
    rw[jhy,jhz] at this
    omega
   ·omega
  have hB0:B=0:=by
   rw[hb] at e
   omega
  rw[show min b (s-2)=s-2 by omega]
  refine⟨N,by omega,?_,?_,by omega⟩
  ·rw[e,hb,hB0,show s-1=(s-2)+1 by omega,jhy,jhz]
   omega
  ·rw[hp,e,hb,hB0,show s-1=(s-2)+1 by omega,Rat.intCast_add,Rat.intCast_mul,Rat.intCast_add]
   grind
def clQ (x:Rat):Rat:=if 1<(if x<0 then 0 else x) then 1 else (if x<0 then 0 else x)
theorem clQ_bd (x:Rat):0≤clQ x∧clQ x≤1:=by
 unfold clQ
 have h01:(0:Rat)≤1:=by decide
 by_cases h:x<0
 ·rw[if_pos h]
  by_cases g:(1:Rat)<0
  ·rw[if_pos g];exact⟨h01,Rat.le_refl⟩
  ·rw[if_neg g];exact⟨Rat.le_refl,h01⟩
 ·rw[if_neg h]
  by_cases g:1<x
  ·rw[if_pos g];exact⟨h01,Rat.le_refl⟩
  ·rw[if_neg g];exact⟨Rat.not_lt.1 h,Rat.not_lt.1 g⟩
theorem clQ_id {x:Rat}(h0:0≤x)(h1:x≤1):clQ x=x:=by
 unfold clQ
 rw[if_neg (Rat.not_lt.2 h0),if_neg (Rat.not_lt.2 h1)]
def gp (s:Int)(x:Rat):Rat:=clQ x*((s-1:Int):Rat)
def spB (s:Int)(x:Rat):Int:=min (gp s x).floor (s-2)
def spR (s:Int)(x:Rat):Rat:=gp s x-((spB s x:Int):Rat)
def evF (s0 s1 s2:Int)(v:Int→Int→Int→Rat)(x0 x1 x2:Rat):Rat:=
 evL v (spB s0 x0,spB s1 x1,spB s2 x2) (spR s0 x0) (spR s1 x1) (spR s2 x2) (ord3 (spR s0 x0) (spR s1 x1) (spR s2 x2))
theorem gp_bd {s:Int}(hs:2≤s)(x:Rat):0≤gp s x∧gp s x≤((s-1:Int):Rat):=by
 have h:=clQ_bd x
 have h1:(0:Rat)≤((s-1:Int):Rat):=by exact_mod_cast (show (0:Int)≤s-1 by omega)
 unfold gp
 refine⟨Rat.mul_nonneg h.1 h1,?_⟩
 have:=Rat.mul_nonneg (show 0≤1-clQ x by grind) h1
 grind
theorem np_pos {N:Nat}(hN:0<N):(0:Rat)<((N:Int):Rat):=by exact_mod_cast (show (0:Int)<N by omega)
theorem P_bd {N:Nat}{s P:Int}{x:Rat}(hN:0<N)(hs:2≤s)(hP:(P:Rat)=((N:Int):Rat)*gp s x):0≤P∧P≤(s-1)*N:=by
 have h:=gp_bd hs x
 have hn:=np_pos hN
 constructor
 ·have:=Rat.mul_nonneg (Rat.le_of_lt hn) h.1
  rw[← hP] at this
  exact_mod_cast this
 ·have:=Rat.mul_nonneg (Rat.le_of_lt hn) (show 0≤((s-1:Int):Rat)-gp s x by grind)
  have e:(P:Rat)≤(((s-1)*N:Int):Rat):=by
   rw[Rat.intCast_mul]
   grind
  exact_mod_cast e
theorem ev_lv {N:Nat}{s0 s1 s2 P Q R:Int}{x0 x1 x2:Rat}(hN:0<N)(hs:2≤s0∧2≤s1∧2≤s2)(h0:(P:Rat)=((N:Int):Rat)*gp s0 x0)(h1:(Q:Rat)=((N:Int):Rat)*gp s1 x1)(h2:(R:Rat)=((N:Int):Rat)*gp s2 x2)(v:Int→Int→Int→Rat) :
  ((N:Int):Rat)*evF s0 s1 s2 v x0 x1 x2=lvF v N P Q R:=by
 have b0:=P_bd hN hs.1 h0
 have b1:=P_bd hN hs.2.1 h1
 have b2:=P_bd hN hs.2.2 h2
 obtain⟨A0,a0,e0,r0,_⟩:=at_N hN h0 b0.1 b0.2 hs.1
 obtain⟨A1,a1,e1,r1,_⟩:=at_N hN h1 b1.1 b1.2 hs.2.1
 obtain⟨A2,a2,e2,r2,_⟩:=at_N hN h2 b2.1 b2.2 hs.2.2
 have m:=ev_main (b0:=spB s0 x0) (b1:=spB s1 x1) (b2:=spB s2 x2) hN a0 a1 a2 v
 unfold evF spR
 have f0:gp s0 x0-((spB s0 x0:Int):Rat)=((A0:Int):Rat)/((N:Int):Rat):=r0
 have f1:gp s1 x1-((spB s1 x1:Int):Rat)=((A1:Int):Rat)/((N:Int):Rat):=r1
 have f2:gp s2 x2-((spB s2 x2:Int):Rat)=((A2:Int):Rat)/((N:Int):Rat):=r2
 rw[f0,f1,f2,m]
 have g0:P=spB s0 x0*N+A0:=e0
 have g1:Q=spB s1 x1*N+A1:=e1
 have g2:R=spB s2 x2*N+A2:=e2
 rw[← g0,← g1,← g2]
theorem canc {N:Nat}(hN:0<N){a b:Rat}(h:((N:Int):Rat)*a=((N:Int):Rat)*b):a=b:=by
 have:=jcz hN
 grind
theorem over_c {n m:Int}(hn : -9223372036854775807≤n∧n≤9223372036854775807)(hm:1≤m∧m≤9223372036854775807):Cl 69 [.int .i64 n,.int .i64 m] (frT (Rat.divInt n m)):=by
 have c:=y_of hn hm
 unfold frT at *
 generalize Rat.divInt n m=q at *
 refine V.en tbOk Tryz.func69 ?_
 (conv=>whnf)
 refine V.st ?_
 repeat ((try ((with_reducible refine .ext ?_);(conv=>whnf)));(with_reducible refine jaa (r:=?_) ?_ ?_);rotate_left;(focus (first|exact(c)));(conv=>whnf);refine V.st ?_)
 exact Fin.of rfl
theorem int_q (n:Int):Rat.divInt n 1=(n:Rat):=by rw[Rat.divInt_eq_div];grind
theorem jaL {n:Int}(hn : -9223372036854775807≤n∧n≤9223372036854775807):Cl 42 [.int .i64 n] (frT (n:Rat)):=by
 have c:=over_c (n:=n) (m:=1) hn (by omega)
 rw[int_q] at c
 unfold frT at *
 generalize (n:Rat)=q at *
 refine V.en tbOk Tryz.func42 ?_
 (conv=>whnf)
 refine V.st ?_
 repeat ((try ((with_reducible refine .ext ?_);(conv=>whnf)));(with_reducible refine jaa (r:=?_) ?_ ?_);rotate_left;(focus (first|exact(c)));(conv=>whnf);refine V.st ?_)
 exact Fin.of rfl
theorem q9_of {n:Nat}{q:Rat}(h:Fq n q)(h0:0<n∧n≤600):Q9 20000000 q:=by
 obtain⟨h1,e1⟩:=ja0 (h.ok h0.1 h0.2)
 have:=qsize h1
 rw[e1] at this
 exact this
theorem rd_q {n:Nat}{q:Rat}(h:Fq n q)(h0:0<n∧n≤600):Cl 57 [frT q] (.tup [rtD q,.bool true]):=by
 obtain⟨h1,e1⟩:=ja0 (h.ok h0.1 h0.2)
 have r1:=jbj _ _ h1
 rw[e1] at r1
 exact r1
theorem fq_cl {n:Nat}{q:Rat}(h:Fq n q)(h0:0<n):Fq n (clQ q):=by
 have z:Fq n 0:=(show Fq 1 0 from ⟨by decide,by decide⟩).mono h0
 have o:Fq n 1:=y_one.mono h0
 unfold clQ
 by_cases h1:q<0
 ·rw[if_pos h1]
  split
  ·exact o
  ·exact z
 ·rw[if_neg h1]
  split
  ·exact o
  ·exact h
theorem fclamp_c {n:Nat}{q:Rat}(h:Fq n q)(h0:0<n∧n≤600):Cl 90 [frT q,frT 0,frT 1] (.tup [frT (clQ q),.int .i64 0]):=by
 have fz:Fq 1 0:=⟨by decide,by decide⟩
 have r0:=rd_q h h0
 have r1:=rd_q fz (by omega)
 have r2:=rd_q y_one (by omega)
 have q0:=q9_of h h0
 have q1:=q9_of fz (by omega)
 have q2:=q9_of y_one (by omega)
 have od:=je8 0 1 (q1.1.mono (by omega)) (q2.1.mono (by omega)) (by have:=q1.2;omega) (by have:=q2.2;omega)
 have e:ordQ 0 1 = -1:=by decide +kernel
 rw[e] at od
 have g:=greater_c q 0 q0 q1
 have q3:Q9 20000000 (if q<0 then 0 else q):=by
  split
  ·exact q1
  ·exact q0
 have l:=lesser_c (if q<0 then 0 else q) 1 q3 q2
 have fc:=fq_cl h h0.1
 have ec:(if 1<(if q<0 then 0 else q) then 1 else (if q<0 then 0 else q))=clQ q:=rfl
 rw[ec] at l
 have qc:=q9_of fc h0
 have w:=jc3 (clQ q) (by have:=qc.1;unfold S9 at this;omega) (by have:=qc.2;omega)
 rw[jeK (fc.ok h0.1 h0.2)] at w
 clear h fc ec e q0 q1 q2 q3 qc fz
 generalize clQ q=c at *
 generalize (if q<0 then 0 else q)=u at *
 generalize (0:Rat)=zz at *
 generalize (1:Rat)=oo at *
 unfold frT rtD at *
 refine V.en tbOk Tryz.func90 ?_
 refine V.r4 @jg8 r0 r1 r2 od ?_
 refine⟨(V.tk [0,1,3] (V.e1 2 [3] (V.e1 4 [] (V.e1 5 [] (V.tk [6,7] (V.e1 8 [] (V.tk [9] .done))))))),[],V.pok,?_⟩
 refine jad [(7,.int .i64 0)] [(6,.box [.str (decZ c.num),.str (dec c.den)])] ?_ ?_
 ·exact V.d3 @jg8 g l w
 refine V.r0 @jg8 ?_
 exact Fin.of rfl
theorem ffloor_c {n:Nat}{q:Rat}(h:Fq n q)(h0:0<n∧n≤600):Cl 91 [frT q] (.tup [.str (decZ q.floor),.int .i64 0]):=by
 have r0:=rd_q h h0
 have q0:=q9_of h h0
 have f:=floor_c q.num q.den q.den_pos (q0.1.mono (by omega)) (by have:=q0.2;omega)
 rw[← Rat.floor_def] at f
 have hl:S9 20000000 q.floor:=by
  rw[Rat.floor_def]
  refine q0.1.le ?_
  exact Int.natAbs_ediv_le_natAbs _ _
 unfold S9 at hl
 have t:=ftext_c q.floor (by omega)
 generalize q.floor=z at *
 unfold frT at *
 unfold rtD at r0
 unfold itD at f t
 refine V.en tbOk Tryz.func91 ?_
 refine V.r3 @jg8 r0 f t ?_
 exact Fin.of rfl
theorem atoi_dig:∀ z:Int,0≤z→z≤9→Go.Lib.atoi (decZ z)=some z:=fun z h0 h1=>by
 have key:∀ n∈List.range 10,Go.Lib.atoi (decZ ((n:Nat):Int))=some ((n:Nat):Int):=by decide +kernel
 obtain⟨n,rfl⟩:∃ n:Nat,z=(n:Int):=⟨z.toNat,by omega⟩
 exact key n (List.mem_range.2 (by omega))
theorem atoi_len:∀ z:Int,0≤z→z≤9→(decZ z).length≤18:=fun z h0 h1=>by
 have key:∀ n∈List.range 10,(decZ ((n:Nat):Int)).length≤18:=by decide +kernel
 obtain⟨n,rfl⟩:∃ n:Nat,z=(n:Int):=⟨z.toNat,by omega⟩
 exact key n (List.mem_range.2 (by omega))
theorem atoi_c {z:Int}(h0:0≤z)(h1:z≤9):Cl 92 [.str (decZ z)] (.tup [.int .i64 z,.val .nilIface]):=by
 refine ja9 Tryz.func92 rfl rfl rfl fun w hp vs ha hd=>?_
 simp only[DenL,Den] at hd
 obtain⟨v,_,rfl,⟨rfl,h2⟩,rfl⟩:=hd
 refine(Tryz.strconv_Atoi ⟨(decZ z).toArray⟩ z (by have:=atoi_len z h0 h1;simpa [ByteArray.size] using this) (by simpa using atoi_dig z h0 h1) w).mono fun e w' ⟨he,t,hw⟩=>⟨⟨_,he,fun hp=>?_⟩,?_⟩
 ·simp only[Den,DenL]
  exact⟨_,rfl,_,_,rfl,⟨rfl,by simp only[InR,V.lo,V.hi];omega⟩,_,_,rfl,rfl,rfl⟩
 ·rw[hw]
  exact Go.Lib.bytesWorld_below w _ _
theorem floor_bd {p:Rat}{m:Int}(h0:0≤p)(h1:p≤(m:Rat)):0≤p.floor∧p.floor≤m:=by
 constructor
 ·exact Rat.le_floor_iff.2 (by exact_mod_cast h0)
 ·have:p<((m+1:Int):Rat):=by
   rw[Rat.intCast_add]
   have:(0:Rat)<((1:Int):Rat):=by decide
   grind
  have:=Rat.floor_lt_iff.2 this
  omega
theorem jfs {s:Int}(hs:2≤s)(x:Rat):0≤spB s x∧spB s x≤s-2:=by
 have h:=gp_bd hs x
 have:=floor_bd h.1 h.2
 unfold spB
 omega
theorem split_t (a b z0 z1 o0 o1 c0 c1 s0 s1 p0 p1 i0 i1 r0 r1:List UInt8)(f:List UInt8)(s fl:Int)(hs:2≤s∧s≤9)(hf:0≤fl∧fl≤9)(iz:Cl 42 [.int .i64 0] (.agg [.str z0,.str z1]))(io:Cl 42 [.int .i64 1] (.agg [.str o0,.str o1]))
  (cl:Cl 90 [.agg [.str a,.str b],.agg [.str z0,.str z1],.agg [.str o0,.str o1]] (.tup [.agg [.str c0,.str c1],.int .i64 0])) (is:Cl 42 [.int .i64 (s-1)] (.agg [.str s0,.str s1]))
  (mu:Cl 41 [.agg [.str c0,.str c1],.agg [.str s0,.str s1]] (.tup [.agg [.str p0,.str p1],.int .i64 0])) (fo:Cl 91 [.agg [.str p0,.str p1]] (.tup [.str f,.int .i64 0]))
  (at':Cl 92 [.str f] (.tup [.int .i64 fl,.val .nilIface])) (ib:Cl 42 [.int .i64 (min fl (s-2))] (.agg [.str i0,.str i1])) (sb:Cl 63 [.agg [.str p0,.str p1],.agg [.str i0,.str i1]] (.tup [.agg [.str r0,.str r1],.int .i64 0])) :
  Cl 59 [.agg [.str a,.str b],.int .i64 s] (.tup [.int .i64 (min fl (s-2)),.agg [.str r0,.str r1],.int .i64 0]):=by
 refine V.en tbOk Tryz.func59 ?_
 refine V.r0 @jg8 ?_
 refine⟨(V.tk [0] (V.e1 1 [0] (V.e1 2 [0] (V.e1 3 [] (V.tk [4,5,6] (V.e1 7 [6] (V.tk [8] .done))))))),[],V.pok,?_⟩
 refine jad [(6,.int .i64 0)] [(2,.box [.str c0,.str c1])] ?_ ?_
 ·exact V.d3 @jg8 iz io cl
 refine V.r0 @jg8 ?_
 refine⟨(V.tk [0,1,2] (.ev (.cons 3 [0] (.ev (.cons 4 [] (V.tk [5,6,7] (V.e1 8 [7,6,5] (V.e1 9 [7] (V.tk [10] .done)))) (.cons 8 [0] (V.e1 4 [] (V.tk [5,6,7] (V.e1 9 [7] (V.tk [10] .done)))) .nil))) (.cons 8 [2,1,0] (V.e1 3 [0] (V.e1 4 [] (V.tk [5,6,7] (V.e1 9 [7] (V.tk [10] .done))))) .nil)))),[],V.pok,?_⟩
 refine jad [(7,.box 7 0),(6,.int .i64 0)] [(7,.box [.str p0,.str p1])] ?_ ?_
 ·exact V.d2 @jg8 is mu
 refine V.r2 @jg8 fo at' ?_
 refine⟨(V.tk [0,1] (V.e1 2 [0] (V.e1 3 [] (V.tk [4,5,6] (V.e1 7 [6] (V.tk [8] .done)))))),[],V.pok,?_⟩
 refine jad [(6,.int .i64 0)] [(5,.box [.str r0,.str r1])] ?_ ?_
 ·exact V.d2 @jg8 ib sb
 refine V.r0 @jg8 ?_
 refine⟨(V.tk [0,1,2] (V.e1 3 [2,1] (V.e1 4 [2] (V.e1 5 [] .done)))),[],V.pok,?_⟩
 refine jad [(4,.int .i64 (min fl (s-2))),(6,.int .i64 0)] [(5,.box [.str r0,.str r1])] ?_ ?_
 ·exact V.d0 @jg8
 refine V.r0 @jg8 ?_
 exact Fin.of rfl
theorem jcy {n:Nat}{z:Int}(h:z.natAbs<10^n)(h0:0<n):Fq n (z:Rat):=by
 have:=jbx (n:=n) (x:=z) (d:=1) (by omega) h (Nat.one_lt_pow (by omega) (by decide))
 rw[show (((1:Nat):Int))=1 from rfl,int_q] at this
 exact this
theorem jfZ {n:Nat}{x:Rat}{s:Int}(h:Fq n x)(h0:0<n∧n≤500)(hs:2≤s∧s≤9):Cl 59 [frT x,.int .i64 s] (.tup [.int .i64 (spB s x),frT (spR s x),.int .i64 0]):=by
 have h6:0<n∧n≤600:=by omega
 have fc:=fq_cl h h0.1
 have iz:=jaL (n:=0) (by omega)
 have io:=jaL (n:=1) (by omega)
 rw[show ((0:Int):Rat)=0 from rfl] at iz
 rw[show ((1:Int):Rat)=1 from rfl] at io
 have is:=jaL (n:=s-1) (by omega)
 have fs:Fq 1 ((s-1:Int):Rat):=jcy (by omega) (by omega)
 have mu:=zmul fc fs h0.1 (by omega) (by omega)
 have gb:=gp_bd hs.1 x
 have fb:0≤(clQ x*((s-1:Int):Rat)).floor∧(clQ x*((s-1:Int):Rat)).floor≤s-1:=floor_bd gb.1 gb.2
 have fb2:0≤(gp s x).floor∧(gp s x).floor≤s-1:=fb
 have fo:=ffloor_c (fc.mul fs) (by omega)
 have bb:=jfs hs.1 x
 have ib:=jaL (n:=spB s x) (by omega)
 have fi:Fq 1 ((spB s x:Int):Rat):=jcy (by omega) (by omega)
 have sb:=zsub (fc.mul fs) fi (by omega) (by omega) (by omega)
 exact split_t _ _ _ _ _ _ _ _ _ _ _ _ _ _ _ _ _ s _ hs ⟨fb.1,by omega⟩ iz io (fclamp_c h h6) is mu fo (atoi_c fb.1 (by omega)) ib sb
end Go.Proofs.YtbhpaandigaanaaGreatDoor
end
section
namespace Go.Proofs.YtbhpaandigaanaaGreatDoor
end Go.Proofs.YtbhpaandigaanaaGreatDoor
end
section
namespace Go.Proofs.YtbhpaandigaanaaGreatDoor
open Go Go.V Go.Nb
def preZ (k:Nat)(l:List Int):List Int:=l.take k++List.replicate (l.length-k) 0
def insJ (w:Int→Int→Int):Nat→List Int→List Int
 | 0,xs=>xs
 | j+1,xs=>if w (xs.getD (j+1) 0) (xs.getD j 0)<0 then insJ w j ((xs.set (j+1) (xs.getD j 0)).set j (xs.getD (j+1) 0)) else xs
def isoK (w:Int→Int→Int)(xs:List Int):Nat→List Int
 | 0=>xs
 | i+1=>insJ w (i+1) (isoK w xs i)
def Bel (n:Nat)(xs:List Int):Prop:=xs.length=n ∧ ∀ i,i<n→0≤xs.getD i 0∧xs.getD i 0<n
theorem jfJ (xs:List Int)(i k:Nat)(v:Int)(h:i<xs.length):(xs.set i v).getD k 0=if k=i then v else xs.getD k 0:=by
 rw[jhF,List.getElem?_set]
 by_cases e:i=k
 ·rw[if_pos e,if_pos h,if_pos e.symm]
  rfl
 ·rw[if_neg e,if_neg (fun h=>e h.symm),jhF]
theorem bel_swap {n:Nat}{xs:List Int}{j:Nat}(h:Bel n xs)(hj:j+1<n):Bel n ((xs.set (j+1) (xs.getD j 0)).set j (xs.getD (j+1) 0)):=by
 refine⟨by rw[jhY,jhY];exact h.1,fun i hi=>?_⟩
 rw[jfJ _ _ _ _ (by rw[jhY,h.1];omega)]
 by_cases e:i=j
 ·rw[if_pos e];exact h.2 _ hj
 ·rw[if_neg e,jfJ _ _ _ _ (by rw[h.1];omega)]
  by_cases e2:i=j+1
  ·rw[if_pos e2];exact h.2 _ (by omega)
  ·rw[if_neg e2];exact h.2 _ hi
theorem bel_ins (w:Int→Int→Int){n:Nat} : ∀ (j:Nat) {xs:List Int},j<n→Bel n xs→Bel n (insJ w j xs)
 | 0,_,_,h=>h
 | j+1,xs,hj,h=>by
  simp only[insJ]
  split
  ·exact bel_ins w j (by omega) (bel_swap h hj)
  ·exact h
theorem bel_iso (w:Int→Int→Int){n:Nat}{xs:List Int}(h:Bel n xs):∀ i,i<n→Bel n (isoK w xs i)
 | 0,_=>h
 | i+1,hi=>bel_ins w (i+1) hi (bel_iso w h i (by omega))
theorem tns (j:Nat):((j:Int)-1).toNat=j-1:=by omega
def wcl:Nat→D
 | 0 => .nil
 | k+1 => .bsl 62 0 (k+1) 2
def wce (W:Nat→Tx):Nat→List D
 | 0=>[]
 | k+1=>wce W k++[.str (W k).1,.str (W k).2]
def wch (W:Nat→Tx):Nat→Hp
 | 0=>[]
 | k+1=>[(62,.box (wce W (k+1)))]
def preD (k:Nat)(l:List D):List D:=l.take k++List.replicate (l.length-k) (.str [])
end Go.Proofs.YtbhpaandigaanaaGreatDoor
end
