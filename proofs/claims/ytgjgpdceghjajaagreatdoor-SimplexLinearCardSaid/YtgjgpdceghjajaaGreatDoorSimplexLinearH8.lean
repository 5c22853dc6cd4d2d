/- What some functions of the program answer at values that mean given lists, texts and numbers, each proved of the program's own code: part 8. Conditions: those that each theorem names. -/
import Derived.Test.YtgjgpdceghjajaaGreatDoorSimplexLinearH7
import Derived.Test.YtgjgpdceghjajaaGreatDoorSimplexLinearH6
import Derived.Lib.BitFns
import Derived.Laws.Bits64b
import Derived.Test.YtgjgpdceghjajaaGreatDoorSimplexLinearH4
import Derived.Lib.LaidTab
import Derived.Stop.LaidErr
import Derived.LaidMore
import Derived.Test.YtgjgpdceghjajaaGreatDoorSimplexLinearH5
set_option linter.unusedSimpArgs false
set_option linter.unusedVariables false
set_option maxHeartbeats 8000000
set_option maxRecDepth 100000
section
namespace Go.Proofs.YtgjgpdceghjajaaGreatDoor
open Go Go.V Go.Nb
theorem near_f (s t : List UInt8) (sc : Nat) (h : okP s t = true) (h1 : 1 ≤ sc) (h2 : sc ≤ 1000000000000) (hz : -9223372036854775808 ≤ nearZ (qv s t) sc ∧ nearZ (qv s t) sc ≤ 9223372036854775807) :
  Called Tryz.prog 68 [.agg [.str s, .str t], .int .i64 sc] (.tup [.int .i64 (nearZ (qv s t) sc), .int .i64 0]) := by
 have r1 := jbj s t h
 have q1 := jfH h
 have f1 := jcT sc (by omega)
 have lsc : (mg 1000000000 sc).length ≤ 2 := jau (by omega) (by omega)
 have n1 := near_r (qv s t) sc (q1.1.mono (by omega)) (jh1 q1.2 (by omega)) (by omega)
 clear q1
 generalize nearZ (qv s t) sc = z at *
 have lz : (mg 1000000000 z.natAbs).length ≤ 3 := jau (by omega) (by omega)
 have x1 := jhb z (by omega)
 have i1 := int_c z hz.1 hz.2
 clear lz lsc
 unfold rtD at *
 refine jaa tbOk 6 ⟨Tryz.func68, rfl, rfl, jhO rfl⟩ ?_
 (conv => whnf)
 refine V.st ?_
 repeat ((try ((with_reducible refine .ext ?_); (conv => whnf))); (with_reducible refine jab (r := ?_) ?_ ?_); rotate_left; (focus (first | exact (r1))); (conv => whnf); refine V.st ?_)
 refine Cnd.split (CondB.mk (fun g1 => ?_) (fun g1 => ?_))
 ·simp at g1
  omega
 ·(conv => whnf)
  refine V.st ?_
  refine ⟨(.take 0 (.take 1 (.take 2 (.ev (.cons 3 [0] (.ev (.cons 4 [] (.ev (.cons 5 [] (.ev (.cons 6 [] (.take 7 (.take 8 (.take 9 (.take 10 (.take 11 (.done)))))) (.nil))) (.nil))) (.nil))) (.nil)))))), [], ⟨by kernel_rfl, by kernel_rfl, by kernel_rfl, by kernel_rfl⟩, .go (jae ?_)⟩
  (conv => whnf)
  refine V.st ?_
  repeat ((try ((with_reducible refine .ext ?_); (conv => whnf))); (with_reducible refine jab (r := ?_) ?_ ?_); rotate_left; (focus (first | exact (f1) | exact (n1) | exact (x1) | exact (i1))); (conv => whnf); refine V.st ?_)
  exact Fin.of rfl
theorem okP_dec_o {q : Rat} (h : okF q = true) : okP (decZ q.num) (dec q.den) = true ∧ qv (decZ q.num) (dec q.den) = q := by
 unfold okF at h
 simp only [jhN, decide_eq_true_eq] at h
 have hdz : dec q.den = decZ (q.den : Int) := by unfold decZ; rw [if_neg (by omega), jh8]
 have w1 : wval (decZ q.num) = q.num := jbb _
 have w2 : wval (dec q.den) = (q.den : Int) := by rw [hdz]; exact jbb _
 have o1 := jbx q.num h.1
 have o2 : okW (dec q.den) = true := by rw [hdz]; exact jbx _ (by rw [jh8]; exact h.2)
 have hp := q.den_pos
 constructor
 ·unfold okP
  rw [o1, o2, w1, w2]
  simp only [jhN, decide_eq_true_eq, Bool.true_and, jh8]
  exact ⟨by omega, q.reduced⟩
 ·unfold qv
  rw [w1, w2]
  exact jii q
theorem okF_small {q : Rat} (h1 : q.num.natAbs < 10 ^ 20) (h2 : q.den < 10 ^ 20) : okF q = true := by
 unfold okF
 simp only [jhN, decide_eq_true_eq]
 exact ⟨jh1 (jaS 20 _ (by omega) h1).1 (by omega), jh1 (jaS 20 _ (by omega) h2).1 (by omega)⟩
theorem jeI (n : Int) (d : Nat) (hd : 0 < d) : (Rat.divInt n d).num.natAbs ≤ n.natAbs ∧ (Rat.divInt n d).den ≤ d := by
 obtain ⟨h1, _, h3⟩ := jcx n d hd
 rw [h1, h3]
 exact ⟨jia _ _, jia _ _⟩
theorem okF_unit (n : Int) (h : -9223372036854775808 ≤ n ∧ n ≤ 9223372036854775807) : okF (Rat.divInt n 1000000000000) = true := by
 have := jeI n 1000000000000 (by omega)
 have e : Rat.divInt n 1000000000000 = Rat.divInt n ((1000000000000 : Nat) : Int) := rfl
 rw [e]
 refine okF_small ?_ ?_
 ·exact Nat.lt_of_le_of_lt this.1 (by omega)
 ·exact Nat.lt_of_le_of_lt this.2 (by omega)
def unit (n : Int) : Rat := Rat.divInt n 1000000000000
theorem of_unit (n : Int) (h : -9223372036854775808 ≤ n ∧ n ≤ 9223372036854775807) : Called Tryz.prog 97 [.int .i64 n, .int .i64 1000000000000] (.tup [.agg [.str (decZ (unit n).num), .str (dec (unit n).den)], .int .i64 0]) := by
 have h1 := of_c n 1000000000000 (by simp only [InR, V.lo, V.hi]; omega) (by constructor <;> decide) (by decide)
 have h2 := okF_unit n h
 unfold frR at h1
 rw [h2] at h1
 exact h1
def jcV (x : Rat) : Int × Int × Int := if vb (nearZ x 1000000000000) (nearZ x 1000000000000) = true then mk (nearZ x 1000000000000 + min (ordQ x (unit (nearZ x 1000000000000))) 0) (nearZ x 1000000000000 + max (ordQ x (unit (nearZ x 1000000000000))) 0) else (0, 0, 6)
theorem ordQ_r (x y : Rat) : -1 ≤ ordQ x y ∧ ordQ x y ≤ 1 := by
 unfold ordQ; split
 ·omega
 ·split <;> omega
theorem around_b (s t : List UInt8) (h : okP s t = true) (hz : -9223372036854775808 ≤ nearZ (qv s t) 1000000000000 ∧ nearZ (qv s t) 1000000000000 ≤ 9223372036854775807) :
  Called Tryz.prog 102 [.agg [.str s, .str t]] (bD (jcV (qv s t))) := by
 have n1 := near_f s t 1000000000000 h (by omega) (by omega) hz
 unfold jcV
 generalize nearZ (qv s t) 1000000000000 = n at *
 have o1 := of_unit n hz
 obtain ⟨p1, p2⟩ := okP_dec_o (okF_unit n hz)
 have c1 := fcmp_ok s t (decZ (unit n).num) (dec (unit n).den) h p1
 rw [show qv (decZ (unit n).num) (dec (unit n).den) = unit n from p2] at c1
 have hr := ordQ_r (qv s t) (unit n)
 generalize ordQ (qv s t) (unit n) = o at *
 generalize decZ (unit n).num = u at *
 generalize dec (unit n).den = v at *
 clear p1 p2 h
 have v1 := jcl n n
 have m1 := made_b (n + min o 0) (n + max o 0)
 by_cases hv : vb n n = true
 ·rw [if_pos hv]
  rw [hv] at v1
  have hb := jbt.1 hv
  generalize mk (n + min o 0) (n + max o 0) = r at *
  refine jaa tbOk 6 ⟨Tryz.func102, rfl, rfl, jhO rfl⟩ ?_
  (conv => whnf)
  refine V.st ?_
  repeat ((try ((with_reducible refine .ext ?_); (conv => whnf))); (with_reducible refine jab (r := ?_) ?_ ?_); rotate_left; (focus (first | exact (n1) | exact (o1) | exact (c1) | exact (v1) | exact (m1))); (conv => whnf); refine V.st ?_)
  exact Fin.of rfl
 ·rw [if_neg hv]
  rw [Bool.eq_false_iff.2 hv] at v1
  refine jaa tbOk 6 ⟨Tryz.func102, rfl, rfl, jhO rfl⟩ ?_
  (conv => whnf)
  refine V.st ?_
  repeat ((try ((with_reducible refine .ext ?_); (conv => whnf))); (with_reducible refine jab (r := ?_) ?_ ?_); rotate_left; (focus (first | exact (n1) | exact (o1) | exact (c1) | exact (v1))); (conv => whnf); refine V.st ?_)
  exact Fin.of rfl
def lw (a b c d : Int) : Nat → List Int
 | 0 => [0, 0, 0, 0]
 | 1 => [a, 0, 0, 0]
 | 2 => [a, b, 0, 0]
 | 3 => [a, b, c, 0]
 | _ => [a, b, c, d]
end Go.Proofs.YtgjgpdceghjajaaGreatDoor
end
section
namespace Go.Nb
structure Tr (B top v2 head u2 : Int) : Prop where
 hB : 2 ≤ B
 t1 : 1 ≤ top
 tB : top < B
 v0 : 0 ≤ v2
 vB : v2 < B
 u0 : 0 ≤ u2
 uB : u2 < B
 h0 : 0 ≤ head
 lt : head * B + u2 < B * (top * B + v2)
section
variable {B top v2 head u2 : Int}
theorem Tr.kn (T : Tr B top v2 head u2) : Kn B top v2 0 u2 0 head (head * B + u2) (top * B + v2) 1 :=
 { hB := T.hB, hP := by omega, ht := T.t1, hv := by omega, hu := by omega, v20 := T.v0, v2B := T.vB, u20 := T.u0, u2B := T.uB, vr0 := by omega, vrP := by omega, ur0 := by omega, urP := by omega, hh := T.h0, htB := T.tB, lt := T.lt }
theorem Tr.vpos (T : Tr B top v2 head u2) : 0 < top * B + v2 := T.kn.vpos
theorem Tr.qnn (T : Tr B top v2 head u2) : 0 ≤ (head * B + u2) / (top * B + v2) := by
 have h1 : 0 ≤ head * B := jhR T.h0 (by have := T.hB; omega)
 exact Int.ediv_nonneg (by have := T.u0; omega) (by have := T.vpos; omega)
theorem Tr.qmul (T : Tr B top v2 head u2) : (head * B + u2) / (top * B + v2) * (top * B + v2) ≤ head * B + u2 := Int.ediv_mul_le _ (by have := T.vpos; omega)
theorem Tr.init (T : Tr B top v2 head u2) : (head * B + u2) / (top * B + v2) ≤ head / top := T.kn.init T.qnn T.qmul
theorem Tr.step (T : Tr B top v2 head u2) {q r : Int} (hq : (head * B + u2) / (top * B + v2) ≤ q) (hr : head = q * top + r) (hc : B ≤ q ∨ r * B + u2 < q * v2) :
  (head * B + u2) / (top * B + v2) ≤ q - 1 ∧ head = (q - 1) * top + (r + top) :=
 ⟨T.kn.step T.qnn T.qmul hq hr hc, by rw [Int.sub_mul, jif]; omega⟩
theorem Tr.lt' (T : Tr B top v2 head u2) : (head * B + u2) / (top * B + v2) < B := T.kn.qlt T.qmul
end
structure Tq (B top v2 head u2 Q : Int) : Prop where
 T : Tr B top v2 head u2
 e : (head * B + u2) / (top * B + v2) = Q
section
variable {B top v2 head u2 Q : Int}
theorem Tq.init (T : Tq B top v2 head u2 Q) : Q ≤ head / top := by rw [← T.e]; exact T.T.init
theorem Tq.step (T : Tq B top v2 head u2 Q) {q r : Int} (hq : Q ≤ q) (hr : head = q * top + r) (hc : B ≤ q ∨ r * B + u2 < q * v2) : Q ≤ q - 1 ∧ head = (q - 1) * top + (r + top) := by
 rw [← T.e] at hq ⊢; exact T.T.step hq hr hc
theorem Tq.lt (T : Tq B top v2 head u2 Q) : Q < B := by rw [← T.e]; exact T.T.lt'
end
end Go.Nb
end
section
namespace Go.Proofs.YtgjgpdceghjajaaGreatDoor
open Go Go.V Go.Nb
theorem clamp_b (p q lo hi : Int) : Called Tryz.prog 57 [bA p q, .int .i64 lo, .int .i64 hi] (bD (if vb p q = true then (if vb lo hi = true then mk (min (max p lo) hi) (min (max q lo) hi) else (0, 0, 2)) else (0, 0, 30))) := by
 by_cases hv : vb p q = true
 ·rw [if_pos hv]
  have hc : Called Tryz.prog 94 [.ref [.int .i64 lo], .ref [.int .i64 hi], .ref [.int .i64 p, .int .i64 q]] (bD (if vb lo hi = true then mk (min (max p lo) hi) (min (max q lo) hi) else (0, 0, 2))) := by
   have hvl := jcl lo hi
   have hm := made_b (min (max p lo) hi) (min (max q lo) hi)
   generalize vb lo hi = v at *
   generalize mk (min (max p lo) hi) (min (max q lo) hi) = r at *
   refine jaa tbOk 6 ⟨Tryz.func94, rfl, rfl, jhO rfl⟩ ?_
   (conv => whnf)
   refine V.st ?_
   repeat ((try ((with_reducible refine .ext ?_); (conv => whnf))); (with_reducible refine jab (r := ?_) ?_ ?_); rotate_left; (focus (first | exact (hvl))); (conv => whnf); refine V.st ?_)
   refine Cnd.split (CondB.mk (fun hq => ?_) (fun hq => ?_))
   ·simp at hq
    subst hq
    (conv => whnf)
    refine V.st ?_
    exact Fin.of rfl
   ·simp at hq
    subst hq
    (conv => whnf)
    refine V.st ?_
    repeat ((try ((with_reducible refine .ext ?_); (conv => whnf))); (with_reducible refine jab (r := ?_) ?_ ?_); rotate_left; (focus (first | exact (hm))); (conv => whnf); refine V.st ?_)
    exact Fin.of rfl
  generalize (if vb lo hi = true then mk (min (max p lo) hi) (min (max q lo) hi) else (0, 0, 2)) = r at *
  have hk := ckb3_ok 94 p q lo hi r.1 r.2.1 r.2.2 1 (l1 p q) (fun _ => p) (fun _ => q) (l1_c p q) (by omega) (fun _ _ => hv) hc
  refine jaa tbOk 6 ⟨Tryz.func57, rfl, rfl, jhO rfl⟩ ?_
  (conv => whnf)
  refine V.st ?_
  repeat ((try ((with_reducible refine .ext ?_); (conv => whnf))); (with_reducible refine jab (r := ?_) ?_ ?_); rotate_left; (focus (first | exact (hk))); (conv => whnf); refine V.st ?_)
  exact Fin.of rfl
 ·rw [if_neg hv]
  have hk := ckb3_no 94 p q lo hi 0 0 0 1 (l1 p q) (fun _ => p) (fun _ => q) (l1_c p q) (by omega) (one_no hv)
  refine jaa tbOk 6 ⟨Tryz.func57, rfl, rfl, jhO rfl⟩ ?_
  (conv => whnf)
  refine V.st ?_
  repeat ((try ((with_reducible refine .ext ?_); (conv => whnf))); (with_reducible refine jab (r := ?_) ?_ ?_); rotate_left; (focus (first | exact (hk))); (conv => whnf); refine V.st ?_)
  exact Fin.of rfl
theorem hull_b (p q p2 q2 : Int) : Called Tryz.prog 103 [bA p q, bA p2 q2] (bD (if vb p q = true ∧ vb p2 q2 = true then (if p = p2 ∧ q = q2 then (p, q, 0) else if max q q2 < min p p2 then (0, 0, 4) else (min p p2, max q q2, 0)) else (0, 0, 30))) := by
 have ch : Called Tryz.prog 139 [.int .i64 2, bA p q, bA p2 q2] (bD (if vb p q = true ∧ vb p2 q2 = true then (if p = p2 ∧ q = q2 then (p, q, 0) else if max q q2 < min p p2 then (0, 0, 4) else (min p p2, max q q2, 0)) else (0, 0, 30))) := by
  by_cases hv : vb p q = true ∧ vb p2 q2 = true
  ·rw [if_pos hv]
   have hc : Called Tryz.prog 171 [.ref [.int .i64 p, .int .i64 q], .ref [.int .i64 p2, .int .i64 q2], .ref [.int .i64 2]] (bD (if p = p2 ∧ q = q2 then (p, q, 0) else if max q q2 < min p p2 then (0, 0, 4) else (min p p2, max q q2, 0))) := by
    have k1 := least_c p [p2] (by simp)
    have k2 := greatest_c q [q2] (by simp)
    rw [show [p2].foldl min p = min p p2 from rfl] at k1
    rw [show [q2].foldl max q = max q q2 from rfl] at k2
    generalize min p p2 = lo at *
    generalize max q q2 = hi at *
    refine jaa tbOk 6 ⟨Tryz.func171, rfl, rfl, jhO rfl⟩ ?_
    (conv => whnf)
    refine V.st ?_
    refine Cnd.split (CondB.mk (fun h1 => ?_) (fun h1 => ?_))
    ·simp only [Bool.and_true, jhN, decide_eq_true_eq] at h1
     rw [if_pos h1]
     (conv => whnf)
     refine V.st ?_
     exact Fin.of rfl
    ·rw [if_neg (fun h => by simp only [Bool.and_true, Bool.and_eq_false_iff, decide_eq_false_iff_not] at h1; omega)]
     (conv => whnf)
     refine V.st ?_
     refine ⟨(.take 0 (.take 1 (.take 2 (.take 3 (.take 4 (.take 5 (.take 8 (.take 9 (.take 10 (.take 11 (.take 12 (.take 13 (.ev (.cons 6 [13, 12, 11, 10, 9, 8, 1, 0] (.ev (.cons 7 [13, 12, 11, 10, 9, 8] (.ev (.cons 14 [9, 8] (.ev (.cons 15 [] (.take 16 (.take 17 (.done))) (.nil))) (.nil))) (.cons 14 [9, 8, 1, 0] (.ev (.cons 7 [9, 8] (.ev (.cons 15 [] (.take 16 (.take 17 (.done))) (.nil))) (.nil))) (.nil)))) (.cons 14 [9, 8, 5, 4, 3, 2, 1, 0] (.ev (.cons 6 [9, 8, 1, 0] (.ev (.cons 7 [9, 8] (.ev (.cons 15 [] (.take 16 (.take 17 (.done))) (.nil))) (.nil))) (.nil))) (.nil)))))))))))))))), [], ⟨by kernel_rfl, by kernel_rfl, by kernel_rfl, by kernel_rfl⟩, ?_⟩
     refine jac [(7, .int .i64 lo), (8, .int .i64 hi)] [] ?_ ?_
     ·exact V.d2 @jhS k1 k2
     (conv => whnf)
     refine V.st ?_
     refine Cnd.split (CondB.mk (fun h2 => ?_) (fun h2 => ?_))
     ·rw [decide_eq_true_eq] at h2
      rw [if_pos h2]
      (conv => whnf)
      refine V.st ?_
      exact Fin.of rfl
     ·rw [decide_eq_false_iff_not] at h2
      rw [if_neg h2]
      (conv => whnf)
      refine V.st ?_
      exact Fin.of rfl
   generalize (if p = p2 ∧ q = q2 then (p, q, (0 : Int)) else if max q q2 < min p p2 then (0, 0, 4) else (min p p2, max q q2, 0)) = r at *
   have hk := ckb4_ok 171 p q p2 q2 2 r.1 r.2.1 r.2.2 2 (l2 p q p2 q2) (sel_o p p2) (sel_o q q2) (l2_c p q p2 q2) (by omega) (sel_ok hv.1 hv.2) hc
   refine jaa tbOk 6 ⟨Tryz.func139, rfl, rfl, jhO rfl⟩ ?_
   (conv => whnf)
   refine V.st ?_
   repeat ((try ((with_reducible refine .ext ?_); (conv => whnf))); (with_reducible refine jab (r := ?_) ?_ ?_); rotate_left; (focus (first | exact (hk))); (conv => whnf); refine V.st ?_)
   exact Fin.of rfl
  ·rw [if_neg hv]
   have hk := ckb4_no 171 p q p2 q2 2 0 0 0 2 (l2 p q p2 q2) (sel_o p p2) (sel_o q q2) (l2_c p q p2 q2) (by omega) (sel_no hv)
   refine jaa tbOk 6 ⟨Tryz.func139, rfl, rfl, jhO rfl⟩ ?_
   (conv => whnf)
   refine V.st ?_
   repeat ((try ((with_reducible refine .ext ?_); (conv => whnf))); (with_reducible refine jab (r := ?_) ?_ ?_); rotate_left; (focus (first | exact (hk))); (conv => whnf); refine V.st ?_)
   exact Fin.of rfl
 generalize (if vb p q = true ∧ vb p2 q2 = true then (if p = p2 ∧ q = q2 then (p, q, (0 : Int)) else if max q q2 < min p p2 then (0, 0, 4) else (min p p2, max q q2, 0)) else (0, 0, 30)) = r at *
 refine jaa tbOk 6 ⟨Tryz.func103, rfl, rfl, jhO rfl⟩ ?_
 (conv => whnf)
 refine V.st ?_
 repeat ((try ((with_reducible refine .ext ?_); (conv => whnf))); (with_reducible refine jab (r := ?_) ?_ ?_); rotate_left; (focus (first | exact (ch))); (conv => whnf); refine V.st ?_)
 exact Fin.of rfl
theorem mk_ok {p q : Int} (h : -1000000000000000000 ≤ p ∧ p ≤ q ∧ q ≤ 1000000000000000000) : mk p q = (p, q, 0) := by
 unfold mk; rw [if_pos (jbt.2 h)]
end Go.Proofs.YtgjgpdceghjajaaGreatDoor
end
section
namespace Go.Proofs.YtgjgpdceghjajaaGreatDoor
open Go Go.V Go.Nb Go.RowKit
def u16L : List Lf := [.int .u16]
theorem u16_den {w : World} {v : Value} (h : leavesOk w u16L [v]) : ∃ n, Den Env.dummy (pubOf w) (.int .u16 n) v ∧ (0 ≤ n ∧ n ≤ 65535) := by
 obtain ⟨v0, r0, e0, ⟨n, h0, h0'⟩, e1⟩ := h
 subst e1
 simp only [List.cons.injEq, and_true] at e0
 subst e0 h0
 exact ⟨n, ⟨rfl, h0'⟩, by simpa [InR, V.lo, V.hi] using h0'⟩
theorem okWide_arr {P : Program} {w : World} {r : Reach} {base : Nat} {t n e : Nat} {v : Value} (ht : P.underlying t = some (.array n e)) (h : Value.okWide P w r base t v) : ∃ cs, v = .agg cs ∧ cs.size = P.cellsOf t := by
 simp only [Value.okWide, ht] at h
 obtain ⟨cs, h1, h2, _⟩ := h
 exact ⟨cs, h1, h2⟩
theorem okWide_one {P : Program} {w : World} {r : Reach} {base : Nat} {t : TypeId} {v : Value} (ht : (match P.underlying t with | some (.struct _) => false | some (.array _ _) => false | _ => true) = true) (h : Value.okWide P w r base t v) : v.cells.toList = [v] := by
  unfold Value.okWide at h
  split at h
  · rename_i e
    rw [e] at ht
    cases ht
  · rename_i e
    rw [e] at ht
    cases ht
  · cases v <;> first | rfl | skip
    exfalso
    unfold Cell.okWide at h
    split at h
    all_goals first
      | (rename_i h1; simp at h1; done)
      | skip
    unfold Cell.ok at h
    split at h <;> simp_all
theorem glW_of_tab {w : World} (h : Lib.TabIs Tryz.prog w "internal/strconv.uint64pow10" .u64 Lib.pow10Tab) {tp : TypeId} {p : Value} (h2 : w.var? Tryz.prog "strconv.ErrRange" = some #[.iface tp p]) : GlW w := by
 refine ⟨?_, ?_⟩
 rotate_left
 ·intro g hg
  simp only [glbE, List.mem_cons, List.not_mem_nil, or_false] at hg
  subst hg
  unfold World.var? at h2
  have hn : Tryz.prog.globalNamed "strconv.ErrRange" = some 1 := by kernel_rfl
  rw [hn] at h2
  simp only [Option.bind_some] at h2
  split at h2
  ·rename_i cs T f he
   cases h2
   exact ⟨tp, p, T, f, he⟩
  ·cases h2
 intro g vs hg
 simp only [glb, List.mem_cons, List.not_mem_nil, or_false, Prod.mk.injEq] at hg
 obtain ⟨rfl, rfl⟩ := hg
 refine ⟨by simp, ?_⟩
 unfold Lib.TabIs World.var? at h
 have hg : Tryz.prog.globalNamed "internal/strconv.uint64pow10" = some 2 := by kernel_rfl
 rw [hg] at h
 simp only [Option.bind_some] at h
 split at h
 ·rename_i cs T f he
  cases h
  exact ⟨T, f, he⟩
 ·cases h
theorem jeu {w : World} {k : IntKind} : ∀ {n : Nat} {vs : List Value}, leavesOk w (List.replicate n (Lf.int k)) vs → ∃ xs : List Int, xs.length = n ∧ vs = xs.map (Value.int k) ∧ ∀ x ∈ xs, InR k x
 | 0, vs, h => ⟨[], rfl, h, fun x hx => by cases hx⟩
 | n + 1, vs, h => by
  rw [List.replicate_succ] at h
  obtain ⟨v, r, rfl, ⟨x, rfl, hx⟩, h2⟩ := h
  obtain ⟨xs, h3, h4, h5⟩ := jeu h2
  subst h4
  refine ⟨x :: xs, by simp [h3], rfl, fun y hy => ?_⟩
  rcases List.mem_cons.1 hy with e | e
  ·rw [e]; exact hx
  ·exact h5 y e
theorem iarr_den {w : World} {k : IntKind} {n : Nat} {cs : Array Value} (h : leavesOk w (List.replicate n (Lf.int k)) cs.toList) : ∃ xs : List Int, xs.length = n ∧ Den Env.dummy (pubOf w) (.iarr k xs) (.agg cs) ∧ ∀ x ∈ xs, InR k x := by
 obtain ⟨xs, h1, h2, h3⟩ := jeu h
 refine ⟨xs, h1, ?_, h3⟩
 simp only [Den]
 refine ⟨?_, h3⟩
 congr 1
 apply Array.toList_inj.1
 simpa using h2
def colorL : List Lf := [.int .i16, .int .i16, .int .i16, .int .i16, .bool, .ints .u16, .int .u16, .bool, .ints .u16, .int .u16, .bool, .ints .u16, .int .u16, .bool, .ints .u16, .int .u16, .bool, .ints .u16, .int .u16, .bool, .ints .u16, .int .u16, .bool, .ints .u16, .int .u16, .bool, .ints .u16, .int .u16]
theorem color_den {w : World} {cs : Array Value} (h : leavesOk w colorL cs.toList) : ∃ a0 a1 a2 a3 b0 p0 z0 c0 q0 y0 b1 p1 z1 c1 q1 y1 b2 p2 z2 c2 q2 y2 b3 p3 z3 c3 q3 y3, Den Env.dummy (pubOf w) (.agg [.int .i16 a0, .int .i16 a1, .int .i16 a2, .int .i16 a3, .bool b0, .ints .u16 p0, .int .u16 z0, .bool c0, .ints .u16 q0, .int .u16 y0, .bool b1, .ints .u16 p1, .int .u16 z1, .bool c1, .ints .u16 q1, .int .u16 y1, .bool b2, .ints .u16 p2, .int .u16 z2, .bool c2, .ints .u16 q2, .int .u16 y2, .bool b3, .ints .u16 p3, .int .u16 z3, .bool c3, .ints .u16 q3, .int .u16 y3]) (.agg cs) ∧
  (-32768 ≤ a0 ∧ a0 ≤ 32767) ∧ (-32768 ≤ a1 ∧ a1 ≤ 32767) ∧ (-32768 ≤ a2 ∧ a2 ≤ 32767) ∧ (-32768 ≤ a3 ∧ a3 ≤ 32767) ∧ (0 ≤ z0 ∧ z0 ≤ 65535) ∧ (0 ≤ y0 ∧ y0 ≤ 65535) ∧ (0 ≤ z1 ∧ z1 ≤ 65535) ∧ (0 ≤ y1 ∧ y1 ≤ 65535) ∧ (0 ≤ z2 ∧ z2 ≤ 65535) ∧ (0 ≤ y2 ∧ y2 ≤ 65535) ∧ (0 ≤ z3 ∧ z3 ≤ 65535) ∧ (0 ≤ y3 ∧ y3 ≤ 65535) := by
 obtain ⟨v0, r0, e0, ⟨a0, h0, g0⟩, v1, r1, e1, ⟨a1, h1, g1⟩, v2, r2, e2, ⟨a2, h2, g2⟩, v3, r3, e3, ⟨a3, h3, g3⟩, v4, r4, e4, ⟨b0, h4⟩, v5, r5, e5, ⟨p0, h5⟩, v6, r6, e6, ⟨z0, h6, g6⟩, v7, r7, e7, ⟨c0, h7⟩, v8, r8, e8, ⟨q0, h8⟩, v9, r9, e9, ⟨y0, h9, g9⟩, v10, r10, e10, ⟨b1, h10⟩, v11, r11, e11, ⟨p1, h11⟩, v12, r12, e12, ⟨z1, h12, g12⟩, v13, r13, e13, ⟨c1, h13⟩, v14, r14, e14, ⟨q1, h14⟩, v15, r15, e15, ⟨y1, h15, g15⟩, v16, r16, e16, ⟨b2, h16⟩, v17, r17, e17, ⟨p2, h17⟩, v18, r18, e18, ⟨z2, h18, g18⟩, v19, r19, e19, ⟨c2, h19⟩, v20, r20, e20, ⟨q2, h20⟩, v21, r21, e21, ⟨y2, h21, g21⟩, v22, r22, e22, ⟨b3, h22⟩, v23, r23, e23, ⟨p3, h23⟩, v24, r24, e24, ⟨z3, h24, g24⟩, v25, r25, e25, ⟨c3, h25⟩, v26, r26, e26, ⟨q3, h26⟩, v27, r27, e27, ⟨y3, h27, g27⟩, e28⟩ := h
 subst e28 e27 e26 e25 e24 e23 e22 e21 e20 e19 e18 e17 e16 e15 e14 e13 e12 e11 e10 e9 e8 e7 e6 e5 e4 e3 e2 e1
 obtain rfl : cs = #[v0, v1, v2, v3, v4, v5, v6, v7, v8, v9, v10, v11, v12, v13, v14, v15, v16, v17, v18, v19, v20, v21, v22, v23, v24, v25, v26, v27] := by cases cs; simp_all
 subst h0 h1 h2 h3 h4 h6 h7 h9 h10 h12 h13 h15 h16 h18 h19 h21 h22 h24 h25 h27
 have i5 := h5
 have i8 := h8
 have i11 := h11
 have i14 := h14
 have i17 := h17
 have i20 := h20
 have i23 := h23
 have i26 := h26
 obtain ⟨_, _, x5, _⟩ := i5
 obtain ⟨_, _, x8, _⟩ := i8
 obtain ⟨_, _, x11, _⟩ := i11
 obtain ⟨_, _, x14, _⟩ := i14
 obtain ⟨_, _, x17, _⟩ := i17
 obtain ⟨_, _, x20, _⟩ := i20
 obtain ⟨_, _, x23, _⟩ := i23
 obtain ⟨_, _, x26, _⟩ := i26
 refine ⟨a0, a1, a2, a3, b0, p0, z0, c0, q0, y0, b1, p1, z1, c1, q1, y1, b2, p2, z2, c2, q2, y2, b3, p3, z3, c3, q3, y3, ⟨[.int .i16 a0, .int .i16 a1, .int .i16 a2, .int .i16 a3, .bool b0, v5, .int .u16 z0, .bool c0, v8, .int .u16 y0, .bool b1, v11, .int .u16 z1, .bool c1, v14, .int .u16 y1, .bool b2, v17, .int .u16 z2, .bool c2, v20, .int .u16 y2, .bool b3, v23, .int .u16 z3, .bool c3, v26, .int .u16 y3], rfl, ⟨_, _, rfl, ⟨rfl, g0⟩, _, _, rfl, ⟨rfl, g1⟩, _, _, rfl, ⟨rfl, g2⟩, _, _, rfl, ⟨rfl, g3⟩, _, _, rfl, rfl, v5, _, rfl, h5, _, _, rfl, ⟨rfl, g6⟩, _, _, rfl, rfl, v8, _, rfl, h8, _, _, rfl, ⟨rfl, g9⟩, _, _, rfl, rfl, v11, _, rfl, h11, _, _, rfl, ⟨rfl, g12⟩, _, _, rfl, rfl, v14, _, rfl, h14, _, _, rfl, ⟨rfl, g15⟩, _, _, rfl, rfl, v17, _, rfl, h17, _, _, rfl, ⟨rfl, g18⟩, _, _, rfl, rfl, v20, _, rfl, h20, _, _, rfl, ⟨rfl, g21⟩, _, _, rfl, rfl, v23, _, rfl, h23, _, _, rfl, ⟨rfl, g24⟩, _, _, rfl, rfl, v26, _, rfl, h26, _, _, rfl, ⟨rfl, g27⟩, rfl⟩, ?_⟩, by simpa [InR, V.lo, V.hi] using g0, by simpa [InR, V.lo, V.hi] using g1, by simpa [InR, V.lo, V.hi] using g2, by simpa [InR, V.lo, V.hi] using g3, by simpa [InR, V.lo, V.hi] using g6, by simpa [InR, V.lo, V.hi] using g9, by simpa [InR, V.lo, V.hi] using g12, by simpa [InR, V.lo, V.hi] using g15, by simpa [InR, V.lo, V.hi] using g18, by simpa [InR, V.lo, V.hi] using g21, by simpa [InR, V.lo, V.hi] using g24, by simpa [InR, V.lo, V.hi] using g27⟩
 subst x5 x8 x11 x14 x17 x20 x23 x26
 intro v hv
 simp only [List.mem_cons, List.not_mem_nil, or_false] at hv
 rcases hv with rfl | rfl | rfl | rfl | rfl | rfl | rfl | rfl | rfl | rfl | rfl | rfl | rfl | rfl | rfl | rfl | rfl | rfl | rfl | rfl | rfl | rfl | rfl | rfl | rfl | rfl | rfl | rfl <;> rfl
def u8x3L : List Lf := List.replicate 3 (Lf.int .u8)
def s4 {α : Type} (a b c d : α) : Nat → α
 | 0 => a
 | 1 => b
 | 2 => c
 | _ => d
theorem s4_all {α : Type} {p : α → Prop} {a b c d : α} (ha : p a) (hb : p b) (hc : p c) (hd : p d) : ∀ i, p (s4 a b c d i)
 | 0 => ha
 | 1 => hb
 | 2 => hc
 | _ + 3 => hd
theorem color_fn {w : World} {cs : Array Value} (h : leavesOk w colorL cs.toList) : ∃ (at' z1 z2 : Nat → Int) (b1 b2 : Nat → Bool) (p1 p2 : Nat → List Int), Den Env.dummy (pubOf w) (.agg [.int .i16 (at' 0), .int .i16 (at' 1), .int .i16 (at' 2), .int .i16 (at' 3), .bool (b1 0), .ints .u16 (p1 0), .int .u16 (z1 0), .bool (b2 0), .ints .u16 (p2 0), .int .u16 (z2 0), .bool (b1 1), .ints .u16 (p1 1), .int .u16 (z1 1), .bool (b2 1), .ints .u16 (p2 1), .int .u16 (z2 1), .bool (b1 2), .ints .u16 (p1 2), .int .u16 (z1 2), .bool (b2 2), .ints .u16 (p2 2), .int .u16 (z2 2), .bool (b1 3), .ints .u16 (p1 3), .int .u16 (z1 3), .bool (b2 3), .ints .u16 (p2 3), .int .u16 (z2 3)]) (.agg cs) ∧
  (∀ i, -32768 ≤ at' i ∧ at' i ≤ 32767) ∧ (∀ i, 0 ≤ z1 i ∧ z1 i ≤ 65535) ∧ (∀ i, 0 ≤ z2 i ∧ z2 i ≤ 65535) := by
 obtain ⟨a0, a1, a2, a3, b0, p0, z0, c0, q0, y0, b1, p1, z1, c1, q1, y1, b2, p2, z2, c2, q2, y2, b3, p3, z3, c3, q3, y3, dn, k0, k1, k2, k3, m0, n0, m1, n1, m2, n2, m3, n3⟩ := color_den h
 exact ⟨s4 a0 a1 a2 a3, s4 z0 z1 z2 z3, s4 y0 y1 y2 y3, s4 b0 b1 b2 b3, s4 c0 c1 c2 c3, s4 p0 p1 p2 p3, s4 q0 q1 q2 q3, dn, s4_all (p := fun v => -32768 ≤ v ∧ v ≤ 32767) k0 k1 k2 k3, s4_all (p := fun v => 0 ≤ v ∧ v ≤ 65535) m0 m1 m2 m3, s4_all (p := fun v => 0 ≤ v ∧ v ≤ 65535) n0 n1 n2 n3⟩
end Go.Proofs.YtgjgpdceghjajaaGreatDoor
end
section
namespace Go.Proofs.YtgjgpdceghjajaaGreatDoor
open Go Go.V Go.Nb
def Fq (n : Nat) (q : Rat) : Prop := q.num.natAbs < 10 ^ n ∧ q.den < 10 ^ n
theorem Fq.mono {m n : Nat} {q : Rat} (h : Fq m q) (hl : m ≤ n) : Fq n q :=
 ⟨jhZ h.1 (jh9 (by decide) hl), jhZ h.2 (jh9 (by decide) hl)⟩
theorem Fq.ok {n : Nat} {q : Rat} (h : Fq n q) (h0 : 0 < n) (h6 : n ≤ 600) : okF q = true := by
 unfold okF
 simp only [jhN, decide_eq_true_eq]
 exact ⟨jh1 (jaS n _ h0 h.1).1 h6, jh1 (jaS n _ h0 h.2).1 h6⟩
theorem je0 (n : Int) (d : Nat) (hd : 0 < d) : (Rat.divInt n d).num.natAbs ≤ n.natAbs ∧ (Rat.divInt n d).den ≤ d := by
 rw [Rat.num_divInt, Rat.den_divInt, if_neg (by omega), jih (by omega), jif]
 refine ⟨?_, ?_⟩
 ·rw [Int.natAbs_ediv_of_dvd (by exact Int.gcd_dvd_right ..)]
  exact jia _ _
 ·rw [jh8]
  exact jia _ _
theorem jaJ {n : Nat} {x : Int} {d : Nat} (hd : 0 < d) (h1 : x.natAbs < 10 ^ n) (h2 : d < 10 ^ n) : Fq n (Rat.divInt x d) :=
 ⟨Nat.lt_of_le_of_lt (je0 x d hd).1 h1, Nat.lt_of_le_of_lt (je0 x d hd).2 h2⟩
theorem jd5 {a b x y : Nat} (h1 : x < 10 ^ a) (h2 : y < 10 ^ b) : x * y < 10 ^ (a + b) := by
 rw [Nat.pow_add]
 rcases jhV y with e | e
 ·rw [e, Nat.mul_zero]
  exact Nat.mul_pos (Nat.pow_pos (by decide)) (Nat.pow_pos (by decide))
 ·exact jhZ (Nat.mul_lt_mul_of_pos_right h1 e) (Nat.mul_le_mul_left _ (Nat.le_of_lt h2))
theorem Fq.add {a b : Nat} {p q : Rat} (h : Fq a p) (g : Fq b q) : Fq (a + b + 1) (p + q) := by
 have hp := p.den_pos
 have hq := q.den_pos
 have e : p + q = Rat.divInt (p.num * q.den + q.num * p.den) ((p.den * q.den : Nat) : Int) := by
  conv => lhs; rw [← jii p, ← jii q]
  rw [Rat.divInt_add_divInt _ _ (by omega) (by omega), jh3]
 rw [e]
 have m1 := jd5 h.1 g.2
 have m2 := jd5 g.1 h.2
 have m3 := jd5 h.2 g.2
 rw [Nat.add_comm b a] at m2
 have e10 : 10 ^ (a + b + 1) = 10 * 10 ^ (a + b) := by rw [Nat.pow_succ, jhW]
 refine jaJ (Nat.mul_pos hp hq) ?_ ?_
 ·have t := Int.natAbs_add_le (p.num * q.den) (q.num * p.den)
  rw [Int.natAbs_mul, Int.natAbs_mul, jh8, jh8] at t
  omega
 ·omega
theorem Fq.neg {a : Nat} {p : Rat} (h : Fq a p) : Fq a (-p) := ⟨by rw [Rat.neg_num, Int.natAbs_neg]; exact h.1, by rw [Rat.neg_den]; exact h.2⟩
theorem Fq.sub {a b : Nat} {p q : Rat} (h : Fq a p) (g : Fq b q) : Fq (a + b + 1) (p - q) := by
 rw [Rat.sub_eq_add_neg]
 exact h.add g.neg
theorem Fq.mul {a b : Nat} {p q : Rat} (h : Fq a p) (g : Fq b q) : Fq (a + b) (p * q) := by
 have e : p * q = Rat.divInt (p.num * q.num) ((p.den * q.den : Nat) : Int) := by
  conv => lhs; rw [← jii p, ← jii q]
  rw [Rat.divInt_mul_divInt, jh3]
 rw [e]
 refine jaJ (Nat.mul_pos p.den_pos q.den_pos) ?_ (jd5 h.2 g.2)
 rw [Int.natAbs_mul]
 exact jd5 h.1 g.1
theorem Fq.inv {a : Nat} {p : Rat} (h : Fq a p) (h0 : p.num ≠ 0) : Fq a p⁻¹ := by
 rw [Rat.inv_def]
 rcases Int.lt_or_gt_of_ne h0 with hn | hn
 ·have e : Rat.divInt (p.den : Int) p.num = Rat.divInt (-(p.den : Int)) ((p.num.natAbs : Nat) : Int) := by
   rw [Rat.divInt_eq_divInt_iff h0 (by omega)]
   have : ((p.num.natAbs : Nat) : Int) = -p.num := by omega
   rw [this]
   grind
  rw [e]
  exact jaJ (by omega) (by rw [Int.natAbs_neg, jh8]; exact h.2) h.1
 ·have e : p.num = ((p.num.natAbs : Nat) : Int) := by omega
  rw [e]
  exact jaJ (by omega) (by rw [jh8]; exact h.2) h.1
theorem Fq.div {a b : Nat} {p q : Rat} (h : Fq a p) (g : Fq b q) (h0 : q.num ≠ 0) : Fq (a + b) (p / q) := by
 rw [Rat.div_def]
 exact h.mul (g.inv h0)
theorem fadd_ok (s t u v : List UInt8) (h : okP s t = true) (g : okP u v = true) (hn : (mg 1000000000 (qv s t + qv u v).num.natAbs).length ≤ 90000000) (hd : (mg 1000000000 (qv s t + qv u v).den).length ≤ 90000000) : Called Tryz.prog 100 [.agg [.str s, .str t], .agg [.str u, .str v]] (frR (qv s t + qv u v)) := by
 have r1 := jbj s t h
 have r2 := jbj u v g
 have o := add_c (qv s t) (qv u v) (qsize h) (qsize g)
 have w := jdq (qv s t + qv u v) hn hd
 generalize qv s t + qv u v = q at *
 have ap : Called Tryz.prog 130 [.agg [.str s, .str t], .agg [.str u, .str v], .fn 138 [] []] (.tup [rtD q, .int .i64 0]) := by
  refine jaa tbOk 6 ⟨Tryz.func130, rfl, rfl, jhO rfl⟩ ?_
  (conv => whnf)
  refine V.st ?_
  repeat ((try ((with_reducible refine .ext ?_); (conv => whnf))); (with_reducible refine jab (r := ?_) ?_ ?_); rotate_left; (focus (first | exact (r1) | exact (r2) | exact (o))); (conv => whnf); refine V.st ?_)
  exact Fin.of rfl
 have rs : Called Tryz.prog 129 [rtD q, .int .i64 0] (frR q) := by
  refine jaa tbOk 6 ⟨Tryz.func129, rfl, rfl, jhO rfl⟩ ?_
  (conv => whnf)
  refine V.st ?_
  repeat ((try ((with_reducible refine .ext ?_); (conv => whnf))); (with_reducible refine jab (r := ?_) ?_ ?_); rotate_left; (focus (first | exact (w))); (conv => whnf); refine V.st ?_)
  exact Fin.of rfl
 refine jaa tbOk 6 ⟨Tryz.func100, rfl, rfl, jhO rfl⟩ ?_
 (conv => whnf)
 refine V.st ?_
 repeat ((try ((with_reducible refine .ext ?_); (conv => whnf))); (with_reducible refine jab (r := ?_) ?_ ?_); rotate_left; (focus (first | exact (ap) | exact (rs))); (conv => whnf); refine V.st ?_)
 exact Fin.of rfl
theorem fsub_ok (s t u v : List UInt8) (h : okP s t = true) (g : okP u v = true) (hn : (mg 1000000000 (qv s t - qv u v).num.natAbs).length ≤ 90000000) (hd : (mg 1000000000 (qv s t - qv u v).den).length ≤ 90000000) : Called Tryz.prog 99 [.agg [.str s, .str t], .agg [.str u, .str v]] (frR (qv s t - qv u v)) := by
 have r1 := jbj s t h
 have r2 := jbj u v g
 have o := sub_c (qv s t) (qv u v) (qsize h) (qsize g)
 have w := jdq (qv s t - qv u v) hn hd
 generalize qv s t - qv u v = q at *
 have ap : Called Tryz.prog 130 [.agg [.str s, .str t], .agg [.str u, .str v], .fn 137 [] []] (.tup [rtD q, .int .i64 0]) := by
  refine jaa tbOk 6 ⟨Tryz.func130, rfl, rfl, jhO rfl⟩ ?_
  (conv => whnf)
  refine V.st ?_
  repeat ((try ((with_reducible refine .ext ?_); (conv => whnf))); (with_reducible refine jab (r := ?_) ?_ ?_); rotate_left; (focus (first | exact (r1) | exact (r2) | exact (o))); (conv => whnf); refine V.st ?_)
  exact Fin.of rfl
 have rs : Called Tryz.prog 129 [rtD q, .int .i64 0] (frR q) := by
  refine jaa tbOk 6 ⟨Tryz.func129, rfl, rfl, jhO rfl⟩ ?_
  (conv => whnf)
  refine V.st ?_
  repeat ((try ((with_reducible refine .ext ?_); (conv => whnf))); (with_reducible refine jab (r := ?_) ?_ ?_); rotate_left; (focus (first | exact (w))); (conv => whnf); refine V.st ?_)
  exact Fin.of rfl
 refine jaa tbOk 6 ⟨Tryz.func99, rfl, rfl, jhO rfl⟩ ?_
 (conv => whnf)
 refine V.st ?_
 repeat ((try ((with_reducible refine .ext ?_); (conv => whnf))); (with_reducible refine jab (r := ?_) ?_ ?_); rotate_left; (focus (first | exact (ap) | exact (rs))); (conv => whnf); refine V.st ?_)
 exact Fin.of rfl
theorem fmul_ok (s t u v : List UInt8) (h : okP s t = true) (g : okP u v = true) (hn : (mg 1000000000 (qv s t * qv u v).num.natAbs).length ≤ 90000000) (hd : (mg 1000000000 (qv s t * qv u v).den).length ≤ 90000000) : Called Tryz.prog 85 [.agg [.str s, .str t], .agg [.str u, .str v]] (frR (qv s t * qv u v)) := by
 have r1 := jbj s t h
 have r2 := jbj u v g
 have o := mul_c (qv s t) (qv u v) (qsize h) (qsize g)
 have w := jdq (qv s t * qv u v) hn hd
 generalize qv s t * qv u v = q at *
 have ap : Called Tryz.prog 130 [.agg [.str s, .str t], .agg [.str u, .str v], .fn 131 [] []] (.tup [rtD q, .int .i64 0]) := by
  refine jaa tbOk 6 ⟨Tryz.func130, rfl, rfl, jhO rfl⟩ ?_
  (conv => whnf)
  refine V.st ?_
  repeat ((try ((with_reducible refine .ext ?_); (conv => whnf))); (with_reducible refine jab (r := ?_) ?_ ?_); rotate_left; (focus (first | exact (r1) | exact (r2) | exact (o))); (conv => whnf); refine V.st ?_)
  exact Fin.of rfl
 have rs : Called Tryz.prog 129 [rtD q, .int .i64 0] (frR q) := by
  refine jaa tbOk 6 ⟨Tryz.func129, rfl, rfl, jhO rfl⟩ ?_
  (conv => whnf)
  refine V.st ?_
  repeat ((try ((with_reducible refine .ext ?_); (conv => whnf))); (with_reducible refine jab (r := ?_) ?_ ?_); rotate_left; (focus (first | exact (w))); (conv => whnf); refine V.st ?_)
  exact Fin.of rfl
 refine jaa tbOk 6 ⟨Tryz.func85, rfl, rfl, jhO rfl⟩ ?_
 (conv => whnf)
 refine V.st ?_
 repeat ((try ((with_reducible refine .ext ?_); (conv => whnf))); (with_reducible refine jab (r := ?_) ?_ ?_); rotate_left; (focus (first | exact (ap) | exact (rs))); (conv => whnf); refine V.st ?_)
 exact Fin.of rfl
theorem Q9.inv {k : Nat} {q : Rat} (h : Q9 k q) (h0 : q.num ≠ 0) : Q9 k q⁻¹ := by
 obtain ⟨p1, p2⟩ := jgp q h0
 constructor
 ·rw [p1]
  unfold S9
  have e : (if decide (q.num < 0) = true then -(q.den : Int) else (q.den : Int)).natAbs = q.den := by
   split <;> simp
  rw [e]
  exact h.2
 ·rw [p2]; exact h.1
theorem fdiv_ok (s t u v : List UInt8) (h : okP s t = true) (g : okP u v = true) (h0 : (qv u v).num ≠ 0) (hn : (mg 1000000000 (qv s t / qv u v).num.natAbs).length ≤ 90000000) (hd : (mg 1000000000 (qv s t / qv u v).den).length ≤ 90000000) : Called Tryz.prog 88 [.agg [.str s, .str t], .agg [.str u, .str v]] (frR (qv s t / qv u v)) := by
 have r1 := jbj s t h
 have r2 := jbj u v g
 have z1 := jcW (qv u v).num.natAbs
 rw [decide_eq_false (show ¬ (qv u v).num.natAbs = 0 by omega)] at z1
 have i1 := inverse_c (qv u v) h0
 have o := mul_c (qv s t) (qv u v)⁻¹ (qsize h) ((qsize g).inv h0)
 have w := jdq (qv s t / qv u v) hn hd
 rw [Rat.div_def] at w ⊢
 unfold frR at *
 generalize qv s t * (qv u v)⁻¹ = q at *
 generalize (qv u v)⁻¹ = y at *
 refine jaa tbOk 6 ⟨Tryz.func88, rfl, rfl, jhO rfl⟩ ?_
 (conv => whnf)
 refine V.st ?_
 repeat ((try ((with_reducible refine .ext ?_); (conv => whnf))); (with_reducible refine jab (r := ?_) ?_ ?_); rotate_left; (focus (first | exact (r1) | exact (r2) | exact (z1))); (conv => whnf); refine V.st ?_)
 refine ⟨(.take 0 (.take 1 (.ev (.cons 2 [0] (.ev (.cons 3 [] (.ev (.cons 4 [] (.take 5 (.take 6 (.ev (.cons 7 [] (.take 8 (.done)) (.nil))))) (.nil))) (.nil))) (.nil))))), [], ⟨by kernel_rfl, by kernel_rfl, by kernel_rfl, by kernel_rfl⟩, .go (jae ?_)⟩
 (conv => whnf)
 refine V.st ?_
 repeat ((try ((with_reducible refine .ext ?_); (conv => whnf))); (with_reducible refine jab (r := ?_) ?_ ?_); rotate_left; (focus (first | exact (i1) | exact (o) | exact (w))); (conv => whnf); refine V.st ?_)
 exact Fin.of rfl
def frT (x : Rat) : D := .agg [.str (decZ x.num), .str (dec x.den)]
theorem jaL {q : Rat} (h : okF q = true) : okP (decZ q.num) (dec q.den) = true ∧ qv (decZ q.num) (dec q.den) = q := by
 unfold okF at h
 simp only [jhN, decide_eq_true_eq] at h
 have hdz : dec q.den = decZ (q.den : Int) := by unfold decZ; rw [if_neg (by omega), jh8]
 have w1 : wval (decZ q.num) = q.num := jbb _
 have w2 : wval (dec q.den) = (q.den : Int) := by rw [hdz]; exact jbb _
 have o1 := jbx q.num h.1
 have o2 : okW (dec q.den) = true := by rw [hdz]; exact jbx _ (by rw [jh8]; exact h.2)
 have hp := q.den_pos
 constructor
 ·unfold okP
  rw [o1, o2, w1, w2]
  simp only [jhN, decide_eq_true_eq, Bool.true_and, jh8]
  exact ⟨by omega, q.reduced⟩
 ·unfold qv
  rw [w1, w2]
  exact jii q
theorem jdi {q : Rat} (h : okF q = true) : frR q = .tup [frT q, .int .i64 0] := by
 unfold frR
 rw [h]
 rfl
theorem mg_fq {n : Nat} {q : Rat} (h : Fq n q) (h6 : n ≤ 600) : (mg 1000000000 q.num.natAbs).length ≤ 90000000 ∧ (mg 1000000000 q.den).length ≤ 90000000 :=
 ⟨jh1 (len9 (h.mono h6).1) (by omega), jh1 (len9 (h.mono h6).2) (by omega)⟩
theorem zadd {a b : Nat} {p q : Rat} (h : Fq a p) (g : Fq b q) (ha : 0 < a) (hb : 0 < b) (hab : a + b + 1 ≤ 600) : Called Tryz.prog 100 [frT p, frT q] (.tup [frT (p + q), .int .i64 0]) := by
 obtain ⟨o1, e1⟩ := jaL (h.ok ha (by omega))
 obtain ⟨o2, e2⟩ := jaL (g.ok hb (by omega))
 have hs := h.add g
 have hm := mg_fq hs (by omega)
 have c := fadd_ok _ _ _ _ o1 o2 (by rw [e1, e2]; exact hm.1) (by rw [e1, e2]; exact hm.2)
 rw [e1, e2, jdi (hs.ok (by omega) (by omega))] at c
 exact c
theorem zsub {a b : Nat} {p q : Rat} (h : Fq a p) (g : Fq b q) (ha : 0 < a) (hb : 0 < b) (hab : a + b + 1 ≤ 600) : Called Tryz.prog 99 [frT p, frT q] (.tup [frT (p - q), .int .i64 0]) := by
 obtain ⟨o1, e1⟩ := jaL (h.ok ha (by omega))
 obtain ⟨o2, e2⟩ := jaL (g.ok hb (by omega))
 have hs := h.sub g
 have hm := mg_fq hs (by omega)
 have c := fsub_ok _ _ _ _ o1 o2 (by rw [e1, e2]; exact hm.1) (by rw [e1, e2]; exact hm.2)
 rw [e1, e2, jdi (hs.ok (by omega) (by omega))] at c
 exact c
theorem zmul {a b : Nat} {p q : Rat} (h : Fq a p) (g : Fq b q) (ha : 0 < a) (hb : 0 < b) (hab : a + b + 1 ≤ 600) : Called Tryz.prog 85 [frT p, frT q] (.tup [frT (p * q), .int .i64 0]) := by
 obtain ⟨o1, e1⟩ := jaL (h.ok ha (by omega))
 obtain ⟨o2, e2⟩ := jaL (g.ok hb (by omega))
 have hs := h.mul g
 have hm := mg_fq hs (by omega)
 have c := fmul_ok _ _ _ _ o1 o2 (by rw [e1, e2]; exact hm.1) (by rw [e1, e2]; exact hm.2)
 rw [e1, e2, jdi (hs.ok (by omega) (by omega))] at c
 exact c
theorem zdiv {a b : Nat} {p q : Rat} (h : Fq a p) (g : Fq b q) (h0 : q.num ≠ 0) (ha : 0 < a) (hb : 0 < b) (hab : a + b + 1 ≤ 600) : Called Tryz.prog 88 [frT p, frT q] (.tup [frT (p / q), .int .i64 0]) := by
 obtain ⟨o1, e1⟩ := jaL (h.ok ha (by omega))
 obtain ⟨o2, e2⟩ := jaL (g.ok hb (by omega))
 have hs := h.div g h0
 have hm := mg_fq hs (by omega)
 have c := fdiv_ok _ _ _ _ o1 o2 (by rw [e2]; exact h0) (by rw [e1, e2]; exact hm.1) (by rw [e1, e2]; exact hm.2)
 rw [e1, e2, jdi (hs.ok (by omega) (by omega))] at c
 exact c
theorem zcmp {a b : Nat} {p q : Rat} (h : Fq a p) (g : Fq b q) (ha : 0 < a ∧ a ≤ 600) (hb : 0 < b ∧ b ≤ 600) : Called Tryz.prog 127 [frT p, frT q] (.tup [.int .i64 (ordQ p q), .int .i64 0]) := by
 obtain ⟨o1, e1⟩ := jaL (h.ok ha.1 ha.2)
 obtain ⟨o2, e2⟩ := jaL (g.ok hb.1 hb.2)
 have c := fcmp_ok _ _ _ _ o1 o2
 rw [e1, e2] at c
 exact c
abbrev Tx := List UInt8 × List UInt8
def okX (x : Tx) : Bool := okP x.1 x.2
def qX (x : Tx) : Rat := qv x.1 x.2
def BdX (n : Nat) (x : Tx) : Prop := (x.1.length ≤ 281474976710656 ∧ x.2.length ≤ 281474976710656) ∧ (okX x = true → Fq n (qX x))
theorem BdX.mono {m n : Nat} {x : Tx} (h : BdX m x) (hl : m ≤ n) : BdX n x := ⟨h.1, fun g => (h.2 g).mono hl⟩
structure Sg (s d : List UInt8) (j : Nat) (neg : Bool) : Prop where
 hj : j = if neg then 1 else 0
 hl : s.length = d.length + j
 hg : ∀ i, s.getD (i + j) 0 = d.getD i 0
 h0 : (0 < s.length ∧ s.getD 0 0 = 45) ↔ neg = true
theorem sg_of (s : List UInt8) : ∃ d j neg, Sg s d j neg ∧ okW s = okD d neg ∧ wval s = if neg then -(rdv d : Int) else rdv d := by
 cases s with
 | nil => exact ⟨[], 0, false, ⟨rfl, rfl, fun i => rfl, by simp⟩, rfl, rfl⟩
 | cons c r =>
  by_cases hc : c = 45
  ·subst hc
   have h1 : Go.Lib.hasPrefix (45 :: r) [45] = true := by simp [Go.Lib.hasPrefix]
   have h2 : Go.Lib.trimPrefix (45 :: r) [45] = r := by unfold Go.Lib.trimPrefix; rw [h1]; rfl
   refine ⟨r, 1, true, ⟨rfl, by simp, fun i => by simp, by simp⟩, ?_, ?_⟩
   ·unfold okW; rw [h1, h2]
   ·unfold wval; rw [h1, h2]
  ·have h1 : Go.Lib.hasPrefix (c :: r) [45] = false := by
    show List.isPrefixOf [45] (c :: r) = false
    simp only [List.isPrefixOf, Bool.and_true, beq_eq_false_iff_ne]
    exact Ne.symm hc
   have h2 : Go.Lib.trimPrefix (c :: r) [45] = c :: r := by unfold Go.Lib.trimPrefix; rw [h1]; rfl
   refine ⟨c :: r, 0, false, ⟨rfl, by simp, fun i => by simp, by simp [hc]⟩, ?_, ?_⟩
   ·unfold okW; rw [h1, h2]
   ·unfold wval; rw [h1, h2]
theorem u8_eq (c : UInt8) (n : Nat) (hn : n < 256) : decide (((c.toNat : Nat) : Int) = n) = decide (c = UInt8.ofNat n) := decide_eq_decide.2 ⟨fun h => UInt8.toNat_inj.1 (by rw [UInt8.toNat_ofNat_of_lt' (by simpa using hn)]; omega), fun h => by rw [h, UInt8.toNat_ofNat_of_lt' (by simpa using hn)]⟩
theorem right01_g (s d : List UInt8) (j : Nat) (neg : Bool) (S : Sg s d j neg) (hs : s.length ≤ 281474976710656) : Called Tryz.prog 105 [.str s] (.bool (okD d neg)) := by
 obtain ⟨hj, hl, hg, h0⟩ := S
 have hJ : j ≤ 1 := by rw [hj]; split <;> omega
 have e0 : (0 : Int).toNat = 0 := rfl
 have q45 : decide (((s.getD 0 0).toNat : Int) = 45) = decide (s.getD 0 0 = 45) := u8_eq _ 45 (by omega)
 have qn : (decide ((s.length : Int) > 0) && decide (s.getD 0 0 = 45)) = neg := by
  rw [Bool.eq_iff_iff, ← h0, jhN, decide_eq_true_eq, decide_eq_true_eq]
  exact and_congr_left' (by omega)
 refine jaa tbOk 6 ⟨Tryz.func105, rfl, rfl, jhO rfl⟩ ?_
 (conv => whnf)
 refine V.r0 (V.a3 e0 q45 qn) ?_
 refine jbQ [(3, .int .i64 j)] [] (CondB.mk (fun hq => ?_) (fun hq => ?_)) ?_
 ·subst hq
  rw [if_pos rfl] at hj
  subst hj
  (conv => whnf)
  refine V.st ?_
  exact V.wk
 ·subst hq
  rw [if_neg (by simp)] at hj
  subst hj
  (conv => whnf)
  refine V.st ?_
  exact V.wk
 have hsl : (s.length : Int) - j = d.length := by omega
 clear q45 qn h0
 refine V.r0 hsl ?_
 refine Cnd.split (CondB.mk (fun hq => ?_) (fun hq => ?_))
 ·simp only [Bool.or_eq_true, decide_eq_true_eq] at hq
  have hf : okD d neg = false := by
   unfold okD
   rcases hq with h | h
   ·rw [decide_eq_true (show d.length = 0 by omega)]; rfl
   ·rw [decide_eq_true (show 600 < d.length by omega), Bool.or_true]; rfl
  rw [hf]
  (conv => whnf)
  refine V.st ?_
  exact Fin.of rfl
 ·simp only [jh2, decide_eq_false_iff_not] at hq
  (conv => whnf)
  refine V.st ?_
  refine jah (0 : Nat) (fun k => k ≤ d.length ∧ ∀ i, i < k → isDig (d.getD i 0) = true) (fun k => d.length - k) (fun k => [(5, .int .i64 ((k + j : Nat) : Int))]) (fun _ => []) ?_ ?_ ?_
  ·rw [jhS]
   exact V.wk
  ·exact ⟨jhP _, fun i hi => by omega⟩
  intro k hk
  have hkc : (((k + j : Nat) : Int) + 1) = ((k + 1 + j : Nat) : Int) := by omega
  have hkt : ((k + j : Nat) : Int).toNat = k + j := by omega
  (conv => whnf)
  refine V.st ?_
  refine Cnd.split (CondB.mk (fun hq2 => ?_) (fun hq2 => ?_))
  ·rw [decide_eq_true_eq] at hq2
   have hdl := dig_lo (d.getD k 0)
   have hgk := hg k
   generalize hc : d.getD k 0 = c at *
   refine V.r0 (V.a3 hkt hgk hkc) ?_
   refine Cnd.split (CondB.mk (fun hq3 => ?_) (fun hq3 => ?_))
   ·rw [Bool.or_eq_true, decide_eq_true_eq, decide_eq_true_eq] at hq3
    have hf : okD d neg = false := by
     have h1 : d.all isDig = false := by
      rw [List.all_eq_false]
      refine ⟨c, ?_, fun h => by have := hdl.1 h; omega⟩
      rw [← hc, List.getD_eq_getElem?_getD, List.getElem?_eq_getElem (by omega)]
      exact List.getElem_mem _
     unfold okD
     rw [h1, Bool.and_false, Bool.false_and]
    rw [hf]
    (conv => whnf)
    refine V.st ?_
    exact Fin.of rfl
   ·rw [jh2, decide_eq_false_iff_not, decide_eq_false_iff_not] at hq3
    refine V.r0 hkc ?_
    refine ⟨k + 1, ⟨by omega, fun i hi => ?_⟩, by omega, V.wk⟩
    rcases jh0 i k with h | h
    ·exact hk.2 i h
    ·obtain rfl : i = k := by omega
     rw [hc]; exact hdl.2 (by omega)
  ·rw [decide_eq_false_iff_not] at hq2
   obtain rfl : k = d.length := by omega
   have hall : ∀ c ∈ d, isDig c = true := fun c hc => by
    obtain ⟨i, hi, e⟩ := List.getElem_of_mem hc
    have := hk.2 i hi
    rw [List.getD_eq_getElem?_getD, List.getElem?_eq_getElem hi] at this
    rw [← e]; exact this
   have hok : okD d neg = !(decide (d.getD 0 0 = 48) && (neg || decide (1 < d.length))) := by
    unfold okD
    rw [List.all_eq_true.2 hall, decide_eq_false (show ¬ d.length = 0 by omega), decide_eq_false (show ¬ 600 < d.length by omega)]
    rfl
   have hu : decide ((((d.getD 0 0).toNat : Nat) : Int) = 48) = decide (d.getD 0 0 = 48) := u8_eq _ 48 (by omega)
   have hg0 := hg 0
   rw [jhS] at hg0
   have hll : decide ((s.length : Int) = 1) = !(neg || decide (1 < d.length)) := by
    by_cases hn : neg = true
    ·subst hn
     rw [if_pos rfl] at hj
     rw [decide_eq_false (by omega)]
     rfl
    ·rw [if_neg hn] at hj
     rw [Bool.eq_false_iff.2 hn, Bool.false_or]
     by_cases h1 : 1 < d.length
     ·rw [decide_eq_true h1, decide_eq_false (by omega)]; rfl
     ·rw [decide_eq_false h1, decide_eq_true (by omega)]; rfl
   have hu2 : decide ((((d.getD 0 0).toNat : Nat) : Int) ≠ 48) = !decide (d.getD 0 0 = 48) := by rw [← hu, decide_not]
   have hne : (!decide (d.getD 0 0 = 48) || !(neg || decide (1 < d.length))) = okD d neg := by rw [hok, Bool.not_and]
   refine V.r0 (V.a5 @jhT hg0 hu2 hll hne) ?_
   exact Fin.of rfl
theorem rdv_chunk (d : List UInt8) (hd : ∀ c ∈ d, isDig c = true) (m : Nat) (hm : m ≤ d.length) : rdv (d.take m) / 10000 = rdv (d.take (m - 4)) ∧ rdv (d.take m) % 10000 = rdv ((d.take m).drop (m - 4)) := by
 have e : d.take m = d.take (m - 4) ++ (d.take m).drop (m - 4) := by
  conv => lhs; rw [← List.take_append_drop (m - 4) (d.take m), List.take_take, Nat.min_eq_left (by omega)]
 have hb := je8 (s := (d.take m).drop (m - 4)) (fun c hc => hd c (List.mem_of_mem_take (List.mem_of_mem_drop hc)))
 have hl : ((d.take m).drop (m - 4)).length = m - (m - 4) := by rw [List.length_drop, List.length_take]; omega
 rw [hl] at hb
 have ev : rdv (d.take m) = rdv (d.take (m - 4)) * 10 ^ (m - (m - 4)) + rdv ((d.take m).drop (m - 4)) := by
  conv => lhs; rw [e]
  rw [ja7, hl]
 rw [ev]
 generalize rdv ((d.take m).drop (m - 4)) = y at *
 rcases (by omega : m < 4 ∨ 4 ≤ m) with h | h
 ·have h0 : m - 4 = 0 := by omega
  have h10 : 10 ^ (m - (m - 4)) ≤ 10000 := by
   rw [h0]
   rcases (by omega : m = 0 ∨ m = 1 ∨ m = 2 ∨ m = 3) with e | e | e | e <;> subst e <;> decide
  rw [h0, List.take_zero, show rdv [] = 0 from rfl, Nat.zero_mul]
  omega
 ·rw [show m - (m - 4) = 4 by omega, show (10 : Nat) ^ 4 = 10000 from rfl] at *
  omega
theorem rdv_next (d : List UInt8) (lo k : Nat) (h1 : lo ≤ k) (h2 : k < d.length) : rdv ((d.take (k + 1)).drop lo) = rdv ((d.take k).drop lo) * 10 + ((d.getD k 0).toNat - 48) := by
 have e : (d.take (k + 1)).drop lo = (d.take k).drop lo ++ [d.getD k 0] := by
  rw [List.take_add_one, List.getElem?_eq_getElem h2, List.drop_append_of_le_length (by rw [List.length_take]; omega), List.getD_eq_getElem?_getD, List.getElem?_eq_getElem h2]
  rfl
 rw [e, ja7, jdt]
 rfl
theorem in01_g (s d : List UInt8) (j : Nat) (neg : Bool) (S : Sg s d j neg) (hd : ∀ c ∈ d, isDig c = true) (hdl : d.length ≤ 600) (hs0 : 0 < s.length) :
  Called Tryz.prog 73 [.str s] (plD (if neg then -(rdv d : Int) else rdv d)) := by
 obtain ⟨hj, hl, hg, h0⟩ := S
 have hJ : j ≤ 1 := by rw [hj]; split <;> omega
 have e0 : (0 : Int).toNat = 0 := rfl
 have q45 : decide (((s.getD 0 0).toNat : Int) = 45) = neg := by
  rw [show (45 : Int) = ((45 : Nat) : Int) from rfl, u8_eq _ 45 (by omega), Bool.eq_iff_iff, ← h0, decide_eq_true_eq]
  exact ⟨fun h => ⟨hs0, h⟩, fun h => h.2⟩
 refine jaa tbOk 6 ⟨Tryz.func73, rfl, rfl, jhO rfl⟩ ?_
 (conv => whnf)
 refine V.r0 (V.a2 e0 q45) ?_
 refine jbQ [(3, .int .i64 j)] [] (CondB.mk (fun hq => ?_) (fun hq => ?_)) ?_
 ·subst hq
  rw [if_pos rfl] at hj
  subst hj
  (conv => whnf)
  refine V.st ?_
  exact V.wk
 ·subst hq
  rw [if_neg (by simp)] at hj
  subst hj
  (conv => whnf)
  refine V.st ?_
  exact V.wk
 (conv => whnf)
 refine V.st ?_
 refine Lp.ghostSlot 38 4 .i64 (by decide) ?_
 (conv => whnf)
 refine jah (((s.length : Int), d.length, []) : Int × Nat × List Int) (fun st => st.2.1 ≤ d.length ∧ (st.1 = (st.2.1 + j : Nat) ∨ (st.2.1 = 0 ∧ st.1 < j ∧ (j : Int) - 4 ≤ st.1)) ∧ val 10000 st.2.2 + ((10000 : Nat) : Int) ^ st.2.2.length * ((rdv (d.take st.2.1) : Nat) : Int) = ((rdv d : Nat) : Int) ∧ Dg 10000 st.2.2 ∧ st.2.2.length + (st.2.1 + 3) / 4 ≤ 151) (fun st => st.2.1) (fun st => [(5, .int .i64 st.1), (4, .osl 38 0 st.2.2.length)]) (fun st => [(38, .arr .i64 st.2.2)]) ?_ ?_ ?_
 ·exact V.wk
 ·exact ⟨jhU _, .inl (by dsimp only; omega), by simp [val], fun x hx => by simp at hx, by dsimp only [List.length_nil]; omega⟩
 rintro ⟨e, m, out⟩ ⟨h1, h2, h3, h4, h5⟩
 dsimp only at h1 h2 h3 h4 h5 ⊢
 (conv => whnf)
 refine V.st ?_
 refine Cnd.split (CondB.mk (fun hq => ?_) (fun hq => ?_))
 ·rw [decide_eq_true_eq] at hq
  have he : e = ((m + j : Nat) : Int) := by omega
  have hm0 : 0 < m := by omega
  subst he
  obtain ⟨lo, hlo⟩ : ∃ lo, lo = m - 4 := ⟨_, rfl⟩
  have hmx : max (((m + j : Nat) : Int) - 4) (j : Int) = ((lo + j : Nat) : Int) := by omega
  have hch := rdv_chunk d hd m h1
  rw [← hlo] at hch
  have hst := jd1 (B := 10000) (by omega) h3
  rw [hch.1, hch.2] at hst
  have hbd : ∀ i, lo + i ≤ m → rdv ((d.take (lo + i)).drop lo) < 10000 := fun i hi => by
   have hl1 : ((d.take (lo + i)).drop lo).length ≤ 4 := by rw [List.length_drop, List.length_take]; omega
   have := je8 (s := (d.take (lo + i)).drop lo) (fun c hc => hd c (List.mem_of_mem_take (List.mem_of_mem_drop hc)))
   have h2 : (10 : Nat) ^ ((d.take (lo + i)).drop lo).length ≤ 10 ^ 4 := jh9 (by omega) hl1
   omega
  have hnx : ∀ i, lo + i < m → rdv ((d.take (lo + (i + 1))).drop lo) = rdv ((d.take (lo + i)).drop lo) * 10 + ((d.getD (lo + i) 0).toNat - 48) := fun i hi => by
   rw [← Nat.add_assoc]
   exact rdv_next d lo (lo + i) (by omega) (by omega)
  have hx0 : rdv ((d.take (lo + 0)).drop lo) = 0 := by
   have hnil : (d.take lo).drop lo = [] := List.drop_eq_nil_of_le (by rw [List.length_take]; omega)
   rw [Nat.add_zero, hnil]; rfl
  refine V.r0 hmx ?_
  refine jah (0 : Nat) (fun i => lo + i ≤ m) (fun i => m - (lo + i)) (fun i => [(7, .int .i64 ((lo + i + j : Nat) : Int)), (6, .int .i64 ((rdv ((d.take (lo + i)).drop lo) : Nat) : Int))]) (fun _ => []) ?_ ?_ ?_
  ·rw [hx0]
   exact V.wk
  ·show lo + 0 ≤ m
   omega
  intro i hi
  have hi2 := hbd i hi
  (conv => whnf)
  refine V.st ?_
  refine Cnd.split (CondB.mk (fun hq2 => ?_) (fun hq2 => ?_))
  ·rw [decide_eq_true_eq] at hq2
   have hn2 := hnx i (by omega)
   have hgi := hg (lo + i)
   have hdc : isDig (d.getD (lo + i) 0) = true := hd _ (by rw [List.getD_eq_getElem?_getD, List.getElem?_eq_getElem (by omega)]; exact List.getElem_mem _)
   have hdl2 := (dig_lo _).1 hdc
   have hi3 := hbd (i + 1) (by omega)
   generalize d.getD (lo + i) 0 = c at *
   have hkt : ((lo + i + j : Nat) : Int).toNat = lo + i + j := by omega
   have hkc : (((lo + i + j : Nat) : Int) + 1) = ((lo + (i + 1) + j : Nat) : Int) := by omega
   have hsum : ((rdv ((d.take (lo + i)).drop lo) : Nat) : Int) * 10 + ((c.toNat : Int) - 48) = ((rdv ((d.take (lo + (i + 1))).drop lo) : Nat) : Int) := by
    rw [hn2]; omega
   refine V.r0 (V.a4 hkt hgi hkc hsum) ?_
   exact ⟨i + 1, by omega, by omega, V.wk⟩
  ·rw [decide_eq_false_iff_not] at hq2
   have hmi : lo + i = m := by omega
   rw [hmi]
   have hl2 : (out ++ [((rdv ((d.take m).drop lo) : Nat) : Int)]).length = out.length + 1 := by simp
   have hl3 : out.length + (List.take 1 (List.drop 0 [((rdv ((d.take m).drop lo) : Nat) : Int)])).length = (out ++ [((rdv ((d.take m).drop lo) : Nat) : Int)]).length := by simp
   have hdg : Dg 10000 (out ++ [((rdv ((d.take m).drop lo) : Nat) : Int)]) := jai h4 (jas ⟨by omega, by have := hbd i hi; rw [hmi] at this; omega⟩)
   refine V.r0 hl3 ?_
   try refine And.intro (fun _ => ⟨trivial, by omega⟩) ?_
   refine V.r0 hl3 ?_
   exact ⟨(((m + j : Nat) : Int) - 4, lo, out ++ [((rdv ((d.take m).drop lo) : Nat) : Int)]), ⟨by dsimp only; omega, by dsimp only; omega, hst, hdg, by dsimp only; omega⟩, by dsimp only; omega, V.wk⟩
 ·rw [decide_eq_false_iff_not] at hq
  have hm0 : m = 0 := by omega
  subst hm0
  have hv : val 10000 out = ((rdv d : Nat) : Int) := by
   rw [List.take_zero, show rdv [] = 0 from rfl] at h3
   simpa using h3
  have hmd := jeo neg out h4 (by omega)
  rw [hv] at hmd
  have e1 : decide ((j : Int) = 1) = neg := by
   cases neg with
   | true => rw [if_pos rfl] at hj; rw [hj]; rfl
   | false => rw [if_neg (by simp)] at hj; rw [hj]; rfl
  refine V.r1 (V.a2 e1 @List.take_length.{0}) hmd ?_
  exact Fin.of rfl
theorem jbp (x y : Int) (hx : Sm 40000000 x) (hy : Sm 40000000 y) : Called Tryz.prog 109 [plD x, plD y] (plD (x * y)) := by
 unfold Sm at hx hy
 have hl := jbC (B := 10000) (by omega) x.natAbs y.natAbs
 have hp := jeh (mg 10000 x.natAbs) (mg 10000 y.natAbs) (by omega) (by omega) (mg_dg (by omega) _) (fun j => by
  have := jam (B := 10000) (by omega) (mg_dg (B := 10000) (by omega) y.natAbs) j
  omega)
 rw [jaC (by omega), jaC (by omega), ← jh3, jhT] at hp
 have hm := jcQ (!(decide (x < 0) == decide (y < 0))) (x.natAbs * y.natAbs) (by omega)
 have e : (if (!(decide (x < 0) == decide (y < 0))) = true then -((x.natAbs * y.natAbs : Nat) : Int) else ((x.natAbs * y.natAbs : Nat) : Int)) = x * y := by
  rw [jh3]
  by_cases h : x < 0
  ·have e1 : (x.natAbs : Int) = -x := by omega
   by_cases h2 : y < 0
   ·have e2 : (y.natAbs : Int) = -y := by omega
    rw [e1, e2]; simp [h, h2, Int.neg_mul_neg]
   ·have e2 : (y.natAbs : Int) = y := by omega
    rw [e1, e2]; simp [h, h2, Int.neg_mul]
  ·have e1 : (x.natAbs : Int) = x := by omega
   by_cases h2 : y < 0
   ·have e2 : (y.natAbs : Int) = -y := by omega
    rw [e1, e2]; simp [h, h2, Int.mul_neg]
   ·have e2 : (y.natAbs : Int) = y := by omega
    rw [e1, e2]; simp [h, h2]
 rw [e] at hm
 rw [show plD x = .agg [.bool (decide (x < 0)), .ints .i64 (mg 10000 x.natAbs)] from rfl, show plD y = .agg [.bool (decide (y < 0)), .ints .i64 (mg 10000 y.natAbs)] from rfl]
 refine jaa tbOk 6 ⟨Tryz.func109, rfl, rfl, jhO rfl⟩ ?_
 (conv => whnf)
 refine V.st ?_
 refine ⟨(.take 0 (.take 1 (.take 2 (.take 3 (.take 4 (.take 5 (.take 6 (.take 7 (.take 8 (.ev (.cons 9 [4, 3, 2, 1, 0] (.ev (.cons 10 [] (.ev (.cons 11 [] (.done) (.nil))) (.nil))) (.nil)))))))))))), [], ⟨by kernel_rfl, by kernel_rfl, by kernel_rfl, by kernel_rfl⟩, .go (jae ?_)⟩
 (conv => whnf)
 refine V.st ?_
 repeat ((try ((with_reducible refine .ext ?_); (conv => whnf))); (with_reducible refine jab (r := ?_) ?_ ?_); rotate_left; (focus (first | exact (hp) | exact (hm))); (conv => whnf); refine V.st ?_)
 exact Fin.of rfl
def Q4 (k : Nat) (q : Rat) : Prop := Sm k q.num ∧ Sm k (q.den : Int)
theorem Q4.mono {k l : Nat} {q : Rat} (h : Q4 k q) (hl : k ≤ l) : Q4 l q := ⟨h.1.mono hl, h.2.mono hl⟩
theorem Q4.neg {k : Nat} {q : Rat} (h : Q4 k q) : Q4 k (-q) := ⟨by rw [Rat.neg_num]; exact h.1.neg, by rw [Rat.neg_den]; exact h.2⟩
theorem Q4.of {k : Nat} {n d : Int} (hn : Sm k n) (hd : Sm k d) (hd0 : d ≠ 0) : Q4 k (Rat.divInt n d) := by
 have h1 := jg4 n d hd0
 have h2 := jg5 n d hd0
 have h3 := jbo (if d < 0 then -n else n) (Int.gcd (if d < 0 then -n else n) (if d < 0 then -d else d))
 have h4 := jbo (if d < 0 then -d else d) (Int.gcd (if d < 0 then -n else n) (if d < 0 then -d else d))
 rw [h1] at h3
 rw [h2] at h4
 have e1 : (if d < 0 then -n else n).natAbs = n.natAbs := by split <;> simp
 have e2 : (if d < 0 then -d else d).natAbs = d.natAbs := by split <;> simp
 exact ⟨hn.le (by omega), hd.le (by omega)⟩
theorem plN (n : Nat) : plD (n : Int) = .agg [.bool false, .ints .i64 (mg 10000 n)] := by
 unfold plD
 rw [decide_eq_false (by omega), jh8]
theorem jff (x y : Rat) : x * y = Rat.divInt (x.num * y.num) ((x.den : Int) * (y.den : Int)) := by
 conv => lhs; rw [← jii x, ← jii y]
 rw [Rat.divInt_mul_divInt]
theorem jdK (x : Rat) : (x.den : Int) ≠ 0 := by have := x.den_pos; omega
theorem times02_c (x y : Rat) (hx : Q4 40000000 x) (hy : Q4 40000000 y) : Called Tryz.prog 91 [raD x, raD y] (raD (x * y)) := by
 have h1 := jbp x.num y.num hx.1 hy.1
 have h2 := jbp x.den y.den hx.2 hy.2
 have h3 := jdX (x.num * y.num) ((x.den : Int) * (y.den : Int)) (hx.1.mul hy.1) (hx.2.mul hy.2) (Int.mul_ne_zero (jdK x) (jdK y))
 rw [← jff] at h3
 rw [plN, plN] at h2
 refine jaa tbOk 6 ⟨Tryz.func91, rfl, rfl, jhO rfl⟩ ?_
 (conv => whnf)
 refine V.st ?_
 refine ⟨(.take 0 (.take 1 (.take 2 (.take 3 (.take 5 (.take 6 (.take 7 (.take 8 (.ev (.cons 4 [8, 7, 6, 5] (.ev (.cons 9 [] (.ev (.cons 10 [] (.ev (.cons 11 [] (.done) (.nil))) (.nil))) (.nil))) (.nil))))))))))), [], ⟨by kernel_rfl, by kernel_rfl, by kernel_rfl, by kernel_rfl⟩, .go (jae ?_)⟩
 (conv => whnf)
 refine V.st ?_
 repeat ((try ((with_reducible refine .ext ?_); (conv => whnf))); (with_reducible refine jab (r := ?_) ?_ ?_); rotate_left; (focus (first | exact (h1) | exact (h2) | exact (h3))); (conv => whnf); refine V.st ?_)
 exact Fin.of rfl
theorem Q4.mul {k l : Nat} {x y : Rat} (h : Q4 k x) (g : Q4 l y) : Q4 (k + l) (x * y) := by
 rw [jff]
 exact Q4.of (h.1.mul g.1) (h.2.mul g.2) (Int.mul_ne_zero (jdK x) (jdK y))
theorem jhr (x y : Rat) : x + y = Rat.divInt (x.num * y.den + y.num * x.den) ((x.den : Int) * (y.den : Int)) := by
 conv => lhs; rw [← jii x, ← jii y]
 rw [Rat.divInt_add_divInt _ _ (jdK x) (jdK y)]
theorem plus02_c (x y : Rat) (hx : Q4 30000000 x) (hy : Q4 30000000 y) : Called Tryz.prog 90 [raD x, raD y] (raD (x + y)) := by
 have h1 := jbp x.num y.den (hx.1.mono (by omega)) (hy.2.mono (by omega))
 have h2 := jbp y.num x.den (hy.1.mono (by omega)) (hx.2.mono (by omega))
 have z1 : Sm 60000000 (x.num * (y.den : Int)) := hx.1.mul hy.2
 have z2 : Sm 60000000 (y.num * (x.den : Int)) := hy.1.mul hx.2
 have z3 : Sm 60000000 ((x.den : Int) * (y.den : Int)) := hx.2.mul hy.2
 have h3 := jgi _ _ (z1.mono (by omega)) (z2.mono (by omega))
 have h4 := jbp x.den y.den (hx.2.mono (by omega)) (hy.2.mono (by omega))
 have h5 := jdX (x.num * y.den + y.num * x.den) ((x.den : Int) * (y.den : Int)) ((z1.add z2).mono (by omega)) (z3.mono (by omega)) (Int.mul_ne_zero (jdK x) (jdK y))
 rw [← jhr] at h5
 rw [plN] at h1 h2
 rw [plN, plN] at h4
 generalize x.num * y.den + y.num * x.den = S at *
 clear z1 z2 z3
 refine jaa tbOk 6 ⟨Tryz.func90, rfl, rfl, jhO rfl⟩ ?_
 (conv => whnf)
 refine V.st ?_
 refine ⟨(.take 0 (.take 1 (.take 2 (.take 3 (.take 5 (.take 6 (.take 7 (.take 8 (.ev (.cons 4 [8, 7, 6, 5] (.ev (.cons 9 [] (.ev (.cons 10 [] (.ev (.cons 11 [] (.ev (.cons 12 [] (.done) (.nil))) (.nil))) (.cons 11 [] (.ev (.cons 10 [] (.ev (.cons 12 [] (.done) (.nil))) (.nil))) (.nil)))) (.cons 11 [8, 7, 6, 5] (.ev (.cons 9 [] (.ev (.cons 10 [] (.ev (.cons 12 [] (.done) (.nil))) (.nil))) (.nil))) (.nil)))) (.cons 11 [8, 7, 6, 5, 3, 2, 1, 0] (.ev (.cons 4 [8, 7, 6, 5] (.ev (.cons 9 [] (.ev (.cons 10 [] (.ev (.cons 12 [] (.done) (.nil))) (.nil))) (.nil))) (.nil))) (.nil)))))))))))), [], ⟨by kernel_rfl, by kernel_rfl, by kernel_rfl, by kernel_rfl⟩, ?_⟩
 refine jac [(5, .box 5 0)] [(5, .box [.bool (decide (S < 0)), .ints .i64 (mg 10000 S.natAbs)])] ?_ ?_
 ·exact V.d3 @jhS h1 h2 h3
 (conv => whnf)
 refine V.st ?_
 refine ⟨(.take 0 (.take 1 (.take 2 (.take 3 (.take 4 (.ev (.cons 5 [0] (.ev (.cons 6 [] (.ev (.cons 7 [] (.done) (.nil))) (.nil))) (.nil)))))))), [], ⟨by kernel_rfl, by kernel_rfl, by kernel_rfl, by kernel_rfl⟩, .go (jae ?_)⟩
 (conv => whnf)
 refine V.st ?_
 repeat ((try ((with_reducible refine .ext ?_); (conv => whnf))); (with_reducible refine jab (r := ?_) ?_ ?_); rotate_left; (focus (first | exact (h4) | exact (h5))); (conv => whnf); refine V.st ?_)
 exact Fin.of rfl
theorem jgg (s : List UInt8) (hs : s.length ≤ 281474976710656) : Called Tryz.prog 105 [.str s] (.bool (okW s)) := by
 obtain ⟨d, j, neg, S, e1, _⟩ := sg_of s
 rw [e1]
 exact right01_g s d j neg S hs
theorem in01_c (s : List UInt8) (h : okW s = true) : Called Tryz.prog 73 [.str s] (plD (wval s)) := by
 obtain ⟨d, j, neg, S, e1, e2⟩ := sg_of s
 rw [e2]
 rw [e1] at h
 unfold okD at h
 simp only [jhN, Bool.not_eq_true', jh2, decide_eq_false_iff_not, List.all_eq_true] at h
 exact in01_g s d j neg S h.1.2 (by omega) (by have := S.hl; omega)
theorem jdr {s : List UInt8} (h : okW s = true) : Sm 151 (wval s) := by
 obtain ⟨d, j, neg, S, e1, e2⟩ := sg_of s
 rw [e1] at h
 unfold okD at h
 simp only [jhN, Bool.not_eq_true', jh2, decide_eq_false_iff_not, List.all_eq_true] at h
 have hlt := je8 (s := d) h.1.2
 have h2 : ∀ k, d.length ≤ 4 * k → rdv d < 10000 ^ k := fun k hk => by
  refine jhZ hlt ?_
  rw [show (10000 : Nat) = 10 ^ 4 from rfl, ← Nat.pow_mul]
  exact jh9 (by omega) hk
 have e : (wval s).natAbs = rdv d := by
  rw [e2]; split <;> omega
 unfold Sm
 rw [e]
 exact jau (by omega) (h2 151 (by omega))
theorem jc6 (s t : List UInt8) (hs : s.length ≤ 281474976710656) (ht : t.length ≤ 281474976710656) : Called Tryz.prog 63 [.agg [.str s, .str t]] (.bool (okP s t)) := by
  have r1 := jgg s hs
  have r2 := jgg t ht
  by_cases h1 : okW s = true
  · rw [h1] at r1
    by_cases h2 : okW t = true
    · rw [h2] at r2
      have i1 := in01_c s h1
      have i2 := in01_c t h2
      have g1 := jeH (wval s) (wval t) ((jdr h1).mono (by omega)) ((jdr h2).mono (by omega))
      have hz := jb2 (B := 10000) (n := (wval t).natAbs) (by omega)
      have gl : Sm 151 (Int.gcd (wval s) (wval t) : Int) := by
        by_cases h0 : wval t = 0
        · rw [h0, Int.gcd_zero_right]
          exact (jdr h1).le (by omega)
        · exact (jdr h2).le (by
            rw [jh8]
            exact Nat.le_of_dvd (by omega) (Int.ofNat_dvd_left.1 (Int.gcd_dvd_right _ _)))
      have x1 := text_c _ (gl.mono (by omega))
      have hp : okP s t = (decide (0 < wval t) && decide (decZ (Int.gcd (wval s) (wval t) : Int) = [49])) := by
        unfold okP
        rw [h1, h2, Bool.true_and, Bool.true_and]
        congr 1
        refine decide_eq_decide.2 ⟨fun h => ?_, fun h => ?_⟩
        · rw [show Int.gcd (wval s) (wval t) = 1 from h]; decide
        · have := jbb (Int.gcd (wval s) (wval t) : Int)
          rw [h] at this
          have e49 : wval [49] = 1 := by decide
          rw [e49] at this
          show Int.gcd (wval s) (wval t) = 1
          omega
      rw [hp]
      clear hp gl
      generalize wval s = x at *
      generalize wval t = y at *
      generalize (Int.gcd x y : Int) = g at *
      generalize decZ g = gt at *
      have hy : (decide (y < 0) || decide ((((mg 10000 y.natAbs).length : Nat) : Int) = 0)) = !decide (0 < y) := by
        rw [Bool.eq_iff_iff]
        simp only [Bool.or_eq_true, decide_eq_true_eq, Bool.not_eq_true', decide_eq_false_iff_not]
        constructor
        · rintro (h | h)
          · omega
          · have : mg 10000 y.natAbs = [] := List.length_eq_zero_iff.1 (by omega)
            have := hz.1 this
            omega
        · intro h
          by_cases h0 : y < 0
          · exact .inl h0
          · right
            have : mg 10000 y.natAbs = [] := hz.2 (by omega)
            rw [this]; rfl
      unfold plD at *
      refine jaa tbOk 6 ⟨Tryz.func63, rfl, rfl, jhO rfl⟩ ?_
      (conv => whnf)
      refine V.st ?_
      repeat ((try ((with_reducible refine .ext ?_); (conv => whnf))); (with_reducible refine jab (r := ?_) ?_ ?_); rotate_left; (focus (first | exact (r1) | exact (r2))); (conv => whnf); refine V.st ?_)
      refine ⟨(.take 0 (.take 1 (.take 3 (.take 4 (.ev (.cons 2 [4, 3] (.ev (.cons 5 [] (.ev (.cons 6 [] (.ev (.cons 7 [] (.ev (.cons 8 [] (.ev (.cons 9 [] (.done) (.nil))) (.nil))) (.nil))) (.cons 7 [] (.ev (.cons 6 [] (.ev (.cons 8 [] (.ev (.cons 9 [] (.done) (.nil))) (.nil))) (.nil))) (.nil)))) (.cons 6 [4, 3] (.ev (.cons 5 [] (.ev (.cons 7 [] (.ev (.cons 8 [] (.ev (.cons 9 [] (.done) (.nil))) (.nil))) (.nil))) (.cons 7 [4, 3] (.ev (.cons 5 [] (.ev (.cons 8 [] (.ev (.cons 9 [] (.done) (.nil))) (.nil))) (.nil))) (.nil)))) (.cons 7 [4, 3] (.ev (.cons 5 [] (.ev (.cons 6 [] (.ev (.cons 8 [] (.ev (.cons 9 [] (.done) (.nil))) (.nil))) (.nil))) (.cons 6 [4, 3] (.ev (.cons 5 [] (.ev (.cons 8 [] (.ev (.cons 9 [] (.done) (.nil))) (.nil))) (.nil))) (.nil)))) (.nil))))) (.cons 6 [4, 3, 1, 0] (.ev (.cons 2 [4, 3] (.ev (.cons 5 [] (.ev (.cons 7 [] (.ev (.cons 8 [] (.ev (.cons 9 [] (.done) (.nil))) (.nil))) (.nil))) (.cons 7 [4, 3] (.ev (.cons 5 [] (.ev (.cons 8 [] (.ev (.cons 9 [] (.done) (.nil))) (.nil))) (.nil))) (.nil)))) (.cons 7 [4, 3, 1, 0] (.ev (.cons 2 [4, 3] (.ev (.cons 5 [] (.ev (.cons 8 [] (.ev (.cons 9 [] (.done) (.nil))) (.nil))) (.nil))) (.nil))) (.nil)))) (.cons 7 [4, 3, 1, 0] (.ev (.cons 2 [4, 3] (.ev (.cons 5 [] (.ev (.cons 6 [] (.ev (.cons 8 [] (.ev (.cons 9 [] (.done) (.nil))) (.nil))) (.nil))) (.cons 6 [4, 3] (.ev (.cons 5 [] (.ev (.cons 8 [] (.ev (.cons 9 [] (.done) (.nil))) (.nil))) (.nil))) (.nil)))) (.cons 6 [4, 3, 1, 0] (.ev (.cons 2 [4, 3] (.ev (.cons 5 [] (.ev (.cons 8 [] (.ev (.cons 9 [] (.done) (.nil))) (.nil))) (.nil))) (.nil))) (.nil)))) (.nil))))))))), [], ⟨by kernel_rfl, by kernel_rfl, by kernel_rfl, by kernel_rfl⟩, ?_⟩
      refine jac [(3, .box 3 0), (4, .box 4 0)] [(3, .box [.bool (decide (x < 0)), .ints .i64 (mg 10000 x.natAbs)]), (4, .box [.bool (decide (y < 0)), .ints .i64 (mg 10000 y.natAbs)])] ?_ ?_
      · exact V.d2 @jhS i1 i2
      (conv => whnf)
      refine V.r0 hy ?_
      refine Cnd.split (CondB.mk (fun hq => ?_) (fun hq => ?_))
      · simp only [Bool.not_eq_true', decide_eq_false_iff_not] at hq
        rw [decide_eq_false hq, Bool.false_and]
        (conv => whnf)
        refine V.st ?_
        exact Fin.of rfl
      · simp only [Bool.not_eq_false', decide_eq_true_eq] at hq
        rw [decide_eq_true hq, Bool.true_and]
        (conv => whnf)
        refine V.st ?_
        repeat ((try ((with_reducible refine .ext ?_); (conv => whnf))); (with_reducible refine jab (r := ?_) ?_ ?_); rotate_left; (focus (first | exact (g1) | exact (x1))); (conv => whnf); refine V.st ?_)
        exact Fin.of rfl
    · rw [Bool.eq_false_iff.2 h2] at r2
      have hp : okP s t = false := by unfold okP; rw [Bool.eq_false_iff.2 h2, Bool.and_false, Bool.false_and, Bool.false_and]
      rw [hp]
      refine jaa tbOk 6 ⟨Tryz.func63, rfl, rfl, jhO rfl⟩ ?_
      (conv => whnf)
      refine V.st ?_
      repeat ((try ((with_reducible refine .ext ?_); (conv => whnf))); (with_reducible refine jab (r := ?_) ?_ ?_); rotate_left; (focus (first | exact (r1) | exact (r2))); (conv => whnf); refine V.st ?_)
      exact Fin.of rfl
  · rw [Bool.eq_false_iff.2 h1] at r1
    have hp : okP s t = false := by unfold okP; rw [Bool.eq_false_iff.2 h1, Bool.false_and, Bool.false_and, Bool.false_and]
    rw [hp]
    refine jaa tbOk 6 ⟨Tryz.func63, rfl, rfl, jhO rfl⟩ ?_
    (conv => whnf)
    refine V.st ?_
    repeat ((try ((with_reducible refine .ext ?_); (conv => whnf))); (with_reducible refine jab (r := ?_) ?_ ?_); rotate_left; (focus (first | exact (r1) | exact (r2))); (conv => whnf); refine V.st ?_)
    refine Cnd.split (CondB.mk (fun hq => ?_) (fun hq => ?_))
    · (conv => whnf)
      refine V.st ?_
      exact Fin.of rfl
    · simp at hq
theorem q4_qv {s t : List UInt8} (h : okP s t = true) : Q4 151 (qv s t) := by
 obtain ⟨h1, h2, h3, h4⟩ := jfe h
 obtain ⟨p1, p2⟩ := jdR h
 exact ⟨by rw [p1]; exact jdr h1, by rw [p2]; exact (jdr h2).le (by omega)⟩
theorem in02_c (s t : List UInt8) (h : okP s t = true) : Called Tryz.prog 64 [.agg [.str s, .str t]] (raD (qv s t)) := by
 obtain ⟨h1, h2, h3, h4⟩ := jfe h
 obtain ⟨p1, p2⟩ := jdR h
 have i1 := in01_c s h1
 have i2 := in01_c t h2
 unfold raD
 rw [p1, p2]
 unfold plD at i1 i2
 rw [decide_eq_false (show ¬ wval t < 0 by omega)] at i2
 refine jaa tbOk 6 ⟨Tryz.func64, rfl, rfl, jhO rfl⟩ ?_
 (conv => whnf)
 refine V.st ?_
 refine ⟨(.take 0 (.take 1 (.take 3 (.take 4 (.ev (.cons 2 [4, 3] (.ev (.cons 5 [] (.take 6 (.ev (.cons 7 [] (.done) (.nil)))) (.nil))) (.nil))))))), [], ⟨by kernel_rfl, by kernel_rfl, by kernel_rfl, by kernel_rfl⟩, .go (jae ?_)⟩
 (conv => whnf)
 refine V.st ?_
 repeat ((try ((with_reducible refine .ext ?_); (conv => whnf))); (with_reducible refine jab (r := ?_) ?_ ?_); rotate_left; (focus (first | exact (i1) | exact (i2))); (conv => whnf); refine V.st ?_)
 exact Fin.of rfl
theorem jcs {s t : List UInt8} (h : okP s t = true) : s.length ≤ 281474976710656 ∧ t.length ≤ 281474976710656 := by
 obtain ⟨h1, h2, _, _⟩ := jfe h
 have l1 := (jbU h1).1
 have l2 := (jbU h2).1
 omega
theorem pow_4 (k : Nat) : (10000 : Nat) ^ k = 10 ^ (4 * k) := by rw [show (10000 : Nat) = 10 ^ 4 from rfl, ← Nat.pow_mul]
theorem sm_nat {x : Nat} {k : Nat} (hk : k ≤ 90000000) (h : x < 10 ^ (4 * k)) : (mg 10000 x).length ≤ 90000000 :=
 jh1 (jau (k := k) (by omega) (by rw [pow_4]; exact h)) hk
theorem sm_fq {n : Nat} {q : Rat} (h : Fq n q) (h6 : n ≤ 600) : Sm 90000000 q.num ∧ Sm 90000000 (q.den : Int) := by
 have h2 := h.mono (n := 4 * 150) (by omega)
 obtain ⟨k, hk⟩ : ∃ k, 150 = k := ⟨_, rfl⟩
 rw [hk] at h2
 exact ⟨sm_nat (by omega) h2.1, by unfold Sm; rw [jh8]; exact sm_nat (by omega) h2.2⟩
theorem radd (s t u v : List UInt8) (h : okP s t = true) (g : okP u v = true) (hn : Sm 90000000 (qv s t + qv u v).num) (hd : Sm 90000000 ((qv s t + qv u v).den : Int)) : Called Tryz.prog 49 [.agg [.str s, .str t], .agg [.str u, .str v]] (frR (qv s t + qv u v)) := by
 have r1 := jc6 s t (jcs h).1 (jcs h).2
 have r2 := jc6 u v (jcs g).1 (jcs g).2
 rw [h] at r1
 rw [g] at r2
 have i1 := in02_c s t h
 have i2 := in02_c u v g
 have o := plus02_c (qv s t) (qv u v) ((q4_qv h).mono (by omega)) ((q4_qv g).mono (by omega))
 have w := jfP (qv s t + qv u v) hn hd
 generalize qv s t + qv u v = q at *
 generalize qv s t = q1 at *
 generalize qv u v = q2 at *
 unfold frR at w ⊢
 refine jaa tbOk 6 ⟨Tryz.func49, rfl, rfl, jhO rfl⟩ ?_
 (conv => whnf)
 refine V.st ?_
 repeat ((try ((with_reducible refine .ext ?_); (conv => whnf))); (with_reducible refine jab (r := ?_) ?_ ?_); rotate_left; (focus (first | exact (r1) | exact (r2))); (conv => whnf); refine V.st ?_)
 refine ⟨(.take 0 (.take 2 (.ev (.cons 1 [2] (.ev (.cons 3 [] (.ev (.cons 4 [] (.ev (.cons 5 [] (.take 6 (.take 7 (.ev (.cons 8 [] (.take 9 (.done)) (.nil))))) (.nil))) (.nil))) (.nil))) (.nil))))), [], ⟨by kernel_rfl, by kernel_rfl, by kernel_rfl, by kernel_rfl⟩, .go (jae ?_)⟩
 (conv => whnf)
 refine V.st ?_
 repeat ((try ((with_reducible refine .ext ?_); (conv => whnf))); (with_reducible refine jab (r := ?_) ?_ ?_); rotate_left; (focus (first | exact (i1) | exact (i2) | exact (o) | exact (w))); (conv => whnf); refine V.st ?_)
 exact Fin.of rfl
theorem rmul (s t u v : List UInt8) (h : okP s t = true) (g : okP u v = true) (hn : Sm 90000000 (qv s t * qv u v).num) (hd : Sm 90000000 ((qv s t * qv u v).den : Int)) : Called Tryz.prog 50 [.agg [.str s, .str t], .agg [.str u, .str v]] (frR (qv s t * qv u v)) := by
 have r1 := jc6 s t (jcs h).1 (jcs h).2
 have r2 := jc6 u v (jcs g).1 (jcs g).2
 rw [h] at r1
 rw [g] at r2
 have i1 := in02_c s t h
 have i2 := in02_c u v g
 have o := times02_c (qv s t) (qv u v) ((q4_qv h).mono (by omega)) ((q4_qv g).mono (by omega))
 have w := jfP (qv s t * qv u v) hn hd
 generalize qv s t * qv u v = q at *
 generalize qv s t = q1 at *
 generalize qv u v = q2 at *
 unfold frR at w ⊢
 refine jaa tbOk 6 ⟨Tryz.func50, rfl, rfl, jhO rfl⟩ ?_
 (conv => whnf)
 refine V.st ?_
 repeat ((try ((with_reducible refine .ext ?_); (conv => whnf))); (with_reducible refine jab (r := ?_) ?_ ?_); rotate_left; (focus (first | exact (r1) | exact (r2))); (conv => whnf); refine V.st ?_)
 refine ⟨(.take 0 (.take 2 (.ev (.cons 1 [2] (.ev (.cons 3 [] (.ev (.cons 4 [] (.ev (.cons 5 [] (.take 6 (.take 7 (.ev (.cons 8 [] (.take 9 (.done)) (.nil))))) (.nil))) (.nil))) (.nil))) (.nil))))), [], ⟨by kernel_rfl, by kernel_rfl, by kernel_rfl, by kernel_rfl⟩, .go (jae ?_)⟩
 (conv => whnf)
 refine V.st ?_
 repeat ((try ((with_reducible refine .ext ?_); (conv => whnf))); (with_reducible refine jab (r := ?_) ?_ ?_); rotate_left; (focus (first | exact (i1) | exact (i2) | exact (o) | exact (w))); (conv => whnf); refine V.st ?_)
 exact Fin.of rfl
theorem zradd {a b : Nat} {p q : Rat} (h : Fq a p) (g : Fq b q) (ha : 0 < a) (hb : 0 < b) (hab : a + b + 1 ≤ 600) : Called Tryz.prog 49 [frT p, frT q] (.tup [frT (p + q), .int .i64 0]) := by
 obtain ⟨o1, e1⟩ := jaL (h.ok ha (by omega))
 obtain ⟨o2, e2⟩ := jaL (g.ok hb (by omega))
 have hs := h.add g
 have hm := sm_fq hs (by omega)
 have c := radd _ _ _ _ o1 o2 (by rw [e1, e2]; exact hm.1) (by rw [e1, e2]; exact hm.2)
 rw [e1, e2, jdi (hs.ok (by omega) (by omega))] at c
 exact c
theorem zrmul {a b : Nat} {p q : Rat} (h : Fq a p) (g : Fq b q) (ha : 0 < a) (hb : 0 < b) (hab : a + b + 1 ≤ 600) : Called Tryz.prog 50 [frT p, frT q] (.tup [frT (p * q), .int .i64 0]) := by
 obtain ⟨o1, e1⟩ := jaL (h.ok ha (by omega))
 obtain ⟨o2, e2⟩ := jaL (g.ok hb (by omega))
 have hs := h.mul g
 have hm := sm_fq hs (by omega)
 have c := rmul _ _ _ _ o1 o2 (by rw [e1, e2]; exact hm.1) (by rw [e1, e2]; exact hm.2)
 rw [e1, e2, jdi (hs.ok (by omega) (by omega))] at c
 exact c
theorem y_one : Fq 1 1 := ⟨by decide, by decide⟩
theorem y_small {n m : Int} (hn : -9223372036854775807 ≤ n ∧ n ≤ 9223372036854775807) (hm : 1 ≤ m ∧ m ≤ 9223372036854775807) : Fq 20 (Rat.divInt n m) := by
 obtain ⟨d, rfl⟩ : ∃ d : Nat, m = d := ⟨m.toNat, by omega⟩
 exact jaJ (by omega) (by omega) (by omega)
theorem y_of {n m : Int} (hn : -9223372036854775807 ≤ n ∧ n ≤ 9223372036854775807) (hm : 1 ≤ m ∧ m ≤ 9223372036854775807) : Called Tryz.prog 97 [.int .i64 n, .int .i64 m] (.tup [frT (Rat.divInt n m), .int .i64 0]) := by
 rw [← jdi ((y_small hn hm).ok (by omega) (by omega))]
 exact of_c n m (by simp [InR, V.lo, V.hi]; omega) (by simp [InR, V.lo, V.hi]; omega) (by omega)
theorem y_rof {n m : Int} (hn : -9223372036854775807 ≤ n ∧ n ≤ 9223372036854775807) (hm : 1 ≤ m ∧ m ≤ 9223372036854775807) : Called Tryz.prog 46 [.int .i64 n, .int .i64 m] (.tup [frT (Rat.divInt n m), .int .i64 0]) := by
 rw [← jdi ((y_small hn hm).ok (by omega) (by omega))]
 exact of02_c n m (by simp [InR, V.lo, V.hi]; omega) (by simp [InR, V.lo, V.hi]; omega) (by omega)
def sm (f : Nat → Rat) : Nat → Rat
 | 0 => 0
 | k + 1 => sm f k + f k
theorem jbc {f g : Nat → Rat} : ∀ {k : Nat}, (∀ i, i < k → f i = g i) → sm f k = sm g k
 | 0, _ => rfl
 | k + 1, h => by
  simp only [sm]
  rw [jbc (k := k) fun i hi => h i (by omega), h k (by omega)]
theorem jdD (f g : Nat → Rat) : ∀ k, sm (fun i => f i + g i) k = sm f k + sm g k
 | 0 => by simp only [sm]; grind
 | k + 1 => by
  simp only [sm]
  rw [jdD f g k]
  grind
theorem jea (c : Rat) (f : Nat → Rat) : ∀ k, sm (fun i => c * f i) k = c * sm f k
 | 0 => by simp only [sm]; grind
 | k + 1 => by
  simp only [sm]
  rw [jea c f k]
  grind
theorem jcB (c : Rat) : ∀ k : Nat, sm (fun _ => c) k = ((k : Int) : Rat) * c
 | 0 => by simp [sm]
 | k + 1 => by
  simp only [sm]
  rw [jcB c k, Int.natCast_add, Rat.intCast_add]
  grind
theorem jgb (R : Nat) : ∀ k, R ≤ k → sm (fun t => if t < R then 1 else 0) k = ((R : Int) : Rat)
 | 0, h => by
  have : R = 0 := by omega
  subst this
  simp [sm]
 | k + 1, h => by
  simp only [sm]
  by_cases e : R = k + 1
  ·subst e
   rw [if_pos (by omega), jbc (g := fun _ => 1) fun i hi => if_pos (by omega), jcB, Int.natCast_add, Rat.intCast_add]
   grind
  ·rw [if_neg (by omega), jgb R k (by omega)]
   grind
theorem sm_le {f g : Nat → Rat} : ∀ {k : Nat}, (∀ i, i < k → f i ≤ g i) → sm f k ≤ sm g k
 | 0, _ => Rat.le_refl
 | k + 1, h => by
  simp only [sm]
  have h1 := sm_le (k := k) fun i hi => h i (by omega)
  have h2 := h k (by omega)
  grind
theorem lvl {N b R t : Int} (hN : 0 < N) (h0 : 0 ≤ R) (h1 : R ≤ N) (t0 : 0 ≤ t) (t1 : t < N) : (b * N + R - 1 - t) / N + 1 = b + (if t < R then 1 else 0) := by
 by_cases h : t < R
 ·rw [if_pos h, show b * N + R - 1 - t = (R - 1 - t) + N * b by rw [jh5]; omega, Int.add_mul_ediv_left _ _ (by omega), Int.ediv_eq_zero_of_lt (by omega) (by omega)]
  omega
 ·rw [if_neg h, show b * N + R - 1 - t = (R - 1 - t + N) + N * (b - 1) by rw [Int.mul_sub, Int.mul_one, jh5]; omega, Int.add_mul_ediv_left _ _ (by omega), Int.ediv_eq_zero_of_lt (by omega) (by omega)]
  omega
def lvF (v : Int → Int → Int → Rat) (N : Nat) (P Q R : Int) : Rat := sm (fun t => v ((P - 1 - t) / N + 1) ((Q - 1 - t) / N + 1) ((R - 1 - t) / N + 1)) N
theorem jdA {N A B C : Nat} (hA : A ≤ N) (hB : B ≤ A) (hC : C ≤ B) (v0 v1 v2 v3 : Rat) :
  sm (fun t => if t < C then v3 else if t < B then v2 else if t < A then v1 else v0) N = (((N : Int) : Rat) - ((A : Int) : Rat)) * v0 + (((A : Int) : Rat) - ((B : Int) : Rat)) * v1 + (((B : Int) : Rat) - ((C : Int) : Rat)) * v2 + ((C : Int) : Rat) * v3 := by
 have e : ∀ t, (if t < C then v3 else if t < B then v2 else if t < A then v1 else v0) = v0 + ((v1 - v0) * (if t < A then 1 else 0) + ((v2 - v1) * (if t < B then 1 else 0) + (v3 - v2) * (if t < C then 1 else 0))) := fun t => by
  by_cases h1 : t < C
  ·rw [if_pos h1, if_pos h1, if_pos (show t < B by omega), if_pos (show t < A by omega)]; grind
  ·rw [if_neg h1, if_neg h1]
   by_cases h2 : t < B
   ·rw [if_pos h2, if_pos h2, if_pos (show t < A by omega)]; grind
   ·rw [if_neg h2, if_neg h2]
    by_cases h3 : t < A
    ·rw [if_pos h3, if_pos h3]; grind
    ·rw [if_neg h3, if_neg h3]; grind
 rw [jbc fun t _ => e t, jdD, jdD, jdD, jcB, jea, jea, jea, jgb A N hA, jgb B N (by omega), jgb C N (by omega)]
 grind
def ord3 (r0 r1 r2 : Rat) : List Int :=
 if r0 < r1 then (if r0 < r2 then (if r1 < r2 then [2, 1, 0] else [1, 2, 0]) else [1, 0, 2])
 else (if r1 < r2 then (if r0 < r2 then [2, 0, 1] else [0, 2, 1]) else [0, 1, 2])
def ord2 (r0 r1 : Rat) : List Int := if r0 < r1 then [1, 0] else [0, 1]
def sel (r0 r1 r2 : Rat) (i : Int) : Rat := if i = 0 then r0 else if i = 1 then r1 else r2
def bmp (b : Int × Int × Int) (i : Int) : Int × Int × Int := if i = 0 then (b.1 + 1, b.2.1, b.2.2) else if i = 1 then (b.1, b.2.1 + 1, b.2.2) else (b.1, b.2.1, b.2.2 + 1)
def vat (v : Int → Int → Int → Rat) (b : Int × Int × Int) : Rat := v b.1 b.2.1 b.2.2
def evO (v : Int → Int → Int → Rat) (b : Int × Int × Int) (r0 r1 r2 : Rat) (i j k : Int) : Rat :=
 (1 - sel r0 r1 r2 i) * vat v b + (sel r0 r1 r2 i - sel r0 r1 r2 j) * vat v (bmp b i) + (sel r0 r1 r2 j - sel r0 r1 r2 k) * vat v (bmp (bmp b i) j) + sel r0 r1 r2 k * vat v (bmp (bmp (bmp b i) j) k)
def evL (v : Int → Int → Int → Rat) (b : Int × Int × Int) (r0 r1 r2 : Rat) (o : List Int) : Rat := evO v b r0 r1 r2 (o.getD 0 0) (o.getD 1 0) (o.getD 2 0)
theorem lvlN {N R t : Nat} {b : Int} (hN : 0 < N) (h1 : R ≤ N) (t1 : t < N) : (b * N + R - 1 - t) / N + 1 = b + (if t < R then 1 else 0) := by
 have h := lvl (N := N) (b := b) (R := R) (t := t) (by omega) (by omega) (by omega) (by omega) (by omega)
 rw [h]
 by_cases g : t < R
 ·rw [if_pos g, if_pos (by omega)]
 ·rw [if_neg g, if_neg (by omega)]
theorem jcN {N : Nat} (h : 0 < N) : ((N : Int) : Rat) ≠ 0 := by
 intro e
 have : (N : Int) = 0 := by exact_mod_cast e
 omega
theorem ev_210 {N A0 A1 A2 : Nat} {b0 b1 b2 : Int} (hN : 0 < N) (hA : A2 ≤ N) (hB : A1 ≤ A2) (hC : A0 ≤ A1) (v : Int → Int → Int → Rat) :
  ((N : Int) : Rat) * evO v (b0, b1, b2) (((A0 : Int) : Rat) / ((N : Int) : Rat)) (((A1 : Int) : Rat) / ((N : Int) : Rat)) (((A2 : Int) : Rat) / ((N : Int) : Rat)) 2 1 0 = lvF v N (b0 * N + A0) (b1 * N + A1) (b2 * N + A2) := by
 have hz := jcN hN
 have key := jdA hA hB hC (v b0 b1 b2) (v b0 b1 (b2 + 1)) (v b0 (b1 + 1) (b2 + 1)) (v (b0 + 1) (b1 + 1) (b2 + 1))
 unfold lvF
 rw [jbc (g := fun t => if t < A0 then v (b0 + 1) (b1 + 1) (b2 + 1) else if t < A1 then v b0 (b1 + 1) (b2 + 1) else if t < A2 then v b0 b1 (b2 + 1) else v b0 b1 b2) fun t ht => by
  rw [lvlN hN (show A0 ≤ N by omega) ht, lvlN hN (show A1 ≤ N by omega) ht, lvlN hN (show A2 ≤ N by omega) ht]
  by_cases h1 : t < A0
  ·rw [if_pos h1, if_pos h1, if_pos (show t < A2 by omega), if_pos (show t < A1 by omega)]
  ·by_cases h2 : t < A1
   ·rw [if_neg h1, if_neg h1, if_pos h2, if_pos h2, if_pos (show t < A2 by omega)]
    simp only [jic]
   ·by_cases h3 : t < A2
    ·rw [if_neg h1, if_neg h1, if_neg h2, if_neg h2, if_pos h3, if_pos h3]
     simp only [jic]
    ·rw [if_neg h1, if_neg h1, if_neg h2, if_neg h2, if_neg h3, if_neg h3]
     simp only [jic], key]
 simp only [evO, sel, bmp, vat]
 simp
 generalize v b0 b1 b2 = w0
 generalize v b0 b1 (b2 + 1) = w1
 generalize v b0 (b1 + 1) (b2 + 1) = w2
 generalize v (b0 + 1) (b1 + 1) (b2 + 1) = w3
 grind
theorem ev_120 {N A0 A1 A2 : Nat} {b0 b1 b2 : Int} (hN : 0 < N) (hA : A1 ≤ N) (hB : A2 ≤ A1) (hC : A0 ≤ A2) (v : Int → Int → Int → Rat) :
  ((N : Int) : Rat) * evO v (b0, b1, b2) (((A0 : Int) : Rat) / ((N : Int) : Rat)) (((A1 : Int) : Rat) / ((N : Int) : Rat)) (((A2 : Int) : Rat) / ((N : Int) : Rat)) 1 2 0 = lvF v N (b0 * N + A0) (b1 * N + A1) (b2 * N + A2) := by
 have hz := jcN hN
 have key := jdA hA hB hC (v b0 b1 b2) (v b0 (b1 + 1) b2) (v b0 (b1 + 1) (b2 + 1)) (v (b0 + 1) (b1 + 1) (b2 + 1))
 unfold lvF
 rw [jbc (g := fun t => if t < A0 then v (b0 + 1) (b1 + 1) (b2 + 1) else if t < A2 then v b0 (b1 + 1) (b2 + 1) else if t < A1 then v b0 (b1 + 1) b2 else v b0 b1 b2) fun t ht => by
  rw [lvlN hN (show A0 ≤ N by omega) ht, lvlN hN (show A1 ≤ N by omega) ht, lvlN hN (show A2 ≤ N by omega) ht]
  by_cases h1 : t < A0
  ·rw [if_pos h1, if_pos h1, if_pos (show t < A1 by omega), if_pos (show t < A2 by omega)]
  ·by_cases h2 : t < A2
   ·rw [if_neg h1, if_neg h1, if_pos h2, if_pos h2, if_pos (show t < A1 by omega)]
    simp only [jic]
   ·by_cases h3 : t < A1
    ·rw [if_neg h1, if_neg h1, if_neg h2, if_neg h2, if_pos h3, if_pos h3]
     simp only [jic]
    ·rw [if_neg h1, if_neg h1, if_neg h2, if_neg h2, if_neg h3, if_neg h3]
     simp only [jic], key]
 simp only [evO, sel, bmp, vat]
 simp
 generalize v b0 b1 b2 = w0
 generalize v b0 (b1 + 1) b2 = w1
 generalize v b0 (b1 + 1) (b2 + 1) = w2
 generalize v (b0 + 1) (b1 + 1) (b2 + 1) = w3
 grind
theorem ev_102 {N A0 A1 A2 : Nat} {b0 b1 b2 : Int} (hN : 0 < N) (hA : A1 ≤ N) (hB : A0 ≤ A1) (hC : A2 ≤ A0) (v : Int → Int → Int → Rat) :
  ((N : Int) : Rat) * evO v (b0, b1, b2) (((A0 : Int) : Rat) / ((N : Int) : Rat)) (((A1 : Int) : Rat) / ((N : Int) : Rat)) (((A2 : Int) : Rat) / ((N : Int) : Rat)) 1 0 2 = lvF v N (b0 * N + A0) (b1 * N + A1) (b2 * N + A2) := by
 have hz := jcN hN
 have key := jdA hA hB hC (v b0 b1 b2) (v b0 (b1 + 1) b2) (v (b0 + 1) (b1 + 1) b2) (v (b0 + 1) (b1 + 1) (b2 + 1))
 unfold lvF
 rw [jbc (g := fun t => if t < A2 then v (b0 + 1) (b1 + 1) (b2 + 1) else if t < A0 then v (b0 + 1) (b1 + 1) b2 else if t < A1 then v b0 (b1 + 1) b2 else v b0 b1 b2) fun t ht => by
  rw [lvlN hN (show A0 ≤ N by omega) ht, lvlN hN (show A1 ≤ N by omega) ht, lvlN hN (show A2 ≤ N by omega) ht]
  by_cases h1 : t < A2
  ·rw [if_pos h1, if_pos h1, if_pos (show t < A1 by omega), if_pos (show t < A0 by omega)]
  ·by_cases h2 : t < A0
   ·rw [if_neg h1, if_neg h1, if_pos h2, if_pos h2, if_pos (show t < A1 by omega)]
    simp only [jic]
   ·by_cases h3 : t < A1
    ·rw [if_neg h1, if_neg h1, if_neg h2, if_neg h2, if_pos h3, if_pos h3]
     simp only [jic]
    ·rw [if_neg h1, if_neg h1, if_neg h2, if_neg h2, if_neg h3, if_neg h3]
     simp only [jic], key]
 simp only [evO, sel, bmp, vat]
 simp
 generalize v b0 b1 b2 = w0
 generalize v b0 (b1 + 1) b2 = w1
 generalize v (b0 + 1) (b1 + 1) b2 = w2
 generalize v (b0 + 1) (b1 + 1) (b2 + 1) = w3
 grind
theorem ev_201 {N A0 A1 A2 : Nat} {b0 b1 b2 : Int} (hN : 0 < N) (hA : A2 ≤ N) (hB : A0 ≤ A2) (hC : A1 ≤ A0) (v : Int → Int → Int → Rat) :
  ((N : Int) : Rat) * evO v (b0, b1, b2) (((A0 : Int) : Rat) / ((N : Int) : Rat)) (((A1 : Int) : Rat) / ((N : Int) : Rat)) (((A2 : Int) : Rat) / ((N : Int) : Rat)) 2 0 1 = lvF v N (b0 * N + A0) (b1 * N + A1) (b2 * N + A2) := by
 have hz := jcN hN
 have key := jdA hA hB hC (v b0 b1 b2) (v b0 b1 (b2 + 1)) (v (b0 + 1) b1 (b2 + 1)) (v (b0 + 1) (b1 + 1) (b2 + 1))
 unfold lvF
 rw [jbc (g := fun t => if t < A1 then v (b0 + 1) (b1 + 1) (b2 + 1) else if t < A0 then v (b0 + 1) b1 (b2 + 1) else if t < A2 then v b0 b1 (b2 + 1) else v b0 b1 b2) fun t ht => by
  rw [lvlN hN (show A0 ≤ N by omega) ht, lvlN hN (show A1 ≤ N by omega) ht, lvlN hN (show A2 ≤ N by omega) ht]
  by_cases h1 : t < A1
  ·rw [if_pos h1, if_pos h1, if_pos (show t < A2 by omega), if_pos (show t < A0 by omega)]
  ·by_cases h2 : t < A0
   ·rw [if_neg h1, if_neg h1, if_pos h2, if_pos h2, if_pos (show t < A2 by omega)]
    simp only [jic]
   ·by_cases h3 : t < A2
    ·rw [if_neg h1, if_neg h1, if_neg h2, if_neg h2, if_pos h3, if_pos h3]
     simp only [jic]
    ·rw [if_neg h1, if_neg h1, if_neg h2, if_neg h2, if_neg h3, if_neg h3]
     simp only [jic], key]
 simp only [evO, sel, bmp, vat]
 simp
 generalize v b0 b1 b2 = w0
 generalize v b0 b1 (b2 + 1) = w1
 generalize v (b0 + 1) b1 (b2 + 1) = w2
 generalize v (b0 + 1) (b1 + 1) (b2 + 1) = w3
 grind
theorem ev_021 {N A0 A1 A2 : Nat} {b0 b1 b2 : Int} (hN : 0 < N) (hA : A0 ≤ N) (hB : A2 ≤ A0) (hC : A1 ≤ A2) (v : Int → Int → Int → Rat) :
  ((N : Int) : Rat) * evO v (b0, b1, b2) (((A0 : Int) : Rat) / ((N : Int) : Rat)) (((A1 : Int) : Rat) / ((N : Int) : Rat)) (((A2 : Int) : Rat) / ((N : Int) : Rat)) 0 2 1 = lvF v N (b0 * N + A0) (b1 * N + A1) (b2 * N + A2) := by
 have hz := jcN hN
 have key := jdA hA hB hC (v b0 b1 b2) (v (b0 + 1) b1 b2) (v (b0 + 1) b1 (b2 + 1)) (v (b0 + 1) (b1 + 1) (b2 + 1))
 unfold lvF
 rw [jbc (g := fun t => if t < A1 then v (b0 + 1) (b1 + 1) (b2 + 1) else if t < A2 then v (b0 + 1) b1 (b2 + 1) else if t < A0 then v (b0 + 1) b1 b2 else v b0 b1 b2) fun t ht => by
  rw [lvlN hN (show A0 ≤ N by omega) ht, lvlN hN (show A1 ≤ N by omega) ht, lvlN hN (show A2 ≤ N by omega) ht]
  by_cases h1 : t < A1
  ·rw [if_pos h1, if_pos h1, if_pos (show t < A0 by omega), if_pos (show t < A2 by omega)]
  ·by_cases h2 : t < A2
   ·rw [if_neg h1, if_neg h1, if_pos h2, if_pos h2, if_pos (show t < A0 by omega)]
    simp only [jic]
   ·by_cases h3 : t < A0
    ·rw [if_neg h1, if_neg h1, if_neg h2, if_neg h2, if_pos h3, if_pos h3]
     simp only [jic]
    ·rw [if_neg h1, if_neg h1, if_neg h2, if_neg h2, if_neg h3, if_neg h3]
     simp only [jic], key]
 simp only [evO, sel, bmp, vat]
 simp
 generalize v b0 b1 b2 = w0
 generalize v (b0 + 1) b1 b2 = w1
 generalize v (b0 + 1) b1 (b2 + 1) = w2
 generalize v (b0 + 1) (b1 + 1) (b2 + 1) = w3
 grind
theorem ev_012 {N A0 A1 A2 : Nat} {b0 b1 b2 : Int} (hN : 0 < N) (hA : A0 ≤ N) (hB : A1 ≤ A0) (hC : A2 ≤ A1) (v : Int → Int → Int → Rat) :
  ((N : Int) : Rat) * evO v (b0, b1, b2) (((A0 : Int) : Rat) / ((N : Int) : Rat)) (((A1 : Int) : Rat) / ((N : Int) : Rat)) (((A2 : Int) : Rat) / ((N : Int) : Rat)) 0 1 2 = lvF v N (b0 * N + A0) (b1 * N + A1) (b2 * N + A2) := by
 have hz := jcN hN
 have key := jdA hA hB hC (v b0 b1 b2) (v (b0 + 1) b1 b2) (v (b0 + 1) (b1 + 1) b2) (v (b0 + 1) (b1 + 1) (b2 + 1))
 unfold lvF
 rw [jbc (g := fun t => if t < A2 then v (b0 + 1) (b1 + 1) (b2 + 1) else if t < A1 then v (b0 + 1) (b1 + 1) b2 else if t < A0 then v (b0 + 1) b1 b2 else v b0 b1 b2) fun t ht => by
  rw [lvlN hN (show A0 ≤ N by omega) ht, lvlN hN (show A1 ≤ N by omega) ht, lvlN hN (show A2 ≤ N by omega) ht]
  by_cases h1 : t < A2
  ·rw [if_pos h1, if_pos h1, if_pos (show t < A0 by omega), if_pos (show t < A1 by omega)]
  ·by_cases h2 : t < A1
   ·rw [if_neg h1, if_neg h1, if_pos h2, if_pos h2, if_pos (show t < A0 by omega)]
    simp only [jic]
   ·by_cases h3 : t < A0
    ·rw [if_neg h1, if_neg h1, if_neg h2, if_neg h2, if_pos h3, if_pos h3]
     simp only [jic]
    ·rw [if_neg h1, if_neg h1, if_neg h2, if_neg h2, if_neg h3, if_neg h3]
     simp only [jic], key]
 simp only [evO, sel, bmp, vat]
 simp
 generalize v b0 b1 b2 = w0
 generalize v (b0 + 1) b1 b2 = w1
 generalize v (b0 + 1) (b1 + 1) b2 = w2
 generalize v (b0 + 1) (b1 + 1) (b2 + 1) = w3
 grind
theorem rlt {N A B : Nat} (hN : 0 < N) : (((A : Int) : Rat) / ((N : Int) : Rat) < ((B : Int) : Rat) / ((N : Int) : Rat)) ↔ A < B := by
 have h1 : (0 : Rat) < ((N : Int) : Rat) := by exact_mod_cast (show (0 : Int) < N by omega)
 rw [Rat.div_lt_iff h1, Rat.div_mul_cancel (jcN hN)]
 constructor
 ·intro h
  have : (A : Int) < B := by exact_mod_cast h
  omega
 ·intro h
  exact_mod_cast (show (A : Int) < B by omega)
theorem ev_main {N A0 A1 A2 : Nat} {b0 b1 b2 : Int} (hN : 0 < N) (h0 : A0 ≤ N) (h1 : A1 ≤ N) (h2 : A2 ≤ N) (v : Int → Int → Int → Rat) :
  ((N : Int) : Rat) * evL v (b0, b1, b2) (((A0 : Int) : Rat) / ((N : Int) : Rat)) (((A1 : Int) : Rat) / ((N : Int) : Rat)) (((A2 : Int) : Rat) / ((N : Int) : Rat)) (ord3 (((A0 : Int) : Rat) / ((N : Int) : Rat)) (((A1 : Int) : Rat) / ((N : Int) : Rat)) (((A2 : Int) : Rat) / ((N : Int) : Rat))) = lvF v N (b0 * N + A0) (b1 * N + A1) (b2 * N + A2) := by
 unfold ord3
 simp only [rlt hN]
 by_cases c1 : A0 < A1
 ·rw [if_pos c1]
  by_cases c2 : A0 < A2
  ·rw [if_pos c2]
   by_cases c3 : A1 < A2
   ·rw [if_pos c3]
    exact ev_210 hN h2 (by omega) (by omega) v
   ·rw [if_neg c3]
    exact ev_120 hN h1 (by omega) (by omega) v
  ·rw [if_neg c2]
   exact ev_102 hN h1 (by omega) (by omega) v
 ·rw [if_neg c1]
  by_cases c3 : A1 < A2
  ·rw [if_pos c3]
   by_cases c2 : A0 < A2
   ·rw [if_pos c2]
    exact ev_201 hN h2 (by omega) (by omega) v
   ·rw [if_neg c2]
    exact ev_021 hN h0 (by omega) (by omega) v
  ·rw [if_neg c3]
   exact ev_012 hN h0 (by omega) (by omega) v
theorem split_N {N : Nat} (hN : 0 < N) (P : Int) : ∃ (b : Int) (A : Nat), A < N ∧ P = b * N + A := by
 have h1 := Int.emod_nonneg P (show (N : Int) ≠ 0 by omega)
 have h2 := jib P (show (0 : Int) < N by omega)
 have h3 := Int.mul_ediv_add_emod P N
 refine ⟨P / N, (P % N).toNat, by omega, ?_⟩
 rw [Int.toNat_of_nonneg h1, jh5]
 omega
theorem sm_up {N : Nat} (hN : 0 < N) (P : Int) : sm (fun t => (((P - 1 - t) / N + 1 : Int) : Rat)) N = (P : Rat) := by
 obtain ⟨b, A, hA, rfl⟩ := split_N hN P
 rw [jbc (g := fun t => (b : Rat) + (if t < A then 1 else 0)) fun t ht => by
  rw [lvlN hN (by omega) ht, Rat.intCast_add]
  by_cases h : t < A
  ·rw [if_pos h, if_pos h]; rfl
  ·rw [if_neg h, if_neg h]; rfl]
 rw [jdD, jcB, jgb A N (by omega), Rat.intCast_add, Rat.intCast_mul]
 grind
theorem lv_lin {N : Nat} (hN : 0 < N) (c s0 s1 s2 : Rat) (P Q R : Int) : lvF (fun i j k => c + s0 * (i : Rat) + s1 * (j : Rat) + s2 * (k : Rat)) N P Q R = ((N : Int) : Rat) * c + s0 * (P : Rat) + s1 * (Q : Rat) + s2 * (R : Rat) := by
 unfold lvF
 rw [jdD, jdD, jdD, jcB, jea, jea, jea, sm_up hN, sm_up hN, sm_up hN]
theorem lv_congr {N : Nat} {v w : Int → Int → Int → Rat} {P Q R : Int} (h : ∀ i j k : Int, (∃ t : Nat, t < N ∧ i = (P - 1 - t) / N + 1 ∧ j = (Q - 1 - t) / N + 1 ∧ k = (R - 1 - t) / N + 1) → v i j k = w i j k) : lvF v N P Q R = lvF w N P Q R :=
 jbc fun t ht => h _ _ _ ⟨t, ht, rfl, rfl, rfl⟩
theorem lv_le {N : Nat} {v w : Int → Int → Int → Rat} {P Q R : Int} (h : ∀ i j k : Int, (∃ t : Nat, t < N ∧ i = (P - 1 - t) / N + 1 ∧ j = (Q - 1 - t) / N + 1 ∧ k = (R - 1 - t) / N + 1) → v i j k ≤ w i j k) : lvF v N P Q R ≤ lvF w N P Q R :=
 sm_le fun t ht => h _ _ _ ⟨t, ht, rfl, rfl, rfl⟩
theorem lv_const (c : Rat) (N : Nat) (P Q R : Int) : lvF (fun _ _ _ => c) N P Q R = ((N : Int) : Rat) * c := jcB c N
theorem jfh {N t : Nat} {P m : Int} (hN : 0 < N) (ht : t < N) (h0 : 0 ≤ P) (h1 : P ≤ m * N) : 0 ≤ (P - 1 - t) / N + 1 ∧ (P - 1 - t) / N + 1 ≤ m := by
 have hN' : (0 : Int) < N := by omega
 constructor
 ·have : -1 ≤ (P - 1 - t) / N := (Int.le_ediv_iff_mul_le hN').2 (by omega)
  omega
 ·have : (P - 1 - t) / N < m := (Int.ediv_lt_iff_lt_mul hN').2 (by omega)
  omega
theorem at_N {N : Nat} {p : Rat} {P s : Int} (hN : 0 < N) (hP : (P : Rat) = ((N : Int) : Rat) * p) (h0 : 0 ≤ P) (h1 : P ≤ (s - 1) * N) (hs : 2 ≤ s) :
  ∃ A : Nat, A ≤ N ∧ P = (min p.floor (s - 2)) * N + A ∧ p - ((min p.floor (s - 2) : Int) : Rat) = ((A : Int) : Rat) / ((N : Int) : Rat) ∧ 0 ≤ min p.floor (s - 2) := by
 obtain ⟨b, B, hB, e⟩ := split_N hN P
 have hz := jcN hN
 have hNp : (0 : Rat) < ((N : Int) : Rat) := by exact_mod_cast (show (0 : Int) < N by omega)
 have hp : p = (P : Rat) / ((N : Int) : Rat) := by
  rw [hP]
  grind
 have hf : p.floor = b := by
  have l1 : (b : Rat) ≤ p := by
   rw [← Rat.not_lt, hp, Rat.div_lt_iff hNp, Rat.not_lt]
   rw [e, Rat.intCast_add, Rat.intCast_mul]
   have : (0 : Rat) ≤ ((B : Int) : Rat) := by exact_mod_cast (show (0 : Int) ≤ B by omega)
   grind
  have l2 : p < ((b + 1 : Int) : Rat) := by
   rw [hp, Rat.div_lt_iff hNp, e, Rat.intCast_add, Rat.intCast_mul, Rat.intCast_add]
   have : ((B : Int) : Rat) < ((N : Int) : Rat) := by exact_mod_cast (show (B : Int) < N by omega)
   grind
  have g1 := Rat.le_floor_iff.2 l1
  have g2 := Rat.floor_lt_iff.2 l2
  omega
 have b0 : 0 ≤ b := by
  rcases Int.lt_or_le b 0 with h | h
  ·exfalso
   have : b * N ≤ -1 * N := jhY (by omega) (by omega)
   omega
  ·exact h
 rw [hf]
 by_cases hm : b ≤ s - 2
 ·rw [show min b (s - 2) = b by omega]
  refine ⟨B, by omega, e, ?_, b0⟩
  rw [hp, e, Rat.intCast_add, Rat.intCast_mul]
  grind
 ·have hb : b = s - 1 := by
   have : (s - 1) * (N : Int) ≤ b * N := jhY (by omega) (by omega)
   rcases Int.lt_or_le (s - 1) b with h | h
   ·exfalso
    have : (s - 1 + 1) * (N : Int) ≤ b * N := jhY (by omega) (by omega)
    rw [jie, jif] at this
    omega
   ·omega
  have hB0 : B = 0 := by
   rw [hb] at e
   omega
  rw [show min b (s - 2) = s - 2 by omega]
  refine ⟨N, by omega, ?_, ?_, by omega⟩
  ·rw [e, hb, hB0, show s - 1 = (s - 2) + 1 by omega, jie, jif]
   omega
  ·rw [hp, e, hb, hB0, show s - 1 = (s - 2) + 1 by omega, Rat.intCast_add, Rat.intCast_mul, Rat.intCast_add]
   grind
def clQ (x : Rat) : Rat := if 1 < (if x < 0 then 0 else x) then 1 else (if x < 0 then 0 else x)
theorem clQ_bd (x : Rat) : 0 ≤ clQ x ∧ clQ x ≤ 1 := by
 unfold clQ
 have h01 : (0 : Rat) ≤ 1 := by decide
 by_cases h : x < 0
 ·rw [if_pos h]
  by_cases g : (1 : Rat) < 0
  ·rw [if_pos g]; exact ⟨h01, Rat.le_refl⟩
  ·rw [if_neg g]; exact ⟨Rat.le_refl, h01⟩
 ·rw [if_neg h]
  by_cases g : 1 < x
  ·rw [if_pos g]; exact ⟨h01, Rat.le_refl⟩
  ·rw [if_neg g]; exact ⟨Rat.not_lt.1 h, Rat.not_lt.1 g⟩
theorem clQ_id {x : Rat} (h0 : 0 ≤ x) (h1 : x ≤ 1) : clQ x = x := by
 unfold clQ
 rw [if_neg (Rat.not_lt.2 h0), if_neg (Rat.not_lt.2 h1)]
def gp (s : Int) (x : Rat) : Rat := clQ x * ((s - 1 : Int) : Rat)
def spB (s : Int) (x : Rat) : Int := min (gp s x).floor (s - 2)
def spR (s : Int) (x : Rat) : Rat := gp s x - ((spB s x : Int) : Rat)
def evF (s0 s1 s2 : Int) (v : Int → Int → Int → Rat) (x0 x1 x2 : Rat) : Rat :=
 evL v (spB s0 x0, spB s1 x1, spB s2 x2) (spR s0 x0) (spR s1 x1) (spR s2 x2) (ord3 (spR s0 x0) (spR s1 x1) (spR s2 x2))
theorem gp_bd {s : Int} (hs : 2 ≤ s) (x : Rat) : 0 ≤ gp s x ∧ gp s x ≤ ((s - 1 : Int) : Rat) := by
 have h := clQ_bd x
 have h1 : (0 : Rat) ≤ ((s - 1 : Int) : Rat) := by exact_mod_cast (show (0 : Int) ≤ s - 1 by omega)
 unfold gp
 refine ⟨Rat.mul_nonneg h.1 h1, ?_⟩
 have := Rat.mul_nonneg (show 0 ≤ 1 - clQ x by grind) h1
 grind
theorem np_pos {N : Nat} (hN : 0 < N) : (0 : Rat) < ((N : Int) : Rat) := by exact_mod_cast (show (0 : Int) < N by omega)
theorem P_bd {N : Nat} {s P : Int} {x : Rat} (hN : 0 < N) (hs : 2 ≤ s) (hP : (P : Rat) = ((N : Int) : Rat) * gp s x) : 0 ≤ P ∧ P ≤ (s - 1) * N := by
 have h := gp_bd hs x
 have hn := np_pos hN
 constructor
 ·have := Rat.mul_nonneg (Rat.le_of_lt hn) h.1
  rw [← hP] at this
  exact_mod_cast this
 ·have := Rat.mul_nonneg (Rat.le_of_lt hn) (show 0 ≤ ((s - 1 : Int) : Rat) - gp s x by grind)
  have e : (P : Rat) ≤ (((s - 1) * N : Int) : Rat) := by
   rw [Rat.intCast_mul]
   grind
  exact_mod_cast e
theorem ev_lv {N : Nat} {s0 s1 s2 P Q R : Int} {x0 x1 x2 : Rat} (hN : 0 < N) (hs : 2 ≤ s0 ∧ 2 ≤ s1 ∧ 2 ≤ s2) (h0 : (P : Rat) = ((N : Int) : Rat) * gp s0 x0) (h1 : (Q : Rat) = ((N : Int) : Rat) * gp s1 x1) (h2 : (R : Rat) = ((N : Int) : Rat) * gp s2 x2) (v : Int → Int → Int → Rat) :
  ((N : Int) : Rat) * evF s0 s1 s2 v x0 x1 x2 = lvF v N P Q R := by
 have b0 := P_bd hN hs.1 h0
 have b1 := P_bd hN hs.2.1 h1
 have b2 := P_bd hN hs.2.2 h2
 obtain ⟨A0, a0, e0, r0, _⟩ := at_N hN h0 b0.1 b0.2 hs.1
 obtain ⟨A1, a1, e1, r1, _⟩ := at_N hN h1 b1.1 b1.2 hs.2.1
 obtain ⟨A2, a2, e2, r2, _⟩ := at_N hN h2 b2.1 b2.2 hs.2.2
 have m := ev_main (b0 := spB s0 x0) (b1 := spB s1 x1) (b2 := spB s2 x2) hN a0 a1 a2 v
 unfold evF spR
 have f0 : gp s0 x0 - ((spB s0 x0 : Int) : Rat) = ((A0 : Int) : Rat) / ((N : Int) : Rat) := r0
 have f1 : gp s1 x1 - ((spB s1 x1 : Int) : Rat) = ((A1 : Int) : Rat) / ((N : Int) : Rat) := r1
 have f2 : gp s2 x2 - ((spB s2 x2 : Int) : Rat) = ((A2 : Int) : Rat) / ((N : Int) : Rat) := r2
 rw [f0, f1, f2, m]
 have g0 : P = spB s0 x0 * N + A0 := e0
 have g1 : Q = spB s1 x1 * N + A1 := e1
 have g2 : R = spB s2 x2 * N + A2 := e2
 rw [← g0, ← g1, ← g2]
theorem com_den : ∀ l : List Rat, ∃ N : Nat, 0 < N ∧ ∀ p ∈ l, ∃ P : Int, (P : Rat) = ((N : Int) : Rat) * p
 | [] => ⟨1, by decide, fun p hp => by cases hp⟩
 | q :: l => by
  obtain ⟨N, hN, h⟩ := com_den l
  refine ⟨N * q.den, Nat.mul_pos hN q.den_pos, fun p hp => ?_⟩
  rcases List.mem_cons.1 hp with e | e
  ·subst e
   refine ⟨N * p.num, ?_⟩
   have hd : ((p.den : Int) : Rat) * p = ((p.num : Int) : Rat) := by
    have h1 := jii p
    have hz := jcN p.den_pos
    rw [Rat.divInt_eq_div] at h1
    have : p = ((p.num : Int) : Rat) / ((p.den : Int) : Rat) := h1.symm
    conv => lhs; rhs; rw [this]
    rw [Rat.mul_comm, Rat.div_mul_cancel hz]
   rw [Rat.intCast_mul, jh3, Rat.intCast_mul, Rat.mul_assoc, hd]
  ·obtain ⟨P, hP⟩ := h p e
   refine ⟨q.den * P, ?_⟩
   rw [Rat.intCast_mul, hP, jh3, Rat.intCast_mul]
   grind
theorem com3 (a b c : Rat) : ∃ (N : Nat) (P Q R : Int), 0 < N ∧ (P : Rat) = ((N : Int) : Rat) * a ∧ (Q : Rat) = ((N : Int) : Rat) * b ∧ (R : Rat) = ((N : Int) : Rat) * c := by
 obtain ⟨N, hN, h⟩ := com_den [a, b, c]
 obtain ⟨P, hP⟩ := h a (by simp)
 obtain ⟨Q, hQ⟩ := h b (by simp)
 obtain ⟨R, hR⟩ := h c (by simp)
 exact ⟨N, P, Q, R, hN, hP, hQ, hR⟩
theorem canc {N : Nat} (hN : 0 < N) {a b : Rat} (h : ((N : Int) : Rat) * a = ((N : Int) : Rat) * b) : a = b := by
 have := jcN hN
 grind
theorem cancle {N : Nat} (hN : 0 < N) {a b : Rat} (h : ((N : Int) : Rat) * a ≤ ((N : Int) : Rat) * b) : a ≤ b := by
 rcases (Rat.le_total : a ≤ b ∨ b ≤ a) with g | g
 ·exact g
 ·by_cases e : a = b
  ·rw [e]; exact Rat.le_refl
  ·exfalso
   have hlt : b < a := Rat.lt_of_le_of_ne g fun h => e h.symm
   have := Rat.mul_pos (np_pos hN) (show 0 < a - b by grind)
   grind
theorem ev_lin {s0 s1 s2 : Int} (hs : 2 ≤ s0 ∧ 2 ≤ s1 ∧ 2 ≤ s2) (c a0 a1 a2 x0 x1 x2 : Rat) : evF s0 s1 s2 (fun i j k => c + a0 * (i : Rat) + a1 * (j : Rat) + a2 * (k : Rat)) x0 x1 x2 = c + a0 * gp s0 x0 + a1 * gp s1 x1 + a2 * gp s2 x2 := by
 obtain ⟨N, P, Q, R, hN, hP, hQ, hR⟩ := com3 (gp s0 x0) (gp s1 x1) (gp s2 x2)
 refine canc hN ?_
 rw [ev_lv hN hs hP hQ hR, lv_lin hN, hP, hQ, hR]
 grind
theorem ev_congr {s0 s1 s2 : Int} (hs : 2 ≤ s0 ∧ 2 ≤ s1 ∧ 2 ≤ s2) {v w : Int → Int → Int → Rat} (h : ∀ i j k : Int, 0 ≤ i ∧ i ≤ s0 - 1 → 0 ≤ j ∧ j ≤ s1 - 1 → 0 ≤ k ∧ k ≤ s2 - 1 → v i j k = w i j k) (x0 x1 x2 : Rat) : evF s0 s1 s2 v x0 x1 x2 = evF s0 s1 s2 w x0 x1 x2 := by
 obtain ⟨N, P, Q, R, hN, hP, hQ, hR⟩ := com3 (gp s0 x0) (gp s1 x1) (gp s2 x2)
 have b0 := P_bd hN hs.1 hP
 have b1 := P_bd hN hs.2.1 hQ
 have b2 := P_bd hN hs.2.2 hR
 refine canc hN ?_
 rw [ev_lv hN hs hP hQ hR, ev_lv hN hs hP hQ hR]
 refine lv_congr fun i j k hh => ?_
 obtain ⟨t, ht, rfl, rfl, rfl⟩ := hh
 exact h _ _ _ (jfh hN ht b0.1 b0.2) (jfh hN ht b1.1 b1.2) (jfh hN ht b2.1 b2.2)
theorem ev_bd {s0 s1 s2 : Int} (hs : 2 ≤ s0 ∧ 2 ≤ s1 ∧ 2 ≤ s2) {v : Int → Int → Int → Rat} {m M : Rat} (h : ∀ i j k : Int, 0 ≤ i ∧ i ≤ s0 - 1 → 0 ≤ j ∧ j ≤ s1 - 1 → 0 ≤ k ∧ k ≤ s2 - 1 → m ≤ v i j k ∧ v i j k ≤ M) (x0 x1 x2 : Rat) : m ≤ evF s0 s1 s2 v x0 x1 x2 ∧ evF s0 s1 s2 v x0 x1 x2 ≤ M := by
 obtain ⟨N, P, Q, R, hN, hP, hQ, hR⟩ := com3 (gp s0 x0) (gp s1 x1) (gp s2 x2)
 have b0 := P_bd hN hs.1 hP
 have b1 := P_bd hN hs.2.1 hQ
 have b2 := P_bd hN hs.2.2 hR
 have key : ∀ i j k : Int, (∃ t : Nat, t < N ∧ i = (P - 1 - t) / N + 1 ∧ j = (Q - 1 - t) / N + 1 ∧ k = (R - 1 - t) / N + 1) → m ≤ v i j k ∧ v i j k ≤ M := fun i j k hh => by
  obtain ⟨t, ht, rfl, rfl, rfl⟩ := hh
  exact h _ _ _ (jfh hN ht b0.1 b0.2) (jfh hN ht b1.1 b1.2) (jfh hN ht b2.1 b2.2)
 constructor
 ·refine cancle hN ?_
  rw [ev_lv hN hs hP hQ hR, ← lv_const m N P Q R]
  exact lv_le fun i j k hh => (key i j k hh).1
 ·refine cancle hN ?_
  rw [ev_lv hN hs hP hQ hR, ← lv_const M N P Q R]
  exact lv_le fun i j k hh => (key i j k hh).2
theorem jfb {n m : Int} (hn : -9223372036854775807 ≤ n ∧ n ≤ 9223372036854775807) (hm : 1 ≤ m ∧ m ≤ 9223372036854775807) : Called Tryz.prog 58 [.int .i64 n, .int .i64 m] (frT (Rat.divInt n m)) := by
 have c := y_of hn hm
 unfold frT at *
 generalize Rat.divInt n m = q at *
 refine jaa tbOk 6 ⟨Tryz.func58, rfl, rfl, jhO rfl⟩ ?_
 (conv => whnf)
 refine V.st ?_
 repeat ((try ((with_reducible refine .ext ?_); (conv => whnf))); (with_reducible refine jab (r := ?_) ?_ ?_); rotate_left; (focus (first | exact (c))); (conv => whnf); refine V.st ?_)
 exact Fin.of rfl
theorem int_q (n : Int) : Rat.divInt n 1 = (n : Rat) := by rw [Rat.divInt_eq_div]; grind
theorem jar {n : Int} (hn : -9223372036854775807 ≤ n ∧ n ≤ 9223372036854775807) : Called Tryz.prog 86 [.int .i64 n] (frT (n : Rat)) := by
 have c := jfb (n := n) (m := 1) hn (by omega)
 rw [int_q] at c
 unfold frT at *
 generalize (n : Rat) = q at *
 refine jaa tbOk 6 ⟨Tryz.func86, rfl, rfl, jhO rfl⟩ ?_
 (conv => whnf)
 refine V.st ?_
 repeat ((try ((with_reducible refine .ext ?_); (conv => whnf))); (with_reducible refine jab (r := ?_) ?_ ?_); rotate_left; (focus (first | exact (c))); (conv => whnf); refine V.st ?_)
 exact Fin.of rfl
theorem q9_of {n : Nat} {q : Rat} (h : Fq n q) (h0 : 0 < n ∧ n ≤ 600) : Q9 20000000 q := by
 obtain ⟨h1, e1⟩ := jaL (h.ok h0.1 h0.2)
 have := qsize h1
 rw [e1] at this
 exact this
theorem rd_q {n : Nat} {q : Rat} (h : Fq n q) (h0 : 0 < n ∧ n ≤ 600) : Called Tryz.prog 111 [frT q] (.tup [rtD q, .bool true]) := by
 obtain ⟨h1, e1⟩ := jaL (h.ok h0.1 h0.2)
 have r1 := jbj _ _ h1
 rw [e1] at r1
 exact r1
theorem fq_cl {n : Nat} {q : Rat} (h : Fq n q) (h0 : 0 < n) : Fq n (clQ q) := by
 have z : Fq n 0 := (show Fq 1 0 from ⟨by decide, by decide⟩).mono h0
 have o : Fq n 1 := y_one.mono h0
 unfold clQ
 by_cases h1 : q < 0
 ·rw [if_pos h1]
  split
  ·exact o
  ·exact z
 ·rw [if_neg h1]
  split
  ·exact o
  ·exact h
theorem fclamp_c {n : Nat} {q : Rat} (h : Fq n q) (h0 : 0 < n ∧ n ≤ 600) : Called Tryz.prog 160 [frT q, frT 0, frT 1] (.tup [frT (clQ q), .int .i64 0]) := by
 have fz : Fq 1 0 := ⟨by decide, by decide⟩
 have r0 := rd_q h h0
 have r1 := rd_q fz (by omega)
 have r2 := rd_q y_one (by omega)
 have q0 := q9_of h h0
 have q1 := q9_of fz (by omega)
 have q2 := q9_of y_one (by omega)
 have od := jfQ 0 1 (q1.1.mono (by omega)) (q2.1.mono (by omega)) (by have := q1.2; omega) (by have := q2.2; omega)
 have e : ordQ 0 1 = -1 := by decide +kernel
 rw [e] at od
 have g := greater_c q 0 q0 q1
 have q3 : Q9 20000000 (if q < 0 then 0 else q) := by
  split
  ·exact q1
  ·exact q0
 have l := lesser_c (if q < 0 then 0 else q) 1 q3 q2
 have fc := fq_cl h h0.1
 have ec : (if 1 < (if q < 0 then 0 else q) then 1 else (if q < 0 then 0 else q)) = clQ q := rfl
 rw [ec] at l
 have qc := q9_of fc h0
 have w := jdq (clQ q) (by have := qc.1; unfold S9 at this; omega) (by have := qc.2; omega)
 rw [jdi (fc.ok h0.1 h0.2)] at w
 clear h fc ec e q0 q1 q2 q3 qc fz
 generalize clQ q = c at *
 generalize (if q < 0 then 0 else q) = u at *
 generalize (0 : Rat) = zz at *
 generalize (1 : Rat) = oo at *
 unfold frT rtD at *
 refine jaa tbOk 6 ⟨Tryz.func160, rfl, rfl, jhO rfl⟩ ?_
 (conv => whnf)
 refine V.r4 @jhS r0 r1 r2 od ?_
 refine ⟨(.take 0 (.take 1 (.take 3 (.ev (.cons 2 [3] (.ev (.cons 4 [] (.ev (.cons 5 [] (.take 6 (.take 7 (.ev (.cons 8 [] (.take 9 (.done)) (.nil))))) (.nil))) (.nil))) (.nil)))))), [], ⟨by kernel_rfl, by kernel_rfl, by kernel_rfl, by kernel_rfl⟩, ?_⟩
 refine jac [(7, .int .i64 0)] [(6, .box [.str (decZ c.num), .str (dec c.den)])] ?_ ?_
 ·exact V.d3 @jhS g l w
 refine V.r0 @jhS ?_
 exact Fin.of rfl
theorem ffloor_c {n : Nat} {q : Rat} (h : Fq n q) (h0 : 0 < n ∧ n ≤ 600) : Called Tryz.prog 161 [frT q] (.tup [.str (decZ q.floor), .int .i64 0]) := by
 have r0 := rd_q h h0
 have q0 := q9_of h h0
 have f := floor_c q.num q.den q.den_pos (q0.1.mono (by omega)) (by have := q0.2; omega)
 rw [← Rat.floor_def] at f
 have hl : S9 20000000 q.floor := by
  rw [Rat.floor_def]
  refine q0.1.le ?_
  exact Int.natAbs_ediv_le_natAbs _ _
 unfold S9 at hl
 have t := jhb q.floor (by omega)
 generalize q.floor = z at *
 unfold frT at *
 unfold rtD at r0
 unfold itD at f t
 refine jaa tbOk 6 ⟨Tryz.func161, rfl, rfl, jhO rfl⟩ ?_
 (conv => whnf)
 refine V.r3 @jhS r0 f t ?_
 exact Fin.of rfl
theorem atoi_dig : ∀ z : Int, 0 ≤ z → z ≤ 9 → Go.Lib.atoi (decZ z) = some z := fun z h0 h1 => by
 have key : ∀ n ∈ List.range 10, Go.Lib.atoi (decZ ((n : Nat) : Int)) = some ((n : Nat) : Int) := by decide +kernel
 obtain ⟨n, rfl⟩ : ∃ n : Nat, z = (n : Int) := ⟨z.toNat, by omega⟩
 exact key n (List.mem_range.2 (by omega))
theorem atoi_len : ∀ z : Int, 0 ≤ z → z ≤ 9 → (decZ z).length ≤ 18 := fun z h0 h1 => by
 have key : ∀ n ∈ List.range 10, (decZ ((n : Nat) : Int)).length ≤ 18 := by decide +kernel
 obtain ⟨n, rfl⟩ : ∃ n : Nat, z = (n : Int) := ⟨z.toNat, by omega⟩
 exact key n (List.mem_range.2 (by omega))
theorem atoi_c {z : Int} (h0 : 0 ≤ z) (h1 : z ≤ 9) : Called Tryz.prog 162 [.str (decZ z)] (.tup [.int .i64 z, .val .nilIface]) := by
 refine jaU Tryz.func162 rfl rfl rfl fun w hp vs ha hd => ?_
 simp only [DenL, Den] at hd
 obtain ⟨v, _, rfl, ⟨rfl, h2⟩, rfl⟩ := hd
 refine (Tryz.strconv_Atoi ⟨(decZ z).toArray⟩ z (by have := atoi_len z h0 h1; simpa [ByteArray.size] using this) (by simpa using atoi_dig z h0 h1) w).mono fun e w' ⟨he, t, hw⟩ => ⟨⟨_, he, fun hp => ?_⟩, ?_⟩
 ·simp only [Den, DenL]
  exact ⟨_, rfl, _, _, rfl, ⟨rfl, by simp only [InR, V.lo, V.hi]; omega⟩, _, _, rfl, rfl, rfl⟩
 ·rw [hw]
  exact Go.Lib.bytesWorld_below w _ _
theorem floor_bd {p : Rat} {m : Int} (h0 : 0 ≤ p) (h1 : p ≤ (m : Rat)) : 0 ≤ p.floor ∧ p.floor ≤ m := by
 constructor
 ·exact Rat.le_floor_iff.2 (by exact_mod_cast h0)
 ·have : p < ((m + 1 : Int) : Rat) := by
   rw [Rat.intCast_add]
   have : (0 : Rat) < ((1 : Int) : Rat) := by decide
   grind
  have := Rat.floor_lt_iff.2 this
  omega
theorem jd9 {s : Int} (hs : 2 ≤ s) (x : Rat) : 0 ≤ spB s x ∧ spB s x ≤ s - 2 := by
 have h := gp_bd hs x
 have := floor_bd h.1 h.2
 unfold spB
 omega
theorem split_t (a b z0 z1 o0 o1 c0 c1 s0 s1 p0 p1 i0 i1 r0 r1 : List UInt8) (f : List UInt8) (s fl : Int) (hs : 2 ≤ s ∧ s ≤ 9) (hf : 0 ≤ fl ∧ fl ≤ 9) (iz : Called Tryz.prog 86 [.int .i64 0] (.agg [.str z0, .str z1])) (io : Called Tryz.prog 86 [.int .i64 1] (.agg [.str o0, .str o1]))
  (cl : Called Tryz.prog 160 [.agg [.str a, .str b], .agg [.str z0, .str z1], .agg [.str o0, .str o1]] (.tup [.agg [.str c0, .str c1], .int .i64 0])) (is : Called Tryz.prog 86 [.int .i64 (s - 1)] (.agg [.str s0, .str s1]))
  (mu : Called Tryz.prog 85 [.agg [.str c0, .str c1], .agg [.str s0, .str s1]] (.tup [.agg [.str p0, .str p1], .int .i64 0])) (fo : Called Tryz.prog 161 [.agg [.str p0, .str p1]] (.tup [.str f, .int .i64 0]))
  (at' : Called Tryz.prog 162 [.str f] (.tup [.int .i64 fl, .val .nilIface])) (ib : Called Tryz.prog 86 [.int .i64 (min fl (s - 2))] (.agg [.str i0, .str i1])) (sb : Called Tryz.prog 99 [.agg [.str p0, .str p1], .agg [.str i0, .str i1]] (.tup [.agg [.str r0, .str r1], .int .i64 0])) :
  Called Tryz.prog 124 [.agg [.str a, .str b], .int .i64 s] (.tup [.int .i64 (min fl (s - 2)), .agg [.str r0, .str r1], .int .i64 0]) := by
 refine jaa tbOk 6 ⟨Tryz.func124, rfl, rfl, jhO rfl⟩ ?_
 (conv => whnf)
 refine V.r0 @jhS ?_
 refine ⟨(.take 0 (.ev (.cons 1 [0] (.ev (.cons 2 [0] (.ev (.cons 3 [] (.take 4 (.take 5 (.take 6 (.ev (.cons 7 [6] (.take 8 (.done)) (.nil)))))) (.nil))) (.nil))) (.nil)))), [], ⟨by kernel_rfl, by kernel_rfl, by kernel_rfl, by kernel_rfl⟩, ?_⟩
 refine jac [(6, .int .i64 0)] [(2, .box [.str c0, .str c1])] ?_ ?_
 ·exact V.d3 @jhS iz io cl
 refine V.r0 @jhS ?_
 refine ⟨(.take 0 (.take 1 (.take 2 (.ev (.cons 3 [0] (.ev (.cons 4 [] (.take 5 (.take 6 (.take 7 (.ev (.cons 8 [7, 6, 5] (.ev (.cons 9 [7] (.take 10 (.done)) (.nil))) (.nil)))))) (.cons 8 [0] (.ev (.cons 4 [] (.take 5 (.take 6 (.take 7 (.ev (.cons 9 [7] (.take 10 (.done)) (.nil)))))) (.nil))) (.nil)))) (.cons 8 [2, 1, 0] (.ev (.cons 3 [0] (.ev (.cons 4 [] (.take 5 (.take 6 (.take 7 (.ev (.cons 9 [7] (.take 10 (.done)) (.nil)))))) (.nil))) (.nil))) (.nil))))))), [], ⟨by kernel_rfl, by kernel_rfl, by kernel_rfl, by kernel_rfl⟩, ?_⟩
 refine jac [(7, .box 7 0), (6, .int .i64 0)] [(7, .box [.str p0, .str p1])] ?_ ?_
 ·exact V.d2 @jhS is mu
 refine V.r2 @jhS fo at' ?_
 refine ⟨(.take 0 (.take 1 (.ev (.cons 2 [0] (.ev (.cons 3 [] (.take 4 (.take 5 (.take 6 (.ev (.cons 7 [6] (.take 8 (.done)) (.nil)))))) (.nil))) (.nil))))), [], ⟨by kernel_rfl, by kernel_rfl, by kernel_rfl, by kernel_rfl⟩, ?_⟩
 refine jac [(6, .int .i64 0)] [(5, .box [.str r0, .str r1])] ?_ ?_
 ·exact V.d2 @jhS ib sb
 refine V.r0 @jhS ?_
 refine ⟨(.take 0 (.take 1 (.take 2 (.ev (.cons 3 [2, 1] (.ev (.cons 4 [2] (.ev (.cons 5 [] (.done) (.nil))) (.nil))) (.nil)))))), [], ⟨by kernel_rfl, by kernel_rfl, by kernel_rfl, by kernel_rfl⟩, ?_⟩
 refine jac [(4, .int .i64 (min fl (s - 2))), (6, .int .i64 0)] [(5, .box [.str r0, .str r1])] ?_ ?_
 ·exact V.d0 @jhS
 refine V.r0 @jhS ?_
 exact Fin.of rfl
theorem jba {n : Nat} {z : Int} (h : z.natAbs < 10 ^ n) (h0 : 0 < n) : Fq n (z : Rat) := by
 have := jaJ (n := n) (x := z) (d := 1) (by omega) h (Nat.one_lt_pow (by omega) (by decide))
 rw [show (((1 : Nat) : Int)) = 1 from rfl, int_q] at this
 exact this
theorem jd8 {n : Nat} {x : Rat} {s : Int} (h : Fq n x) (h0 : 0 < n ∧ n ≤ 500) (hs : 2 ≤ s ∧ s ≤ 9) : Called Tryz.prog 124 [frT x, .int .i64 s] (.tup [.int .i64 (spB s x), frT (spR s x), .int .i64 0]) := by
 have h6 : 0 < n ∧ n ≤ 600 := by omega
 have fc := fq_cl h h0.1
 have iz := jar (n := 0) (by omega)
 have io := jar (n := 1) (by omega)
 rw [show ((0 : Int) : Rat) = 0 from rfl] at iz
 rw [show ((1 : Int) : Rat) = 1 from rfl] at io
 have is := jar (n := s - 1) (by omega)
 have fs : Fq 1 ((s - 1 : Int) : Rat) := jba (by omega) (by omega)
 have mu := zmul fc fs h0.1 (by omega) (by omega)
 have gb := gp_bd hs.1 x
 have fb : 0 ≤ (clQ x * ((s - 1 : Int) : Rat)).floor ∧ (clQ x * ((s - 1 : Int) : Rat)).floor ≤ s - 1 := floor_bd gb.1 gb.2
 have fb2 : 0 ≤ (gp s x).floor ∧ (gp s x).floor ≤ s - 1 := fb
 have fo := ffloor_c (fc.mul fs) (by omega)
 have bb := jd9 hs.1 x
 have ib := jar (n := spB s x) (by omega)
 have fi : Fq 1 ((spB s x : Int) : Rat) := jba (by omega) (by omega)
 have sb := zsub (fc.mul fs) fi (by omega) (by omega) (by omega)
 exact split_t _ _ _ _ _ _ _ _ _ _ _ _ _ _ _ _ _ s _ hs ⟨fb.1, by omega⟩ iz io (fclamp_c h h6) is mu fo (atoi_c fb.1 (by omega)) ib sb
end Go.Proofs.YtgjgpdceghjajaaGreatDoor
end
section
namespace Go.Proofs.YtgjgpdceghjajaaGreatDoor
theorem k0 : ((0 : Nat) : Int) = 0 := rfl
theorem k1 : ((1 : Nat) : Int) = 1 := rfl
theorem k2 : ((2 : Nat) : Int) = 2 := rfl
theorem k3 : ((3 : Nat) : Int) = 3 := rfl
theorem tn0 : (0 : Int).toNat = 0 := rfl
theorem tn1 : (1 : Int).toNat = 1 := rfl
theorem tn2 : (2 : Int).toNat = 2 := rfl
theorem tn3 : (3 : Int).toNat = 3 := rfl
end Go.Proofs.YtgjgpdceghjajaaGreatDoor
end
section
namespace Go.Proofs.YtgjgpdceghjajaaGreatDoor
open Go Go.V Go.Nb
def preZ (k : Nat) (l : List Int) : List Int := l.take k ++ List.replicate (l.length - k) 0
def insJ (w : Int → Int → Int) : Nat → List Int → List Int
 | 0, xs => xs
 | j + 1, xs => if w (xs.getD (j + 1) 0) (xs.getD j 0) < 0 then insJ w j ((xs.set (j + 1) (xs.getD j 0)).set j (xs.getD (j + 1) 0)) else xs
def isoK (w : Int → Int → Int) (xs : List Int) : Nat → List Int
 | 0 => xs
 | i + 1 => insJ w (i + 1) (isoK w xs i)
def Bel (n : Nat) (xs : List Int) : Prop := xs.length = n ∧ ∀ i, i < n → 0 ≤ xs.getD i 0 ∧ xs.getD i 0 < n
theorem jez (xs : List Int) (i k : Nat) (v : Int) (h : i < xs.length) : (xs.set i v).getD k 0 = if k = i then v else xs.getD k 0 := by
 rw [List.getD_eq_getElem?_getD, List.getElem?_set]
 by_cases e : i = k
 ·rw [if_pos e, if_pos h, if_pos e.symm]
  rfl
 ·rw [if_neg e, if_neg (fun h => e h.symm), List.getD_eq_getElem?_getD]
theorem jf5 {n : Nat} {xs : List Int} {j : Nat} (h : Bel n xs) (hj : j + 1 < n) : Bel n ((xs.set (j + 1) (xs.getD j 0)).set j (xs.getD (j + 1) 0)) := by
 refine ⟨by rw [List.length_set, List.length_set]; exact h.1, fun i hi => ?_⟩
 rw [jez _ _ _ _ (by rw [List.length_set, h.1]; omega)]
 by_cases e : i = j
 ·rw [if_pos e]; exact h.2 _ hj
 ·rw [if_neg e, jez _ _ _ _ (by rw [h.1]; omega)]
  by_cases e2 : i = j + 1
  ·rw [if_pos e2]; exact h.2 _ (by omega)
  ·rw [if_neg e2]; exact h.2 _ hi
theorem bel_ins (w : Int → Int → Int) {n : Nat} : ∀ (j : Nat) {xs : List Int}, j < n → Bel n xs → Bel n (insJ w j xs)
 | 0, _, _, h => h
 | j + 1, xs, hj, h => by
  simp only [insJ]
  split
  ·exact bel_ins w j (by omega) (jf5 h hj)
  ·exact h
theorem jhq (w : Int → Int → Int) {n : Nat} {xs : List Int} (h : Bel n xs) : ∀ i, i < n → Bel n (isoK w xs i)
 | 0, _ => h
 | i + 1, hi => bel_ins w (i + 1) hi (jhq w h i (by omega))
theorem tns (j : Nat) : ((j : Int) - 1).toNat = j - 1 := by omega
def wcl : Nat → D
 | 0 => .nil
 | k + 1 => .bsl 62 0 (k + 1) 2
def wce (W : Nat → Tx) : Nat → List D
 | 0 => []
 | k + 1 => wce W k ++ [.str (W k).1, .str (W k).2]
def wch (W : Nat → Tx) : Nat → Hp
 | 0 => []
 | k + 1 => [(62, .box (wce W (k + 1)))]
def preD (k : Nat) (l : List D) : List D := l.take k ++ List.replicate (l.length - k) (.str [])
end Go.Proofs.YtgjgpdceghjajaaGreatDoor
end
