/- What some functions of the program answer at values that mean given lists, texts and numbers, each proved of the program's own code: part 24. Conditions: those that each theorem names. -/
import Derived.Test.YtgjgpdceghjajaaGreatDoorSimplexKnownH23
import Derived.Test.YtgjgpdceghjajaaGreatDoorSimplexKnownH15
import Derived.Test.YtgjgpdceghjajaaGreatDoorSimplexKnownH21
import Derived.Test.YtgjgpdceghjajaaGreatDoorSimplexKnownH19
import Derived.Lib.BitFns
import Derived.Laws.Bits64b
import Derived.Test.YtgjgpdceghjajaaGreatDoorSimplexKnownH14
set_option linter.unusedSimpArgs false
set_option linter.unusedVariables false
set_option maxHeartbeats 8000000
set_option maxRecDepth 100000
section
namespace Go.Proofs.YtgjgpdceghjajaaGreatDoor
open Go Go.V Go.Nb
theorem off {p : Go.Program} {f : Nat} {ys : List D} {c : Bool} (hc : c = false) : c = true → Called p f ys (.int .i64 0) := fun h => by rw [hc] at h; cases h
def okP (s t : List UInt8) : Bool := okW s && okW t && decide (0 < wval t) && decide (Nat.gcd (wval s).natAbs (wval t).natAbs = 1)
def qv (s t : List UInt8) : Rat := Rat.divInt (wval s) (wval t)
theorem okP_of {s t : List UInt8} (h : okP s t = true) : okW s = true ∧ okW t = true ∧ 0 < wval t ∧ Nat.gcd (wval s).natAbs (wval t).natAbs = 1 := by
 unfold okP at h
 simp only [jhx, decide_eq_true_eq] at h
 exact ⟨h.1.1.1, h.1.1.2, h.1.2, h.2⟩
theorem qv_parts {s t : List UInt8} (h : okP s t = true) : (qv s t).num = wval s ∧ (qv s t).den = (wval t).natAbs := by
 obtain ⟨h1, h2, h3, h4⟩ := okP_of h
 have e : qv s t = Rat.divInt (wval s) ((wval t).natAbs : Nat) := by unfold qv; congr 1; omega
 rw [e]
 exact jcH _ _ (by omega) h4
theorem jfp {s t : List UInt8} (h : okP s t = true) : Q9 67 (qv s t) := by
 obtain ⟨h1, h2, h3, h4⟩ := okP_of h
 obtain ⟨p1, p2⟩ := qv_parts h
 exact ⟨by rw [p1]; exact len9 (jcq h1).2, by rw [p2]; exact len9 (jcq h2).2⟩
theorem rtD_qv {s t : List UInt8} (h : okP s t = true) : rtD (qv s t) = .agg [.ints .u32 (mg 1000000000 (wval s).natAbs), .bool (decide (wval s < 0)), .ints .u32 (mg 1000000000 (wval t).natAbs)] := by
 obtain ⟨p1, p2⟩ := qv_parts h
 unfold rtD
 rw [p1, p2]
theorem jbf (s t : List UInt8) (h : okP s t = true) : Called Tryz.prog 111 [.agg [.str s, .str t]] (.tup [rtD (qv s t), .bool true]) := by
 obtain ⟨h1, h2, h3, h4⟩ := okP_of h
 have l1 := jcq h1
 have l2 := jcq h2
 have k1 := len9 l1.2
 have k2 := len9 l2.2
 have c1 := jb3 s (by omega)
 have c2 := jb3 t (by omega)
 rw [h1, if_pos rfl] at c1
 rw [h2, if_pos rfl] at c2
 have n1 := jcB s h1
 have n2 := jcB t h2
 have s1 := sign_c (wval t)
 rw [jh0 h3] at s1
 have g1 := gcd_c (wval s).natAbs (wval t).natAbs (by omega) (by omega)
 rw [h4] at g1
 have o1 := jb2 1 1 (by decide) (by decide)
 rw [rtD_qv h]
 refine jaa tbOk 6 ⟨Tryz.func111, rfl, rfl, jhy rfl⟩ ?_
 (conv => whnf)
 refine V.st ?_
 repeat ((try ((with_reducible refine .ext ?_); (conv => whnf))); (with_reducible refine jab (r := ?_) ?_ ?_); rotate_left; (focus (first | exact (c1) | exact (c2))); (conv => whnf); refine V.st ?_)
 refine ⟨(.take 0 (.take 1 (.take 3 (.take 4 (.ev (.cons 2 [4, 3] (.ev (.cons 5 [] (.ev (.cons 6 [] (.ev (.cons 7 [] (.ev (.cons 8 [] (.ev (.cons 9 [] (.done) (.nil))) (.nil))) (.nil))) (.cons 7 [] (.ev (.cons 6 [] (.ev (.cons 8 [] (.ev (.cons 9 [] (.done) (.nil))) (.nil))) (.nil))) (.nil)))) (.cons 6 [4, 3] (.ev (.cons 5 [] (.ev (.cons 7 [] (.ev (.cons 8 [] (.ev (.cons 9 [] (.done) (.nil))) (.nil))) (.nil))) (.cons 7 [4, 3] (.ev (.cons 5 [] (.ev (.cons 8 [] (.ev (.cons 9 [] (.done) (.nil))) (.nil))) (.nil))) (.nil)))) (.cons 7 [4, 3] (.ev (.cons 5 [] (.ev (.cons 6 [] (.ev (.cons 8 [] (.ev (.cons 9 [] (.done) (.nil))) (.nil))) (.nil))) (.cons 6 [4, 3] (.ev (.cons 5 [] (.ev (.cons 8 [] (.ev (.cons 9 [] (.done) (.nil))) (.nil))) (.nil))) (.nil)))) (.nil))))) (.cons 6 [4, 3, 1, 0] (.ev (.cons 2 [4, 3] (.ev (.cons 5 [] (.ev (.cons 7 [] (.ev (.cons 8 [] (.ev (.cons 9 [] (.done) (.nil))) (.nil))) (.nil))) (.cons 7 [4, 3] (.ev (.cons 5 [] (.ev (.cons 8 [] (.ev (.cons 9 [] (.done) (.nil))) (.nil))) (.nil))) (.nil)))) (.cons 7 [4, 3, 1, 0] (.ev (.cons 2 [4, 3] (.ev (.cons 5 [] (.ev (.cons 8 [] (.ev (.cons 9 [] (.done) (.nil))) (.nil))) (.nil))) (.nil))) (.nil)))) (.cons 7 [4, 3, 1, 0] (.ev (.cons 2 [4, 3] (.ev (.cons 5 [] (.ev (.cons 6 [] (.ev (.cons 8 [] (.ev (.cons 9 [] (.done) (.nil))) (.nil))) (.nil))) (.cons 6 [4, 3] (.ev (.cons 5 [] (.ev (.cons 8 [] (.ev (.cons 9 [] (.done) (.nil))) (.nil))) (.nil))) (.nil)))) (.cons 6 [4, 3, 1, 0] (.ev (.cons 2 [4, 3] (.ev (.cons 5 [] (.ev (.cons 8 [] (.ev (.cons 9 [] (.done) (.nil))) (.nil))) (.nil))) (.nil))) (.nil)))) (.nil))))))))), [], ⟨by kernel_rfl, by kernel_rfl, by kernel_rfl, by kernel_rfl⟩, ?_⟩
 refine jac [(4, .box 4 0), (5, .box 5 0)] [(4, .box [.ints .u32 (mg 1000000000 (wval s).natAbs), .bool (decide (wval s < 0))]), (5, .box [.ints .u32 (mg 1000000000 (wval t).natAbs), .bool (decide (wval t < 0))])] ?_ ?_
 ·exact V.d2 @jhC n1 n2
 (conv => whnf)
 refine V.st ?_
 repeat ((try ((with_reducible refine .ext ?_); (conv => whnf))); (with_reducible refine jab (r := ?_) ?_ ?_); rotate_left; (focus (first | exact (s1) | exact (g1) | exact (o1))); (conv => whnf); refine V.st ?_)
 exact Fin.of rfl
theorem read_no (s t : List UInt8) (h : okP s t = false) (hs : s.length ≤ 281474976710656) (ht : t.length ≤ 281474976710656) : Called Tryz.prog 111 [.agg [.str s, .str t]] (.tup [.agg [.any, .any, .any], .bool false]) := by
 have c1 := jb3 s hs
 have c2 := jb3 t ht
 by_cases h1 : okW s = true
 ·rw [h1, if_pos rfl] at c1
  by_cases h2 : okW t = true
  ·rw [h2, if_pos rfl] at c2
   have l1 := jcq h1
   have l2 := jcq h2
   have k1 := len9 l1.2
   have k2 := len9 l2.2
   have n1 := jcB s h1
   have n2 := jcB t h2
   have s1 := sign_c (wval t)
   have g1 := gcd_c (wval s).natAbs (wval t).natAbs (by omega) (by omega)
   have gl : (mg 1000000000 (Nat.gcd (wval s).natAbs (wval t).natAbs)).length ≤ 67 := by
    rcases jhF (wval t).natAbs with e | e
    ·rw [e, Nat.gcd_zero_right]; exact k1
    ·exact jhL (jae (by omega) (Nat.gcd_le_right _ e)) k2
   have o1 := jb2 (Nat.gcd (wval s).natAbs (wval t).natAbs) 1 (by omega) (by decide)
   unfold okP at h
   rw [h1, h2, Bool.true_and, Bool.true_and] at h
   by_cases hp : 0 < wval t
   ·rw [decide_eq_true hp, Bool.true_and, decide_eq_false_iff_not] at h
    rw [jh0 hp] at s1
    refine jaa tbOk 6 ⟨Tryz.func111, rfl, rfl, jhy rfl⟩ ?_
    (conv => whnf)
    refine V.st ?_
    repeat ((try ((with_reducible refine .ext ?_); (conv => whnf))); (with_reducible refine jab (r := ?_) ?_ ?_); rotate_left; (focus (first | exact (c1) | exact (c2))); (conv => whnf); refine V.st ?_)
    refine ⟨(.take 0 (.take 1 (.take 3 (.take 4 (.ev (.cons 2 [4, 3] (.ev (.cons 5 [] (.ev (.cons 6 [] (.ev (.cons 7 [] (.ev (.cons 8 [] (.ev (.cons 9 [] (.done) (.nil))) (.nil))) (.nil))) (.cons 7 [] (.ev (.cons 6 [] (.ev (.cons 8 [] (.ev (.cons 9 [] (.done) (.nil))) (.nil))) (.nil))) (.nil)))) (.cons 6 [4, 3] (.ev (.cons 5 [] (.ev (.cons 7 [] (.ev (.cons 8 [] (.ev (.cons 9 [] (.done) (.nil))) (.nil))) (.nil))) (.cons 7 [4, 3] (.ev (.cons 5 [] (.ev (.cons 8 [] (.ev (.cons 9 [] (.done) (.nil))) (.nil))) (.nil))) (.nil)))) (.cons 7 [4, 3] (.ev (.cons 5 [] (.ev (.cons 6 [] (.ev (.cons 8 [] (.ev (.cons 9 [] (.done) (.nil))) (.nil))) (.nil))) (.cons 6 [4, 3] (.ev (.cons 5 [] (.ev (.cons 8 [] (.ev (.cons 9 [] (.done) (.nil))) (.nil))) (.nil))) (.nil)))) (.nil))))) (.cons 6 [4, 3, 1, 0] (.ev (.cons 2 [4, 3] (.ev (.cons 5 [] (.ev (.cons 7 [] (.ev (.cons 8 [] (.ev (.cons 9 [] (.done) (.nil))) (.nil))) (.nil))) (.cons 7 [4, 3] (.ev (.cons 5 [] (.ev (.cons 8 [] (.ev (.cons 9 [] (.done) (.nil))) (.nil))) (.nil))) (.nil)))) (.cons 7 [4, 3, 1, 0] (.ev (.cons 2 [4, 3] (.ev (.cons 5 [] (.ev (.cons 8 [] (.ev (.cons 9 [] (.done) (.nil))) (.nil))) (.nil))) (.nil))) (.nil)))) (.cons 7 [4, 3, 1, 0] (.ev (.cons 2 [4, 3] (.ev (.cons 5 [] (.ev (.cons 6 [] (.ev (.cons 8 [] (.ev (.cons 9 [] (.done) (.nil))) (.nil))) (.nil))) (.cons 6 [4, 3] (.ev (.cons 5 [] (.ev (.cons 8 [] (.ev (.cons 9 [] (.done) (.nil))) (.nil))) (.nil))) (.nil)))) (.cons 6 [4, 3, 1, 0] (.ev (.cons 2 [4, 3] (.ev (.cons 5 [] (.ev (.cons 8 [] (.ev (.cons 9 [] (.done) (.nil))) (.nil))) (.nil))) (.nil))) (.nil)))) (.nil))))))))), [], ⟨by kernel_rfl, by kernel_rfl, by kernel_rfl, by kernel_rfl⟩, ?_⟩
    refine jac [(4, .box 4 0), (5, .box 5 0)] [(4, .box [.ints .u32 (mg 1000000000 (wval s).natAbs), .bool (decide (wval s < 0))]), (5, .box [.ints .u32 (mg 1000000000 (wval t).natAbs), .bool (decide (wval t < 0))])] ?_ ?_
    ·exact V.d2 @jhC n1 n2
    (conv => whnf)
    refine V.st ?_
    repeat ((try ((with_reducible refine .ext ?_); (conv => whnf))); (with_reducible refine jab (r := ?_) ?_ ?_); rotate_left; (focus (first | exact (s1) | exact (g1) | exact (o1))); (conv => whnf); refine V.st ?_)
    refine Cnd.split (CondB.mk (fun hq => ?_) (fun hq => ?_))
    ·(conv => whnf)
     refine V.st ?_
     exact Fin.tup ⟨Fin.agg ⟨Fin.any' _, Fin.any' _, Fin.any' _, trivial⟩, Fin.of rfl, trivial⟩
    ·exfalso
     simp only [Bool.or_eq_false_iff, decide_eq_false_iff_not, Decidable.not_not] at hq
     apply h
     have h9 := Int.sign_eq_zero_iff_zero.1 hq.2
     omega
   ·have hs1 : (wval t).sign = 0 ∨ (wval t).sign = -1 := by
     rcases (by omega : wval t = 0 ∨ wval t < 0) with e | e
     ·rw [e]; exact .inl rfl
     ·exact .inr (jhZ e)
    rcases hs1 with e | e
    all_goals
     rw [e] at s1
     refine jaa tbOk 6 ⟨Tryz.func111, rfl, rfl, jhy rfl⟩ ?_
     (conv => whnf)
     refine V.st ?_
     repeat ((try ((with_reducible refine .ext ?_); (conv => whnf))); (with_reducible refine jab (r := ?_) ?_ ?_); rotate_left; (focus (first | exact (c1) | exact (c2))); (conv => whnf); refine V.st ?_)
     refine ⟨(.take 0 (.take 1 (.take 3 (.take 4 (.ev (.cons 2 [4, 3] (.ev (.cons 5 [] (.ev (.cons 6 [] (.ev (.cons 7 [] (.ev (.cons 8 [] (.ev (.cons 9 [] (.done) (.nil))) (.nil))) (.nil))) (.cons 7 [] (.ev (.cons 6 [] (.ev (.cons 8 [] (.ev (.cons 9 [] (.done) (.nil))) (.nil))) (.nil))) (.nil)))) (.cons 6 [4, 3] (.ev (.cons 5 [] (.ev (.cons 7 [] (.ev (.cons 8 [] (.ev (.cons 9 [] (.done) (.nil))) (.nil))) (.nil))) (.cons 7 [4, 3] (.ev (.cons 5 [] (.ev (.cons 8 [] (.ev (.cons 9 [] (.done) (.nil))) (.nil))) (.nil))) (.nil)))) (.cons 7 [4, 3] (.ev (.cons 5 [] (.ev (.cons 6 [] (.ev (.cons 8 [] (.ev (.cons 9 [] (.done) (.nil))) (.nil))) (.nil))) (.cons 6 [4, 3] (.ev (.cons 5 [] (.ev (.cons 8 [] (.ev (.cons 9 [] (.done) (.nil))) (.nil))) (.nil))) (.nil)))) (.nil))))) (.cons 6 [4, 3, 1, 0] (.ev (.cons 2 [4, 3] (.ev (.cons 5 [] (.ev (.cons 7 [] (.ev (.cons 8 [] (.ev (.cons 9 [] (.done) (.nil))) (.nil))) (.nil))) (.cons 7 [4, 3] (.ev (.cons 5 [] (.ev (.cons 8 [] (.ev (.cons 9 [] (.done) (.nil))) (.nil))) (.nil))) (.nil)))) (.cons 7 [4, 3, 1, 0] (.ev (.cons 2 [4, 3] (.ev (.cons 5 [] (.ev (.cons 8 [] (.ev (.cons 9 [] (.done) (.nil))) (.nil))) (.nil))) (.nil))) (.nil)))) (.cons 7 [4, 3, 1, 0] (.ev (.cons 2 [4, 3] (.ev (.cons 5 [] (.ev (.cons 6 [] (.ev (.cons 8 [] (.ev (.cons 9 [] (.done) (.nil))) (.nil))) (.nil))) (.cons 6 [4, 3] (.ev (.cons 5 [] (.ev (.cons 8 [] (.ev (.cons 9 [] (.done) (.nil))) (.nil))) (.nil))) (.nil)))) (.cons 6 [4, 3, 1, 0] (.ev (.cons 2 [4, 3] (.ev (.cons 5 [] (.ev (.cons 8 [] (.ev (.cons 9 [] (.done) (.nil))) (.nil))) (.nil))) (.nil))) (.nil)))) (.nil))))))))), [], ⟨by kernel_rfl, by kernel_rfl, by kernel_rfl, by kernel_rfl⟩, ?_⟩
     refine jac [(4, .box 4 0), (5, .box 5 0)] [(4, .box [.ints .u32 (mg 1000000000 (wval s).natAbs), .bool (decide (wval s < 0))]), (5, .box [.ints .u32 (mg 1000000000 (wval t).natAbs), .bool (decide (wval t < 0))])] ?_ ?_
     ·exact V.d2 @jhC n1 n2
     (conv => whnf)
     refine V.st ?_
     repeat ((try ((with_reducible refine .ext ?_); (conv => whnf))); (with_reducible refine jab (r := ?_) ?_ ?_); rotate_left; (focus (first | exact (s1) | exact (g1) | exact (o1))); (conv => whnf); refine V.st ?_)
     refine ⟨.int .i64 0, off rfl, ?_⟩
     (conv => whnf)
     refine V.st ?_
     exact Fin.tup ⟨Fin.agg ⟨Fin.any' _, Fin.any' _, Fin.any' _, trivial⟩, Fin.of rfl, trivial⟩
  ·rw [if_neg h2] at c2
   refine jaa tbOk 6 ⟨Tryz.func111, rfl, rfl, jhy rfl⟩ ?_
   (conv => whnf)
   refine V.st ?_
   repeat ((try ((with_reducible refine .ext ?_); (conv => whnf))); (with_reducible refine jab (r := ?_) ?_ ?_); rotate_left; (focus (first | exact (c1) | exact (c2))); (conv => whnf); refine V.st ?_)
   exact Fin.tup ⟨Fin.agg ⟨Fin.any' _, Fin.any' _, Fin.any' _, trivial⟩, Fin.of rfl, trivial⟩
 ·rw [if_neg h1] at c1
  refine jaa tbOk 6 ⟨Tryz.func111, rfl, rfl, jhy rfl⟩ ?_
  (conv => whnf)
  refine V.st ?_
  repeat ((try ((with_reducible refine .ext ?_); (conv => whnf))); (with_reducible refine jab (r := ?_) ?_ ?_); rotate_left; (focus (first | exact (c1) | exact (c2))); (conv => whnf); refine V.st ?_)
  refine Cnd.split (CondB.mk (fun hq => ?_) (fun hq => ?_))
  ·(conv => whnf)
   refine V.st ?_
   exact Fin.tup ⟨Fin.agg ⟨Fin.any' _, Fin.any' _, Fin.any' _, trivial⟩, Fin.of rfl, trivial⟩
  ·simp at hq
theorem fcheck_c (s t : List UInt8) (hs : s.length ≤ 281474976710656) (ht : t.length ≤ 281474976710656) : Called Tryz.prog 78 [.agg [.str s, .str t]] (.int .i64 (if okP s t then 0 else 20)) := by
 by_cases h : okP s t = true
 ·have r1 := jbf s t h
  rw [h, if_pos rfl]
  refine jaa tbOk 6 ⟨Tryz.func78, rfl, rfl, jhy rfl⟩ ?_
  (conv => whnf)
  refine V.st ?_
  repeat ((try ((with_reducible refine .ext ?_); (conv => whnf))); (with_reducible refine jab (r := ?_) ?_ ?_); rotate_left; (focus (first | exact (r1))); (conv => whnf); refine V.st ?_)
  exact Fin.of rfl
 ·have r1 := read_no s t (by simpa using h) hs ht
  rw [if_neg h]
  refine jaa tbOk 6 ⟨Tryz.func78, rfl, rfl, jhy rfl⟩ ?_
  (conv => whnf)
  refine V.st ?_
  repeat ((try ((with_reducible refine .ext ?_); (conv => whnf))); (with_reducible refine jab (r := ?_) ?_ ?_); rotate_left; (focus (first | exact (r1))); (conv => whnf); refine V.st ?_)
  exact Fin.of rfl
theorem qsize {s t : List UInt8} (h : okP s t = true) : Q9 20000000 (qv s t) := (jfp h).mono (by omega)
theorem qordS {s t : List UInt8} (h : okP s t = true) : S9 40000000 (qv s t).num ∧ (mg 1000000000 (qv s t).den).length ≤ 40000000 := ⟨(jfp h).1.mono (by omega), jhL (jfp h).2 (by omega)⟩
theorem fcmp_ok (s t u v : List UInt8) (h : okP s t = true) (g : okP u v = true) : Called Tryz.prog 127 [.agg [.str s, .str t], .agg [.str u, .str v]] (.tup [.int .i64 (ordQ (qv s t) (qv u v)), .int .i64 0]) := by
 have r1 := jbf s t h
 have r2 := jbf u v g
 have o := jfu (qv s t) (qv u v) (qordS h).1 (qordS g).1 (qordS h).2 (qordS g).2
 have ap : Called Tryz.prog 164 [.agg [.str s, .str t], .agg [.str u, .str v], .fn 165 [] []] (.tup [.int .i64 (ordQ (qv s t) (qv u v)), .int .i64 0]) := by
  refine jaa tbOk 6 ⟨Tryz.func164, rfl, rfl, jhy rfl⟩ ?_
  (conv => whnf)
  refine V.st ?_
  repeat ((try ((with_reducible refine .ext ?_); (conv => whnf))); (with_reducible refine jab (r := ?_) ?_ ?_); rotate_left; (focus (first | exact (r1) | exact (r2) | exact (o))); (conv => whnf); refine V.st ?_)
  exact Fin.of rfl
 refine jaa tbOk 6 ⟨Tryz.func127, rfl, rfl, jhy rfl⟩ ?_
 (conv => whnf)
 refine V.st ?_
 repeat ((try ((with_reducible refine .ext ?_); (conv => whnf))); (with_reducible refine jab (r := ?_) ?_ ?_); rotate_left; (focus (first | exact (ap))); (conv => whnf); refine V.st ?_)
 exact Fin.of rfl
def vb (lo hi : Int) : Bool := decide (-1000000000000000000 ≤ lo) && decide (lo ≤ hi) && decide (hi ≤ 1000000000000000000)
def bD (r : Int × Int × Int) : D := .tup [.agg [.int .i64 r.1, .int .i64 r.2.1], .int .i64 r.2.2]
def mk (lo hi : Int) : Int × Int × Int := if vb lo hi = true then (lo, hi, 0) else (0, 0, 6)
theorem jbq {lo hi : Int} : vb lo hi = true ↔ -1000000000000000000 ≤ lo ∧ lo ≤ hi ∧ hi ≤ 1000000000000000000 := by
 unfold vb; simp only [jhx, decide_eq_true_eq, and_assoc]
theorem jci (lo hi : Int) : Called Tryz.prog 95 [.int .i64 lo, .int .i64 hi] (.bool (vb lo hi)) := by
 refine jaa tbOk 6 ⟨Tryz.func95, rfl, rfl, jhy rfl⟩ ?_
 (conv => whnf)
 refine V.st ?_
 exact Fin.of rfl
theorem made_b (lo hi : Int) : Called Tryz.prog 96 [.int .i64 lo, .int .i64 hi] (bD (mk lo hi)) := by
 have h := jci lo hi
 unfold mk
 generalize vb lo hi = v at *
 refine jaa tbOk 6 ⟨Tryz.func96, rfl, rfl, jhy rfl⟩ ?_
 (conv => whnf)
 refine V.st ?_
 repeat ((try ((with_reducible refine .ext ?_); (conv => whnf))); (with_reducible refine jab (r := ?_) ?_ ?_); rotate_left; (focus (first | exact (h))); (conv => whnf); refine V.st ?_)
 refine Cnd.split (CondB.mk (fun hq => ?_) (fun hq => ?_))
 ·simp only [Bool.not_eq_true'] at hq
  subst hq
  (conv => whnf)
  refine V.st ?_
  exact Fin.of rfl
 ·simp only [Bool.not_eq_false'] at hq
  subst hq
  (conv => whnf)
  refine V.st ?_
  exact Fin.of rfl
theorem ckb3_ok (g : Nat) (p q m n0 : Int) (x y e : Int) (n : Nat) (f : Nat → List D) (a c : Nat → Int) (hf : ∀ j, j < n → f j = [.int .i64 (a j), .int .i64 (c j)]) (hn : n < 1000)
  (hv : ∀ j, j < n → vb (a j) (c j) = true) (hg : Called Tryz.prog g [.ref [.int .i64 m], .ref [.int .i64 n0], .ref [.int .i64 p, .int .i64 q]] (bD (x, y, e))) :
  Called Tryz.prog 93 [.fn g [] [.ref [.int .i64 m], .ref [.int .i64 n0], .ref [.int .i64 p, .int .i64 q]], .slf 2 n f] (bD (x, y, e)) := by
 refine jaa tbOk 6 ⟨Tryz.func93, rfl, rfl, jhy rfl⟩ ?_
 (conv => whnf)
 refine V.st ?_
 refine jah (0 : Nat) (fun k => k ≤ n) (fun k => n - k) (fun k => [(11, .int .i64 k)]) (fun _ => []) ?_ ?_ ?_
 ·exact V.wk
 ·exact jhz _
 intro k hk
 have hkc : ((k : Int) + 1) = ((k + 1 : Nat) : Int) := by omega
 have hfk := hf k
 have hvk := hv k
 have hvc := jci (a k) (c k)
 (conv => whnf)
 refine V.st ?_
 refine Cnd.split (CondB.mk (fun hq => ?_) (fun hq => ?_))
 ·rw [decide_eq_true_eq] at hq
  rw [hvk (by omega)] at hvc
  (conv => whnf)
  (try simp only [jhD, hfk (by omega), hkc])
  repeat ((first | refine V.s1 ?_); (try simp only [jhD, hfk (by omega), hkc]))
  (conv => whnf)
  refine And.intro (fun _ => ⟨by omega, by omega⟩) ?_
  refine V.r1 hkc hvc ?_
  exact ⟨k + 1, by omega, by omega, V.wk⟩
 ·rw [decide_eq_false_iff_not] at hq
  (conv => whnf)
  refine V.st ?_
  repeat ((try ((with_reducible refine .ext ?_); (conv => whnf))); (with_reducible refine jab (r := ?_) ?_ ?_); rotate_left; (focus (first | exact (hg))); (conv => whnf); refine V.st ?_)
  exact Fin.of rfl
theorem ckb3_no (g : Nat) (p q m n0 : Int) (x y e : Int) (n : Nat) (f : Nat → List D) (a c : Nat → Int) (hf : ∀ j, j < n → f j = [.int .i64 (a j), .int .i64 (c j)]) (hn : n < 1000)
  (hv : ∃ j, j < n ∧ vb (a j) (c j) = false) :
  Called Tryz.prog 93 [.fn g [] [.ref [.int .i64 m], .ref [.int .i64 n0], .ref [.int .i64 p, .int .i64 q]], .slf 2 n f] (bD (0, 0, 30)) := by
 refine jaa tbOk 6 ⟨Tryz.func93, rfl, rfl, jhy rfl⟩ ?_
 (conv => whnf)
 refine V.st ?_
 refine jah (0 : Nat) (fun k => k ≤ n ∧ ∀ j, j < k → vb (a j) (c j) = true) (fun k => n - k) (fun k => [(11, .int .i64 k)]) (fun _ => []) ?_ ?_ ?_
 ·exact V.wk
 ·exact ⟨jhz _, fun j hj => by omega⟩
 intro k hk
 have hkc : ((k : Int) + 1) = ((k + 1 : Nat) : Int) := by omega
 have hfk := hf k
 have hvc := jci (a k) (c k)
 (conv => whnf)
 refine V.st ?_
 refine Cnd.split (CondB.mk (fun hq => ?_) (fun hq => ?_))
 ·rw [decide_eq_true_eq] at hq
  generalize hvv : vb (a k) (c k) = v at *
  (conv => whnf)
  (try simp only [jhD, hfk (by omega), hkc])
  repeat ((first | refine V.s1 ?_); (try simp only [jhD, hfk (by omega), hkc]))
  (conv => whnf)
  refine And.intro (fun _ => ⟨by omega, by omega⟩) ?_
  refine V.r1 hkc hvc ?_
  refine Cnd.split (CondB.mk (fun hz => ?_) (fun hz => ?_))
  ·refine V.r0 hkc ?_
   exact Fin.of rfl
  ·simp only [Bool.not_eq_false'] at hz
   refine V.r0 hkc ?_
   exact ⟨k + 1, ⟨by omega, fun j hj => by
    rcases jhK j k with h | h
    ·exact hk.2 j h
    ·rw [show j = k by omega, hvv, hz]⟩, by omega, V.wk⟩
 ·rw [decide_eq_false_iff_not] at hq
  obtain ⟨j, hj, hv⟩ := hv
  rw [hk.2 j (by omega)] at hv
  cases hv
theorem ckb4_ok (g : Nat) (p q p2 q2 m : Int) (x y e : Int) (n : Nat) (f : Nat → List D) (a c : Nat → Int) (hf : ∀ j, j < n → f j = [.int .i64 (a j), .int .i64 (c j)]) (hn : n < 1000)
  (hv : ∀ j, j < n → vb (a j) (c j) = true) (hg : Called Tryz.prog g [.ref [.int .i64 p, .int .i64 q], .ref [.int .i64 p2, .int .i64 q2], .ref [.int .i64 m]] (bD (x, y, e))) :
  Called Tryz.prog 93 [.fn g [] [.ref [.int .i64 p, .int .i64 q], .ref [.int .i64 p2, .int .i64 q2], .ref [.int .i64 m]], .slf 2 n f] (bD (x, y, e)) := by
 refine jaa tbOk 6 ⟨Tryz.func93, rfl, rfl, jhy rfl⟩ ?_
 (conv => whnf)
 refine V.st ?_
 refine jah (0 : Nat) (fun k => k ≤ n) (fun k => n - k) (fun k => [(11, .int .i64 k)]) (fun _ => []) ?_ ?_ ?_
 ·exact V.wk
 ·exact jhz _
 intro k hk
 have hkc : ((k : Int) + 1) = ((k + 1 : Nat) : Int) := by omega
 have hfk := hf k
 have hvk := hv k
 have hvc := jci (a k) (c k)
 (conv => whnf)
 refine V.st ?_
 refine Cnd.split (CondB.mk (fun hq => ?_) (fun hq => ?_))
 ·rw [decide_eq_true_eq] at hq
  rw [hvk (by omega)] at hvc
  (conv => whnf)
  (try simp only [jhD, hfk (by omega), hkc])
  repeat ((first | refine V.s1 ?_); (try simp only [jhD, hfk (by omega), hkc]))
  (conv => whnf)
  refine And.intro (fun _ => ⟨by omega, by omega⟩) ?_
  refine V.r1 hkc hvc ?_
  exact ⟨k + 1, by omega, by omega, V.wk⟩
 ·rw [decide_eq_false_iff_not] at hq
  (conv => whnf)
  refine V.st ?_
  repeat ((try ((with_reducible refine .ext ?_); (conv => whnf))); (with_reducible refine jab (r := ?_) ?_ ?_); rotate_left; (focus (first | exact (hg))); (conv => whnf); refine V.st ?_)
  exact Fin.of rfl
theorem ckb4_no (g : Nat) (p q p2 q2 m : Int) (x y e : Int) (n : Nat) (f : Nat → List D) (a c : Nat → Int) (hf : ∀ j, j < n → f j = [.int .i64 (a j), .int .i64 (c j)]) (hn : n < 1000)
  (hv : ∃ j, j < n ∧ vb (a j) (c j) = false) :
  Called Tryz.prog 93 [.fn g [] [.ref [.int .i64 p, .int .i64 q], .ref [.int .i64 p2, .int .i64 q2], .ref [.int .i64 m]], .slf 2 n f] (bD (0, 0, 30)) := by
 refine jaa tbOk 6 ⟨Tryz.func93, rfl, rfl, jhy rfl⟩ ?_
 (conv => whnf)
 refine V.st ?_
 refine jah (0 : Nat) (fun k => k ≤ n ∧ ∀ j, j < k → vb (a j) (c j) = true) (fun k => n - k) (fun k => [(11, .int .i64 k)]) (fun _ => []) ?_ ?_ ?_
 ·exact V.wk
 ·exact ⟨jhz _, fun j hj => by omega⟩
 intro k hk
 have hkc : ((k : Int) + 1) = ((k + 1 : Nat) : Int) := by omega
 have hfk := hf k
 have hvc := jci (a k) (c k)
 (conv => whnf)
 refine V.st ?_
 refine Cnd.split (CondB.mk (fun hq => ?_) (fun hq => ?_))
 ·rw [decide_eq_true_eq] at hq
  generalize hvv : vb (a k) (c k) = v at *
  (conv => whnf)
  (try simp only [jhD, hfk (by omega), hkc])
  repeat ((first | refine V.s1 ?_); (try simp only [jhD, hfk (by omega), hkc]))
  (conv => whnf)
  refine And.intro (fun _ => ⟨by omega, by omega⟩) ?_
  refine V.r1 hkc hvc ?_
  refine Cnd.split (CondB.mk (fun hz => ?_) (fun hz => ?_))
  ·refine V.r0 hkc ?_
   exact Fin.of rfl
  ·simp only [Bool.not_eq_false'] at hz
   refine V.r0 hkc ?_
   exact ⟨k + 1, ⟨by omega, fun j hj => by
    rcases jhK j k with h | h
    ·exact hk.2 j h
    ·rw [show j = k by omega, hvv, hz]⟩, by omega, V.wk⟩
 ·rw [decide_eq_false_iff_not] at hq
  obtain ⟨j, hj, hv⟩ := hv
  rw [hk.2 j (by omega)] at hv
  cases hv
def bA (p q : Int) : D := .agg [.int .i64 p, .int .i64 q]
def l1 (p q : Int) : Nat → List D := fun j => List.take 2 (List.drop (0 + j * 2) [.int .i64 p, .int .i64 q])
def l2 (p q p2 q2 : Int) : Nat → List D := fun j => List.take 2 (List.drop (0 + j * 2) [.int .i64 p, .int .i64 q, .int .i64 p2, .int .i64 q2])
theorem l1_c (p q : Int) : ∀ j, j < 1 → l1 p q j = [.int .i64 ((fun _ => p) j), .int .i64 ((fun _ => q) j)] := fun j hj => by
 have h0 : j = 0 := by omega
 subst h0; rfl
def sel_o (x y : Int) : Nat → Int := fun j => if j = 0 then x else y
theorem l2_c (p q p2 q2 : Int) : ∀ j, j < 2 → l2 p q p2 q2 j = [.int .i64 (sel_o p p2 j), .int .i64 (sel_o q q2 j)] := fun j hj => by
 rcases (by omega : j = 0 ∨ j = 1) with e | e
 ·subst e; rfl
 ·subst e; rfl
theorem sel_ok {p q p2 q2 : Int} (h : vb p q = true) (h2 : vb p2 q2 = true) : ∀ j, j < 2 → vb (sel_o p p2 j) (sel_o q q2 j) = true := fun j hj => by
 rcases (by omega : j = 0 ∨ j = 1) with e | e
 ·subst e; exact h
 ·subst e; exact h2
theorem sel_no {p q p2 q2 : Int} (h : ¬ (vb p q = true ∧ vb p2 q2 = true)) : ∃ j, j < 2 ∧ vb (sel_o p p2 j) (sel_o q q2 j) = false := by
 by_cases h1 : vb p q = true
 ·have h3 : ¬ vb p2 q2 = true := fun h2 => h ⟨h1, h2⟩
  exact ⟨1, by omega, Bool.eq_false_iff.2 h3⟩
 ·exact ⟨0, by omega, Bool.eq_false_iff.2 h1⟩
theorem one_no {p q : Int} (h : ¬ vb p q = true) : ∃ j, j < 1 ∧ vb ((fun _ => p) j) ((fun _ => q) j) = false := ⟨0, by omega, Bool.eq_false_iff.2 h⟩
def mx : List Int → Int
 | [] => 0
 | x :: xs => xs.foldl max x
theorem jeT {op : Int → Int → Int} {x : Int} {xs : List Int} {k : Nat} (h : k < xs.length) : (xs.take (k + 1)).foldl op x = op ((xs.take k).foldl op x) (xs.getD k 0) := by
 rw [List.take_add_one, List.foldl_append, List.getD_eq_getElem?_getD, List.getElem?_eq_getElem h]
 rfl
theorem zC3_0 : type_of% @List.getD_cons_succ.{0} ∧ type_of% @List.length_cons.{0} := ⟨@List.getD_cons_succ.{0}, @List.length_cons.{0}⟩
theorem minS_c (x : Int) (xs : List Int) (hl : xs.length < 1000) : Called Tryz.prog 199 [.ints .i64 (x :: xs)] (.int .i64 (xs.foldl min x)) := by
 refine jaa tbOk 6 ⟨Tryz.func199, rfl, rfl, jhy rfl⟩ ?_
 (conv => whnf)
 refine V.st ?_
 refine Cnd.split (CondB.mk (fun h0 => ?_) (fun h0 => ?_))
 ·rw [decide_eq_true_eq, List.length_cons] at h0
  omega
 ·refine V.r0 @List.length_cons.{0} ?_
  refine jah (0 : Nat) (fun k => k ≤ xs.length) (fun k => xs.length - k) (fun k => [(4, .int .i64 ((k + 1 : Nat) : Int)), (3, .int .i64 ((xs.take k).foldl min x))]) (fun _ => []) ?_ ?_ ?_
  ·exact V.wk
  ·exact jhz _
  intro k hk
  have hkc : (((k + 1 : Nat) : Int) + 1) = ((k + 1 + 1 : Nat) : Int) := by omega
  have hi : ((k + 1 : Nat) : Int).toNat = k + 1 := by omega
  refine V.r0 (V.a3 zC3_0 hkc @hi) ?_
  refine Cnd.split (CondB.mk (fun hq => ?_) (fun hq => ?_))
  ·rw [decide_eq_true_eq] at hq
   have ht := jeT (op := min) (x := x) (xs := xs) (k := k) (by omega)
   refine V.r0 (V.a3 zC3_0 hkc @hi) ?_
   refine ⟨k + 1, by omega, by omega, ?_⟩
   rw [ht]
   exact V.wk
  ·rw [decide_eq_false_iff_not] at hq
   have hk2 : k = xs.length := by omega
   refine V.r0 (V.a2 hk2 @List.take_length.{0}) ?_
   exact Fin.of rfl
theorem maxS_c (x : Int) (xs : List Int) (hl : xs.length < 1000) : Called Tryz.prog 200 [.ints .i64 (x :: xs)] (.int .i64 (xs.foldl max x)) := by
 refine jaa tbOk 6 ⟨Tryz.func200, rfl, rfl, jhy rfl⟩ ?_
 (conv => whnf)
 refine V.st ?_
 refine Cnd.split (CondB.mk (fun h0 => ?_) (fun h0 => ?_))
 ·rw [decide_eq_true_eq, List.length_cons] at h0
  omega
 ·refine V.r0 @List.length_cons.{0} ?_
  refine jah (0 : Nat) (fun k => k ≤ xs.length) (fun k => xs.length - k) (fun k => [(4, .int .i64 ((k + 1 : Nat) : Int)), (3, .int .i64 ((xs.take k).foldl max x))]) (fun _ => []) ?_ ?_ ?_
  ·exact V.wk
  ·exact jhz _
  intro k hk
  have hkc : (((k + 1 : Nat) : Int) + 1) = ((k + 1 + 1 : Nat) : Int) := by omega
  have hi : ((k + 1 : Nat) : Int).toNat = k + 1 := by omega
  refine V.r0 (V.a3 zC3_0 hkc @hi) ?_
  refine Cnd.split (CondB.mk (fun hq => ?_) (fun hq => ?_))
  ·rw [decide_eq_true_eq] at hq
   have ht := jeT (op := max) (x := x) (xs := xs) (k := k) (by omega)
   refine V.r0 (V.a3 zC3_0 hkc @hi) ?_
   refine ⟨k + 1, by omega, by omega, ?_⟩
   rw [ht]
   exact V.wk
  ·rw [decide_eq_false_iff_not] at hq
   have hk2 : k = xs.length := by omega
   refine V.r0 (V.a2 hk2 @List.take_length.{0}) ?_
   exact Fin.of rfl
theorem least_c (x : Int) (xs : List Int) (hl : xs.length < 1000) : Called Tryz.prog 172 [.ints .i64 (x :: xs)] (.int .i64 (xs.foldl min x)) := by
 have h := minS_c x xs hl
 refine jaa tbOk 6 ⟨Tryz.func172, rfl, rfl, jhy rfl⟩ ?_
 (conv => whnf)
 refine V.st ?_
 repeat ((try ((with_reducible refine .ext ?_); (conv => whnf))); (with_reducible refine jab (r := ?_) ?_ ?_); rotate_left; (focus (first | exact (h))); (conv => whnf); refine V.st ?_)
 exact Fin.of rfl
theorem greatest_c (x : Int) (xs : List Int) (hl : xs.length < 1000) : Called Tryz.prog 173 [.ints .i64 (x :: xs)] (.int .i64 (xs.foldl max x)) := by
 have h := maxS_c x xs hl
 refine jaa tbOk 6 ⟨Tryz.func173, rfl, rfl, jhy rfl⟩ ?_
 (conv => whnf)
 refine V.st ?_
 repeat ((try ((with_reducible refine .ext ?_); (conv => whnf))); (with_reducible refine jab (r := ?_) ?_ ?_); rotate_left; (focus (first | exact (h))); (conv => whnf); refine V.st ?_)
 exact Fin.of rfl
theorem of_b (p q : Int) : Called Tryz.prog 104 [.int .i64 p, .int .i64 q] (bD (if vb p q = true then (p, q, 0) else (0, 0, 30))) := by
 have h := jci p q
 generalize vb p q = v at *
 refine jaa tbOk 6 ⟨Tryz.func104, rfl, rfl, jhy rfl⟩ ?_
 (conv => whnf)
 refine V.st ?_
 repeat ((try ((with_reducible refine .ext ?_); (conv => whnf))); (with_reducible refine jab (r := ?_) ?_ ?_); rotate_left; (focus (first | exact (h))); (conv => whnf); refine V.st ?_)
 refine Cnd.split (CondB.mk (fun hq => ?_) (fun hq => ?_))
 ·simp at hq
  subst hq
  (conv => whnf)
  refine V.st ?_
  exact Fin.of rfl
 ·simp at hq
  subst hq
  (conv => whnf)
  refine V.st ?_
  exact Fin.of rfl
theorem near_f (s t : List UInt8) (sc : Nat) (h : okP s t = true) (h1 : 1 ≤ sc) (h2 : sc ≤ 1000000000000) (hz : -9223372036854775808 ≤ nearZ (qv s t) sc ∧ nearZ (qv s t) sc ≤ 9223372036854775807) :
  Called Tryz.prog 68 [.agg [.str s, .str t], .int .i64 sc] (.tup [.int .i64 (nearZ (qv s t) sc), .int .i64 0]) := by
 have r1 := jbf s t h
 have q1 := jfp h
 have f1 := jcT sc (by omega)
 have lsc : (mg 1000000000 sc).length ≤ 2 := jax (by omega) (by omega)
 have n1 := near_r (qv s t) sc (q1.1.mono (by omega)) (jhL q1.2 (by omega)) (by omega)
 clear q1
 generalize nearZ (qv s t) sc = z at *
 have lz : (mg 1000000000 z.natAbs).length ≤ 3 := jax (by omega) (by omega)
 have x1 := jgT z (by omega)
 have i1 := int_c z hz.1 hz.2
 clear lz lsc
 unfold rtD at *
 refine jaa tbOk 6 ⟨Tryz.func68, rfl, rfl, jhy rfl⟩ ?_
 (conv => whnf)
 refine V.st ?_
 repeat ((try ((with_reducible refine .ext ?_); (conv => whnf))); (with_reducible refine jab (r := ?_) ?_ ?_); rotate_left; (focus (first | exact (r1))); (conv => whnf); refine V.st ?_)
 refine Cnd.split (CondB.mk (fun g1 => ?_) (fun g1 => ?_))
 ·simp at g1
  omega
 ·(conv => whnf)
  refine V.st ?_
  refine ⟨(.take 0 (.take 1 (.take 2 (.ev (.cons 3 [0] (.ev (.cons 4 [] (.ev (.cons 5 [] (.ev (.cons 6 [] (.take 7 (.take 8 (.take 9 (.take 10 (.take 11 (.done)))))) (.nil))) (.nil))) (.nil))) (.nil)))))), [], ⟨by kernel_rfl, by kernel_rfl, by kernel_rfl, by kernel_rfl⟩, .go (jag ?_)⟩
  (conv => whnf)
  refine V.st ?_
  repeat ((try ((with_reducible refine .ext ?_); (conv => whnf))); (with_reducible refine jab (r := ?_) ?_ ?_); rotate_left; (focus (first | exact (f1) | exact (n1) | exact (x1) | exact (i1))); (conv => whnf); refine V.st ?_)
  exact Fin.of rfl
theorem okP_dec_o {q : Rat} (h : okF q = true) : okP (decZ q.num) (dec q.den) = true ∧ qv (decZ q.num) (dec q.den) = q := by
 unfold okF at h
 simp only [jhx, decide_eq_true_eq] at h
 have hdz : dec q.den = decZ (q.den : Int) := by unfold decZ; rw [if_neg (by omega), jhR]
 have w1 : wval (decZ q.num) = q.num := jbz _
 have w2 : wval (dec q.den) = (q.den : Int) := by rw [hdz]; exact jbz _
 have o1 := jca q.num h.1
 have o2 : okW (dec q.den) = true := by rw [hdz]; exact jca _ (by rw [jhR]; exact h.2)
 have hp := q.den_pos
 constructor
 ·unfold okP
  rw [o1, o2, w1, w2]
  simp only [jhx, decide_eq_true_eq, Bool.true_and, jhR]
  exact ⟨by omega, q.reduced⟩
 ·unfold qv
  rw [w1, w2]
  exact jh1 q
theorem okF_small {q : Rat} (h1 : q.num.natAbs < 10 ^ 20) (h2 : q.den < 10 ^ 20) : okF q = true := by
 unfold okF
 simp only [jhx, decide_eq_true_eq]
 exact ⟨jhL (jbg 20 _ (by omega) h1).1 (by omega), jhL (jbg 20 _ (by omega) h2).1 (by omega)⟩
theorem divInt_le (n : Int) (d : Nat) (hd : 0 < d) : (Rat.divInt n d).num.natAbs ≤ n.natAbs ∧ (Rat.divInt n d).den ≤ d := by
 obtain ⟨h1, _, h3⟩ := jcw n d hd
 rw [h1, h3]
 exact ⟨jhT _ _, jhT _ _⟩
theorem okF_unit (n : Int) (h : -9223372036854775808 ≤ n ∧ n ≤ 9223372036854775807) : okF (Rat.divInt n 1000000000000) = true := by
 have := divInt_le n 1000000000000 (by omega)
 have e : Rat.divInt n 1000000000000 = Rat.divInt n ((1000000000000 : Nat) : Int) := rfl
 rw [e]
 refine okF_small ?_ ?_
 ·exact Nat.lt_of_le_of_lt this.1 (by omega)
 ·exact Nat.lt_of_le_of_lt this.2 (by omega)
def unit (n : Int) : Rat := Rat.divInt n 1000000000000
theorem of_unit (n : Int) (h : -9223372036854775808 ≤ n ∧ n ≤ 9223372036854775807) : Called Tryz.prog 97 [.int .i64 n, .int .i64 1000000000000] (.tup [.agg [.str (decZ (unit n).num), .str (dec (unit n).den)], .int .i64 0]) := by
 have h1 := of_c n 1000000000000 (by simp only [InR, V.lo, V.hi]; omega) (by constructor <;> decide) (by decide)
 have h2 := okF_unit n h
 unfold frR at h1
 rw [h2] at h1
 exact h1
def jcV (x : Rat) : Int × Int × Int := if vb (nearZ x 1000000000000) (nearZ x 1000000000000) = true then mk (nearZ x 1000000000000 + min (ordQ x (unit (nearZ x 1000000000000))) 0) (nearZ x 1000000000000 + max (ordQ x (unit (nearZ x 1000000000000))) 0) else (0, 0, 6)
theorem ordQ_r (x y : Rat) : -1 ≤ ordQ x y ∧ ordQ x y ≤ 1 := by
 unfold ordQ; split
 ·omega
 ·split <;> omega
theorem around_b (s t : List UInt8) (h : okP s t = true) (hz : -9223372036854775808 ≤ nearZ (qv s t) 1000000000000 ∧ nearZ (qv s t) 1000000000000 ≤ 9223372036854775807) :
  Called Tryz.prog 102 [.agg [.str s, .str t]] (bD (jcV (qv s t))) := by
 have n1 := near_f s t 1000000000000 h (by omega) (by omega) hz
 unfold jcV
 generalize nearZ (qv s t) 1000000000000 = n at *
 have o1 := of_unit n hz
 obtain ⟨p1, p2⟩ := okP_dec_o (okF_unit n hz)
 have c1 := fcmp_ok s t (decZ (unit n).num) (dec (unit n).den) h p1
 rw [show qv (decZ (unit n).num) (dec (unit n).den) = unit n from p2] at c1
 have hr := ordQ_r (qv s t) (unit n)
 generalize ordQ (qv s t) (unit n) = o at *
 generalize decZ (unit n).num = u at *
 generalize dec (unit n).den = v at *
 clear p1 p2 h
 have v1 := jci n n
 have m1 := made_b (n + min o 0) (n + max o 0)
 by_cases hv : vb n n = true
 ·rw [if_pos hv]
  rw [hv] at v1
  have hb := jbq.1 hv
  generalize mk (n + min o 0) (n + max o 0) = r at *
  refine jaa tbOk 6 ⟨Tryz.func102, rfl, rfl, jhy rfl⟩ ?_
  (conv => whnf)
  refine V.st ?_
  repeat ((try ((with_reducible refine .ext ?_); (conv => whnf))); (with_reducible refine jab (r := ?_) ?_ ?_); rotate_left; (focus (first | exact (n1) | exact (o1) | exact (c1) | exact (v1) | exact (m1))); (conv => whnf); refine V.st ?_)
  exact Fin.of rfl
 ·rw [if_neg hv]
  rw [Bool.eq_false_iff.2 hv] at v1
  refine jaa tbOk 6 ⟨Tryz.func102, rfl, rfl, jhy rfl⟩ ?_
  (conv => whnf)
  refine V.st ?_
  repeat ((try ((with_reducible refine .ext ?_); (conv => whnf))); (with_reducible refine jab (r := ?_) ?_ ?_); rotate_left; (focus (first | exact (n1) | exact (o1) | exact (c1) | exact (v1))); (conv => whnf); refine V.st ?_)
  exact Fin.of rfl
def lw (a b c d : Int) : Nat → List Int
 | 0 => [0, 0, 0, 0]
 | 1 => [a, 0, 0, 0]
 | 2 => [a, b, 0, 0]
 | 3 => [a, b, c, 0]
 | _ => [a, b, c, d]
end Go.Proofs.YtgjgpdceghjajaaGreatDoor
end
section
namespace Go.Nb
structure Tr (B top v2 head u2 : Int) : Prop where
 hB : 2 ≤ B
 t1 : 1 ≤ top
 tB : top < B
 v0 : 0 ≤ v2
 vB : v2 < B
 u0 : 0 ≤ u2
 uB : u2 < B
 h0 : 0 ≤ head
 lt : head * B + u2 < B * (top * B + v2)
section
variable {B top v2 head u2 : Int}
theorem Tr.kn (T : Tr B top v2 head u2) : Kn B top v2 0 u2 0 head (head * B + u2) (top * B + v2) 1 :=
 { hB := T.hB, hP := by omega, ht := T.t1, hv := by omega, hu := by omega, v20 := T.v0, v2B := T.vB, u20 := T.u0, u2B := T.uB, vr0 := by omega, vrP := by omega, ur0 := by omega, urP := by omega, hh := T.h0, htB := T.tB, lt := T.lt }
theorem Tr.vpos (T : Tr B top v2 head u2) : 0 < top * B + v2 := T.kn.vpos
theorem Tr.qnn (T : Tr B top v2 head u2) : 0 ≤ (head * B + u2) / (top * B + v2) := by
 have h1 : 0 ≤ head * B := jhB T.h0 (by have := T.hB; omega)
 exact Int.ediv_nonneg (by have := T.u0; omega) (by have := T.vpos; omega)
theorem Tr.qmul (T : Tr B top v2 head u2) : (head * B + u2) / (top * B + v2) * (top * B + v2) ≤ head * B + u2 := Int.ediv_mul_le _ (by have := T.vpos; omega)
theorem Tr.init (T : Tr B top v2 head u2) : (head * B + u2) / (top * B + v2) ≤ head / top := T.kn.init T.qnn T.qmul
theorem Tr.step (T : Tr B top v2 head u2) {q r : Int} (hq : (head * B + u2) / (top * B + v2) ≤ q) (hr : head = q * top + r) (hc : B ≤ q ∨ r * B + u2 < q * v2) :
  (head * B + u2) / (top * B + v2) ≤ q - 1 ∧ head = (q - 1) * top + (r + top) :=
 ⟨T.kn.step T.qnn T.qmul hq hr hc, by rw [Int.sub_mul, jhY]; omega⟩
theorem Tr.lt' (T : Tr B top v2 head u2) : (head * B + u2) / (top * B + v2) < B := T.kn.qlt T.qmul
end
structure Tq (B top v2 head u2 Q : Int) : Prop where
 T : Tr B top v2 head u2
 e : (head * B + u2) / (top * B + v2) = Q
section
variable {B top v2 head u2 Q : Int}
theorem Tq.init (T : Tq B top v2 head u2 Q) : Q ≤ head / top := by rw [← T.e]; exact T.T.init
theorem Tq.step (T : Tq B top v2 head u2 Q) {q r : Int} (hq : Q ≤ q) (hr : head = q * top + r) (hc : B ≤ q ∨ r * B + u2 < q * v2) : Q ≤ q - 1 ∧ head = (q - 1) * top + (r + top) := by
 rw [← T.e] at hq ⊢; exact T.T.step hq hr hc
theorem Tq.lt (T : Tq B top v2 head u2 Q) : Q < B := by rw [← T.e]; exact T.T.lt'
end
end Go.Nb
end
