/- What some functions of the program answer at values that mean given lists, texts and numbers, each proved of the program's own code: part 25. Conditions: those that each theorem names. -/
import Derived.Test.YtgjgpdceghjajaaGreatDoorSimplexKnownH24
import Derived.Test.YtgjgpdceghjajaaGreatDoorSimplexKnownH14
import Derived.Lib.LaidTab
import Derived.Stop.LaidErr
import Derived.LaidMore
import Derived.Test.YtgjgpdceghjajaaGreatDoorSimplexKnownH21
import Derived.Test.YtgjgpdceghjajaaGreatDoorSimplexKnownH18
import Derived.Test.YtgjgpdceghjajaaGreatDoorSimplexKnownH17
import Derived.Test.YtgjgpdceghjajaaGreatDoorSimplexKnownH22
set_option linter.unusedSimpArgs false
set_option linter.unusedVariables false
set_option maxHeartbeats 8000000
set_option maxRecDepth 100000
section
namespace Go.Proofs.YtgjgpdceghjajaaGreatDoor
open Go Go.V Go.Nb
theorem clamp_b (p q lo hi : Int) : Called Tryz.prog 57 [bA p q, .int .i64 lo, .int .i64 hi] (bD (if vb p q = true then (if vb lo hi = true then mk (min (max p lo) hi) (min (max q lo) hi) else (0, 0, 2)) else (0, 0, 30))) := by
 by_cases hv : vb p q = true
 ·rw [if_pos hv]
  have hc : Called Tryz.prog 94 [.ref [.int .i64 lo], .ref [.int .i64 hi], .ref [.int .i64 p, .int .i64 q]] (bD (if vb lo hi = true then mk (min (max p lo) hi) (min (max q lo) hi) else (0, 0, 2))) := by
   have hvl := jci lo hi
   have hm := made_b (min (max p lo) hi) (min (max q lo) hi)
   generalize vb lo hi = v at *
   generalize mk (min (max p lo) hi) (min (max q lo) hi) = r at *
   refine jaa tbOk 6 ⟨Tryz.func94, rfl, rfl, jhy rfl⟩ ?_
   (conv => whnf)
   refine V.st ?_
   repeat ((try ((with_reducible refine .ext ?_); (conv => whnf))); (with_reducible refine jab (r := ?_) ?_ ?_); rotate_left; (focus (first | exact (hvl))); (conv => whnf); refine V.st ?_)
   refine Cnd.split (CondB.mk (fun hq => ?_) (fun hq => ?_))
   ·simp at hq
    subst hq
    (conv => whnf)
    refine V.st ?_
    exact Fin.of rfl
   ·simp at hq
    subst hq
    (conv => whnf)
    refine V.st ?_
    repeat ((try ((with_reducible refine .ext ?_); (conv => whnf))); (with_reducible refine jab (r := ?_) ?_ ?_); rotate_left; (focus (first | exact (hm))); (conv => whnf); refine V.st ?_)
    exact Fin.of rfl
  generalize (if vb lo hi = true then mk (min (max p lo) hi) (min (max q lo) hi) else (0, 0, 2)) = r at *
  have hk := ckb3_ok 94 p q lo hi r.1 r.2.1 r.2.2 1 (l1 p q) (fun _ => p) (fun _ => q) (l1_c p q) (by omega) (fun _ _ => hv) hc
  refine jaa tbOk 6 ⟨Tryz.func57, rfl, rfl, jhy rfl⟩ ?_
  (conv => whnf)
  refine V.st ?_
  repeat ((try ((with_reducible refine .ext ?_); (conv => whnf))); (with_reducible refine jab (r := ?_) ?_ ?_); rotate_left; (focus (first | exact (hk))); (conv => whnf); refine V.st ?_)
  exact Fin.of rfl
 ·rw [if_neg hv]
  have hk := ckb3_no 94 p q lo hi 0 0 0 1 (l1 p q) (fun _ => p) (fun _ => q) (l1_c p q) (by omega) (one_no hv)
  refine jaa tbOk 6 ⟨Tryz.func57, rfl, rfl, jhy rfl⟩ ?_
  (conv => whnf)
  refine V.st ?_
  repeat ((try ((with_reducible refine .ext ?_); (conv => whnf))); (with_reducible refine jab (r := ?_) ?_ ?_); rotate_left; (focus (first | exact (hk))); (conv => whnf); refine V.st ?_)
  exact Fin.of rfl
theorem hull_b (p q p2 q2 : Int) : Called Tryz.prog 103 [bA p q, bA p2 q2] (bD (if vb p q = true ∧ vb p2 q2 = true then (if p = p2 ∧ q = q2 then (p, q, 0) else if max q q2 < min p p2 then (0, 0, 4) else (min p p2, max q q2, 0)) else (0, 0, 30))) := by
 have ch : Called Tryz.prog 139 [.int .i64 2, bA p q, bA p2 q2] (bD (if vb p q = true ∧ vb p2 q2 = true then (if p = p2 ∧ q = q2 then (p, q, 0) else if max q q2 < min p p2 then (0, 0, 4) else (min p p2, max q q2, 0)) else (0, 0, 30))) := by
  by_cases hv : vb p q = true ∧ vb p2 q2 = true
  ·rw [if_pos hv]
   have hc : Called Tryz.prog 171 [.ref [.int .i64 p, .int .i64 q], .ref [.int .i64 p2, .int .i64 q2], .ref [.int .i64 2]] (bD (if p = p2 ∧ q = q2 then (p, q, 0) else if max q q2 < min p p2 then (0, 0, 4) else (min p p2, max q q2, 0))) := by
    have k1 := least_c p [p2] (by simp)
    have k2 := greatest_c q [q2] (by simp)
    rw [show [p2].foldl min p = min p p2 from rfl] at k1
    rw [show [q2].foldl max q = max q q2 from rfl] at k2
    generalize min p p2 = lo at *
    generalize max q q2 = hi at *
    refine jaa tbOk 6 ⟨Tryz.func171, rfl, rfl, jhy rfl⟩ ?_
    (conv => whnf)
    refine V.st ?_
    refine Cnd.split (CondB.mk (fun h1 => ?_) (fun h1 => ?_))
    ·simp only [Bool.and_true, jhx, decide_eq_true_eq] at h1
     rw [if_pos h1]
     (conv => whnf)
     refine V.st ?_
     exact Fin.of rfl
    ·rw [if_neg (fun h => by simp only [Bool.and_true, Bool.and_eq_false_iff, decide_eq_false_iff_not] at h1; omega)]
     (conv => whnf)
     refine V.st ?_
     refine ⟨(.take 0 (.take 1 (.take 2 (.take 3 (.take 4 (.take 5 (.take 8 (.take 9 (.take 10 (.take 11 (.take 12 (.take 13 (.ev (.cons 6 [13, 12, 11, 10, 9, 8, 1, 0] (.ev (.cons 7 [13, 12, 11, 10, 9, 8] (.ev (.cons 14 [9, 8] (.ev (.cons 15 [] (.take 16 (.take 17 (.done))) (.nil))) (.nil))) (.cons 14 [9, 8, 1, 0] (.ev (.cons 7 [9, 8] (.ev (.cons 15 [] (.take 16 (.take 17 (.done))) (.nil))) (.nil))) (.nil)))) (.cons 14 [9, 8, 5, 4, 3, 2, 1, 0] (.ev (.cons 6 [9, 8, 1, 0] (.ev (.cons 7 [9, 8] (.ev (.cons 15 [] (.take 16 (.take 17 (.done))) (.nil))) (.nil))) (.nil))) (.nil)))))))))))))))), [], ⟨by kernel_rfl, by kernel_rfl, by kernel_rfl, by kernel_rfl⟩, ?_⟩
     refine jac [(7, .int .i64 lo), (8, .int .i64 hi)] [] ?_ ?_
     ·exact V.d2 @jhC k1 k2
     (conv => whnf)
     refine V.st ?_
     refine Cnd.split (CondB.mk (fun h2 => ?_) (fun h2 => ?_))
     ·rw [decide_eq_true_eq] at h2
      rw [if_pos h2]
      (conv => whnf)
      refine V.st ?_
      exact Fin.of rfl
     ·rw [decide_eq_false_iff_not] at h2
      rw [if_neg h2]
      (conv => whnf)
      refine V.st ?_
      exact Fin.of rfl
   generalize (if p = p2 ∧ q = q2 then (p, q, (0 : Int)) else if max q q2 < min p p2 then (0, 0, 4) else (min p p2, max q q2, 0)) = r at *
   have hk := ckb4_ok 171 p q p2 q2 2 r.1 r.2.1 r.2.2 2 (l2 p q p2 q2) (sel_o p p2) (sel_o q q2) (l2_c p q p2 q2) (by omega) (sel_ok hv.1 hv.2) hc
   refine jaa tbOk 6 ⟨Tryz.func139, rfl, rfl, jhy rfl⟩ ?_
   (conv => whnf)
   refine V.st ?_
   repeat ((try ((with_reducible refine .ext ?_); (conv => whnf))); (with_reducible refine jab (r := ?_) ?_ ?_); rotate_left; (focus (first | exact (hk))); (conv => whnf); refine V.st ?_)
   exact Fin.of rfl
  ·rw [if_neg hv]
   have hk := ckb4_no 171 p q p2 q2 2 0 0 0 2 (l2 p q p2 q2) (sel_o p p2) (sel_o q q2) (l2_c p q p2 q2) (by omega) (sel_no hv)
   refine jaa tbOk 6 ⟨Tryz.func139, rfl, rfl, jhy rfl⟩ ?_
   (conv => whnf)
   refine V.st ?_
   repeat ((try ((with_reducible refine .ext ?_); (conv => whnf))); (with_reducible refine jab (r := ?_) ?_ ?_); rotate_left; (focus (first | exact (hk))); (conv => whnf); refine V.st ?_)
   exact Fin.of rfl
 generalize (if vb p q = true ∧ vb p2 q2 = true then (if p = p2 ∧ q = q2 then (p, q, (0 : Int)) else if max q q2 < min p p2 then (0, 0, 4) else (min p p2, max q q2, 0)) else (0, 0, 30)) = r at *
 refine jaa tbOk 6 ⟨Tryz.func103, rfl, rfl, jhy rfl⟩ ?_
 (conv => whnf)
 refine V.st ?_
 repeat ((try ((with_reducible refine .ext ?_); (conv => whnf))); (with_reducible refine jab (r := ?_) ?_ ?_); rotate_left; (focus (first | exact (ch))); (conv => whnf); refine V.st ?_)
 exact Fin.of rfl
theorem mk_ok {p q : Int} (h : -1000000000000000000 ≤ p ∧ p ≤ q ∧ q ≤ 1000000000000000000) : mk p q = (p, q, 0) := by
 unfold mk; rw [if_pos (jbq.2 h)]
end Go.Proofs.YtgjgpdceghjajaaGreatDoor
end
section
namespace Go.Proofs.YtgjgpdceghjajaaGreatDoor
open Go Go.V Go.Nb Go.RowKit
theorem glW_of_tab {w : World} (h : Lib.TabIs Tryz.prog w "internal/strconv.uint64pow10" .u64 Lib.pow10Tab) {tp : TypeId} {p : Value} (h2 : w.var? Tryz.prog "strconv.ErrRange" = some #[.iface tp p]) : GlW w := by
 refine ⟨?_, ?_⟩
 rotate_left
 ·intro g hg
  simp only [glbE, List.mem_cons, List.not_mem_nil, or_false] at hg
  subst hg
  unfold World.var? at h2
  have hn : Tryz.prog.globalNamed "strconv.ErrRange" = some 1 := by kernel_rfl
  rw [hn] at h2
  simp only [Option.bind_some] at h2
  split at h2
  ·rename_i cs T f he
   cases h2
   exact ⟨tp, p, T, f, he⟩
  ·cases h2
 intro g vs hg
 simp only [glb, List.mem_cons, List.not_mem_nil, or_false, Prod.mk.injEq] at hg
 obtain ⟨rfl, rfl⟩ := hg
 refine ⟨by simp, ?_⟩
 unfold Lib.TabIs World.var? at h
 have hg : Tryz.prog.globalNamed "internal/strconv.uint64pow10" = some 2 := by kernel_rfl
 rw [hg] at h
 simp only [Option.bind_some] at h
 split at h
 ·rename_i cs T f he
  cases h
  exact ⟨T, f, he⟩
 ·cases h
def s4 {α : Type} (a b c d : α) : Nat → α
 | 0 => a
 | 1 => b
 | 2 => c
 | _ => d
end Go.Proofs.YtgjgpdceghjajaaGreatDoor
end
section
namespace Go.Proofs.YtgjgpdceghjajaaGreatDoor
open Go Go.V Go.Nb
def Fq (n : Nat) (q : Rat) : Prop := q.num.natAbs < 10 ^ n ∧ q.den < 10 ^ n
theorem Fq.mono {m n : Nat} {q : Rat} (h : Fq m q) (hl : m ≤ n) : Fq n q :=
 ⟨jhJ h.1 (jhS (by decide) hl), jhJ h.2 (jhS (by decide) hl)⟩
theorem Fq.ok {n : Nat} {q : Rat} (h : Fq n q) (h0 : 0 < n) (h6 : n ≤ 600) : okF q = true := by
 unfold okF
 simp only [jhx, decide_eq_true_eq]
 exact ⟨jhL (jbg n _ h0 h.1).1 h6, jhL (jbg n _ h0 h.2).1 h6⟩
theorem jeO (n : Int) (d : Nat) (hd : 0 < d) : (Rat.divInt n d).num.natAbs ≤ n.natAbs ∧ (Rat.divInt n d).den ≤ d := by
 rw [Rat.num_divInt, Rat.den_divInt, if_neg (by omega), jh0 (by omega), jhY]
 refine ⟨?_, ?_⟩
 ·rw [Int.natAbs_ediv_of_dvd (by exact Int.gcd_dvd_right ..)]
  exact jhT _ _
 ·rw [jhR]
  exact jhT _ _
theorem jaZ {n : Nat} {x : Int} {d : Nat} (hd : 0 < d) (h1 : x.natAbs < 10 ^ n) (h2 : d < 10 ^ n) : Fq n (Rat.divInt x d) :=
 ⟨Nat.lt_of_le_of_lt (jeO x d hd).1 h1, Nat.lt_of_le_of_lt (jeO x d hd).2 h2⟩
theorem jdX {a b x y : Nat} (h1 : x < 10 ^ a) (h2 : y < 10 ^ b) : x * y < 10 ^ (a + b) := by
 rw [Nat.pow_add]
 rcases jhF y with e | e
 ·rw [e, Nat.mul_zero]
  exact Nat.mul_pos (Nat.pow_pos (by decide)) (Nat.pow_pos (by decide))
 ·exact jhJ (Nat.mul_lt_mul_of_pos_right h1 e) (Nat.mul_le_mul_left _ (Nat.le_of_lt h2))
theorem Fq.add {a b : Nat} {p q : Rat} (h : Fq a p) (g : Fq b q) : Fq (a + b + 1) (p + q) := by
 have hp := p.den_pos
 have hq := q.den_pos
 have e : p + q = Rat.divInt (p.num * q.den + q.num * p.den) ((p.den * q.den : Nat) : Int) := by
  conv => lhs; rw [← jh1 p, ← jh1 q]
  rw [Rat.divInt_add_divInt _ _ (by omega) (by omega), jhM]
 rw [e]
 have m1 := jdX h.1 g.2
 have m2 := jdX g.1 h.2
 have m3 := jdX h.2 g.2
 rw [Nat.add_comm b a] at m2
 have e10 : 10 ^ (a + b + 1) = 10 * 10 ^ (a + b) := by rw [Nat.pow_succ, jhG]
 refine jaZ (Nat.mul_pos hp hq) ?_ ?_
 ·have t := Int.natAbs_add_le (p.num * q.den) (q.num * p.den)
  rw [Int.natAbs_mul, Int.natAbs_mul, jhR, jhR] at t
  omega
 ·omega
theorem Fq.neg {a : Nat} {p : Rat} (h : Fq a p) : Fq a (-p) := ⟨by rw [Rat.neg_num, Int.natAbs_neg]; exact h.1, by rw [Rat.neg_den]; exact h.2⟩
theorem Fq.sub {a b : Nat} {p q : Rat} (h : Fq a p) (g : Fq b q) : Fq (a + b + 1) (p - q) := by
 rw [Rat.sub_eq_add_neg]
 exact h.add g.neg
theorem Fq.mul {a b : Nat} {p q : Rat} (h : Fq a p) (g : Fq b q) : Fq (a + b) (p * q) := by
 have e : p * q = Rat.divInt (p.num * q.num) ((p.den * q.den : Nat) : Int) := by
  conv => lhs; rw [← jh1 p, ← jh1 q]
  rw [Rat.divInt_mul_divInt, jhM]
 rw [e]
 refine jaZ (Nat.mul_pos p.den_pos q.den_pos) ?_ (jdX h.2 g.2)
 rw [Int.natAbs_mul]
 exact jdX h.1 g.1
theorem Fq.inv {a : Nat} {p : Rat} (h : Fq a p) (h0 : p.num ≠ 0) : Fq a p⁻¹ := by
 rw [Rat.inv_def]
 rcases Int.lt_or_gt_of_ne h0 with hn | hn
 ·have e : Rat.divInt (p.den : Int) p.num = Rat.divInt (-(p.den : Int)) ((p.num.natAbs : Nat) : Int) := by
   rw [Rat.divInt_eq_divInt_iff h0 (by omega)]
   have : ((p.num.natAbs : Nat) : Int) = -p.num := by omega
   rw [this]
   grind
  rw [e]
  exact jaZ (by omega) (by rw [Int.natAbs_neg, jhR]; exact h.2) h.1
 ·have e : p.num = ((p.num.natAbs : Nat) : Int) := by omega
  rw [e]
  exact jaZ (by omega) (by rw [jhR]; exact h.2) h.1
theorem Fq.div {a b : Nat} {p q : Rat} (h : Fq a p) (g : Fq b q) (h0 : q.num ≠ 0) : Fq (a + b) (p / q) := by
 rw [Rat.div_def]
 exact h.mul (g.inv h0)
theorem fadd_ok (s t u v : List UInt8) (h : okP s t = true) (g : okP u v = true) (hn : (mg 1000000000 (qv s t + qv u v).num.natAbs).length ≤ 90000000) (hd : (mg 1000000000 (qv s t + qv u v).den).length ≤ 90000000) : Called Tryz.prog 100 [.agg [.str s, .str t], .agg [.str u, .str v]] (frR (qv s t + qv u v)) := by
 have r1 := jbf s t h
 have r2 := jbf u v g
 have o := add_c (qv s t) (qv u v) (qsize h) (qsize g)
 have w := jdn (qv s t + qv u v) hn hd
 generalize qv s t + qv u v = q at *
 have ap : Called Tryz.prog 130 [.agg [.str s, .str t], .agg [.str u, .str v], .fn 138 [] []] (.tup [rtD q, .int .i64 0]) := by
  refine jaa tbOk 6 ⟨Tryz.func130, rfl, rfl, jhy rfl⟩ ?_
  (conv => whnf)
  refine V.st ?_
  repeat ((try ((with_reducible refine .ext ?_); (conv => whnf))); (with_reducible refine jab (r := ?_) ?_ ?_); rotate_left; (focus (first | exact (r1) | exact (r2) | exact (o))); (conv => whnf); refine V.st ?_)
  exact Fin.of rfl
 have rs : Called Tryz.prog 129 [rtD q, .int .i64 0] (frR q) := by
  refine jaa tbOk 6 ⟨Tryz.func129, rfl, rfl, jhy rfl⟩ ?_
  (conv => whnf)
  refine V.st ?_
  repeat ((try ((with_reducible refine .ext ?_); (conv => whnf))); (with_reducible refine jab (r := ?_) ?_ ?_); rotate_left; (focus (first | exact (w))); (conv => whnf); refine V.st ?_)
  exact Fin.of rfl
 refine jaa tbOk 6 ⟨Tryz.func100, rfl, rfl, jhy rfl⟩ ?_
 (conv => whnf)
 refine V.st ?_
 repeat ((try ((with_reducible refine .ext ?_); (conv => whnf))); (with_reducible refine jab (r := ?_) ?_ ?_); rotate_left; (focus (first | exact (ap) | exact (rs))); (conv => whnf); refine V.st ?_)
 exact Fin.of rfl
theorem fsub_ok (s t u v : List UInt8) (h : okP s t = true) (g : okP u v = true) (hn : (mg 1000000000 (qv s t - qv u v).num.natAbs).length ≤ 90000000) (hd : (mg 1000000000 (qv s t - qv u v).den).length ≤ 90000000) : Called Tryz.prog 99 [.agg [.str s, .str t], .agg [.str u, .str v]] (frR (qv s t - qv u v)) := by
 have r1 := jbf s t h
 have r2 := jbf u v g
 have o := sub_c (qv s t) (qv u v) (qsize h) (qsize g)
 have w := jdn (qv s t - qv u v) hn hd
 generalize qv s t - qv u v = q at *
 have ap : Called Tryz.prog 130 [.agg [.str s, .str t], .agg [.str u, .str v], .fn 137 [] []] (.tup [rtD q, .int .i64 0]) := by
  refine jaa tbOk 6 ⟨Tryz.func130, rfl, rfl, jhy rfl⟩ ?_
  (conv => whnf)
  refine V.st ?_
  repeat ((try ((with_reducible refine .ext ?_); (conv => whnf))); (with_reducible refine jab (r := ?_) ?_ ?_); rotate_left; (focus (first | exact (r1) | exact (r2) | exact (o))); (conv => whnf); refine V.st ?_)
  exact Fin.of rfl
 have rs : Called Tryz.prog 129 [rtD q, .int .i64 0] (frR q) := by
  refine jaa tbOk 6 ⟨Tryz.func129, rfl, rfl, jhy rfl⟩ ?_
  (conv => whnf)
  refine V.st ?_
  repeat ((try ((with_reducible refine .ext ?_); (conv => whnf))); (with_reducible refine jab (r := ?_) ?_ ?_); rotate_left; (focus (first | exact (w))); (conv => whnf); refine V.st ?_)
  exact Fin.of rfl
 refine jaa tbOk 6 ⟨Tryz.func99, rfl, rfl, jhy rfl⟩ ?_
 (conv => whnf)
 refine V.st ?_
 repeat ((try ((with_reducible refine .ext ?_); (conv => whnf))); (with_reducible refine jab (r := ?_) ?_ ?_); rotate_left; (focus (first | exact (ap) | exact (rs))); (conv => whnf); refine V.st ?_)
 exact Fin.of rfl
theorem fmul_ok (s t u v : List UInt8) (h : okP s t = true) (g : okP u v = true) (hn : (mg 1000000000 (qv s t * qv u v).num.natAbs).length ≤ 90000000) (hd : (mg 1000000000 (qv s t * qv u v).den).length ≤ 90000000) : Called Tryz.prog 85 [.agg [.str s, .str t], .agg [.str u, .str v]] (frR (qv s t * qv u v)) := by
 have r1 := jbf s t h
 have r2 := jbf u v g
 have o := mul_c (qv s t) (qv u v) (qsize h) (qsize g)
 have w := jdn (qv s t * qv u v) hn hd
 generalize qv s t * qv u v = q at *
 have ap : Called Tryz.prog 130 [.agg [.str s, .str t], .agg [.str u, .str v], .fn 131 [] []] (.tup [rtD q, .int .i64 0]) := by
  refine jaa tbOk 6 ⟨Tryz.func130, rfl, rfl, jhy rfl⟩ ?_
  (conv => whnf)
  refine V.st ?_
  repeat ((try ((with_reducible refine .ext ?_); (conv => whnf))); (with_reducible refine jab (r := ?_) ?_ ?_); rotate_left; (focus (first | exact (r1) | exact (r2) | exact (o))); (conv => whnf); refine V.st ?_)
  exact Fin.of rfl
 have rs : Called Tryz.prog 129 [rtD q, .int .i64 0] (frR q) := by
  refine jaa tbOk 6 ⟨Tryz.func129, rfl, rfl, jhy rfl⟩ ?_
  (conv => whnf)
  refine V.st ?_
  repeat ((try ((with_reducible refine .ext ?_); (conv => whnf))); (with_reducible refine jab (r := ?_) ?_ ?_); rotate_left; (focus (first | exact (w))); (conv => whnf); refine V.st ?_)
  exact Fin.of rfl
 refine jaa tbOk 6 ⟨Tryz.func85, rfl, rfl, jhy rfl⟩ ?_
 (conv => whnf)
 refine V.st ?_
 repeat ((try ((with_reducible refine .ext ?_); (conv => whnf))); (with_reducible refine jab (r := ?_) ?_ ?_); rotate_left; (focus (first | exact (ap) | exact (rs))); (conv => whnf); refine V.st ?_)
 exact Fin.of rfl
theorem Q9.inv {k : Nat} {q : Rat} (h : Q9 k q) (h0 : q.num ≠ 0) : Q9 k q⁻¹ := by
 obtain ⟨p1, p2⟩ := jf4 q h0
 constructor
 ·rw [p1]
  unfold S9
  have e : (if decide (q.num < 0) = true then -(q.den : Int) else (q.den : Int)).natAbs = q.den := by
   split <;> simp
  rw [e]
  exact h.2
 ·rw [p2]; exact h.1
theorem fdiv_ok (s t u v : List UInt8) (h : okP s t = true) (g : okP u v = true) (h0 : (qv u v).num ≠ 0) (hn : (mg 1000000000 (qv s t / qv u v).num.natAbs).length ≤ 90000000) (hd : (mg 1000000000 (qv s t / qv u v).den).length ≤ 90000000) : Called Tryz.prog 88 [.agg [.str s, .str t], .agg [.str u, .str v]] (frR (qv s t / qv u v)) := by
 have r1 := jbf s t h
 have r2 := jbf u v g
 have z1 := jcW (qv u v).num.natAbs
 rw [decide_eq_false (show ¬ (qv u v).num.natAbs = 0 by omega)] at z1
 have i1 := inverse_c (qv u v) h0
 have o := mul_c (qv s t) (qv u v)⁻¹ (qsize h) ((qsize g).inv h0)
 have w := jdn (qv s t / qv u v) hn hd
 rw [Rat.div_def] at w ⊢
 unfold frR at *
 generalize qv s t * (qv u v)⁻¹ = q at *
 generalize (qv u v)⁻¹ = y at *
 refine jaa tbOk 6 ⟨Tryz.func88, rfl, rfl, jhy rfl⟩ ?_
 (conv => whnf)
 refine V.st ?_
 repeat ((try ((with_reducible refine .ext ?_); (conv => whnf))); (with_reducible refine jab (r := ?_) ?_ ?_); rotate_left; (focus (first | exact (r1) | exact (r2) | exact (z1))); (conv => whnf); refine V.st ?_)
 refine ⟨(.take 0 (.take 1 (.ev (.cons 2 [0] (.ev (.cons 3 [] (.ev (.cons 4 [] (.take 5 (.take 6 (.ev (.cons 7 [] (.take 8 (.done)) (.nil))))) (.nil))) (.nil))) (.nil))))), [], ⟨by kernel_rfl, by kernel_rfl, by kernel_rfl, by kernel_rfl⟩, .go (jag ?_)⟩
 (conv => whnf)
 refine V.st ?_
 repeat ((try ((with_reducible refine .ext ?_); (conv => whnf))); (with_reducible refine jab (r := ?_) ?_ ?_); rotate_left; (focus (first | exact (i1) | exact (o) | exact (w))); (conv => whnf); refine V.st ?_)
 exact Fin.of rfl
def frT (x : Rat) : D := .agg [.str (decZ x.num), .str (dec x.den)]
theorem ja5 {q : Rat} (h : okF q = true) : okP (decZ q.num) (dec q.den) = true ∧ qv (decZ q.num) (dec q.den) = q := by
 unfold okF at h
 simp only [jhx, decide_eq_true_eq] at h
 have hdz : dec q.den = decZ (q.den : Int) := by unfold decZ; rw [if_neg (by omega), jhR]
 have w1 : wval (decZ q.num) = q.num := jbz _
 have w2 : wval (dec q.den) = (q.den : Int) := by rw [hdz]; exact jbz _
 have o1 := jca q.num h.1
 have o2 : okW (dec q.den) = true := by rw [hdz]; exact jca _ (by rw [jhR]; exact h.2)
 have hp := q.den_pos
 constructor
 ·unfold okP
  rw [o1, o2, w1, w2]
  simp only [jhx, decide_eq_true_eq, Bool.true_and, jhR]
  exact ⟨by omega, q.reduced⟩
 ·unfold qv
  rw [w1, w2]
  exact jh1 q
theorem jer {q : Rat} (h : okF q = true) : frR q = .tup [frT q, .int .i64 0] := by
 unfold frR
 rw [h]
 rfl
theorem mg_fq {n : Nat} {q : Rat} (h : Fq n q) (h6 : n ≤ 600) : (mg 1000000000 q.num.natAbs).length ≤ 90000000 ∧ (mg 1000000000 q.den).length ≤ 90000000 :=
 ⟨jhL (len9 (h.mono h6).1) (by omega), jhL (len9 (h.mono h6).2) (by omega)⟩
theorem zadd {a b : Nat} {p q : Rat} (h : Fq a p) (g : Fq b q) (ha : 0 < a) (hb : 0 < b) (hab : a + b + 1 ≤ 600) : Called Tryz.prog 100 [frT p, frT q] (.tup [frT (p + q), .int .i64 0]) := by
 obtain ⟨o1, e1⟩ := ja5 (h.ok ha (by omega))
 obtain ⟨o2, e2⟩ := ja5 (g.ok hb (by omega))
 have hs := h.add g
 have hm := mg_fq hs (by omega)
 have c := fadd_ok _ _ _ _ o1 o2 (by rw [e1, e2]; exact hm.1) (by rw [e1, e2]; exact hm.2)
 rw [e1, e2, jer (hs.ok (by omega) (by omega))] at c
 exact c
theorem zsub {a b : Nat} {p q : Rat} (h : Fq a p) (g : Fq b q) (ha : 0 < a) (hb : 0 < b) (hab : a + b + 1 ≤ 600) : Called Tryz.prog 99 [frT p, frT q] (.tup [frT (p - q), .int .i64 0]) := by
 obtain ⟨o1, e1⟩ := ja5 (h.ok ha (by omega))
 obtain ⟨o2, e2⟩ := ja5 (g.ok hb (by omega))
 have hs := h.sub g
 have hm := mg_fq hs (by omega)
 have c := fsub_ok _ _ _ _ o1 o2 (by rw [e1, e2]; exact hm.1) (by rw [e1, e2]; exact hm.2)
 rw [e1, e2, jer (hs.ok (by omega) (by omega))] at c
 exact c
theorem zmul {a b : Nat} {p q : Rat} (h : Fq a p) (g : Fq b q) (ha : 0 < a) (hb : 0 < b) (hab : a + b + 1 ≤ 600) : Called Tryz.prog 85 [frT p, frT q] (.tup [frT (p * q), .int .i64 0]) := by
 obtain ⟨o1, e1⟩ := ja5 (h.ok ha (by omega))
 obtain ⟨o2, e2⟩ := ja5 (g.ok hb (by omega))
 have hs := h.mul g
 have hm := mg_fq hs (by omega)
 have c := fmul_ok _ _ _ _ o1 o2 (by rw [e1, e2]; exact hm.1) (by rw [e1, e2]; exact hm.2)
 rw [e1, e2, jer (hs.ok (by omega) (by omega))] at c
 exact c
theorem zdiv {a b : Nat} {p q : Rat} (h : Fq a p) (g : Fq b q) (h0 : q.num ≠ 0) (ha : 0 < a) (hb : 0 < b) (hab : a + b + 1 ≤ 600) : Called Tryz.prog 88 [frT p, frT q] (.tup [frT (p / q), .int .i64 0]) := by
 obtain ⟨o1, e1⟩ := ja5 (h.ok ha (by omega))
 obtain ⟨o2, e2⟩ := ja5 (g.ok hb (by omega))
 have hs := h.div g h0
 have hm := mg_fq hs (by omega)
 have c := fdiv_ok _ _ _ _ o1 o2 (by rw [e2]; exact h0) (by rw [e1, e2]; exact hm.1) (by rw [e1, e2]; exact hm.2)
 rw [e1, e2, jer (hs.ok (by omega) (by omega))] at c
 exact c
theorem zcmp {a b : Nat} {p q : Rat} (h : Fq a p) (g : Fq b q) (ha : 0 < a ∧ a ≤ 600) (hb : 0 < b ∧ b ≤ 600) : Called Tryz.prog 127 [frT p, frT q] (.tup [.int .i64 (ordQ p q), .int .i64 0]) := by
 obtain ⟨o1, e1⟩ := ja5 (h.ok ha.1 ha.2)
 obtain ⟨o2, e2⟩ := ja5 (g.ok hb.1 hb.2)
 have c := fcmp_ok _ _ _ _ o1 o2
 rw [e1, e2] at c
 exact c
abbrev Tx := List UInt8 × List UInt8
def okX (x : Tx) : Bool := okP x.1 x.2
def qX (x : Tx) : Rat := qv x.1 x.2
def BdX (n : Nat) (x : Tx) : Prop := (x.1.length ≤ 281474976710656 ∧ x.2.length ≤ 281474976710656) ∧ (okX x = true → Fq n (qX x))
theorem BdX.mono {m n : Nat} {x : Tx} (h : BdX m x) (hl : m ≤ n) : BdX n x := ⟨h.1, fun g => (h.2 g).mono hl⟩
structure Sg (s d : List UInt8) (j : Nat) (neg : Bool) : Prop where
 hj : j = if neg then 1 else 0
 hl : s.length = d.length + j
 hg : ∀ i, s.getD (i + j) 0 = d.getD i 0
 h0 : (0 < s.length ∧ s.getD 0 0 = 45) ↔ neg = true
def Q4 (k : Nat) (q : Rat) : Prop := Sm k q.num ∧ Sm k (q.den : Int)
theorem Q4.mono {k l : Nat} {q : Rat} (h : Q4 k q) (hl : k ≤ l) : Q4 l q := ⟨h.1.mono hl, h.2.mono hl⟩
theorem Q4.neg {k : Nat} {q : Rat} (h : Q4 k q) : Q4 k (-q) := ⟨by rw [Rat.neg_num]; exact h.1.neg, by rw [Rat.neg_den]; exact h.2⟩
theorem Q4.of {k : Nat} {n d : Int} (hn : Sm k n) (hd : Sm k d) (hd0 : d ≠ 0) : Q4 k (Rat.divInt n d) := by
 have h1 := jgM n d hd0
 have h2 := jgN n d hd0
 have h3 := jbm (if d < 0 then -n else n) (Int.gcd (if d < 0 then -n else n) (if d < 0 then -d else d))
 have h4 := jbm (if d < 0 then -d else d) (Int.gcd (if d < 0 then -n else n) (if d < 0 then -d else d))
 rw [h1] at h3
 rw [h2] at h4
 have e1 : (if d < 0 then -n else n).natAbs = n.natAbs := by split <;> simp
 have e2 : (if d < 0 then -d else d).natAbs = d.natAbs := by split <;> simp
 exact ⟨hn.le (by omega), hd.le (by omega)⟩
theorem mul_divInt (x y : Rat) : x * y = Rat.divInt (x.num * y.num) ((x.den : Int) * (y.den : Int)) := by
 conv => lhs; rw [← jh1 x, ← jh1 y]
 rw [Rat.divInt_mul_divInt]
theorem den_ne (x : Rat) : (x.den : Int) ≠ 0 := by have := x.den_pos; omega
theorem Q4.mul {k l : Nat} {x y : Rat} (h : Q4 k x) (g : Q4 l y) : Q4 (k + l) (x * y) := by
 rw [mul_divInt]
 exact Q4.of (h.1.mul g.1) (h.2.mul g.2) (Int.mul_ne_zero (den_ne x) (den_ne y))
theorem y_one : Fq 1 1 := ⟨by decide, by decide⟩
theorem y_small {n m : Int} (hn : -9223372036854775807 ≤ n ∧ n ≤ 9223372036854775807) (hm : 1 ≤ m ∧ m ≤ 9223372036854775807) : Fq 20 (Rat.divInt n m) := by
 obtain ⟨d, rfl⟩ : ∃ d : Nat, m = d := ⟨m.toNat, by omega⟩
 exact jaZ (by omega) (by omega) (by omega)
theorem y_of {n m : Int} (hn : -9223372036854775807 ≤ n ∧ n ≤ 9223372036854775807) (hm : 1 ≤ m ∧ m ≤ 9223372036854775807) : Called Tryz.prog 97 [.int .i64 n, .int .i64 m] (.tup [frT (Rat.divInt n m), .int .i64 0]) := by
 rw [← jer ((y_small hn hm).ok (by omega) (by omega))]
 exact of_c n m (by simp [InR, V.lo, V.hi]; omega) (by simp [InR, V.lo, V.hi]; omega) (by omega)
theorem y_rof {n m : Int} (hn : -9223372036854775807 ≤ n ∧ n ≤ 9223372036854775807) (hm : 1 ≤ m ∧ m ≤ 9223372036854775807) : Called Tryz.prog 46 [.int .i64 n, .int .i64 m] (.tup [frT (Rat.divInt n m), .int .i64 0]) := by
 rw [← jer ((y_small hn hm).ok (by omega) (by omega))]
 exact of02_c n m (by simp [InR, V.lo, V.hi]; omega) (by simp [InR, V.lo, V.hi]; omega) (by omega)
def sm (f : Nat → Rat) : Nat → Rat
 | 0 => 0
 | k + 1 => sm f k + f k
theorem jbr {f g : Nat → Rat} : ∀ {k : Nat}, (∀ i, i < k → f i = g i) → sm f k = sm g k
 | 0, _ => rfl
 | k + 1, h => by
  simp only [sm]
  rw [jbr (k := k) fun i hi => h i (by omega), h k (by omega)]
theorem sm_add (f g : Nat → Rat) : ∀ k, sm (fun i => f i + g i) k = sm f k + sm g k
 | 0 => by simp only [sm]; grind
 | k + 1 => by
  simp only [sm]
  rw [sm_add f g k]
  grind
theorem sm_mul (c : Rat) (f : Nat → Rat) : ∀ k, sm (fun i => c * f i) k = c * sm f k
 | 0 => by simp only [sm]; grind
 | k + 1 => by
  simp only [sm]
  rw [sm_mul c f k]
  grind
theorem jdK (c : Rat) : ∀ k : Nat, sm (fun _ => c) k = ((k : Int) : Rat) * c
 | 0 => by simp [sm]
 | k + 1 => by
  simp only [sm]
  rw [jdK c k, Int.natCast_add, Rat.intCast_add]
  grind
theorem sm_ind (R : Nat) : ∀ k, R ≤ k → sm (fun t => if t < R then 1 else 0) k = ((R : Int) : Rat)
 | 0, h => by
  have : R = 0 := by omega
  subst this
  simp [sm]
 | k + 1, h => by
  simp only [sm]
  by_cases e : R = k + 1
  ·subst e
   rw [if_pos (by omega), jbr (g := fun _ => 1) fun i hi => if_pos (by omega), jdK, Int.natCast_add, Rat.intCast_add]
   grind
  ·rw [if_neg (by omega), sm_ind R k (by omega)]
   grind
theorem sm_le {f g : Nat → Rat} : ∀ {k : Nat}, (∀ i, i < k → f i ≤ g i) → sm f k ≤ sm g k
 | 0, _ => Rat.le_refl
 | k + 1, h => by
  simp only [sm]
  have h1 := sm_le (k := k) fun i hi => h i (by omega)
  have h2 := h k (by omega)
  grind
theorem lvl {N b R t : Int} (hN : 0 < N) (h0 : 0 ≤ R) (h1 : R ≤ N) (t0 : 0 ≤ t) (t1 : t < N) : (b * N + R - 1 - t) / N + 1 = b + (if t < R then 1 else 0) := by
 by_cases h : t < R
 ·rw [if_pos h, show b * N + R - 1 - t = (R - 1 - t) + N * b by rw [jhO]; omega, Int.add_mul_ediv_left _ _ (by omega), Int.ediv_eq_zero_of_lt (by omega) (by omega)]
  omega
 ·rw [if_neg h, show b * N + R - 1 - t = (R - 1 - t + N) + N * (b - 1) by rw [Int.mul_sub, Int.mul_one, jhO]; omega, Int.add_mul_ediv_left _ _ (by omega), Int.ediv_eq_zero_of_lt (by omega) (by omega)]
  omega
def lvF (v : Int → Int → Int → Rat) (N : Nat) (P Q R : Int) : Rat := sm (fun t => v ((P - 1 - t) / N + 1) ((Q - 1 - t) / N + 1) ((R - 1 - t) / N + 1)) N
theorem jdt {N A B C : Nat} (hA : A ≤ N) (hB : B ≤ A) (hC : C ≤ B) (v0 v1 v2 v3 : Rat) :
  sm (fun t => if t < C then v3 else if t < B then v2 else if t < A then v1 else v0) N = (((N : Int) : Rat) - ((A : Int) : Rat)) * v0 + (((A : Int) : Rat) - ((B : Int) : Rat)) * v1 + (((B : Int) : Rat) - ((C : Int) : Rat)) * v2 + ((C : Int) : Rat) * v3 := by
 have e : ∀ t, (if t < C then v3 else if t < B then v2 else if t < A then v1 else v0) = v0 + ((v1 - v0) * (if t < A then 1 else 0) + ((v2 - v1) * (if t < B then 1 else 0) + (v3 - v2) * (if t < C then 1 else 0))) := fun t => by
  by_cases h1 : t < C
  ·rw [if_pos h1, if_pos h1, if_pos (show t < B by omega), if_pos (show t < A by omega)]; grind
  ·rw [if_neg h1, if_neg h1]
   by_cases h2 : t < B
   ·rw [if_pos h2, if_pos h2, if_pos (show t < A by omega)]; grind
   ·rw [if_neg h2, if_neg h2]
    by_cases h3 : t < A
    ·rw [if_pos h3, if_pos h3]; grind
    ·rw [if_neg h3, if_neg h3]; grind
 rw [jbr fun t _ => e t, sm_add, sm_add, sm_add, jdK, sm_mul, sm_mul, sm_mul, sm_ind A N hA, sm_ind B N (by omega), sm_ind C N (by omega)]
 grind
def ord3 (r0 r1 r2 : Rat) : List Int :=
 if r0 < r1 then (if r0 < r2 then (if r1 < r2 then [2, 1, 0] else [1, 2, 0]) else [1, 0, 2])
 else (if r1 < r2 then (if r0 < r2 then [2, 0, 1] else [0, 2, 1]) else [0, 1, 2])
def ord2 (r0 r1 : Rat) : List Int := if r0 < r1 then [1, 0] else [0, 1]
def sel (r0 r1 r2 : Rat) (i : Int) : Rat := if i = 0 then r0 else if i = 1 then r1 else r2
def bmp (b : Int × Int × Int) (i : Int) : Int × Int × Int := if i = 0 then (b.1 + 1, b.2.1, b.2.2) else if i = 1 then (b.1, b.2.1 + 1, b.2.2) else (b.1, b.2.1, b.2.2 + 1)
def vat (v : Int → Int → Int → Rat) (b : Int × Int × Int) : Rat := v b.1 b.2.1 b.2.2
def evO (v : Int → Int → Int → Rat) (b : Int × Int × Int) (r0 r1 r2 : Rat) (i j k : Int) : Rat :=
 (1 - sel r0 r1 r2 i) * vat v b + (sel r0 r1 r2 i - sel r0 r1 r2 j) * vat v (bmp b i) + (sel r0 r1 r2 j - sel r0 r1 r2 k) * vat v (bmp (bmp b i) j) + sel r0 r1 r2 k * vat v (bmp (bmp (bmp b i) j) k)
def evL (v : Int → Int → Int → Rat) (b : Int × Int × Int) (r0 r1 r2 : Rat) (o : List Int) : Rat := evO v b r0 r1 r2 (o.getD 0 0) (o.getD 1 0) (o.getD 2 0)
theorem lvlN {N R t : Nat} {b : Int} (hN : 0 < N) (h1 : R ≤ N) (t1 : t < N) : (b * N + R - 1 - t) / N + 1 = b + (if t < R then 1 else 0) := by
 have h := lvl (N := N) (b := b) (R := R) (t := t) (by omega) (by omega) (by omega) (by omega) (by omega)
 rw [h]
 by_cases g : t < R
 ·rw [if_pos g, if_pos (by omega)]
 ·rw [if_neg g, if_neg (by omega)]
theorem jdg {N : Nat} (h : 0 < N) : ((N : Int) : Rat) ≠ 0 := by
 intro e
 have : (N : Int) = 0 := by exact_mod_cast e
 omega
theorem ev_210 {N A0 A1 A2 : Nat} {b0 b1 b2 : Int} (hN : 0 < N) (hA : A2 ≤ N) (hB : A1 ≤ A2) (hC : A0 ≤ A1) (v : Int → Int → Int → Rat) :
  ((N : Int) : Rat) * evO v (b0, b1, b2) (((A0 : Int) : Rat) / ((N : Int) : Rat)) (((A1 : Int) : Rat) / ((N : Int) : Rat)) (((A2 : Int) : Rat) / ((N : Int) : Rat)) 2 1 0 = lvF v N (b0 * N + A0) (b1 * N + A1) (b2 * N + A2) := by
 have hz := jdg hN
 have key := jdt hA hB hC (v b0 b1 b2) (v b0 b1 (b2 + 1)) (v b0 (b1 + 1) (b2 + 1)) (v (b0 + 1) (b1 + 1) (b2 + 1))
 unfold lvF
 rw [jbr (g := fun t => if t < A0 then v (b0 + 1) (b1 + 1) (b2 + 1) else if t < A1 then v b0 (b1 + 1) (b2 + 1) else if t < A2 then v b0 b1 (b2 + 1) else v b0 b1 b2) fun t ht => by
  rw [lvlN hN (show A0 ≤ N by omega) ht, lvlN hN (show A1 ≤ N by omega) ht, lvlN hN (show A2 ≤ N by omega) ht]
  by_cases h1 : t < A0
  ·rw [if_pos h1, if_pos h1, if_pos (show t < A2 by omega), if_pos (show t < A1 by omega)]
  ·by_cases h2 : t < A1
   ·rw [if_neg h1, if_neg h1, if_pos h2, if_pos h2, if_pos (show t < A2 by omega)]
    simp only [jhV]
   ·by_cases h3 : t < A2
    ·rw [if_neg h1, if_neg h1, if_neg h2, if_neg h2, if_pos h3, if_pos h3]
     simp only [jhV]
    ·rw [if_neg h1, if_neg h1, if_neg h2, if_neg h2, if_neg h3, if_neg h3]
     simp only [jhV], key]
 simp only [evO, sel, bmp, vat]
 simp
 generalize v b0 b1 b2 = w0
 generalize v b0 b1 (b2 + 1) = w1
 generalize v b0 (b1 + 1) (b2 + 1) = w2
 generalize v (b0 + 1) (b1 + 1) (b2 + 1) = w3
 grind
theorem ev_120 {N A0 A1 A2 : Nat} {b0 b1 b2 : Int} (hN : 0 < N) (hA : A1 ≤ N) (hB : A2 ≤ A1) (hC : A0 ≤ A2) (v : Int → Int → Int → Rat) :
  ((N : Int) : Rat) * evO v (b0, b1, b2) (((A0 : Int) : Rat) / ((N : Int) : Rat)) (((A1 : Int) : Rat) / ((N : Int) : Rat)) (((A2 : Int) : Rat) / ((N : Int) : Rat)) 1 2 0 = lvF v N (b0 * N + A0) (b1 * N + A1) (b2 * N + A2) := by
 have hz := jdg hN
 have key := jdt hA hB hC (v b0 b1 b2) (v b0 (b1 + 1) b2) (v b0 (b1 + 1) (b2 + 1)) (v (b0 + 1) (b1 + 1) (b2 + 1))
 unfold lvF
 rw [jbr (g := fun t => if t < A0 then v (b0 + 1) (b1 + 1) (b2 + 1) else if t < A2 then v b0 (b1 + 1) (b2 + 1) else if t < A1 then v b0 (b1 + 1) b2 else v b0 b1 b2) fun t ht => by
  rw [lvlN hN (show A0 ≤ N by omega) ht, lvlN hN (show A1 ≤ N by omega) ht, lvlN hN (show A2 ≤ N by omega) ht]
  by_cases h1 : t < A0
  ·rw [if_pos h1, if_pos h1, if_pos (show t < A1 by omega), if_pos (show t < A2 by omega)]
  ·by_cases h2 : t < A2
   ·rw [if_neg h1, if_neg h1, if_pos h2, if_pos h2, if_pos (show t < A1 by omega)]
    simp only [jhV]
   ·by_cases h3 : t < A1
    ·rw [if_neg h1, if_neg h1, if_neg h2, if_neg h2, if_pos h3, if_pos h3]
     simp only [jhV]
    ·rw [if_neg h1, if_neg h1, if_neg h2, if_neg h2, if_neg h3, if_neg h3]
     simp only [jhV], key]
 simp only [evO, sel, bmp, vat]
 simp
 generalize v b0 b1 b2 = w0
 generalize v b0 (b1 + 1) b2 = w1
 generalize v b0 (b1 + 1) (b2 + 1) = w2
 generalize v (b0 + 1) (b1 + 1) (b2 + 1) = w3
 grind
theorem ev_102 {N A0 A1 A2 : Nat} {b0 b1 b2 : Int} (hN : 0 < N) (hA : A1 ≤ N) (hB : A0 ≤ A1) (hC : A2 ≤ A0) (v : Int → Int → Int → Rat) :
  ((N : Int) : Rat) * evO v (b0, b1, b2) (((A0 : Int) : Rat) / ((N : Int) : Rat)) (((A1 : Int) : Rat) / ((N : Int) : Rat)) (((A2 : Int) : Rat) / ((N : Int) : Rat)) 1 0 2 = lvF v N (b0 * N + A0) (b1 * N + A1) (b2 * N + A2) := by
 have hz := jdg hN
 have key := jdt hA hB hC (v b0 b1 b2) (v b0 (b1 + 1) b2) (v (b0 + 1) (b1 + 1) b2) (v (b0 + 1) (b1 + 1) (b2 + 1))
 unfold lvF
 rw [jbr (g := fun t => if t < A2 then v (b0 + 1) (b1 + 1) (b2 + 1) else if t < A0 then v (b0 + 1) (b1 + 1) b2 else if t < A1 then v b0 (b1 + 1) b2 else v b0 b1 b2) fun t ht => by
  rw [lvlN hN (show A0 ≤ N by omega) ht, lvlN hN (show A1 ≤ N by omega) ht, lvlN hN (show A2 ≤ N by omega) ht]
  by_cases h1 : t < A2
  ·rw [if_pos h1, if_pos h1, if_pos (show t < A1 by omega), if_pos (show t < A0 by omega)]
  ·by_cases h2 : t < A0
   ·rw [if_neg h1, if_neg h1, if_pos h2, if_pos h2, if_pos (show t < A1 by omega)]
    simp only [jhV]
   ·by_cases h3 : t < A1
    ·rw [if_neg h1, if_neg h1, if_neg h2, if_neg h2, if_pos h3, if_pos h3]
     simp only [jhV]
    ·rw [if_neg h1, if_neg h1, if_neg h2, if_neg h2, if_neg h3, if_neg h3]
     simp only [jhV], key]
 simp only [evO, sel, bmp, vat]
 simp
 generalize v b0 b1 b2 = w0
 generalize v b0 (b1 + 1) b2 = w1
 generalize v (b0 + 1) (b1 + 1) b2 = w2
 generalize v (b0 + 1) (b1 + 1) (b2 + 1) = w3
 grind
theorem ev_201 {N A0 A1 A2 : Nat} {b0 b1 b2 : Int} (hN : 0 < N) (hA : A2 ≤ N) (hB : A0 ≤ A2) (hC : A1 ≤ A0) (v : Int → Int → Int → Rat) :
  ((N : Int) : Rat) * evO v (b0, b1, b2) (((A0 : Int) : Rat) / ((N : Int) : Rat)) (((A1 : Int) : Rat) / ((N : Int) : Rat)) (((A2 : Int) : Rat) / ((N : Int) : Rat)) 2 0 1 = lvF v N (b0 * N + A0) (b1 * N + A1) (b2 * N + A2) := by
 have hz := jdg hN
 have key := jdt hA hB hC (v b0 b1 b2) (v b0 b1 (b2 + 1)) (v (b0 + 1) b1 (b2 + 1)) (v (b0 + 1) (b1 + 1) (b2 + 1))
 unfold lvF
 rw [jbr (g := fun t => if t < A1 then v (b0 + 1) (b1 + 1) (b2 + 1) else if t < A0 then v (b0 + 1) b1 (b2 + 1) else if t < A2 then v b0 b1 (b2 + 1) else v b0 b1 b2) fun t ht => by
  rw [lvlN hN (show A0 ≤ N by omega) ht, lvlN hN (show A1 ≤ N by omega) ht, lvlN hN (show A2 ≤ N by omega) ht]
  by_cases h1 : t < A1
  ·rw [if_pos h1, if_pos h1, if_pos (show t < A2 by omega), if_pos (show t < A0 by omega)]
  ·by_cases h2 : t < A0
   ·rw [if_neg h1, if_neg h1, if_pos h2, if_pos h2, if_pos (show t < A2 by omega)]
    simp only [jhV]
   ·by_cases h3 : t < A2
    ·rw [if_neg h1, if_neg h1, if_neg h2, if_neg h2, if_pos h3, if_pos h3]
     simp only [jhV]
    ·rw [if_neg h1, if_neg h1, if_neg h2, if_neg h2, if_neg h3, if_neg h3]
     simp only [jhV], key]
 simp only [evO, sel, bmp, vat]
 simp
 generalize v b0 b1 b2 = w0
 generalize v b0 b1 (b2 + 1) = w1
 generalize v (b0 + 1) b1 (b2 + 1) = w2
 generalize v (b0 + 1) (b1 + 1) (b2 + 1) = w3
 grind
theorem ev_021 {N A0 A1 A2 : Nat} {b0 b1 b2 : Int} (hN : 0 < N) (hA : A0 ≤ N) (hB : A2 ≤ A0) (hC : A1 ≤ A2) (v : Int → Int → Int → Rat) :
  ((N : Int) : Rat) * evO v (b0, b1, b2) (((A0 : Int) : Rat) / ((N : Int) : Rat)) (((A1 : Int) : Rat) / ((N : Int) : Rat)) (((A2 : Int) : Rat) / ((N : Int) : Rat)) 0 2 1 = lvF v N (b0 * N + A0) (b1 * N + A1) (b2 * N + A2) := by
 have hz := jdg hN
 have key := jdt hA hB hC (v b0 b1 b2) (v (b0 + 1) b1 b2) (v (b0 + 1) b1 (b2 + 1)) (v (b0 + 1) (b1 + 1) (b2 + 1))
 unfold lvF
 rw [jbr (g := fun t => if t < A1 then v (b0 + 1) (b1 + 1) (b2 + 1) else if t < A2 then v (b0 + 1) b1 (b2 + 1) else if t < A0 then v (b0 + 1) b1 b2 else v b0 b1 b2) fun t ht => by
  rw [lvlN hN (show A0 ≤ N by omega) ht, lvlN hN (show A1 ≤ N by omega) ht, lvlN hN (show A2 ≤ N by omega) ht]
  by_cases h1 : t < A1
  ·rw [if_pos h1, if_pos h1, if_pos (show t < A0 by omega), if_pos (show t < A2 by omega)]
  ·by_cases h2 : t < A2
   ·rw [if_neg h1, if_neg h1, if_pos h2, if_pos h2, if_pos (show t < A0 by omega)]
    simp only [jhV]
   ·by_cases h3 : t < A0
    ·rw [if_neg h1, if_neg h1, if_neg h2, if_neg h2, if_pos h3, if_pos h3]
     simp only [jhV]
    ·rw [if_neg h1, if_neg h1, if_neg h2, if_neg h2, if_neg h3, if_neg h3]
     simp only [jhV], key]
 simp only [evO, sel, bmp, vat]
 simp
 generalize v b0 b1 b2 = w0
 generalize v (b0 + 1) b1 b2 = w1
 generalize v (b0 + 1) b1 (b2 + 1) = w2
 generalize v (b0 + 1) (b1 + 1) (b2 + 1) = w3
 grind
theorem ev_012 {N A0 A1 A2 : Nat} {b0 b1 b2 : Int} (hN : 0 < N) (hA : A0 ≤ N) (hB : A1 ≤ A0) (hC : A2 ≤ A1) (v : Int → Int → Int → Rat) :
  ((N : Int) : Rat) * evO v (b0, b1, b2) (((A0 : Int) : Rat) / ((N : Int) : Rat)) (((A1 : Int) : Rat) / ((N : Int) : Rat)) (((A2 : Int) : Rat) / ((N : Int) : Rat)) 0 1 2 = lvF v N (b0 * N + A0) (b1 * N + A1) (b2 * N + A2) := by
 have hz := jdg hN
 have key := jdt hA hB hC (v b0 b1 b2) (v (b0 + 1) b1 b2) (v (b0 + 1) (b1 + 1) b2) (v (b0 + 1) (b1 + 1) (b2 + 1))
 unfold lvF
 rw [jbr (g := fun t => if t < A2 then v (b0 + 1) (b1 + 1) (b2 + 1) else if t < A1 then v (b0 + 1) (b1 + 1) b2 else if t < A0 then v (b0 + 1) b1 b2 else v b0 b1 b2) fun t ht => by
  rw [lvlN hN (show A0 ≤ N by omega) ht, lvlN hN (show A1 ≤ N by omega) ht, lvlN hN (show A2 ≤ N by omega) ht]
  by_cases h1 : t < A2
  ·rw [if_pos h1, if_pos h1, if_pos (show t < A0 by omega), if_pos (show t < A1 by omega)]
  ·by_cases h2 : t < A1
   ·rw [if_neg h1, if_neg h1, if_pos h2, if_pos h2, if_pos (show t < A0 by omega)]
    simp only [jhV]
   ·by_cases h3 : t < A0
    ·rw [if_neg h1, if_neg h1, if_neg h2, if_neg h2, if_pos h3, if_pos h3]
     simp only [jhV]
    ·rw [if_neg h1, if_neg h1, if_neg h2, if_neg h2, if_neg h3, if_neg h3]
     simp only [jhV], key]
 simp only [evO, sel, bmp, vat]
 simp
 generalize v b0 b1 b2 = w0
 generalize v (b0 + 1) b1 b2 = w1
 generalize v (b0 + 1) (b1 + 1) b2 = w2
 generalize v (b0 + 1) (b1 + 1) (b2 + 1) = w3
 grind
theorem rlt {N A B : Nat} (hN : 0 < N) : (((A : Int) : Rat) / ((N : Int) : Rat) < ((B : Int) : Rat) / ((N : Int) : Rat)) ↔ A < B := by
 have h1 : (0 : Rat) < ((N : Int) : Rat) := by exact_mod_cast (show (0 : Int) < N by omega)
 rw [Rat.div_lt_iff h1, Rat.div_mul_cancel (jdg hN)]
 constructor
 ·intro h
  have : (A : Int) < B := by exact_mod_cast h
  omega
 ·intro h
  exact_mod_cast (show (A : Int) < B by omega)
theorem ev_main {N A0 A1 A2 : Nat} {b0 b1 b2 : Int} (hN : 0 < N) (h0 : A0 ≤ N) (h1 : A1 ≤ N) (h2 : A2 ≤ N) (v : Int → Int → Int → Rat) :
  ((N : Int) : Rat) * evL v (b0, b1, b2) (((A0 : Int) : Rat) / ((N : Int) : Rat)) (((A1 : Int) : Rat) / ((N : Int) : Rat)) (((A2 : Int) : Rat) / ((N : Int) : Rat)) (ord3 (((A0 : Int) : Rat) / ((N : Int) : Rat)) (((A1 : Int) : Rat) / ((N : Int) : Rat)) (((A2 : Int) : Rat) / ((N : Int) : Rat))) = lvF v N (b0 * N + A0) (b1 * N + A1) (b2 * N + A2) := by
 unfold ord3
 simp only [rlt hN]
 by_cases c1 : A0 < A1
 ·rw [if_pos c1]
  by_cases c2 : A0 < A2
  ·rw [if_pos c2]
   by_cases c3 : A1 < A2
   ·rw [if_pos c3]
    exact ev_210 hN h2 (by omega) (by omega) v
   ·rw [if_neg c3]
    exact ev_120 hN h1 (by omega) (by omega) v
  ·rw [if_neg c2]
   exact ev_102 hN h1 (by omega) (by omega) v
 ·rw [if_neg c1]
  by_cases c3 : A1 < A2
  ·rw [if_pos c3]
   by_cases c2 : A0 < A2
   ·rw [if_pos c2]
    exact ev_201 hN h2 (by omega) (by omega) v
   ·rw [if_neg c2]
    exact ev_021 hN h0 (by omega) (by omega) v
  ·rw [if_neg c3]
   exact ev_012 hN h0 (by omega) (by omega) v
theorem split_N {N : Nat} (hN : 0 < N) (P : Int) : ∃ (b : Int) (A : Nat), A < N ∧ P = b * N + A := by
 have h1 := Int.emod_nonneg P (show (N : Int) ≠ 0 by omega)
 have h2 := jhU P (show (0 : Int) < N by omega)
 have h3 := Int.mul_ediv_add_emod P N
 refine ⟨P / N, (P % N).toNat, by omega, ?_⟩
 rw [Int.toNat_of_nonneg h1, jhO]
 omega
theorem lv_le {N : Nat} {v w : Int → Int → Int → Rat} {P Q R : Int} (h : ∀ i j k : Int, (∃ t : Nat, t < N ∧ i = (P - 1 - t) / N + 1 ∧ j = (Q - 1 - t) / N + 1 ∧ k = (R - 1 - t) / N + 1) → v i j k ≤ w i j k) : lvF v N P Q R ≤ lvF w N P Q R :=
 sm_le fun t ht => h _ _ _ ⟨t, ht, rfl, rfl, rfl⟩
theorem lv_const (c : Rat) (N : Nat) (P Q R : Int) : lvF (fun _ _ _ => c) N P Q R = ((N : Int) : Rat) * c := jdK c N
theorem lvl_in {N t : Nat} {P m : Int} (hN : 0 < N) (ht : t < N) (h0 : 0 ≤ P) (h1 : P ≤ m * N) : 0 ≤ (P - 1 - t) / N + 1 ∧ (P - 1 - t) / N + 1 ≤ m := by
 have hN' : (0 : Int) < N := by omega
 constructor
 ·have : -1 ≤ (P - 1 - t) / N := (Int.le_ediv_iff_mul_le hN').2 (by omega)
  omega
 ·have : (P - 1 - t) / N < m := (Int.ediv_lt_iff_lt_mul hN').2 (by omega)
  omega
theorem at_N {N : Nat} {p : Rat} {P s : Int} (hN : 0 < N) (hP : (P : Rat) = ((N : Int) : Rat) * p) (h0 : 0 ≤ P) (h1 : P ≤ (s - 1) * N) (hs : 2 ≤ s) :
  ∃ A : Nat, A ≤ N ∧ P = (min p.floor (s - 2)) * N + A ∧ p - ((min p.floor (s - 2) : Int) : Rat) = ((A : Int) : Rat) / ((N : Int) : Rat) ∧ 0 ≤ min p.floor (s - 2) := by
 obtain ⟨b, B, hB, e⟩ := split_N hN P
 have hz := jdg hN
 have hNp : (0 : Rat) < ((N : Int) : Rat) := by exact_mod_cast (show (0 : Int) < N by omega)
 have hp : p = (P : Rat) / ((N : Int) : Rat) := by
  rw [hP]
  grind
 have hf : p.floor = b := by
  have l1 : (b : Rat) ≤ p := by
   rw [← Rat.not_lt, hp, Rat.div_lt_iff hNp, Rat.not_lt]
   rw [e, Rat.intCast_add, Rat.intCast_mul]
   have : (0 : Rat) ≤ ((B : Int) : Rat) := by exact_mod_cast (show (0 : Int) ≤ B by omega)
   grind
  have l2 : p < ((b + 1 : Int) : Rat) := by
   rw [hp, Rat.div_lt_iff hNp, e, Rat.intCast_add, Rat.intCast_mul, Rat.intCast_add]
   have : ((B : Int) : Rat) < ((N : Int) : Rat) := by exact_mod_cast (show (B : Int) < N by omega)
   grind
  have g1 := Rat.le_floor_iff.2 l1
  have g2 := Rat.floor_lt_iff.2 l2
  omega
 have b0 : 0 ≤ b := by
  rcases Int.lt_or_le b 0 with h | h
  ·exfalso
   have : b * N ≤ -1 * N := jhI (by omega) (by omega)
   omega
  ·exact h
 rw [hf]
 by_cases hm : b ≤ s - 2
 ·rw [show min b (s - 2) = b by omega]
  refine ⟨B, by omega, e, ?_, b0⟩
  rw [hp, e, Rat.intCast_add, Rat.intCast_mul]
  grind
 ·have hb : b = s - 1 := by
   have : (s - 1) * (N : Int) ≤ b * N := jhI (by omega) (by omega)
   rcases Int.lt_or_le (s - 1) b with h | h
   ·exfalso
    have : (s - 1 + 1) * (N : Int) ≤ b * N := jhI (by omega) (by omega)
    rw [jhX, jhY] at this
    omega
   ·omega
  have hB0 : B = 0 := by
   rw [hb] at e
   omega
  rw [show min b (s - 2) = s - 2 by omega]
  refine ⟨N, by omega, ?_, ?_, by omega⟩
  ·rw [e, hb, hB0, show s - 1 = (s - 2) + 1 by omega, jhX, jhY]
   omega
  ·rw [hp, e, hb, hB0, show s - 1 = (s - 2) + 1 by omega, Rat.intCast_add, Rat.intCast_mul, Rat.intCast_add]
   grind
end Go.Proofs.YtgjgpdceghjajaaGreatDoor
end
