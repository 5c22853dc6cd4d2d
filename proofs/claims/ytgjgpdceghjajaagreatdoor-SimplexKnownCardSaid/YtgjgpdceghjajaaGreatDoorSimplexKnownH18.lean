/- What some functions of the program answer at values that mean given lists, texts and numbers, each proved of the program's own code: part 18. Conditions: those that each theorem names. -/
import Derived.Test.YtgjgpdceghjajaaGreatDoorSimplexKnownH17
import Derived.Test.YtgjgpdceghjajaaGreatDoorSimplexKnownH16
import Derived.Test.YtgjgpdceghjajaaGreatDoorSimplexKnownH14
set_option linter.unusedSimpArgs false
set_option linter.unusedVariables false
set_option maxHeartbeats 8000000
set_option maxRecDepth 100000
section
namespace Go.Proofs.YtgjgpdceghjajaaGreatDoor
open Go Go.V Go.Nb
theorem jaU {a b X Y : Int} (hb : b ≠ 0) (h : a = Y + b * X) (h0 : 0 ≤ Y) (h1 : Y < b.natAbs) : a / b = X ∧ a % b = Y := by
 have hm : a % b = Y := by
  rw [h, Int.add_mul_emod_self_left]
  rcases Int.lt_or_lt_of_ne hb with h2 | h2
  ·rw [← Int.emod_neg, Int.emod_eq_of_lt h0 (by omega)]
  ·exact Int.emod_eq_of_lt h0 (by omega)
 refine ⟨?_, hm⟩
 have h3 := jhA a b
 rw [hm] at h3
 exact Int.eq_of_mul_eq_mul_left hb (by omega)
theorem jgB (a b : Int) (hb : b ≠ 0) (x0 y0 : Int) (hx : x0 = if (decide (a < 0) != decide (b < 0)) = true then -((a.natAbs / b.natAbs : Nat) : Int) else ((a.natAbs / b.natAbs : Nat) : Int))
  (hy : y0 = if decide (a < 0) = true then -((a.natAbs % b.natAbs : Nat) : Int) else ((a.natAbs % b.natAbs : Nat) : Int)) :
  (y0 < 0 → a % b = y0 + b.natAbs ∧ (b < 0 → a / b = x0 + 1) ∧ (¬ b < 0 → a / b = x0 - 1)) ∧ (¬ y0 < 0 → a % b = y0 ∧ a / b = x0) := by
 have h1 := Nat.mod_add_div a.natAbs b.natAbs
 have h2 : a.natAbs % b.natAbs < b.natAbs := Nat.mod_lt _ (by omega)
 generalize a.natAbs % b.natAbs = r at *
 generalize a.natAbs / b.natAbs = q at *
 have h3 : (a.natAbs : Int) = r + (b.natAbs : Int) * q := by rw [← jhM, ← Int.natCast_add, h1]
 have hmul1 : b * ((q : Int) + 1) = b * q + b := by rw [jhN, Int.mul_one]
 have hmul2 : b * (-(q : Int) + 1) = -(b * q) + b := by rw [jhN, Int.mul_one, Int.mul_neg]
 have hmul3 : b * ((q : Int) - 1) = b * q - b := by rw [Int.mul_sub, Int.mul_one]
 have hmul4 : b * (-(q : Int) - 1) = -(b * q) - b := by rw [Int.mul_sub, Int.mul_one, Int.mul_neg]
 have hmul5 : b * (-(q : Int)) = -(b * q) := by rw [Int.mul_neg]
 by_cases ha : a < 0 <;> by_cases hbn : b < 0
 ·have e1 : (b.natAbs : Int) = -b := by omega
  rw [e1, Int.neg_mul] at h3
  simp only [ha, hbn, decide_true, bne_self_eq_false, Bool.false_eq_true, if_false, if_true] at hx hy
  subst hx hy
  refine ⟨fun h => ?_, fun h => ?_⟩
  ·have := jaU (a := a) (b := b) (X := (q : Int) + 1) (Y := -(r : Int) + b.natAbs) hb (by omega) (by omega) (by omega)
   exact ⟨this.2, fun _ => this.1, fun h => absurd hbn h⟩
  ·have := jaU (a := a) (b := b) (X := (q : Int)) (Y := -(r : Int)) hb (by omega) (by omega) (by omega)
   exact ⟨this.2, this.1⟩
 ·have e1 : (b.natAbs : Int) = b := by omega
  rw [e1] at h3
  simp only [ha, hbn, decide_true, decide_false, bne, beq_eq_false_iff_ne, ne_eq, Bool.true_eq_false, not_false_eq_true, if_true, Bool.not_false, beq_false] at hx hy
  have hx' : x0 = -(q : Int) := by simpa using hx
  subst hx' hy
  refine ⟨fun h => ?_, fun h => ?_⟩
  ·have := jaU (a := a) (b := b) (X := -(q : Int) - 1) (Y := -(r : Int) + b.natAbs) hb (by omega) (by omega) (by omega)
   exact ⟨this.2, fun h => absurd h hbn, fun _ => this.1⟩
  ·have := jaU (a := a) (b := b) (X := -(q : Int)) (Y := -(r : Int)) hb (by omega) (by omega) (by omega)
   exact ⟨this.2, this.1⟩
 ·have e1 : (b.natAbs : Int) = -b := by omega
  rw [e1, Int.neg_mul] at h3
  have hx' : x0 = -(q : Int) := by simpa [ha, hbn] using hx
  have hy' : y0 = (r : Int) := by simpa [ha] using hy
  subst hx' hy'
  refine ⟨fun h => by omega, fun h => ?_⟩
  have := jaU (a := a) (b := b) (X := -(q : Int)) (Y := (r : Int)) hb (by omega) (by omega) (by omega)
  exact ⟨this.2, this.1⟩
 ·have e1 : (b.natAbs : Int) = b := by omega
  rw [e1] at h3
  have hx' : x0 = (q : Int) := by simpa [ha, hbn] using hx
  have hy' : y0 = (r : Int) := by simpa [ha] using hy
  subst hx' hy'
  refine ⟨fun h => by omega, fun h => ?_⟩
  have := jaU (a := a) (b := b) (X := (q : Int)) (Y := (r : Int)) hb (by omega) (by omega) (by omega)
  exact ⟨this.2, this.1⟩
theorem jdN (x y : Int) (hx : Sm 80000000 x) (hy : Sm 80000000 y) (hy0 : y ≠ 0) : Called Tryz.prog 122 [plD x, plD y] (.tup [plD (x / y), plD (x % y)]) := by
 unfold Sm at hx hy
 have hp := parts_c x.natAbs y.natAbs (by omega) (by omega) (by omega)
 have hq := jae (B := 10000) (by omega) (jhT x.natAbs y.natAbs)
 have hr := jae (B := 10000) (by omega) (Nat.mod_le x.natAbs y.natAbs)
 have hm1 := jeh (decide (x < 0) != decide (y < 0)) (x.natAbs / y.natAbs) (by omega)
 have hm2 := jeh (decide (x < 0)) (x.natAbs % y.natAbs) (by omega)
 have hpl := jgB x y hy0 _ _ rfl rfl
 have hsx : Sm 80000000 (if (decide (x < 0) != decide (y < 0)) = true then -((x.natAbs / y.natAbs : Nat) : Int) else ((x.natAbs / y.natAbs : Nat) : Int)) := by
  unfold Sm; split <;> simp only [Int.natAbs_neg, jhR] <;> omega
 have hsy : Sm 80000000 (if decide (x < 0) = true then -((x.natAbs % y.natAbs : Nat) : Int) else ((x.natAbs % y.natAbs : Nat) : Int)) := by
  unfold Sm; split <;> simp only [Int.natAbs_neg, jhR] <;> omega
 generalize (if (decide (x < 0) != decide (y < 0)) = true then -((x.natAbs / y.natAbs : Nat) : Int) else ((x.natAbs / y.natAbs : Nat) : Int)) = x0 at *
 generalize (if decide (x < 0) = true then -((x.natAbs % y.natAbs : Nat) : Int) else ((x.natAbs % y.natAbs : Nat) : Int)) = y0 at *
 rw [show plD x = .agg [.bool (decide (x < 0)), .ints .i64 (mg 10000 x.natAbs)] from rfl, show plD y = .agg [.bool (decide (y < 0)), .ints .i64 (mg 10000 y.natAbs)] from rfl] at *
 refine jaa tbOk 6 ⟨Tryz.func122, rfl, rfl, jhy rfl⟩ ?_
 (conv => whnf)
 refine V.st ?_
 repeat ((try ((with_reducible refine .ext ?_); (conv => whnf))); (with_reducible refine jab (r := ?_) ?_ ?_); rotate_left; (focus (first | exact (hp))); (conv => whnf); refine V.st ?_)
 rw [show plD x0 = .agg [.bool (decide (x0 < 0)), .ints .i64 (mg 10000 x0.natAbs)] from rfl] at hm1
 rw [show plD y0 = .agg [.bool (decide (y0 < 0)), .ints .i64 (mg 10000 y0.natAbs)] from rfl] at hm2
 refine ⟨(.take 0 (.take 1 (.take 2 (.take 3 (.take 4 (.take 5 (.take 7 (.take 8 (.take 9 (.ev (.cons 6 [9, 8, 7] (.ev (.cons 10 [] (.ev (.cons 11 [] (.ev (.cons 12 [] (.ev (.cons 13 [] (.ev (.cons 14 [] (.done) (.nil))) (.nil))) (.nil))) (.cons 12 [] (.ev (.cons 11 [] (.ev (.cons 13 [] (.ev (.cons 14 [] (.done) (.nil))) (.nil))) (.nil))) (.nil)))) (.cons 11 [9, 8, 7] (.ev (.cons 10 [] (.ev (.cons 12 [] (.ev (.cons 13 [] (.ev (.cons 14 [] (.done) (.nil))) (.nil))) (.nil))) (.cons 12 [9, 8, 7] (.ev (.cons 10 [] (.ev (.cons 13 [] (.ev (.cons 14 [] (.done) (.nil))) (.nil))) (.nil))) (.nil)))) (.cons 12 [9, 8, 7] (.ev (.cons 10 [] (.ev (.cons 11 [] (.ev (.cons 13 [] (.ev (.cons 14 [] (.done) (.nil))) (.nil))) (.nil))) (.cons 11 [9, 8, 7] (.ev (.cons 10 [] (.ev (.cons 13 [] (.ev (.cons 14 [] (.done) (.nil))) (.nil))) (.nil))) (.nil)))) (.nil))))) (.cons 11 [9, 8, 7, 5, 4, 3, 2, 1, 0] (.ev (.cons 6 [9, 8, 7] (.ev (.cons 10 [] (.ev (.cons 12 [] (.ev (.cons 13 [] (.ev (.cons 14 [] (.done) (.nil))) (.nil))) (.nil))) (.cons 12 [9, 8, 7] (.ev (.cons 10 [] (.ev (.cons 13 [] (.ev (.cons 14 [] (.done) (.nil))) (.nil))) (.nil))) (.nil)))) (.cons 12 [9, 8, 7, 5, 4, 3, 2, 1, 0] (.ev (.cons 6 [9, 8, 7] (.ev (.cons 10 [] (.ev (.cons 13 [] (.ev (.cons 14 [] (.done) (.nil))) (.nil))) (.nil))) (.nil))) (.nil)))) (.cons 12 [9, 8, 7, 5, 4, 3, 2, 1, 0] (.ev (.cons 6 [9, 8, 7] (.ev (.cons 10 [] (.ev (.cons 11 [] (.ev (.cons 13 [] (.ev (.cons 14 [] (.done) (.nil))) (.nil))) (.nil))) (.cons 11 [9, 8, 7] (.ev (.cons 10 [] (.ev (.cons 13 [] (.ev (.cons 14 [] (.done) (.nil))) (.nil))) (.nil))) (.nil)))) (.cons 11 [9, 8, 7, 5, 4, 3, 2, 1, 0] (.ev (.cons 6 [9, 8, 7] (.ev (.cons 10 [] (.ev (.cons 13 [] (.ev (.cons 14 [] (.done) (.nil))) (.nil))) (.nil))) (.nil))) (.nil)))) (.nil)))))))))))))), [], ⟨by kernel_rfl, by kernel_rfl, by kernel_rfl, by kernel_rfl⟩, ?_⟩
 refine jac [(8, .box 8 0), (9, .box 9 0)] [(8, .box [.bool (decide (x0 < 0)), .ints .i64 (mg 10000 x0.natAbs)]), (9, .box [.bool (decide (y0 < 0)), .ints .i64 (mg 10000 y0.natAbs)])] ?_ ?_
 ·exact V.d2 @jhC hm1 hm2
 (conv => whnf)
 refine V.st ?_
 refine Cnd.split (CondB.mk (fun hq => ?_) (fun hq => ?_))
 ·rw [decide_eq_true_eq] at hq
  have hpl := hpl.1 hq
  have hy1 : y0 + (y.natAbs : Int) = x % y := by omega
  have hc1 := plus_c y0 (y.natAbs : Int) (hsy.mono (by omega)) (by unfold Sm; rw [jhR]; omega)
  rw [hy1] at hc1
  rw [show plD y0 = .agg [.bool (decide (y0 < 0)), .ints .i64 (mg 10000 y0.natAbs)] from rfl, show plD (y.natAbs : Int) = .agg [.bool false, .ints .i64 (mg 10000 y.natAbs)] by unfold plD; rw [jhR, decide_eq_false (by omega)], show plD (x % y) = .agg [.bool (decide (x % y < 0)), .ints .i64 (mg 10000 (x % y).natAbs)] from rfl] at hc1
  have hi := jem 1 ⟨by decide, by decide⟩
  (conv => whnf)
  refine V.st ?_
  repeat ((try ((with_reducible refine .ext ?_); (conv => whnf))); (with_reducible refine jab (r := ?_) ?_ ?_); rotate_left; (focus (first | exact (hc1))); (conv => whnf); refine V.st ?_)
  refine Cnd.split (CondB.mk (fun hq2 => ?_) (fun hq2 => ?_))
  ·rw [decide_eq_true_eq] at hq2
   have hc2 := plus_c x0 1 (hsx.mono (by omega)) ((Sm.lit (k := 1) (by decide)).mono (by omega))
   rw [← hpl.2.1 hq2, show plD x0 = .agg [.bool (decide (x0 < 0)), .ints .i64 (mg 10000 x0.natAbs)] from rfl, show plD (x / y) = .agg [.bool (decide (x / y < 0)), .ints .i64 (mg 10000 (x / y).natAbs)] from rfl] at hc2
   (conv => whnf)
   refine V.st ?_
   refine ⟨(.take 0 (.ev (.cons 1 [0] (.ev (.cons 2 [] (.ev (.cons 3 [] (.done) (.nil))) (.nil))) (.nil)))), [], ⟨by kernel_rfl, by kernel_rfl, by kernel_rfl, by kernel_rfl⟩, .go (jag ?_)⟩
   (conv => whnf)
   refine V.st ?_
   repeat ((try ((with_reducible refine .ext ?_); (conv => whnf))); (with_reducible refine jab (r := ?_) ?_ ?_); rotate_left; (focus (first | exact (hi) | exact (hc2))); (conv => whnf); refine V.st ?_)
   refine ⟨(.take 0 (.take 1 (.ev (.cons 2 [1] (.ev (.cons 3 [] (.done) (.nil))) (.nil))))), [], ⟨by kernel_rfl, by kernel_rfl, by kernel_rfl, by kernel_rfl⟩, .go (jag ?_)⟩
   (conv => whnf)
   refine V.st ?_
   exact Fin.of rfl
  ·rw [decide_eq_false_iff_not] at hq2
   have hc2 := minus_c x0 1 (hsx.mono (by omega)) ((Sm.lit (k := 1) (by decide)).mono (by omega))
   rw [← hpl.2.2 hq2, show plD x0 = .agg [.bool (decide (x0 < 0)), .ints .i64 (mg 10000 x0.natAbs)] from rfl, show plD (x / y) = .agg [.bool (decide (x / y < 0)), .ints .i64 (mg 10000 (x / y).natAbs)] from rfl] at hc2
   (conv => whnf)
   refine V.st ?_
   refine ⟨(.take 0 (.ev (.cons 1 [0] (.ev (.cons 2 [] (.ev (.cons 3 [] (.done) (.nil))) (.nil))) (.nil)))), [], ⟨by kernel_rfl, by kernel_rfl, by kernel_rfl, by kernel_rfl⟩, .go (jag ?_)⟩
   (conv => whnf)
   refine V.st ?_
   repeat ((try ((with_reducible refine .ext ?_); (conv => whnf))); (with_reducible refine jab (r := ?_) ?_ ?_); rotate_left; (focus (first | exact (hi) | exact (hc2))); (conv => whnf); refine V.st ?_)
   refine ⟨(.take 0 (.take 1 (.ev (.cons 2 [1] (.ev (.cons 3 [] (.done) (.nil))) (.nil))))), [], ⟨by kernel_rfl, by kernel_rfl, by kernel_rfl, by kernel_rfl⟩, .go (jag ?_)⟩
   (conv => whnf)
   refine V.st ?_
   exact Fin.of rfl
 ·rw [decide_eq_false_iff_not] at hq
  have hpl := hpl.2 hq
  rw [← hpl.1, ← hpl.2]
  (conv => whnf)
  refine V.st ?_
  refine ⟨(.take 0 (.take 1 (.ev (.cons 2 [1] (.ev (.cons 3 [] (.done) (.nil))) (.nil))))), [], ⟨by kernel_rfl, by kernel_rfl, by kernel_rfl, by kernel_rfl⟩, .go (jag ?_)⟩
  (conv => whnf)
  refine V.st ?_
  exact Fin.of rfl
theorem jgb (x y : Int) (hx : Sm 80000000 x) (hy : Sm 80000000 y) : Called Tryz.prog 107 [plD x, plD y] (plD (Int.gcd x y)) := by
 unfold Sm at hx hy
 rw [show plD x = .agg [.bool (decide (x < 0)), .ints .i64 (mg 10000 x.natAbs)] from rfl, show plD y = .agg [.bool (decide (y < 0)), .ints .i64 (mg 10000 y.natAbs)] from rfl]
 refine jaa tbOk 6 ⟨Tryz.func107, rfl, rfl, jhy rfl⟩ ?_
 (conv => whnf)
 refine V.st ?_
 refine ⟨(.take 0 (.take 1 (.take 2 (.take 3 (.take 4 (.take 5 (.done))))))), [], ⟨by kernel_rfl, by kernel_rfl, by kernel_rfl, by kernel_rfl⟩, .go (jag ?_)⟩
 refine V.st ?_
 refine jah ((x.natAbs, y.natAbs) : Nat × Nat) (fun s => Nat.gcd s.1 s.2 = Int.gcd x y ∧ (mg 10000 s.1).length ≤ 80000000 ∧ (mg 10000 s.2).length ≤ 80000000) (fun s => s.2)
  (fun s => [(6, .ints .i64 (mg 10000 s.2)), (5, .ints .i64 (mg 10000 s.1))]) (fun _ => []) ?_ ?_ ?_
 ·exact V.wk
 ·exact ⟨rfl, hx, hy⟩
 rintro ⟨a, b⟩ ⟨h1, h2, h3⟩
 dsimp only at h1 h2 h3 ⊢
 have hnil := jcr (B := 10000) (n := b) (by omega)
 rw [← List.length_eq_zero_iff] at hnil
 (conv => whnf)
 refine V.st ?_
 refine Cnd.split (CondB.mk (fun hq => ?_) (fun hq => ?_))
 ·rw [decide_eq_true_eq] at hq
  have hb : 0 < b := by omega
  have hp := parts_c a b (by omega) (by omega) hb
  have hr := jae (B := 10000) (by omega) (Nat.le_of_lt (Nat.mod_lt a hb))
  (conv => whnf)
  refine V.st ?_
  repeat ((try ((with_reducible refine .ext ?_); (conv => whnf))); (with_reducible refine jab (r := ?_) ?_ ?_); rotate_left; (focus (first | exact (hp))); (conv => whnf); refine V.st ?_)
  exact ⟨(b, a % b), ⟨by dsimp only; rw [Nat.gcd_comm, ← Nat.gcd_rec, Nat.gcd_comm]; exact h1, h3, by dsimp only; omega⟩, Nat.mod_lt _ hb, V.wk⟩
 ·rw [decide_eq_false_iff_not] at hq
  obtain rfl : b = 0 := hnil.1 (by omega)
  rw [Nat.gcd_zero_right] at h1
  (conv => whnf)
  refine V.st ?_
  exact Fin.of (by unfold plD; rw [jhR, h1, decide_eq_false (by omega)])
theorem jeX (k : Nat) : ∀ (l a b : Nat), b < 10 ^ l → pad k a ++ pad l b = pad (k + l) (a * 10 ^ l + b)
 | 0, a, b, h => by
  obtain rfl : b = 0 := by simp at h; omega
  simp [pad]
 | l + 1, a, b, h => by
  have hb : b / 10 < 10 ^ l := Nat.div_lt_of_lt_mul (by rw [Nat.pow_succ, jhG] at h; exact h)
  have e : a * 10 ^ (l + 1) + b = (a * 10 ^ l) * 10 + b := by rw [Nat.pow_succ, Nat.mul_assoc]
  have e1 : (a * 10 ^ (l + 1) + b) / 10 = a * 10 ^ l + b / 10 := by omega
  have e2 : (a * 10 ^ (l + 1) + b) % 10 = b % 10 := by omega
  rw [show k + (l + 1) = (k + l) + 1 by omega, pad, pad, e1, e2, ← jeX k l a _ hb, List.append_assoc]
theorem dec_head (n : Nat) (h : 0 < n) : (dec n).getD 0 0 ≠ 48 := by
 induction n using Nat.strongRecOn with
 | _ n ih =>
  by_cases h1 : n < 10
  ·rw [jbp h1]
   intro e
   have := congrArg UInt8.toNat e
   simp only [List.getD_cons_zero] at this
   rw [jcx h1] at this
   simp at this
   omega
  ·rw [jcg (by omega), List.getD_eq_getElem?_getD, List.getElem?_append_left (ja0 _), ← List.getD_eq_getElem?_getD]
   exact ih _ (by omega) (by omega)
theorem four_c (n : Nat) (h : n < 10000) : Called Tryz.prog 140 [.int .i64 n] (.str (pad 4 n)) := by
 refine jaa tbOk 6 ⟨Tryz.func140, rfl, rfl, jhy rfl⟩ ?_
 (conv => whnf)
 refine V.st ?_
 exact Fin.of (by
  have e : ∀ m : Nat, (48 + (m : Int)).toNat = 48 + m := fun m => by omega
  simp only [pad, List.nil_append, List.append_assoc, List.cons_append, List.map_cons, List.map_nil]
  have e1 : (48 + (n : Int) / 1000).toNat = 48 + n / 10 / 10 / 10 % 10 := by omega
  have e2 : (48 + (n : Int) / 100 % 10).toNat = 48 + n / 10 / 10 % 10 := by omega
  have e3 : (48 + (n : Int) / 10 % 10).toNat = 48 + n / 10 % 10 := by omega
  have e4 : (48 + (n : Int) % 10).toNat = 48 + n % 10 := by omega
  rw [e1, e2, e3, e4])
theorem text_c (z : Int) (hz : Sm 90000000 z) : Called Tryz.prog 106 [plD z] (.str (decZ z)) := by
 unfold Sm at hz
 have hdx := mg_dg (B := 10000) (by omega) z.natAbs
 have hvx := jaD (B := 10000) (by omega) z.natAbs
 have hnil := jcr (B := 10000) (n := z.natAbs) (by omega)
 have hltp := jaG (B := 10000) (n := z.natAbs) (by omega)
 rw [show plD z = .agg [.bool (decide (z < 0)), .ints .i64 (mg 10000 z.natAbs)] from rfl]
 generalize mg 10000 z.natAbs = xs at *
 refine jaa tbOk 6 ⟨Tryz.func106, rfl, rfl, jhy rfl⟩ ?_
 (conv => whnf)
 refine V.st ?_
 refine jah ((xs.length, 0) : Nat × Nat) (fun s => s.1 ≤ xs.length ∧ val 10000 (xs.drop s.1) = s.2) (fun s => s.1)
  (fun s => [(4, .int .i64 ((s.1 : Int) - 1)), (3, .str (pad (4 * (xs.length - s.1)) s.2))]) (fun _ => []) ?_ ?_ ?_
 ·rw [Nat.sub_self]
  exact V.wk
 ·exact ⟨jhE _, by simp [val]⟩
 rintro ⟨k, v⟩ ⟨h1, h2⟩
 dsimp only at h1 h2 ⊢
 have hpl := jdp (4 * (xs.length - k)) v
 (conv => whnf)
 refine V.st ?_
 refine Cnd.split (CondB.mk (fun hq => ?_) (fun hq => ?_))
 ·rw [decide_eq_true_eq] at hq
  obtain ⟨j, rfl⟩ : ∃ j, k = j + 1 := ⟨k - 1, by omega⟩
  have hj : j < xs.length := by omega
  have bx := jal (by omega) hdx j
  have hd := jbI (B := 10000) hj
  generalize hx0 : xs.getD j 0 = x at *
  obtain ⟨d, rfl⟩ : ∃ d : Nat, x = d := ⟨x.toNat, by omega⟩
  have e2 : (((j + 1 : Nat) : Int) - 1) = (j : Int) := by omega
  have hf := four_c d (by omega)
  have hp4 := jdp 4 d
  have hpa := jeX (4 * (xs.length - (j + 1))) 4 v d (by omega)
  have e4 : 4 * (xs.length - (j + 1)) + 4 = 4 * (xs.length - j) := by omega
  rw [e4] at hpa
  refine V.r1 (V.a4 e2 @jhD hx0 hpa) hf ?_
  exact ⟨(j, v * 10 ^ 4 + d), ⟨by dsimp only; omega, by dsimp only; rw [hd, h2]; omega⟩, by dsimp only; omega, V.wk⟩
 ·rw [decide_eq_false_iff_not] at hq
  obtain rfl : k = 0 := by omega
  rw [List.drop_zero, hvx] at h2
  have hv : v = z.natAbs := by omega
  subst hv
  have hK : z.natAbs < 10 ^ (4 * xs.length) := by rw [Nat.pow_mul]; exact hltp
  rw [Nat.sub_zero] at *
  generalize hs : pad (4 * xs.length) z.natAbs = t at *
  obtain ⟨Z, hZ, hZ1, hZ2⟩ : ∃ Z, Z ≤ t.length ∧ t.drop Z = (if z.natAbs = 0 then [] else dec z.natAbs) ∧ ∀ k, k ≤ Z → (k < t.length ∧ t.getD k 0 = 48 ↔ k < Z) := by
   by_cases h0 : z.natAbs = 0
   ·have := hnil.2 h0
    subst this
    rw [if_pos h0]
    have ht : t = [] := List.length_eq_zero_iff.1 (by simpa using hpl)
    subst ht
    exact ⟨0, by simp, rfl, fun k hk => by simp⟩
   ·rw [if_neg h0]
    have hne : 0 < xs.length := by
     rcases jhF xs.length with e | e
     ·exact absurd (hnil.1 (List.length_eq_zero_iff.1 e)) h0
     ·exact e
    obtain ⟨p1, p2⟩ := jbg (4 * xs.length) z.natAbs (by omega) hK
    rw [hs] at p2
    have hdl := ja0 z.natAbs
    refine ⟨4 * xs.length - (dec z.natAbs).length, by omega, ?_, fun k hk => ?_⟩
    ·rw [p2, List.drop_append_of_le_length (by simp), List.drop_of_length_le (by simp)]; rfl
    ·rw [p2]
     rcases jhK k (4 * xs.length - (dec z.natAbs).length) with hlt | hge
     ·rw [List.getD_eq_getElem?_getD, List.getElem?_append_left (by simpa using hlt), List.getElem?_replicate, if_pos hlt]
      simp [hlt]; omega
     ·have hke : k = 4 * xs.length - (dec z.natAbs).length := by omega
      rw [List.getD_eq_getElem?_getD, List.getElem?_append_right (by simp; omega), List.length_replicate, hke, Nat.sub_self, ← List.getD_eq_getElem?_getD]
      have := dec_head z.natAbs (by omega)
      simp only [Nat.lt_irrefl, iff_false, not_and]
      exact fun _ => this
  refine V.r0 @jhD ?_
  refine jah (0) (fun k => k ≤ Z) (fun k => Z - k) (fun k => [(5, .int .i64 k)]) (fun k => []) ?_ ?_ ?_
  ·exact V.wk
  ·exact jhz _
  intro k hk
  have hz2 := hZ2 k hk
  have hkc : ((k : Int) + 1) = ((k + 1 : Nat) : Int) := by omega
  have hu : (((t.getD k 0).toNat : Int) = 48) ↔ t.getD k 0 = 48 := ⟨fun h => UInt8.toNat_inj.1 (by have e : (48 : UInt8).toNat = 48 := rfl; rw [e]; omega), fun h => by rw [h]; rfl⟩
  refine V.r0 @jhD ?_
  refine Cnd.split (CondB.mk (fun hq2 => ?_) (fun hq2 => ?_))
  ·rw [jhx, decide_eq_true_eq, decide_eq_true_eq, hu] at hq2
   have hkZ := hz2.1 ⟨by omega, hq2.2⟩
   refine V.r0 hkc ?_
   exact ⟨k + 1, by omega, by omega, V.wk⟩
  ·have hkZ : k = Z := by
    rcases jhK k Z with h | h
    ·have h3 := hz2.2 h
     rw [Bool.and_eq_false_iff, decide_eq_false_iff_not, decide_eq_false_iff_not, hu] at hq2
     rcases hq2 with h4 | h4
     ·omega
     ·exact absurd h3.2 h4
    ·omega
   subst hkZ
   refine V.r0 (V.a2 @jhD hZ1) ?_
   by_cases h0 : z.natAbs = 0
   ·rw [if_pos h0] at hZ1 ⊢
    have hz0 : z = 0 := by omega
    (conv => whnf)
    refine V.st ?_
    exact Fin.of (by rw [hz0]; rfl)
   ·rw [if_neg h0] at hZ1 ⊢
    have hne := ja0 z.natAbs
    have hne2 : dec z.natAbs ≠ [] := fun e => by rw [e] at hne; simp at hne
    have hdl : (dec z.natAbs).length ≤ t.length := by rw [← hZ1, List.length_drop]; omega
    (conv => whnf)
    refine V.st ?_
    refine Cnd.no (decide_eq_false hne2) ?_
    (conv => whnf)
    refine V.st ?_
    refine Cnd.split (CondB.mk (fun hneg => ?_) (fun hneg => ?_))
    ·rw [decide_eq_true_eq] at hneg
     (conv => whnf)
     refine V.st ?_
     exact Fin.of (by unfold decZ; rw [if_pos hneg]; rfl)
    ·rw [decide_eq_false_iff_not] at hneg
     (conv => whnf)
     refine V.st ?_
     exact Fin.of (by unfold decZ; rw [if_neg hneg])
theorem out_c (z : Int) (hz : Sm 90000000 z) : Called Tryz.prog 120 [plD z] (.tup [.str (if 600 < (dec z.natAbs).length then [] else decZ z), .int .i64 (if 600 < (dec z.natAbs).length then 6 else 0)]) := by
 have ht := text_c z hz
 rw [show plD z = .agg [.bool (decide (z < 0)), .ints .i64 (mg 10000 z.natAbs)] from rfl] at *
 have hl : (decZ z).length = (dec z.natAbs).length + (if z < 0 then 1 else 0) := by unfold decZ; split <;> simp
 generalize hzs : decZ z = s at *
 refine jaa tbOk 6 ⟨Tryz.func120, rfl, rfl, jhy rfl⟩ ?_
 (conv => whnf)
 refine V.st ?_
 repeat ((try ((with_reducible refine .ext ?_); (conv => whnf))); (with_reducible refine jab (r := ?_) ?_ ?_); rotate_left; (focus (first | exact (ht))); (conv => whnf); refine V.st ?_)
 refine Cnd.split (CondB.mk (fun hq => ?_) (fun hq => ?_))
 ·rw [decide_eq_true_eq] at hq
  rw [if_pos hq] at hl
  (conv => whnf)
  refine V.st ?_
  refine Cnd.split (CondB.mk (fun hq2 => ?_) (fun hq2 => ?_))
  ·rw [decide_eq_true_eq] at hq2
   rw [if_pos (by omega), if_pos (by omega)]
   (conv => whnf)
   refine V.st ?_
   exact Fin.of rfl
  ·rw [decide_eq_false_iff_not] at hq2
   rw [if_neg (by omega), if_neg (by omega)]
   (conv => whnf)
   refine V.st ?_
   exact Fin.of rfl
 ·rw [decide_eq_false_iff_not] at hq
  rw [if_neg hq] at hl
  (conv => whnf)
  refine V.st ?_
  refine Cnd.split (CondB.mk (fun hq2 => ?_) (fun hq2 => ?_))
  ·rw [decide_eq_true_eq] at hq2
   rw [if_pos (by omega), if_pos (by omega)]
   (conv => whnf)
   refine V.st ?_
   exact Fin.of rfl
  ·rw [decide_eq_false_iff_not] at hq2
   rw [if_neg (by omega), if_neg (by omega)]
   (conv => whnf)
   refine V.st ?_
   exact Fin.of rfl
def okD (d : List UInt8) (neg : Bool) : Bool := !(decide (d.length = 0) || decide (600 < d.length)) && d.all isDig && !(decide (d.getD 0 0 = 48) && (neg || decide (1 < d.length)))
def okW (s : List UInt8) : Bool := okD (Go.Lib.trimPrefix s [45]) (Go.Lib.hasPrefix s [45])
theorem dig_lo (c : UInt8) : (isDig c = true) ↔ ¬ (c.toNat : Int) < 48 ∧ ¬ (57 < (c.toNat : Int)) := by
 simp only [isDig, decide_eq_true_eq]; omega
theorem Fin.any' (r : D) : Fin .any r := ⟨fun _ _ _ => by simp [Den]⟩
theorem wread_g (s : List UInt8) (hs : s.length ≤ 281474976710656) : Called Tryz.prog 175 [.str s] (.tup [.agg [.any, .any], .bool (okW s)]) := by
 have hcp := jeD s [45]
 unfold okW
 have hdl : (Go.Lib.trimPrefix s [45]).length ≤ s.length := by unfold Go.Lib.trimPrefix; split <;> simp
 generalize Go.Lib.trimPrefix s [45] = d at *
 generalize Go.Lib.hasPrefix s [45] = neg at *
 refine jaa tbOk 6 ⟨Tryz.func175, rfl, rfl, jhy rfl⟩ ?_
 (conv => whnf)
 refine V.st ?_
 repeat ((try ((with_reducible refine .ext ?_); (conv => whnf))); (with_reducible refine jab (r := ?_) ?_ ?_); rotate_left; (focus (first | exact (hcp))); (conv => whnf); refine V.st ?_)
 refine Cnd.split (CondB.mk (fun hq => ?_) (fun hq => ?_))
 ·simp only [Bool.or_eq_true, decide_eq_true_eq] at hq
  have hf : okD d neg = false := by
   unfold okD
   rcases hq with h | h
   ·rw [decide_eq_true (show d.length = 0 by omega)]; rfl
   ·rw [decide_eq_true (show 600 < d.length by omega), Bool.or_true]; rfl
  rw [hf]
  (conv => whnf)
  refine V.st ?_
  exact Fin.tup ⟨Fin.agg ⟨Fin.any' _, Fin.any' _, trivial⟩, Fin.of rfl, trivial⟩
 ·simp only [Bool.or_eq_false_iff, decide_eq_false_iff_not] at hq
  (conv => whnf)
  refine V.st ?_
  refine jah (0 : Nat) (fun k => k ≤ d.length ∧ ∀ i, i < k → isDig (d.getD i 0) = true) (fun k => d.length - k) (fun k => [(23, .int .i64 k)]) (fun _ => []) ?_ ?_ ?_
  ·exact V.wk
  ·exact ⟨jhz _, fun i hi => by omega⟩
  intro k hk
  have hkc : ((k : Int) + 1) = ((k + 1 : Nat) : Int) := by omega
  (conv => whnf)
  refine V.st ?_
  refine Cnd.split (CondB.mk (fun hq2 => ?_) (fun hq2 => ?_))
  ·rw [decide_eq_true_eq] at hq2
   have hdl := dig_lo (d.getD k 0)
   generalize hc : d.getD k 0 = c at *
   refine V.r0 (V.a3 @jhD hc hkc) ?_
   refine Cnd.split (CondB.mk (fun hq3 => ?_) (fun hq3 => ?_))
   ·rw [Bool.or_eq_true, decide_eq_true_eq, decide_eq_true_eq] at hq3
    have hf : okD d neg = false := by
     have h1 : d.all isDig = false := by
      rw [List.all_eq_false]
      refine ⟨c, ?_, fun h => by have := hdl.1 h; omega⟩
      rw [← hc, List.getD_eq_getElem?_getD, List.getElem?_eq_getElem (by omega)]
      exact List.getElem_mem _
     unfold okD
     rw [h1, Bool.and_false, Bool.false_and]
    rw [hf]
    (conv => whnf)
    refine V.st ?_
    exact Fin.tup ⟨Fin.agg ⟨Fin.any' _, Fin.any' _, trivial⟩, Fin.of rfl, trivial⟩
   ·rw [Bool.or_eq_false_iff, decide_eq_false_iff_not, decide_eq_false_iff_not] at hq3
    refine V.r0 hkc ?_
    refine ⟨k + 1, ⟨by omega, fun i hi => ?_⟩, by omega, V.wk⟩
    rcases jhK i k with h | h
    ·exact hk.2 i h
    ·obtain rfl : i = k := by omega
     rw [hc]; exact hdl.2 (by omega)
  ·rw [decide_eq_false_iff_not] at hq2
   obtain rfl : k = d.length := by omega
   have hall : ∀ c ∈ d, isDig c = true := fun c hc => by
    obtain ⟨i, hi, e⟩ := List.getElem_of_mem hc
    have := hk.2 i hi
    rw [List.getD_eq_getElem?_getD, List.getElem?_eq_getElem hi] at this
    rw [← e]; exact this
   have hok : okD d neg = !(decide (d.getD 0 0 = 48) && (neg || decide (1 < d.length))) := by
    unfold okD
    rw [List.all_eq_true.2 hall, decide_eq_false (show ¬ d.length = 0 by omega), decide_eq_false (show ¬ 600 < d.length by omega)]
    rfl
   have hu : decide ((((d.getD 0 0).toNat : Nat) : Int) = 48) = decide (d.getD 0 0 = 48) := decide_eq_decide.2 ⟨fun h => UInt8.toNat_inj.1 (by have e : (48 : UInt8).toNat = 48 := rfl; rw [e]; omega), fun h => by rw [h]; rfl⟩
   have hl : decide ((d.length : Int) > 1) = decide (1 < d.length) := decide_eq_decide.2 (by omega)
   have hg := wgather_c d hall (by omega)
   rw [hok]
   have e0 : (0 : Int).toNat = 0 := rfl
   refine V.r0 (V.a3 e0 hu hl) ?_
   refine And.intro (fun h1 h2 => by rw [h1, h2]; rfl) ?_
   refine V.r0 (V.a3 e0 hu hl) ?_
   refine Cnd.split (CondB.mk (fun hq4 => ?_) (fun hq4 => ?_))
   ·rw [hq4]
    (conv => whnf)
    refine V.st ?_
    exact Fin.tup ⟨Fin.agg ⟨Fin.any' _, Fin.any' _, trivial⟩, Fin.of rfl, trivial⟩
   ·rw [hq4]
    (conv => whnf)
    refine V.st ?_
    repeat ((try ((with_reducible refine .ext ?_); (conv => whnf))); (with_reducible refine jab (r := ?_) ?_ ?_); rotate_left; (focus (first | exact (hg))); (conv => whnf); refine V.st ?_)
    exact Fin.tup ⟨Fin.agg ⟨Fin.any' _, Fin.any' _, trivial⟩, Fin.of rfl, trivial⟩
theorem jb3 (s : List UInt8) (hs : s.length ≤ 281474976710656) : Called Tryz.prog 144 [.str s] (.int .i64 (if okW s then 0 else 10)) := by
 have h1 := wread_g s hs
 generalize okW s = b at *
 refine jaa tbOk 6 ⟨Tryz.func144, rfl, rfl, jhy rfl⟩ ?_
 (conv => whnf)
 refine V.st ?_
 repeat ((try ((with_reducible refine .ext ?_); (conv => whnf))); (with_reducible refine jab (r := ?_) ?_ ?_); rotate_left; (focus (first | exact (h1))); (conv => whnf); refine V.st ?_)
 refine Cnd.split (CondB.mk (fun hq => ?_) (fun hq => ?_))
 ·obtain rfl : b = false := by simpa using hq
  (conv => whnf)
  refine V.st ?_
  exact Fin.of rfl
 ·obtain rfl : b = true := by simpa using hq
  (conv => whnf)
  refine V.st ?_
  exact Fin.of rfl
def itD (z : Int) : D := .agg [.ints .u32 (mg 1000000000 z.natAbs), .bool (decide (z < 0))]
def wval (s : List UInt8) : Int := if Go.Lib.hasPrefix s [45] then -(rdv (Go.Lib.trimPrefix s [45]) : Nat) else (rdv (Go.Lib.trimPrefix s [45]) : Nat)
theorem okD_nz {d : List UInt8} (h : okD d true = true) : 0 < rdv d := by
 unfold okD at h
 simp only [jhx, Bool.not_eq_true', Bool.or_eq_false_iff, decide_eq_false_iff_not, Bool.true_or, Bool.and_true, List.all_eq_true] at h
 obtain ⟨⟨⟨h1, _⟩, h2⟩, h3⟩ := h
 cases d with
 | nil => simp at h1
 | cons c r =>
  have h4 := h2 c (by simp)
  simp only [isDig, decide_eq_true_eq] at h4
  rw [List.getD_cons_zero] at h3
  have h5 : c.toNat ≠ 48 := fun e => h3 (UInt8.toNat_inj.1 e)
  have h6 := jbx [c] r
  rw [jd7] at h6
  rw [show c :: r = [c] ++ r from rfl, h6]
  have : 0 < (c.toNat - 48) * 10 ^ r.length := Nat.mul_pos (by omega) (Nat.pow_pos (by omega))
  omega
theorem jcB (s : List UInt8) (h : okW s = true) : Called Tryz.prog 145 [.str s] (itD (wval s)) := by
 have hcp := jeD s [45]
 unfold wval itD
 unfold okW at h
 have hl : (Go.Lib.trimPrefix s [45]).length ≤ 600 ∧ ∀ c ∈ Go.Lib.trimPrefix s [45], isDig c = true := by
  unfold okD at h
  simp only [jhx, Bool.not_eq_true', Bool.or_eq_false_iff, decide_eq_false_iff_not, List.all_eq_true] at h
  exact ⟨by omega, h.1.2⟩
 have hg := gather_c _ hl.2 (by omega)
 generalize Go.Lib.trimPrefix s [45] = d at *
 have e : (if Go.Lib.hasPrefix s [45] = true then -((rdv d : Nat) : Int) else ((rdv d : Nat) : Int)).natAbs = rdv d ∧ decide ((if Go.Lib.hasPrefix s [45] = true then -((rdv d : Nat) : Int) else ((rdv d : Nat) : Int)) < 0) = Go.Lib.hasPrefix s [45] := by
  cases hn : Go.Lib.hasPrefix s [45] with
  | true =>
   rw [hn] at h
   have := okD_nz h
   exact ⟨by simp, by simp; omega⟩
  | false => exact ⟨by simp, by simp⟩
 rw [e.1, e.2]
 generalize Go.Lib.hasPrefix s [45] = neg at *
 refine jaa tbOk 6 ⟨Tryz.func145, rfl, rfl, jhy rfl⟩ ?_
 (conv => whnf)
 refine V.st ?_
 repeat ((try ((with_reducible refine .ext ?_); (conv => whnf))); (with_reducible refine jab (r := ?_) ?_ ?_); rotate_left; (focus (first | exact (hcp) | exact (hg))); (conv => whnf); refine V.st ?_)
 exact Fin.of rfl
theorem jdj (z : Int) : Go.Lib.hasPrefix (decZ z) [45] = decide (z < 0) ∧ Go.Lib.trimPrefix (decZ z) [45] = dec z.natAbs := by
 unfold decZ Go.Lib.trimPrefix Go.Lib.hasPrefix
 by_cases h : z < 0
 ·simp [h, List.isPrefixOf]
 ·simp only [if_neg h, decide_eq_false h]
  have h1 := jfH z.natAbs
  have h2 := ja0 z.natAbs
  cases hd : dec z.natAbs with
  | nil => rw [hd] at h2; simp at h2
  | cons c r =>
   have h3 := h1 c (by rw [hd]; simp)
   have h4 : ((45 : UInt8) == c) = false := by
    rw [beq_eq_false_iff_ne]; intro e; subst e; exact absurd h3 (by decide)
   simp [List.isPrefixOf, h4]
theorem jca (z : Int) (h : (dec z.natAbs).length ≤ 600) : okW (decZ z) = true := by
 unfold okW okD
 rw [(jdj z).1, (jdj z).2]
 have h2 := ja0 z.natAbs
 have h3 : (dec z.natAbs).all isDig = true := List.all_eq_true.2 (jfH _)
 rw [h3, decide_eq_false (show ¬ (dec z.natAbs).length = 0 by omega), decide_eq_false (show ¬ 600 < (dec z.natAbs).length by omega)]
 by_cases h0 : z.natAbs = 0
 ·have : z = 0 := by omega
  subst this
  rfl
 ·have := dec_head z.natAbs (by omega)
  rw [decide_eq_false this]; rfl
theorem jbz (z : Int) : wval (decZ z) = z := by
 unfold wval
 rw [(jdj z).1, (jdj z).2, rdv_dec]
 by_cases h : z < 0
 ·simp [h]; omega
 ·simp [h]; omega
theorem jcW (n : Nat) : Called Tryz.prog 132 [.ints .u32 (mg 1000000000 n)] (.bool (decide (n = 0))) := by
 have hnil := jcr (B := 1000000000) (n := n) (by omega)
 rw [← List.length_eq_zero_iff] at hnil
 have e : decide (((mg 1000000000 n).length : Int) = 0) = decide (n = 0) := decide_eq_decide.2 (by rw [← hnil]; omega)
 refine jaa tbOk 6 ⟨Tryz.func132, rfl, rfl, jhy rfl⟩ ?_
 (conv => whnf)
 refine V.st ?_
 exact Fin.of (by rw [e])
theorem jaT (n : Nat) (neg : Bool) : Called Tryz.prog 153 [.ints .u32 (mg 1000000000 n), .bool neg] (itD (if neg then -(n : Int) else n)) := by
 have h1 := jcW n
 have e : (if neg = true then -(n : Int) else (n : Int)).natAbs = n := by cases neg <;> simp
 have e2 : decide ((if neg = true then -(n : Int) else (n : Int)) < 0) = (neg && !decide (n = 0)) := by
  cases neg with
  | false => simp
  | true =>
   by_cases h : n = 0
   ·simp [h]
   ·rw [decide_eq_false h, if_pos rfl, decide_eq_true (by omega)]; rfl
 unfold itD
 rw [e, e2]
 generalize decide (n = 0) = z at *
 refine jaa tbOk 6 ⟨Tryz.func153, rfl, rfl, jhy rfl⟩ ?_
 (conv => whnf)
 refine V.st ?_
 repeat ((try ((with_reducible refine .ext ?_); (conv => whnf))); (with_reducible refine jab (r := ?_) ?_ ?_); rotate_left; (focus (first | exact (h1))); (conv => whnf); refine V.st ?_)
 exact Fin.of rfl
theorem small_c (n : Nat) (h : n < 1000000000000000000) : Called Tryz.prog 178 [.ints .u32 (mg 1000000000 n)] (.int .u64 n) := by
 have hlen := jax (B := 1000000000) (n := n) (k := 2) (by omega) (by omega)
 have hdx := mg_dg (B := 1000000000) (by omega) n
 have hvx := jaD (B := 1000000000) (by omega) n
 generalize mg 1000000000 n = xs at *
 refine jaa tbOk 6 ⟨Tryz.func178, rfl, rfl, jhy rfl⟩ ?_
 (conv => whnf)
 refine V.st ?_
 refine jah (xs.length : Nat) (fun k => k ≤ xs.length) (fun k => k) (fun k => [(4, .int .i64 ((k : Int) - 1)), (3, .int .u64 (val 1000000000 (xs.drop k)))]) (fun _ => []) ?_ ?_ ?_
 ·rw [List.drop_length]
  exact V.wk
 ·exact jhE _
 intro k hk
 (conv => whnf)
 refine V.st ?_
 refine Cnd.split (CondB.mk (fun hq => ?_) (fun hq => ?_))
 ·rw [decide_eq_true_eq] at hq
  obtain ⟨j, rfl⟩ : ∃ j, k = j + 1 := ⟨k - 1, by omega⟩
  have hd := jbI (B := 1000000000) (l := xs) (k := j) (by omega)
  have bx := jal (by omega) hdx j
  have h0 := jam (jbj hdx (j + 1))
  have h1 := jbV (jbj hdx (j + 1))
  rw [List.length_drop] at h1
  have h2 : (1000000000 : Nat) ^ (xs.length - (j + 1)) ≤ 1000000000 ^ 1 := jhS (by omega) (by omega)
  have h3 : ((1000000000 ^ (xs.length - (j + 1)) : Nat) : Int) ≤ ((1000000000 ^ 1 : Nat) : Int) := by exact_mod_cast h2
  rw [jhW] at h3
  have e2 : (((j + 1 : Nat) : Int) - 1) = (j : Int) := by omega
  generalize hx0 : xs.getD j 0 = x at *
  have e3 : val 1000000000 (xs.drop (j + 1)) * 1000000000 + x = val 1000000000 (xs.drop j) := by omega
  refine V.r0 (V.a4 e2 @jhD hx0 e3) ?_
  exact ⟨j, by omega, by omega, V.wk⟩
 ·rw [decide_eq_false_iff_not] at hq
  obtain rfl : k = 0 := by omega
  rw [List.drop_zero, hvx]
  (conv => whnf)
  refine V.st ?_
  exact Fin.of rfl
theorem jcT (n : Nat) (hn : n < 18446744073709551616) : Called Tryz.prog 114 [.int .u64 n] (.ints .u32 (mg 1000000000 n)) := by
 have hlen := jax (B := 1000000000) (n := n) (k := 3) (by omega) (by omega)
 refine jaa tbOk 6 ⟨Tryz.func114, rfl, rfl, jhy rfl⟩ ?_
 (conv => whnf)
 refine V.st ?_
 refine Lp.ghostSlot 13 3 .u32 (by decide) ?_
 (conv => whnf)
 refine jah ((n, []) : Nat × List Int) (fun s => val 1000000000 s.2 + ((1000000000 : Nat) : Int) ^ s.2.length * s.1 = n ∧ Dg 1000000000 s.2 ∧ s.1 ≤ n ∧ s.2.length + (mg 1000000000 s.1).length = (mg 1000000000 n).length ∧ (s.1 = 0 → s.2 = mg 1000000000 n)) (fun s => s.1) (fun s => [(0, .int .u64 s.1), (3, .osl 13 0 s.2.length)]) (fun s => [(13, .arr .u32 s.2)]) ?_ ?_ ?_
 ·exact V.wk
 ·exact ⟨by simp [val], fun x hx => by simp at hx, jhE _, by simp, fun h => by dsimp only at h; rw [h]; rfl⟩
 rintro ⟨q, out⟩ ⟨h1, h2, h3, h4, h5⟩
 dsimp only at h1 h2 h3 h4 h5 ⊢
 (conv => whnf)
 refine V.st ?_
 refine Cnd.split (CondB.mk (fun hq => ?_) (fun hq => ?_))
 ·rw [decide_eq_true_eq] at hq
  have hq0 : 0 < q := by omega
  have hmg := jbZ (B := 1000000000) (by omega) hq0
  have hst := jfE (B := 1000000000) (by omega) h1
  have hlt : q / 1000000000 < q := Nat.div_lt_self hq0 (by omega)
  have hdg : Dg 1000000000 (out ++ [((q % 1000000000 : Nat) : Int)]) := jaj h2 (jas ⟨by omega, by have := Nat.mod_lt q (by omega : 1000000000 > 0); omega⟩)
  have e1 : (q : Int) % 1000000000 = ((q % 1000000000 : Nat) : Int) := by omega
  have e2 : (q : Int) / 1000000000 = ((q / 1000000000 : Nat) : Int) := by omega
  have hl2 : (out ++ [((q % 1000000000 : Nat) : Int)]).length = out.length + 1 := by simp
  have hl3 : out.length + (List.take 1 (List.drop 0 [((q % 1000000000 : Nat) : Int)])).length = (out ++ [((q % 1000000000 : Nat) : Int)]).length := by simp
  rw [hmg, List.length_cons] at h4
  have hmr := Nat.mod_lt q (by omega : 1000000000 > 0)
  refine V.r0 (V.a3 e1 e2 hl3) ?_
  try refine And.intro (fun _ => ⟨trivial, by omega⟩) ?_
  refine V.r0 (V.a3 e1 e2 hl3) ?_
  refine ⟨(q / 1000000000, out ++ [((q % 1000000000 : Nat) : Int)]), ⟨hst, hdg, by dsimp only; omega, by dsimp only; omega, fun h0 => ?_⟩, hlt, V.wk⟩
  dsimp only at h0 ⊢
  rw [h0, Int.natCast_zero, Int.mul_zero, jhV] at hst
  have := mg_of (B := 1000000000) (by omega) hdg (fun x hx => by
   rw [List.getLast?_append] at hx
   simp at hx
   omega)
  rw [hst, jhD] at this
  exact this
 ·rw [decide_eq_false_iff_not] at hq
  obtain rfl : q = 0 := by omega
  (conv => whnf)
  refine V.st ?_
  exact Fin.of (by rw [List.take_length, h5 rfl])
theorem isNaNi_c (n : Int) : Called Tryz.prog 203 [.int .i64 n] (.bool false) := by
 refine jaa tbOk 6 ⟨Tryz.func203, rfl, rfl, jhy rfl⟩ ?_
 (conv => whnf)
 refine V.st ?_
 exact Fin.of (by simp)
theorem isNaNu_c (n : Int) : Called Tryz.prog 204 [.int .u32 n] (.bool false) := by
 refine jaa tbOk 6 ⟨Tryz.func204, rfl, rfl, jhy rfl⟩ ?_
 (conv => whnf)
 refine V.st ?_
 exact Fin.of (by simp)
theorem cmpi_c (m n : Int) : Called Tryz.prog 179 [.int .i64 m, .int .i64 n] (.int .i64 (m - n).sign) := by
 have h1 := isNaNi_c m
 have h2 := isNaNi_c n
 refine jaa tbOk 6 ⟨Tryz.func179, rfl, rfl, jhy rfl⟩ ?_
 (conv => whnf)
 refine V.st ?_
 repeat ((try ((with_reducible refine .ext ?_); (conv => whnf))); (with_reducible refine jab (r := ?_) ?_ ?_); rotate_left; (focus (first | exact (h1) | exact (h2))); (conv => whnf); refine V.st ?_)
 refine Cnd.split (CondB.mk (fun hq => ?_) (fun hq => ?_))
 ·rw [decide_eq_true_eq] at hq
  (conv => whnf)
  refine V.st ?_
  exact Fin.of (by rw [jhZ (by omega)])
 ·rw [decide_eq_false_iff_not] at hq
  (conv => whnf)
  refine V.st ?_
  refine Cnd.split (CondB.mk (fun hq2 => ?_) (fun hq2 => ?_))
  ·rw [decide_eq_true_eq] at hq2
   (conv => whnf)
   refine V.st ?_
   exact Fin.of (by rw [jh0 (by omega)])
  ·rw [decide_eq_false_iff_not] at hq2
   (conv => whnf)
   refine V.st ?_
   exact Fin.of (by rw [show m - n = 0 by omega]; rfl)
theorem cmpu_c (m n : Int) : Called Tryz.prog 180 [.int .u32 m, .int .u32 n] (.int .i64 (m - n).sign) := by
 have h1 := isNaNu_c m
 have h2 := isNaNu_c n
 refine jaa tbOk 6 ⟨Tryz.func180, rfl, rfl, jhy rfl⟩ ?_
 (conv => whnf)
 refine V.st ?_
 repeat ((try ((with_reducible refine .ext ?_); (conv => whnf))); (with_reducible refine jab (r := ?_) ?_ ?_); rotate_left; (focus (first | exact (h1) | exact (h2))); (conv => whnf); refine V.st ?_)
 refine Cnd.split (CondB.mk (fun hq => ?_) (fun hq => ?_))
 ·rw [decide_eq_true_eq] at hq
  (conv => whnf)
  refine V.st ?_
  exact Fin.of (by rw [jhZ (by omega)])
 ·rw [decide_eq_false_iff_not] at hq
  (conv => whnf)
  refine V.st ?_
  refine Cnd.split (CondB.mk (fun hq2 => ?_) (fun hq2 => ?_))
  ·rw [decide_eq_true_eq] at hq2
   (conv => whnf)
   refine V.st ?_
   exact Fin.of (by rw [jh0 (by omega)])
  ·rw [decide_eq_false_iff_not] at hq2
   (conv => whnf)
   refine V.st ?_
   exact Fin.of (by rw [show m - n = 0 by omega]; rfl)
theorem jb2 (a b : Nat) (ha : (mg 1000000000 a).length ≤ 100000000) (hb : (mg 1000000000 b).length ≤ 100000000) : Called Tryz.prog 148 [.ints .u32 (mg 1000000000 a), .ints .u32 (mg 1000000000 b)] (.int .i64 ((a : Int) - b).sign) := by
 have hdx := mg_dg (B := 1000000000) (by omega) a
 have hdy := mg_dg (B := 1000000000) (by omega) b
 have hsg := jeY (B := 1000000000) (by omega) a b
 generalize mg 1000000000 a = xs at *
 generalize mg 1000000000 b = ys at *
 have hsn : ((a : Int) - b).sign = (ordV xs ys).sign := by
  rcases Nat.lt_trichotomy a b with h | h | h
  ·rw [jhZ (by omega), jhZ (by omega)]
  ·rw [show (a : Int) - b = 0 by omega, show ordV xs ys = 0 by omega]
  ·rw [jh0 (by omega), jh0 (by omega)]
 rw [hsn]
 have hc1 := cmpi_c (xs.length : Int) (ys.length : Int)
 refine jaa tbOk 6 ⟨Tryz.func148, rfl, rfl, jhy rfl⟩ ?_
 (conv => whnf)
 refine V.st ?_
 refine Cnd.split (CondB.mk (fun hq => ?_) (fun hq => ?_))
 ·rw [decide_eq_true_eq] at hq
  (conv => whnf)
  refine V.st ?_
  repeat ((try ((with_reducible refine .ext ?_); (conv => whnf))); (with_reducible refine jab (r := ?_) ?_ ?_); rotate_left; (focus (first | exact (hc1))); (conv => whnf); refine V.st ?_)
  exact Fin.of (by unfold ordV; rw [if_neg (by omega)])
 ·rw [decide_eq_false_iff_not] at hq
  have hq' : xs.length = ys.length := by omega
  have hov : ordV xs ys = ordR xs ys xs.length := by unfold ordV; rw [if_pos hq']
  rw [hov]
  (conv => whnf)
  refine V.st ?_
  refine jah (xs.length) (fun k => k ≤ xs.length ∧ ordR xs ys k = ordR xs ys xs.length) (fun k => k) (fun k => [(5, .int .i64 ((k : Int) - 1))]) (fun k => []) ?_ ?_ ?_
  ·exact V.wk
  ·exact ⟨jhE _, rfl⟩
  intro k hk
  have bx := jal (by omega) hdx (k - 1)
  have by' := jal (by omega) hdy (k - 1)
  (conv => whnf)
  refine V.st ?_
  refine Cnd.split (CondB.mk (fun hz => ?_) (fun hz => ?_))
  ·rw [decide_eq_true_eq] at hz
   obtain ⟨j, rfl⟩ : ∃ j, k = j + 1 := ⟨k - 1, by omega⟩
   have e2 : (((j + 1 : Nat) : Int) - 1) = (j : Int) := by omega
   have hr := hk.2
   rw [ordR] at hr
   rw [Nat.add_sub_cancel] at bx by'
   refine V.r0 (V.a2 e2 @jhD) ?_
   refine ⟨(.take 0 (.take 1 (.take 2 (.take 3 (.take 4 (.take 5 (.take 6 (.take 7 (.take 8 (.done)))))))))), [], ⟨by kernel_rfl, by kernel_rfl, by kernel_rfl, by kernel_rfl⟩, .go (jag ?_)⟩
   have hc2 := cmpu_c (xs.getD j 0) (ys.getD j 0)
   refine V.r0 (V.a2 e2 @jhD) ?_
   refine Cnd.split (CondB.mk (fun hn => ?_) (fun hn => ?_))
   ·rw [decide_eq_true_eq] at hn
    refine V.r0 (V.a2 e2 @jhD) ?_
    refine ⟨(.take 0 (.take 1 (.take 2 (.take 3 (.take 4 (.take 5 (.take 6 (.take 7 (.ev (.cons 8 [] (.take 9 (.done)) (.nil))))))))))), [], ⟨by kernel_rfl, by kernel_rfl, by kernel_rfl, by kernel_rfl⟩, .go (jag ?_)⟩
    refine V.r1 (V.a2 e2 @jhD) hc2 ?_
    exact Fin.of (by rw [← hr, if_neg hn])
   ·rw [decide_eq_false_iff_not] at hn
    rw [if_pos (by omega)] at hr
    refine V.r0 e2 ?_
    exact ⟨j, ⟨by omega, hr⟩, by omega, V.wk⟩
  ·rw [decide_eq_false_iff_not] at hz
   obtain rfl : k = 0 := by omega
   (conv => whnf)
   refine V.st ?_
   exact Fin.of (by rw [← hk.2]; rfl)
end Go.Proofs.YtgjgpdceghjajaaGreatDoor
end
