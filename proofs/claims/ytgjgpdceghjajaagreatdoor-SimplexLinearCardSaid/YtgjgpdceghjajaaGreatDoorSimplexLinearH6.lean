/- What some functions of the program answer at values that mean given lists, texts and numbers, each proved of the program's own code: part 6. Conditions: those that each theorem names. -/
import Derived.Test.YtgjgpdceghjajaaGreatDoorSimplexLinearH5
import Derived.Test.YtgjgpdceghjajaaGreatDoorSimplexLinearH4
set_option linter.unusedSimpArgs false
set_option linter.unusedVariables false
set_option maxHeartbeats 8000000
set_option maxRecDepth 100000
section
namespace Go.Proofs.YtgjgpdceghjajaaGreatDoor
open Go Go.V Go.Nb
theorem jaW {a b X Y : Int} (hb : b ≠ 0) (h : a = Y + b * X) (h0 : 0 ≤ Y) (h1 : Y < b.natAbs) : a / b = X ∧ a % b = Y := by
 have hm : a % b = Y := by
  rw [h, Int.add_mul_emod_self_left]
  rcases Int.lt_or_lt_of_ne hb with h2 | h2
  ·rw [← Int.emod_neg, Int.emod_eq_of_lt h0 (by omega)]
  ·exact Int.emod_eq_of_lt h0 (by omega)
 refine ⟨?_, hm⟩
 have h3 := jhQ a b
 rw [hm] at h3
 exact Int.eq_of_mul_eq_mul_left hb (by omega)
theorem jgT (a b : Int) (hb : b ≠ 0) (x0 y0 : Int) (hx : x0 = if (decide (a < 0) != decide (b < 0)) = true then -((a.natAbs / b.natAbs : Nat) : Int) else ((a.natAbs / b.natAbs : Nat) : Int))
  (hy : y0 = if decide (a < 0) = true then -((a.natAbs % b.natAbs : Nat) : Int) else ((a.natAbs % b.natAbs : Nat) : Int)) :
  (y0 < 0 → a % b = y0 + b.natAbs ∧ (b < 0 → a / b = x0 + 1) ∧ (¬ b < 0 → a / b = x0 - 1)) ∧ (¬ y0 < 0 → a % b = y0 ∧ a / b = x0) := by
 have h1 := Nat.mod_add_div a.natAbs b.natAbs
 have h2 : a.natAbs % b.natAbs < b.natAbs := Nat.mod_lt _ (by omega)
 generalize a.natAbs % b.natAbs = r at *
 generalize a.natAbs / b.natAbs = q at *
 have h3 : (a.natAbs : Int) = r + (b.natAbs : Int) * q := by rw [← jh3, ← Int.natCast_add, h1]
 have hmul1 : b * ((q : Int) + 1) = b * q + b := by rw [jh4, Int.mul_one]
 have hmul2 : b * (-(q : Int) + 1) = -(b * q) + b := by rw [jh4, Int.mul_one, Int.mul_neg]
 have hmul3 : b * ((q : Int) - 1) = b * q - b := by rw [Int.mul_sub, Int.mul_one]
 have hmul4 : b * (-(q : Int) - 1) = -(b * q) - b := by rw [Int.mul_sub, Int.mul_one, Int.mul_neg]
 have hmul5 : b * (-(q : Int)) = -(b * q) := by rw [Int.mul_neg]
 by_cases ha : a < 0 <;> by_cases hbn : b < 0
 ·have e1 : (b.natAbs : Int) = -b := by omega
  rw [e1, Int.neg_mul] at h3
  simp only [ha, hbn, decide_true, bne_self_eq_false, Bool.false_eq_true, if_false, if_true] at hx hy
  subst hx hy
  refine ⟨fun h => ?_, fun h => ?_⟩
  ·have := jaW (a := a) (b := b) (X := (q : Int) + 1) (Y := -(r : Int) + b.natAbs) hb (by omega) (by omega) (by omega)
   exact ⟨this.2, fun _ => this.1, fun h => absurd hbn h⟩
  ·have := jaW (a := a) (b := b) (X := (q : Int)) (Y := -(r : Int)) hb (by omega) (by omega) (by omega)
   exact ⟨this.2, this.1⟩
 ·have e1 : (b.natAbs : Int) = b := by omega
  rw [e1] at h3
  simp only [ha, hbn, decide_true, decide_false, bne, beq_eq_false_iff_ne, ne_eq, Bool.true_eq_false, not_false_eq_true, if_true, Bool.not_false, beq_false] at hx hy
  have hx' : x0 = -(q : Int) := by simpa using hx
  subst hx' hy
  refine ⟨fun h => ?_, fun h => ?_⟩
  ·have := jaW (a := a) (b := b) (X := -(q : Int) - 1) (Y := -(r : Int) + b.natAbs) hb (by omega) (by omega) (by omega)
   exact ⟨this.2, fun h => absurd h hbn, fun _ => this.1⟩
  ·have := jaW (a := a) (b := b) (X := -(q : Int)) (Y := -(r : Int)) hb (by omega) (by omega) (by omega)
   exact ⟨this.2, this.1⟩
 ·have e1 : (b.natAbs : Int) = -b := by omega
  rw [e1, Int.neg_mul] at h3
  have hx' : x0 = -(q : Int) := by simpa [ha, hbn] using hx
  have hy' : y0 = (r : Int) := by simpa [ha] using hy
  subst hx' hy'
  refine ⟨fun h => by omega, fun h => ?_⟩
  have := jaW (a := a) (b := b) (X := -(q : Int)) (Y := (r : Int)) hb (by omega) (by omega) (by omega)
  exact ⟨this.2, this.1⟩
 ·have e1 : (b.natAbs : Int) = b := by omega
  rw [e1] at h3
  have hx' : x0 = (q : Int) := by simpa [ha, hbn] using hx
  have hy' : y0 = (r : Int) := by simpa [ha] using hy
  subst hx' hy'
  refine ⟨fun h => by omega, fun h => ?_⟩
  have := jaW (a := a) (b := b) (X := (q : Int)) (Y := (r : Int)) hb (by omega) (by omega) (by omega)
  exact ⟨this.2, this.1⟩
theorem jdU (x y : Int) (hx : Sm 80000000 x) (hy : Sm 80000000 y) (hy0 : y ≠ 0) : Called Tryz.prog 122 [plD x, plD y] (.tup [plD (x / y), plD (x % y)]) := by
 unfold Sm at hx hy
 have hp := parts_c x.natAbs y.natAbs (by omega) (by omega) (by omega)
 have hq := jaf (B := 10000) (by omega) (jia x.natAbs y.natAbs)
 have hr := jaf (B := 10000) (by omega) (Nat.mod_le x.natAbs y.natAbs)
 have hm1 := jcQ (decide (x < 0) != decide (y < 0)) (x.natAbs / y.natAbs) (by omega)
 have hm2 := jcQ (decide (x < 0)) (x.natAbs % y.natAbs) (by omega)
 have hpl := jgT x y hy0 _ _ rfl rfl
 have hsx : Sm 80000000 (if (decide (x < 0) != decide (y < 0)) = true then -((x.natAbs / y.natAbs : Nat) : Int) else ((x.natAbs / y.natAbs : Nat) : Int)) := by
  unfold Sm; split <;> simp only [Int.natAbs_neg, jh8] <;> omega
 have hsy : Sm 80000000 (if decide (x < 0) = true then -((x.natAbs % y.natAbs : Nat) : Int) else ((x.natAbs % y.natAbs : Nat) : Int)) := by
  unfold Sm; split <;> simp only [Int.natAbs_neg, jh8] <;> omega
 generalize (if (decide (x < 0) != decide (y < 0)) = true then -((x.natAbs / y.natAbs : Nat) : Int) else ((x.natAbs / y.natAbs : Nat) : Int)) = x0 at *
 generalize (if decide (x < 0) = true then -((x.natAbs % y.natAbs : Nat) : Int) else ((x.natAbs % y.natAbs : Nat) : Int)) = y0 at *
 rw [show plD x = .agg [.bool (decide (x < 0)), .ints .i64 (mg 10000 x.natAbs)] from rfl, show plD y = .agg [.bool (decide (y < 0)), .ints .i64 (mg 10000 y.natAbs)] from rfl] at *
 refine jaa tbOk 6 ⟨Tryz.func122, rfl, rfl, jhO rfl⟩ ?_
 (conv => whnf)
 refine V.st ?_
 repeat ((try ((with_reducible refine .ext ?_); (conv => whnf))); (with_reducible refine jab (r := ?_) ?_ ?_); rotate_left; (focus (first | exact (hp))); (conv => whnf); refine V.st ?_)
 rw [show plD x0 = .agg [.bool (decide (x0 < 0)), .ints .i64 (mg 10000 x0.natAbs)] from rfl] at hm1
 rw [show plD y0 = .agg [.bool (decide (y0 < 0)), .ints .i64 (mg 10000 y0.natAbs)] from rfl] at hm2
 refine ⟨(.take 0 (.take 1 (.take 2 (.take 3 (.take 4 (.take 5 (.take 7 (.take 8 (.take 9 (.ev (.cons 6 [9, 8, 7] (.ev (.cons 10 [] (.ev (.cons 11 [] (.ev (.cons 12 [] (.ev (.cons 13 [] (.ev (.cons 14 [] (.done) (.nil))) (.nil))) (.nil))) (.cons 12 [] (.ev (.cons 11 [] (.ev (.cons 13 [] (.ev (.cons 14 [] (.done) (.nil))) (.nil))) (.nil))) (.nil)))) (.cons 11 [9, 8, 7] (.ev (.cons 10 [] (.ev (.cons 12 [] (.ev (.cons 13 [] (.ev (.cons 14 [] (.done) (.nil))) (.nil))) (.nil))) (.cons 12 [9, 8, 7] (.ev (.cons 10 [] (.ev (.cons 13 [] (.ev (.cons 14 [] (.done) (.nil))) (.nil))) (.nil))) (.nil)))) (.cons 12 [9, 8, 7] (.ev (.cons 10 [] (.ev (.cons 11 [] (.ev (.cons 13 [] (.ev (.cons 14 [] (.done) (.nil))) (.nil))) (.nil))) (.cons 11 [9, 8, 7] (.ev (.cons 10 [] (.ev (.cons 13 [] (.ev (.cons 14 [] (.done) (.nil))) (.nil))) (.nil))) (.nil)))) (.nil))))) (.cons 11 [9, 8, 7, 5, 4, 3, 2, 1, 0] (.ev (.cons 6 [9, 8, 7] (.ev (.cons 10 [] (.ev (.cons 12 [] (.ev (.cons 13 [] (.ev (.cons 14 [] (.done) (.nil))) (.nil))) (.nil))) (.cons 12 [9, 8, 7] (.ev (.cons 10 [] (.ev (.cons 13 [] (.ev (.cons 14 [] (.done) (.nil))) (.nil))) (.nil))) (.nil)))) (.cons 12 [9, 8, 7, 5, 4, 3, 2, 1, 0] (.ev (.cons 6 [9, 8, 7] (.ev (.cons 10 [] (.ev (.cons 13 [] (.ev (.cons 14 [] (.done) (.nil))) (.nil))) (.nil))) (.nil))) (.nil)))) (.cons 12 [9, 8, 7, 5, 4, 3, 2, 1, 0] (.ev (.cons 6 [9, 8, 7] (.ev (.cons 10 [] (.ev (.cons 11 [] (.ev (.cons 13 [] (.ev (.cons 14 [] (.done) (.nil))) (.nil))) (.nil))) (.cons 11 [9, 8, 7] (.ev (.cons 10 [] (.ev (.cons 13 [] (.ev (.cons 14 [] (.done) (.nil))) (.nil))) (.nil))) (.nil)))) (.cons 11 [9, 8, 7, 5, 4, 3, 2, 1, 0] (.ev (.cons 6 [9, 8, 7] (.ev (.cons 10 [] (.ev (.cons 13 [] (.ev (.cons 14 [] (.done) (.nil))) (.nil))) (.nil))) (.nil))) (.nil)))) (.nil)))))))))))))), [], ⟨by kernel_rfl, by kernel_rfl, by kernel_rfl, by kernel_rfl⟩, ?_⟩
 refine jac [(8, .box 8 0), (9, .box 9 0)] [(8, .box [.bool (decide (x0 < 0)), .ints .i64 (mg 10000 x0.natAbs)]), (9, .box [.bool (decide (y0 < 0)), .ints .i64 (mg 10000 y0.natAbs)])] ?_ ?_
 ·exact V.d2 @jhS hm1 hm2
 (conv => whnf)
 refine V.st ?_
 refine Cnd.split (CondB.mk (fun hq => ?_) (fun hq => ?_))
 ·rw [decide_eq_true_eq] at hq
  have hpl := hpl.1 hq
  have hy1 : y0 + (y.natAbs : Int) = x % y := by omega
  have hc1 := jgi y0 (y.natAbs : Int) (hsy.mono (by omega)) (by unfold Sm; rw [jh8]; omega)
  rw [hy1] at hc1
  rw [show plD y0 = .agg [.bool (decide (y0 < 0)), .ints .i64 (mg 10000 y0.natAbs)] from rfl, show plD (y.natAbs : Int) = .agg [.bool false, .ints .i64 (mg 10000 y.natAbs)] by unfold plD; rw [jh8, decide_eq_false (by omega)], show plD (x % y) = .agg [.bool (decide (x % y < 0)), .ints .i64 (mg 10000 (x % y).natAbs)] from rfl] at hc1
  have hi := jbf 1 ⟨by decide, by decide⟩
  (conv => whnf)
  refine V.st ?_
  repeat ((try ((with_reducible refine .ext ?_); (conv => whnf))); (with_reducible refine jab (r := ?_) ?_ ?_); rotate_left; (focus (first | exact (hc1))); (conv => whnf); refine V.st ?_)
  refine Cnd.split (CondB.mk (fun hq2 => ?_) (fun hq2 => ?_))
  ·rw [decide_eq_true_eq] at hq2
   have hc2 := jgi x0 1 (hsx.mono (by omega)) ((Sm.lit (k := 1) (by decide)).mono (by omega))
   rw [← hpl.2.1 hq2, show plD x0 = .agg [.bool (decide (x0 < 0)), .ints .i64 (mg 10000 x0.natAbs)] from rfl, show plD (x / y) = .agg [.bool (decide (x / y < 0)), .ints .i64 (mg 10000 (x / y).natAbs)] from rfl] at hc2
   (conv => whnf)
   refine V.st ?_
   refine ⟨(.take 0 (.ev (.cons 1 [0] (.ev (.cons 2 [] (.ev (.cons 3 [] (.done) (.nil))) (.nil))) (.nil)))), [], ⟨by kernel_rfl, by kernel_rfl, by kernel_rfl, by kernel_rfl⟩, .go (jae ?_)⟩
   (conv => whnf)
   refine V.st ?_
   repeat ((try ((with_reducible refine .ext ?_); (conv => whnf))); (with_reducible refine jab (r := ?_) ?_ ?_); rotate_left; (focus (first | exact (hi) | exact (hc2))); (conv => whnf); refine V.st ?_)
   refine ⟨(.take 0 (.take 1 (.ev (.cons 2 [1] (.ev (.cons 3 [] (.done) (.nil))) (.nil))))), [], ⟨by kernel_rfl, by kernel_rfl, by kernel_rfl, by kernel_rfl⟩, .go (jae ?_)⟩
   (conv => whnf)
   refine V.st ?_
   exact Fin.of rfl
  ·rw [decide_eq_false_iff_not] at hq2
   have hc2 := minus_c x0 1 (hsx.mono (by omega)) ((Sm.lit (k := 1) (by decide)).mono (by omega))
   rw [← hpl.2.2 hq2, show plD x0 = .agg [.bool (decide (x0 < 0)), .ints .i64 (mg 10000 x0.natAbs)] from rfl, show plD (x / y) = .agg [.bool (decide (x / y < 0)), .ints .i64 (mg 10000 (x / y).natAbs)] from rfl] at hc2
   (conv => whnf)
   refine V.st ?_
   refine ⟨(.take 0 (.ev (.cons 1 [0] (.ev (.cons 2 [] (.ev (.cons 3 [] (.done) (.nil))) (.nil))) (.nil)))), [], ⟨by kernel_rfl, by kernel_rfl, by kernel_rfl, by kernel_rfl⟩, .go (jae ?_)⟩
   (conv => whnf)
   refine V.st ?_
   repeat ((try ((with_reducible refine .ext ?_); (conv => whnf))); (with_reducible refine jab (r := ?_) ?_ ?_); rotate_left; (focus (first | exact (hi) | exact (hc2))); (conv => whnf); refine V.st ?_)
   refine ⟨(.take 0 (.take 1 (.ev (.cons 2 [1] (.ev (.cons 3 [] (.done) (.nil))) (.nil))))), [], ⟨by kernel_rfl, by kernel_rfl, by kernel_rfl, by kernel_rfl⟩, .go (jae ?_)⟩
   (conv => whnf)
   refine V.st ?_
   exact Fin.of rfl
 ·rw [decide_eq_false_iff_not] at hq
  have hpl := hpl.2 hq
  rw [← hpl.1, ← hpl.2]
  (conv => whnf)
  refine V.st ?_
  refine ⟨(.take 0 (.take 1 (.ev (.cons 2 [1] (.ev (.cons 3 [] (.done) (.nil))) (.nil))))), [], ⟨by kernel_rfl, by kernel_rfl, by kernel_rfl, by kernel_rfl⟩, .go (jae ?_)⟩
  (conv => whnf)
  refine V.st ?_
  exact Fin.of rfl
theorem jeH (x y : Int) (hx : Sm 80000000 x) (hy : Sm 80000000 y) : Called Tryz.prog 107 [plD x, plD y] (plD (Int.gcd x y)) := by
 unfold Sm at hx hy
 rw [show plD x = .agg [.bool (decide (x < 0)), .ints .i64 (mg 10000 x.natAbs)] from rfl, show plD y = .agg [.bool (decide (y < 0)), .ints .i64 (mg 10000 y.natAbs)] from rfl]
 refine jaa tbOk 6 ⟨Tryz.func107, rfl, rfl, jhO rfl⟩ ?_
 (conv => whnf)
 refine V.st ?_
 refine ⟨(.take 0 (.take 1 (.take 2 (.take 3 (.take 4 (.take 5 (.done))))))), [], ⟨by kernel_rfl, by kernel_rfl, by kernel_rfl, by kernel_rfl⟩, .go (jae ?_)⟩
 refine V.st ?_
 refine jah ((x.natAbs, y.natAbs) : Nat × Nat) (fun s => Nat.gcd s.1 s.2 = Int.gcd x y ∧ (mg 10000 s.1).length ≤ 80000000 ∧ (mg 10000 s.2).length ≤ 80000000) (fun s => s.2)
  (fun s => [(6, .ints .i64 (mg 10000 s.2)), (5, .ints .i64 (mg 10000 s.1))]) (fun _ => []) ?_ ?_ ?_
 ·exact V.wk
 ·exact ⟨rfl, hx, hy⟩
 rintro ⟨a, b⟩ ⟨h1, h2, h3⟩
 dsimp only at h1 h2 h3 ⊢
 have hnil := jb2 (B := 10000) (n := b) (by omega)
 rw [← List.length_eq_zero_iff] at hnil
 (conv => whnf)
 refine V.st ?_
 refine Cnd.split (CondB.mk (fun hq => ?_) (fun hq => ?_))
 ·rw [decide_eq_true_eq] at hq
  have hb : 0 < b := by omega
  have hp := parts_c a b (by omega) (by omega) hb
  have hr := jaf (B := 10000) (by omega) (Nat.le_of_lt (Nat.mod_lt a hb))
  (conv => whnf)
  refine V.st ?_
  repeat ((try ((with_reducible refine .ext ?_); (conv => whnf))); (with_reducible refine jab (r := ?_) ?_ ?_); rotate_left; (focus (first | exact (hp))); (conv => whnf); refine V.st ?_)
  exact ⟨(b, a % b), ⟨by dsimp only; rw [Nat.gcd_comm, ← Nat.gcd_rec, Nat.gcd_comm]; exact h1, h3, by dsimp only; omega⟩, Nat.mod_lt _ hb, V.wk⟩
 ·rw [decide_eq_false_iff_not] at hq
  obtain rfl : b = 0 := hnil.1 (by omega)
  rw [Nat.gcd_zero_right] at h1
  (conv => whnf)
  refine V.st ?_
  exact Fin.of (by unfold plD; rw [jh8, h1, decide_eq_false (by omega)])
theorem jfa (k : Nat) : ∀ (l a b : Nat), b < 10 ^ l → pad k a ++ pad l b = pad (k + l) (a * 10 ^ l + b)
 | 0, a, b, h => by
  obtain rfl : b = 0 := by simp at h; omega
  simp [pad]
 | l + 1, a, b, h => by
  have hb : b / 10 < 10 ^ l := Nat.div_lt_of_lt_mul (by rw [Nat.pow_succ, jhW] at h; exact h)
  have e : a * 10 ^ (l + 1) + b = (a * 10 ^ l) * 10 + b := by rw [Nat.pow_succ, Nat.mul_assoc]
  have e1 : (a * 10 ^ (l + 1) + b) / 10 = a * 10 ^ l + b / 10 := by omega
  have e2 : (a * 10 ^ (l + 1) + b) % 10 = b % 10 := by omega
  rw [show k + (l + 1) = (k + l) + 1 by omega, pad, pad, e1, e2, ← jfa k l a _ hb, List.append_assoc]
theorem dec_head (n : Nat) (h : 0 < n) : (dec n).getD 0 0 ≠ 48 := by
 induction n using Nat.strongRecOn with
 | _ n ih =>
  by_cases h1 : n < 10
  ·rw [jbs h1]
   intro e
   have := congrArg UInt8.toNat e
   simp only [List.getD_cons_zero] at this
   rw [jcy h1] at this
   simp at this
   omega
  ·rw [jcj (by omega), List.getD_eq_getElem?_getD, List.getElem?_append_left (ja1 _), ← List.getD_eq_getElem?_getD]
   exact ih _ (by omega) (by omega)
theorem four_c (n : Nat) (h : n < 10000) : Called Tryz.prog 140 [.int .i64 n] (.str (pad 4 n)) := by
 refine jaa tbOk 6 ⟨Tryz.func140, rfl, rfl, jhO rfl⟩ ?_
 (conv => whnf)
 refine V.st ?_
 exact Fin.of (by
  have e : ∀ m : Nat, (48 + (m : Int)).toNat = 48 + m := fun m => by omega
  simp only [pad, List.nil_append, List.append_assoc, List.cons_append, List.map_cons, List.map_nil]
  have e1 : (48 + (n : Int) / 1000).toNat = 48 + n / 10 / 10 / 10 % 10 := by omega
  have e2 : (48 + (n : Int) / 100 % 10).toNat = 48 + n / 10 / 10 % 10 := by omega
  have e3 : (48 + (n : Int) / 10 % 10).toNat = 48 + n / 10 % 10 := by omega
  have e4 : (48 + (n : Int) % 10).toNat = 48 + n % 10 := by omega
  rw [e1, e2, e3, e4])
theorem text_c (z : Int) (hz : Sm 90000000 z) : Called Tryz.prog 106 [plD z] (.str (decZ z)) := by
 unfold Sm at hz
 have hdx := mg_dg (B := 10000) (by omega) z.natAbs
 have hvx := jaC (B := 10000) (by omega) z.natAbs
 have hnil := jb2 (B := 10000) (n := z.natAbs) (by omega)
 have hltp := jaG (B := 10000) (n := z.natAbs) (by omega)
 rw [show plD z = .agg [.bool (decide (z < 0)), .ints .i64 (mg 10000 z.natAbs)] from rfl]
 generalize mg 10000 z.natAbs = xs at *
 refine jaa tbOk 6 ⟨Tryz.func106, rfl, rfl, jhO rfl⟩ ?_
 (conv => whnf)
 refine V.st ?_
 refine jah ((xs.length, 0) : Nat × Nat) (fun s => s.1 ≤ xs.length ∧ val 10000 (xs.drop s.1) = s.2) (fun s => s.1)
  (fun s => [(4, .int .i64 ((s.1 : Int) - 1)), (3, .str (pad (4 * (xs.length - s.1)) s.2))]) (fun _ => []) ?_ ?_ ?_
 ·rw [Nat.sub_self]
  exact V.wk
 ·exact ⟨jhU _, by simp [val]⟩
 rintro ⟨k, v⟩ ⟨h1, h2⟩
 dsimp only at h1 h2 ⊢
 have hpl := jdu (4 * (xs.length - k)) v
 (conv => whnf)
 refine V.st ?_
 refine Cnd.split (CondB.mk (fun hq => ?_) (fun hq => ?_))
 ·rw [decide_eq_true_eq] at hq
  obtain ⟨j, rfl⟩ : ∃ j, k = j + 1 := ⟨k - 1, by omega⟩
  have hj : j < xs.length := by omega
  have bx := jam (by omega) hdx j
  have hd := jbI (B := 10000) hj
  generalize hx0 : xs.getD j 0 = x at *
  obtain ⟨d, rfl⟩ : ∃ d : Nat, x = d := ⟨x.toNat, by omega⟩
  have e2 : (((j + 1 : Nat) : Int) - 1) = (j : Int) := by omega
  have hf := four_c d (by omega)
  have hp4 := jdu 4 d
  have hpa := jfa (4 * (xs.length - (j + 1))) 4 v d (by omega)
  have e4 : 4 * (xs.length - (j + 1)) + 4 = 4 * (xs.length - j) := by omega
  rw [e4] at hpa
  refine V.r1 (V.a4 e2 @jhT hx0 hpa) hf ?_
  exact ⟨(j, v * 10 ^ 4 + d), ⟨by dsimp only; omega, by dsimp only; rw [hd, h2]; omega⟩, by dsimp only; omega, V.wk⟩
 ·rw [decide_eq_false_iff_not] at hq
  obtain rfl : k = 0 := by omega
  rw [List.drop_zero, hvx] at h2
  have hv : v = z.natAbs := by omega
  subst hv
  have hK : z.natAbs < 10 ^ (4 * xs.length) := by rw [Nat.pow_mul]; exact hltp
  rw [Nat.sub_zero] at *
  generalize hs : pad (4 * xs.length) z.natAbs = t at *
  obtain ⟨Z, hZ, hZ1, hZ2⟩ : ∃ Z, Z ≤ t.length ∧ t.drop Z = (if z.natAbs = 0 then [] else dec z.natAbs) ∧ ∀ k, k ≤ Z → (k < t.length ∧ t.getD k 0 = 48 ↔ k < Z) := by
   by_cases h0 : z.natAbs = 0
   ·have := hnil.2 h0
    subst this
    rw [if_pos h0]
    have ht : t = [] := List.length_eq_zero_iff.1 (by simpa using hpl)
    subst ht
    exact ⟨0, by simp, rfl, fun k hk => by simp⟩
   ·rw [if_neg h0]
    have hne : 0 < xs.length := by
     rcases jhV xs.length with e | e
     ·exact absurd (hnil.1 (List.length_eq_zero_iff.1 e)) h0
     ·exact e
    obtain ⟨p1, p2⟩ := jaS (4 * xs.length) z.natAbs (by omega) hK
    rw [hs] at p2
    have hdl := ja1 z.natAbs
    refine ⟨4 * xs.length - (dec z.natAbs).length, by omega, ?_, fun k hk => ?_⟩
    ·rw [p2, List.drop_append_of_le_length (by simp), List.drop_of_length_le (by simp)]; rfl
    ·rw [p2]
     rcases jh0 k (4 * xs.length - (dec z.natAbs).length) with hlt | hge
     ·rw [List.getD_eq_getElem?_getD, List.getElem?_append_left (by simpa using hlt), List.getElem?_replicate, if_pos hlt]
      simp [hlt]; omega
     ·have hke : k = 4 * xs.length - (dec z.natAbs).length := by omega
      rw [List.getD_eq_getElem?_getD, List.getElem?_append_right (by simp; omega), List.length_replicate, hke, Nat.sub_self, ← List.getD_eq_getElem?_getD]
      have := dec_head z.natAbs (by omega)
      simp only [Nat.lt_irrefl, iff_false, not_and]
      exact fun _ => this
  refine V.r0 @jhT ?_
  refine jah (0) (fun k => k ≤ Z) (fun k => Z - k) (fun k => [(5, .int .i64 k)]) (fun k => []) ?_ ?_ ?_
  ·exact V.wk
  ·exact jhP _
  intro k hk
  have hz2 := hZ2 k hk
  have hkc : ((k : Int) + 1) = ((k + 1 : Nat) : Int) := by omega
  have hu : (((t.getD k 0).toNat : Int) = 48) ↔ t.getD k 0 = 48 := ⟨fun h => UInt8.toNat_inj.1 (by have e : (48 : UInt8).toNat = 48 := rfl; rw [e]; omega), fun h => by rw [h]; rfl⟩
  refine V.r0 @jhT ?_
  refine Cnd.split (CondB.mk (fun hq2 => ?_) (fun hq2 => ?_))
  ·rw [jhN, decide_eq_true_eq, decide_eq_true_eq, hu] at hq2
   have hkZ := hz2.1 ⟨by omega, hq2.2⟩
   refine V.r0 hkc ?_
   exact ⟨k + 1, by omega, by omega, V.wk⟩
  ·have hkZ : k = Z := by
    rcases jh0 k Z with h | h
    ·have h3 := hz2.2 h
     rw [Bool.and_eq_false_iff, decide_eq_false_iff_not, decide_eq_false_iff_not, hu] at hq2
     rcases hq2 with h4 | h4
     ·omega
     ·exact absurd h3.2 h4
    ·omega
   subst hkZ
   refine V.r0 (V.a2 @jhT hZ1) ?_
   by_cases h0 : z.natAbs = 0
   ·rw [if_pos h0] at hZ1 ⊢
    have hz0 : z = 0 := by omega
    (conv => whnf)
    refine V.st ?_
    exact Fin.of (by rw [hz0]; rfl)
   ·rw [if_neg h0] at hZ1 ⊢
    have hne := ja1 z.natAbs
    have hne2 : dec z.natAbs ≠ [] := fun e => by rw [e] at hne; simp at hne
    have hdl : (dec z.natAbs).length ≤ t.length := by rw [← hZ1, List.length_drop]; omega
    (conv => whnf)
    refine V.st ?_
    refine Cnd.no (decide_eq_false hne2) ?_
    (conv => whnf)
    refine V.st ?_
    refine Cnd.split (CondB.mk (fun hneg => ?_) (fun hneg => ?_))
    ·rw [decide_eq_true_eq] at hneg
     (conv => whnf)
     refine V.st ?_
     exact Fin.of (by unfold decZ; rw [if_pos hneg]; rfl)
    ·rw [decide_eq_false_iff_not] at hneg
     (conv => whnf)
     refine V.st ?_
     exact Fin.of (by unfold decZ; rw [if_neg hneg])
theorem out_c (z : Int) (hz : Sm 90000000 z) : Called Tryz.prog 120 [plD z] (.tup [.str (if 600 < (dec z.natAbs).length then [] else decZ z), .int .i64 (if 600 < (dec z.natAbs).length then 6 else 0)]) := by
 have ht := text_c z hz
 rw [show plD z = .agg [.bool (decide (z < 0)), .ints .i64 (mg 10000 z.natAbs)] from rfl] at *
 have hl : (decZ z).length = (dec z.natAbs).length + (if z < 0 then 1 else 0) := by unfold decZ; split <;> simp
 generalize hzs : decZ z = s at *
 refine jaa tbOk 6 ⟨Tryz.func120, rfl, rfl, jhO rfl⟩ ?_
 (conv => whnf)
 refine V.st ?_
 repeat ((try ((with_reducible refine .ext ?_); (conv => whnf))); (with_reducible refine jab (r := ?_) ?_ ?_); rotate_left; (focus (first | exact (ht))); (conv => whnf); refine V.st ?_)
 refine Cnd.split (CondB.mk (fun hq => ?_) (fun hq => ?_))
 ·rw [decide_eq_true_eq] at hq
  rw [if_pos hq] at hl
  (conv => whnf)
  refine V.st ?_
  refine Cnd.split (CondB.mk (fun hq2 => ?_) (fun hq2 => ?_))
  ·rw [decide_eq_true_eq] at hq2
   rw [if_pos (by omega), if_pos (by omega)]
   (conv => whnf)
   refine V.st ?_
   exact Fin.of rfl
  ·rw [decide_eq_false_iff_not] at hq2
   rw [if_neg (by omega), if_neg (by omega)]
   (conv => whnf)
   refine V.st ?_
   exact Fin.of rfl
 ·rw [decide_eq_false_iff_not] at hq
  rw [if_neg hq] at hl
  (conv => whnf)
  refine V.st ?_
  refine Cnd.split (CondB.mk (fun hq2 => ?_) (fun hq2 => ?_))
  ·rw [decide_eq_true_eq] at hq2
   rw [if_pos (by omega), if_pos (by omega)]
   (conv => whnf)
   refine V.st ?_
   exact Fin.of rfl
  ·rw [decide_eq_false_iff_not] at hq2
   rw [if_neg (by omega), if_neg (by omega)]
   (conv => whnf)
   refine V.st ?_
   exact Fin.of rfl
def okD (d : List UInt8) (neg : Bool) : Bool := !(decide (d.length = 0) || decide (600 < d.length)) && d.all isDig && !(decide (d.getD 0 0 = 48) && (neg || decide (1 < d.length)))
def okW (s : List UInt8) : Bool := okD (Go.Lib.trimPrefix s [45]) (Go.Lib.hasPrefix s [45])
theorem dig_lo (c : UInt8) : (isDig c = true) ↔ ¬ (c.toNat : Int) < 48 ∧ ¬ (57 < (c.toNat : Int)) := by
 simp only [isDig, decide_eq_true_eq]; omega
theorem Fin.any' (r : D) : Fin .any r := ⟨fun _ _ _ => by simp [Den]⟩
theorem wread_g (s : List UInt8) (hs : s.length ≤ 281474976710656) : Called Tryz.prog 175 [.str s] (.tup [.agg [.any, .any], .bool (okW s)]) := by
 have hcp := jeN s [45]
 unfold okW
 have hdl : (Go.Lib.trimPrefix s [45]).length ≤ s.length := by unfold Go.Lib.trimPrefix; split <;> simp
 generalize Go.Lib.trimPrefix s [45] = d at *
 generalize Go.Lib.hasPrefix s [45] = neg at *
 refine jaa tbOk 6 ⟨Tryz.func175, rfl, rfl, jhO rfl⟩ ?_
 (conv => whnf)
 refine V.st ?_
 repeat ((try ((with_reducible refine .ext ?_); (conv => whnf))); (with_reducible refine jab (r := ?_) ?_ ?_); rotate_left; (focus (first | exact (hcp))); (conv => whnf); refine V.st ?_)
 refine Cnd.split (CondB.mk (fun hq => ?_) (fun hq => ?_))
 ·simp only [Bool.or_eq_true, decide_eq_true_eq] at hq
  have hf : okD d neg = false := by
   unfold okD
   rcases hq with h | h
   ·rw [decide_eq_true (show d.length = 0 by omega)]; rfl
   ·rw [decide_eq_true (show 600 < d.length by omega), Bool.or_true]; rfl
  rw [hf]
  (conv => whnf)
  refine V.st ?_
  exact Fin.tup ⟨Fin.agg ⟨Fin.any' _, Fin.any' _, trivial⟩, Fin.of rfl, trivial⟩
 ·simp only [jh2, decide_eq_false_iff_not] at hq
  (conv => whnf)
  refine V.st ?_
  refine jah (0 : Nat) (fun k => k ≤ d.length ∧ ∀ i, i < k → isDig (d.getD i 0) = true) (fun k => d.length - k) (fun k => [(23, .int .i64 k)]) (fun _ => []) ?_ ?_ ?_
  ·exact V.wk
  ·exact ⟨jhP _, fun i hi => by omega⟩
  intro k hk
  have hkc : ((k : Int) + 1) = ((k + 1 : Nat) : Int) := by omega
  (conv => whnf)
  refine V.st ?_
  refine Cnd.split (CondB.mk (fun hq2 => ?_) (fun hq2 => ?_))
  ·rw [decide_eq_true_eq] at hq2
   have hdl := dig_lo (d.getD k 0)
   generalize hc : d.getD k 0 = c at *
   refine V.r0 (V.a3 @jhT hc hkc) ?_
   refine Cnd.split (CondB.mk (fun hq3 => ?_) (fun hq3 => ?_))
   ·rw [Bool.or_eq_true, decide_eq_true_eq, decide_eq_true_eq] at hq3
    have hf : okD d neg = false := by
     have h1 : d.all isDig = false := by
      rw [List.all_eq_false]
      refine ⟨c, ?_, fun h => by have := hdl.1 h; omega⟩
      rw [← hc, List.getD_eq_getElem?_getD, List.getElem?_eq_getElem (by omega)]
      exact List.getElem_mem _
     unfold okD
     rw [h1, Bool.and_false, Bool.false_and]
    rw [hf]
    (conv => whnf)
    refine V.st ?_
    exact Fin.tup ⟨Fin.agg ⟨Fin.any' _, Fin.any' _, trivial⟩, Fin.of rfl, trivial⟩
   ·rw [jh2, decide_eq_false_iff_not, decide_eq_false_iff_not] at hq3
    refine V.r0 hkc ?_
    refine ⟨k + 1, ⟨by omega, fun i hi => ?_⟩, by omega, V.wk⟩
    rcases jh0 i k with h | h
    ·exact hk.2 i h
    ·obtain rfl : i = k := by omega
     rw [hc]; exact hdl.2 (by omega)
  ·rw [decide_eq_false_iff_not] at hq2
   obtain rfl : k = d.length := by omega
   have hall : ∀ c ∈ d, isDig c = true := fun c hc => by
    obtain ⟨i, hi, e⟩ := List.getElem_of_mem hc
    have := hk.2 i hi
    rw [List.getD_eq_getElem?_getD, List.getElem?_eq_getElem hi] at this
    rw [← e]; exact this
   have hok : okD d neg = !(decide (d.getD 0 0 = 48) && (neg || decide (1 < d.length))) := by
    unfold okD
    rw [List.all_eq_true.2 hall, decide_eq_false (show ¬ d.length = 0 by omega), decide_eq_false (show ¬ 600 < d.length by omega)]
    rfl
   have hu : decide ((((d.getD 0 0).toNat : Nat) : Int) = 48) = decide (d.getD 0 0 = 48) := decide_eq_decide.2 ⟨fun h => UInt8.toNat_inj.1 (by have e : (48 : UInt8).toNat = 48 := rfl; rw [e]; omega), fun h => by rw [h]; rfl⟩
   have hl : decide ((d.length : Int) > 1) = decide (1 < d.length) := decide_eq_decide.2 (by omega)
   have hg := wgather_c d hall (by omega)
   rw [hok]
   have e0 : (0 : Int).toNat = 0 := rfl
   refine V.r0 (V.a3 e0 hu hl) ?_
   refine And.intro (fun h1 h2 => by rw [h1, h2]; rfl) ?_
   refine V.r0 (V.a3 e0 hu hl) ?_
   refine Cnd.split (CondB.mk (fun hq4 => ?_) (fun hq4 => ?_))
   ·rw [hq4]
    (conv => whnf)
    refine V.st ?_
    exact Fin.tup ⟨Fin.agg ⟨Fin.any' _, Fin.any' _, trivial⟩, Fin.of rfl, trivial⟩
   ·rw [hq4]
    (conv => whnf)
    refine V.st ?_
    repeat ((try ((with_reducible refine .ext ?_); (conv => whnf))); (with_reducible refine jab (r := ?_) ?_ ?_); rotate_left; (focus (first | exact (hg))); (conv => whnf); refine V.st ?_)
    exact Fin.tup ⟨Fin.agg ⟨Fin.any' _, Fin.any' _, trivial⟩, Fin.of rfl, trivial⟩
theorem jb6 (s : List UInt8) (hs : s.length ≤ 281474976710656) : Called Tryz.prog 144 [.str s] (.int .i64 (if okW s then 0 else 10)) := by
 have h1 := wread_g s hs
 generalize okW s = b at *
 refine jaa tbOk 6 ⟨Tryz.func144, rfl, rfl, jhO rfl⟩ ?_
 (conv => whnf)
 refine V.st ?_
 repeat ((try ((with_reducible refine .ext ?_); (conv => whnf))); (with_reducible refine jab (r := ?_) ?_ ?_); rotate_left; (focus (first | exact (h1))); (conv => whnf); refine V.st ?_)
 refine Cnd.split (CondB.mk (fun hq => ?_) (fun hq => ?_))
 ·obtain rfl : b = false := by simpa using hq
  (conv => whnf)
  refine V.st ?_
  exact Fin.of rfl
 ·obtain rfl : b = true := by simpa using hq
  (conv => whnf)
  refine V.st ?_
  exact Fin.of rfl
def itD (z : Int) : D := .agg [.ints .u32 (mg 1000000000 z.natAbs), .bool (decide (z < 0))]
def wval (s : List UInt8) : Int := if Go.Lib.hasPrefix s [45] then -(rdv (Go.Lib.trimPrefix s [45]) : Nat) else (rdv (Go.Lib.trimPrefix s [45]) : Nat)
theorem okD_nz {d : List UInt8} (h : okD d true = true) : 0 < rdv d := by
 unfold okD at h
 simp only [jhN, Bool.not_eq_true', jh2, decide_eq_false_iff_not, Bool.true_or, Bool.and_true, List.all_eq_true] at h
 obtain ⟨⟨⟨h1, _⟩, h2⟩, h3⟩ := h
 cases d with
 | nil => simp at h1
 | cons c r =>
  have h4 := h2 c (by simp)
  simp only [isDig, decide_eq_true_eq] at h4
  rw [List.getD_cons_zero] at h3
  have h5 : c.toNat ≠ 48 := fun e => h3 (UInt8.toNat_inj.1 e)
  have h6 := ja7 [c] r
  rw [jdt] at h6
  rw [show c :: r = [c] ++ r from rfl, h6]
  have : 0 < (c.toNat - 48) * 10 ^ r.length := Nat.mul_pos (by omega) (Nat.pow_pos (by omega))
  omega
theorem jcD (s : List UInt8) (h : okW s = true) : Called Tryz.prog 145 [.str s] (itD (wval s)) := by
 have hcp := jeN s [45]
 unfold wval itD
 unfold okW at h
 have hl : (Go.Lib.trimPrefix s [45]).length ≤ 600 ∧ ∀ c ∈ Go.Lib.trimPrefix s [45], isDig c = true := by
  unfold okD at h
  simp only [jhN, Bool.not_eq_true', jh2, decide_eq_false_iff_not, List.all_eq_true] at h
  exact ⟨by omega, h.1.2⟩
 have hg := gather_c _ hl.2 (by omega)
 generalize Go.Lib.trimPrefix s [45] = d at *
 have e : (if Go.Lib.hasPrefix s [45] = true then -((rdv d : Nat) : Int) else ((rdv d : Nat) : Int)).natAbs = rdv d ∧ decide ((if Go.Lib.hasPrefix s [45] = true then -((rdv d : Nat) : Int) else ((rdv d : Nat) : Int)) < 0) = Go.Lib.hasPrefix s [45] := by
  cases hn : Go.Lib.hasPrefix s [45] with
  | true =>
   rw [hn] at h
   have := okD_nz h
   exact ⟨by simp, by simp; omega⟩
  | false => exact ⟨by simp, by simp⟩
 rw [e.1, e.2]
 generalize Go.Lib.hasPrefix s [45] = neg at *
 refine jaa tbOk 6 ⟨Tryz.func145, rfl, rfl, jhO rfl⟩ ?_
 (conv => whnf)
 refine V.st ?_
 repeat ((try ((with_reducible refine .ext ?_); (conv => whnf))); (with_reducible refine jab (r := ?_) ?_ ?_); rotate_left; (focus (first | exact (hcp) | exact (hg))); (conv => whnf); refine V.st ?_)
 exact Fin.of rfl
theorem jdm (z : Int) : Go.Lib.hasPrefix (decZ z) [45] = decide (z < 0) ∧ Go.Lib.trimPrefix (decZ z) [45] = dec z.natAbs := by
 unfold decZ Go.Lib.trimPrefix Go.Lib.hasPrefix
 by_cases h : z < 0
 ·simp [h, List.isPrefixOf]
 ·simp only [if_neg h, decide_eq_false h]
  have h1 := jf2 z.natAbs
  have h2 := ja1 z.natAbs
  cases hd : dec z.natAbs with
  | nil => rw [hd] at h2; simp at h2
  | cons c r =>
   have h3 := h1 c (by rw [hd]; simp)
   have h4 : ((45 : UInt8) == c) = false := by
    rw [beq_eq_false_iff_ne]; intro e; subst e; exact absurd h3 (by decide)
   simp [List.isPrefixOf, h4]
theorem jbx (z : Int) (h : (dec z.natAbs).length ≤ 600) : okW (decZ z) = true := by
 unfold okW okD
 rw [(jdm z).1, (jdm z).2]
 have h2 := ja1 z.natAbs
 have h3 : (dec z.natAbs).all isDig = true := List.all_eq_true.2 (jf2 _)
 rw [h3, decide_eq_false (show ¬ (dec z.natAbs).length = 0 by omega), decide_eq_false (show ¬ 600 < (dec z.natAbs).length by omega)]
 by_cases h0 : z.natAbs = 0
 ·have : z = 0 := by omega
  subst this
  rfl
 ·have := dec_head z.natAbs (by omega)
  rw [decide_eq_false this]; rfl
theorem jbb (z : Int) : wval (decZ z) = z := by
 unfold wval
 rw [(jdm z).1, (jdm z).2, rdv_dec]
 by_cases h : z < 0
 ·simp [h]; omega
 ·simp [h]; omega
theorem jcW (n : Nat) : Called Tryz.prog 132 [.ints .u32 (mg 1000000000 n)] (.bool (decide (n = 0))) := by
 have hnil := jb2 (B := 1000000000) (n := n) (by omega)
 rw [← List.length_eq_zero_iff] at hnil
 have e : decide (((mg 1000000000 n).length : Int) = 0) = decide (n = 0) := decide_eq_decide.2 (by rw [← hnil]; omega)
 refine jaa tbOk 6 ⟨Tryz.func132, rfl, rfl, jhO rfl⟩ ?_
 (conv => whnf)
 refine V.st ?_
 exact Fin.of (by rw [e])
theorem jaV (n : Nat) (neg : Bool) : Called Tryz.prog 153 [.ints .u32 (mg 1000000000 n), .bool neg] (itD (if neg then -(n : Int) else n)) := by
 have h1 := jcW n
 have e : (if neg = true then -(n : Int) else (n : Int)).natAbs = n := by cases neg <;> simp
 have e2 : decide ((if neg = true then -(n : Int) else (n : Int)) < 0) = (neg && !decide (n = 0)) := by
  cases neg with
  | false => simp
  | true =>
   by_cases h : n = 0
   ·simp [h]
   ·rw [decide_eq_false h, if_pos rfl, decide_eq_true (by omega)]; rfl
 unfold itD
 rw [e, e2]
 generalize decide (n = 0) = z at *
 refine jaa tbOk 6 ⟨Tryz.func153, rfl, rfl, jhO rfl⟩ ?_
 (conv => whnf)
 refine V.st ?_
 repeat ((try ((with_reducible refine .ext ?_); (conv => whnf))); (with_reducible refine jab (r := ?_) ?_ ?_); rotate_left; (focus (first | exact (h1))); (conv => whnf); refine V.st ?_)
 exact Fin.of rfl
theorem small_c (n : Nat) (h : n < 1000000000000000000) : Called Tryz.prog 178 [.ints .u32 (mg 1000000000 n)] (.int .u64 n) := by
 have hlen := jau (B := 1000000000) (n := n) (k := 2) (by omega) (by omega)
 have hdx := mg_dg (B := 1000000000) (by omega) n
 have hvx := jaC (B := 1000000000) (by omega) n
 generalize mg 1000000000 n = xs at *
 refine jaa tbOk 6 ⟨Tryz.func178, rfl, rfl, jhO rfl⟩ ?_
 (conv => whnf)
 refine V.st ?_
 refine jah (xs.length : Nat) (fun k => k ≤ xs.length) (fun k => k) (fun k => [(4, .int .i64 ((k : Int) - 1)), (3, .int .u64 (val 1000000000 (xs.drop k)))]) (fun _ => []) ?_ ?_ ?_
 ·rw [List.drop_length]
  exact V.wk
 ·exact jhU _
 intro k hk
 (conv => whnf)
 refine V.st ?_
 refine Cnd.split (CondB.mk (fun hq => ?_) (fun hq => ?_))
 ·rw [decide_eq_true_eq] at hq
  obtain ⟨j, rfl⟩ : ∃ j, k = j + 1 := ⟨k - 1, by omega⟩
  have hd := jbI (B := 1000000000) (l := xs) (k := j) (by omega)
  have bx := jam (by omega) hdx j
  have h0 := jan (jbm hdx (j + 1))
  have h1 := jbX (jbm hdx (j + 1))
  rw [List.length_drop] at h1
  have h2 : (1000000000 : Nat) ^ (xs.length - (j + 1)) ≤ 1000000000 ^ 1 := jh9 (by omega) (by omega)
  have h3 : ((1000000000 ^ (xs.length - (j + 1)) : Nat) : Int) ≤ ((1000000000 ^ 1 : Nat) : Int) := by exact_mod_cast h2
  rw [jid] at h3
  have e2 : (((j + 1 : Nat) : Int) - 1) = (j : Int) := by omega
  generalize hx0 : xs.getD j 0 = x at *
  have e3 : val 1000000000 (xs.drop (j + 1)) * 1000000000 + x = val 1000000000 (xs.drop j) := by omega
  refine V.r0 (V.a4 e2 @jhT hx0 e3) ?_
  exact ⟨j, by omega, by omega, V.wk⟩
 ·rw [decide_eq_false_iff_not] at hq
  obtain rfl : k = 0 := by omega
  rw [List.drop_zero, hvx]
  (conv => whnf)
  refine V.st ?_
  exact Fin.of rfl
theorem jcT (n : Nat) (hn : n < 18446744073709551616) : Called Tryz.prog 114 [.int .u64 n] (.ints .u32 (mg 1000000000 n)) := by
 have hlen := jau (B := 1000000000) (n := n) (k := 3) (by omega) (by omega)
 refine jaa tbOk 6 ⟨Tryz.func114, rfl, rfl, jhO rfl⟩ ?_
 (conv => whnf)
 refine V.st ?_
 refine Lp.ghostSlot 13 3 .u32 (by decide) ?_
 (conv => whnf)
 refine jah ((n, []) : Nat × List Int) (fun s => val 1000000000 s.2 + ((1000000000 : Nat) : Int) ^ s.2.length * s.1 = n ∧ Dg 1000000000 s.2 ∧ s.1 ≤ n ∧ s.2.length + (mg 1000000000 s.1).length = (mg 1000000000 n).length ∧ (s.1 = 0 → s.2 = mg 1000000000 n)) (fun s => s.1) (fun s => [(0, .int .u64 s.1), (3, .osl 13 0 s.2.length)]) (fun s => [(13, .arr .u32 s.2)]) ?_ ?_ ?_
 ·exact V.wk
 ·exact ⟨by simp [val], fun x hx => by simp at hx, jhU _, by simp, fun h => by dsimp only at h; rw [h]; rfl⟩
 rintro ⟨q, out⟩ ⟨h1, h2, h3, h4, h5⟩
 dsimp only at h1 h2 h3 h4 h5 ⊢
 (conv => whnf)
 refine V.st ?_
 refine Cnd.split (CondB.mk (fun hq => ?_) (fun hq => ?_))
 ·rw [decide_eq_true_eq] at hq
  have hq0 : 0 < q := by omega
  have hmg := jb1 (B := 1000000000) (by omega) hq0
  have hst := jd1 (B := 1000000000) (by omega) h1
  have hlt : q / 1000000000 < q := Nat.div_lt_self hq0 (by omega)
  have hdg : Dg 1000000000 (out ++ [((q % 1000000000 : Nat) : Int)]) := jai h2 (jas ⟨by omega, by have := Nat.mod_lt q (by omega : 1000000000 > 0); omega⟩)
  have e1 : (q : Int) % 1000000000 = ((q % 1000000000 : Nat) : Int) := by omega
  have e2 : (q : Int) / 1000000000 = ((q / 1000000000 : Nat) : Int) := by omega
  have hl2 : (out ++ [((q % 1000000000 : Nat) : Int)]).length = out.length + 1 := by simp
  have hl3 : out.length + (List.take 1 (List.drop 0 [((q % 1000000000 : Nat) : Int)])).length = (out ++ [((q % 1000000000 : Nat) : Int)]).length := by simp
  rw [hmg, List.length_cons] at h4
  have hmr := Nat.mod_lt q (by omega : 1000000000 > 0)
  refine V.r0 (V.a3 e1 e2 hl3) ?_
  try refine And.intro (fun _ => ⟨trivial, by omega⟩) ?_
  refine V.r0 (V.a3 e1 e2 hl3) ?_
  refine ⟨(q / 1000000000, out ++ [((q % 1000000000 : Nat) : Int)]), ⟨hst, hdg, by dsimp only; omega, by dsimp only; omega, fun h0 => ?_⟩, hlt, V.wk⟩
  dsimp only at h0 ⊢
  rw [h0, Int.natCast_zero, Int.mul_zero, jic] at hst
  have := mg_of (B := 1000000000) (by omega) hdg (fun x hx => by
   rw [List.getLast?_append] at hx
   simp at hx
   omega)
  rw [hst, jhT] at this
  exact this
 ·rw [decide_eq_false_iff_not] at hq
  obtain rfl : q = 0 := by omega
  (conv => whnf)
  refine V.st ?_
  exact Fin.of (by rw [List.take_length, h5 rfl])
theorem isNaNi_c (n : Int) : Called Tryz.prog 203 [.int .i64 n] (.bool false) := by
 refine jaa tbOk 6 ⟨Tryz.func203, rfl, rfl, jhO rfl⟩ ?_
 (conv => whnf)
 refine V.st ?_
 exact Fin.of (by simp)
theorem isNaNu_c (n : Int) : Called Tryz.prog 204 [.int .u32 n] (.bool false) := by
 refine jaa tbOk 6 ⟨Tryz.func204, rfl, rfl, jhO rfl⟩ ?_
 (conv => whnf)
 refine V.st ?_
 exact Fin.of (by simp)
theorem cmpi_c (m n : Int) : Called Tryz.prog 179 [.int .i64 m, .int .i64 n] (.int .i64 (m - n).sign) := by
 have h1 := isNaNi_c m
 have h2 := isNaNi_c n
 refine jaa tbOk 6 ⟨Tryz.func179, rfl, rfl, jhO rfl⟩ ?_
 (conv => whnf)
 refine V.st ?_
 repeat ((try ((with_reducible refine .ext ?_); (conv => whnf))); (with_reducible refine jab (r := ?_) ?_ ?_); rotate_left; (focus (first | exact (h1) | exact (h2))); (conv => whnf); refine V.st ?_)
 refine Cnd.split (CondB.mk (fun hq => ?_) (fun hq => ?_))
 ·rw [decide_eq_true_eq] at hq
  (conv => whnf)
  refine V.st ?_
  exact Fin.of (by rw [jig (by omega)])
 ·rw [decide_eq_false_iff_not] at hq
  (conv => whnf)
  refine V.st ?_
  refine Cnd.split (CondB.mk (fun hq2 => ?_) (fun hq2 => ?_))
  ·rw [decide_eq_true_eq] at hq2
   (conv => whnf)
   refine V.st ?_
   exact Fin.of (by rw [jih (by omega)])
  ·rw [decide_eq_false_iff_not] at hq2
   (conv => whnf)
   refine V.st ?_
   exact Fin.of (by rw [show m - n = 0 by omega]; rfl)
theorem cmpu_c (m n : Int) : Called Tryz.prog 180 [.int .u32 m, .int .u32 n] (.int .i64 (m - n).sign) := by
 have h1 := isNaNu_c m
 have h2 := isNaNu_c n
 refine jaa tbOk 6 ⟨Tryz.func180, rfl, rfl, jhO rfl⟩ ?_
 (conv => whnf)
 refine V.st ?_
 repeat ((try ((with_reducible refine .ext ?_); (conv => whnf))); (with_reducible refine jab (r := ?_) ?_ ?_); rotate_left; (focus (first | exact (h1) | exact (h2))); (conv => whnf); refine V.st ?_)
 refine Cnd.split (CondB.mk (fun hq => ?_) (fun hq => ?_))
 ·rw [decide_eq_true_eq] at hq
  (conv => whnf)
  refine V.st ?_
  exact Fin.of (by rw [jig (by omega)])
 ·rw [decide_eq_false_iff_not] at hq
  (conv => whnf)
  refine V.st ?_
  refine Cnd.split (CondB.mk (fun hq2 => ?_) (fun hq2 => ?_))
  ·rw [decide_eq_true_eq] at hq2
   (conv => whnf)
   refine V.st ?_
   exact Fin.of (by rw [jih (by omega)])
  ·rw [decide_eq_false_iff_not] at hq2
   (conv => whnf)
   refine V.st ?_
   exact Fin.of (by rw [show m - n = 0 by omega]; rfl)
theorem jb5 (a b : Nat) (ha : (mg 1000000000 a).length ≤ 100000000) (hb : (mg 1000000000 b).length ≤ 100000000) : Called Tryz.prog 148 [.ints .u32 (mg 1000000000 a), .ints .u32 (mg 1000000000 b)] (.int .i64 ((a : Int) - b).sign) := by
 have hdx := mg_dg (B := 1000000000) (by omega) a
 have hdy := mg_dg (B := 1000000000) (by omega) b
 have hsg := jfc (B := 1000000000) (by omega) a b
 generalize mg 1000000000 a = xs at *
 generalize mg 1000000000 b = ys at *
 have hsn : ((a : Int) - b).sign = (ordV xs ys).sign := by
  rcases Nat.lt_trichotomy a b with h | h | h
  ·rw [jig (by omega), jig (by omega)]
  ·rw [show (a : Int) - b = 0 by omega, show ordV xs ys = 0 by omega]
  ·rw [jih (by omega), jih (by omega)]
 rw [hsn]
 have hc1 := cmpi_c (xs.length : Int) (ys.length : Int)
 refine jaa tbOk 6 ⟨Tryz.func148, rfl, rfl, jhO rfl⟩ ?_
 (conv => whnf)
 refine V.st ?_
 refine Cnd.split (CondB.mk (fun hq => ?_) (fun hq => ?_))
 ·rw [decide_eq_true_eq] at hq
  (conv => whnf)
  refine V.st ?_
  repeat ((try ((with_reducible refine .ext ?_); (conv => whnf))); (with_reducible refine jab (r := ?_) ?_ ?_); rotate_left; (focus (first | exact (hc1))); (conv => whnf); refine V.st ?_)
  exact Fin.of (by unfold ordV; rw [if_neg (by omega)])
 ·rw [decide_eq_false_iff_not] at hq
  have hq' : xs.length = ys.length := by omega
  have hov : ordV xs ys = ordR xs ys xs.length := by unfold ordV; rw [if_pos hq']
  rw [hov]
  (conv => whnf)
  refine V.st ?_
  refine jah (xs.length) (fun k => k ≤ xs.length ∧ ordR xs ys k = ordR xs ys xs.length) (fun k => k) (fun k => [(5, .int .i64 ((k : Int) - 1))]) (fun k => []) ?_ ?_ ?_
  ·exact V.wk
  ·exact ⟨jhU _, rfl⟩
  intro k hk
  have bx := jam (by omega) hdx (k - 1)
  have by' := jam (by omega) hdy (k - 1)
  (conv => whnf)
  refine V.st ?_
  refine Cnd.split (CondB.mk (fun hz => ?_) (fun hz => ?_))
  ·rw [decide_eq_true_eq] at hz
   obtain ⟨j, rfl⟩ : ∃ j, k = j + 1 := ⟨k - 1, by omega⟩
   have e2 : (((j + 1 : Nat) : Int) - 1) = (j : Int) := by omega
   have hr := hk.2
   rw [ordR] at hr
   rw [Nat.add_sub_cancel] at bx by'
   refine V.r0 (V.a2 e2 @jhT) ?_
   refine ⟨(.take 0 (.take 1 (.take 2 (.take 3 (.take 4 (.take 5 (.take 6 (.take 7 (.take 8 (.done)))))))))), [], ⟨by kernel_rfl, by kernel_rfl, by kernel_rfl, by kernel_rfl⟩, .go (jae ?_)⟩
   have hc2 := cmpu_c (xs.getD j 0) (ys.getD j 0)
   refine V.r0 (V.a2 e2 @jhT) ?_
   refine Cnd.split (CondB.mk (fun hn => ?_) (fun hn => ?_))
   ·rw [decide_eq_true_eq] at hn
    refine V.r0 (V.a2 e2 @jhT) ?_
    refine ⟨(.take 0 (.take 1 (.take 2 (.take 3 (.take 4 (.take 5 (.take 6 (.take 7 (.ev (.cons 8 [] (.take 9 (.done)) (.nil))))))))))), [], ⟨by kernel_rfl, by kernel_rfl, by kernel_rfl, by kernel_rfl⟩, .go (jae ?_)⟩
    refine V.r1 (V.a2 e2 @jhT) hc2 ?_
    exact Fin.of (by rw [← hr, if_neg hn])
   ·rw [decide_eq_false_iff_not] at hn
    rw [if_pos (by omega)] at hr
    refine V.r0 e2 ?_
    exact ⟨j, ⟨by omega, hr⟩, by omega, V.wk⟩
  ·rw [decide_eq_false_iff_not] at hz
   obtain rfl : k = 0 := by omega
   (conv => whnf)
   refine V.st ?_
   exact Fin.of (by rw [← hk.2]; rfl)
theorem jcm (a b : Nat) (ha : (mg 1000000000 a).length ≤ 100000000) (hb : (mg 1000000000 b).length ≤ 100000000) : Called Tryz.prog 151 [.ints .u32 (mg 1000000000 a), .ints .u32 (mg 1000000000 b)] (.ints .u32 (mg 1000000000 (a * b))) := by
 have hdx := mg_dg (B := 1000000000) (by omega) a
 have hdy := mg_dg (B := 1000000000) (by omega) b
 have hvx := jaC (B := 1000000000) (by omega) a
 have hvy := jaC (B := 1000000000) (by omega) b
 generalize mg 1000000000 a = xs at *
 generalize mg 1000000000 b = ys at *
 have hmn : ((xs.length : Int) + (ys.length : Int)).toNat = xs.length + ys.length := by omega
 refine jaa tbOk 6 ⟨Tryz.func151, rfl, rfl, jhO rfl⟩ ?_
 (conv => whnf)
 refine V.r0 hmn ?_
 refine jah ((0, List.replicate (xs.length + ys.length) 0) : Nat × List Int) (fun s => s.1 ≤ xs.length ∧ s.2.length = xs.length + ys.length ∧ Dg 1000000000 s.2 ∧ (∀ k, s.1 + ys.length ≤ k → s.2.getD k 0 = 0) ∧ val 1000000000 s.2 = val 1000000000 (xs.take s.1) * val 1000000000 ys) (fun s => xs.length - s.1)
  (fun s => [(19, .int .i64 s.1), (5, .osl 16 0 (xs.length + ys.length))]) (fun s => [(16, .arr .u32 s.2)]) ?_ ?_ ?_
 ·exact V.wk
 ·exact ⟨jhP _, by simp, jbP (by omega) _, fun k _ => by simp [List.getD_eq_getElem?_getD, List.getElem?_replicate]; split <;> simp, by simp [val, jd6]⟩
 rintro ⟨i, out⟩ ⟨h1, h2, h3, h4, h5⟩
 dsimp only at h1 h2 h3 h4 h5 ⊢
 have vx := jaj 1000000000 xs i
 have bx := jam (by omega) hdx i
 generalize hx0 : xs.getD i 0 = x at *
 (conv => whnf)
 refine V.st ?_
 refine Cnd.split (CondB.mk (fun hq => ?_) (fun hq => ?_))
 ·rw [decide_eq_true_eq] at hq
  refine V.r0 (V.a2 @jhT hx0) ?_
  refine jah ((0, out, 0) : Nat × List Int × Int) (fun s => s.1 ≤ ys.length ∧ s.2.1.length = xs.length + ys.length ∧ Dg 1000000000 s.2.1 ∧ (∀ k, i + ys.length ≤ k → s.2.1.getD k 0 = 0) ∧ (0 ≤ s.2.2 ∧ s.2.2 < 1000000000) ∧ val 1000000000 s.2.1 + ((1000000000 : Nat) : Int) ^ (i + s.1) * s.2.2 = val 1000000000 (xs.take i) * val 1000000000 ys + ((1000000000 : Nat) : Int) ^ i * x * val 1000000000 (ys.take s.1)) (fun s => ys.length - s.1)
   (fun s => [(26, .int .i64 s.1), (8, .int .u64 s.2.2), (5, .osl 16 0 (xs.length + ys.length))]) (fun s => [(16, .arr .u32 s.2.1)]) ?_ ?_ ?_
  ·exact V.wk
  ·exact ⟨jhP _, h2, h3, h4, by simp, by simp [val, h5]⟩
  rintro ⟨j, o, c⟩ ⟨g1, g2, g3, g4, g5, g6⟩
  dsimp only at g1 g2 g3 g4 g5 g6 ⊢
  have vy := jaj 1000000000 ys j
  have by' := jam (by omega) hdy j
  have bo := jam (by omega) g3 (i + j)
  generalize hy0 : ys.getD j 0 = y at *
  generalize ho0 : o.getD (i + j) 0 = q at *
  have eij : ((i : Int) + (j : Int)).toNat = i + j := by omega
  have hxy : 0 ≤ x * y ∧ x * y ≤ 999999999 * 999999999 := ⟨jhR (by omega) (by omega), Int.mul_le_mul (by omega) (by omega) (by omega) (by omega)⟩
  have hkj : ((j : Int) + 1) = ((j + 1 : Nat) : Int) := by omega
  have hki : ((i : Int) + 1) = ((i + 1 : Nat) : Int) := by omega
  have ein : ((i : Int) + (ys.length : Int)).toNat = i + ys.length := by omega
  (conv => whnf)
  refine V.st ?_
  refine Cnd.split (CondB.mk (fun hw => ?_) (fun hw => ?_))
  ·rw [decide_eq_true_eq] at hw
   have hm : 0 ≤ (c + (q + x * y)) % 1000000000 ∧ (c + (q + x * y)) % 1000000000 < 1000000000 := ⟨Int.emod_nonneg _ (by omega), jib _ (by omega)⟩
   have hc9 : 0 ≤ (c + (q + x * y)) / 1000000000 ∧ (c + (q + x * y)) / 1000000000 < 1000000000 := by omega
   have hst := jgh (B := 1000000000) (x := x) (y := y) (q := q) (c := c) (d := (c + (q + x * y)) % 1000000000) (c' := (c + (q + x * y)) / 1000000000) (by omega) ho0 g6 (by have := jhQ (c + (q + x * y)) 1000000000; omega)
   rw [← vy] at hst
   refine V.r0 (V.a7 eij @jhS @jhT hx0 hy0 ho0 hkj) ?_
   exact ⟨(j + 1, o.set (i + j) ((c + (q + x * y)) % 1000000000), (c + (q + x * y)) / 1000000000), ⟨by dsimp only; omega, by dsimp only; rw [List.length_set]; exact g2, jdk g3 hm, fun k hk => by dsimp only; rw [jch (by omega)]; exact g4 k hk, ⟨hc9.1, hc9.2⟩, hst⟩, by dsimp only; omega, V.wk⟩
  ·rw [decide_eq_false_iff_not] at hw
   have hj : j = ys.length := by omega
   subst hj
   rw [List.take_length] at g6
   have hst := prod_end (B := 1000000000) (by omega) (g4 _ (jhU _)) g6 hx0
   refine V.r0 (V.a3 ein @jhS hki) ?_
   exact ⟨(i + 1, o.set (i + ys.length) c), ⟨by dsimp only; omega, by dsimp only; rw [List.length_set]; exact g2, jdk g3 ⟨g5.1, g5.2⟩, fun k hk => by dsimp only at hk ⊢; rw [jch (by omega)]; exact g4 k (by omega), hst⟩, by dsimp only; omega, V.wk⟩
 ·rw [decide_eq_false_iff_not] at hq
  rw [List.take_of_length_le (by omega), hvx, hvy, ← jh3] at h5
  have hc := je2 out h3 (by omega)
  rw [h5, jhT, ← List.take_length (l := out), h2] at hc
  (conv => whnf)
  refine V.st ?_
  repeat ((try ((with_reducible refine .ext ?_); (conv => whnf))); (with_reducible refine jab (r := ?_) ?_ ?_); rotate_left; (focus (first | exact (hc))); (conv => whnf); refine V.st ?_)
  exact Fin.of rfl
theorem short_c (a d : Nat) (ha : (mg 1000000000 a).length ≤ 100000000) (hd0 : 0 < d) (hd1 : d ≤ 1000000000) : Called Tryz.prog 196 [.ints .u32 (mg 1000000000 a), .int .u32 d] (.tup [.ints .u32 (mg 1000000000 (a / d)), .int .u32 (a % d : Nat)]) := by
 have hdx := mg_dg (B := 1000000000) (by omega) a
 have hvx := jaC (B := 1000000000) (by omega) a
 generalize mg 1000000000 a = xs at *
 have hmn : ((xs.length : Int)).toNat = xs.length := by omega
 refine jaa tbOk 6 ⟨Tryz.func196, rfl, rfl, jhO rfl⟩ ?_
 (conv => whnf)
 refine V.r0 hmn ?_
 refine jah ((xs.length, List.replicate xs.length 0, 0) : Nat × List Int × Int) (fun s => s.1 ≤ xs.length ∧ s.2.1.length = xs.length ∧ Dg 1000000000 s.2.1 ∧ (0 ≤ s.2.2 ∧ s.2.2 < d) ∧ val 1000000000 (xs.drop s.1) = val 1000000000 (s.2.1.drop s.1) * d + s.2.2) (fun s => s.1)
  (fun s => [(8, .int .i64 ((s.1 : Int) - 1)), (7, .int .u64 s.2.2), (6, .osl 11 0 xs.length)]) (fun s => [(11, .arr .u32 s.2.1)]) ?_ ?_ ?_
 ·exact V.wk
 ·exact ⟨jhU _, by simp, jbP (by omega) _, ⟨by simp, by dsimp only; omega⟩, by simp [val]⟩
 rintro ⟨k, out, r⟩ ⟨h1, h2, h3, h4, h5⟩
 dsimp only at h1 h2 h3 h4 h5 ⊢
 (conv => whnf)
 refine V.st ?_
 refine Cnd.split (CondB.mk (fun hq => ?_) (fun hq => ?_))
 ·rw [decide_eq_true_eq] at hq
  obtain ⟨j, rfl⟩ : ∃ j, k = j + 1 := ⟨k - 1, by omega⟩
  have hj : j < xs.length := by omega
  have bx := jam (by omega) hdx j
  generalize hx0 : xs.getD j 0 = x at *
  have e2 : (((j + 1 : Nat) : Int) - 1) = (j : Int) := by omega
  have hb : 0 ≤ (r * 1000000000 + x) / (d : Int) ∧ (r * 1000000000 + x) / (d : Int) < 1000000000 ∧ 0 ≤ (r * 1000000000 + x) % (d : Int) ∧ (r * 1000000000 + x) % (d : Int) < d := jel (B := 1000000000) (by omega : (0 : Int) < d) h4 bx
  have hst := jek (B := 1000000000) hj (by omega) hx0 h5 (t := r * 1000000000 + x) rfl
  have hr0 : 0 ≤ r * 1000000000 + x := by omega
  refine V.r0 (V.a4 e2 @jhS @jhT hx0) ?_
  exact ⟨(j, out.set j ((r * 1000000000 + x) / d), (r * 1000000000 + x) % d), ⟨by dsimp only; omega, by dsimp only; rw [List.length_set]; exact h2, jdk h3 ⟨hb.1, hb.2.1⟩, ⟨hb.2.2.1, hb.2.2.2⟩, hst⟩, by dsimp only; omega, V.wk⟩
 ·rw [decide_eq_false_iff_not] at hq
  obtain rfl : k = 0 := by omega
  rw [List.drop_zero, List.drop_zero, hvx] at h5
  have hvq := jan h3
  obtain ⟨w, hw⟩ : ∃ w : Nat, val 1000000000 out = w := ⟨(val 1000000000 out).toNat, by omega⟩
  obtain ⟨r', rfl⟩ : ∃ r' : Nat, r = r' := ⟨r.toNat, by omega⟩
  rw [hw, ← jh3] at h5
  have h6 : a = w * d + r' := by omega
  have e8 : a / d = w := by rw [h6, Nat.add_comm, Nat.add_mul_div_right _ _ hd0, Nat.div_eq_of_lt (by omega), jhS]
  have e9 : a % d = r' := by rw [h6, Nat.add_comm, Nat.add_mul_mod_self_right, jhX (by omega)]
  have hc := je2 out h3 (by omega)
  rw [hw, jhT, ← List.take_length (l := out), h2] at hc
  (conv => whnf)
  refine V.st ?_
  repeat ((try ((with_reducible refine .ext ?_); (conv => whnf))); (with_reducible refine jab (r := ?_) ?_ ?_); rotate_left; (focus (first | exact (hc))); (conv => whnf); refine V.st ?_)
  exact Fin.of (by rw [e8, e9])
theorem length_c (n : Nat) (hn : (mg 1000000000 n).length ≤ 100000000) : Called Tryz.prog 167 [.ints .u32 (mg 1000000000 n)] (.int .i64 (dec n).length) := by
 have hz := jcW n
 have hdx := mg_dg (B := 1000000000) (by omega) n
 have hvx := jaC (B := 1000000000) (by omega) n
 have hlx := jdw (B := 1000000000) (n := n) (by omega)
 have hnil := jb2 (B := 1000000000) (n := n) (by omega)
 generalize mg 1000000000 n = xs at *
 refine jaa tbOk 6 ⟨Tryz.func167, rfl, rfl, jhO rfl⟩ ?_
 (conv => whnf)
 refine V.st ?_
 repeat ((try ((with_reducible refine .ext ?_); (conv => whnf))); (with_reducible refine jab (r := ?_) ?_ ?_); rotate_left; (focus (first | exact (hz))); (conv => whnf); refine V.st ?_)
 refine Cnd.split (CondB.mk (fun hq => ?_) (fun hq => ?_))
 ·rw [decide_eq_true_eq] at hq
  subst hq
  (conv => whnf)
  refine V.st ?_
  exact Fin.of rfl
 ·rw [decide_eq_false_iff_not] at hq
  obtain ⟨j, hj⟩ : ∃ j, xs.length = j + 1 := ⟨xs.length - 1, by
   have : xs ≠ [] := fun e => hq (hnil.1 e)
   have := List.length_pos_iff.2 this
   omega⟩
  have bx := jam (by omega) hdx j
  have hd := jbI (B := 1000000000) (l := xs) (k := j) (by omega)
  have hnil2 : xs.drop (j + 1) = [] := List.drop_eq_nil_of_le (by omega)
  rw [hnil2] at hd
  have hsp := jbF 1000000000 xs j (by omega)
  have hlo := jbX (jbg hdx j)
  have hlo0 := jan (jbg hdx j)
  rw [List.length_take, Nat.min_eq_left (by omega)] at hlo
  have hx1 : xs.getD j 0 ≠ 0 := by
   refine hlx _ ?_
   rw [List.getLast?_eq_getElem?, hj, List.getD_eq_getElem?_getD, show j + 1 - 1 = j by omega, List.getElem?_eq_getElem (by omega)]; rfl
  generalize hx0 : xs.getD j 0 = x at *
  obtain ⟨d, rfl⟩ : ∃ d : Nat, x = d := ⟨x.toNat, by omega⟩
  rw [hd, hvx] at hsp
  obtain ⟨w, hw⟩ : ∃ w : Nat, val 1000000000 (xs.take j) = w := ⟨(val 1000000000 (xs.take j)).toNat, by omega⟩
  have hnw : n = d * 10 ^ (9 * j) + w := by
   have e : ((10 ^ (9 * j) : Nat) : Int) = ((1000000000 : Nat) : Int) ^ j := by rw [Nat.pow_mul, jid]
   simp only [val, Int.mul_zero, jic] at hsp
   rw [hw, ← e, ← jh3, jhW] at hsp
   omega
  have hwl : w < 10 ^ (9 * j) := by
   rw [Nat.pow_mul]
   rw [hw, ← jid] at hlo
   exact_mod_cast hlo
  have hdp := jhm (a := d) (by omega) (9 * j) w hwl
  rw [← hnw] at hdp
  have hlen : (dec n).length = (dec d).length + 9 * j := by rw [hdp, List.length_append, jdu]
  have hi := itoa_c (d : Int)
  have hdz : decZ (d : Int) = dec d := by unfold decZ; rw [if_neg (by omega), jh8]
  rw [hdz] at hi
  have e1 : ((xs.length : Int) - 1) = (j : Int) := by omega
  have hdl := jeM d 9 (by omega) (by omega)
  refine V.r1 (V.a3 e1 @jhT hx0) hi ?_
  exact Fin.of (by rw [hlen]; congr 1; omega)
end Go.Proofs.YtgjgpdceghjajaaGreatDoor
end
section
namespace Go.Nb
structure Kn (B top v2 vr u2 ur head U V P : Int) : Prop where
 hB : 2 ≤ B
 hP : 1 ≤ P
 ht : 1 ≤ top
 hv : V = (top * B + v2) * P + vr
 hu : U = (head * B + u2) * P + ur
 v20 : 0 ≤ v2
 v2B : v2 < B
 u20 : 0 ≤ u2
 u2B : u2 < B
 vr0 : 0 ≤ vr
 vrP : vr < P
 ur0 : 0 ≤ ur
 urP : ur < P
 hh : 0 ≤ head
 htB : top < B
 lt : U < B * V
section
variable {B top v2 vr u2 ur head U V P : Int}
theorem Kn.vpos (K : Kn B top v2 vr u2 ur head U V P) : 0 < V := by
 have h1 : 0 ≤ top * B := jhR (by have := K.ht; omega) (by have := K.hB; omega)
 have h2 : 1 * 2 ≤ top * B := Int.mul_le_mul K.ht K.hB (by omega) (by have := K.ht; omega)
 have h3 : 1 * 1 ≤ (top * B + v2) * P := Int.mul_le_mul (by have := K.v20; omega) K.hP (by omega) (by have := K.v20; omega)
 have := K.hv
 have := K.vr0
 omega
theorem Kn.ulo (K : Kn B top v2 vr u2 ur head U V P) : head * B * P ≤ U ∧ U < (head + 1) * B * P := by
 have e : (head * B + u2) * P = head * B * P + u2 * P := jie _ _ _
 have e2 : (head + 1) * B * P = head * B * P + B * P := by rw [jie, jif, jie]
 have h1 : 0 ≤ u2 * P := jhR K.u20 (by have := K.hP; omega)
 have h2 : (u2 + 1) * P ≤ B * P := jhY (by have := K.u2B; omega) (by have := K.hP; omega)
 rw [jie, jif] at h2
 have := K.hu
 have := K.ur0
 have := K.urP
 omega
theorem Kn.vlo (K : Kn B top v2 vr u2 ur head U V P) : top * B * P ≤ V ∧ V < (top + 1) * B * P := by
 have e : (top * B + v2) * P = top * B * P + v2 * P := jie _ _ _
 have e2 : (top + 1) * B * P = top * B * P + B * P := by rw [jie, jif, jie]
 have h1 : 0 ≤ v2 * P := jhR K.v20 (by have := K.hP; omega)
 have h2 : (v2 + 1) * P ≤ B * P := jhY (by have := K.v2B; omega) (by have := K.hP; omega)
 rw [jie, jif] at h2
 have := K.hv
 have := K.vr0
 have := K.vrP
 omega
theorem Kn.bp (K : Kn B top v2 vr u2 ur head U V P) : 0 < B * P := Int.mul_pos (by have := K.hB; omega) (by have := K.hP; omega)
theorem Kn.qlt (K : Kn B top v2 vr u2 ur head U V P) {Q : Int} (h : Q * V ≤ U) : Q < B :=
 Int.lt_of_mul_lt_mul_right (Int.lt_of_le_of_lt h K.lt) (Int.le_of_lt K.vpos)
theorem Kn.init (K : Kn B top v2 vr u2 ur head U V P) {Q : Int} (hQ : 0 ≤ Q) (h : Q * V ≤ U) : Q ≤ head / top := by
 have ht := K.ht
 refine (Int.le_ediv_iff_mul_le (by omega)).2 ?_
 rcases Int.lt_or_le head (Q * top) with hc | hc
 ·exfalso
  have h1 : (head + 1) * (B * P) ≤ Q * top * (B * P) := jhY (by omega) (Int.le_of_lt K.bp)
  have h2 : Q * (top * B * P) ≤ Q * V := jh7 K.vlo.1 hQ
  have h3 := K.ulo.2
  have e1 : (head + 1) * (B * P) = (head + 1) * B * P := (jh6 _ _ _).symm
  have e2 : Q * top * (B * P) = Q * (top * B * P) := by simp only [jh6]
  omega
 ·exact hc
theorem Kn.step (K : Kn B top v2 vr u2 ur head U V P) {Q q r : Int} (hQ : 0 ≤ Q) (h : Q * V ≤ U) (hq : Q ≤ q) (hr : head = q * top + r) (hc : B ≤ q ∨ r * B + u2 < q * v2) : Q ≤ q - 1 := by
 rcases hc with hc | hc
 ·have := K.qlt h
  omega
 ·have hq0 : 0 ≤ q := by omega
  have h1 : head * B + u2 + 1 ≤ q * (top * B + v2) := by
   rw [hr, jie, jh4, jh6]
   omega
  have h2 : (head * B + u2 + 1) * P ≤ q * (top * B + v2) * P := jhY h1 (by have := K.hP; omega)
  rw [jie, jif] at h2
  have h3 : q * ((top * B + v2) * P) ≤ q * V := jh7 (by have := K.hv; have := K.vr0; omega) hq0
  rw [← jh6] at h3
  have h4 : Q * V < q * V := by
   have := K.hu
   have := K.urP
   omega
  have := Int.lt_of_mul_lt_mul_right h4 (Int.le_of_lt K.vpos)
  omega
theorem Kn.out1 (K : Kn B top v2 vr u2 ur head U V P) {q r : Int} (hq0 : 0 ≤ q) (hr : head = q * top + r) (h1 : q < B) (h2 : q * v2 ≤ r * B + u2) : (q - 1) * V ≤ U := by
 have h3 : q * (top * B + v2) ≤ head * B + u2 := by
  rw [hr, jie, jh4, jh6]
  omega
 have h4 : q * (top * B + v2) * P ≤ (head * B + u2) * P := jhY h3 (by have := K.hP; omega)
 have e1 : q * V = q * (top * B + v2) * P + q * vr := by rw [K.hv, jh4, jh6]
 have h5 : q * vr ≤ B * P := by
  have h6 : q * vr ≤ B * vr := jhY (by omega) K.vr0
  have h7 : B * vr ≤ B * P := jh7 (by have := K.vrP; omega) (by have := K.hB; omega)
  omega
 have h8 : 1 * (B * P) ≤ top * (B * P) := jhY K.ht (Int.le_of_lt K.bp)
 have e2 : top * (B * P) = top * B * P := (jh6 _ _ _).symm
 have h9 := K.vlo.1
 have := K.hu
 have := K.ur0
 rw [Int.sub_mul, jif]
 omega
theorem Kn.out2 (K : Kn B top v2 vr u2 ur head U V P) {q r : Int} (hq0 : 0 ≤ q) (hr : head = q * top + r) (h1 : B ≤ r) : q < B ∧ (q - 1) * V ≤ U := by
 have hlo := K.ulo
 have vlo := K.vlo
 have hbp := K.bp
 -- the head is at most top * B + B - 1
 have h2 : head < (top + 1) * B := by
  rcases Int.lt_or_le head ((top + 1) * B) with h | h
  ·exact h
  ·exfalso
   have h3 : (top + 1) * B * (B * P) ≤ head * (B * P) := jhY h (Int.le_of_lt hbp)
   have h4 : B * V < B * ((top + 1) * B * P) := Int.mul_lt_mul_of_pos_left vlo.2 (by have := K.hB; omega)
   have e1 : (top + 1) * B * (B * P) = B * ((top + 1) * B * P) := by ac_rfl
   have e2 : head * (B * P) = head * B * P := (jh6 _ _ _).symm
   have := K.lt
   omega
 rw [jie, jif] at h2
 have hqB : q < B := by
  rcases Int.lt_or_le q B with h | h
  ·exact h
  ·exfalso
   have h3 : B * top ≤ q * top := jhY h (by have := K.ht; omega)
   rw [jh5 B top] at h3
   omega
 refine ⟨hqB, ?_⟩
 have h5 : q * top ≤ head - B := by omega
 have h6 : q * top * (B * P) ≤ (head - B) * (B * P) := jhY h5 (Int.le_of_lt hbp)
 have h7 : q * V ≤ q * ((top + 1) * B * P) := jh7 (Int.le_of_lt vlo.2) hq0
 have h8 : q * (B * P) ≤ B * (B * P) := jhY (Int.le_of_lt hqB) (Int.le_of_lt hbp)
 have e1 : q * ((top + 1) * B * P) = q * top * (B * P) + q * (B * P) := by
  rw [jie, jif, jie, jh4]
  simp only [jh6]
 rw [Int.sub_mul] at h6
 have e2 : head * (B * P) = head * B * P := (jh6 _ _ _).symm
 have := K.vpos
 rw [Int.sub_mul, jif]
 omega
end
end Go.Nb
end
section
namespace Go.Proofs.YtgjgpdceghjajaaGreatDoor
open Go Go.V Go.Nb
theorem red_a {P W V q c b mid wlo un : Int} (hP : 0 < P) (hV0 : 0 < V) (hVP : V ≤ P) (hW : W = wlo + un * P) (hmid : mid - (c + b) * P = wlo - q * V) (hm0 : 0 ≤ mid) (hq : W / V ≤ q) (h : c + b ≤ un) : q = W / V ∧ mid = W % V := by
 have h1 := jhQ W V
 have h2 := jib W hV0
 have h3 : W - q * V = mid + (un - (c + b)) * P := by rw [Int.sub_mul]; omega
 have h4 : 0 ≤ (q - W / V) * V := jhR (by omega) (by omega)
 rw [Int.sub_mul, jh5 (W / V)] at h4
 have h5 : un - (c + b) = 0 := by
  rcases Int.lt_or_le 0 (un - (c + b)) with h6 | h6
  ·have h7 : 1 * P ≤ (un - (c + b)) * P := jhY (by omega) (by omega)
   omega
  ·omega
 rw [h5, Int.zero_mul, jic] at h3
 have h8 : q ≤ W / V := (Int.le_ediv_iff_mul_le hV0).2 (by omega)
 have h9 : q = W / V := by omega
 refine ⟨h9, ?_⟩
 rw [h9, jh5] at h3
 omega
theorem red_b {P W V q c b mid mid2 over wlo un : Int} (hP : 0 < P) (hV0 : 0 < V) (hVP : V ≤ P) (hW : W = wlo + un * P) (hmid : mid - (c + b) * P = wlo - q * V) (hm1 : mid < P) (hq1 : (q - 1) * V ≤ W) (h : un < c + b)
  (h2 : mid2 + over * P = mid + V) (h20 : 0 ≤ mid2) (h21 : mid2 < P) : q - 1 = W / V ∧ mid2 = W % V := by
 have h1 := jhQ W V
 have h3 := jib W hV0
 have h30 := Int.emod_nonneg W (by omega : V ≠ 0)
 have h4 : W - q * V = mid + (un - (c + b)) * P := by rw [Int.sub_mul]; omega
 have h5 : 1 * P ≤ (c + b - un) * P := jhY (by omega) (by omega)
 have h6 : (un - (c + b)) * P = -((c + b - un) * P) := by rw [← Int.neg_mul]; congr 1; omega
 have h7 : q - 1 ≤ W / V := (Int.le_ediv_iff_mul_le hV0).2 hq1
 have h8 : W / V < q := (Int.ediv_lt_iff_lt_mul hV0).2 (by omega)
 have h9 : q - 1 = W / V := by omega
 refine ⟨h9, ?_⟩
 have e1 : W % V = mid2 + (over + un - (c + b)) * P := by
  have e2 : W % V = W - (q - 1) * V := by rw [h9, jh5]; omega
  rw [e2, Int.sub_mul, jif]
  have e3 : (over + un - (c + b)) * P = over * P + (un - (c + b)) * P := by rw [← jie]; congr 1; omega
  rw [e3]; omega
 have e4 : over + un - (c + b) = 0 := by
  rcases Int.lt_trichotomy (over + un - (c + b)) 0 with g | g | g
  ·have : (over + un - (c + b)) * P ≤ (-1) * P := jhY (by omega) (by omega)
   omega
  ·exact g
  ·have : 1 * P ≤ (over + un - (c + b)) * P := jhY (by omega) (by omega)
   omega
 rw [e4, Int.zero_mul, jic] at e1
 exact e1.symm
theorem red_step {B : Nat} {mid ul vl : List Int} {c b u d r c' b' q : Int} {i : Nat} (hi : mid.length = i) (h : val B mid - (c + b) * (B : Int) ^ i = val B ul - q * val B vl) (hs : r - B * (c' + b') = u - q * d - (c + b)) :
  val B (mid ++ [r]) - (c' + b') * (B : Int) ^ (i + 1) = (val B ul + (B : Int) ^ i * u) - q * (val B vl + (B : Int) ^ i * d) := by
 rw [jaO, hi, Int.pow_succ, jh4]
 generalize (B : Int) ^ i = P at *
 have e1 : P * (r - B * (c' + b')) = P * r - (c' + b') * (P * B) := by rw [Int.mul_sub]; congr 1; ac_rfl
 have e2 : P * (u - q * d - (c + b)) = P * u - q * (P * d) - (c + b) * P := by rw [Int.mul_sub, Int.mul_sub]; congr 1; congr 1; ac_rfl; ac_rfl
 rw [hs, e2] at e1
 omega
theorem jfT {u A mid : List Int} {k : Nat} {r : Int} (hk : A.length + mid.length = k) (h : k < u.length) : (A ++ mid ++ u.drop k).set k r = A ++ (mid ++ [r]) ++ u.drop (k + 1) := by
 have e : (A ++ mid).length = k := by rw [List.length_append]; exact hk
 rw [List.set_append_right _ _ (by omega), e, Nat.sub_self, List.drop_eq_getElem_cons h, List.set_cons_zero]
 simp
theorem mid_get {u A mid : List Int} {k : Nat} (hk : A.length + mid.length = k) : (A ++ mid ++ u.drop k).getD k 0 = u.getD k 0 := by
 have e : (A ++ mid).length = k := by rw [List.length_append]; exact hk
 rw [List.getD_eq_getElem?_getD, List.getElem?_append_right (by omega), e, Nat.sub_self, List.getElem?_drop, List.getD_eq_getElem?_getD]
 rfl
theorem mid_drop {u A mid : List Int} {k : Nat} (hk : A.length + mid.length = k) : (A ++ mid ++ u.drop k).drop k = u.drop k := by
 have e : (A ++ mid).length = k := by rw [List.length_append]; exact hk
 rw [List.drop_append, e, Nat.sub_self, List.drop_of_length_le (by omega)]
 simp
theorem getD_drop {u : List Int} {j i : Nat} : (u.drop j).getD i 0 = u.getD (j + i) 0 := by
 rw [List.getD_eq_getElem?_getD, List.getElem?_drop, List.getD_eq_getElem?_getD]
theorem kn_of {B p j : Nat} {u v : List Int} {W V : Int} (hB : 2 ≤ B) (hu : Dg B u) (hv : Dg B v) (hlv : v.length = p + 2) (hV : val B v = V) (hW : val B (u.drop j) = W) (hz : val B (u.drop (j + (p + 2) + 1)) = 0) (htop : 1 ≤ v.getD (p + 1) 0) (hlt : W < B * V) :
  Kn B (v.getD (p + 1) 0) (v.getD p 0) (val B (v.take p)) (u.getD (j + p) 0) (val B ((u.drop j).take p)) (u.getD (j + (p + 2)) 0 * B + u.getD (j + (p + 1)) 0) W V ((B : Int) ^ p) := by
 have e1 : V = (v.getD (p + 1) 0 * B + v.getD p 0) * (B : Int) ^ p + val B (v.take p) := by
  rw [← hV]
  conv => lhs; rw [← List.take_length (l := v), hlv, jaj, jaj]
  rw [Int.pow_succ]
  generalize (B : Int) ^ p = P
  rw [jie]
  have e : v.getD (p + 1) 0 * B * P = P * B * v.getD (p + 1) 0 := by ac_rfl
  have e' : v.getD p 0 * P = P * v.getD p 0 := jh5 _ _
  omega
 have e2 : W = ((u.getD (j + (p + 2)) 0 * B + u.getD (j + (p + 1)) 0) * B + u.getD (j + p) 0) * (B : Int) ^ p + val B ((u.drop j).take p) := by
  have h1 : val B (u.drop j) = val B ((u.drop j).take p) + (B : Int) ^ p * val B (u.drop (j + p)) := by
   rcases Nat.le_total p (u.drop j).length with h | h
   ·rw [jbF B (u.drop j) p h, List.drop_drop]
   ·have hz2 : u.drop (j + p) = [] := List.drop_eq_nil_of_le (by rw [List.length_drop] at h; omega)
    rw [List.take_of_length_le h, hz2]; simp [val]
  rw [← hW, h1, jaZ B u (j + p), jaZ B u (j + p + 1), jaZ B u (j + p + 1 + 1)]
  rw [show j + p + 1 + 1 + 1 = j + (p + 2) + 1 by omega, hz, show j + p + 1 + 1 = j + (p + 2) by omega, show j + p + 1 = j + (p + 1) by omega]
  rw [Int.mul_zero, jic]
  generalize (B : Int) ^ p = P
  rw [Int.add_comm, jh5 P]
  congr 2
  rw [jh5 (B : Int), jh5 (B : Int), Int.add_comm, Int.add_comm (u.getD (j + (p + 1)) 0)]
 have b1 := jam (by omega) hv (p + 1)
 have b2 := jam (by omega) hv p
 have b3 := jam (by omega) hu (j + p)
 have b4 := jam (by omega) hu (j + (p + 1))
 have b5 := jam (by omega) hu (j + (p + 2))
 have l1 := jb8 hB hv p
 have l2 := jb8 hB (jbm hu j) p
 have l3 := jan (jbg hv p)
 have l4 := jan (jbg (jbm hu j) p)
 have l5 := jdT hB p
 have l6 : 0 ≤ u.getD (j + (p + 2)) 0 * (B : Int) := jhR b5.1 (by omega)
 exact { hB := by omega, hP := by omega, ht := htop, hv := e1, hu := e2, v20 := b2.1, v2B := b2.2, u20 := b3.1, u2B := b3.2, vr0 := l3, vrP := l1, ur0 := l4, urP := l2, hh := by omega, htB := b1.2, lt := hlt }
theorem div_inv {B p j : Nat} {u q mid : List Int} {Qd W VV M : Int} (hB : 2 ≤ B) (hj : j < q.length) (hju : j + (p + 2) < u.length) (hmid : mid.length = p + 2) (hdu : Dg B u) (hdm : Dg B mid) (h6 : val B (u.drop (j + (p + 2) + 1)) = 0)
  (hW : val B (u.drop j) = W) (hV0 : 0 < VV) (hm : val B mid = W % VV) (hQ : Qd = W / VV) (h8 : M = val B (q.drop (j + 1)) * (B : Int) ^ (j + 1) * VV + val B u) :
  (u.take j ++ (mid ++ [0]) ++ u.drop (j + (p + 2) + 1)).length = u.length ∧ Dg B (u.take j ++ (mid ++ [0]) ++ u.drop (j + (p + 2) + 1)) ∧ val B ((u.take j ++ (mid ++ [0]) ++ u.drop (j + (p + 2) + 1)).drop (j + (p + 2))) = 0 ∧
  val B ((u.take j ++ (mid ++ [0]) ++ u.drop (j + (p + 2) + 1)).drop j) < VV ∧ M = val B ((q.set j Qd).drop j) * (B : Int) ^ j * VV + val B (u.take j ++ (mid ++ [0]) ++ u.drop (j + (p + 2) + 1)) := by
 have hA : (u.take j).length = j := by rw [List.length_take]; omega
 have hl : (u.take j ++ (mid ++ [0]) ++ u.drop (j + (p + 2) + 1)).length = u.length := by
  simp only [List.length_append, List.length_take, List.length_drop, List.length_singleton, hmid]; omega
 have hd : Dg B (u.take j ++ (mid ++ [0]) ++ u.drop (j + (p + 2) + 1)) := jai (jai (jbg hdu _) (jai hdm (jas (by omega)))) (jbm hdu _)
 have hz : ∀ P : Int, val B (mid ++ [0] ++ u.drop (j + (p + 2) + 1)) = val B mid := fun _ => by
  rw [jbA, h6, Int.mul_zero, jic, jaO, Int.mul_zero, jic]
 have e1 : (u.take j ++ (mid ++ [0]) ++ u.drop (j + (p + 2) + 1)).drop j = mid ++ [0] ++ u.drop (j + (p + 2) + 1) := by
  rw [List.append_assoc, List.drop_append, hA, Nat.sub_self, List.drop_of_length_le (by omega)]; rfl
 have e2 : (u.take j ++ (mid ++ [0]) ++ u.drop (j + (p + 2) + 1)).drop (j + (p + 2)) = [0] ++ u.drop (j + (p + 2) + 1) := by
  rw [← List.drop_drop, e1, List.append_assoc, List.drop_append, hmid, Nat.sub_self, List.drop_of_length_le (by omega)]; rfl
 have hr := jib W hV0
 refine ⟨hl, hd, ?_, ?_, ?_⟩
 ·rw [e2, jbA, h6]; simp [val]
 ·rw [e1, hz 0, hm]; exact hr
 ·have v1 := jbF B u j (by omega)
  rw [hW] at v1
  have v2 : val B (u.take j ++ (mid ++ [0]) ++ u.drop (j + (p + 2) + 1)) = val B (u.take j) + (B : Int) ^ j * (W % VV) := by
   rw [List.append_assoc, jbA, hA, hz 0, hm]
  have v3 := jbI (B := B) (l := q.set j Qd) (k := j) (by rw [List.length_set]; exact hj)
  rw [jey hj, jeE (l := q) (i := j) (k := j + 1) (by omega)] at v3
  rw [h8, v2, v3, v1, hQ, Int.pow_succ]
  have v4 := jhQ W VV
  generalize W / VV = Q at *
  generalize W % VV = R at *
  generalize (B : Int) ^ j = P
  generalize val B (q.drop (j + 1)) = q1
  rw [← v4, jh4, jie, jie]
  have w1 : q1 * (P * (B : Int)) * VV = (B : Int) * q1 * P * VV := by ac_rfl
  have w2 : P * (VV * Q) = Q * P * VV := by ac_rfl
  rw [w1, w2]
  omega
theorem jhh (a b : Nat) (h : a < b) (ha : (mg 1000000000 a).length ≤ 100000000) (hb : (mg 1000000000 b).length ≤ 100000000) : Called Tryz.prog 166 [.ints .u32 (mg 1000000000 a), .ints .u32 (mg 1000000000 b)] (.tup [.ints .u32 (mg 1000000000 (a / b)), .ints .u32 (mg 1000000000 (a % b))]) := by
 have hc := jb5 a b ha hb
 rw [jig (by omega)] at hc
 rw [Nat.div_eq_of_lt h, jhX h, jce]
 refine jaa tbOk 6 ⟨Tryz.func166, rfl, rfl, jhO rfl⟩ ?_
 (conv => whnf)
 refine V.st ?_
 repeat ((try ((with_reducible refine .ext ?_); (conv => whnf))); (with_reducible refine jab (r := ?_) ?_ ?_); rotate_left; (focus (first | exact (hc))); (conv => whnf); refine V.st ?_)
 exact Fin.tup ⟨Fin.nil _, Fin.of rfl, trivial⟩
theorem divide_one (a b : Nat) (h : b ≤ a) (hb : 0 < b) (hb1 : b < 1000000000) (ha : (mg 1000000000 a).length ≤ 100000000) : Called Tryz.prog 166 [.ints .u32 (mg 1000000000 a), .ints .u32 (mg 1000000000 b)] (.tup [.ints .u32 (mg 1000000000 (a / b)), .ints .u32 (mg 1000000000 (a % b))]) := by
 have hc := jb5 a b ha (by have := jaf (B := 1000000000) (by omega) h; omega)
 have hmb : mg 1000000000 b = [(b : Int)] := by
  rw [jb1 (by omega) hb, jhX hb1, Nat.div_eq_of_lt hb1]; rfl
 have hs0 : 0 ≤ ((a : Int) - b).sign := Int.sign_nonneg_iff.2 (by omega)
 generalize ((a : Int) - b).sign = sg at *
 have hsh := short_c a b ha hb (by omega)
 have hlt : a % b < b := Nat.mod_lt _ hb
 have hfs := jcT (a % b) (by omega)
 rw [hmb] at hc ⊢
 refine jaa tbOk 6 ⟨Tryz.func166, rfl, rfl, jhO rfl⟩ ?_
 (conv => whnf)
 refine V.st ?_
 repeat ((try ((with_reducible refine .ext ?_); (conv => whnf))); (with_reducible refine jab (r := ?_) ?_ ?_); rotate_left; (focus (first | exact (hc))); (conv => whnf); refine V.st ?_)
 refine Cnd.no (by rw [decide_eq_false_iff_not]; omega) ?_
 (conv => whnf)
 refine V.st ?_
 refine Cnd.yes (by simp) ?_
 (conv => whnf)
 refine V.st ?_
 repeat ((try ((with_reducible refine .ext ?_); (conv => whnf))); (with_reducible refine jab (r := ?_) ?_ ?_); rotate_left; (focus (first | exact (hsh) | exact (hfs))); (conv => whnf); refine V.st ?_)
 exact Fin.of rfl
theorem jhw : type_of% @jhT ∧ type_of% @jhS := ⟨@jhT, @jhS⟩
theorem jhg (a b : Nat) (h : b ≤ a) (hb1 : 1000000000 ≤ b) (ha : (mg 1000000000 a).length ≤ 90000000) : Called Tryz.prog 166 [.ints .u32 (mg 1000000000 a), .ints .u32 (mg 1000000000 b)] (.tup [.ints .u32 (mg 1000000000 (a / b)), .ints .u32 (mg 1000000000 (a % b))]) := by
 have hlen := jaf (B := 1000000000) (by omega) h
 have hc := jb5 a b (by omega) (by omega)
 have hs0 : 0 ≤ ((a : Int) - b).sign := Int.sign_nonneg_iff.2 (by omega)
 generalize ((a : Int) - b).sign = sg at *
 obtain ⟨p, hp⟩ : ∃ p, (mg 1000000000 b).length = p + 2 := by
  have := jaf (B := 1000000000) (by omega) hb1
  have e : mg 1000000000 1000000000 = [0, 1] := by rfl
  rw [e] at this
  exact ⟨(mg 1000000000 b).length - 2, by simp at this; omega⟩
 -- the scale
 have hdb := mg_dg (B := 1000000000) (by omega) b
 have hvb := jaC (B := 1000000000) (by omega) b
 have hlb := jdw (B := 1000000000) (n := b) (by omega)
 have hlt1 := jaG (B := 1000000000) (n := a) (by omega)
 have ht0 := jam (by omega) hdb (p + 1)
 have ht1 : (mg 1000000000 b).getD (p + 1) 0 ≠ 0 := by
  refine hlb _ ?_
  rw [List.getLast?_eq_getElem?, hp, List.getD_eq_getElem?_getD, show p + 2 - 1 = p + 1 by omega, List.getElem?_eq_getElem (by omega)]; rfl
 generalize hts : (mg 1000000000 b).getD (p + 1) 0 = t at *
 obtain ⟨t, rfl⟩ : ∃ t' : Nat, t = t' := ⟨t.toNat, by omega⟩
 obtain ⟨s, hs⟩ : ∃ s : Nat, 1000000000 / ((t : Int) + 1) = s := ⟨(1000000000 / ((t : Int) + 1)).toNat, by have := Int.ediv_nonneg (a := 1000000000) (b := (t : Int) + 1) (by omega) (by omega); omega⟩
 have hs1 : 1 ≤ s ∧ s < 1000000000 ∧ s * (t + 1) ≤ 1000000000 := by
  have e1 : s = 1000000000 / (t + 1) := by
   have : ((1000000000 / (t + 1) : Nat) : Int) = 1000000000 / ((t : Int) + 1) := by rw [Int.natCast_ediv]; rfl
   omega
  refine ⟨?_, ?_, ?_⟩
  ·rw [e1]; exact (Nat.le_div_iff_mul_le (by omega)).2 (by omega)
  ·rw [e1]; exact Nat.div_lt_of_lt_mul (by omega)
  ·rw [e1]; exact Nat.div_mul_le_self _ _
 have hms : mg 1000000000 s = [(s : Int)] := by
  rw [jb1 (by omega) (by omega), jhX (by omega), Nat.div_eq_of_lt (by omega)]; rfl
 have htm1 := jcm b s (by omega) (by rw [hms]; simp)
 have htm2 := jcm a s (by omega) (by rw [hms]; simp)
 rw [hms] at htm1 htm2
 -- the divisor, scaled
 have hbt : b < (t + 1) * 1000000000 ^ (p + 1) ∧ t * 1000000000 ^ (p + 1) ≤ b := by
  have h1 := jdQ (B := 1000000000) (by omega) hdb (p + 1)
  rw [jaZ, hts, List.drop_eq_nil_of_le (by omega), hvb] at h1
  simp only [val, Int.mul_zero, jic] at h1
  have e : ((1000000000 : Nat) : Int) ^ (p + 1) = ((1000000000 ^ (p + 1) : Nat) : Int) := by rw [jid]
  rw [e] at h1
  have e1 : ((t : Int) + 1) = ((t + 1 : Nat) : Int) := by omega
  rw [e1, ← jh3, ← jh3] at h1
  omega
 have hPp : 0 < 1000000000 ^ (p + 1) := Nat.pow_pos (by omega)
 have hVlt : b * s < 1000000000 ^ (p + 2) := by
  have h1 : b * s < (t + 1) * 1000000000 ^ (p + 1) * s := Nat.mul_lt_mul_of_pos_right hbt.1 (by omega)
  have h2 : s * (t + 1) * 1000000000 ^ (p + 1) ≤ 1000000000 * 1000000000 ^ (p + 1) := Nat.mul_le_mul_right _ hs1.2.2
  have e1 : (t + 1) * 1000000000 ^ (p + 1) * s = s * (t + 1) * 1000000000 ^ (p + 1) := by ac_rfl
  rw [Nat.pow_succ 1000000000 (p + 1), jhW (1000000000 ^ (p + 1))]
  omega
 have hVge : s * 1000000000 ^ (p + 1) ≤ b * s := by
  have h1 : 1 * 1000000000 ^ (p + 1) ≤ t * 1000000000 ^ (p + 1) := Nat.mul_le_mul_right _ (by omega)
  rw [jhW b]
  exact Nat.mul_le_mul_left _ (by omega)
 have hVl : (mg 1000000000 (b * s)).length = p + 2 := by
  have h1 := jau (B := 1000000000) (n := b * s) (k := p + 2) (by omega) hVlt
  rcases jh0 (mg 1000000000 (b * s)).length (p + 2) with h2 | h2
  ·have h3 := jaG (B := 1000000000) (n := b * s) (by omega)
   have h4 : 1000000000 ^ (mg 1000000000 (b * s)).length ≤ 1000000000 ^ (p + 1) := jh9 (by omega) (by omega)
   have h5 : 1 * 1000000000 ^ (p + 1) ≤ s * 1000000000 ^ (p + 1) := Nat.mul_le_mul_right _ hs1.1
   omega
  ·omega
 have hdV := mg_dg (B := 1000000000) (by omega) (b * s)
 have hvV := jaC (B := 1000000000) (by omega) (b * s)
 have hlV := jdw (B := 1000000000) (n := b * s) (by omega)
 have htV : (mg 1000000000 (b * s)).getD (p + 1) 0 ≠ 0 := by
  refine hlV _ ?_
  rw [List.getLast?_eq_getElem?, hVl, List.getD_eq_getElem?_getD, show p + 2 - 1 = p + 1 by omega, List.getElem?_eq_getElem (by omega)]; rfl
 have hM : (mg 1000000000 (a * s)).length ≤ (mg 1000000000 a).length + 1 := by
  have := jbC (B := 1000000000) (by omega) a s
  rw [hms] at this
  simpa using this
 have hdM := mg_dg (B := 1000000000) (by omega) (a * s)
 have hvM := jaC (B := 1000000000) (by omega) (a * s)
 have hMlt : a * s < s * 1000000000 ^ (mg 1000000000 a).length := by
  rw [jhW]; exact Nat.mul_lt_mul_of_pos_left hlt1 (by omega)
 generalize hmb : mg 1000000000 b = bs at *
 generalize hma : mg 1000000000 a = xs at *
 generalize hmV : mg 1000000000 (b * s) = vs at *
 generalize hmM : mg 1000000000 (a * s) = ms at *
 have e1 : ((bs.length : Int) - 1).toNat = p + 1 := by omega
 obtain ⟨N, hN⟩ : ∃ N, N = xs.length + 1 := ⟨_, rfl⟩
 obtain ⟨L, hL⟩ : ∃ L, L = xs.length - vs.length := ⟨_, rfl⟩
 obtain ⟨L1, hL1⟩ : ∃ L1, L1 = L + 1 := ⟨_, rfl⟩
 have e2 : (xs.length : Int) + 1 = (N : Int) := by omega
 have e3 : (xs.length : Int) - ((p + 2 : Nat) : Int) = (L : Int) := by omega
 have e4 : (L : Int) + 1 = (L1 : Int) := by omega
 refine jaa tbOk 6 ⟨Tryz.func166, rfl, rfl, jhO rfl⟩ ?_
 (conv => whnf)
 refine V.st ?_
 repeat ((try ((with_reducible refine .ext ?_); (conv => whnf))); (with_reducible refine jab (r := ?_) ?_ ?_); rotate_left; (focus (first | exact (hc))); (conv => whnf); refine V.st ?_)
 refine Cnd.no (by rw [decide_eq_false_iff_not]; omega) ?_
 (conv => whnf)
 refine V.st ?_
 refine Cnd.no (by rw [decide_eq_false_iff_not]; omega) ?_
 refine V.r2 (V.a8 e1 e2 e3 e4 hts hs hVl @jhT) htm1 htm2 ?_
 have hu0 : setAt (List.replicate N 0) 0 (List.take N ms) = ms ++ List.replicate (N - ms.length) 0 := by
  unfold setAt
  rw [List.take_zero, List.nil_append, List.take_of_length_le (l := ms) (by omega), jhS, List.drop_replicate]
 have hu0v : val 1000000000 (ms ++ List.replicate (N - ms.length) 0) = (a * s : Nat) := by
  rw [jbA, jd6, Int.mul_zero, jic, hvM]
 simp only [hu0]
 refine jah ((L1, ms ++ List.replicate (N - ms.length) 0, List.replicate L1 0) : Nat × List Int × List Int) (fun x => x.1 ≤ L1 ∧ x.2.1.length = N ∧ Dg 1000000000 x.2.1 ∧ x.2.2.length = L1 ∧ Dg 1000000000 x.2.2 ∧ val 1000000000 (x.2.1.drop (x.1 + (p + 2))) = 0 ∧ val 1000000000 (x.2.1.drop x.1) < (b * s : Nat) ∧ ((a * s : Nat) : Int) = val 1000000000 (x.2.2.drop x.1) * ((1000000000 : Nat) : Int) ^ x.1 * (b * s : Nat) + val 1000000000 x.2.1) (fun x => x.1)
  (fun x => [(12, .int .i64 ((x.1 : Int) - 1)), (4, .osl 62 0 L1), (10, .osl 48 0 N)]) (fun x => [(62, .arr .u32 x.2.2), (48, .arr .u32 x.2.1)]) ?_ ?_ ?_
 ·rw [show ((L1 : Int) - 1) = (L : Int) by omega]
  exact V.wk
 ·refine ⟨jhU _, by simp; omega, jai hdM (jbP (by omega) _), by simp, jbP (by omega) _, ?_, ?_, ?_⟩
  ·dsimp only
   rw [List.drop_of_length_le (by simp; omega)]; rfl
  ·dsimp only
   have h1 := jdQ (B := 1000000000) (by omega) (jai hdM (jbP (by omega) (N - ms.length))) L1
   rw [hu0v] at h1
   generalize val 1000000000 ((ms ++ List.replicate (N - ms.length) 0).drop L1) = z at *
   have h2 : ((1000000000 : Nat) : Int) ^ L1 = ((1000000000 ^ L1 : Nat) : Int) := by rw [jid]
   have h3 : 0 < 1000000000 ^ L1 := Nat.pow_pos (by omega)
   have h4 : a * s < (s * 1000000000 ^ (p + 1)) * 1000000000 ^ L1 := by
    rw [Nat.mul_assoc, ← Nat.pow_add, show p + 1 + L1 = xs.length by omega]; exact hMlt
   have h5 : (s * 1000000000 ^ (p + 1)) * 1000000000 ^ L1 ≤ (b * s) * 1000000000 ^ L1 := Nat.mul_le_mul_right _ hVge
   rw [h2] at h1
   refine Int.lt_of_mul_lt_mul_right (a := ((1000000000 ^ L1 : Nat) : Int)) ?_ (by omega)
   rw [← jh3]
   omega
  ·dsimp only
   rw [List.drop_of_length_le (by simp), hu0v]; simp [val]
 rintro ⟨k, u, q⟩ ⟨h1, h2, h3, h4, h5, h6, h7, h8⟩
 dsimp only at h1 h2 h3 h4 h5 h6 h7 h8 ⊢
 (conv => whnf)
 refine V.st ?_
 refine Cnd.split (CondB.mk (fun hq => ?_) (fun hq => ?_))
 ·rw [decide_eq_true_eq] at hq
  obtain ⟨j, rfl⟩ : ∃ j, k = j + 1 := ⟨k - 1, by omega⟩
  have f1 : (((j + 1 : Nat) : Int) - 1) = (j : Int) := by omega
  have f2 : (j : Int) + ((p + 2 : Nat) : Int) = ((j + (p + 2) : Nat) : Int) := by omega
  have f4 : ((j + (p + 2) : Nat) : Int) + 1 = ((j + (p + 3) : Nat) : Int) := by omega
  have f5 : j + (p + 3) - j = p + 3 := by omega
  have f6 : ((p + 2 : Nat) : Int) - 1 = ((p + 1 : Nat) : Int) := by omega
  have f7 : ((p + 2 : Nat) : Int) - 2 = ((p : Nat) : Int) := by omega
  -- what is looked at
  obtain ⟨W, hW⟩ : ∃ W, val 1000000000 (u.drop j) = W := ⟨_, rfl⟩
  obtain ⟨VV, hVV⟩ : ∃ VV : Int, ((b * s : Nat) : Int) = VV := ⟨_, rfl⟩
  rw [hVV] at h7 h8 hvV
  have bv1 := jam (by omega) hdV (p + 1)
  have bu := jam (by omega) h3 j
  have hWlt : W < 1000000000 * VV := by
   rw [jaZ] at hW; omega
  have hkn := kn_of (B := 1000000000) (p := p) (j := j) (u := u) (v := vs) (W := W) (V := VV) (by omega) h3 hdV hVl hvV hW (by rw [show j + (p + 2) + 1 = j + 1 + (p + 2) by omega]; exact h6) (by omega) hWlt
  have hVpos := hkn.vpos
  have hW0 : 0 ≤ W := by rw [← hW]; exact jan (jbm h3 j)
  have b1 := jam (by omega) h3 (j + (p + 2))
  have b2 := jam (by omega) h3 (j + (p + 1))
  have b3 := jam (by omega) h3 (j + p)
  have b4 := jam (by omega) hdV p
  generalize hg1 : u.getD (j + (p + 2)) 0 = un at *
  generalize hg2 : u.getD (j + (p + 1)) 0 = u1 at *
  generalize hg3 : u.getD (j + p) 0 = u0 at *
  generalize hg4 : vs.getD (p + 1) 0 = vt at *
  generalize hg5 : vs.getD p 0 = v2 at *
  refine V.r0 (V.a7 jhw f1 f2 f4 f5 f6 f7) ?_
  refine .inl ?_
  (conv => whnf)
  refine ⟨0, _, _, ⟨Tryz.func197, rfl, rfl, jhO rfl⟩, ?_⟩
  (conv => whnf)
  (conv => whnf)
  (try simp only [jhw, f1, f2, f4, f5, f6, f7, hVl, hg4])
  repeat ((first | refine V.s1 ?_); (try simp only [jhw, f1, f2, f4, f5, f6, f7, hVl, hg4]))
  refine ⟨(.take 0 (.take 1 (.take 2 (.take 3 (.take 4 (.take 5 (.take 6 (.take 7 (.take 8 (.take 9 (.take 10 (.take 11 (.take 12 (.take 13 (.done))))))))))))))), [], ⟨by kernel_rfl, by kernel_rfl, by kernel_rfl, by kernel_rfl⟩, .go (jae ?_)⟩
  (conv => whnf)
  (try simp only [jhw, f1, f2, f4, f5, f6, f7, hVl, hg1, hg2])
  repeat ((first | refine V.s1 ?_); (try simp only [jhw, f1, f2, f4, f5, f6, f7, hVl, hg1, hg2]))
  refine ⟨(.take 0 (.take 1 (.take 2 (.take 3 (.take 4 (.take 5 (.take 6 (.take 7 (.done))))))))), [], ⟨by kernel_rfl, by kernel_rfl, by kernel_rfl, by kernel_rfl⟩, .go (jae ?_)⟩
  (conv => whnf)
  (try simp only [jhw, f1, f2, f4, f5, f6, f7, hVl, hg1, hg2])
  repeat ((first | refine V.s1 ?_); (try simp only [jhw, f1, f2, f4, f5, f6, f7, hVl, hg1, hg2]))
  have hkn' : Kn 1000000000 vt v2 (val 1000000000 (vs.take p)) u0 (val 1000000000 ((u.drop j).take p)) (un * 1000000000 + u1) W VV (((1000000000 : Nat) : Int) ^ p) := hkn
  have hQ0 : 0 ≤ W / VV := Int.ediv_nonneg hW0 (by omega)
  have hQm : W / VV * VV ≤ W := Int.ediv_mul_le _ (by omega)
  have hQi := hkn'.init hQ0 hQm
  have hhd : 0 ≤ un * 1000000000 + u1 ∧ un * 1000000000 + u1 < 1000000000000000000 := by omega
  generalize hHD : un * 1000000000 + u1 = HD at *
  refine jg3 (β := Int × Int) 0 (fun y => 0 ≤ y.1 ∧ y.1 < 1000000000 ∧ (y.1 - 1) * VV ≤ W ∧ W / VV ≤ y.1) (fun y => [(8, .int .u64 y.1), (9, .int .u64 y.2)]) (fun _ => []) ?_ ?_
  ·refine jah ((HD / vt, HD % vt) : Int × Int) (fun y => HD = y.1 * vt + y.2 ∧ (0 ≤ y.2 ∧ y.2 < 1000000000) ∧ W / VV ≤ y.1) (fun y => y.1.toNat) (fun y => [(8, .int .u64 y.1), (9, .int .u64 y.2)]) (fun _ => []) ?_ ?_ ?_
   ·exact V.wk
   ·have hvtp : (0 : Int) < vt := by omega
    refine ⟨by dsimp only; have := jhQ HD vt; rw [jh5]; omega, ⟨Int.emod_nonneg _ (by omega), ?_⟩, hQi⟩
    have := jib HD hvtp
    dsimp only; omega
   rintro ⟨qq, r⟩ ⟨i1, i2, i3⟩
   dsimp only at i1 i2 i3 ⊢
   have hqv : qq < 1000000000 → 0 ≤ qq * v2 ∧ qq * v2 ≤ 999999999 * 999999999 := fun h => ⟨jhR (by omega) (by omega), Int.mul_le_mul (by omega) (by omega) (by omega) (by omega)⟩
   refine V.r0 (V.a8 jhw f1 f2 f4 f5 f6 f7 hVl) ?_
   refine ⟨(.take 0 (.take 1 (.take 2 (.take 3 (.take 4 (.take 5 (.take 6 (.take 7 (.take 8 (.take 9 (.take 10 (.take 11 (.take 12 (.take 13 (.take 14 (.take 15 (.take 16 (.take 17 (.take 18 (.take 19 (.take 20 (.take 21 (.done))))))))))))))))))))))), [], ⟨by kernel_rfl, by kernel_rfl, by kernel_rfl, by kernel_rfl⟩, .go (jae ?_)⟩
   (conv => whnf)
   (try simp only [jhw, f1, f2, f4, f5, f6, f7, hVl, hg5, hg3])
   repeat ((first | refine V.s1 ?_); (try simp only [jhw, f1, f2, f4, f5, f6, f7, hVl, hg5, hg3]))
   refine Or.inl (And.intro (fun h _ _ => ?_) ?_)
   ·have h9 := hqv (by simpa using h)
    exact ⟨by simp only [V.lo]; omega, by simp only [V.hi]; omega⟩
   (conv => whnf)
   (try simp only [jhw, f1, f2, f4, f5, f6, f7, hVl, hg5, hg3])
   repeat ((first | refine V.s1 ?_); (try simp only [jhw, f1, f2, f4, f5, f6, f7, hVl, hg5, hg3]))
   refine Cnd.split (CondB.mk (fun hq5 => ?_) (fun hq5 => ?_))
   ·rw [Bool.or_eq_true, decide_eq_true_eq, decide_eq_true_eq] at hq5
    have hst := hkn'.step hQ0 hQm i3 i1 (by omega)
    have hqpos : 1 ≤ qq := by omega
    have hrec : HD = (qq - 1) * vt + (r + vt) := by rw [Int.sub_mul, jif]; omega
    refine V.r0 (V.a8 jhw f1 f2 f4 f5 f6 f7 hVl) ?_
    refine Cnd.split (CondB.mk (fun hq6 => ?_) (fun hq6 => ?_))
    ·rw [decide_eq_true_eq] at hq6
     have ho := hkn'.out2 (q := qq - 1) (r := r + vt) (by omega) hrec hq6
     refine V.r0 (V.a8 jhw f1 f2 f4 f5 f6 f7 hVl) ?_
     exact ⟨(qq - 1, r + vt), ⟨by dsimp only; omega, ho.1, ho.2, hst⟩, V.wk⟩
    ·rw [decide_eq_false_iff_not] at hq6
     refine V.r0 (V.a8 jhw f1 f2 f4 f5 f6 f7 hVl) ?_
     exact ⟨(qq - 1, r + vt), ⟨hrec, by dsimp only; omega, hst⟩, by dsimp only; omega, V.wk⟩
   ·rw [jh2, decide_eq_false_iff_not, decide_eq_false_iff_not] at hq5
    have ho := hkn'.out1 (q := qq) (r := r) (by omega) i1 (by omega) (by omega)
    refine V.r0 (V.a8 jhw f1 f2 f4 f5 f6 f7 hVl) ?_
    exact ⟨(qq, r), ⟨by dsimp only; omega, by dsimp only; omega, ho, i3⟩, V.wk⟩
  ·rintro ⟨qq, r⟩ ⟨i1, i2, i3, i4⟩
   dsimp only at i1 i2 i3 i4 ⊢
   refine V.r0 (V.a8 jhw f1 f2 f4 f5 f6 f7 hVl) ?_
   have hAl : (u.take j).length = j := by rw [List.length_take]; omega
   have hnl : u.take j ++ [] ++ u.drop (j + 0) = u := by rw [List.append_nil, Nat.add_zero, List.take_append_drop]
   refine jah ((0, [], 0, 0) : Nat × List Int × Int × Int) (fun y => y.1 ≤ p + 2 ∧ y.2.1.length = y.1 ∧ Dg 1000000000 y.2.1 ∧ (0 ≤ y.2.2.1 ∧ y.2.2.1 < 1000000000) ∧ (0 ≤ y.2.2.2 ∧ y.2.2.2 ≤ 1) ∧ val 1000000000 y.2.1 - (y.2.2.1 + y.2.2.2) * ((1000000000 : Nat) : Int) ^ y.1 = val 1000000000 ((u.drop j).take y.1) - qq * val 1000000000 (vs.take y.1)) (fun y => p + 2 - y.1)
    (fun y => [(77, .int .i64 y.1), (10, .int .u64 y.2.2.1), (11, .int .i64 y.2.2.2)]) (fun y => [(48, .arr .u32 (u.take j ++ y.2.1 ++ u.drop (j + y.1)))]) ?_ ?_ ?_
   ·rw [hnl]
    exact V.wk
   ·exact ⟨jhP _, rfl, fun x hx => by simp at hx, by simp, by simp, by simp [val]⟩
   rintro ⟨i, mid, c, bw⟩ ⟨g1, g2, g3, g4, g5, g6⟩
   dsimp only at g1 g2 g3 g4 g5 g6 ⊢
   have hvu := jaj 1000000000 (u.drop j) i
   have hvv := jaj 1000000000 vs i
   rw [getD_drop] at hvu
   have bd := jam (by omega) hdV i
   have bui := jam (by omega) h3 (j + i)
   have hcl : (u.take j ++ mid ++ u.drop (j + i)).length = N := by
    rw [List.length_append, List.length_append, hAl, g2, List.length_drop]; omega
   have hcg := mid_get (u := u) (A := u.take j) (mid := mid) (k := j + i) (by omega)
   refine V.r0 (V.a8 jhw f1 f2 f4 f5 f6 f7 hVl) ?_
   refine Cnd.split (CondB.mk (fun hw => ?_) (fun hw => ?_))
   ·rw [decide_eq_true_eq] at hw
    have hms2 := fun r => jfT (u := u) (A := u.take j) (mid := mid) (k := j + i) (r := r) (by omega) (by omega)
    generalize hd0 : vs.getD i 0 = d at *
    generalize hui : u.getD (j + i) 0 = ui at *
    have hqd : 0 ≤ qq * d ∧ qq * d ≤ 999999999 * 999999999 := ⟨jhR (by omega) (by omega), Int.mul_le_mul (by omega) (by omega) (by omega) (by omega)⟩
    have hki : ((i : Int) + 1) = ((i + 1 : Nat) : Int) := by omega
    have hai : j + i + 1 = j + (i + 1) := by omega
    generalize hqd0 : qq * d = qd at *
    (conv => whnf)
    (try simp only [jhw, f1, f2, f4, f5, f6, f7, hVl, hd0, hcg, hki, hqd0])
    repeat ((first | refine V.s1 ?_); (try simp only [jhw, f1, f2, f4, f5, f6, f7, hVl, hd0, hcg, hki, hqd0]))
    refine Cnd.split (CondB.mk (fun hneg => ?_) (fun hneg => ?_))
    ·rw [decide_eq_true_eq] at hneg
     have hst := red_step (B := 1000000000) (q := qq) (d := d) (u := ui) (r := ui - bw - (c + qd) % 1000000000 + 1000000000) (c' := (c + qd) / 1000000000) (b' := 1) g2 g6 (by rw [hqd0]; have := jhQ (c + qd) 1000000000; omega)
     rw [← hvu, ← hvv] at hst
     (conv => whnf)
     (try simp only [jhw, f1, f2, f4, f5, f6, f7, hVl, hd0, hcg, hki, hms2, hai])
     repeat ((first | refine V.s1 ?_); (try simp only [jhw, f1, f2, f4, f5, f6, f7, hVl, hd0, hcg, hki, hms2, hai]))
     exact ⟨(i + 1, mid ++ [ui - bw - (c + qd) % 1000000000 + 1000000000], (c + qd) / 1000000000, 1), ⟨by dsimp only; omega, by simp [g2], jai g3 (jas (by omega)), by dsimp only; omega, by simp, hst⟩, by dsimp only; omega, V.wk⟩
    ·rw [decide_eq_false_iff_not] at hneg
     have hst := red_step (B := 1000000000) (q := qq) (d := d) (u := ui) (r := ui - bw - (c + qd) % 1000000000) (c' := (c + qd) / 1000000000) (b' := 0) g2 g6 (by rw [hqd0]; have := jhQ (c + qd) 1000000000; omega)
     rw [← hvu, ← hvv] at hst
     (conv => whnf)
     (try simp only [jhw, f1, f2, f4, f5, f6, f7, hVl, hd0, hcg, hki, hms2, hai])
     repeat ((first | refine V.s1 ?_); (try simp only [jhw, f1, f2, f4, f5, f6, f7, hVl, hd0, hcg, hki, hms2, hai]))
     exact ⟨(i + 1, mid ++ [ui - bw - (c + qd) % 1000000000], (c + qd) / 1000000000, 0), ⟨by dsimp only; omega, by simp [g2], jai g3 (jas (by omega)), by dsimp only; omega, by simp, hst⟩, by dsimp only; omega, V.wk⟩
   ·rw [decide_eq_false_iff_not] at hw
    obtain rfl : i = p + 2 := by omega
    rw [hg1] at hcg
    (conv => whnf)
    (try simp only [jhw, f1, f2, f4, f5, f6, f7, hVl, hcg])
    repeat ((first | refine V.s1 ?_); (try simp only [jhw, f1, f2, f4, f5, f6, f7, hVl, hcg]))
    have h6' : val 1000000000 (u.drop (j + (p + 2) + 1)) = 0 := by rw [show j + (p + 2) + 1 = j + 1 + (p + 2) by omega]; exact h6
    have hWs : W = val 1000000000 ((u.drop j).take (p + 2)) + un * ((1000000000 : Nat) : Int) ^ (p + 2) := by
     have k1 := jbF 1000000000 (u.drop j) (p + 2) (by rw [List.length_drop]; omega)
     rw [hW, List.drop_drop, jaZ 1000000000 u (j + (p + 2)), h6', hg1, Int.mul_zero, jic, jh5] at k1
     exact k1
    have hvsV : val 1000000000 (vs.take (p + 2)) = VV := by rw [← hVl, List.take_length, hvV]
    rw [hvsV] at g6
    have hPn : (0 : Int) < ((1000000000 : Nat) : Int) ^ (p + 2) := jdT (by omega) _
    have hVP : VV ≤ ((1000000000 : Nat) : Int) ^ (p + 2) := by
     have k1 : ((b * s : Nat) : Int) < ((1000000000 ^ (p + 2) : Nat) : Int) := by exact_mod_cast hVlt
     rw [jid] at k1
     omega
    have hm0 := jan g3
    have hm1 := jbX g3
    rw [g2] at hm1
    have hsetz := jfT (u := u) (A := u.take j) (mid := mid) (k := j + (p + 2)) (r := 0) (by omega) (by omega)
    refine Cnd.split (CondB.mk (fun hc2 => ?_) (fun hc2 => ?_))
    ·rw [decide_eq_true_eq] at hc2
     have hq1 : 1 ≤ qq := by
      rcases Int.lt_or_le qq 1 with k0 | k0
      ·obtain rfl : qq = 0 := by omega
       exfalso
       rw [Int.zero_mul, Int.sub_zero] at g6
       have k3 : 0 ≤ val 1000000000 ((u.drop j).take (p + 2)) := jan (jbg (jbm h3 j) _)
       rcases Int.lt_or_le 0 (c + bw) with k4 | k4
       ·have k5 : 1 * ((1000000000 : Nat) : Int) ^ (p + 2) ≤ (c + bw) * ((1000000000 : Nat) : Int) ^ (p + 2) := jhY (by omega) (by omega)
        omega
       ·omega
      ·exact k0
     have hml : (u.take j ++ mid ++ u.drop (j + (p + 2))).length = N := by
      rw [List.length_append, List.length_append, hAl, g2, List.length_drop]; omega
     obtain ⟨w, hw1⟩ : ∃ w, w = u.take j ++ mid ++ u.drop (j + (p + 2)) := ⟨_, rfl⟩
     have hwd : w.drop (j + (p + 2)) = u.drop (j + (p + 2)) := by rw [hw1]; exact mid_drop (by omega)
     have hwg : ∀ i, i < p + 2 → w.getD (j + i) 0 = mid.getD i 0 := fun i hi => by
      rw [hw1, List.append_assoc, List.getD_eq_getElem?_getD, List.getElem?_append_right (by omega), hAl, Nat.add_sub_cancel_left, List.getElem?_append_left (by omega), List.getD_eq_getElem?_getD]
     have hnl2 : u.take j ++ [] ++ w.drop (j + 0) = w := by
      have : u.take j = w.take j := by rw [hw1, List.append_assoc, List.take_append_of_le_length (by omega), List.take_take, Nat.min_self]
      rw [this, List.append_nil, Nat.add_zero, List.take_append_drop]
     rw [← hw1] at hml
     simp only [← hw1]
     refine V.r0 (V.a8 jhw f1 f2 f4 f5 f6 f7 hVl) ?_
     refine jah ((0, [], 0) : Nat × List Int × Int) (fun y => y.1 ≤ p + 2 ∧ y.2.1.length = y.1 ∧ Dg 1000000000 y.2.1 ∧ (0 ≤ y.2.2 ∧ y.2.2 ≤ 1) ∧ val 1000000000 y.2.1 + y.2.2 * ((1000000000 : Nat) : Int) ^ y.1 = val 1000000000 (mid.take y.1) + val 1000000000 (vs.take y.1)) (fun y => p + 2 - y.1)
      (fun y => [(125, .int .i64 y.1), (15, .int .u32 y.2.2)]) (fun y => [(48, .arr .u32 (u.take j ++ y.2.1 ++ w.drop (j + y.1)))]) ?_ ?_ ?_
     ·rw [hnl2]
      exact V.wk
     ·exact ⟨jhP _, rfl, fun x hx => by simp at hx, by simp, by simp [val]⟩
     rintro ⟨i, m2, ov⟩ ⟨k1, k2, k3, k4, k5⟩
     dsimp only at k1 k2 k3 k4 k5 ⊢
     have hvm := jaj 1000000000 mid i
     have hvv2 := jaj 1000000000 vs i
     have bd := jam (by omega) hdV i
     have bmi := jam (by omega) g3 i
     have hcg2 := mid_get (u := w) (A := u.take j) (mid := m2) (k := j + i) (by omega)
     have hcl2 : (u.take j ++ m2 ++ w.drop (j + i)).length = N := by
      rw [List.length_append, List.length_append, hAl, k2, List.length_drop]; omega
     refine V.r0 (V.a8 jhw f1 f2 f4 f5 f6 f7 hVl) ?_
     refine Cnd.split (CondB.mk (fun hw2 => ?_) (fun hw2 => ?_))
     ·rw [decide_eq_true_eq] at hw2
      have hms3 := fun r => jfT (u := w) (A := u.take j) (mid := m2) (k := j + i) (r := r) (by omega) (by omega)
      rw [hwg i (by omega)] at hcg2
      generalize hd0 : vs.getD i 0 = d at *
      generalize hmi : mid.getD i 0 = mi at *
      have hki : ((i : Int) + 1) = ((i + 1 : Nat) : Int) := by omega
      have hai : j + i + 1 = j + (i + 1) := by omega
      (conv => whnf)
      (try simp only [jhw, f1, f2, f4, f5, f6, f7, hVl, hd0, hcg2, hki])
      repeat ((first | refine V.s1 ?_); (try simp only [jhw, f1, f2, f4, f5, f6, f7, hVl, hd0, hcg2, hki]))
      refine Cnd.split (CondB.mk (fun hge => ?_) (fun hge => ?_))
      ·rw [decide_eq_true_eq] at hge
       have hst := jay (B := 1000000000) (x := mi) (y := d) (d := mi + d + ov - 1000000000) (c' := 1) k2 k5 (by omega)
       rw [← hvm, ← hvv2] at hst
       (conv => whnf)
       (try simp only [jhw, f1, f2, f4, f5, f6, f7, hVl, hki, hms3, hai])
       repeat ((first | refine V.s1 ?_); (try simp only [jhw, f1, f2, f4, f5, f6, f7, hVl, hki, hms3, hai]))
       exact ⟨(i + 1, m2 ++ [mi + d + ov - 1000000000], 1), ⟨by dsimp only; omega, by simp [k2], jai k3 (jas (by omega)), by simp, hst⟩, by dsimp only; omega, V.wk⟩
      ·rw [decide_eq_false_iff_not] at hge
       have hst := jay (B := 1000000000) (x := mi) (y := d) (d := mi + d + ov) (c' := 0) k2 k5 (by omega)
       rw [← hvm, ← hvv2] at hst
       (conv => whnf)
       (try simp only [jhw, f1, f2, f4, f5, f6, f7, hVl, hki, hms3, hai])
       repeat ((first | refine V.s1 ?_); (try simp only [jhw, f1, f2, f4, f5, f6, f7, hVl, hki, hms3, hai]))
       exact ⟨(i + 1, m2 ++ [mi + d + ov], 0), ⟨by dsimp only; omega, by simp [k2], jai k3 (jas (by omega)), by simp, hst⟩, by dsimp only; omega, V.wk⟩
     ·rw [decide_eq_false_iff_not] at hw2
      obtain rfl : i = p + 2 := by omega
      rw [hvsV, ← g2, List.take_length, g2] at k5
      have hn0 := jan k3
      have hn1 := jbX k3
      rw [k2] at hn1
      have hrb := red_b hPn hVpos hVP hWs g6 hm1 i3 (by omega) k5 hn0 hn1
      have hinv := div_inv (B := 1000000000) (p := p) (j := j) (u := u) (q := q) (mid := m2) (Qd := qq - 1) (M := ((a * s : Nat) : Int)) (by omega) (by omega) (by omega) k2 h3 k3 h6' hW hVpos hrb.2 hrb.1 h8
      have hsetz2 := jfT (u := u) (A := u.take j) (mid := m2) (k := j + (p + 2)) (r := 0) (by omega) (by omega)
      (conv => whnf)
      (try simp only [jhw, f1, f2, f4, f5, f6, f7, hVl, hwd, hsetz2])
      repeat ((first | refine V.s1 ?_); (try simp only [jhw, f1, f2, f4, f5, f6, f7, hVl, hwd, hsetz2]))
      exact ⟨(j, u.take j ++ (m2 ++ [0]) ++ u.drop (j + (p + 2) + 1), q.set j (qq - 1)), ⟨by dsimp only; omega, by dsimp only; rw [hinv.1]; exact h2, hinv.2.1, by dsimp only; rw [List.length_set]; exact h4, jdk h5 (by omega), hinv.2.2.1, by dsimp only; rw [hVV]; exact hinv.2.2.2.1, by dsimp only; rw [hVV]; exact hinv.2.2.2.2⟩, by dsimp only; omega, V.wk⟩
    ·rw [decide_eq_false_iff_not] at hc2
     have hra := red_a hPn hVpos hVP hWs g6 hm0 i4 (by omega)
     have hinv := div_inv (B := 1000000000) (p := p) (j := j) (u := u) (q := q) (mid := mid) (Qd := qq) (M := ((a * s : Nat) : Int)) (by omega) (by omega) (by omega) g2 h3 g3 h6' hW hVpos hra.2 hra.1 h8
     (conv => whnf)
     (try simp only [jhw, f1, f2, f4, f5, f6, f7, hVl, hsetz])
     repeat ((first | refine V.s1 ?_); (try simp only [jhw, f1, f2, f4, f5, f6, f7, hVl, hsetz]))
     exact ⟨(j, u.take j ++ (mid ++ [0]) ++ u.drop (j + (p + 2) + 1), q.set j qq), ⟨by dsimp only; omega, by dsimp only; rw [hinv.1]; exact h2, hinv.2.1, by dsimp only; rw [List.length_set]; exact h4, jdk h5 ⟨i1, i2⟩, hinv.2.2.1, by dsimp only; rw [hVV]; exact hinv.2.2.2.1, by dsimp only; rw [hVV]; exact hinv.2.2.2.2⟩, by dsimp only; omega, V.wk⟩
 ·rw [decide_eq_false_iff_not] at hq
  obtain rfl : k = 0 := by omega
  rw [List.drop_zero, Int.pow_zero, Int.mul_one] at h8
  rw [List.drop_zero] at h7
  rw [jhS] at h6
  have hvq := jan h5
  have hvu := jan h3
  obtain ⟨w, hw⟩ : ∃ w : Nat, val 1000000000 q = w := ⟨(val 1000000000 q).toNat, by omega⟩
  obtain ⟨z, hz⟩ : ∃ z : Nat, val 1000000000 u = z := ⟨(val 1000000000 u).toNat, by omega⟩
  rw [hw, hz, ← jh3, ← Int.natCast_add] at h8
  rw [hz] at h7
  have h8' : a * s = w * (b * s) + z := by exact_mod_cast h8
  have h7' : z < b * s := by exact_mod_cast h7
  have hbs : 0 < b * s := by omega
  have hdiv : a / b = w := by
   have k1 : a * s / (b * s) = a / b := Nat.mul_div_mul_right a b (by omega)
   rw [← k1, h8', Nat.add_comm, Nat.add_mul_div_right _ _ hbs, Nat.div_eq_of_lt h7', jhS]
  have hmod : z = a % b * s := by
   have k1 : a * s % (b * s) = a % b * s := Nat.mul_mod_mul_right s a b
   rw [← k1, h8', Nat.add_comm, Nat.add_mul_mod_self_right, jhX h7']
  have hzs : z / s = a % b := by rw [hmod, Nat.mul_div_cancel _ (by omega)]
  have hut : val 1000000000 (u.take (p + 2)) = z := by
   rw [jbF 1000000000 u (p + 2) (by omega), h6, Int.mul_zero, jic] at hz
   exact hz
  have hzl := jau (B := 1000000000) (n := z) (k := p + 2) (by omega) (by omega)
  have hc1 := je2 (u.take (p + 2)) (jbg h3 _) (by rw [List.length_take]; omega)
  rw [hut, jhT] at hc1
  have hc2 := short_c z s (by omega) (by omega) (by omega)
  rw [hzs] at hc2
  have hc3 := je2 q h5 (by omega)
  rw [hw, jhT, ← List.take_length (l := q), h4] at hc3
  rw [hdiv]
  refine V.r3 (V.a2 hVl @jhT) hc1 hc2 hc3 ?_
  exact Fin.of rfl
theorem ja3 (a b : Nat) (hb0 : 0 < b) (ha : (mg 1000000000 a).length ≤ 90000000) (hb : (mg 1000000000 b).length ≤ 90000000) : Called Tryz.prog 166 [.ints .u32 (mg 1000000000 a), .ints .u32 (mg 1000000000 b)] (.tup [.ints .u32 (mg 1000000000 (a / b)), .ints .u32 (mg 1000000000 (a % b))]) := by
 rcases jh0 a b with h | h
 ·exact jhh a b h (by omega) (by omega)
 ·rcases jh0 b 1000000000 with h1 | h1
  ·exact divide_one a b h hb0 h1 (by omega)
  ·exact jhg a b h h1 ha
end Go.Proofs.YtgjgpdceghjajaaGreatDoor
end
section
namespace Go.Proofs.YtgjgpdceghjajaaGreatDoor
open Go Go.V Go.Nb Go.RowKit Go.Proofs
set_option maxHeartbeats 4000000
set_option maxRecDepth 1000000
theorem zero_k (n : Nat) (w : World) (hg : GlW w) (v : Value) (hv : Den Env.dummy (pubOf w) (.ints .u32 (mg 1000000000 n)) v) : Calls Tryz.prog 132 #[v] w fun e w' => e = .returned (.bool (decide (n = 0))) ∧ RowKit.Below w.heap.size w w' := by
 refine (jeS (jcW n) w hg (vs := [v]) ?_).mono ?_
 ·simp only [DenL]; exact ⟨_, _, rfl, hv, rfl⟩
 ·rintro e w' ⟨v, h', rfl, hv, hb⟩
  simp only [Den] at hv
  rw [hv]
  exact ⟨rfl, hb⟩
def cv : Nat → Int
 | 0 => -1
 | k + 1 => k
theorem cv_eq (m : Nat) : cv m = (m : Int) - 1 := by cases m <;> simp [cv]
theorem digits_w (n : Nat) (hn : 0 < n) (hl : (mg 1000000000 n).length ≤ 100000000) (w : World) (hg : GlW w) (hlt : GlLt w.heap.size) (v : Value) (hv : Den Env.dummy (pubOf w) (.ints .u32 (mg 1000000000 n)) v) :
  Calls Tryz.prog 155 #[v] w fun e w' => e = .returned (.string ⟨(dec n).toArray⟩) ∧ RowKit.Below w.heap.size w w' := by
 have hz := zero_k n w hg v hv
 have hdx := mg_dg (B := 1000000000) (by omega) n
 have hvx := jaC (B := 1000000000) (by omega) n
 have hlx := jdw (B := 1000000000) (n := n) (by omega)
 have hnil := jb2 (B := 1000000000) (n := n) (by omega)
 generalize mg 1000000000 n = xs at *
 simp only [Den, jaI] at hv
 obtain ⟨a, cap, rfl, hcap, _, _, ha⟩ := hv
 obtain ⟨j, hj⟩ : ∃ j, xs.length = j + 1 := ⟨xs.length - 1, by
  have : xs ≠ [] := fun e => by have := hnil.1 e; omega
  have := List.length_pos_iff.2 this
  omega⟩
 obtain ⟨ad, rfl⟩ : ∃ ad, a = some ad := by
  cases a with
  | none => obtain ⟨h1, _⟩ := ha; rw [h1] at hj; simp at hj
  | some ad => exact ⟨ad, rfl⟩
 obtain ⟨blk, off, spot⟩ := ad
 simp only at ha
 obtain ⟨rfl, hcell⟩ := ha
 have hne : decide (n = 0) = false := decide_eq_false (by omega)
 rw [hne] at hz
 have hc0 : ∀ i, i < xs.length → w.cell? ⟨blk, off + i, none⟩ = some (.int .u32 (xs.getD i 0)) := fun i hi => by
  have := hcell i (xs.getD i 0) (by rw [List.getD_eq_getElem?_getD, List.getElem?_eq_getElem hi]; rfl)
  exact this
 have hblk : blk < w.heap.size := by
  have := hc0 0 (by omega)
  rcases jh0 blk w.heap.size with h | h
  ·exact h
  ·simp [World.cell?, Array.getElem?_eq_none h] at this
 clear hcell
 rw [hj] at hz ⊢
 go_enter Tryz.func155, Tryz.ntmps155
 go_wp2_with (go_at_call 132; refine hz.mono ?_)
 rintro e w1 ⟨rfl, hb1⟩
 have hs1 := hb1.size
 have hc1 : (w1.alloc (.cells #[.pointer none, .slice none 0 0] 259)).cell? ⟨blk, off + j, none⟩ = some (.int .u32 (xs.getD j 0)) := by
  have h1 := hb1.alloc (o := .cells #[.pointer none, .slice none 0 0] 259) (by omega)
  rw [h1.cell (by exact hblk)]
  exact hc0 j (by omega)
 have hI0 := Lib.IsBuilderF.of (Lib.fresh_isBuilder 259 5 w1)
 have hgl1 : GlW (w1.alloc (.cells #[.pointer none, .slice none 0 0] 259)) := jgs hg (hb1.alloc (by omega) _) hlt
 have hlt1 : GlLt w1.heap.size := ⟨fun g vs h => by have := hlt.1 g vs h; omega, fun g h => by have := hlt.2 g h; omega⟩
 have bx := jam (by omega) hdx j
 have hx1 : xs.getD j 0 ≠ 0 := by
  refine hlx _ ?_
  rw [List.getLast?_eq_getElem?, hj, List.getD_eq_getElem?_getD, show j + 1 - 1 = j by omega, List.getElem?_eq_getElem (by omega)]; rfl
 have hvj : val 1000000000 (xs.drop j) = xs.getD j 0 := by rw [jaZ, show xs.drop (j + 1) = [] from List.drop_eq_nil_of_le (by omega)]; simp [val]
 obtain ⟨g, hgx⟩ : ∃ g : Nat, xs.getD j 0 = g := ⟨(xs.getD j 0).toNat, by omega⟩
 rw [hgx] at bx hx1 hvj hc1
 have hput := put_k w1.heap.size w1.heap.size [] g 0 (w1.alloc (.cells #[.pointer none, .slice none 0 0] 259)) hgl1 hlt1 (by simp) hI0 (by omega) (by omega) (by simp)
 have e0 : List.replicate ((0 : Int).toNat - (dec g).length) (48 : UInt8) = [] := by simp
 rw [e0, List.append_nil, List.nil_append] at hput
 clear hz hI0
 go_wp2_with (go_at_call 186; refine hput.mono ?_)
 rintro e w2 ⟨rfl, hI2, hb2⟩
 have hbw2 : RowKit.Below w.heap.size w w2 := (hb1.alloc (by omega) _).trans (hb2.mono hs1)
 have hs2 : w1.heap.size + 1 ≤ w2.heap.size := by have := hb2.size; simpa using this
 have hd0 : dec g = dec (val 1000000000 (xs.drop j)).toNat := by rw [hvj, jhT]
 rw [hd0] at hI2
 clear hput hd0
 go_wp2
 go_loopw [6] (fun i wr => ∃ m : Nat, m ≤ j ∧ i = .int .i64 (cv m) ∧ Lib.IsBuilderF 259 5 w1.heap.size w1.heap.size (Lib.byteCells (dec (val 1000000000 (xs.drop m)).toNat)) wr ∧ RowKit.Below w1.heap.size w2 wr) (fun i _ => (intOf i + 1).toNat)
 case atStart => exact ⟨j, jhU _, by rw [cv_eq], hI2, Below.refl _ _⟩
 case round =>
  obtain ⟨m, hm, rfl, hI, hbr⟩ := hrel
  have hsr := hbr.size
  have hbw : RowKit.Below w.heap.size w wr := hbw2.trans (hbr.mono hs1)
  rcases m with _ | m
  ·rw [List.drop_zero, hvx, jhT] at hI
   simp only [cv]
   go_wp2_with (go_at_call 189; refine (Tryz.Builder_String_any_k w1.heap.size w1.heap.size (dec n) _ hI (by omega)).mono ?_)
   intros
   rename_i e W1 h2
   obtain ⟨rfl, _, b2, _⟩ := h2
   go_wp2
   go_ret
   exact ⟨rfl, hbw.trans (b2.mono hs1)⟩
  ·simp only [cv]
   have bm := jam (by omega) hdx m
   have hcm : wr.cell? ⟨blk, off + m, none⟩ = some (.int .u32 (xs.getD m 0)) := by
    rw [hbw.cell (by exact hblk)]; exact hc0 m (by omega)
   obtain ⟨y, hy⟩ : ∃ y : Nat, xs.getD m 0 = y := ⟨(xs.getD m 0).toNat, by omega⟩
   have hvm := jbI (B := 1000000000) (l := xs) (k := m) (by omega)
   have hv0 := jan (jbm hdx (m + 1))
   have hvp : 0 < val 1000000000 (xs.drop (m + 1)) := by
    have h1 := jbF 1000000000 (xs.drop (m + 1)) (j - (m + 1)) (by rw [List.length_drop]; omega)
    rw [List.drop_drop, show m + 1 + (j - (m + 1)) = j by omega, hvj] at h1
    have h2 := jan (jbg (jbm hdx (m + 1)) (j - (m + 1)))
    have h3 : (0 : Int) < ((1000000000 : Nat) : Int) ^ (j - (m + 1)) * g := Int.mul_pos (jdT (by omega) _) (by omega)
    omega
   rw [hy] at bm hcm hvm
   obtain ⟨u, hu⟩ : ∃ u : Nat, val 1000000000 (xs.drop (m + 1)) = u := ⟨(val 1000000000 (xs.drop (m + 1))).toNat, by omega⟩
   rw [hu, jhT] at hI
   have hdp := jhm (a := u) (by omega) 9 y (by omega)
   have hpd := jaS 9 y (by omega) (by omega)
   have hnew : (val 1000000000 (xs.drop m)).toNat = u * 10 ^ 9 + y := by rw [hvm, hu]; omega
   rw [hpd.2, ← hnew, ← List.append_assoc] at hdp
   have hdlen : (dec u).length ≤ 1000000000000 := by
    have h1 : u < 10 ^ (9 * (j + 1)) := by
     have h2 := jbX (jbm hdx (m + 1))
     rw [hu, List.length_drop, hj] at h2
     have h3 : (1000000000 : Nat) ^ (j + 1 - (m + 1)) ≤ 1000000000 ^ (j + 1) := jh9 (by omega) (by omega)
     rw [← jid] at h2
     rw [Nat.pow_mul]
     have h4 : u < 1000000000 ^ (j + 1 - (m + 1)) := by exact_mod_cast h2
     exact jhZ h4 h3
    have := (jaS (9 * (j + 1)) u (by omega) h1).1
    omega
   have hput := put_k w1.heap.size w1.heap.size (dec u) y 9 wr (jgs hg hbw hlt) hlt1 (by omega) hI (by omega) (by omega) hdlen
   rw [show (9 : Int).toNat = 9 from rfl, ← hdp] at hput
   clear hdp hpd hnew hdlen hu hvm hvp hv0
   go_wp2_with (go_at_call 186; refine hput.mono ?_)
   intros
   rename_i e W1 h2
   obtain ⟨rfl, hI3, b2⟩ := h2
   go_wp2
   go_roundw
   case rel => exact ⟨m, by omega, by (have h := cv_eq m; show Value.int .i64 ((m : Int) - 1) = Value.int .i64 (cv m); rw [h]), hI3, hbr.trans b2⟩
   case measure => simp [intOf]
theorem jhi : Called Tryz.prog 155 [.ints .u32 (mg 1000000000 0)] (.str (dec 0)) := by
 have hz := jcW 0
 refine jaa tbOk 6 ⟨Tryz.func155, rfl, rfl, jhO rfl⟩ ?_
 (conv => whnf)
 refine V.st ?_
 repeat ((try ((with_reducible refine .ext ?_); (conv => whnf))); (with_reducible refine jab (r := ?_) ?_ ?_); rotate_left; (focus (first | exact (hz))); (conv => whnf); refine V.st ?_)
 exact Fin.of rfl
theorem digits_c (n : Nat) (hl : (mg 1000000000 n).length ≤ 100000000) : Called Tryz.prog 155 [.ints .u32 (mg 1000000000 n)] (.str (dec n)) := by
 rcases jhV n with h0 | h0
 ·subst h0; exact jhi
 refine jaU Tryz.func155 rfl rfl rfl fun w hp vs ha hd => ?_
 simp only [DenL] at hd
 obtain ⟨v, _, rfl, hv, rfl⟩ := hd
 have hle : hp.Le (pubOf w) := fun b o v h => ha.cells b o v h
 refine (digits_w n h0 hl w ha.blk (glLt ha.blk) v (Den.mono hle hv)).mono fun e w' ⟨he, hw⟩ => ⟨⟨_, he, fun hp => ?_⟩, hw⟩
 ·simp only [Den]
  refine ⟨trivial, ?_⟩
  have h2 := jaG (B := 1000000000) (n := n) (by omega)
  generalize (mg 1000000000 n).length = l at *
  have h1 : n < 10 ^ (9 * (l + 1)) := by
   rw [Nat.pow_mul]
   exact jhZ h2 (jh9 (by omega) (by omega))
  have := (jaS (9 * (l + 1)) n (by omega) h1).1
  omega
end Go.Proofs.YtgjgpdceghjajaaGreatDoor
end
section
namespace Go.Proofs.YtgjgpdceghjajaaGreatDoor
open Go Go.V Go.Nb
def raD (q : Rat) : D := .agg [.bool (decide (q.num < 0)), .ints .i64 (mg 10000 q.num.natAbs), .bool false, .ints .i64 (mg 10000 q.den)]
theorem jg4 (n d : Int) (hd : d ≠ 0) : (if d < 0 then -n else n) / ((Int.gcd (if d < 0 then -n else n) (if d < 0 then -d else d) : Nat) : Int) = (Rat.divInt n d).num := by
 rw [Rat.num_divInt]
 split
 ·rw [Int.neg_gcd, Int.gcd_neg, Int.gcd_comm, jig (by omega), Int.neg_mul, jif]
 ·rw [Int.gcd_comm, jih (by omega), jif]
theorem jg5 (n d : Int) (hd : d ≠ 0) : (if d < 0 then -d else d) / ((Int.gcd (if d < 0 then -n else n) (if d < 0 then -d else d) : Nat) : Int) = ((Rat.divInt n d).den : Int) := by
 rw [Rat.den_divInt, if_neg hd]
 split
 ·rw [Int.neg_gcd, Int.gcd_neg, Int.gcd_comm, Int.natCast_ediv]; congr 1; omega
 ·rw [Int.gcd_comm, Int.natCast_ediv]; congr 1; omega
theorem jbo (n : Int) (g : Nat) : (n / (g : Int)).natAbs ≤ n.natAbs := by
 rcases Int.le_total 0 n with h | h
 ·have h1 := Int.ediv_nonneg h (by omega : (0 : Int) ≤ g)
  have h2 := Int.ediv_le_self (a := n) (g : Int) h
  omega
 ·rcases jhV g with e | e
  ·subst e; simp
  ·have h1 : n / (g : Int) ≤ 0 := by
    have := Int.ediv_le_ediv (by omega : (0 : Int) < g) h
    simpa using this
   have h2 : n ≤ n / (g : Int) := Int.le_ediv_of_mul_le (by omega) (by
    have := Int.mul_le_mul_of_nonpos_left h (by omega : (1 : Int) ≤ g)
    omega)
   omega
theorem jdX (n d : Int) (hn : Sm 80000000 n) (hd : Sm 80000000 d) (hd0 : d ≠ 0) : Called Tryz.prog 77 [plD n, plD d] (raD (Rat.divInt n d)) := by
 have e1 := jg4 n d hd0
 have e2 := jg5 n d hd0
 refine jaa tbOk 6 ⟨Tryz.func77, rfl, rfl, jhO rfl⟩ ?_
 (conv => whnf)
 refine V.st ?_
 refine Cnd.split (CondB.mk (fun hq => ?_) (fun hq => ?_))
 ·rw [decide_eq_true_eq] at hq
  simp only [if_pos hq] at e1 e2
  have hN := hn.neg
  have hD := hd.neg
  have ht1 := turn_c n (by unfold Sm at hn; omega)
  have ht2 := turn_c d (by unfold Sm at hd; omega)
  (conv => whnf)
  refine V.st ?_
  refine ⟨(.take 0 (.take 2 (.ev (.cons 1 [2] (.ev (.cons 3 [] (.ev (.cons 4 [] (.ev (.cons 5 [] (.done) (.nil))) (.nil))) (.nil))) (.nil))))), [], ⟨by kernel_rfl, by kernel_rfl, by kernel_rfl, by kernel_rfl⟩, .go (jae ?_)⟩
  (conv => whnf)
  refine V.st ?_
  repeat ((try ((with_reducible refine .ext ?_); (conv => whnf))); (with_reducible refine jab (r := ?_) ?_ ?_); rotate_left; (focus (first | exact (ht1) | exact (ht2))); (conv => whnf); refine V.st ?_)
  have hgp : 0 < Int.gcd (-n) (-d) := Int.gcd_pos_of_ne_zero_right _ (by omega)
  have hdv := jeH (-n) (-d) hN hD
  have hgD : Sm 80000000 ((Int.gcd (-n) (-d) : Nat) : Int) := hD.le (by rw [jh8]; exact Nat.le_of_dvd (by omega) (Nat.gcd_dvd_right ((-n)).natAbs ((-d)).natAbs))
  have hp1 := jdU (-n) ((Int.gcd (-n) (-d) : Nat) : Int) hN hgD (by omega)
  have hp2 := jdU (-d) ((Int.gcd (-n) (-d) : Nat) : Int) hD hgD (by omega)
  rw [e1] at hp1
  rw [e2] at hp2
  (conv => whnf)
  refine V.st ?_
  repeat ((try ((with_reducible refine .ext ?_); (conv => whnf))); (with_reducible refine jab (r := ?_) ?_ ?_); rotate_left; (focus (first | exact (hdv) | exact (hp1) | exact (hp2))); (conv => whnf); refine V.st ?_)
  exact Fin.of (by unfold raD; rw [jh8, decide_eq_false (p := ((Rat.divInt n d).den : Int) < 0) (by omega)])
 ·rw [decide_eq_false_iff_not] at hq
  simp only [if_neg hq] at e1 e2
  have hN := hn
  have hD := hd
  have hgp : 0 < Int.gcd n d := Int.gcd_pos_of_ne_zero_right _ (by omega)
  have hdv := jeH n d hN hD
  have hgD : Sm 80000000 ((Int.gcd n d : Nat) : Int) := hD.le (by rw [jh8]; exact Nat.le_of_dvd (by omega) (Nat.gcd_dvd_right (n).natAbs (d).natAbs))
  have hp1 := jdU n ((Int.gcd n d : Nat) : Int) hN hgD (by omega)
  have hp2 := jdU d ((Int.gcd n d : Nat) : Int) hD hgD (by omega)
  rw [e1] at hp1
  rw [e2] at hp2
  (conv => whnf)
  refine V.st ?_
  repeat ((try ((with_reducible refine .ext ?_); (conv => whnf))); (with_reducible refine jab (r := ?_) ?_ ?_); rotate_left; (focus (first | exact (hdv) | exact (hp1) | exact (hp2))); (conv => whnf); refine V.st ?_)
  exact Fin.of (by unfold raD; rw [jh8, decide_eq_false (p := ((Rat.divInt n d).den : Int) < 0) (by omega)])
theorem quick_c (n d : Int) (hn : InR .i64 n) (hd : InR .i64 d) (hd0 : d ≠ 0) : Called Tryz.prog 89 [.int .i64 n, .int .i64 d] (raD (Rat.divInt n d)) := by
 have h1 := jbf n hn
 have h2 := jbf d hd
 simp only [V.InR, V.lo, V.hi] at hn hd
 have h3 := jdX n d ((Sm.lit (k := 5) (by omega)).mono (by omega)) ((Sm.lit (k := 5) (by omega)).mono (by omega)) hd0
 refine jaa tbOk 6 ⟨Tryz.func89, rfl, rfl, jhO rfl⟩ ?_
 (conv => whnf)
 refine V.st ?_
 repeat ((try ((with_reducible refine .ext ?_); (conv => whnf))); (with_reducible refine jab (r := ?_) ?_ ?_); rotate_left; (focus (first | exact (h1) | exact (h2) | exact (h3))); (conv => whnf); refine V.st ?_)
 exact Fin.of rfl
def okF (q : Rat) : Bool := decide ((dec q.num.natAbs).length ≤ 600) && decide ((dec q.den).length ≤ 600)
def frR (q : Rat) : D := .tup [.agg [.str (cond (okF q) (decZ q.num) []), .str (cond (okF q) (dec q.den) [])], .int .i64 (cond (okF q) 0 6)]
theorem outN_c (n : Nat) (hz : Sm 90000000 n) : Called Tryz.prog 120 [.agg [.bool false, .ints .i64 (mg 10000 n)]] (.tup [.str (if 600 < (dec n).length then [] else dec n), .int .i64 (if 600 < (dec n).length then 6 else 0)]) := by
 have h := out_c n hz
 unfold plD decZ at h
 rw [jh8, decide_eq_false (p := (n : Int) < 0) (by omega), if_neg (c := (n : Int) < 0) (by omega)] at h
 exact h
theorem jfP (q : Rat) (hn : Sm 90000000 q.num) (hd : Sm 90000000 (q.den : Int)) : Called Tryz.prog 76 [raD q] (frR q) := by
 have h1 := out_c q.num hn
 have h2 := outN_c q.den hd
 unfold frR okF
 by_cases g1 : 600 < (dec q.num.natAbs).length <;> by_cases g2 : 600 < (dec q.den).length
 all_goals
  simp only [g1, g2, if_true, if_false] at h1 h2
  simp only [← Nat.not_lt, g1, g2, not_true_eq_false, not_false_eq_true, decide_true, decide_false, Bool.and_self, Bool.and_false, Bool.false_and, Bool.and_true, cond_true, cond_false]
  refine jaa tbOk 6 ⟨Tryz.func76, rfl, rfl, jhO rfl⟩ ?_
  (conv => whnf)
  refine V.st ?_
  repeat ((try ((with_reducible refine .ext ?_); (conv => whnf))); (with_reducible refine jab (r := ?_) ?_ ?_); rotate_left; (focus (first | exact (h1) | exact (h2))); (conv => whnf); refine V.st ?_)
  exact Fin.of rfl
theorem of02_c (n d : Int) (hn : InR .i64 n) (hd : InR .i64 d) (hd0 : d ≠ 0) : Called Tryz.prog 46 [.int .i64 n, .int .i64 d] (frR (Rat.divInt n d)) := by
 have h1 := quick_c n d hn hd hd0
 simp only [V.InR, V.lo, V.hi] at hn hd
 have hnum : Sm 90000000 (Rat.divInt n d).num := by
  have e1 := jg4 n d hd0
  have h := jbo (if d < 0 then -n else n) (Int.gcd (if d < 0 then -n else n) (if d < 0 then -d else d))
  rw [e1] at h
  exact (Sm.lit (k := 5) (by split at h <;> omega)).mono (by omega)
 have hden : Sm 90000000 ((Rat.divInt n d).den : Int) := by
  have e1 := jg5 n d hd0
  have h := jbo (if d < 0 then -d else d) (Int.gcd (if d < 0 then -n else n) (if d < 0 then -d else d))
  rw [e1] at h
  exact (Sm.lit (k := 5) (by split at h <;> omega)).mono (by omega)
 have h2 := jfP _ hnum hden
 refine jaa tbOk 6 ⟨Tryz.func46, rfl, rfl, jhO rfl⟩ ?_
 (conv => whnf)
 refine V.st ?_
 refine Cnd.no (decide_eq_false hd0) ?_
 (conv => whnf)
 refine V.st ?_
 repeat ((try ((with_reducible refine .ext ?_); (conv => whnf))); (with_reducible refine jab (r := ?_) ?_ ?_); rotate_left; (focus (first | exact (h1) | exact (h2))); (conv => whnf); refine V.st ?_)
 exact Fin.of rfl
theorem gcd_c (a b : Nat) (ha : (mg 1000000000 a).length ≤ 90000000) (hb : (mg 1000000000 b).length ≤ 90000000) : Called Tryz.prog 147 [.ints .u32 (mg 1000000000 a), .ints .u32 (mg 1000000000 b)] (.ints .u32 (mg 1000000000 (Nat.gcd a b))) := by
 obtain ⟨g, hg⟩ : ∃ g, g = Nat.gcd a b := ⟨_, rfl⟩
 rw [← hg]
 refine jaa tbOk 6 ⟨Tryz.func147, rfl, rfl, jhO rfl⟩ ?_
 (conv => whnf)
 refine V.st ?_
 refine jah ((a, b) : Nat × Nat) (fun s => Nat.gcd s.1 s.2 = g ∧ (mg 1000000000 s.1).length ≤ 90000000 ∧ (mg 1000000000 s.2).length ≤ 90000000) (fun s => s.2)
  (fun s => [(0, .ints .u32 (mg 1000000000 s.1)), (1, .ints .u32 (mg 1000000000 s.2))]) (fun _ => []) ?_ ?_ ?_
 ·exact V.wk
 ·exact ⟨hg.symm, ha, hb⟩
 rintro ⟨x, y⟩ ⟨h1, h2, h3⟩
 dsimp only at h1 h2 h3 ⊢
 have hz := jcW y
 (conv => whnf)
 refine V.st ?_
 repeat ((try ((with_reducible refine .ext ?_); (conv => whnf))); (with_reducible refine jab (r := ?_) ?_ ?_); rotate_left; (focus (first | exact (hz))); (conv => whnf); refine V.st ?_)
 refine Cnd.split (CondB.mk (fun hq => ?_) (fun hq => ?_))
 ·have hy : ¬ y = 0 := by simpa using hq
  (conv => whnf)
  refine V.st ?_
  refine Cnd.split (CondB.mk (fun hq2 => ?_) (fun hq2 => ?_))
  ·rw [jhN, decide_eq_true_eq, decide_eq_true_eq] at hq2
   have hx18 : x < 1000000000000000000 := by
    have := jaG (B := 1000000000) (n := x) (by omega)
    have h5 : 1000000000 ^ (mg 1000000000 x).length ≤ 1000000000 ^ 2 := jh9 (by omega) (by omega)
    omega
   have hy18 : y < 1000000000000000000 := by
    have := jaG (B := 1000000000) (n := y) (by omega)
    have h5 : 1000000000 ^ (mg 1000000000 y).length ≤ 1000000000 ^ 2 := jh9 (by omega) (by omega)
    omega
   have hs1 := small_c x hx18
   have hs2 := small_c y hy18
   (conv => whnf)
   refine V.st ?_
   repeat ((try ((with_reducible refine .ext ?_); (conv => whnf))); (with_reducible refine jab (r := ?_) ?_ ?_); rotate_left; (focus (first | exact (hs1) | exact (hs2))); (conv => whnf); refine V.st ?_)
   refine jah ((x, y) : Nat × Nat) (fun s => Nat.gcd s.1 s.2 = g ∧ s.1 < 1000000000000000000 ∧ s.2 < 1000000000000000000) (fun s => s.2) (fun s => [(5, .int .u64 s.1), (6, .int .u64 s.2)]) (fun _ => []) ?_ ?_ ?_
   ·exact V.wk
   ·exact ⟨h1, hx18, hy18⟩
   rintro ⟨p, q⟩ ⟨i1, i2, i3⟩
   dsimp only at i1 i2 i3 ⊢
   (conv => whnf)
   refine V.st ?_
   refine Cnd.split (CondB.mk (fun hq3 => ?_) (fun hq3 => ?_))
   ·rw [decide_eq_true_eq] at hq3
    have hqp : 0 < q := by omega
    have em : (p : Int) % (q : Int) = ((p % q : Nat) : Int) := by rw [Int.natCast_emod]
    have hlt := Nat.mod_lt p hqp
    refine V.r0 em ?_
    refine ⟨(.take 0 (.take 1 (.take 2 (.take 3 (.ev (.cons 4 [3, 2] (.ev (.cons 5 [] (.done) (.nil))) (.nil))))))), [], ⟨by kernel_rfl, by kernel_rfl, by kernel_rfl, by kernel_rfl⟩, .go (jae ?_)⟩
    refine V.r0 em ?_
    exact ⟨(q, p % q), ⟨by dsimp only; rw [Nat.gcd_comm, ← Nat.gcd_rec, Nat.gcd_comm]; exact i1, i3, by dsimp only; omega⟩, hlt, V.wk⟩
   ·rw [decide_eq_false_iff_not] at hq3
    obtain rfl : q = 0 := by omega
    rw [Nat.gcd_zero_right] at i1
    have hf := jcT p (by omega)
    (conv => whnf)
    refine V.st ?_
    repeat ((try ((with_reducible refine .ext ?_); (conv => whnf))); (with_reducible refine jab (r := ?_) ?_ ?_); rotate_left; (focus (first | exact (hf))); (conv => whnf); refine V.st ?_)
    exact Fin.of (by rw [i1])
  ·have hd := ja3 x y (by omega) h2 h3
   have hlt := Nat.mod_lt x (by omega : y > 0)
   have hr := jaf (B := 1000000000) (by omega) (Nat.le_of_lt hlt)
   (conv => whnf)
   refine V.st ?_
   repeat ((try ((with_reducible refine .ext ?_); (conv => whnf))); (with_reducible refine jab (r := ?_) ?_ ?_); rotate_left; (focus (first | exact (hd))); (conv => whnf); refine V.st ?_)
   exact ⟨(y, x % y), ⟨by dsimp only; rw [Nat.gcd_comm, ← Nat.gcd_rec, Nat.gcd_comm]; exact h1, h3, by dsimp only; omega⟩, hlt, V.wk⟩
 ·have hy : y = 0 := by simpa using hq
  subst hy
  rw [Nat.gcd_zero_right] at h1
  (conv => whnf)
  refine V.st ?_
  exact Fin.of (by rw [h1])
theorem jhb (z : Int) (hz : (mg 1000000000 z.natAbs).length ≤ 90000000) : Called Tryz.prog 115 [itD z] (.str (decZ z)) := by
 have hd := digits_c z.natAbs (by omega)
 have hl : (dec z.natAbs).length ≤ 1000000000000 := by
  have h2 := jaG (B := 1000000000) (n := z.natAbs) (by omega)
  generalize (mg 1000000000 z.natAbs).length = l at *
  have h1 : z.natAbs < 10 ^ (9 * (l + 1)) := by
   rw [Nat.pow_mul]
   exact jhZ h2 (jh9 (by omega) (by omega))
  have := (jaS (9 * (l + 1)) z.natAbs (by omega) h1).1
  omega
 refine jaa tbOk 6 ⟨Tryz.func115, rfl, rfl, jhO rfl⟩ ?_
 (conv => whnf)
 refine V.st ?_
 refine Cnd.split (CondB.mk (fun hq => ?_) (fun hq => ?_))
 ·rw [decide_eq_true_eq] at hq
  (conv => whnf)
  refine V.st ?_
  repeat ((try ((with_reducible refine .ext ?_); (conv => whnf))); (with_reducible refine jab (r := ?_) ?_ ?_); rotate_left; (focus (first | exact (hd))); (conv => whnf); refine V.st ?_)
  exact Fin.of (by unfold decZ; rw [if_pos hq]; rfl)
 ·rw [decide_eq_false_iff_not] at hq
  (conv => whnf)
  refine V.st ?_
  repeat ((try ((with_reducible refine .ext ?_); (conv => whnf))); (with_reducible refine jab (r := ?_) ?_ ?_); rotate_left; (focus (first | exact (hd))); (conv => whnf); refine V.st ?_)
  exact Fin.of (by unfold decZ; rw [if_neg hq])
def rtD (q : Rat) : D := .agg [.ints .u32 (mg 1000000000 q.num.natAbs), .bool (decide (q.num < 0)), .ints .u32 (mg 1000000000 q.den)]
theorem jdq (q : Rat) (hn : (mg 1000000000 q.num.natAbs).length ≤ 90000000) (hd : (mg 1000000000 q.den).length ≤ 90000000) : Called Tryz.prog 134 [rtD q] (frR q) := by
 have h1 := length_c q.num.natAbs (by omega)
 have h2 := length_c q.den (by omega)
 have h3 := jhb q.num hn
 have h4 := digits_c q.den (by omega)
 unfold frR okF
 refine jaa tbOk 6 ⟨Tryz.func134, rfl, rfl, jhO rfl⟩ ?_
 (conv => whnf)
 refine V.st ?_
 repeat ((try ((with_reducible refine .ext ?_); (conv => whnf))); (with_reducible refine jab (r := ?_) ?_ ?_); rotate_left; (focus (first | exact (h1) | exact (h2))); (conv => whnf); refine V.st ?_)
 refine Cnd.split (CondB.mk (fun hq => ?_) (fun hq => ?_))
 ·rw [Bool.or_eq_true, decide_eq_true_eq, decide_eq_true_eq] at hq
  have e : (decide ((dec q.num.natAbs).length ≤ 600) && decide ((dec q.den).length ≤ 600)) = false := by
   rw [Bool.and_eq_false_iff, decide_eq_false_iff_not, decide_eq_false_iff_not]; omega
  rw [e]
  (conv => whnf)
  refine V.st ?_
  exact Fin.of rfl
 ·rw [jh2, decide_eq_false_iff_not, decide_eq_false_iff_not] at hq
  have e : (decide ((dec q.num.natAbs).length ≤ 600) && decide ((dec q.den).length ≤ 600)) = true := by
   rw [jhN, decide_eq_true_eq, decide_eq_true_eq]; omega
  rw [e]
  (conv => whnf)
  refine V.st ?_
  refine ⟨(.take 0 (.take 1 (.take 3 (.take 4 (.ev (.cons 2 [4, 3] (.ev (.cons 5 [] (.take 6 (.ev (.cons 7 [] (.take 8 (.done)) (.nil)))) (.nil))) (.nil))))))), [], ⟨by kernel_rfl, by kernel_rfl, by kernel_rfl, by kernel_rfl⟩, .go (jae ?_)⟩
  (conv => whnf)
  refine V.st ?_
  repeat ((try ((with_reducible refine .ext ?_); (conv => whnf))); (with_reducible refine jab (r := ?_) ?_ ?_); rotate_left; (focus (first | exact (h3) | exact (h4))); (conv => whnf); refine V.st ?_)
  exact Fin.of rfl
end Go.Proofs.YtgjgpdceghjajaaGreatDoor
end
