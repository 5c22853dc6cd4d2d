/- What some functions of the program answer at values that mean given lists, texts and numbers, each proved of the program's own code: part 21. Conditions: those that each theorem names. -/
import Derived.Test.YtgjgpdceghjajaaGreatDoorSimplexKnownH18
import Derived.Test.YtgjgpdceghjajaaGreatDoorSimplexKnownH20
import Derived.Test.YtgjgpdceghjajaaGreatDoorSimplexKnownH15
import Derived.Shelf.Strconv.ParseIntPublic10
import Derived.Test.YtgjgpdceghjajaaGreatDoorSimplexKnownH14
set_option linter.unusedSimpArgs false
set_option linter.unusedVariables false
set_option maxHeartbeats 8000000
set_option maxRecDepth 100000
section
namespace Go.Proofs.YtgjgpdceghjajaaGreatDoor
open Go Go.V Go.Nb
def raD (q : Rat) : D := .agg [.bool (decide (q.num < 0)), .ints .i64 (mg 10000 q.num.natAbs), .bool false, .ints .i64 (mg 10000 q.den)]
theorem jgM (n d : Int) (hd : d ≠ 0) : (if d < 0 then -n else n) / ((Int.gcd (if d < 0 then -n else n) (if d < 0 then -d else d) : Nat) : Int) = (Rat.divInt n d).num := by
 rw [Rat.num_divInt]
 split
 ·rw [Int.neg_gcd, Int.gcd_neg, Int.gcd_comm, jhZ (by omega), Int.neg_mul, jhY]
 ·rw [Int.gcd_comm, jh0 (by omega), jhY]
theorem jgN (n d : Int) (hd : d ≠ 0) : (if d < 0 then -d else d) / ((Int.gcd (if d < 0 then -n else n) (if d < 0 then -d else d) : Nat) : Int) = ((Rat.divInt n d).den : Int) := by
 rw [Rat.den_divInt, if_neg hd]
 split
 ·rw [Int.neg_gcd, Int.gcd_neg, Int.gcd_comm, Int.natCast_ediv]; congr 1; omega
 ·rw [Int.gcd_comm, Int.natCast_ediv]; congr 1; omega
theorem jbm (n : Int) (g : Nat) : (n / (g : Int)).natAbs ≤ n.natAbs := by
 rcases Int.le_total 0 n with h | h
 ·have h1 := Int.ediv_nonneg h (by omega : (0 : Int) ≤ g)
  have h2 := Int.ediv_le_self (a := n) (g : Int) h
  omega
 ·rcases jhF g with e | e
  ·subst e; simp
  ·have h1 : n / (g : Int) ≤ 0 := by
    have := Int.ediv_le_ediv (by omega : (0 : Int) < g) h
    simpa using this
   have h2 : n ≤ n / (g : Int) := Int.le_ediv_of_mul_le (by omega) (by
    have := Int.mul_le_mul_of_nonpos_left h (by omega : (1 : Int) ≤ g)
    omega)
   omega
theorem lowest_c (n d : Int) (hn : Sm 80000000 n) (hd : Sm 80000000 d) (hd0 : d ≠ 0) : Called Tryz.prog 77 [plD n, plD d] (raD (Rat.divInt n d)) := by
 have e1 := jgM n d hd0
 have e2 := jgN n d hd0
 refine jaa tbOk 6 ⟨Tryz.func77, rfl, rfl, jhy rfl⟩ ?_
 (conv => whnf)
 refine V.st ?_
 refine Cnd.split (CondB.mk (fun hq => ?_) (fun hq => ?_))
 ·rw [decide_eq_true_eq] at hq
  simp only [if_pos hq] at e1 e2
  have hN := hn.neg
  have hD := hd.neg
  have ht1 := turn_c n (by unfold Sm at hn; omega)
  have ht2 := turn_c d (by unfold Sm at hd; omega)
  (conv => whnf)
  refine V.st ?_
  refine ⟨(.take 0 (.take 2 (.ev (.cons 1 [2] (.ev (.cons 3 [] (.ev (.cons 4 [] (.ev (.cons 5 [] (.done) (.nil))) (.nil))) (.nil))) (.nil))))), [], ⟨by kernel_rfl, by kernel_rfl, by kernel_rfl, by kernel_rfl⟩, .go (jag ?_)⟩
  (conv => whnf)
  refine V.st ?_
  repeat ((try ((with_reducible refine .ext ?_); (conv => whnf))); (with_reducible refine jab (r := ?_) ?_ ?_); rotate_left; (focus (first | exact (ht1) | exact (ht2))); (conv => whnf); refine V.st ?_)
  have hgp : 0 < Int.gcd (-n) (-d) := Int.gcd_pos_of_ne_zero_right _ (by omega)
  have hdv := jgb (-n) (-d) hN hD
  have hgD : Sm 80000000 ((Int.gcd (-n) (-d) : Nat) : Int) := hD.le (by rw [jhR]; exact Nat.le_of_dvd (by omega) (Nat.gcd_dvd_right ((-n)).natAbs ((-d)).natAbs))
  have hp1 := jdN (-n) ((Int.gcd (-n) (-d) : Nat) : Int) hN hgD (by omega)
  have hp2 := jdN (-d) ((Int.gcd (-n) (-d) : Nat) : Int) hD hgD (by omega)
  rw [e1] at hp1
  rw [e2] at hp2
  (conv => whnf)
  refine V.st ?_
  repeat ((try ((with_reducible refine .ext ?_); (conv => whnf))); (with_reducible refine jab (r := ?_) ?_ ?_); rotate_left; (focus (first | exact (hdv) | exact (hp1) | exact (hp2))); (conv => whnf); refine V.st ?_)
  exact Fin.of (by unfold raD; rw [jhR, decide_eq_false (p := ((Rat.divInt n d).den : Int) < 0) (by omega)])
 ·rw [decide_eq_false_iff_not] at hq
  simp only [if_neg hq] at e1 e2
  have hN := hn
  have hD := hd
  have hgp : 0 < Int.gcd n d := Int.gcd_pos_of_ne_zero_right _ (by omega)
  have hdv := jgb n d hN hD
  have hgD : Sm 80000000 ((Int.gcd n d : Nat) : Int) := hD.le (by rw [jhR]; exact Nat.le_of_dvd (by omega) (Nat.gcd_dvd_right (n).natAbs (d).natAbs))
  have hp1 := jdN n ((Int.gcd n d : Nat) : Int) hN hgD (by omega)
  have hp2 := jdN d ((Int.gcd n d : Nat) : Int) hD hgD (by omega)
  rw [e1] at hp1
  rw [e2] at hp2
  (conv => whnf)
  refine V.st ?_
  repeat ((try ((with_reducible refine .ext ?_); (conv => whnf))); (with_reducible refine jab (r := ?_) ?_ ?_); rotate_left; (focus (first | exact (hdv) | exact (hp1) | exact (hp2))); (conv => whnf); refine V.st ?_)
  exact Fin.of (by unfold raD; rw [jhR, decide_eq_false (p := ((Rat.divInt n d).den : Int) < 0) (by omega)])
theorem quick_c (n d : Int) (hn : InR .i64 n) (hd : InR .i64 d) (hd0 : d ≠ 0) : Called Tryz.prog 89 [.int .i64 n, .int .i64 d] (raD (Rat.divInt n d)) := by
 have h1 := jem n hn
 have h2 := jem d hd
 simp only [V.InR, V.lo, V.hi] at hn hd
 have h3 := lowest_c n d ((Sm.lit (k := 5) (by omega)).mono (by omega)) ((Sm.lit (k := 5) (by omega)).mono (by omega)) hd0
 refine jaa tbOk 6 ⟨Tryz.func89, rfl, rfl, jhy rfl⟩ ?_
 (conv => whnf)
 refine V.st ?_
 repeat ((try ((with_reducible refine .ext ?_); (conv => whnf))); (with_reducible refine jab (r := ?_) ?_ ?_); rotate_left; (focus (first | exact (h1) | exact (h2) | exact (h3))); (conv => whnf); refine V.st ?_)
 exact Fin.of rfl
def okF (q : Rat) : Bool := decide ((dec q.num.natAbs).length ≤ 600) && decide ((dec q.den).length ≤ 600)
def frR (q : Rat) : D := .tup [.agg [.str (cond (okF q) (decZ q.num) []), .str (cond (okF q) (dec q.den) [])], .int .i64 (cond (okF q) 0 6)]
theorem outN_c (n : Nat) (hz : Sm 90000000 n) : Called Tryz.prog 120 [.agg [.bool false, .ints .i64 (mg 10000 n)]] (.tup [.str (if 600 < (dec n).length then [] else dec n), .int .i64 (if 600 < (dec n).length then 6 else 0)]) := by
 have h := out_c n hz
 unfold plD decZ at h
 rw [jhR, decide_eq_false (p := (n : Int) < 0) (by omega), if_neg (c := (n : Int) < 0) (by omega)] at h
 exact h
theorem out02_c (q : Rat) (hn : Sm 90000000 q.num) (hd : Sm 90000000 (q.den : Int)) : Called Tryz.prog 76 [raD q] (frR q) := by
 have h1 := out_c q.num hn
 have h2 := outN_c q.den hd
 unfold frR okF
 by_cases g1 : 600 < (dec q.num.natAbs).length <;> by_cases g2 : 600 < (dec q.den).length
 all_goals
  simp only [g1, g2, if_true, if_false] at h1 h2
  simp only [← Nat.not_lt, g1, g2, not_true_eq_false, not_false_eq_true, decide_true, decide_false, Bool.and_self, Bool.and_false, Bool.false_and, Bool.and_true, cond_true, cond_false]
  refine jaa tbOk 6 ⟨Tryz.func76, rfl, rfl, jhy rfl⟩ ?_
  (conv => whnf)
  refine V.st ?_
  repeat ((try ((with_reducible refine .ext ?_); (conv => whnf))); (with_reducible refine jab (r := ?_) ?_ ?_); rotate_left; (focus (first | exact (h1) | exact (h2))); (conv => whnf); refine V.st ?_)
  exact Fin.of rfl
theorem of02_c (n d : Int) (hn : InR .i64 n) (hd : InR .i64 d) (hd0 : d ≠ 0) : Called Tryz.prog 46 [.int .i64 n, .int .i64 d] (frR (Rat.divInt n d)) := by
 have h1 := quick_c n d hn hd hd0
 simp only [V.InR, V.lo, V.hi] at hn hd
 have hnum : Sm 90000000 (Rat.divInt n d).num := by
  have e1 := jgM n d hd0
  have h := jbm (if d < 0 then -n else n) (Int.gcd (if d < 0 then -n else n) (if d < 0 then -d else d))
  rw [e1] at h
  exact (Sm.lit (k := 5) (by split at h <;> omega)).mono (by omega)
 have hden : Sm 90000000 ((Rat.divInt n d).den : Int) := by
  have e1 := jgN n d hd0
  have h := jbm (if d < 0 then -d else d) (Int.gcd (if d < 0 then -n else n) (if d < 0 then -d else d))
  rw [e1] at h
  exact (Sm.lit (k := 5) (by split at h <;> omega)).mono (by omega)
 have h2 := out02_c _ hnum hden
 refine jaa tbOk 6 ⟨Tryz.func46, rfl, rfl, jhy rfl⟩ ?_
 (conv => whnf)
 refine V.st ?_
 refine Cnd.no (decide_eq_false hd0) ?_
 (conv => whnf)
 refine V.st ?_
 repeat ((try ((with_reducible refine .ext ?_); (conv => whnf))); (with_reducible refine jab (r := ?_) ?_ ?_); rotate_left; (focus (first | exact (h1) | exact (h2))); (conv => whnf); refine V.st ?_)
 exact Fin.of rfl
theorem gcd_c (a b : Nat) (ha : (mg 1000000000 a).length ≤ 90000000) (hb : (mg 1000000000 b).length ≤ 90000000) : Called Tryz.prog 147 [.ints .u32 (mg 1000000000 a), .ints .u32 (mg 1000000000 b)] (.ints .u32 (mg 1000000000 (Nat.gcd a b))) := by
 obtain ⟨g, hg⟩ : ∃ g, g = Nat.gcd a b := ⟨_, rfl⟩
 rw [← hg]
 refine jaa tbOk 6 ⟨Tryz.func147, rfl, rfl, jhy rfl⟩ ?_
 (conv => whnf)
 refine V.st ?_
 refine jah ((a, b) : Nat × Nat) (fun s => Nat.gcd s.1 s.2 = g ∧ (mg 1000000000 s.1).length ≤ 90000000 ∧ (mg 1000000000 s.2).length ≤ 90000000) (fun s => s.2)
  (fun s => [(0, .ints .u32 (mg 1000000000 s.1)), (1, .ints .u32 (mg 1000000000 s.2))]) (fun _ => []) ?_ ?_ ?_
 ·exact V.wk
 ·exact ⟨hg.symm, ha, hb⟩
 rintro ⟨x, y⟩ ⟨h1, h2, h3⟩
 dsimp only at h1 h2 h3 ⊢
 have hz := jcW y
 (conv => whnf)
 refine V.st ?_
 repeat ((try ((with_reducible refine .ext ?_); (conv => whnf))); (with_reducible refine jab (r := ?_) ?_ ?_); rotate_left; (focus (first | exact (hz))); (conv => whnf); refine V.st ?_)
 refine Cnd.split (CondB.mk (fun hq => ?_) (fun hq => ?_))
 ·have hy : ¬ y = 0 := by simpa using hq
  (conv => whnf)
  refine V.st ?_
  refine Cnd.split (CondB.mk (fun hq2 => ?_) (fun hq2 => ?_))
  ·rw [jhx, decide_eq_true_eq, decide_eq_true_eq] at hq2
   have hx18 : x < 1000000000000000000 := by
    have := jaG (B := 1000000000) (n := x) (by omega)
    have h5 : 1000000000 ^ (mg 1000000000 x).length ≤ 1000000000 ^ 2 := jhS (by omega) (by omega)
    omega
   have hy18 : y < 1000000000000000000 := by
    have := jaG (B := 1000000000) (n := y) (by omega)
    have h5 : 1000000000 ^ (mg 1000000000 y).length ≤ 1000000000 ^ 2 := jhS (by omega) (by omega)
    omega
   have hs1 := small_c x hx18
   have hs2 := small_c y hy18
   (conv => whnf)
   refine V.st ?_
   repeat ((try ((with_reducible refine .ext ?_); (conv => whnf))); (with_reducible refine jab (r := ?_) ?_ ?_); rotate_left; (focus (first | exact (hs1) | exact (hs2))); (conv => whnf); refine V.st ?_)
   refine jah ((x, y) : Nat × Nat) (fun s => Nat.gcd s.1 s.2 = g ∧ s.1 < 1000000000000000000 ∧ s.2 < 1000000000000000000) (fun s => s.2) (fun s => [(5, .int .u64 s.1), (6, .int .u64 s.2)]) (fun _ => []) ?_ ?_ ?_
   ·exact V.wk
   ·exact ⟨h1, hx18, hy18⟩
   rintro ⟨p, q⟩ ⟨i1, i2, i3⟩
   dsimp only at i1 i2 i3 ⊢
   (conv => whnf)
   refine V.st ?_
   refine Cnd.split (CondB.mk (fun hq3 => ?_) (fun hq3 => ?_))
   ·rw [decide_eq_true_eq] at hq3
    have hqp : 0 < q := by omega
    have em : (p : Int) % (q : Int) = ((p % q : Nat) : Int) := by rw [Int.natCast_emod]
    have hlt := Nat.mod_lt p hqp
    refine V.r0 em ?_
    refine ⟨(.take 0 (.take 1 (.take 2 (.take 3 (.ev (.cons 4 [3, 2] (.ev (.cons 5 [] (.done) (.nil))) (.nil))))))), [], ⟨by kernel_rfl, by kernel_rfl, by kernel_rfl, by kernel_rfl⟩, .go (jag ?_)⟩
    refine V.r0 em ?_
    exact ⟨(q, p % q), ⟨by dsimp only; rw [Nat.gcd_comm, ← Nat.gcd_rec, Nat.gcd_comm]; exact i1, i3, by dsimp only; omega⟩, hlt, V.wk⟩
   ·rw [decide_eq_false_iff_not] at hq3
    obtain rfl : q = 0 := by omega
    rw [Nat.gcd_zero_right] at i1
    have hf := jcT p (by omega)
    (conv => whnf)
    refine V.st ?_
    repeat ((try ((with_reducible refine .ext ?_); (conv => whnf))); (with_reducible refine jab (r := ?_) ?_ ?_); rotate_left; (focus (first | exact (hf))); (conv => whnf); refine V.st ?_)
    exact Fin.of (by rw [i1])
  ·have hd := ja3 x y (by omega) h2 h3
   have hlt := Nat.mod_lt x (by omega : y > 0)
   have hr := jae (B := 1000000000) (by omega) (Nat.le_of_lt hlt)
   (conv => whnf)
   refine V.st ?_
   repeat ((try ((with_reducible refine .ext ?_); (conv => whnf))); (with_reducible refine jab (r := ?_) ?_ ?_); rotate_left; (focus (first | exact (hd))); (conv => whnf); refine V.st ?_)
   exact ⟨(y, x % y), ⟨by dsimp only; rw [Nat.gcd_comm, ← Nat.gcd_rec, Nat.gcd_comm]; exact h1, h3, by dsimp only; omega⟩, hlt, V.wk⟩
 ·have hy : y = 0 := by simpa using hq
  subst hy
  rw [Nat.gcd_zero_right] at h1
  (conv => whnf)
  refine V.st ?_
  exact Fin.of (by rw [h1])
theorem jgT (z : Int) (hz : (mg 1000000000 z.natAbs).length ≤ 90000000) : Called Tryz.prog 115 [itD z] (.str (decZ z)) := by
 have hd := digits_c z.natAbs (by omega)
 have hl : (dec z.natAbs).length ≤ 1000000000000 := by
  have h2 := jaG (B := 1000000000) (n := z.natAbs) (by omega)
  generalize (mg 1000000000 z.natAbs).length = l at *
  have h1 : z.natAbs < 10 ^ (9 * (l + 1)) := by
   rw [Nat.pow_mul]
   exact jhJ h2 (jhS (by omega) (by omega))
  have := (jbg (9 * (l + 1)) z.natAbs (by omega) h1).1
  omega
 refine jaa tbOk 6 ⟨Tryz.func115, rfl, rfl, jhy rfl⟩ ?_
 (conv => whnf)
 refine V.st ?_
 refine Cnd.split (CondB.mk (fun hq => ?_) (fun hq => ?_))
 ·rw [decide_eq_true_eq] at hq
  (conv => whnf)
  refine V.st ?_
  repeat ((try ((with_reducible refine .ext ?_); (conv => whnf))); (with_reducible refine jab (r := ?_) ?_ ?_); rotate_left; (focus (first | exact (hd))); (conv => whnf); refine V.st ?_)
  exact Fin.of (by unfold decZ; rw [if_pos hq]; rfl)
 ·rw [decide_eq_false_iff_not] at hq
  (conv => whnf)
  refine V.st ?_
  repeat ((try ((with_reducible refine .ext ?_); (conv => whnf))); (with_reducible refine jab (r := ?_) ?_ ?_); rotate_left; (focus (first | exact (hd))); (conv => whnf); refine V.st ?_)
  exact Fin.of (by unfold decZ; rw [if_neg hq])
def rtD (q : Rat) : D := .agg [.ints .u32 (mg 1000000000 q.num.natAbs), .bool (decide (q.num < 0)), .ints .u32 (mg 1000000000 q.den)]
theorem jdn (q : Rat) (hn : (mg 1000000000 q.num.natAbs).length ≤ 90000000) (hd : (mg 1000000000 q.den).length ≤ 90000000) : Called Tryz.prog 134 [rtD q] (frR q) := by
 have h1 := length_c q.num.natAbs (by omega)
 have h2 := length_c q.den (by omega)
 have h3 := jgT q.num hn
 have h4 := digits_c q.den (by omega)
 unfold frR okF
 refine jaa tbOk 6 ⟨Tryz.func134, rfl, rfl, jhy rfl⟩ ?_
 (conv => whnf)
 refine V.st ?_
 repeat ((try ((with_reducible refine .ext ?_); (conv => whnf))); (with_reducible refine jab (r := ?_) ?_ ?_); rotate_left; (focus (first | exact (h1) | exact (h2))); (conv => whnf); refine V.st ?_)
 refine Cnd.split (CondB.mk (fun hq => ?_) (fun hq => ?_))
 ·rw [Bool.or_eq_true, decide_eq_true_eq, decide_eq_true_eq] at hq
  have e : (decide ((dec q.num.natAbs).length ≤ 600) && decide ((dec q.den).length ≤ 600)) = false := by
   rw [Bool.and_eq_false_iff, decide_eq_false_iff_not, decide_eq_false_iff_not]; omega
  rw [e]
  (conv => whnf)
  refine V.st ?_
  exact Fin.of rfl
 ·rw [Bool.or_eq_false_iff, decide_eq_false_iff_not, decide_eq_false_iff_not] at hq
  have e : (decide ((dec q.num.natAbs).length ≤ 600) && decide ((dec q.den).length ≤ 600)) = true := by
   rw [jhx, decide_eq_true_eq, decide_eq_true_eq]; omega
  rw [e]
  (conv => whnf)
  refine V.st ?_
  refine ⟨(.take 0 (.take 1 (.take 3 (.take 4 (.ev (.cons 2 [4, 3] (.ev (.cons 5 [] (.take 6 (.ev (.cons 7 [] (.take 8 (.done)) (.nil)))) (.nil))) (.nil))))))), [], ⟨by kernel_rfl, by kernel_rfl, by kernel_rfl, by kernel_rfl⟩, .go (jag ?_)⟩
  (conv => whnf)
  refine V.st ?_
  repeat ((try ((with_reducible refine .ext ?_); (conv => whnf))); (with_reducible refine jab (r := ?_) ?_ ?_); rotate_left; (focus (first | exact (h3) | exact (h4))); (conv => whnf); refine V.st ?_)
  exact Fin.of rfl
theorem jcw (n : Int) (d : Nat) (hd : 0 < d) : (Rat.divInt n d).num.natAbs = n.natAbs / Nat.gcd n.natAbs d ∧ decide ((Rat.divInt n d).num < 0) = decide (n < 0) ∧ (Rat.divInt n d).den = d / Nat.gcd n.natAbs d := by
 have hg : Int.gcd (d : Int) n = Nat.gcd n.natAbs d := by
  rw [Int.gcd_comm]; rfl
 have hgp : 0 < Nat.gcd n.natAbs d := Nat.gcd_pos_of_pos_right _ hd
 have hdv : ((Nat.gcd n.natAbs d : Nat) : Int) ∣ n := Int.ofNat_dvd_left.2 (Nat.gcd_dvd_left _ _)
 rw [Rat.num_divInt, Rat.den_divInt, if_neg (by omega), jh0 (by omega), jhY, hg, jhR]
 generalize Nat.gcd n.natAbs d = g at *
 obtain ⟨k, rfl⟩ := hdv
 have e : (g : Int) * k / g = k := Int.mul_ediv_cancel_left _ (by omega)
 rw [e, Int.natAbs_mul, jhR, Nat.mul_div_cancel_left _ hgp]
 refine ⟨rfl, ?_, rfl⟩
 apply decide_eq_decide.2
 constructor
 ·intro h; exact Int.mul_neg_of_pos_of_neg (by omega) h
 ·intro h
  rcases Int.lt_or_le k 0 with h2 | h2
  ·exact h2
  ·have := jhB (a := (g : Int)) (by omega) h2; omega
theorem reduced_c (n : Int) (d : Nat) (hd0 : 0 < d) (hn : (mg 1000000000 n.natAbs).length ≤ 90000000) (hd : (mg 1000000000 d).length ≤ 90000000) : Called Tryz.prog 168 [itD n, .ints .u32 (mg 1000000000 d)] (rtD (Rat.divInt n d)) := by
 obtain ⟨p1, p2, p3⟩ := jcw n d hd0
 have hg := gcd_c n.natAbs d hn hd
 have hgp : 0 < Nat.gcd n.natAbs d := Nat.gcd_pos_of_pos_right _ hd0
 have hgl := jae (B := 1000000000) (by omega) (Nat.le_of_dvd hd0 (Nat.gcd_dvd_right n.natAbs d))
 have h1 := ja3 n.natAbs (Nat.gcd n.natAbs d) hgp hn (by omega)
 have h2 := ja3 d (Nat.gcd n.natAbs d) hgp hd (by omega)
 have h3 := jaT (n.natAbs / Nat.gcd n.natAbs d) (decide (n < 0))
 have e : itD (if decide (n < 0) = true then -((n.natAbs / Nat.gcd n.natAbs d : Nat) : Int) else ((n.natAbs / Nat.gcd n.natAbs d : Nat) : Int)) = itD (Rat.divInt n d).num := by
  congr 1
  rw [← p1, ← p2]
  by_cases h : (Rat.divInt n d).num < 0
  ·rw [decide_eq_true h, if_pos rfl]; omega
  ·rw [decide_eq_false h, if_neg (by simp)]; omega
 rw [e] at h3
 refine jaa tbOk 6 ⟨Tryz.func168, rfl, rfl, jhy rfl⟩ ?_
 (conv => whnf)
 refine V.st ?_
 repeat ((try ((with_reducible refine .ext ?_); (conv => whnf))); (with_reducible refine jab (r := ?_) ?_ ?_); rotate_left; (focus (first | exact (hg) | exact (h1) | exact (h2) | exact (h3))); (conv => whnf); refine V.st ?_)
 exact Fin.of (by unfold rtD; rw [p3])
theorem wof_c (n : Int) (h : InR .i64 n) : Called Tryz.prog 136 [.int .i64 n] (.str (decZ n)) := by
 have hi := itoa_c n
 refine jaa tbOk 6 ⟨Tryz.func136, rfl, rfl, jhy rfl⟩ ?_
 (conv => whnf)
 refine V.st ?_
 repeat ((try ((with_reducible refine .ext ?_); (conv => whnf))); (with_reducible refine jab (r := ?_) ?_ ?_); rotate_left; (focus (first | exact (hi))); (conv => whnf); refine V.st ?_)
 exact Fin.of rfl
theorem jgc (n d : Int) (hd : d ≠ 0) : Rat.divInt (if (decide (n < 0) != decide (d < 0)) = true then -(n.natAbs : Int) else (n.natAbs : Int)) (d.natAbs : Nat) = Rat.divInt n d := by
 rw [Rat.divInt_eq_divInt_iff (by omega) hd]
 by_cases h1 : n < 0 <;> by_cases h2 : d < 0
 ·simp only [h1, h2, decide_true, bne_self_eq_false, Bool.false_eq_true, if_false]
  rw [show (n.natAbs : Int) = -n by omega, show (d.natAbs : Int) = -d by omega, Int.neg_mul, Int.mul_neg]
 ·have e : (decide (n < 0) != decide (d < 0)) = true := by simp [h1, h2]
  rw [if_pos e, show (n.natAbs : Int) = -n by omega, show (d.natAbs : Int) = d by omega, Int.neg_neg]
 ·have e : (decide (n < 0) != decide (d < 0)) = true := by simp [h1, h2]
  rw [if_pos e, show (n.natAbs : Int) = n by omega, show (d.natAbs : Int) = -d by omega, Int.neg_mul, Int.mul_neg]
 ·have e : ¬ (decide (n < 0) != decide (d < 0)) = true := by simp [h1, h2]
  rw [if_neg e, show (n.natAbs : Int) = n by omega, show (d.natAbs : Int) = d by omega]
theorem jcq {s : List UInt8} (h : okW s = true) : s.length ≤ 601 ∧ (wval s).natAbs < 10 ^ 600 := by
 unfold okW okD at h
 simp only [jhx, Bool.not_eq_true', Bool.or_eq_false_iff, decide_eq_false_iff_not, List.all_eq_true] at h
 obtain ⟨⟨h1, h2⟩, h3⟩ := h
 have h4 := rdv_lt h2
 have h5 : ∀ k, (Go.Lib.trimPrefix s [45]).length ≤ k → 10 ^ (Go.Lib.trimPrefix s [45]).length ≤ 10 ^ k := fun k hk => jhS (by omega) hk
 constructor
 ·unfold Go.Lib.trimPrefix at h1
  split at h1
  ·rw [List.length_drop] at h1; simp at h1; omega
  ·omega
 ·have : (wval s).natAbs = rdv (Go.Lib.trimPrefix s [45]) := by unfold wval; split <;> simp
  rw [this]
  exact jhJ h4 (h5 600 (by omega))
theorem len9 {n : Nat} (h : n < 10 ^ 600) : (mg 1000000000 n).length ≤ 67 := jax (by omega) (jhJ h (by
 have h1 : ∀ k, (1000000000 : Nat) ^ k = 10 ^ (9 * k) := fun k => by rw [Nat.pow_mul]
 have h2 : ∀ a b : Nat, a ≤ b → (10 : Nat) ^ a ≤ 10 ^ b := fun a b hab => jhS (by omega) hab
 obtain ⟨m, hm⟩ : ∃ m, m = 9 * 67 := ⟨_, rfl⟩
 rw [h1 67, ← hm]
 exact h2 600 m (by omega)))
theorem make_c (s t : List UInt8) (hs : okW s = true) (ht : okW t = true) (hz : wval t ≠ 0) : Called Tryz.prog 135 [.str s, .str t] (frR (Rat.divInt (wval s) (wval t))) := by
 obtain ⟨ls, vs⟩ := jcq hs
 obtain ⟨lt, vt⟩ := jcq ht
 have c1 := jb3 s (by omega)
 have c2 := jb3 t (by omega)
 rw [hs, if_pos rfl] at c1
 rw [ht, if_pos rfl] at c2
 have n1 := jcB s hs
 have n2 := jcB t ht
 generalize wval s = n at *
 generalize wval t = d at *
 have hz1 := jcW d.natAbs
 have hs1 := jaT n.natAbs (decide (n < 0) != decide (d < 0))
 have hnl := len9 vs
 have hdl := len9 vt
 have e1 : (if (decide (n < 0) != decide (d < 0)) = true then -(n.natAbs : Int) else (n.natAbs : Int)).natAbs = n.natAbs := by split <;> omega
 have hr := reduced_c (if (decide (n < 0) != decide (d < 0)) = true then -(n.natAbs : Int) else (n.natAbs : Int)) d.natAbs (by omega) (by rw [e1]; omega) (by omega)
 obtain ⟨p1, p2, p3⟩ := jcw (if (decide (n < 0) != decide (d < 0)) = true then -(n.natAbs : Int) else (n.natAbs : Int)) d.natAbs (by omega)
 rw [jgc n d hz] at hr p1 p2 p3
 rw [e1] at p1 p3
 have hw := jdn (Rat.divInt n d) (by
  rw [p1]
  have := jae (B := 1000000000) (by omega) (jhT n.natAbs (n.natAbs.gcd d.natAbs))
  omega) (by
  rw [p3]
  have := jae (B := 1000000000) (by omega) (jhT d.natAbs (n.natAbs.gcd d.natAbs))
  omega)
 refine jaa tbOk 6 ⟨Tryz.func135, rfl, rfl, jhy rfl⟩ ?_
 (conv => whnf)
 refine V.st ?_
 repeat ((try ((with_reducible refine .ext ?_); (conv => whnf))); (with_reducible refine jab (r := ?_) ?_ ?_); rotate_left; (focus (first | exact (c1) | exact (c2) | exact (n1) | exact (n2) | exact (hz1))); (conv => whnf); refine V.st ?_)
 refine Cnd.no (decide_eq_false (by omega)) ?_
 (conv => whnf)
 refine V.st ?_
 refine ⟨(.take 0 (.take 1 (.take 2 (.take 3 (.take 4 (.take 5 (.take 6 (.take 8 (.take 9 (.ev (.cons 7 [9, 8] (.ev (.cons 10 [] (.ev (.cons 11 [] (.take 12 (.take 13 (.ev (.cons 14 [] (.take 15 (.done)) (.nil))))) (.nil))) (.nil))) (.nil)))))))))))), [], ⟨by kernel_rfl, by kernel_rfl, by kernel_rfl, by kernel_rfl⟩, .go (jag ?_)⟩
 (conv => whnf)
 refine V.st ?_
 repeat ((try ((with_reducible refine .ext ?_); (conv => whnf))); (with_reducible refine jab (r := ?_) ?_ ?_); rotate_left; (focus (first | exact (hs1) | exact (hr) | exact (hw))); (conv => whnf); refine V.st ?_)
 exact Fin.of rfl
theorem of_c (n d : Int) (hn : InR .i64 n) (hd : InR .i64 d) (hd0 : d ≠ 0) : Called Tryz.prog 97 [.int .i64 n, .int .i64 d] (frR (Rat.divInt n d)) := by
 have h1 := wof_c n hn
 have h2 := wof_c d hd
 simp only [V.InR, V.lo, V.hi] at hn hd
 have o1 := jca n (by have := jeC n.natAbs 19 (by omega) (by omega); omega)
 have o2 := jca d (by have := jeC d.natAbs 19 (by omega) (by omega); omega)
 have h3 := make_c (decZ n) (decZ d) o1 o2 (by rw [jbz]; exact hd0)
 rw [jbz, jbz] at h3
 refine jaa tbOk 6 ⟨Tryz.func97, rfl, rfl, jhy rfl⟩ ?_
 (conv => whnf)
 refine V.st ?_
 repeat ((try ((with_reducible refine .ext ?_); (conv => whnf))); (with_reducible refine jab (r := ?_) ?_ ?_); rotate_left; (focus (first | exact (h1) | exact (h2) | exact (h3))); (conv => whnf); refine V.st ?_)
 exact Fin.of rfl
end Go.Proofs.YtgjgpdceghjajaaGreatDoor
end
section
namespace Go.Nb
theorem fold_ge : ∀ (l : List UInt8) (acc : Nat), acc ≤ l.foldl (fun v c => v * 10 + (c.toNat - 48)) acc
 | [], _ => jhE _
 | c :: r, acc => by
  have := fold_ge r (acc * 10 + (c.toNat - 48))
  simp only [List.foldl_cons]
  omega
theorem jco : ∀ (l : List UInt8) (acc : Nat), (∀ c ∈ l, isDig c = true) → l.foldl (fun v c => v * 10 + (c.toNat - 48)) acc ≤ 18446744073709551615 →
  Go.Lib.parseUintM 18446744073709551615 acc l = .ok (l.foldl (fun v c => v * 10 + (c.toNat - 48)) acc)
 | [], acc, _, _ => rfl
 | c :: r, acc, hd, hl => by
  have h1 := fold_ge r (acc * 10 + (c.toNat - 48))
  have h2 := hd c (by simp)
  unfold isDig at h2
  rw [decide_eq_true_eq] at h2
  simp only [List.foldl_cons] at hl ⊢
  unfold Go.Lib.parseUintM
  rw [if_pos h2, if_neg (by omega), if_neg (by omega)]
  exact jco r _ (fun c hc => hd c (by simp [hc])) hl
theorem jeL (n : Nat) (h : n ≤ 18446744073709551615) : Go.Lib.parseUintB 64 (dec n) = .ok n := by
 unfold Go.Lib.parseUintB
 have hne : dec n ≠ [] := by
  by_cases h10 : n < 10
  ·rw [jbp h10]; simp
  ·rw [jcg (by omega)]; simp
 rw [if_neg hne]
 have hv : (dec n).foldl (fun v c => v * 10 + (c.toNat - 48)) 0 = n := rdv_dec n
 have := jco (dec n) 0 (jfH n) (by omega)
 rw [hv] at this
 exact this
theorem jfs (z : Int) (h1 : -9223372036854775808 ≤ z) (h2 : z ≤ 9223372036854775807) : Go.Lib.parseIntB 64 (decZ z) = .ok z := by
 have hu := jeL z.natAbs (by omega)
 unfold decZ
 by_cases hz : z < 0
 ·rw [if_pos hz, Go.Lib.parseIntB_minus, hu]
  unfold Go.Lib.signedC
  simp only
  rw [if_neg (by omega)]
  congr 1
  omega
 ·rw [if_neg hz]
  have hne : dec z.natAbs ≠ [] := by
   by_cases h10 : z.natAbs < 10
   ·rw [jbp h10]; simp
   ·rw [jcg (by omega)]; simp
  have hd := jfH z.natAbs
  revert hu hd hne
  generalize dec z.natAbs = l
  intro hu hne hd
  cases l with
  | nil => exact absurd rfl hne
  | cons c r =>
   have hc := hd c (by simp)
   unfold isDig at hc
   rw [decide_eq_true_eq] at hc
   rw [Go.Lib.parseIntB_plain 64 c r (by omega) (by omega), hu]
   unfold Go.Lib.signlessC
   simp only
   rw [if_neg (by omega)]
   congr 1
   omega
theorem decZ_len (z : Int) (h1 : -9223372036854775808 ≤ z) (h2 : z ≤ 9223372036854775807) : (decZ z).length ≤ 20 := by
 have := (jbg 19 z.natAbs (by omega) (by omega)).1
 unfold decZ
 split
 ·simp only [List.length_cons]; omega
 ·omega
end Go.Nb
namespace Go.Proofs.YtgjgpdceghjajaaGreatDoor
open Go Go.V Go.Nb Go.RowKit Go.Proofs
set_option maxHeartbeats 4000000
set_option maxRecDepth 1000000
theorem wcheck_k (z : Int) (h1 : -9223372036854775808 ≤ z) (h2 : z ≤ 9223372036854775807) (w : World) (hg : GlW w) : Calls Tryz.prog 144 #[.string ⟨(decZ z).toArray⟩] w fun e w' => e = .returned (.int .i64 0) ∧ RowKit.Below w.heap.size w w' := by
 have hl := decZ_len z h1 h2
 have hd : (dec z.natAbs).length ≤ 600 := jhL (jbg 19 z.natAbs (by omega) (by omega)).1 (by omega)
 have hc := jb3 (decZ z) (by omega)
 rw [if_pos (jca z hd)] at hc
 refine (jeH hc w hg (vs := [.string ⟨(decZ z).toArray⟩]) ?_).mono ?_
 ·simp only [DenL, Den]; exact ⟨_, _, rfl, ⟨rfl, by omega⟩, rfl⟩
 ·rintro e w' ⟨v, h', rfl, hv, hb⟩
  simp only [Den] at hv
  rw [hv.1]
  exact ⟨rfl, hb⟩
theorem int_w (z : Int) (h1 : -9223372036854775808 ≤ z) (h2 : z ≤ 9223372036854775807) (w : World) (hg : GlW w) : Calls Tryz.prog 112 #[.string ⟨(decZ z).toArray⟩] w fun e w' => e = .returned (.tuple #[.int .i64 z, .int .i64 0]) ∧ RowKit.Below w.heap.size w w' := by
 have hl := decZ_len z h1 h2
 have hc := wcheck_k z h1 h2 w hg
 have hp := jfs z h1 h2
 have hsz : (⟨(decZ z).toArray⟩ : ByteArray).size ≤ 9223372036854775806 := by simp [ByteArray.size]; omega
 have hpi := fun w => Tryz.strconv_ParseInt_10_at64_ok ⟨(decZ z).toArray⟩ hsz z (by simpa using hp) w
 go_enter Tryz.func112, Tryz.ntmps112
 go_wp2_with (go_at_call 144; refine hc.mono ?_)
 rintro e w1 ⟨rfl, hb1⟩
 go_wp2_with (go_at_call 149; refine (hpi w1).mono ?_)
 rintro e w2 ⟨rfl, hw⟩
 have hb2 : RowKit.Below w.heap.size w w2 := by
  rcases hw with rfl | ⟨t, rfl⟩
  ·exact hb1
  ·exact hb1.trans ((Lib.bytesWorld_below w1 _ _).mono hb1.size)
 go_wp2
 go_ret2
 exact ⟨rfl, hb2⟩
theorem int_c (z : Int) (h1 : -9223372036854775808 ≤ z) (h2 : z ≤ 9223372036854775807) : Called Tryz.prog 112 [.str (decZ z)] (.tup [.int .i64 z, .int .i64 0]) := by
 refine jaS Tryz.func112 rfl rfl rfl fun w hp vs ha hd => ?_
 simp only [DenL, Den] at hd
 obtain ⟨v, _, rfl, ⟨rfl, _⟩, rfl⟩ := hd
 refine (int_w z h1 h2 w ha.blk).mono fun e w' ⟨he, hw⟩ => ⟨⟨_, he, fun hp => ?_⟩, hw⟩
 simp only [Den, DenL]
 exact ⟨_, rfl, _, _, rfl, ⟨rfl, by simp only [InR, V.lo, V.hi]; omega⟩, _, _, rfl, ⟨rfl, by constructor <;> decide⟩, rfl⟩
end Go.Proofs.YtgjgpdceghjajaaGreatDoor
end
